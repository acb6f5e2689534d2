/- Proved: what functions of the given program compute (used by the theorem of this claim). Conditions: none but those that each theorem states. -/
import Derived.Test.YtgilikgghknbhaaDoorMSxApp2
import Derived.Test.YtgilikgghknbhaaDoorMSxTake
import Derived.Test.YtgilikgghknbhaaDoorProg
import Derived.Test.YtgilikgghknbhaaDoorChecked
import Derived.Test.YtgilikgghknbhaaDoorMSxRange3
set_option linter.unusedVariables false
set_option linter.unusedSimpArgs false
set_option linter.unnecessarySimpa false

namespace Go.Sx
def kTab:List UInt32:=[0x428a2f98,0x71374491,0xb5c0fbcf,0xe9b5dba5,0x3956c25b,0x59f111f1,0x923f82a4,0xab1c5ed5,
 0xd807aa98,0x12835b01,0x243185be,0x550c7dc3,0x72be5d74,0x80deb1fe,0x9bdc06a7,0xc19bf174,
 0xe49b69c1,0xefbe4786,0x0fc19dc6,0x240ca1cc,0x2de92c6f,0x4a7484aa,0x5cb0a9dc,0x76f988da,
 0x983e5152,0xa831c66d,0xb00327c8,0xbf597fc7,0xc6e00bf3,0xd5a79147,0x06ca6351,0x14292967,
 0x27b70a85,0x2e1b2138,0x4d2c6dfc,0x53380d13,0x650a7354,0x766a0abb,0x81c2c92e,0x92722c85,
 0xa2bfe8a1,0xa81a664b,0xc24b8b70,0xc76c51a3,0xd192e819,0xd6990624,0xf40e3585,0x106aa070,
 0x19a4c116,0x1e376c08,0x2748774c,0x34b0bcb5,0x391c0cb3,0x4ed8aa4a,0x5b9cca4f,0x682e6ff3,
 0x748f82ee,0x78a5636f,0x84c87814,0x8cc70208,0x90befffa,0xa4506ceb,0xbef9a3f7,0xc67178f2]
def iv:List UInt32:=[0x6a09e667,0xbb67ae85,0x3c6ef372,0xa54ff53a,0x510e527f,0x9b05688c,0x1f83d9ab,0x5be0cd19]
def E5(b:List UInt8):D:=.sl none 1 (b.map D.u8)
def z5(b:List UInt8):D:=.arr 32 1 (b.map D.u8)
def rotl(x:UInt32)(k:Int):UInt32:=c5 x (UInt64.ofInt k&&&31).toNat|||u0 x (32-(UInt64.ofInt k&&&31)).toNat
def right(x:UInt32)(n:Int):UInt32:=rotl x (wr (0-n))
def WI(p:List UInt8)(t:Nat)(w:List UInt32):Nat->List UInt32
 | 0=>w
 | i+1=>(WI p t w i).set t (c5 (WI p t w i)[t]! 8|||(p[4*t+i]!).toUInt32)
def nextW(w:List UInt32)(t:Nat):UInt32:=
 w[t-16]!+w[t-7]!+(right w[t-15]! 7^^^right w[t-15]! 18^^^u0 w[t-15]! 3)+(right w[t-2]! 17^^^right w[t-2]! 19^^^u0 w[t-2]! 10)
def sched(p:List UInt8):Nat->List UInt32
 | 0=>List.replicate 64 0
 | t+1=>if t<16 then WI p t (sched p t) 4 else(sched p t).set t (nextW (sched p t) t)
structure W8 where
 a:UInt32
 b:UInt32
 c:UInt32
 d:UInt32
 e:UInt32
 f:UInt32
 g:UInt32
 l:UInt32
def W8.list(v:W8):List UInt32:=[v.a,v.b,v.c,v.d,v.e,v.f,v.g,v.l]
def W8.of(h:List UInt32):W8:=⟨h[0]!,h[1]!,h[2]!,h[3]!,h[4]!,h[5]!,h[6]!,h[7]!⟩
def one(v:W8)(k w:UInt32):UInt32:=v.l+(right v.e 6^^^right v.e 11^^^right v.e 25)+(v.g^^^(v.e&&&(v.f^^^v.g)))+k+w
def two(v:W8):UInt32:=(right v.a 2^^^right v.a 13^^^right v.a 22)+(v.a&&&v.b|||v.c&&&(v.a|||v.b))
def rnd(v:W8)(k w:UInt32):W8:=⟨one v k w+two v,v.a,v.b,v.c,v.d+one v k w,v.e,v.f,v.g⟩
def rds(h w:List UInt32):Nat->W8
 | 0=>W8.of h
 | t+1=>rnd (rds h w t) kTab[t]! w[t]!
def QJ(h l:List UInt32):Nat->List UInt32
 | 0=>h
 | i+1=>(QJ h l i).set i ((QJ h l i)[i]!+l[i]!)
def comp(h:List UInt32)(p:List UInt8):List UInt32:=QJ h (rds h (sched p 64) 64).list 8
structure ShaS where
 begun:Bool
 h:List UInt32
 piece:List UInt8
 n:UInt64
def MZ(s:ShaS):D:=.agg [.bool s.begun,.arr 8 1 (s.h.map D.u32),.arr 64 1 (s.piece.map D.u8),.u64 s.n]
def ShaS.zero:ShaS:=⟨false,List.replicate 8 0,List.replicate 64 0,0⟩
def ShaS.start:ShaS:=⟨true,iv,List.replicate 64 0,0⟩
structure ShaS.ok(s:ShaS):Prop where
 h:s.h.length=8
 p:s.piece.length=64
theorem ShaS.start_ok:ShaS.start.ok:=⟨by simp[ShaS.start,iv],by simp[ShaS.start]⟩
theorem KT(s:ShaS):Frs (MZ s):=.agg _ (ZH (.bool _) (ZH (.arr _ _ _ (u2 fun _=>.u32 _)) (ZH (.arr _ _ _ (u2 fun _=>.u8 _)) (ZH (.u64 _) frs_nil))))
theorem d9(b:List UInt8):Frs (z5 b):=.arr _ _ _ (u2 fun _=>.u8 _)
theorem RH(p:List UInt8)(t:Nat)(w:List UInt32)(i:Nat):(WI p t w i).length=w.length:=by
 induction i with
 | zero=>rfl
 | succ i ih=>simp[WI,ih]
theorem DJ(p:List UInt8)(t:Nat):(sched p t).length=64:=by
 induction t with
 | zero=>simp[sched]
 | succ t ih=>simp only[sched];split<;>simp[RH,ih]
theorem ZS(h l:List UInt32)(i:Nat):(QJ h l i).length=h.length:=by
 induction i with
 | zero=>rfl
 | succ i ih=>simp[QJ,ih]
theorem comp_len(h:List UInt32)(p:List UInt8):(comp h p).length=h.length:=ZS ..
def mS(s:ShaS):Nat:=(s.n%64).toNat
def kS(s:ShaS)(b:List UInt8):Nat:=min b.length (64-mS s)
def L7(s:ShaS)(b:List UInt8):List UInt8:=s.piece.take (mS s)++b.take (kS s b)++s.piece.drop (mS s+kS s b)
def nS(s:ShaS)(b:List UInt8):UInt64:=s.n+UInt64.ofInt (kS s b:Nat)
def N7(s:ShaS)(b:List UInt8):ShaS:=⟨s.begun,bif nS s b%64==0 then comp s.h (L7 s b) else s.h,L7 s b,nS s b⟩
theorem JD(s:ShaS):mS s<64:=by
 unfold mS;rw[UInt64.toNat_mod];exact Nat.mod_lt _ (by decide)
theorem kS_le(s:ShaS)(b:List UInt8):kS s b<=b.length:=Nat.min_le_left _ _
theorem f8(s:ShaS)(b:List UInt8)(h:0<b.length):0<kS s b:=by have:=JD s;unfold kS;omega
theorem BA(s:ShaS)(b:List UInt8):mS s+kS s b<=64:=by have:=JD s;unfold kS;omega
def GA(s:ShaS)(b:List UInt8):ShaS:=
 if h:b.length=0 then s else GA (N7 s b) (b.drop (kS s b))
termination_by b.length
decreasing_by
 have:=f8 s b (by omega);simp only[List.length_drop];omega
theorem W9(s:ShaS)(b:List UInt8)(h:b.length=0):GA s b=s:=by rw[GA];simp[h]
theorem N3(s:ShaS)(b:List UInt8)(h:b.length≠0):GA s b=GA (N7 s b) (b.drop (kS s b)):=by rw[GA];simp[h]
def E6(s:ShaS)(b:List UInt8):ShaS:=GA (bif s.begun then s else ShaS.start) b
theorem UV(s:ShaS)(b:List UInt8)(h:s.ok):(L7 s b).length=64:=by
 have h1:=BA s b;have h2:=kS_le s b;have h3:=h.p;simp[L7];omega
theorem UE(s:ShaS)(b:List UInt8)(h:s.ok):(N7 s b).ok:=by
 refine⟨?_,UV s b h⟩;simp only[N7]
 cases (nS s b%64==0) with
 | true=>simp only[cond_true,comp_len];exact h.h
 | false=>exact h.h
theorem SF(s:ShaS)(b:List UInt8)(h:s.ok):(GA s b).ok:=by
 induction hn:b.length using Nat.strongRecOn generalizing s b with
 | _ n ih=>
  by_cases h0:b.length=0
  ·rw[W9 _ _ h0];exact h
  ·rw[N3 _ _ h0];have:=f8 s b (by omega);exact ih _ (by simp;omega) _ _ (UE s b h) rfl
theorem UK(s:ShaS)(b:List UInt8)(h:s.ok):(E6 s b).ok:=by
 unfold E6
 cases s.begun with
 | true=>exact SF _ _ h
 | false=>exact SF _ _ ShaS.start_ok
def t5(s:ShaS):Nat:=(120-mS s)%64
def NM:Nat->ShaS->ShaS
 | 0,s=>s
 | k+1,s=>NM k (E6 s [0])
def N8(n:UInt64):Nat->List UInt8
 | 0=>List.replicate 8 0
 | i+1=>(N8 n i).set i (o6 n (56-8*i)).toUInt8
theorem KP(n:UInt64)(i:Nat):(N8 n i).length=8:=by
 induction i with
 | zero=>simp[N8]
 | succ i ih=>simp[N8,ih]
def YZ(h:List UInt32):Nat->List UInt8
 | 0=>List.replicate 32 0
 | i+1=>(YZ h i).set i (u0 h[i/4]! (24-8*(i%4))).toUInt8
theorem NA(h:List UInt32)(i:Nat):(YZ h i).length=32:=by
 induction i with
 | zero=>simp[YZ]
 | succ i ih=>simp[YZ,ih]
def pad1(s:ShaS):ShaS:=E6 s [128]
def EI(s:ShaS):ShaS:=NM (t5 (pad1 s)) (pad1 s)
def JI(s:ShaS):ShaS:=E6 (EI s) (N8 (s.n*8) 8)
def endS(s:ShaS):List UInt8:=YZ (JI s).h 32
def S9(b:List UInt8):List UInt8:=endS (E6 ShaS.start b)
def S7(b:List UInt8):List UInt8:=S9 (S9 b)
theorem endS_len(s:ShaS):(endS s).length=32:=NA _ _
theorem UA(b:List UInt8):(S9 b).length=32:=endS_len _
theorem MM(s:ShaS)(b:List UInt8):(N7 s b).begun=s.begun:=rfl
theorem IF(s:ShaS)(b:List UInt8):(GA s b).begun=s.begun:=by
 induction hn:b.length using Nat.strongRecOn generalizing s b with
 | _ n ih=>
  by_cases h0:b.length=0
  ·rw[W9 _ _ h0]
  ·rw[N3 _ _ h0];have:=f8 s b (by omega);rw[ih _ (by simp;omega) _ _ rfl,MM]
theorem GE(s:ShaS)(b:List UInt8):(E6 s b).begun=true:=by
 unfold E6;rw[IF]
 cases h:s.begun with
 | true=>simpa using h
 | false=>rfl
theorem addS_one(s:ShaS)(x:UInt8)(h:s.begun=true):E6 s [x]=N7 s [x]:=by
 unfold E6
 have hk:kS s [x]=1:=by have:=JD s;simp only[kS,List.length_singleton];omega
 rw[h,cond_true,N3 _ _ (by simp),W9 _ _ (by simp[hk])]
theorem mS_one(s:ShaS)(x:UInt8)(h:s.begun=true):mS (E6 s [x])=(mS s+1)%64:=by
 rw[addS_one s x h]
 have hk:kS s [x]=1:=by have:=JD s;simp only[kS,List.length_singleton];omega
 have e:UInt64.ofInt ((1:Nat):Int)=1:=rfl;have e1:(1:UInt64).toNat=1:=rfl;have e2:(64:UInt64).toNat=64:=rfl;simp only[mS,N7,nS,hk,e,UInt64.toNat_mod,UInt64.toNat_add,e1,e2];omega
theorem mS_ne{s:ShaS}(h:(s.n%64 != 56)=true):mS s≠56:=by
 intro he;have:s.n%64=56:=UInt64.toNat_inj.1 he;simp[this] at h
theorem mS_eq{s:ShaS}(h:(s.n%64 != 56)=false):mS s=56:=by
 have:s.n%64=56:=by simpa using h
 unfold mS;rw[this];rfl
theorem pad_step(s:ShaS)(hb:s.begun=true)(h:mS s≠56):NM (t5 s) s=NM (t5 (E6 s [0])) (E6 s [0]):=by
 have h1:=mS_one s 0 hb;have h2:=JD s
 have:t5 s=t5 (E6 s [0])+1:=by unfold t5;omega
 rw[this];rfl
theorem pad_less(s:ShaS)(hb:s.begun=true)(h:mS s≠56):t5 (E6 s [0])<t5 s:=by
 have h1:=mS_one s 0 hb;have h2:=JD s;unfold t5;omega
theorem pad_end(s:ShaS)(h:mS s=56):t5 s=0:=by unfold t5;omega
def rright(x:UInt32)(n:UInt64):UInt32:=u0 x n.toNat|||c5 x (32-n).toNat
def w4(p:List UInt8)(t:Nat):UInt32:=
 c5 (p[4*t]!).toUInt32 24|||c5 (p[4*t+1]!).toUInt32 16|||c5 (p[4*t+2]!).toUInt32 8|||(p[4*t+3]!).toUInt32
def nextR(w:List UInt32)(t:Nat):UInt32:=
 (rright w[t-2]! 17^^^rright w[t-2]! 19^^^u0 w[t-2]! 10)+w[t-7]!+(rright w[t-15]! 7^^^rright w[t-15]! 18^^^u0 w[t-15]! 3)+w[t-16]!
def wR(p:List UInt8):Nat->List UInt32
 | 0=>[]
 | t+1=>wR p t++[if t<16 then w4 p t else nextR (wR p t) t]
theorem CE(p:List UInt8)(t:Nat):(wR p t).length=t:=by
 induction t with
 | zero=>rfl
 | succ t ih=>simp[wR,ih]
def oneR(l:List UInt32)(k w:UInt32):UInt32:=
 l[7]!+(rright l[4]! 6^^^rright l[4]! 11^^^rright l[4]! 25)+(l[4]!&&&l[5]! ^^^ ~~~l[4]!&&&l[6]!)+k+w
def twoR(l:List UInt32):UInt32:=(rright l[0]! 2^^^rright l[0]! 13^^^rright l[0]! 22)+(l[0]!&&&l[1]!^^^l[0]!&&&l[2]!^^^l[1]!&&&l[2]!)
def rndR(l:List UInt32)(k w:UInt32):List UInt32:=[oneR l k w+twoR l,l[0]!,l[1]!,l[2]!,l[3]!+oneR l k w,l[4]!,l[5]!,l[6]!]
def H4(h w:List UInt32):Nat->List UInt32
 | 0=>h
 | t+1=>rndR (H4 h w t) kTab[t]! w[t]!
theorem rdsR_len(h w:List UInt32)(t:Nat)(hh:h.length=8):(H4 h w t).length=8:=by
 cases t with
 | zero=>exact hh
 | succ t=>rfl
def RS(h:List UInt32)(p:List UInt8):List UInt32:=QJ h (H4 h (wR p 64) 64) 8
theorem VT(h:List UInt32)(p:List UInt8):(RS h p).length=h.length:=ZS ..
def zR(b:List UInt8):Nat:=(119-b.length%64)%64
def R6(n:UInt64):Nat->List UInt8
 | 0=>[]
 | j+1=>R6 n j++[(o6 n (UInt64.ofInt (wr (8*(7-((j:Nat):Int))))).toNat).toUInt8]
theorem KJ(n:UInt64)(t:Nat):(R6 n t).length=t:=by
 induction t with
 | zero=>rfl
 | succ t ih=>simp[R6,ih]
def JM(b:List UInt8):UInt64:=UInt64.ofInt (b.length:Nat)*8
def w6(b:List UInt8):List UInt8:=b++[128]++List.replicate (zR b) 0++R6 (JM b) 8
theorem DQ(b:List UInt8):(w6 b).length=b.length+9+zR b:=by simp[w6,KJ];omega
def pieces(b:List UInt8):Nat:=(b.length+9+zR b)/64
theorem QY(b:List UInt8):(w6 b).length=64*pieces b:=by rw[DQ];unfold pieces zR;omega
def hR(all:List UInt8):Nat->List UInt32
 | 0=>iv
 | m+1=>RS (hR all m) ((all.drop (64*m)).take 64)
theorem hR_len(all:List UInt8)(m:Nat):(hR all m).length=8:=by
 induction m with
 | zero=>rfl
 | succ m ih=>simp only[hR,VT,ih]
def YQ(h:List UInt32):Nat->List UInt8
 | 0=>List.replicate 32 0
 | i+1=>(YQ h i).set i (u0 h[i/4]! (UInt64.ofInt ((24-8*(i%4):Nat):Int)).toNat).toUInt8
theorem NO(h:List UInt32)(i:Nat):(YQ h i).length=32:=by
 induction i with
 | zero=>simp[YQ]
 | succ i ih=>simp[YQ,ih]
def JA(b:List UInt8):List UInt8:=YQ (hR (w6 b) (pieces b)) 32
def S8(b:List UInt8):List UInt8:=JA (JA b)
theorem T0(b:List UInt8):(JA b).length=32:=NO _ _
end Go.Sx

namespace Go.Sx
open Go.Proofs Go.Proofs.Tryd
set_option maxRecDepth 100000
instance:IkT prog 2 .i64:=⟨O⟩
instance:ZrT prog 2 (.int 0):=⟨_,_,O,O,by decide,O⟩
instance:LdT prog 3 1 false:=⟨_,_,O,O,O,O⟩
instance:ElT prog 3 1 8:=⟨_,_,O,O,O,O,O,by decide,O⟩
instance:IkT prog 3 .i64:=⟨O⟩
instance:ZrT prog 3 (.int 0):=⟨_,_,O,O,by decide,O⟩
instance:LdT prog 4 1 false:=⟨_,_,O,O,O,O⟩
instance:BoT prog 4:=⟨O⟩
instance:ZrT prog 4 (.bool false):=⟨_,_,O,O,by decide,O⟩
instance:LdT prog 5 1 false:=⟨_,_,O,O,O,O⟩
instance:ElT prog 5 1 1:=⟨_,_,O,O,O,O,O,by decide,O⟩
instance:IkT prog 5 .u8:=⟨O⟩
instance:ZrT prog 5 (.u8 0):=⟨_,_,O,O,by decide,O⟩
instance:IkT prog 6 .u8:=⟨O⟩
instance:ZrT prog 6 (.u8 0):=⟨_,_,O,O,by decide,O⟩
instance:ZrT prog 7 (.agg [.int 0,.int 0,.bool false,.u8 0]):=⟨_,_,O,O,by decide,O⟩
instance:BsT prog 7 ([.int 0,.int 0,.bool false,.u8 0]):=⟨_,_,_,O,O,O,O,by decide⟩
instance:ZrT prog 8 (.agg [.int 0,.int 0,.bool false,.u8 0]):=⟨_,_,O,O,by decide,O⟩
instance:BsT prog 8 ([.int 0,.int 0,.bool false,.u8 0]):=⟨_,_,_,O,O,O,O,by decide⟩
instance:ZrT prog 9 (.str []):=⟨_,_,O,O,by decide,O⟩
instance:ZrT prog 10 (.str []):=⟨_,_,O,O,by decide,O⟩
instance:ZrT prog 11 (.str []):=⟨_,_,O,O,by decide,O⟩
instance:IkT prog 12 .u64:=⟨O⟩
instance:ZrT prog 12 (.u64 0):=⟨_,_,O,O,by decide,O⟩
instance:ZrT prog 13 (.agg [.str [],.u64 0]):=⟨_,_,O,O,by decide,O⟩
instance:BsT prog 13 ([.str [],.u64 0]):=⟨_,_,_,O,O,O,O,by decide⟩
instance:ZrT prog 14 (.agg [.str [],.u64 0]):=⟨_,_,O,O,by decide,O⟩
instance:BsT prog 14 ([.str [],.u64 0]):=⟨_,_,_,O,O,O,O,by decide⟩
instance:ZrT prog 18 (.agg [.nilp]):=⟨_,_,O,O,by decide,O⟩
instance:BsT prog 18 ([.nilp]):=⟨_,_,_,O,O,O,O,by decide⟩
instance:ZrT prog 19 (.agg [.nilp]):=⟨_,_,O,O,by decide,O⟩
instance:BsT prog 19 ([.nilp]):=⟨_,_,_,O,O,O,O,by decide⟩
instance:IkT prog 21 .i32:=⟨O⟩
instance:ZrT prog 21 (.ik .i32 0):=⟨_,_,O,O,by decide,O⟩
instance:SlT prog 23 77:=⟨O⟩
instance:LdT prog 24 1 false:=⟨_,_,O,O,O,O⟩
instance:ElT prog 24 1 24:=⟨_,_,O,O,O,O,O,by decide,O⟩
instance:SlT prog 24 5:=⟨O⟩
instance:ZrT prog 25 (.arr 32 1 ((List.replicate 32 0).map D.u8)):=⟨_,_,O,O,by decide,O⟩
instance:LdT prog 26 32 true:=⟨_,_,O,O,O,O⟩
instance:ElT prog 26 32 32:=⟨_,_,O,O,O,O,O,by decide,O⟩
instance:ArT prog 26 32 5:=⟨O⟩
instance:EqT prog 26:=⟨by decide +kernel⟩
instance:ZrT prog 26 (.arr 32 1 ((List.replicate 32 0).map D.u8)):=⟨_,_,O,O,by decide,O⟩
instance:SlT prog 30 72:=⟨O⟩
instance:LdT prog 32 1 false:=⟨_,_,O,O,O,O⟩
instance:ElT prog 32 1 4:=⟨_,_,O,O,O,O,O,by decide,O⟩
instance:IkT prog 32 .u32:=⟨O⟩
instance:ZrT prog 32 (.u32 0):=⟨_,_,O,O,by decide,O⟩
instance:LdT prog 33 1 false:=⟨_,_,O,O,O,O⟩
instance:SlT prog 33 188:=⟨O⟩
instance:ZrT prog 34 (.agg [.u32 0,.arr 32 1 ((List.replicate 32 0).map D.u8),.arr 32 1 ((List.replicate 32 0).map D.u8),.u32 0,.u32 0,.u32 0]):=⟨_,_,O,O,by decide,O⟩
instance:BsT prog 34 ([.u32 0,.arr 32 1 ((List.replicate 32 0).map D.u8),.arr 32 1 ((List.replicate 32 0).map D.u8),.u32 0,.u32 0,.u32 0]):=⟨_,_,_,O,O,O,O,by decide⟩
instance:LdT prog 35 68 true:=⟨_,_,O,O,O,O⟩
instance:ElT prog 35 68 80:=⟨_,_,O,O,O,O,O,by decide,O⟩
instance:FdT prog 35 0 0:=⟨_,_,_,O,O,O,O,by decide⟩
instance:FdT prog 35 1 1:=⟨_,_,_,O,O,O,O,by decide⟩
instance:FdT prog 35 2 33:=⟨_,_,_,O,O,O,O,by decide⟩
instance:FdT prog 35 3 65:=⟨_,_,_,O,O,O,O,by decide⟩
instance:FdT prog 35 4 66:=⟨_,_,_,O,O,O,O,by decide⟩
instance:FdT prog 35 5 67:=⟨_,_,_,O,O,O,O,by decide⟩
instance:ZrT prog 35 (.agg [.u32 0,.arr 32 1 ((List.replicate 32 0).map D.u8),.arr 32 1 ((List.replicate 32 0).map D.u8),.u32 0,.u32 0,.u32 0]):=⟨_,_,O,O,by decide,O⟩
instance:BsT prog 35 ([.u32 0,.arr 32 1 ((List.replicate 32 0).map D.u8),.arr 32 1 ((List.replicate 32 0).map D.u8),.u32 0,.u32 0,.u32 0]):=⟨_,_,_,O,O,O,O,by decide⟩
instance:ZrT prog 36 (.agg [.u32 0,.int 0,.u32 0,.nils,.agg [.u32 0,.arr 32 1 ((List.replicate 32 0).map D.u8),.arr 32 1 ((List.replicate 32 0).map D.u8),.u32 0,.u32 0,.u32 0]]):=⟨_,_,O,O,by decide,O⟩
instance:BsT prog 36 ([.u32 0,.int 0,.u32 0,.nils,.agg [.u32 0,.arr 32 1 ((List.replicate 32 0).map D.u8),.arr 32 1 ((List.replicate 32 0).map D.u8),.u32 0,.u32 0,.u32 0]]):=⟨_,_,_,O,O,O,O,by decide⟩
instance:LdT prog 37 72 true:=⟨_,_,O,O,O,O⟩
instance:FdT prog 37 0 0:=⟨_,_,_,O,O,O,O,by decide⟩
instance:FdT prog 37 1 1:=⟨_,_,_,O,O,O,O,by decide⟩
instance:FdT prog 37 2 2:=⟨_,_,_,O,O,O,O,by decide⟩
instance:FdT prog 37 3 3:=⟨_,_,_,O,O,O,O,by decide⟩
instance:FdT prog 37 4 4:=⟨_,_,_,O,O,O,O,by decide⟩
instance:ZrT prog 37 (.agg [.u32 0,.int 0,.u32 0,.nils,.agg [.u32 0,.arr 32 1 ((List.replicate 32 0).map D.u8),.arr 32 1 ((List.replicate 32 0).map D.u8),.u32 0,.u32 0,.u32 0]]):=⟨_,_,O,O,by decide,O⟩
instance:BsT prog 37 ([.u32 0,.int 0,.u32 0,.nils,.agg [.u32 0,.arr 32 1 ((List.replicate 32 0).map D.u8),.arr 32 1 ((List.replicate 32 0).map D.u8),.u32 0,.u32 0,.u32 0]]):=⟨_,_,_,O,O,O,O,by decide⟩
instance:LdT prog 41 1 false:=⟨_,_,O,O,O,O⟩
instance:SlT prog 41 26:=⟨O⟩
instance:LdT prog 43 1 false:=⟨_,_,O,O,O,O⟩
instance:SlT prog 43 58:=⟨O⟩
instance:ZrT prog 43 (.nils):=⟨_,_,O,O,by decide,O⟩
instance:SlT prog 46 62:=⟨O⟩
instance:LdT prog 48 1 false:=⟨_,_,O,O,O,O⟩
instance:ElT prog 48 1 8:=⟨_,_,O,O,O,O,O,by decide,O⟩
instance:IkT prog 48 .u64:=⟨O⟩
instance:ZrT prog 48 (.u64 0):=⟨_,_,O,O,by decide,O⟩
instance:LdT prog 51 1 false:=⟨_,_,O,O,O,O⟩
instance:SlT prog 51 67:=⟨O⟩
instance:LdT prog 52 1 false:=⟨_,_,O,O,O,O⟩
instance:SlT prog 52 64:=⟨O⟩
instance:ZrT prog 53 (.agg [.u32 0,.nils,.nils,.u32 0]):=⟨_,_,O,O,by decide,O⟩
instance:BsT prog 53 ([.u32 0,.nils,.nils,.u32 0]):=⟨_,_,_,O,O,O,O,by decide⟩
instance:LdT prog 54 4 true:=⟨_,_,O,O,O,O⟩
instance:ElT prog 54 4 64:=⟨_,_,O,O,O,O,O,by decide,O⟩
instance:FdT prog 54 0 0:=⟨_,_,_,O,O,O,O,by decide⟩
instance:FdT prog 54 1 1:=⟨_,_,_,O,O,O,O,by decide⟩
instance:FdT prog 54 2 2:=⟨_,_,_,O,O,O,O,by decide⟩
instance:FdT prog 54 3 3:=⟨_,_,_,O,O,O,O,by decide⟩
instance:ZrT prog 54 (.agg [.u32 0,.nils,.nils,.u32 0]):=⟨_,_,O,O,by decide,O⟩
instance:BsT prog 54 ([.u32 0,.nils,.nils,.u32 0]):=⟨_,_,_,O,O,O,O,by decide⟩
instance:ZrT prog 55 (.agg [.int 0,.arr 32 1 ((List.replicate 32 0).map D.u8),.int 0,.arr 32 1 ((List.replicate 32 0).map D.u8),.nils,.nils,.agg [.u32 0,.nils,.nils,.u32 0]]):=⟨_,_,O,O,by decide,O⟩
instance:BsT prog 55 ([.int 0,.arr 32 1 ((List.replicate 32 0).map D.u8),.int 0,.arr 32 1 ((List.replicate 32 0).map D.u8),.nils,.nils,.agg [.u32 0,.nils,.nils,.u32 0]]):=⟨_,_,_,O,O,O,O,by decide⟩
instance:ZrT prog 56 (.agg [.int 0,.arr 32 1 ((List.replicate 32 0).map D.u8),.int 0,.arr 32 1 ((List.replicate 32 0).map D.u8),.nils,.nils,.agg [.u32 0,.nils,.nils,.u32 0]]):=⟨_,_,O,O,by decide,O⟩
instance:BsT prog 56 ([.int 0,.arr 32 1 ((List.replicate 32 0).map D.u8),.int 0,.arr 32 1 ((List.replicate 32 0).map D.u8),.nils,.nils,.agg [.u32 0,.nils,.nils,.u32 0]]):=⟨_,_,_,O,O,O,O,by decide⟩
instance:ZrT prog 57 (.agg [.int 0,.arr 32 1 ((List.replicate 32 0).map D.u8)]):=⟨_,_,O,O,by decide,O⟩
instance:BsT prog 57 ([.int 0,.arr 32 1 ((List.replicate 32 0).map D.u8)]):=⟨_,_,_,O,O,O,O,by decide⟩
instance:LdT prog 58 33 true:=⟨_,_,O,O,O,O⟩
instance:ElT prog 58 33 40:=⟨_,_,O,O,O,O,O,by decide,O⟩
instance:EqT prog 58:=⟨by decide +kernel⟩
instance:FdT prog 58 0 0:=⟨_,_,_,O,O,O,O,by decide⟩
instance:ZrT prog 58 (.agg [.int 0,.arr 32 1 ((List.replicate 32 0).map D.u8)]):=⟨_,_,O,O,by decide,O⟩
instance:BsT prog 58 ([.int 0,.arr 32 1 ((List.replicate 32 0).map D.u8)]):=⟨_,_,_,O,O,O,O,by decide⟩
instance:ZrT prog 59 (.agg [.arr 32 1 ((List.replicate 32 0).map D.u8),.u32 0]):=⟨_,_,O,O,by decide,O⟩
instance:BsT prog 59 ([.arr 32 1 ((List.replicate 32 0).map D.u8),.u32 0]):=⟨_,_,_,O,O,O,O,by decide⟩
instance:LdT prog 60 33 true:=⟨_,_,O,O,O,O⟩
instance:ElT prog 60 33 36:=⟨_,_,O,O,O,O,O,by decide,O⟩
instance:EqT prog 60:=⟨by decide +kernel⟩
instance:FdT prog 60 0 0:=⟨_,_,_,O,O,O,O,by decide⟩
instance:FdT prog 60 1 32:=⟨_,_,_,O,O,O,O,by decide⟩
instance:ZrT prog 60 (.agg [.arr 32 1 ((List.replicate 32 0).map D.u8),.u32 0]):=⟨_,_,O,O,by decide,O⟩
instance:BsT prog 60 ([.arr 32 1 ((List.replicate 32 0).map D.u8),.u32 0]):=⟨_,_,_,O,O,O,O,by decide⟩
instance:ZrT prog 61 (.agg [.agg [.arr 32 1 ((List.replicate 32 0).map D.u8),.u32 0],.u64 0,.int 0]):=⟨_,_,O,O,by decide,O⟩
instance:BsT prog 61 ([.agg [.arr 32 1 ((List.replicate 32 0).map D.u8),.u32 0],.u64 0,.int 0]):=⟨_,_,_,O,O,O,O,by decide⟩
instance:LdT prog 62 35 true:=⟨_,_,O,O,O,O⟩
instance:ElT prog 62 35 56:=⟨_,_,O,O,O,O,O,by decide,O⟩
instance:EqT prog 62:=⟨by decide +kernel⟩
instance:FdT prog 62 0 0:=⟨_,_,_,O,O,O,O,by decide⟩
instance:FdT prog 62 1 33:=⟨_,_,_,O,O,O,O,by decide⟩
instance:FdT prog 62 2 34:=⟨_,_,_,O,O,O,O,by decide⟩
instance:ZrT prog 62 (.agg [.agg [.arr 32 1 ((List.replicate 32 0).map D.u8),.u32 0],.u64 0,.int 0]):=⟨_,_,O,O,by decide,O⟩
instance:BsT prog 62 ([.agg [.arr 32 1 ((List.replicate 32 0).map D.u8),.u32 0],.u64 0,.int 0]):=⟨_,_,_,O,O,O,O,by decide⟩
instance:ZrT prog 63 (.agg [.u64 0,.nils]):=⟨_,_,O,O,by decide,O⟩
instance:BsT prog 63 ([.u64 0,.nils]):=⟨_,_,_,O,O,O,O,by decide⟩
instance:LdT prog 64 2 true:=⟨_,_,O,O,O,O⟩
instance:ElT prog 64 2 32:=⟨_,_,O,O,O,O,O,by decide,O⟩
instance:FdT prog 64 0 0:=⟨_,_,_,O,O,O,O,by decide⟩
instance:FdT prog 64 1 1:=⟨_,_,_,O,O,O,O,by decide⟩
instance:ZrT prog 64 (.agg [.u64 0,.nils]):=⟨_,_,O,O,by decide,O⟩
instance:BsT prog 64 ([.u64 0,.nils]):=⟨_,_,_,O,O,O,O,by decide⟩
instance:LdT prog 65 1 false:=⟨_,_,O,O,O,O⟩
instance:SlT prog 65 24:=⟨O⟩
instance:ZrT prog 66 (.agg [.agg [.arr 32 1 ((List.replicate 32 0).map D.u8),.u32 0],.nils,.u32 0,.nils]):=⟨_,_,O,O,by decide,O⟩
instance:BsT prog 66 ([.agg [.arr 32 1 ((List.replicate 32 0).map D.u8),.u32 0],.nils,.u32 0,.nils]):=⟨_,_,_,O,O,O,O,by decide⟩
instance:LdT prog 67 36 true:=⟨_,_,O,O,O,O⟩
instance:ElT prog 67 36 96:=⟨_,_,O,O,O,O,O,by decide,O⟩
instance:FdT prog 67 0 0:=⟨_,_,_,O,O,O,O,by decide⟩
instance:FdT prog 67 1 33:=⟨_,_,_,O,O,O,O,by decide⟩
instance:FdT prog 67 2 34:=⟨_,_,_,O,O,O,O,by decide⟩
instance:FdT prog 67 3 35:=⟨_,_,_,O,O,O,O,by decide⟩
instance:ZrT prog 67 (.agg [.agg [.arr 32 1 ((List.replicate 32 0).map D.u8),.u32 0],.nils,.u32 0,.nils]):=⟨_,_,O,O,by decide,O⟩
instance:BsT prog 67 ([.agg [.arr 32 1 ((List.replicate 32 0).map D.u8),.u32 0],.nils,.u32 0,.nils]):=⟨_,_,_,O,O,O,O,by decide⟩
instance:LdT prog 70 1 false:=⟨_,_,O,O,O,O⟩
instance:SlT prog 70 54:=⟨O⟩
instance:ZrT prog 71 (.agg [.agg [.u32 0,.arr 32 1 ((List.replicate 32 0).map D.u8),.arr 32 1 ((List.replicate 32 0).map D.u8),.u32 0,.u32 0,.u32 0],.nils]):=⟨_,_,O,O,by decide,O⟩
instance:BsT prog 71 ([.agg [.u32 0,.arr 32 1 ((List.replicate 32 0).map D.u8),.arr 32 1 ((List.replicate 32 0).map D.u8),.u32 0,.u32 0,.u32 0],.nils]):=⟨_,_,_,O,O,O,O,by decide⟩
instance:LdT prog 72 69 true:=⟨_,_,O,O,O,O⟩
instance:ElT prog 72 69 104:=⟨_,_,O,O,O,O,O,by decide,O⟩
instance:FdT prog 72 0 0:=⟨_,_,_,O,O,O,O,by decide⟩
instance:FdT prog 72 1 68:=⟨_,_,_,O,O,O,O,by decide⟩
instance:ZrT prog 72 (.agg [.agg [.u32 0,.arr 32 1 ((List.replicate 32 0).map D.u8),.arr 32 1 ((List.replicate 32 0).map D.u8),.u32 0,.u32 0,.u32 0],.nils]):=⟨_,_,O,O,by decide,O⟩
instance:BsT prog 72 ([.agg [.u32 0,.arr 32 1 ((List.replicate 32 0).map D.u8),.arr 32 1 ((List.replicate 32 0).map D.u8),.u32 0,.u32 0,.u32 0],.nils]):=⟨_,_,_,O,O,O,O,by decide⟩
instance:LdT prog 75 1 false:=⟨_,_,O,O,O,O⟩
instance:SlT prog 75 86:=⟨O⟩
instance:ZrT prog 76 (.agg [.u8 0,.nils,.u8 0]):=⟨_,_,O,O,by decide,O⟩
instance:BsT prog 76 ([.u8 0,.nils,.u8 0]):=⟨_,_,_,O,O,O,O,by decide⟩
instance:LdT prog 77 3 true:=⟨_,_,O,O,O,O⟩
instance:ElT prog 77 3 40:=⟨_,_,O,O,O,O,O,by decide,O⟩
instance:FdT prog 77 0 0:=⟨_,_,_,O,O,O,O,by decide⟩
instance:FdT prog 77 1 1:=⟨_,_,_,O,O,O,O,by decide⟩
instance:FdT prog 77 2 2:=⟨_,_,_,O,O,O,O,by decide⟩
instance:ZrT prog 77 (.agg [.u8 0,.nils,.u8 0]):=⟨_,_,O,O,by decide,O⟩
instance:BsT prog 77 ([.u8 0,.nils,.u8 0]):=⟨_,_,_,O,O,O,O,by decide⟩
instance:IkT prog 78 .i64:=⟨O⟩
instance:ZrT prog 78 (.int 0):=⟨_,_,O,O,by decide,O⟩
instance:ZrT prog 85 (.agg [.u8 0,.bool false,.nils,.u8 0,.u8 0]):=⟨_,_,O,O,by decide,O⟩
instance:BsT prog 85 ([.u8 0,.bool false,.nils,.u8 0,.u8 0]):=⟨_,_,_,O,O,O,O,by decide⟩
instance:LdT prog 86 5 true:=⟨_,_,O,O,O,O⟩
instance:ElT prog 86 5 40:=⟨_,_,O,O,O,O,O,by decide,O⟩
instance:FdT prog 86 0 0:=⟨_,_,_,O,O,O,O,by decide⟩
instance:FdT prog 86 1 1:=⟨_,_,_,O,O,O,O,by decide⟩
instance:FdT prog 86 2 2:=⟨_,_,_,O,O,O,O,by decide⟩
instance:FdT prog 86 3 3:=⟨_,_,_,O,O,O,O,by decide⟩
instance:FdT prog 86 4 4:=⟨_,_,_,O,O,O,O,by decide⟩
instance:ZrT prog 86 (.agg [.u8 0,.bool false,.nils,.u8 0,.u8 0]):=⟨_,_,O,O,by decide,O⟩
instance:BsT prog 86 ([.u8 0,.bool false,.nils,.u8 0,.u8 0]):=⟨_,_,_,O,O,O,O,by decide⟩
instance:SlT prog 87 90:=⟨O⟩
instance:ZrT prog 89 (.agg [.int 0,.int 0,.arr 32 1 ((List.replicate 32 0).map D.u8),.agg [.u32 0,.nils,.nils,.u32 0]]):=⟨_,_,O,O,by decide,O⟩
instance:BsT prog 89 ([.int 0,.int 0,.arr 32 1 ((List.replicate 32 0).map D.u8),.agg [.u32 0,.nils,.nils,.u32 0]]):=⟨_,_,_,O,O,O,O,by decide⟩
instance:ElT prog 90 38 112:=⟨_,_,O,O,O,O,O,by decide,O⟩
instance:FdT prog 90 2 2:=⟨_,_,_,O,O,O,O,by decide⟩
instance:FdT prog 90 3 34:=⟨_,_,_,O,O,O,O,by decide⟩
instance:ZrT prog 90 (.agg [.int 0,.int 0,.arr 32 1 ((List.replicate 32 0).map D.u8),.agg [.u32 0,.nils,.nils,.u32 0]]):=⟨_,_,O,O,by decide,O⟩
instance:BsT prog 90 ([.int 0,.int 0,.arr 32 1 ((List.replicate 32 0).map D.u8),.agg [.u32 0,.nils,.nils,.u32 0]]):=⟨_,_,_,O,O,O,O,by decide⟩
instance:IkT prog 101 .u64:=⟨O⟩
instance:ZrT prog 101 (.u64 0):=⟨_,_,O,O,by decide,O⟩
instance:SlT prog 102 60:=⟨O⟩
instance:SlT prog 103 48:=⟨O⟩
instance:SlT prog 108 35:=⟨O⟩
instance:SlT prog 129 32:=⟨O⟩
instance:ZrT prog 138 (.arr 4 1 ((List.replicate 4 0).map D.u64)):=⟨_,_,O,O,by decide,O⟩
instance:LdT prog 139 4 true:=⟨_,_,O,O,O,O⟩
instance:ArT prog 139 4 48:=⟨O⟩
instance:BaT prog 139 4 48 1:=⟨_,_,_,O,O,O,O,O,O⟩
instance:EqT prog 139:=⟨by decide +kernel⟩
instance:ZrT prog 139 (.arr 4 1 ((List.replicate 4 0).map D.u64)):=⟨_,_,O,O,by decide,O⟩
instance:ZrT prog 149 (.agg [.u64 0,.arr 32 1 ((List.replicate 32 0).map D.u8)]):=⟨_,_,O,O,by decide,O⟩
instance:BsT prog 149 ([.u64 0,.arr 32 1 ((List.replicate 32 0).map D.u8)]):=⟨_,_,_,O,O,O,O,by decide⟩
instance:LdT prog 150 33 true:=⟨_,_,O,O,O,O⟩
instance:FdT prog 150 0 0:=⟨_,_,_,O,O,O,O,by decide⟩
instance:FdT prog 150 1 1:=⟨_,_,_,O,O,O,O,by decide⟩
instance:ZrT prog 150 (.agg [.u64 0,.arr 32 1 ((List.replicate 32 0).map D.u8)]):=⟨_,_,O,O,by decide,O⟩
instance:BsT prog 150 ([.u64 0,.arr 32 1 ((List.replicate 32 0).map D.u8)]):=⟨_,_,_,O,O,O,O,by decide⟩
instance:ZrT prog 152 (.arr 8 1 ((List.replicate 8 0).map D.u32)):=⟨_,_,O,O,by decide,O⟩
instance:LdT prog 153 8 true:=⟨_,_,O,O,O,O⟩
instance:ArT prog 153 8 32:=⟨O⟩
instance:BaT prog 153 8 32 1:=⟨_,_,_,O,O,O,O,O,O⟩
instance:ZrT prog 153 (.arr 8 1 ((List.replicate 8 0).map D.u32)):=⟨_,_,O,O,by decide,O⟩
instance:ArT prog 154 64 5:=⟨O⟩
instance:ZrT prog 154 (.arr 64 1 ((List.replicate 64 0).map D.u8)):=⟨_,_,O,O,by decide,O⟩
instance:ZrT prog 155 (.agg [.bool false,.arr 8 1 ((List.replicate 8 0).map D.u32),.arr 64 1 ((List.replicate 64 0).map D.u8),.u64 0]):=⟨_,_,O,O,by decide,O⟩
instance:BsT prog 155 ([.bool false,.arr 8 1 ((List.replicate 8 0).map D.u32),.arr 64 1 ((List.replicate 64 0).map D.u8),.u64 0]):=⟨_,_,_,O,O,O,O,by decide⟩
instance:LdT prog 156 74 true:=⟨_,_,O,O,O,O⟩
instance:FdT prog 156 0 0:=⟨_,_,_,O,O,O,O,by decide⟩
instance:FdT prog 156 1 1:=⟨_,_,_,O,O,O,O,by decide⟩
instance:FdT prog 156 2 9:=⟨_,_,_,O,O,O,O,by decide⟩
instance:FdT prog 156 3 73:=⟨_,_,_,O,O,O,O,by decide⟩
instance:ZrT prog 156 (.agg [.bool false,.arr 8 1 ((List.replicate 8 0).map D.u32),.arr 64 1 ((List.replicate 64 0).map D.u8),.u64 0]):=⟨_,_,O,O,by decide,O⟩
instance:BsT prog 156 ([.bool false,.arr 8 1 ((List.replicate 8 0).map D.u32),.arr 64 1 ((List.replicate 64 0).map D.u8),.u64 0]):=⟨_,_,_,O,O,O,O,by decide⟩
instance:ZrT prog 177 (.agg [.nils]):=⟨_,_,O,O,by decide,O⟩
instance:BsT prog 177 ([.nils]):=⟨_,_,_,O,O,O,O,by decide⟩
instance:FdT prog 178 0 0:=⟨_,_,_,O,O,O,O,by decide⟩
instance:ZrT prog 178 (.agg [.nils]):=⟨_,_,O,O,by decide,O⟩
instance:BsT prog 178 ([.nils]):=⟨_,_,_,O,O,O,O,by decide⟩
instance:ArT prog 184 8 5:=⟨O⟩
instance:ZrT prog 184 (.arr 8 1 ((List.replicate 8 0).map D.u8)):=⟨_,_,O,O,by decide,O⟩
instance:ZrT prog 187 (.agg [.int 0,.arr 32 1 ((List.replicate 32 0).map D.u8)]):=⟨_,_,O,O,by decide,O⟩
instance:BsT prog 187 ([.int 0,.arr 32 1 ((List.replicate 32 0).map D.u8)]):=⟨_,_,_,O,O,O,O,by decide⟩
instance:ZrT prog 188 (.agg [.int 0,.arr 32 1 ((List.replicate 32 0).map D.u8)]):=⟨_,_,O,O,by decide,O⟩
instance:BsT prog 188 ([.int 0,.arr 32 1 ((List.replicate 32 0).map D.u8)]):=⟨_,_,_,O,O,O,O,by decide⟩
instance:SlT prog 195 3:=⟨O⟩
instance:LdT prog 198 1 false:=⟨_,_,O,O,O,O⟩
instance:ZrT prog 199 (.agg [.int 0,.nilp]):=⟨_,_,O,O,by decide,O⟩
instance:BsT prog 199 ([.int 0,.nilp]):=⟨_,_,_,O,O,O,O,by decide⟩
instance:LdT prog 200 2 true:=⟨_,_,O,O,O,O⟩
instance:FdT prog 200 0 0:=⟨_,_,_,O,O,O,O,by decide⟩
instance:FdT prog 200 1 1:=⟨_,_,_,O,O,O,O,by decide⟩
instance:ZrT prog 200 (.agg [.int 0,.nilp]):=⟨_,_,O,O,by decide,O⟩
instance:BsT prog 200 ([.int 0,.nilp]):=⟨_,_,_,O,O,O,O,by decide⟩
instance:LdT prog 201 8 true:=⟨_,_,O,O,O,O⟩
instance:ArT prog 201 4 200:=⟨O⟩
instance:BgT prog 201 [.agg [.int 0,.nilp],.agg [.int 0,.nilp],.agg [.int 0,.nilp],.agg [.int 0,.nilp]]:=⟨_,_,_,_,_,_,O,O,O,O,O,O,O⟩
instance:ZrT prog 201 (.arr 4 2 (List.replicate 4 (.agg [.int 0,.nilp]))):=⟨_,_,O,O,by decide,O⟩
instance:LdT prog 207 64 true:=⟨_,_,O,O,O,O⟩
instance:ArT prog 207 64 32:=⟨O⟩
instance:ZrT prog 207 (.arr 64 1 ((List.replicate 64 0).map D.u32)):=⟨_,_,O,O,by decide,O⟩
instance:ZrT prog 211 (.agg [.nilp,.nilp,.nilp,.str []]):=⟨_,_,O,O,by decide,O⟩
instance:BsT prog 211 ([.nilp,.nilp,.nilp,.str []]):=⟨_,_,_,O,O,O,O,by decide⟩
instance:ZrT prog 212 (.agg [.nilp,.nilp,.nilp,.str []]):=⟨_,_,O,O,by decide,O⟩
instance:BsT prog 212 ([.nilp,.nilp,.nilp,.str []]):=⟨_,_,_,O,O,O,O,by decide⟩
instance:IkT prog 217 .u8:=⟨O⟩
instance:ZrT prog 217 (.u8 0):=⟨_,_,O,O,by decide,O⟩
instance:IkT prog 218 .u8:=⟨O⟩
instance:ZrT prog 218 (.u8 0):=⟨_,_,O,O,by decide,O⟩
instance:IkT prog 221 .i32:=⟨O⟩
instance:ZrT prog 221 (.ik .i32 0):=⟨_,_,O,O,by decide,O⟩
instance:IkT prog 222 .i32:=⟨O⟩
instance:ZrT prog 222 (.ik .i32 0):=⟨_,_,O,O,by decide,O⟩
instance:ZrT prog 223 (.agg [.u64 0,.u64 0,.u32 0,.u8 0,.u8 0,.u8 0,.u8 0,.nilf,.nilp,.ik .i32 0,.ik .i32 0]):=⟨_,_,O,O,by decide,O⟩
instance:BsT prog 223 ([.u64 0,.u64 0,.u32 0,.u8 0,.u8 0,.u8 0,.u8 0,.nilf,.nilp,.ik .i32 0,.ik .i32 0]):=⟨_,_,_,O,O,O,O,by decide⟩
instance:ZrT prog 224 (.agg [.u64 0,.u64 0,.u32 0,.u8 0,.u8 0,.u8 0,.u8 0,.nilf,.nilp,.ik .i32 0,.ik .i32 0]):=⟨_,_,O,O,by decide,O⟩
instance:BsT prog 224 ([.u64 0,.u64 0,.u32 0,.u8 0,.u8 0,.u8 0,.u8 0,.nilf,.nilp,.ik .i32 0,.ik .i32 0]):=⟨_,_,_,O,O,O,O,by decide⟩
instance:CaT prog 9:=⟨_,Tryd.func9,by decide,by decide⟩
instance:CaT prog 10:=⟨_,Tryd.func10,by decide,by decide⟩
instance:CaT prog 11:=⟨_,Tryd.func11,by decide,by decide⟩
instance:CaT prog 12:=⟨_,Tryd.func12,by decide,by decide⟩
instance:CaT prog 15:=⟨_,Tryd.func15,by decide,by decide⟩
instance:CaT prog 20:=⟨_,Tryd.func20,by decide,by decide⟩
instance:CaT prog 21:=⟨_,Tryd.func21,by decide,by decide⟩
instance:CaT prog 22:=⟨_,Tryd.func22,by decide,by decide⟩
instance:CaT prog 23:=⟨_,Tryd.func23,by decide,by decide⟩
instance:CaT prog 24:=⟨_,Tryd.func24,by decide,by decide⟩
instance:CaT prog 25:=⟨_,Tryd.func25,by decide,by decide⟩
instance:CaT prog 26:=⟨_,Tryd.func26,by decide,by decide⟩
instance:CaT prog 27:=⟨_,Tryd.func27,by decide,by decide⟩
instance:CaT prog 29:=⟨_,Tryd.func29,by decide,by decide⟩
instance:CaT prog 30:=⟨_,Tryd.func30,by decide,by decide⟩
instance:CaT prog 38:=⟨_,Tryd.func38,by decide,by decide⟩
instance:CaT prog 39:=⟨_,Tryd.func39,by decide,by decide⟩
instance:CaT prog 40:=⟨_,Tryd.func40,by decide,by decide⟩
instance:CaT prog 41:=⟨_,Tryd.func41,by decide,by decide⟩
instance:CaT prog 42:=⟨_,Tryd.func42,by decide,by decide⟩
instance:CaT prog 43:=⟨_,Tryd.func43,by decide,by decide⟩
instance:CaT prog 44:=⟨_,Tryd.func44,by decide,by decide⟩
instance:CaT prog 45:=⟨_,Tryd.func45,by decide,by decide⟩
instance:CaT prog 46:=⟨_,Tryd.func46,by decide,by decide⟩
instance:CaT prog 47:=⟨_,Tryd.func47,by decide,by decide⟩
instance:CaT prog 48:=⟨_,Tryd.func48,by decide,by decide⟩
instance:CaT prog 49:=⟨_,Tryd.func49,by decide,by decide⟩
instance:CaT prog 51:=⟨_,Tryd.func51,by decide,by decide⟩
instance:CaT prog 52:=⟨_,Tryd.func52,by decide,by decide⟩
instance:CaT prog 53:=⟨_,Tryd.func53,by decide,by decide⟩
instance:CaT prog 54:=⟨_,Tryd.func54,by decide,by decide⟩
instance:CaT prog 55:=⟨_,Tryd.func55,by decide,by decide⟩
instance:CaT prog 56:=⟨_,Tryd.func56,by decide,by decide⟩
instance:CaT prog 57:=⟨_,Tryd.func57,by decide,by decide⟩
instance:CaT prog 58:=⟨_,Tryd.func58,by decide,by decide⟩
instance:CaT prog 59:=⟨_,Tryd.func59,by decide,by decide⟩
instance:CaT prog 60:=⟨_,Tryd.func60,by decide,by decide⟩
instance:CaT prog 61:=⟨_,Tryd.func61,by decide,by decide⟩
instance:CaT prog 62:=⟨_,Tryd.func62,by decide,by decide⟩
instance:CaT prog 63:=⟨_,Tryd.func63,by decide,by decide⟩
instance:CaT prog 64:=⟨_,Tryd.func64,by decide,by decide⟩
instance:CaT prog 65:=⟨_,Tryd.func65,by decide,by decide⟩
instance:CaT prog 66:=⟨_,Tryd.func66,by decide,by decide⟩
instance:CaT prog 67:=⟨_,Tryd.func67,by decide,by decide⟩
instance:CaT prog 68:=⟨_,Tryd.func68,by decide,by decide⟩
instance:CaT prog 69:=⟨_,Tryd.func69,by decide,by decide⟩
instance:CaT prog 70:=⟨_,Tryd.func70,by decide,by decide⟩
instance:CaT prog 71:=⟨_,Tryd.func71,by decide,by decide⟩
instance:CaT prog 72:=⟨_,Tryd.func72,by decide,by decide⟩
instance:CaT prog 73:=⟨_,Tryd.func73,by decide,by decide⟩
instance:CaT prog 74:=⟨_,Tryd.func74,by decide,by decide⟩
instance:CaT prog 75:=⟨_,Tryd.func75,by decide,by decide⟩
instance:CaT prog 76:=⟨_,Tryd.func76,by decide,by decide⟩
instance:CaT prog 77:=⟨_,Tryd.func77,by decide,by decide⟩
instance:CaT prog 78:=⟨_,Tryd.func78,by decide,by decide⟩
instance:CaT prog 79:=⟨_,Tryd.func79,by decide,by decide⟩
instance:CaT prog 80:=⟨_,Tryd.func80,by decide,by decide⟩
instance:CaT prog 81:=⟨_,Tryd.func81,by decide,by decide⟩
instance:CaT prog 82:=⟨_,Tryd.func82,by decide,by decide⟩
instance:CaT prog 83:=⟨_,Tryd.func83,by decide,by decide⟩
instance:CaT prog 84:=⟨_,Tryd.func84,by decide,by decide⟩
instance:CaT prog 85:=⟨_,Tryd.func85,by decide,by decide⟩
instance:CaT prog 86:=⟨_,Tryd.func86,by decide,by decide⟩
instance:CaT prog 87:=⟨_,Tryd.func87,by decide,by decide⟩
instance:CaT prog 88:=⟨_,Tryd.func88,by decide,by decide⟩
instance:CaT prog 89:=⟨_,Tryd.func89,by decide,by decide⟩
instance:CaT prog 90:=⟨_,Tryd.func90,by decide,by decide⟩
instance:CaT prog 91:=⟨_,Tryd.func91,by decide,by decide⟩
instance:CaT prog 92:=⟨_,Tryd.func92,by decide,by decide⟩
instance:CaT prog 93:=⟨_,Tryd.func93,by decide,by decide⟩
instance:CaT prog 94:=⟨_,Tryd.func94,by decide,by decide⟩
instance:CaT prog 95:=⟨_,Tryd.func95,by decide,by decide⟩
instance:CaT prog 96:=⟨_,Tryd.func96,by decide,by decide⟩
instance:CaT prog 97:=⟨_,Tryd.func97,by decide,by decide⟩
instance:CaT prog 98:=⟨_,Tryd.func98,by decide,by decide⟩
instance:CaT prog 99:=⟨_,Tryd.func99,by decide,by decide⟩
instance:CaT prog 100:=⟨_,Tryd.func100,by decide,by decide⟩
instance:CaT prog 101:=⟨_,Tryd.func101,by decide,by decide⟩
instance:CaT prog 102:=⟨_,Tryd.func102,by decide,by decide⟩
instance:CaT prog 103:=⟨_,Tryd.func103,by decide,by decide⟩
instance:CaT prog 104:=⟨_,Tryd.func104,by decide,by decide⟩
instance:CaT prog 105:=⟨_,Tryd.func105,by decide,by decide⟩
instance:CaT prog 106:=⟨_,Tryd.func106,by decide,by decide⟩
instance:CaT prog 107:=⟨_,Tryd.func107,by decide,by decide⟩
instance:CaT prog 108:=⟨_,Tryd.func108,by decide,by decide⟩
instance:CaT prog 109:=⟨_,Tryd.func109,by decide,by decide⟩
instance:CaT prog 110:=⟨_,Tryd.func110,by decide,by decide⟩
instance:CaT prog 111:=⟨_,Tryd.func111,by decide,by decide⟩
instance:CaT prog 112:=⟨_,Tryd.func112,by decide,by decide⟩
instance:CaT prog 113:=⟨_,Tryd.func113,by decide,by decide⟩
instance:CaT prog 114:=⟨_,Tryd.func114,by decide,by decide⟩
instance:CaT prog 115:=⟨_,Tryd.func115,by decide,by decide⟩
instance:CaT prog 116:=⟨_,Tryd.func116,by decide,by decide⟩
def gl:List (Nat×D):=[(0,.arr 64 1 (kTab.map D.u32))]
end Go.Sx

namespace Go.Sx
open Go.Proofs
theorem hP:Tryd.prog.follows .mixedOrders=true:=Tryd.checked.mixed
theorem rot_ok(x:UInt32)(k:Int):Fn Tryd.prog gl 116 [.u32 x,.int (k:Int)] (.u32 (rotl x k)):=by
 refine Fn.of (n:=17) Tryd.func116 rfl rfl rfl (nU rfl) fun C hC hD=>?_;refine z6 1 (y1 4) (V2 0 1) ⟨aU<|zK (kW (.int .u32 0) (.u32 0) O) O O,Zt⟩ O O O O ?_;refine z6 4 (y4 6 7 8 5) (V2 0 5) ⟨mU 1 O O,aU<|zW O O O,aU<|P5 O (kW (.int .u64 31) (.u64 31) O) O O,aU<|zA O O O,Zt⟩ O O O O ?_;refine z6 9 (y9 9 10 11 12 13 14 15 16 4) (V1 4) ⟨mU 0 O O,mU 5 O O,aU fun _ _ H K=>R.bin (eU K 9 O) (eU K 10 O) O bV H,mU 0 O O,mU 5 O O,aU fun _ _ H K=>R.bin (kW (.int .u64 32) (.u64 32) O) (eU K 13 O) O Zt H,aU fun _ _ H K=>R.bin (eU K 12 O) (eU K 14 O) O bV H,aU<|zB O O O O,aU<|zA O O O,Zt⟩ O O O O ?_;refine W.ret ?_;exact Ends.one' (.inr O) O (O) O O Zt
theorem U9(x:UInt32)(k:Int):Fn Tryd.prog gl 114 [.u32 x,.int (k:Int)] (.u32 (right x k)):=by
 refine Fn.of (n:=9) Tryd.func114 rfl rfl rfl (nU rfl) fun C hC hD=>?_;refine z6 1 (y1 4) (V2 0 1) ⟨aU<|zK (kW (.int .u32 0) (.u32 0) O) O O,Zt⟩ O O O O ?_;refine z6 5 (y5 5 6 7 8 4) (V1 4) ⟨mU 0 O O,mU 1 O O,aU<|JY O O O,aU<|zD hC (rot_ok _ _) O O O O O O (F1 (.u32 _)) O,aU<|zA O O O,Zt⟩ O O O O ?_;refine W.ret ?_;exact Ends.one' (.inr O) O (O) O O Zt
theorem start_ok:Fn Tryd.prog gl 95 [] (.arr 8 1 (iv.map D.u32)):=by
 refine Fn.of (n:=2) Tryd.func95 rfl rfl rfl (nU rfl) fun C hC hD=>?_;refine z7 1 [] [] [] [] Zt O O (o0 O O (tV (V1 0) (b1 0) 2 O O O ?_));refine z7 2 (y1 1) [] [] (V2 0 1) ⟨aU fun _ _ H _=>TQ (z:=1) (.cons (kW (.int .u32 1779033703) (.u32 1779033703) O) (.cons (kW (.int .u32 3144134277) (.u32 3144134277) O) (.cons (kW (.int .u32 1013904242) (.u32 1013904242) O) (.cons (kW (.int .u32 2773480762) (.u32 2773480762) O) (.cons (kW (.int .u32 1359893119) (.u32 1359893119) O) (.cons (kW (.int .u32 2600822924) (.u32 2600822924) O) (.cons (kW (.int .u32 528734635) (.u32 528734635) O) (.cons (kW (.int .u32 1541459225) (.u32 1541459225) O) .nil)))))))) ⟨⟨O,O,O⟩,⟨O,O,O⟩,⟨O,O,O⟩,⟨O,O,O⟩,⟨O,O,O⟩,⟨O,O,O⟩,⟨O,O,O⟩,⟨O,O,O⟩,Zt⟩ O H,Zt⟩ O O (m1 O O O O O (tV (V1 0) (b1 0) 2 O O O ?_));refine W.ret ?_;exact Ends.one' (.inr O) O (O) O O (show LdT _ 153 8 true from inferInstance)
theorem AC:Fn Tryd.prog gl 72 [] (MZ ShaS.start):=by
 refine Fn.of (n:=3) Tryd.func72 rfl rfl rfl (nU rfl) fun C hC hD=>?_;refine z7 1 [] [] [] [] Zt O O (o0 O O (tV (V1 0) (b1 0) 3 O O O ?_));refine z7 3 (y2 1 2) [] [] (V2 0 2) ⟨aU fun _ _ H _=>j5 hC (start_ok) Bn (F1 (.arr _ _ _ (u2 fun _=>.u32 _))) H,aU fun _ _ H K=>p6 (l:=[.bool false,.arr 8 1 ((List.replicate 8 0).map D.u32),.arr 64 1 ((List.replicate 64 0).map D.u8),.u64 0]) (l':=[_,_,_,_]) (.cons (kB true O) (.cons (eU K 1 O) (.nil O))) ⟨⟨_,(kB true O),O,O,O⟩,⟨⟨_,(eU K 1 O),O,O,O⟩,Zt⟩⟩ H,Zt⟩ O O (m1 O O O O O (tV (V1 0) (b1 0) 3 O O O ?_));refine W.ret ?_;exact Ends.one' (.inr O) O (O) O O (show LdT _ 156 74 true from inferInstance)
theorem sched_ok(p:List UInt8)(hp:p.length=64):Fn Tryd.prog gl 113 [.rp (.arr 64 1 (p.map D.u8))] (.arr 64 1 ((sched p 64).map D.u32)):=by
 refine Fn.of (n:=75) Tryd.func113 rfl rfl rfl (nU rfl) fun C hC hD=>?_;refine z7 1 [] [] [] (V1 0) Zt O O (o0 O O (tV (V2 0 2) (b1 2) 75 O O O ?_));refine W.seq (z6 1 (y1 8) (V3 0 2 8) ⟨aU<|S3 (kI 0 O) O O,Zt⟩ O O O O ?_);refine W.block ?_;refine W.loop (α:={q__:Nat//q__<=64}) (fun q__=>⟨75,[(0,.rp (.arr 64 1 (p.map D.u8))),(2,.ptr 2 0 []),(8,.int ((q__.1:Nat):Int))],[(2,.var (.arr 64 1 ((sched p q__.1).map D.u32)))]⟩) (fun q__=>64-q__.1) ⟨(0),bU⟩ O ?_;rintro ⟨t,htl⟩;show W _ _ _ _ ⟨75,[(0,.rp (.arr 64 1 (p.map D.u8))),(2,.ptr 2 0 []),(8,.int ((t:Nat):Int))],[(2,.var (.arr 64 1 ((sched p t).map D.u32)))]⟩;have hsl:=DJ p t;refine z6 1 (y1 9) (V4 0 2 8 9) ⟨aU<|I7 64 O O O,Zt⟩ O O O O ?_;refine W.seq ?_;refine z9 O (fun hc9=>?_) (fun hc9=>?_)
 ·refine W.skip (W.seq (W.block (z6 2 (y2 10 3) (V4 0 2 3 8) ⟨mU 8 O O,aU<|zA O O O,Zt⟩ O O O O ?_)));refine W.seq (z6 2 (y2 11 12) (V5 0 2 3 8 12) ⟨mU 3 O O,aU<|I7 16 O O O,Zt⟩ O O O O ?_);refine z9 O (fun hc12=>?_) (fun hc12=>?_)
  ·refine W.seq (z6 10 (y10 13 14 15 16 17 18 19 20 21 22) (V7 0 2 3 8 20 21 22) ⟨mU 0 O O,aU fun _ _ H K=>R.nilc (eU K 13 O) H,mU 3 O O,aU<|E8 4 O O bU O,mU 3 O O,aU<|E8 4 O O bU O,aU<|m8 4 O O bU O,aU fun _ _ H K=>R.slRN ((4*t)) (((4*t)+4)) (4) (eU K 14 O) (m2 (eU K 16 O)) (m2 (eU K 19 O)) O O bU bU bU (UW) H,aU<|zN (n:=4) O (by simp;omega) O,aU<|S3 (kI 0 O) O O,Zt⟩ O O O O ?_);refine W.block ?_;refine W.loop (α:={q__:Nat//q__<=4}) (fun q__=>⟨75,[(0,.rp (.arr 64 1 (p.map D.u8))),(2,.ptr 2 0 []),(3,.int ((t:Nat):Int)),(8,.int ((t:Nat):Int)),(20,.sl none 1 (((p.drop (4*t)).take 4).map D.u8)),(21,.int ((4:Nat):Int)),(22,.int ((q__.1:Nat):Int))],[(2,.var (.arr 64 1 ((WI p t (sched p t) q__.1).map D.u32)))]⟩) (fun q__=>4-q__.1) ⟨(0),bU⟩ O ?_;rintro ⟨i,hil⟩;show W _ _ _ _ ⟨75,[(0,.rp (.arr 64 1 (p.map D.u8))),(2,.ptr 2 0 []),(3,.int ((t:Nat):Int)),(8,.int ((t:Nat):Int)),(20,.sl none 1 (((p.drop (4*t)).take 4).map D.u8)),(21,.int ((4:Nat):Int)),(22,.int ((i:Nat):Int))],[(2,.var (.arr 64 1 ((WI p t (sched p t) i).map D.u32)))]⟩;have hil2:=RH p t (sched p t) i;refine z6 1 (y1 23) (V8 0 2 3 8 20 21 22 23) ⟨aU<|zS O O O,Zt⟩ O O O O ?_;refine W.seq ?_;refine z9 O (fun hc23=>?_) (fun hc23=>?_)
   ·refine W.skip (W.seq (W.block (z6 3 (y3 24 25 5) (V8 0 2 3 5 8 20 21 22) ⟨aU<|zI i O O O bU O,aU<|zL O O (TN bO bO) O O O O O,aU<|zA O O O,Zt⟩ O O O O ?_)));refine c9 10 (y9 26 27 28 29 30 31 32 33 34) [] [] (V9 0 2 3 8 20 21 22 33 34) ⟨mU 3 O O,mU 3 O O,aU<|PW t O O O bU O,aU fun _ B H K=>R.ldP (K 28 _ O) (B 2 _ O) (g8 (mG (WI p t (sched p t) i)) g7 bU) O O O H,aU fun _ _ H K=>R.bin (eU K 29 O) (kW (.int .u64 8) (.u64 8) O) O bV H,mU 5 O O,aU<|zW O O O,aU<|zB O O O O,aU<|PW t O O O bU O,Zt⟩ O O (⟨O,_,r6 (gU 34 O) (xU 2 O) (g8 (mG (WI p t (sched p t) i)) g7 bU) (gV 33 O) (by rfl) (by rfl) (by rfl) (by rfl) (A1 (mG (WI p t (sched p t) i)) o5 o7),tV (V7 0 2 3 8 20 21 22) (b1 2) 75 O O O ?_⟩);refine j1 2 (y2 35 22) (V7 0 2 3 8 20 21 22) ⟨aU<|m8 1 O O bU O,mU 35 O O,Zt⟩ O O O O ?_;exact⟨⟨(i+1),bU⟩,rfl,(by simp only[];omega)⟩
   ·obtain rfl:i=4:=by omega
    refine W.exit (W.exit ?_);refine j1 2 (y2 73 8) (V3 0 2 8) ⟨aU<|m8 1 O O bU O,mU 73 O O,Zt⟩ O O O O ?_;exact⟨⟨(t+1),bU⟩,(by simp only[sched];first|rw[if_pos hc12]|(rw[if_neg hc12];rfl)),(by simp only[];omega)⟩
  ·refine W.skip (W.seq ?_);refine w7 (m:=10) (an:=[0,1,3,7,0,16,48,112,15,511]) hP dU O (its:=[.y 36 _,.y 37 _,.y 38 _,.y 39 _,.y 40 _,.y 41 _,.y 42 _,.y 43 _,.y 6 _,.y 7 _]) (ks:=[]) (kk:=[]) (live:=[0,2,3,6,7,8]) (env':=(V6 0 2 3 6 7 8)) (⟨nU O,O,⟨mU 3 O O,aU<|GW 15 O O bU bU O,aU<|PW ((t-15)) O O O bU O,aU fun _ B H K=>R.ldP (K 38 _ O) (B 2 _ O) (g8 (mG (sched p t)) g7 bU) O O O H,mU 3 O O,aU<|GW 2 O O bU bU O,aU<|PW ((t-2)) O O O bU O,aU fun _ B H K=>R.ldP (K 42 _ O) (B 2 _ O) (g8 (mG (sched p t)) g7 bU) O O O H,aU<|zA O O O,aU<|zA O O O,Zt⟩,O,O,O⟩) O (bx':=(b1 2)) O (n':=75) O (tV (V6 0 2 3 6 7 8) (b1 2) 75 O O O ?_);refine w7 (m:=29) (an:=(0::0::2::6::14::0::32::96::224::510::0::1024::0::7168::15360::0::32768::130048::262142::0::539648::0::3685376::7879680::0::16777216::66599936::134217726::268435455::536870911::[])) hP dU O (its:=(.y 44 _::.y 45 _::.y 46 _::.y 47 _::.y 48 _::.y 49 _::.y 50 _::.y 51 _::.y 52 _::.y 53 _::.y 54 _::.y 55 _::.y 56 _::.y 57 _::.y 58 _::.y 59 _::.y 60 _::.y 61 _::.y 62 _::.y 63 _::.y 64 _::.y 65 _::.y 66 _::.y 67 _::.y 68 _::.y 69 _::.y 70 _::.y 71 _::.y 72 _::[])) (ks:=[]) (kk:=[]) (live:=[0,2,8,71,72]) (env':=(V5 0 2 8 71 72)) (⟨nU O,O,⟨mU 3 O O,mU 3 O O,aU<|GW 16 O O bU bU O,aU<|PW ((t-16)) O O O bU O,aU fun _ B H K=>R.ldP (K 47 _ O) (B 2 _ O) (g8 (mG (sched p t)) g7 bU) O O O H,mU 3 O O,aU<|GW 7 O O bU bU O,aU<|PW ((t-7)) O O O bU O,aU fun _ B H K=>R.ldP (K 51 _ O) (B 2 _ O) (g8 (mG (sched p t)) g7 bU) O O O H,aU<|zB O O O O,mU 6 O O,aU<|t9 hC (U9 _ _) O O O (kI 7 O) O O (F1 (.u32 _)) O,mU 6 O O,aU<|t9 hC (U9 _ _) O O O (kI 18 O) O O (F1 (.u32 _)) O,aU<|zB O O O O,mU 6 O O,aU fun _ _ H K=>R.bin (eU K 59 O) (kW (.int .u64 3) (.u64 3) O) O bV H,aU<|zB O O O O,aU<|zB O O O O,mU 7 O O,aU<|t9 hC (U9 _ _) O O O (kI 17 O) O O (F1 (.u32 _)) O,mU 7 O O,aU<|t9 hC (U9 _ _) O O O (kI 19 O) O O (F1 (.u32 _)) O,aU<|zB O O O O,mU 7 O O,aU fun _ _ H K=>R.bin (eU K 68 O) (kW (.int .u64 10) (.u64 10) O) O bV H,aU<|zB O O O O,aU<|zB O O O O,aU<|PW t O O O bU O,Zt⟩,O,O,O⟩) O (bx':=(b1 2)) O (n':=75) O (⟨O,_,r6 (gU 72 O) (xU 2 O) (g8 (mG (sched p t)) g7 bU) (gV 71 O) (by rfl) (by rfl) (by rfl) (by rfl) (A1 (mG (sched p t)) o5 o7),tV (V3 0 2 8) (b1 2) 75 O O O ?_⟩);refine j1 2 (y2 73 8) (V3 0 2 8) ⟨aU<|m8 1 O O bU O,mU 73 O O,Zt⟩ O O O O ?_;exact⟨⟨(t+1),bU⟩,(by simp only[sched];first|rw[if_pos hc12]|(rw[if_neg hc12];rfl)),(by simp only[];omega)⟩
 ·obtain rfl:t=64:=by omega
  refine W.exit (z7 2 (y1 74) [] [] (V2 2 74) ⟨aU (lU 2 O O O O O O O),Zt⟩ O O (m1 O O O O O (tV (V1 2) (b1 2) 75 O O O ?_)));refine W.ret ?_;exact Ends.one' (.inr O) O (O) O O (show LdT _ 207 64 true from inferInstance)
theorem with_ok(h:List UInt32)(p:List UInt8)(hh:h.length=8)(hp:p.length=64):Fn Tryd.prog gl 96 [.arr 8 1 (h.map D.u32),.rp (.arr 64 1 (p.map D.u8))] (.arr 8 1 ((comp h p).map D.u32)):=by
 refine Fn.of (n:=119) Tryd.func96 rfl rfl rfl (nU rfl) fun C hC hD=>?_;refine z7 2 [] [] [] (V2 0 1) Zt O O (⟨O,_,R.box (gV 0 O) O O (nU O),(o0 O O (tV (V3 1 2 4) (b2 4 2) 119 O O O ?_))⟩);refine W.seq ?_;refine w7 (m:=24) (an:=[0,1,0,4,0,16,0,64,0,256,0,1024,0,4096,0,16384,3,65551,196671,459007,984063,2035711,4145151,8388607]) hP dU O (its:=[.y 20 _,.y 21 _,.y 22 _,.y 23 _,.y 24 _,.y 25 _,.y 26 _,.y 27 _,.y 28 _,.y 29 _,.y 30 _,.y 31 _,.y 32 _,.y 33 _,.y 34 _,.y 35 _,.y 5 _,.y 6 _,.y 7 _,.y 8 _,.y 9 _,.y 10 _,.y 11 _,.y 12 _]) (ks:=[]) (kk:=[]) (live:=[1,2,4,5,6,7,8,9,10,11,12]) (env':=(WM 1 2 4 5 6 7 8 9 10 11 12)) (⟨nU O,O,⟨aU fun _ _ H K=>R.idxP (0) (K 2 _ O) (m2 (kI 0 O)) O bU H,aU fun _ B H K=>R.ldP (K 20 _ O) (B 2 _ O) (g8 (mG h) g7 bU) O O O H,aU fun _ _ H K=>R.idxP (1) (K 2 _ O) (m2 (kI 1 O)) O bU H,aU fun _ B H K=>R.ldP (K 22 _ O) (B 2 _ O) (g8 (mG h) g7 bU) O O O H,aU fun _ _ H K=>R.idxP (2) (K 2 _ O) (m2 (kI 2 O)) O bU H,aU fun _ B H K=>R.ldP (K 24 _ O) (B 2 _ O) (g8 (mG h) g7 bU) O O O H,aU fun _ _ H K=>R.idxP (3) (K 2 _ O) (m2 (kI 3 O)) O bU H,aU fun _ B H K=>R.ldP (K 26 _ O) (B 2 _ O) (g8 (mG h) g7 bU) O O O H,aU fun _ _ H K=>R.idxP (4) (K 2 _ O) (m2 (kI 4 O)) O bU H,aU fun _ B H K=>R.ldP (K 28 _ O) (B 2 _ O) (g8 (mG h) g7 bU) O O O H,aU fun _ _ H K=>R.idxP (5) (K 2 _ O) (m2 (kI 5 O)) O bU H,aU fun _ B H K=>R.ldP (K 30 _ O) (B 2 _ O) (g8 (mG h) g7 bU) O O O H,aU fun _ _ H K=>R.idxP (6) (K 2 _ O) (m2 (kI 6 O)) O bU H,aU fun _ B H K=>R.ldP (K 32 _ O) (B 2 _ O) (g8 (mG h) g7 bU) O O O H,aU fun _ _ H K=>R.idxP (7) (K 2 _ O) (m2 (kI 7 O)) O bU H,aU fun _ B H K=>R.ldP (K 34 _ O) (B 2 _ O) (g8 (mG h) g7 bU) O O O H,aU<|zA O O O,aU<|zA O O O,aU<|zA O O O,aU<|zA O O O,aU<|zA O O O,aU<|zA O O O,aU<|zA O O O,aU<|zA O O O,Zt⟩,O,O,O⟩) O (bx':=(b2 4 2)) O (n':=119) O (tV (WM 1 2 4 5 6 7 8 9 10 11 12) (b2 4 2) 119 O O O ?_);refine z7 4 (y2 36 37) [] [] (WM 2 4 5 6 7 8 9 10 11 12 37) ⟨mU 1 O O,aU<|zC hC (sched_ok _ hp) O O O (F1 (.arr _ _ _ (u2 fun _=>.u32 _))) O,Zt⟩ O O (o0 O O (m1 O O O O O (tV (WM 2 4 5 6 7 8 9 10 11 12 13) (b3 13 4 2) 119 O O O ?_)));refine W.seq (z6 2 (y2 38 39) (V13 2 4 5 6 7 8 9 10 11 12 13 38 39) ⟨aU fun _ _ H _=>R.ldR (evg hC O) O O O H,aU<|S3 (kI 0 O) O O,Zt⟩ O O O O ?_);refine W.block ?_;refine W.loop (α:={q__:Nat//q__<=64}) (fun q__=>⟨119,[(2,.ptr 2 0 []),(4,.ptr 4 0 []),(5,.u32 (rds h (sched p 64) q__.1).a),(6,.u32 (rds h (sched p 64) q__.1).b),(7,.u32 (rds h (sched p 64) q__.1).c),(8,.u32 (rds h (sched p 64) q__.1).d),(9,.u32 (rds h (sched p 64) q__.1).e),(10,.u32 (rds h (sched p 64) q__.1).f),(11,.u32 (rds h (sched p 64) q__.1).g),(12,.u32 (rds h (sched p 64) q__.1).l),(13,.ptr 13 0 []),(38,.arr 64 1 (kTab.map D.u32)),(39,.int ((q__.1:Nat):Int))],[(13,.var (.arr 64 1 ((sched p 64).map D.u32))),(4,.var (.arr 8 1 ((List.replicate 8 0).map D.u32))),(2,.var (.arr 8 1 (h.map D.u32)))]⟩) (fun q__=>64-q__.1) ⟨(0),bU⟩ O ?_;rintro ⟨t,htl⟩;show W _ _ _ _ ⟨119,[(2,.ptr 2 0 []),(4,.ptr 4 0 []),(5,.u32 (rds h (sched p 64) t).a),(6,.u32 (rds h (sched p 64) t).b),(7,.u32 (rds h (sched p 64) t).c),(8,.u32 (rds h (sched p 64) t).d),(9,.u32 (rds h (sched p 64) t).e),(10,.u32 (rds h (sched p 64) t).f),(11,.u32 (rds h (sched p 64) t).g),(12,.u32 (rds h (sched p 64) t).l),(13,.ptr 13 0 []),(38,.arr 64 1 (kTab.map D.u32)),(39,.int ((t:Nat):Int))],[(13,.var (.arr 64 1 ((sched p 64).map D.u32))),(4,.var (.arr 8 1 ((List.replicate 8 0).map D.u32))),(2,.var (.arr 8 1 (h.map D.u32)))]⟩;have hsl:=DJ p 64;have hkl:kTab.length=64:=rfl;refine z6 1 (y1 40) (V14 2 4 5 6 7 8 9 10 11 12 13 38 39 40) ⟨aU<|I7 64 O O O,Zt⟩ O O O O ?_;refine W.seq ?_;refine z9 O (fun hc40=>?_) (fun hc40=>?_)
 ·refine W.skip (W.seq (W.block (z6 4 (y4 41 42 14 15) (V15 2 4 5 6 7 8 9 10 11 12 13 14 15 38 39) ⟨mU 39 O O,aU fun _ _ H K=>R.ixA (t) (eU K 38 O) (m2 (eU K 39 O)) O (mG kTab) O O O H,aU<|zA O O O,aU<|zA O O O,Zt⟩ O O O O ?_)));refine W.seq ?_;refine w7 (m:=25) (an:=(0::0::2::0::14::30::0::94::254::511::0::0::0::0::12288::30720::64512::131071::0::524287::0::1048576::3145728::8388607::16777215::[])) hP dU O (its:=(.y 43 _::.y 44 _::.y 45 _::.y 46 _::.y 47 _::.y 48 _::.y 49 _::.y 50 _::.y 51 _::.y 52 _::.y 53 _::.y 54 _::.y 55 _::.y 56 _::.y 57 _::.y 58 _::.y 59 _::.y 60 _::.y 61 _::.y 62 _::.y 63 _::.y 64 _::.y 65 _::.y 66 _::.y 16 _::[])) (ks:=[]) (kk:=[]) (live:=[2,4,5,6,7,8,9,10,11,13,16,38,39]) (env':=(V13 2 4 5 6 7 8 9 10 11 13 16 38 39)) (⟨nU O,O,⟨mU 12 O O,mU 9 O O,aU<|t9 hC (U9 _ _) O O O (kI 6 O) O O (F1 (.u32 _)) O,mU 9 O O,aU<|t9 hC (U9 _ _) O O O (kI 11 O) O O (F1 (.u32 _)) O,aU<|zB O O O O,mU 9 O O,aU<|t9 hC (U9 _ _) O O O (kI 25 O) O O (F1 (.u32 _)) O,aU<|zB O O O O,aU<|zB O O O O,mU 11 O O,mU 9 O O,mU 10 O O,mU 11 O O,aU<|zB O O O O,aU<|zB O O O O,aU<|zB O O O O,aU<|zB O O O O,mU 15 O O,aU<|zB O O O O,mU 14 O O,aU<|PW t O O O bU O,aU fun _ B H K=>R.ldP (K 64 _ O) (B 13 _ O) (g8 (mG (sched p 64)) g7 bU) O O O H,aU<|zB O O O O,aU<|zA O O O,Zt⟩,O,O,O⟩) O (bx':=(b3 13 4 2)) O (n':=119) O (tV (V13 2 4 5 6 7 8 9 10 11 13 16 38 39) (b3 13 4 2) 119 O O O ?_);refine z6 19 (y19 67 68 69 70 71 72 73 74 75 76 77 78 79 80 81 82 83 84 17) (V14 2 4 5 6 7 8 9 10 11 13 16 17 38 39) ⟨mU 5 O O,aU<|t9 hC (U9 _ _) O O O (kI 2 O) O O (F1 (.u32 _)) O,mU 5 O O,aU<|t9 hC (U9 _ _) O O O (kI 13 O) O O (F1 (.u32 _)) O,aU<|zB O O O O,mU 5 O O,aU<|t9 hC (U9 _ _) O O O (kI 22 O) O O (F1 (.u32 _)) O,aU<|zB O O O O,mU 5 O O,mU 6 O O,aU<|zB O O O O,mU 7 O O,mU 5 O O,mU 6 O O,aU<|zB O O O O,aU<|zB O O O O,aU<|zB O O O O,aU<|zB O O O O,aU<|zA O O O,Zt⟩ O O O O ?_;refine j1 20 (y20 85 86 87 88 89 90 91 92 93 94 95 96 12 11 10 9 8 7 6 5) (V13 2 4 5 6 7 8 9 10 11 12 13 38 39) ⟨mU 11 O O,mU 10 O O,mU 9 O O,mU 8 O O,mU 16 O O,aU<|zB O O O O,mU 7 O O,mU 6 O O,mU 5 O O,mU 16 O O,mU 17 O O,aU<|zB O O O O,aU<|zA O O O,aU<|zA O O O,aU<|zA O O O,aU<|zA O O O,aU<|zA O O O,aU<|zA O O O,aU<|zA O O O,aU<|zA O O O,Zt⟩ O O O O ?_;refine j1 2 (y2 97 39) (V13 2 4 5 6 7 8 9 10 11 12 13 38 39) ⟨aU<|m8 1 O O bU O,mU 97 O O,Zt⟩ O O O O ?_;exact⟨⟨(t+1),bU⟩,rfl,(by simp only[];omega)⟩
 ·obtain rfl:t=64:=by omega
  refine W.exit (W.seq (z6 10 (y10 98 99 100 101 102 103 104 105 106 107) (V4 2 4 106 107) ⟨mU 5 O O,mU 6 O O,mU 7 O O,mU 8 O O,mU 9 O O,mU 10 O O,mU 11 O O,mU 12 O O,aU fun _ _ H K=>TQ (z:=1) (.cons (eU K 98 O) (.cons (eU K 99 O) (.cons (eU K 100 O) (.cons (eU K 101 O) (.cons (eU K 102 O) (.cons (eU K 103 O) (.cons (eU K 104 O) (.cons (eU K 105 O) .nil)))))))) ⟨⟨O,O,O⟩,⟨O,O,O⟩,⟨O,O,O⟩,⟨O,O,O⟩,⟨O,O,O⟩,⟨O,O,O⟩,⟨O,O,O⟩,⟨O,O,O⟩,Zt⟩ O H,aU<|S3 (kI 0 O) O O,Zt⟩ O O O O ?_));refine W.block ?_;refine W.loop (α:={q__:Nat//q__<=8}) (fun q__=>⟨119,[(2,.ptr 2 0 []),(4,.ptr 4 0 []),(106,.arr 8 1 ((rds h (sched p 64) 64).list.map D.u32)),(107,.int ((q__.1:Nat):Int))],[(13,.var (.arr 64 1 ((sched p 64).map D.u32))),(4,.var (.arr 8 1 ((List.replicate 8 0).map D.u32))),(2,.var (.arr 8 1 ((QJ h (rds h (sched p 64) 64).list q__.1).map D.u32)))]⟩) (fun q__=>8-q__.1) ⟨(0),bU⟩ O ?_;rintro ⟨i,hil⟩;show W _ _ _ _ ⟨119,[(2,.ptr 2 0 []),(4,.ptr 4 0 []),(106,.arr 8 1 ((rds h (sched p 64) 64).list.map D.u32)),(107,.int ((i:Nat):Int))],[(13,.var (.arr 64 1 ((sched p 64).map D.u32))),(4,.var (.arr 8 1 ((List.replicate 8 0).map D.u32))),(2,.var (.arr 8 1 ((QJ h (rds h (sched p 64) 64).list i).map D.u32)))]⟩;have hll:(rds h (sched p 64) 64).list.length=8:=rfl;have hal:=ZS h (rds h (sched p 64) 64).list i;refine z6 1 (y1 108) (V5 2 4 106 107 108) ⟨aU<|I7 8 O O O,Zt⟩ O O O O ?_;refine W.seq ?_;refine z9 O (fun hc108=>?_) (fun hc108=>?_)
  ·refine W.skip (W.seq (W.block (z6 4 (y4 109 110 18 19) (V6 2 4 18 19 106 107) ⟨mU 107 O O,aU fun _ _ H K=>R.ixA (i) (eU K 106 O) (m2 (eU K 107 O)) O (j4 (l:=(rds h (sched p 64) 64).list) bU) O O O H,aU<|zA O O O,aU<|zA O O O,Zt⟩ O O O O ?_)));refine c9 7 (y6 111 112 113 114 115 116) [] [] (V6 2 4 106 107 115 116) ⟨mU 18 O O,aU<|PW i O O O bU O,aU fun _ B H K=>R.ldP (K 112 _ O) (B 2 _ O) (g8 (j4 (l:=(QJ h (rds h (sched p 64) 64).list i)) bU) g7 bU) O O O H,mU 19 O O,aU<|zB O O O O,aU<|PW i O O O bU O,Zt⟩ O O (⟨O,_,r6 (gU 116 O) (xU 2 O) (g8 (j4 (l:=(QJ h (rds h (sched p 64) 64).list i)) bU) g7 bU) (gV 115 O) (by rfl) (by rfl) (by rfl) (by rfl) (A1 (j4 (l:=(QJ h (rds h (sched p 64) 64).list i)) bU) o5 o7),tV (V4 2 4 106 107) (b3 13 4 2) 119 O O O ?_⟩);refine j1 2 (y2 117 107) (V4 2 4 106 107) ⟨aU<|m8 1 O O bU O,mU 117 O O,Zt⟩ O O O O ?_;exact⟨⟨(i+1),bU⟩,rfl,(by simp only[];omega)⟩
  ·obtain rfl:i=8:=by omega
   refine W.exit (z7 2 (y1 118) [] [] (V2 4 118) ⟨aU (lU 2 O O O O O O O),Zt⟩ O O (m1 O O O O O (tV (V1 4) (b3 13 4 2) 119 O O O ?_)));refine W.ret ?_;exact Ends.one' (.inr O) O (O) O O (show LdT _ 153 8 true from inferInstance)
theorem PA(s:ShaS)(b:List UInt8)(hs:s.ok)(hb0:b.length<=1073741824):Fn Tryd.prog gl 73 [MZ s,.sl none 1 (b.map D.u8)] (MZ (E6 s b)):=by
 refine Fn.of (n:=39) Tryd.func73 rfl rfl rfl (nU rfl) fun C hC hD=>?_;refine z7 2 [] [] [] (V2 0 1) Zt O O (⟨O,_,R.box (gV 0 O) O O (nU O),(o0 O O (tV (V3 1 2 4) (b2 4 2) 39 O O O ?_))⟩);refine PE (fun s__=>∃ q__:{q__:Unit//True},s__=⟨39,[(1,.sl none 1 (b.map D.u8)),(2,.ptr 2 0 []),(4,.ptr 4 0 [])],[(4,.var (MZ ShaS.zero)),(2,.var (MZ (bif s.begun then s else ShaS.start)))]⟩) ?_ ?_
 ·refine z6 3 (y3 6 7 8) (V4 1 2 4 8) ⟨aU (fU 2 O O),aU (lU 6 O O O O O O O),aU<|JY O O O,Zt⟩ O O O O ?_;refine W.cond O (fun hc8=>?_) (fun hc8=>?_)
  ·refine c9 2 (y1 9) [] [] (V4 1 2 4 9) ⟨aU fun _ _ H _=>j5 hC (AC) Bn (F1 (KT _)) H,Zt⟩ O O (m1 O O O O O (tV (V3 1 2 4) (b2 4 2) 39 O O O ?_));exact⟨⟨(()),Zt⟩,(by have h0:s.begun=false:=(by simpa using hc8);rw[h0];rfl)⟩
  ·refine u3 (live:=[1,2,4]) (env':=(V3 1 2 4)) (bx':=(b2 4 2)) (n':=39) O O O ?_;refine W.skip ?_;exact⟨⟨(()),Zt⟩,(by have h0:s.begun=true:=(by simpa using hc8);rw[h0];rfl)⟩
 ·rintro s__ ⟨⟨_,_⟩,rfl⟩
  have hs0:(bif s.begun then s else ShaS.start).ok:=by cases s.begun<;>first|exact hs|exact ShaS.start_ok
  refine W.seq (W.block ?_);refine W.loop (α:={q__:ShaS×List UInt8//q__.1.ok/\q__.2.length<=b.length/\GA q__.1 q__.2=E6 s b}) (fun q__=>⟨39,[(1,.sl none 1 (q__.1.2.map D.u8)),(2,.ptr 2 0 []),(4,.ptr 4 0 [])],[(4,.var (MZ ShaS.zero)),(2,.var (MZ q__.1.1))]⟩) (fun q__=>q__.1.2.length) ⟨((bif s.begun then s else ShaS.start),b),⟨hs0,Nat.le_refl _,O⟩⟩ O ?_;rintro ⟨⟨u,c⟩,⟨hu,hcb,heq⟩⟩;show W _ _ _ _ ⟨39,[(1,.sl none 1 (c.map D.u8)),(2,.ptr 2 0 []),(4,.ptr 4 0 [])],[(4,.var (MZ ShaS.zero)),(2,.var (MZ u))]⟩;have hcb:c.length<=b.length:=hcb;have hm:=JD u;have hkl:=kS_le u c;have hkr:=BA u c;have hpl:=UV u c hu;have hpp:=hu.p;refine W.seq (z6 3 (y3 10 11 12) (V4 1 2 4 12) ⟨mU 1 O O,aU<|zN O (lN _) O,aU<|HQ 0 O O O,Zt⟩ O O O O ?_);refine z9 O (fun hc12=>?_) (fun hc12=>?_)
  ·refine W.skip (W.block (z7 8 (y6 13 14 15 16 17 18) [] [] (V5 1 2 4 17 18) ⟨aU (fU 2 O O),aU (fU 2 O O),aU (lU 14 O O O O O O O),aU fun _ _ H K=>R.bin (eU K 15 O) (kW (.int .u64 64) (.u64 64) O) O dU H,aU fun _ B H K=>J4 (mS u) (64) (64-mS u) (K 13 _ O) (B 2 _ O) O (evo64 (eU K 16 O)) O O O bO bU bU H,mU 1 O O,Zt⟩ O O (⟨O,_,IR (k:=kS u c) (l2:=((L7 u c).map D.u8)) (gU 17 O) (xU 2 O) O bO (SrcO.sc (SC.sl (gU 18 O)) (p8 (fun _=>rfl))) (YY (fun _=>rfl)) (nU O) (by simp only[List.length_map];rfl) (by simp only[L7,List.map_append,List.map_take,List.map_drop]) O,(E9 O O O (tV (V4 1 2 4 5) (b2 4 2) 39 O O O ?_))⟩)));refine z6 4 (y4 20 21 22 1) (V4 1 2 4 5) ⟨mU 1 O O,mU 5 O O,aU fun _ _ H K=>R.slIN (kS u c) (c.length) ((c.length-kS u c)) (eU K 20 O) (m2 (eU K 21 O)) O O (by simp) bO (by first|omega|simp) O (rest_map) H,aU<|zA O O O,Zt⟩ O O O O ?_;refine z7 7 (y6 23 24 25 26 27 28) [] [] (V5 1 2 4 27 28) ⟨aU (fU 2 O O),aU (lU 23 O O O O O O O),mU 5 O O,aU<|zW O O O,aU<|zB O O O O,aU (fU 2 O O),Zt⟩ O O (m1 O O O O O (tV (V3 1 2 4) (b2 4 2) 39 O O O ?_));refine z6 4 (y4 29 30 31 32) (V4 1 2 4 32) ⟨aU (fU 2 O O),aU (lU 29 O O O O O O O),aU fun _ _ H K=>R.bin (eU K 30 O) (kW (.int .u64 64) (.u64 64) O) O dU H,aU<|P5 O (kW (.int .u64 0) (.u64 0) O) O O,Zt⟩ O O O O ?_;refine W.cond O (fun hc32=>?_) (fun hc32=>?_)
   ·refine c9 6 (y5 33 34 35 36 37) [] [] (V5 1 2 4 36 37) ⟨aU (fU 2 O O),aU (lU 33 O O O O O O O),aU (fU 2 O O),aU fun _ B H K=>j5 hC (with_ok _ _ hu.h hpl) (Bc (Bp (eU K 34 O) O O) (Bc (Bor.ptr (K 35 _ O) (B 2 _ O) O (brw_arr (fun _=>rfl)) O) Bn)) (F1 (.arr _ _ _ (u2 fun _=>.u32 _))) H,aU (fU 2 O O),Zt⟩ O O (m1 O O O O O (tV (V3 1 2 4) (b2 4 2) 39 O O O ?_));exact⟨⟨(N7 u c,c.drop (kS u c)),⟨UE u c hu,by simp only[List.length_drop];omega,by rw[<- N3 u c (by omega)];exact heq⟩⟩,(by simp only[N7];first|(rw[show(nS u c%64==0)=true from hc32];rfl)|(rw[show(nS u c%64==0)=false from hc32];rfl)),(by have:=f8 u c (by omega);show(c.drop (kS u c)).length<c.length;simp only[List.length_drop];omega)⟩
   ·refine u3 (live:=[1,2,4]) (env':=(V3 1 2 4)) (bx':=(b2 4 2)) (n':=39) O O O ?_;refine W.skip ?_;exact⟨⟨(N7 u c,c.drop (kS u c)),⟨UE u c hu,by simp only[List.length_drop];omega,by rw[<- N3 u c (by omega)];exact heq⟩⟩,(by simp only[N7];first|(rw[show(nS u c%64==0)=true from hc32];rfl)|(rw[show(nS u c%64==0)=false from hc32];rfl)),(by have:=f8 u c (by omega);show(c.drop (kS u c)).length<c.length;simp only[List.length_drop];omega)⟩
  ·have hw:=W9 u c (by omega);rw[hw] at heq;refine W.exit (z7 2 (y1 38) [] [] (V2 4 38) ⟨aU (lU 2 O O O O O O O),Zt⟩ O O (m1 O O O O O (tV (V1 4) (b2 4 2) 39 O O O ?_)));refine W.ret ?_;exact Ends.one' (.inr O) O (congrArg MZ heq) O O (show LdT _ 156 74 true from inferInstance)
theorem end_ok(s:ShaS)(hs:s.ok):Fn Tryd.prog gl 74 [MZ s] (z5 (endS s)):=by
 refine Fn.of (n:=54) Tryd.func74 rfl rfl rfl (nU rfl) fun C hC hD=>?_;refine z7 2 [] [] [] (V1 0) Zt O O (⟨O,_,R.box (gV 0 O) O O (nU O),(o0 O O (tV (V2 1 2) (b2 2 1) 54 O O O ?_))⟩);refine z6 4 (y4 8 9 10 3) (V3 1 2 3) ⟨aU (fU 1 O O),aU (lU 8 O O O O O O O),aU<|P5 O (kW (.int .u64 8) (.u64 8) O) O O,aU<|zA O O O,Zt⟩ O O O O ?_;refine z7 4 (y3 11 12 13) [] [] (V4 1 2 3 13) ⟨aU (lU 1 O O O O O O O),aU fun _ _ H _=>w9 (z:=1) (.cons (kW (.int .u8 128) (.u8 128) O) .nil) ⟨⟨O,O,O⟩,Zt⟩ O H dU,aU fun _ _ H K=>j5 hC (PA s [128] hs dU) (Bc (Bp (eU K 11 O) O O) (Bc (Bor.sc (SC.sl (K 12 _ O)) O) Bn)) (F1 (KT _)) H,Zt⟩ O O (m1 O O O O O (tV (V3 1 2 3) (b2 2 1) 54 O O O ?_));refine W.seq (W.block ?_);refine W.loop (α:={q__:ShaS//q__.ok/\q__.begun=true/\NM (t5 q__) q__=EI s}) (fun q__=>⟨54,[(1,.ptr 1 0 []),(2,.ptr 2 0 []),(3,.u64 (s.n*8))],[(2,.var (z5 (List.replicate 32 0))),(1,.var (MZ q__.1))]⟩) (fun q__=>t5 q__.1) ⟨(pad1 s),⟨UK s _ hs,GE s _,O⟩⟩ O ?_;rintro ⟨u,⟨hu,hub,heq⟩⟩;show W _ _ _ _ ⟨54,[(1,.ptr 1 0 []),(2,.ptr 2 0 []),(3,.u64 (s.n*8))],[(2,.var (z5 (List.replicate 32 0))),(1,.var (MZ u))]⟩;refine W.seq (z6 4 (y4 14 15 16 17) (V4 1 2 3 17) ⟨aU (fU 1 O O),aU (lU 14 O O O O O O O),aU fun _ _ H K=>R.bin (eU K 15 O) (kW (.int .u64 64) (.u64 64) O) O dU H,aU<|P5 O (kW (.int .u64 56) (.u64 56) O) O O,Zt⟩ O O O O ?_);refine W.cond O (fun hc17=>?_) (fun hc17=>?_)
 ·refine W.skip (W.block ?_);refine c9 4 (y3 18 19 20) [] [] (V4 1 2 3 20) ⟨aU (lU 1 O O O O O O O),aU fun _ _ H _=>w9 (z:=1) (.cons (kW (.int .u8 0) (.u8 0) O) .nil) ⟨⟨O,O,O⟩,Zt⟩ O H dU,aU fun _ _ H K=>j5 hC (PA u [0] hu dU) (Bc (Bp (eU K 18 O) O O) (Bc (Bor.sc (SC.sl (K 19 _ O)) O) Bn)) (F1 (KT _)) H,Zt⟩ O O (m1 O O O O O (tV (V3 1 2 3) (b2 2 1) 54 O O O ?_));exact⟨⟨(E6 u [0]),⟨UK u _ hu,GE u _,by rw[pad_step u hub (mS_ne hc17)] at heq;exact heq⟩⟩,rfl,(by have:=pad_less u hub (mS_ne hc17);simp only[];omega)⟩
 ·have hp0:t5 u=0:=pad_end u (mS_eq hc17);rw[hp0] at heq;obtain rfl:u=EI s:=heq;have hs2:=hu;refine W.exit (z7 1 [] [] [] (V3 1 2 3) Zt O O (o0 O O (tV (V4 1 2 3 4) (b3 4 2 1) 54 O O O ?_)));refine W.seq (z6 1 (y1 21) (V5 1 2 3 4 21) ⟨aU<|S3 (kI 0 O) O O,Zt⟩ O O O O ?_);refine W.block ?_;refine W.loop (α:={q__:Nat//q__<=8}) (fun q__=>⟨54,[(1,.ptr 1 0 []),(2,.ptr 2 0 []),(3,.u64 (s.n*8)),(4,.ptr 4 0 []),(21,.int ((q__.1:Nat):Int))],[(4,.var (.arr 8 1 ((N8 (s.n*8) q__.1).map D.u8))),(2,.var (z5 (List.replicate 32 0))),(1,.var (MZ (EI s)))]⟩) (fun q__=>8-q__.1) ⟨(0),bU⟩ O ?_;rintro ⟨i,hil⟩;show W _ _ _ _ ⟨54,[(1,.ptr 1 0 []),(2,.ptr 2 0 []),(3,.u64 (s.n*8)),(4,.ptr 4 0 []),(21,.int ((i:Nat):Int))],[(4,.var (.arr 8 1 ((N8 (s.n*8) i).map D.u8))),(2,.var (z5 (List.replicate 32 0))),(1,.var (MZ (EI s)))]⟩;have hll:=KP (s.n*8) i;refine z6 1 (y1 22) (V6 1 2 3 4 21 22) ⟨aU<|I7 8 O O O,Zt⟩ O O O O ?_;refine W.seq ?_;refine z9 O (fun hc22=>?_) (fun hc22=>?_)
  ·refine W.skip (W.seq (W.block (z6 2 (y2 23 5) (V6 1 2 3 4 5 21) ⟨mU 21 O O,aU<|zA O O O,Zt⟩ O O O O ?_)));refine c9 9 (y8 24 25 26 27 28 29 30 31) [] [] (V7 1 2 3 4 21 30 31) ⟨mU 5 O O,mU 3 O O,mU 5 O O,aU<|E8 8 O O bU O,aU fun _ _ H K=>QX (56) ((8*i)) (kI 56 O) (eU K 27 O) bU bU H,aU fun _ _ H K=>R.bin (eU K 25 O) (eU K 28 O) O (show(0:Int)<=_ from Int.natCast_nonneg _) H,aU<|zW O O O,aU<|PW i O O O bU O,Zt⟩ O O (⟨O,_,r6 (gU 31 O) (xU 4 O) (g8 (mG (N8 (s.n*8) i)) g7 bU) (gV 30 O) (by rfl) (by rfl) (by rfl) (by rfl) (A1 (mG (N8 (s.n*8) i)) o5 o7),tV (V5 1 2 3 4 21) (b3 4 2 1) 54 O O O ?_⟩);refine j1 2 (y2 32 21) (V5 1 2 3 4 21) ⟨aU<|m8 1 O O bU O,mU 32 O O,Zt⟩ O O O O ?_;exact⟨⟨(i+1),bU⟩,rfl,(by simp only[];omega)⟩
  ·obtain rfl:i=8:=by omega
   refine W.exit (W.seq ?_);refine w7 (m:=3) (an:=[0,0,3,7]) hP dU O (its:=[.y 33 _,.y 34 _,.y 35 _]) (ks:=[]) (kk:=[]) (live:=[1,2,35]) (env':=(V3 1 2 35)) (⟨nU O,O,⟨aU (lU 1 O O O O O O O),aU fun _ B H K=>J4 (0) (8) (8) (K 4 _ O) (B 4 _ O) O O O O O bU bU O H,aU fun _ B H K=>j5 hC (PA _ _ hs2 (by simp[KP])) (Bc (Bp (eU K 33 O) O O) (Bc (Bor.sc (SC.va (K 34 _ O) (B 4 _ O) O bU) (XV (fun _=>rfl) (KP _ _))) Bn)) (F1 (KT _)) H,Zt⟩,O,O,O⟩) O (bx':=(b3 4 2 1)) O (n':=54) O (m1 O O O O O (tV (V2 1 2) (b3 4 2 1) 54 O O O ?_));refine z7 1 [] [] [] (V2 1 2) Zt O O (o0 O O (tV (V3 1 2 6) (b4 6 4 2 1) 54 O O O ?_));refine W.seq (z6 1 (y1 36) (V4 1 2 6 36) ⟨aU<|S3 (kI 0 O) O O,Zt⟩ O O O O ?_);refine W.block ?_;refine W.loop (α:={q__:Nat//q__<=32}) (fun q__=>⟨54,[(1,.ptr 1 0 []),(2,.ptr 2 0 []),(6,.ptr 6 0 []),(36,.int ((q__.1:Nat):Int))],[(6,.var (z5 (YZ (JI s).h q__.1))),(4,.var (.arr 8 1 ((N8 (s.n*8) 8).map D.u8))),(2,.var (z5 (List.replicate 32 0))),(1,.var (MZ (JI s)))]⟩) (fun q__=>32-q__.1) ⟨(0),bU⟩ O ?_;rintro ⟨i,hil⟩;show W _ _ _ _ ⟨54,[(1,.ptr 1 0 []),(2,.ptr 2 0 []),(6,.ptr 6 0 []),(36,.int ((i:Nat):Int))],[(6,.var (z5 (YZ (JI s).h i))),(4,.var (.arr 8 1 ((N8 (s.n*8) 8).map D.u8))),(2,.var (z5 (List.replicate 32 0))),(1,.var (MZ (JI s)))]⟩;have hol:=NA (JI s).h i;have h3:(JI s).ok:=UK _ _ hs2;have h3l:=h3.h;refine z6 1 (y1 37) (V5 1 2 6 36 37) ⟨aU<|I7 32 O O O,Zt⟩ O O O O ?_;refine W.seq ?_;refine z9 O (fun hc37=>?_) (fun hc37=>?_)
   ·refine W.skip (W.seq (W.block (z6 2 (y2 38 7) (V5 1 2 6 7 36) ⟨mU 36 O O,aU<|zA O O O,Zt⟩ O O O O ?_)));refine c9 14 (y13 39 40 41 42 43 44 45 46 47 48 49 50 51) [] [] (V6 1 2 6 36 50 51) ⟨mU 7 O O,mU 7 O O,aU fun _ _ H K=>O8 (i) (4) (eU K 40 O) (kI 4 O) bU bU H,aU (fU 1 O O),aU<|PW ((i/4)) O O O bU O,aU fun _ B H K=>R.ldP (K 43 _ O) (B 1 _ O) (loc_agg (m:=1) O O (g8 (j4 (l:=(JI s).h) bU) g7 O) bU) O O O H,mU 7 O O,aU fun _ _ H K=>E7 (i) (4) (eU K 45 O) (kI 4 O) bU H,aU<|E8 8 O O bU O,aU fun _ _ H K=>QX (24) ((8*(i%4))) (kI 24 O) (eU K 47 O) bU bU H,aU fun _ _ H K=>R.bin (eU K 44 O) (eU K 48 O) O (show(0:Int)<=_ from Int.natCast_nonneg _) H,aU<|zW O O O,aU<|PW i O O O bU O,Zt⟩ O O (⟨O,_,r6 (gU 51 O) (xU 6 O) (g8 (mG (YZ (JI s).h i)) g7 bU) (gV 50 O) (by rfl) (by rfl) (by rfl) (by rfl) (A1 (mG (YZ (JI s).h i)) o5 o7),tV (V4 1 2 6 36) (b4 6 4 2 1) 54 O O O ?_⟩);refine j1 2 (y2 52 36) (V4 1 2 6 36) ⟨aU<|m8 1 O O bU O,mU 52 O O,Zt⟩ O O O O ?_;exact⟨⟨(i+1),bU⟩,rfl,(by simp only[];omega)⟩
   ·obtain rfl:i=32:=by omega
    refine W.exit (z7 2 (y1 53) [] [] (V2 2 53) ⟨aU (lU 6 O O O O O O O),Zt⟩ O O (m1 O O O O O (tV (V1 2) (b4 6 4 2 1) 54 O O O ?_)));refine W.ret ?_;exact Ends.one' (.inr O) O (O) O O (show LdT _ 26 32 true from inferInstance)
theorem UO(b:List UInt8)(hb0:b.length<=1073741824):Fn Tryd.prog gl 49 [.sl none 1 (b.map D.u8)] (z5 (S9 b)):=by
 refine Fn.of (n:=7) Tryd.func49 rfl rfl rfl (nU rfl) fun C hC hD=>?_;refine z7 1 [] [] [] (V1 0) Zt O O (o0 O O (tV (V2 0 2) (b1 2) 7 O O O ?_));refine z7 5 (y4 3 4 5 6) [] [] (V2 2 6) ⟨aU fun _ _ H _=>j5 hC (AC) Bn (F1 (KT _)) H,mU 0 O O,aU<|zD hC (PA _ _ ShaS.start_ok hb0) O O O O O O (F1 (KT _)) O,aU<|zC hC (end_ok _ (UK _ _ ShaS.start_ok)) O O O (F1 (d9 _)) O,Zt⟩ O O (m1 O O O O O (tV (V1 2) (b1 2) 7 O O O ?_));refine W.ret ?_;exact Ends.one' (.inr O) O (O) O O (show LdT _ 26 32 true from inferInstance)
theorem UC(b:List UInt8)(hb0:b.length<=1073741824):Fn Tryd.prog gl 69 [.sl none 1 (b.map D.u8)] (z5 (S7 b)):=by
 refine Fn.of (n:=8) Tryd.func69 rfl rfl rfl (nU rfl) fun C hC hD=>?_;refine z7 1 [] [] [] (V1 0) Zt O O (o0 O O (tV (V2 0 2) (b1 2) 8 O O O ?_));refine z7 4 (y2 4 5) [] [] (V2 2 5) ⟨mU 0 O O,aU<|zC hC (UO _ hb0) O O O (F1 (d9 _)) O,Zt⟩ O O (o0 O O (m1 O O O O O (tV (V2 2 3) (b2 3 2) 8 O O O ?_)));refine z7 3 (y2 6 7) [] [] (V2 2 7) ⟨aU fun _ B H K=>J4 (0) (32) (32) (K 3 _ O) (B 3 _ O) O O O O O bU bU O H,aU fun _ B H K=>j5 hC (UO (S9 b) (by rw[UA];decide)) (Bc (Bor.sc (SC.va (K 6 _ O) (B 3 _ O) O bU) (XV (fun _=>rfl) (UA _))) Bn) (F1 (d9 _)) H,Zt⟩ O O (m1 O O O O O (tV (V1 2) (b2 3 2) 8 O O O ?_));refine W.ret ?_;exact Ends.one' (.inr O) O (O) O O (show LdT _ 26 32 true from inferInstance)
end Go.Sx

namespace Go.Sx
open Go.Proofs
theorem k_ok:Fn Tryd.prog gl 52 [] (.sl (some 32) 1 (kTab.map D.u32)):=by
 refine Fn.of (n:=2) Tryd.func52 rfl rfl rfl (nU rfl) fun C hC hD=>?_;refine z6 1 (y1 0) [] ⟨aU<|zK (kN O) O O,Zt⟩ O O O O ?_;refine z7 2 (y2 1 0) [(1,1)] [(1,1)] (V1 0) ⟨aU fun _ _ H _=>w9 (z:=1) (.cons (kW (.int .u32 1116352408) (.u32 1116352408) O) (.cons (kW (.int .u32 1899447441) (.u32 1899447441) O) (.cons (kW (.int .u32 3049323471) (.u32 3049323471) O) (.cons (kW (.int .u32 3921009573) (.u32 3921009573) O) (.cons (kW (.int .u32 961987163) (.u32 961987163) O) (.cons (kW (.int .u32 1508970993) (.u32 1508970993) O) (.cons (kW (.int .u32 2453635748) (.u32 2453635748) O) (.cons (kW (.int .u32 2870763221) (.u32 2870763221) O) (.cons (kW (.int .u32 3624381080) (.u32 3624381080) O) (.cons (kW (.int .u32 310598401) (.u32 310598401) O) (.cons (kW (.int .u32 607225278) (.u32 607225278) O) (.cons (kW (.int .u32 1426881987) (.u32 1426881987) O) (.cons (kW (.int .u32 1925078388) (.u32 1925078388) O) (.cons (kW (.int .u32 2162078206) (.u32 2162078206) O) (.cons (kW (.int .u32 2614888103) (.u32 2614888103) O) (.cons (kW (.int .u32 3248222580) (.u32 3248222580) O) (.cons (kW (.int .u32 3835390401) (.u32 3835390401) O) (.cons (kW (.int .u32 4022224774) (.u32 4022224774) O) (.cons (kW (.int .u32 264347078) (.u32 264347078) O) (.cons (kW (.int .u32 604807628) (.u32 604807628) O) (.cons (kW (.int .u32 770255983) (.u32 770255983) O) (.cons (kW (.int .u32 1249150122) (.u32 1249150122) O) (.cons (kW (.int .u32 1555081692) (.u32 1555081692) O) (.cons (kW (.int .u32 1996064986) (.u32 1996064986) O) (.cons (kW (.int .u32 2554220882) (.u32 2554220882) O) (.cons (kW (.int .u32 2821834349) (.u32 2821834349) O) (.cons (kW (.int .u32 2952996808) (.u32 2952996808) O) (.cons (kW (.int .u32 3210313671) (.u32 3210313671) O) (.cons (kW (.int .u32 3336571891) (.u32 3336571891) O) (.cons (kW (.int .u32 3584528711) (.u32 3584528711) O) (.cons (kW (.int .u32 113926993) (.u32 113926993) O) (.cons (kW (.int .u32 338241895) (.u32 338241895) O) (.cons (kW (.int .u32 666307205) (.u32 666307205) O) (.cons (kW (.int .u32 773529912) (.u32 773529912) O) (.cons (kW (.int .u32 1294757372) (.u32 1294757372) O) (.cons (kW (.int .u32 1396182291) (.u32 1396182291) O) (.cons (kW (.int .u32 1695183700) (.u32 1695183700) O) (.cons (kW (.int .u32 1986661051) (.u32 1986661051) O) (.cons (kW (.int .u32 2177026350) (.u32 2177026350) O) (.cons (kW (.int .u32 2456956037) (.u32 2456956037) O) (.cons (kW (.int .u32 2730485921) (.u32 2730485921) O) (.cons (kW (.int .u32 2820302411) (.u32 2820302411) O) (.cons (kW (.int .u32 3259730800) (.u32 3259730800) O) (.cons (kW (.int .u32 3345764771) (.u32 3345764771) O) (.cons (kW (.int .u32 3516065817) (.u32 3516065817) O) (.cons (kW (.int .u32 3600352804) (.u32 3600352804) O) (.cons (kW (.int .u32 4094571909) (.u32 4094571909) O) (.cons (kW (.int .u32 275423344) (.u32 275423344) O) (.cons (kW (.int .u32 430227734) (.u32 430227734) O) (.cons (kW (.int .u32 506948616) (.u32 506948616) O) (.cons (kW (.int .u32 659060556) (.u32 659060556) O) (.cons (kW (.int .u32 883997877) (.u32 883997877) O) (.cons (kW (.int .u32 958139571) (.u32 958139571) O) (.cons (kW (.int .u32 1322822218) (.u32 1322822218) O) (.cons (kW (.int .u32 1537002063) (.u32 1537002063) O) (.cons (kW (.int .u32 1747873779) (.u32 1747873779) O) (.cons (kW (.int .u32 1955562222) (.u32 1955562222) O) (.cons (kW (.int .u32 2024104815) (.u32 2024104815) O) (.cons (kW (.int .u32 2227730452) (.u32 2227730452) O) (.cons (kW (.int .u32 2361852424) (.u32 2361852424) O) (.cons (kW (.int .u32 2428436474) (.u32 2428436474) O) (.cons (kW (.int .u32 2756734187) (.u32 2756734187) O) (.cons (kW (.int .u32 3204031479) (.u32 3204031479) O) (.cons (kW (.int .u32 3329325298) (.u32 3329325298) O) .nil)))))))))))))))))))))))))))))))))))))))))))))))))))))))))))))))) ⟨⟨O,O,O⟩,⟨O,O,O⟩,⟨O,O,O⟩,⟨O,O,O⟩,⟨O,O,O⟩,⟨O,O,O⟩,⟨O,O,O⟩,⟨O,O,O⟩,⟨O,O,O⟩,⟨O,O,O⟩,⟨O,O,O⟩,⟨O,O,O⟩,⟨O,O,O⟩,⟨O,O,O⟩,⟨O,O,O⟩,⟨O,O,O⟩,⟨O,O,O⟩,⟨O,O,O⟩,⟨O,O,O⟩,⟨O,O,O⟩,⟨O,O,O⟩,⟨O,O,O⟩,⟨O,O,O⟩,⟨O,O,O⟩,⟨O,O,O⟩,⟨O,O,O⟩,⟨O,O,O⟩,⟨O,O,O⟩,⟨O,O,O⟩,⟨O,O,O⟩,⟨O,O,O⟩,⟨O,O,O⟩,⟨O,O,O⟩,⟨O,O,O⟩,⟨O,O,O⟩,⟨O,O,O⟩,⟨O,O,O⟩,⟨O,O,O⟩,⟨O,O,O⟩,⟨O,O,O⟩,⟨O,O,O⟩,⟨O,O,O⟩,⟨O,O,O⟩,⟨O,O,O⟩,⟨O,O,O⟩,⟨O,O,O⟩,⟨O,O,O⟩,⟨O,O,O⟩,⟨O,O,O⟩,⟨O,O,O⟩,⟨O,O,O⟩,⟨O,O,O⟩,⟨O,O,O⟩,⟨O,O,O⟩,⟨O,O,O⟩,⟨O,O,O⟩,⟨O,O,O⟩,⟨O,O,O⟩,⟨O,O,O⟩,⟨O,O,O⟩,⟨O,O,O⟩,⟨O,O,O⟩,⟨O,O,O⟩,⟨O,O,O⟩,Zt⟩ O H dU,aU<|zO O O O,Zt⟩ O O (tU O ?_);refine W.ret ?_;exact Ends.one' (.inr O) O (O) O O Zt
theorem K7(x:UInt32)(n:UInt64):Fn Tryd.prog gl 54 [.u32 x,.u64 n] (.u32 (rright x n)):=by
 refine Fn.of (n:=13) Tryd.func54 rfl rfl rfl (nU rfl) fun C hC hD=>?_;refine z6 1 (y1 4) (V2 0 1) ⟨aU<|zK (kW (.int .u32 0) (.u32 0) O) O O,Zt⟩ O O O O ?_;refine z6 9 (y9 5 6 7 8 9 10 11 12 4) (V1 4) ⟨mU 0 O O,mU 1 O O,aU fun _ _ H K=>R.bin (eU K 5 O) (eU K 6 O) O bV H,mU 0 O O,mU 1 O O,aU fun _ _ H K=>R.bin (kW (.int .u64 32) (.u64 32) O) (eU K 9 O) O Zt H,aU fun _ _ H K=>R.bin (eU K 8 O) (eU K 10 O) O bV H,aU<|zB O O O O,aU<|zA O O O,Zt⟩ O O O O ?_;refine W.ret ?_;exact Ends.one' (.inr O) O (O) O O Zt
theorem WW(p:List UInt8)(hp:p.length=64):Fn Tryd.prog gl 53 [.sl none 1 (p.map D.u8)] (.sl (some 32) 1 ((wR p 64).map D.u32)):=by
 refine Fn.of (n:=99) Tryd.func53 rfl rfl rfl (nU rfl) fun C hC hD=>?_;refine z6 1 (y1 2) (V1 0) ⟨aU<|zK (kN O) O O,Zt⟩ O O O O ?_;refine z6 1 (y1 3) (V2 0 3) ⟨aU<|zK (kN O) O O,Zt⟩ O O O O ?_;refine W.seq (z6 1 (y1 4) (V3 0 3 4) ⟨aU<|zK (kI 0 O) O O,Zt⟩ O O O O ?_);refine W.block ?_;refine Q7 (s:=3) 32 1 O ?_;refine W.loop (α:={q__:Nat//q__<=16}) (fun q__=>⟨99,[(0,.sl none 1 (p.map D.u8)),(3,.sl (some 32) 1 ((wR p q__.1).map D.u32)),(4,.int ((q__.1:Nat):Int))],[]⟩) (fun q__=>16-q__.1) ⟨(0),bU⟩ O ?_;rintro ⟨t,htl⟩;show W _ _ _ _ ⟨99,[(0,.sl none 1 (p.map D.u8)),(3,.sl (some 32) 1 ((wR p t).map D.u32)),(4,.int ((t:Nat):Int))],[]⟩;have hwl:=CE p t;refine W.seq (z6 2 (y2 10 11) (V4 0 3 4 11) ⟨mU 4 O O,aU<|I7 16 O O O,Zt⟩ O O O O ?_);refine z9 O (fun hc11=>?_) (fun hc11=>?_)
 ·refine W.skip (W.seq (W.block ?_));refine w7 (m:=37) (an:=(0::0::0::4::14::30::62::126::0::0::512::1536::3840::7936::16128::32512::65534::0::0::262144::786432::1966080::4063232::8257536::16646144::33554430::0::0::134217728::402653184::1006632960::2080374784::4227858432::8589934590::17179869182::34359738367::68719476735::[])) hP dU O (its:=(.y 14 _::.y 15 _::.y 16 _::.y 17 _::.y 18 _::.y 19 _::.y 20 _::.y 21 _::.y 22 _::.y 23 _::.y 24 _::.y 25 _::.y 26 _::.y 27 _::.y 28 _::.y 29 _::.y 30 _::.y 31 _::.y 32 _::.y 33 _::.y 34 _::.y 35 _::.y 36 _::.y 37 _::.y 38 _::.y 39 _::.y 40 _::.y 41 _::.y 42 _::.y 43 _::.y 44 _::.y 45 _::.y 46 _::.y 47 _::.y 48 _::.y 49 _::.y 3 _::[])) (ks:=[(35,3),(36,49),(36,14)]) (kk:=[(35,3),(36,49)]) (live:=[0,3,4]) (env':=(V3 0 3 4)) (⟨nU O,O,⟨aU<|zM O O,mU 0 O O,mU 4 O O,aU<|E8 4 O O bU O,aU<|zI ((4*t)) O O O bU O,aU<|zL O O (mG p) O O O O O,aU<|zW O O O,aU fun _ _ H K=>R.bin (eU K 20 O) (kW (.int .u64 24) (.u64 24) O) O bV H,mU 0 O O,mU 4 O O,aU<|E8 4 O O bU O,aU<|m8 1 O O bU O,aU<|zI (((4*t)+1)) O O O bU O,aU<|zL O O (mG p) O O O O O,aU<|zW O O O,aU fun _ _ H K=>R.bin (eU K 28 O) (kW (.int .u64 16) (.u64 16) O) O bV H,aU<|zB O O O O,mU 0 O O,mU 4 O O,aU<|E8 4 O O bU O,aU<|m8 2 O O bU O,aU<|zI (((4*t)+2)) O O O bU O,aU<|zL O O (mG p) O O O O O,aU<|zW O O O,aU fun _ _ H K=>R.bin (eU K 37 O) (kW (.int .u64 8) (.u64 8) O) O bV H,aU<|zB O O O O,mU 0 O O,mU 4 O O,aU<|E8 4 O O bU O,aU<|m8 3 O O bU O,aU<|zI (((4*t)+3)) O O O bU O,aU<|zL O O (mG p) O O O O O,aU<|zW O O O,aU<|zB O O O O,aU fun _ _ H K=>w9 (z:=1) (.cons (eU K 47 O) .nil) ⟨⟨O,O,O⟩,Zt⟩ O H dU,aU<|R5 O O O (g6 O) (R3) bU O,aU<|zO O O O,Zt⟩,O,O,O⟩) O (bx':=[]) O (n':=99) O (tV (V3 0 3 4) [] 99 O O O ?_);refine j1 3 (y3 12 13 4) (V3 0 3 4) ⟨mU 4 O O,aU<|m8 1 O O bU O,aU<|zA O O O,Zt⟩ O O O O ?_;exact⟨⟨(t+1),bU⟩,(by simp only[wR];rw[if_pos hc11];rfl),(by simp only[];omega)⟩
 ·obtain rfl:t=16:=by omega
  refine W.exit (W.seq (z6 1 (y1 5) (V2 3 5) ⟨aU<|zK (kI 16 O) O O,Zt⟩ O O O O ?_));refine W.block ?_;refine W.loop (α:={q__:Nat//16<=q__/\q__<=64}) (fun q__=>⟨99,[(3,.sl (some 32) 1 ((wR p q__.1).map D.u32)),(5,.int ((q__.1:Nat):Int))],[]⟩) (fun q__=>64-q__.1) ⟨(16),bU⟩ O ?_;rintro ⟨t,⟨ht16,htl⟩⟩;show W _ _ _ _ ⟨99,[(3,.sl (some 32) 1 ((wR p t).map D.u32)),(5,.int ((t:Nat):Int))],[]⟩;have hwl:=CE p t;refine W.seq (z6 2 (y2 50 51) (V3 3 5 51) ⟨mU 5 O O,aU<|I7 64 O O O,Zt⟩ O O O O ?_);refine z9 O (fun hc51=>?_) (fun hc51=>?_)
  ·refine W.skip (W.seq (W.block (z6 6 (y6 54 55 56 57 58 6) (V3 3 5 6) ⟨aU<|zM O O,mU 5 O O,aU<|GW 15 O O bU bU O,aU<|t3 ((t-15)) O O O O bU O,aU<|I8 O O O (mG (wR p t)) O O O O O,aU<|zA O O O,Zt⟩ O O O O ?_)));refine z6 6 (y6 59 60 61 62 63 7) (V4 3 5 6 7) ⟨aU<|zM O O,mU 5 O O,aU<|GW 2 O O bU bU O,aU<|t3 ((t-2)) O O O O bU O,aU<|I8 O O O (mG (wR p t)) O O O O O,aU<|zA O O O,Zt⟩ O O O O ?_;refine z6 9 (y9 64 65 66 67 68 69 70 71 8) (V4 3 5 7 8) ⟨mU 6 O O,aU<|t9 hC (K7 _ _) O O O (kW (.int .u64 7) (.u64 7) O) O O (F1 (.u32 _)) O,mU 6 O O,aU<|t9 hC (K7 _ _) O O O (kW (.int .u64 18) (.u64 18) O) O O (F1 (.u32 _)) O,aU<|zB O O O O,mU 6 O O,aU fun _ _ H K=>R.bin (eU K 69 O) (kW (.int .u64 3) (.u64 3) O) O bV H,aU<|zB O O O O,aU<|zA O O O,Zt⟩ O O O O ?_;refine z6 9 (y9 72 73 74 75 76 77 78 79 9) (V4 3 5 8 9) ⟨mU 7 O O,aU<|t9 hC (K7 _ _) O O O (kW (.int .u64 17) (.u64 17) O) O O (F1 (.u32 _)) O,mU 7 O O,aU<|t9 hC (K7 _ _) O O O (kW (.int .u64 19) (.u64 19) O) O O (F1 (.u32 _)) O,aU<|zB O O O O,mU 7 O O,aU fun _ _ H K=>R.bin (eU K 77 O) (kW (.int .u64 10) (.u64 10) O) O bV H,aU<|zB O O O O,aU<|zA O O O,Zt⟩ O O O O ?_;refine w7 (m:=19) (an:=[0,0,0,0,8,28,60,126,0,510,0,0,2048,7168,15360,32766,65534,131071,262143]) hP dU O (its:=[.y 80 _,.y 81 _,.y 82 _,.y 83 _,.y 84 _,.y 85 _,.y 86 _,.y 87 _,.y 88 _,.y 89 _,.y 90 _,.y 91 _,.y 92 _,.y 93 _,.y 94 _,.y 95 _,.y 96 _,.y 97 _,.y 3 _]) (ks:=[(17,3),(18,97),(18,80),(18,82),(18,90)]) (kk:=[(17,3),(18,97)]) (live:=[3,5]) (env':=(V2 3 5)) (⟨nU O,O,⟨aU<|zM O O,mU 9 O O,aU<|zM O O,mU 5 O O,aU<|GW 7 O O bU bU O,aU<|t3 ((t-7)) O O O O bU O,aU<|I8 O O O (mG (wR p t)) O O O O O,aU<|zB O O O O,mU 8 O O,aU<|zB O O O O,aU<|zM O O,mU 5 O O,aU<|GW 16 O O bU bU O,aU<|t3 ((t-16)) O O O O bU O,aU<|I8 O O O (mG (wR p t)) O O O O O,aU<|zB O O O O,aU fun _ _ H K=>w9 (z:=1) (.cons (eU K 95 O) .nil) ⟨⟨O,O,O⟩,Zt⟩ O H dU,aU<|R5 O O O (g6 O) (R3) bU O,aU<|zO O O O,Zt⟩,O,O,O⟩) O (bx':=[]) O (n':=99) O (tV (V2 3 5) [] 99 O O O ?_);refine j1 3 (y3 52 53 5) (V2 3 5) ⟨mU 5 O O,aU<|m8 1 O O bU O,aU<|zA O O O,Zt⟩ O O O O ?_;exact⟨⟨(t+1),bU⟩,(by simp only[wR];rw[if_neg (by omega)];rfl),(by simp only[];omega)⟩
  ·obtain rfl:t=64:=by omega
   refine W.exit (z7 2 (y2 98 2) [(0,3),(1,98)] [(0,3),(1,98)] (V1 2) ⟨aU fun _ _ H K=>G3 (K 3 _ O) O H dU,aU<|zO O O O,Zt⟩ O O (tU O ?_));refine W.ret ?_;exact Ends.one' (.inr O) O (O) O O Zt
theorem text_ok(b:List UInt8)(hb0:b.length<=1000000000):Fn Tryd.prog gl 51 [.sl none 1 (b.map D.u8)] (.sl (some 5) 1 ((w6 b).map D.u8)):=by
 refine Fn.of (n:=37) Tryd.func51 rfl rfl rfl (nU rfl) fun C hC hD=>?_;refine z6 1 (y1 2) (V1 0) ⟨aU<|zK (kN O) O O,Zt⟩ O O O O ?_;refine z7 4 (y4 6 7 8 3) [(2,6),(3,8)] [(2,6),(3,8)] (V2 0 3) ⟨aU fun _ _ H _=>w9 .nil Zt O H dU,mU 0 O O,aU fun _ _ H K=>Q6 (Or.inl O) (K 6 _ O) (SrcO.sc (SC.sl (K 7 _ O)) (p8 (fun _=>rfl))) (List.nil_append _) bU H dU dU,aU<|zO O O O,Zt⟩ O O (tU O ?_);refine z7 4 (y4 9 10 11 3) [(2,3),(3,11),(3,9)] [(2,3),(3,11)] (V2 0 3) ⟨aU<|zM O O,aU fun _ _ H _=>w9 (z:=1) (.cons (kW (.int .u8 128) (.u8 128) O) .nil) ⟨⟨O,O,O⟩,Zt⟩ O H dU,aU<|R5 O O O (g6 O) (R3) bU O,aU<|zO O O O,Zt⟩ O O (tU O ?_);refine W.seq (W.block ?_);refine W.loop (α:={q__:Nat//q__<=zR b}) (fun q__=>⟨37,[(0,.sl none 1 (b.map D.u8)),(3,.sl (some 5) 1 ((b++[128]++List.replicate q__.1 0).map D.u8))],[]⟩) (fun q__=>zR b-q__.1) ⟨(0),bU⟩ (by simp) ?_;rintro ⟨z,hz⟩;show W _ _ _ _ ⟨37,[(0,.sl none 1 (b.map D.u8)),(3,.sl (some 5) 1 ((b++[128]++List.replicate z 0).map D.u8))],[]⟩
 have hz0:zR b<=63:=by unfold zR;omega
 refine W.seq (z6 4 (y4 12 13 14 15) (V3 0 3 15) ⟨aU<|zM O O,aU<|UG O O (lN _) O,aU fun _ _ H K=>E7 ((b++[128]++List.replicate z 0).length) (64) (eU K 13 O) (kI 64 O) (by(first|decide|omega)) H,aU<|zNek 56 O O O,Zt⟩ O O O O ?_);refine z9 O (fun hc15=>?_) (fun hc15=>?_)
 ·refine W.skip (W.block ?_);refine c9 4 (y4 16 17 18 3) [(2,3),(3,18),(3,16)] [(2,3),(3,18)] (V2 0 3) ⟨aU<|zM O O,aU fun _ _ H _=>w9 (z:=1) (.cons (kW (.int .u8 0) (.u8 0) O) .nil) ⟨⟨O,O,O⟩,Zt⟩ O H dU,aU<|R5 O O O (g6 O) (R3) bU O,aU<|zO O O O,Zt⟩ O O (tU O ?_);exact⟨⟨(z+1),(by simp only[List.length_append,List.length_replicate,List.length_singleton] at hc15;unfold zR at *;omega)⟩,(by rw[List.replicate_succ',<- List.append_assoc]),(by simp only[List.length_append,List.length_replicate,List.length_singleton] at hc15;unfold zR at *;simp only[];omega)⟩
 ·obtain rfl:z=zR b:=by simp only[List.length_append,List.length_replicate,List.length_singleton,ne_eq,Classical.not_not] at hc15;unfold zR at *;omega
  refine W.exit (z6 5 (y5 19 20 21 22 4) (V2 3 4) ⟨mU 0 O O,aU<|zN O (lN _) O,aU<|zW O O O,aU<|P5 O (kW (.int .u64 8) (.u64 8) O) O O,aU<|zA O O O,Zt⟩ O O O O ?_);refine W.seq (z6 1 (y1 5) (V3 3 4 5) ⟨aU<|zK (kI 7 O) O O,Zt⟩ O O O O ?_);refine W.block ?_;refine W.loop (α:={q__:Nat//q__<=8}) (fun q__=>⟨37,[(3,.sl (some 5) 1 ((b++[128]++List.replicate (zR b) 0++R6 (JM b) q__.1).map D.u8)),(4,.u64 (JM b)),(5,.int (7-((q__.1:Nat):Int)))],[]⟩) (fun q__=>8-q__.1) ⟨(0),bU⟩ (by simp[R6];rfl) ?_;rintro ⟨j,hj⟩;show W _ _ _ _ ⟨37,[(3,.sl (some 5) 1 ((b++[128]++List.replicate (zR b) 0++R6 (JM b) j).map D.u8)),(4,.u64 (JM b)),(5,.int (7-((j:Nat):Int)))],[]⟩;have htl:=KJ (JM b) j
  have hz1:zR b<=63:=by unfold zR;omega
  refine W.seq (z6 2 (y2 23 24) (V4 3 4 5 24) ⟨mU 5 O O,aU<|P5 O (kI 0 O) O O,Zt⟩ O O O O ?_);refine W.cond O (fun hc24=>?_) (fun hc24=>?_)
  ·refine W.skip (W.seq (W.block ?_));refine c9 10 (y10 27 28 29 30 31 32 33 34 35 3) [(8,3),(9,35),(9,27)] [(8,3),(9,35)] (V3 3 4 5) ⟨aU<|zM O O,mU 4 O O,mU 5 O O,aU fun _ _ H K=>R.bin (kI 8 O) (eU K 29 O) O Zt H,aU<|zW O O O,aU fun _ _ H K=>R.bin (eU K 28 O) (eU K 31 O) O bV H,aU<|zW O O O,aU fun _ _ H K=>w9 (z:=1) (.cons (eU K 33 O) .nil) ⟨⟨O,O,O⟩,Zt⟩ O H dU,aU<|R5 O O O (g6 O) (R3) bU O,aU<|zO O O O,Zt⟩ O O (tU O ?_);refine j1 3 (y3 25 26 5) (V3 3 4 5) ⟨mU 5 O O,aU fun _ _ H K=>m3 (d:=.int (7-((j+1:Nat):Int))) (eU K 25 O) (kI 1 O) O Zt (B6 bO bO bO) H,aU<|zA O O O,Zt⟩ O O O O ?_;exact⟨⟨(j+1),(by have:=of_decide_eq_true hc24;omega)⟩,(by simp only[R6,<- List.append_assoc];rfl),(by have:=of_decide_eq_true hc24;simp only[];omega)⟩
  ·obtain rfl:j=8:=by have:=of_decide_eq_false hc24;omega
   refine W.exit (z7 2 (y2 36 2) [(0,3),(1,36)] [(0,3),(1,36)] (V1 2) ⟨aU fun _ _ H K=>G3 (K 3 _ O) O H dU,aU<|zO O O O,Zt⟩ O O (tU O ?_));refine W.ret ?_;exact Ends.one' (.inr O) O (O) O O Zt
theorem XU(b:List UInt8)(hb0:b.length<=1000000000):Fn Tryd.prog gl 29 [.sl none 1 (b.map D.u8)] (z5 (JA b)):=by
 refine Fn.of (n:=171) Tryd.func29 rfl rfl rfl (nU rfl) fun C hC hD=>?_;refine z7 1 [] [] [] (V1 0) Zt O O (o0 O O (tV (V2 0 2) (b1 2) 171 O O O ?_));refine z7 2 (y2 19 3) [(1,19)] [(1,19)] (V3 0 2 3) ⟨aU fun _ _ H _=>w9 (z:=1) (.cons (kW (.int .u32 1779033703) (.u32 1779033703) O) (.cons (kW (.int .u32 3144134277) (.u32 3144134277) O) (.cons (kW (.int .u32 1013904242) (.u32 1013904242) O) (.cons (kW (.int .u32 2773480762) (.u32 2773480762) O) (.cons (kW (.int .u32 1359893119) (.u32 1359893119) O) (.cons (kW (.int .u32 2600822924) (.u32 2600822924) O) (.cons (kW (.int .u32 528734635) (.u32 528734635) O) (.cons (kW (.int .u32 1541459225) (.u32 1541459225) O) .nil)))))))) ⟨⟨O,O,O⟩,⟨O,O,O⟩,⟨O,O,O⟩,⟨O,O,O⟩,⟨O,O,O⟩,⟨O,O,O⟩,⟨O,O,O⟩,⟨O,O,O⟩,Zt⟩ O H dU,aU<|zO O O O,Zt⟩ O O (tU O ?_);refine z7 3 (y3 20 21 4) [(2,21)] [(2,21)] (V3 2 3 4) ⟨mU 0 O O,aU<|zC hC (text_ok b hb0) O O O (F1 (.sl _ _ _ (u2 fun _=>.u8 _))) O,aU<|zO O O O,Zt⟩ O O (tU O ?_);refine z7 2 (y2 22 5) [(1,22)] [(1,22)] (V4 2 3 4 5) ⟨aU fun _ _ H _=>j5 hC (k_ok) Bn (F1 (.sl _ _ _ (u2 fun _=>.u32 _))) H,aU<|zO O O O,Zt⟩ O O (tU O ?_);refine W.seq (z6 1 (y1 6) (V5 2 3 4 5 6) ⟨aU<|zK (kI 0 O) O O,Zt⟩ O O O O ?_);refine W.block ?_;refine W.loop (α:={q__:Nat//q__<=pieces b}) (fun q__=>⟨171,[(2,.ptr 2 0 []),(3,.sl (some 32) 1 ((hR (w6 b) q__.1).map D.u32)),(4,.sl (some 5) 1 ((w6 b).map D.u8)),(5,.sl (some 32) 1 (kTab.map D.u32)),(6,.int ((64*q__.1:Nat):Int))],[(2,.var (z5 (List.replicate 32 0)))]⟩) (fun q__=>pieces b-q__.1) ⟨(0),bU⟩ O ?_;rintro ⟨m,hm⟩;show W _ _ _ _ ⟨171,[(2,.ptr 2 0 []),(3,.sl (some 32) 1 ((hR (w6 b) m).map D.u32)),(4,.sl (some 5) 1 ((w6 b).map D.u8)),(5,.sl (some 32) 1 (kTab.map D.u32)),(6,.int ((64*m:Nat):Int))],[(2,.var (z5 (List.replicate 32 0)))]⟩;have htp:=QY b;have htl:=DQ b
 have hz1:zR b<=63:=by unfold zR;omega
 have hhl:=hR_len (w6 b) m;refine W.seq (z6 4 (y4 23 24 25 26) (V6 2 3 4 5 6 26) ⟨mU 6 O O,aU<|zM O O,aU<|UG O O (lN _) O,aU<|zS O O O,Zt⟩ O O O O ?_);refine z9 O (fun hc26=>?_) (fun hc26=>?_)
 ·refine W.skip (W.seq (W.block (z7 7 (y7 29 30 31 32 33 34 7) [(6,34)] [(6,34)] (V6 2 3 4 5 6 7) ⟨aU<|zM O O,mU 6 O O,mU 6 O O,aU<|m8 64 O O bU O,aU fun _ _ H K=>PS (64*m) ((64*m+64)) (64) (SC.al (K 29 _ O) (K 4 _ O)) (m2 (eU K 30 O)) (m2 (eU K 32 O)) O O bU bU bU H dU,aU fun _ _ H K=>j5 hC (WW (((w6 b).drop (64*m)).take 64) (by simp only[List.length_take,List.length_drop];omega)) (Bc (Bor.sc (SC.vw (K 33 _ O) (SC.al (K 29 _ O) (K 4 _ O)) (by simp only[List.length_map];omega)) (AJ (fun _=>rfl))) Bn) (F1 (.sl _ _ _ (u2 fun _=>.u32 _))) H,aU<|zO O O O,Zt⟩ O O (tU O ?_))));refine z7 4 (y4 35 36 37 8) [(2,35),(3,37)] [(2,35),(3,37)] (V7 2 3 4 5 6 7 8) ⟨aU fun _ _ H _=>w9 .nil Zt O H dU,aU<|zM O O,aU fun _ _ H K=>Q6 (Or.inl O) (K 35 _ O) (SrcO.sc (SC.al (K 36 _ O) (K 3 _ O)) (p8 (fun _=>rfl))) (List.nil_append _) bU H dU dU,aU<|zO O O O,Zt⟩ O O (tU O ?_);refine W.seq (z6 1 (y1 9) (V8 2 3 4 5 6 7 8 9) ⟨aU<|zK (kI 0 O) O O,Zt⟩ O O O O ?_);refine W.block ?_;refine W.loop (α:={q__:Nat//q__<=64}) (fun q__=>⟨171,[(2,.ptr 2 0 []),(3,.sl (some 32) 1 ((hR (w6 b) m).map D.u32)),(4,.sl (some 5) 1 ((w6 b).map D.u8)),(5,.sl (some 32) 1 (kTab.map D.u32)),(6,.int ((64*m:Nat):Int)),(7,.sl (some 32) 1 ((wR (((w6 b).drop (64*m)).take 64) 64).map D.u32)),(8,.sl (some 32) 1 ((H4 (hR (w6 b) m) (wR (((w6 b).drop (64*m)).take 64) 64) q__.1).map D.u32)),(9,.int ((q__.1:Nat):Int))],[(2,.var (z5 (List.replicate 32 0)))]⟩) (fun q__=>64-q__.1) ⟨(0),bU⟩ O ?_;rintro ⟨t,ht⟩;show W _ _ _ _ ⟨171,[(2,.ptr 2 0 []),(3,.sl (some 32) 1 ((hR (w6 b) m).map D.u32)),(4,.sl (some 5) 1 ((w6 b).map D.u8)),(5,.sl (some 32) 1 (kTab.map D.u32)),(6,.int ((64*m:Nat):Int)),(7,.sl (some 32) 1 ((wR (((w6 b).drop (64*m)).take 64) 64).map D.u32)),(8,.sl (some 32) 1 ((H4 (hR (w6 b) m) (wR (((w6 b).drop (64*m)).take 64) 64) t).map D.u32)),(9,.int ((t:Nat):Int))],[(2,.var (z5 (List.replicate 32 0)))]⟩;have hwl:=CE (((w6 b).drop (64*m)).take 64) 64;have hkl:kTab.length=64:=rfl;have hrl:=rdsR_len (hR (w6 b) m) (wR (((w6 b).drop (64*m)).take 64) 64) t hhl;refine W.seq (z6 2 (y2 38 39) (V9 2 3 4 5 6 7 8 9 39) ⟨mU 9 O O,aU<|I7 64 O O O,Zt⟩ O O O O ?_);refine z9 O (fun hc39=>?_) (fun hc39=>?_)
  ·refine W.skip (W.seq (W.block (z6 4 (y4 42 43 44 10) (V9 2 3 4 5 6 7 8 9 10) ⟨aU<|zM O O,aU fun _ _ H K=>R.idxN (0) (SC.al (K 42 _ O) (K 8 _ O)) (m2 (kI 0 O)) O bU H dU,aU<|I8 O O O (j4 (l:=(H4 (hR (w6 b) m) (wR (((w6 b).drop (64*m)).take 64) 64) t)) bU) O O O O O,aU<|zA O O O,Zt⟩ O O O O ?_)));refine z6 4 (y4 45 46 47 11) (AS 2 3 4 5 6 7 8 9 10 11) ⟨aU<|zM O O,aU fun _ _ H K=>R.idxN (4) (SC.al (K 45 _ O) (K 8 _ O)) (m2 (kI 4 O)) O bU H dU,aU<|I8 O O O (j4 (l:=(H4 (hR (w6 b) m) (wR (((w6 b).drop (64*m)).take 64) 64) t)) bU) O O O O O,aU<|zA O O O,Zt⟩ O O O O ?_;refine z6 9 (y9 48 49 50 51 52 53 54 55 12) (WM 2 3 4 5 6 7 8 9 10 11 12) ⟨mU 11 O O,aU<|t9 hC (K7 _ _) O O O (kW (.int .u64 6) (.u64 6) O) O O (F1 (.u32 _)) O,mU 11 O O,aU<|t9 hC (K7 _ _) O O O (kW (.int .u64 11) (.u64 11) O) O O (F1 (.u32 _)) O,aU<|zB O O O O,mU 11 O O,aU<|t9 hC (K7 _ _) O O O (kW (.int .u64 25) (.u64 25) O) O O (F1 (.u32 _)) O,aU<|zB O O O O,aU<|zA O O O,Zt⟩ O O O O ?_;refine W.seq ?_;refine w7 (m:=29) (an:=(0::1::3::0::15::0::0::64::192::480::0::1024::0::4096::12288::31744::65504::131071::0::0::786432::1835008::4194303::0::0::25165824::58720256::134217727::268435455::[])) hP dU O (its:=(.y 56 _::.y 57 _::.y 58 _::.y 59 _::.y 60 _::.y 61 _::.y 62 _::.y 63 _::.y 64 _::.y 65 _::.y 66 _::.y 67 _::.y 68 _::.y 69 _::.y 70 _::.y 71 _::.y 72 _::.y 73 _::.y 74 _::.y 75 _::.y 76 _::.y 77 _::.y 78 _::.y 79 _::.y 80 _::.y 81 _::.y 82 _::.y 83 _::.y 13 _::[])) (ks:=[]) (kk:=[]) (live:=[2,3,4,5,6,7,8,9,10,11,13]) (env':=(WM 2 3 4 5 6 7 8 9 10 11 13)) (⟨nU O,O,⟨aU<|zM O O,aU fun _ _ H K=>R.idxN (7) (SC.al (K 56 _ O) (K 8 _ O)) (m2 (kI 7 O)) O bU H dU,aU<|I8 O O O (j4 (l:=(H4 (hR (w6 b) m) (wR (((w6 b).drop (64*m)).take 64) 64) t)) bU) O O O O O,mU 12 O O,aU<|zB O O O O,mU 11 O O,aU<|zM O O,aU fun _ _ H K=>R.idxN (5) (SC.al (K 62 _ O) (K 8 _ O)) (m2 (kI 5 O)) O bU H dU,aU<|I8 O O O (j4 (l:=(H4 (hR (w6 b) m) (wR (((w6 b).drop (64*m)).take 64) 64) t)) bU) O O O O O,aU<|zB O O O O,mU 11 O O,aU<|JY O O O,aU<|zM O O,aU fun _ _ H K=>R.idxN (6) (SC.al (K 68 _ O) (K 8 _ O)) (m2 (kI 6 O)) O bU H dU,aU<|I8 O O O (j4 (l:=(H4 (hR (w6 b) m) (wR (((w6 b).drop (64*m)).take 64) 64) t)) bU) O O O O O,aU<|zB O O O O,aU<|zB O O O O,aU<|zB O O O O,aU<|zM O O,mU 9 O O,aU<|t3 t O O O O bU O,aU<|I8 O O O (mG kTab) O O O O O,aU<|zB O O O O,aU<|zM O O,mU 9 O O,aU<|t3 t O O O O bU O,aU<|I8 O O O (j4 (l:=(wR (((w6 b).drop (64*m)).take 64) 64)) bU) O O O O O,aU<|zB O O O O,aU<|zA O O O,Zt⟩,O,O,O⟩) O (bx':=(b1 2)) O (n':=171) O (tV (WM 2 3 4 5 6 7 8 9 10 11 13) (b1 2) 171 O O O ?_);refine z6 9 (y9 84 85 86 87 88 89 90 91 14) (V12 2 3 4 5 6 7 8 9 10 11 13 14) ⟨mU 10 O O,aU<|t9 hC (K7 _ _) O O O (kW (.int .u64 2) (.u64 2) O) O O (F1 (.u32 _)) O,mU 10 O O,aU<|t9 hC (K7 _ _) O O O (kW (.int .u64 13) (.u64 13) O) O O (F1 (.u32 _)) O,aU<|zB O O O O,mU 10 O O,aU<|t9 hC (K7 _ _) O O O (kW (.int .u64 22) (.u64 22) O) O O (F1 (.u32 _)) O,aU<|zB O O O O,aU<|zA O O O,Zt⟩ O O O O ?_;refine W.seq ?_;refine w7 (m:=22) (an:=[0,0,0,4,12,30,0,0,128,384,960,2046,0,4096,12288,0,32768,98304,258048,524286,1048575,2097151]) hP dU O (its:=[.y 92 _,.y 93 _,.y 94 _,.y 95 _,.y 96 _,.y 97 _,.y 98 _,.y 99 _,.y 100 _,.y 101 _,.y 102 _,.y 103 _,.y 104 _,.y 105 _,.y 106 _,.y 107 _,.y 108 _,.y 109 _,.y 110 _,.y 111 _,.y 112 _,.y 15 _]) (ks:=[]) (kk:=[]) (live:=[2,3,4,5,6,7,8,9,10,11,13,15]) (env':=(V12 2 3 4 5 6 7 8 9 10 11 13 15)) (⟨nU O,O,⟨mU 14 O O,mU 10 O O,aU<|zM O O,aU fun _ _ H K=>R.idxN (1) (SC.al (K 94 _ O) (K 8 _ O)) (m2 (kI 1 O)) O bU H dU,aU<|I8 O O O (j4 (l:=(H4 (hR (w6 b) m) (wR (((w6 b).drop (64*m)).take 64) 64) t)) bU) O O O O O,aU<|zB O O O O,mU 10 O O,aU<|zM O O,aU fun _ _ H K=>R.idxN (2) (SC.al (K 99 _ O) (K 8 _ O)) (m2 (kI 2 O)) O bU H dU,aU<|I8 O O O (j4 (l:=(H4 (hR (w6 b) m) (wR (((w6 b).drop (64*m)).take 64) 64) t)) bU) O O O O O,aU<|zB O O O O,aU<|zB O O O O,aU<|zM O O,aU fun _ _ H K=>R.idxN (1) (SC.al (K 104 _ O) (K 8 _ O)) (m2 (kI 1 O)) O bU H dU,aU<|I8 O O O (j4 (l:=(H4 (hR (w6 b) m) (wR (((w6 b).drop (64*m)).take 64) 64) t)) bU) O O O O O,aU<|zM O O,aU fun _ _ H K=>R.idxN (2) (SC.al (K 107 _ O) (K 8 _ O)) (m2 (kI 2 O)) O bU H dU,aU<|I8 O O O (j4 (l:=(H4 (hR (w6 b) m) (wR (((w6 b).drop (64*m)).take 64) 64) t)) bU) O O O O O,aU<|zB O O O O,aU<|zB O O O O,aU<|zB O O O O,aU<|zA O O O,Zt⟩,O,O,O⟩) O (bx':=(b1 2)) O (n':=171) O (tV (V12 2 3 4 5 6 7 8 9 10 11 13 15) (b1 2) 171 O O O ?_);refine w7 (m:=24) (an:=[0,0,3,0,0,16,48,0,128,384,0,1024,3072,0,15360,0,0,65536,196608,0,524288,1572864,4194303,8388607]) hP dU O (its:=[.y 113 _,.y 114 _,.y 115 _,.y 116 _,.y 117 _,.y 118 _,.y 119 _,.y 120 _,.y 121 _,.y 122 _,.y 123 _,.y 124 _,.y 125 _,.y 126 _,.y 127 _,.y 128 _,.y 129 _,.y 130 _,.y 131 _,.y 132 _,.y 133 _,.y 134 _,.y 135 _,.y 8 _]) (ks:=[(23,135),(23,117),(23,120),(23,123),(23,129),(23,132)]) (kk:=[(23,135)]) (live:=[2,3,4,5,6,7,8,9]) (env':=(V8 2 3 4 5 6 7 8 9)) (⟨nU O,O,⟨mU 13 O O,mU 15 O O,aU<|zB O O O O,mU 10 O O,aU<|zM O O,aU fun _ _ H K=>R.idxN (1) (SC.al (K 117 _ O) (K 8 _ O)) (m2 (kI 1 O)) O bU H dU,aU<|I8 O O O (j4 (l:=(H4 (hR (w6 b) m) (wR (((w6 b).drop (64*m)).take 64) 64) t)) bU) O O O O O,aU<|zM O O,aU fun _ _ H K=>R.idxN (2) (SC.al (K 120 _ O) (K 8 _ O)) (m2 (kI 2 O)) O bU H dU,aU<|I8 O O O (j4 (l:=(H4 (hR (w6 b) m) (wR (((w6 b).drop (64*m)).take 64) 64) t)) bU) O O O O O,aU<|zM O O,aU fun _ _ H K=>R.idxN (3) (SC.al (K 123 _ O) (K 8 _ O)) (m2 (kI 3 O)) O bU H dU,aU<|I8 O O O (j4 (l:=(H4 (hR (w6 b) m) (wR (((w6 b).drop (64*m)).take 64) 64) t)) bU) O O O O O,mU 13 O O,aU<|zB O O O O,mU 11 O O,aU<|zM O O,aU fun _ _ H K=>R.idxN (5) (SC.al (K 129 _ O) (K 8 _ O)) (m2 (kI 5 O)) O bU H dU,aU<|I8 O O O (j4 (l:=(H4 (hR (w6 b) m) (wR (((w6 b).drop (64*m)).take 64) 64) t)) bU) O O O O O,aU<|zM O O,aU fun _ _ H K=>R.idxN (6) (SC.al (K 132 _ O) (K 8 _ O)) (m2 (kI 6 O)) O bU H dU,aU<|I8 O O O (j4 (l:=(H4 (hR (w6 b) m) (wR (((w6 b).drop (64*m)).take 64) 64) t)) bU) O O O O O,aU fun _ _ H K=>w9 (z:=1) (.cons (eU K 115 O) (.cons (eU K 116 O) (.cons (eU K 119 O) (.cons (eU K 122 O) (.cons (eU K 127 O) (.cons (eU K 128 O) (.cons (eU K 131 O) (.cons (eU K 134 O) .nil)))))))) ⟨⟨O,O,O⟩,⟨⟨O,O,O⟩,⟨⟨O,O,O⟩,⟨⟨O,O,O⟩,⟨⟨O,O,O⟩,⟨⟨O,O,O⟩,⟨⟨O,O,O⟩,⟨⟨O,O,O⟩,Zt⟩⟩⟩⟩⟩⟩⟩⟩ O H dU,aU<|zO O O O,Zt⟩,O,O,O⟩) O (bx':=(b1 2)) O (n':=171) O (tV (V8 2 3 4 5 6 7 8 9) (b1 2) 171 O O O ?_);refine j1 3 (y3 40 41 9) (V8 2 3 4 5 6 7 8 9) ⟨mU 9 O O,aU<|m8 1 O O bU O,aU<|zA O O O,Zt⟩ O O O O ?_;exact⟨⟨(t+1),bU⟩,rfl,(by simp only[];omega)⟩
  ·obtain rfl:t=64:=by omega
   refine W.exit (z6 1 (y1 16) (V7 2 3 4 5 6 8 16) ⟨aU<|zK (kI 0 O) O O,Zt⟩ O O O O ?_);refine W.block ?_;refine W.loop (α:={q__:Nat//q__<=8}) (fun q__=>⟨171,[(2,.ptr 2 0 []),(3,.sl (some 32) 1 ((QJ (hR (w6 b) m) (H4 (hR (w6 b) m) (wR (((w6 b).drop (64*m)).take 64) 64) 64) q__.1).map D.u32)),(4,.sl (some 5) 1 ((w6 b).map D.u8)),(5,.sl (some 32) 1 (kTab.map D.u32)),(6,.int ((64*m:Nat):Int)),(8,.sl (some 32) 1 ((H4 (hR (w6 b) m) (wR (((w6 b).drop (64*m)).take 64) 64) 64).map D.u32)),(16,.int ((q__.1:Nat):Int))],[(2,.var (z5 (List.replicate 32 0)))]⟩) (fun q__=>8-q__.1) ⟨(0),bU⟩ O ?_;rintro ⟨i,hi⟩;show W _ _ _ _ ⟨171,[(2,.ptr 2 0 []),(3,.sl (some 32) 1 ((QJ (hR (w6 b) m) (H4 (hR (w6 b) m) (wR (((w6 b).drop (64*m)).take 64) 64) 64) i).map D.u32)),(4,.sl (some 5) 1 ((w6 b).map D.u8)),(5,.sl (some 32) 1 (kTab.map D.u32)),(6,.int ((64*m:Nat):Int)),(8,.sl (some 32) 1 ((H4 (hR (w6 b) m) (wR (((w6 b).drop (64*m)).take 64) 64) 64).map D.u32)),(16,.int ((i:Nat):Int))],[(2,.var (z5 (List.replicate 32 0)))]⟩;have hal:=ZS (hR (w6 b) m) (H4 (hR (w6 b) m) (wR (((w6 b).drop (64*m)).take 64) 64) 64) i;refine W.seq (z6 2 (y2 136 137) (V8 2 3 4 5 6 8 16 137) ⟨mU 16 O O,aU<|I7 8 O O O,Zt⟩ O O O O ?_);refine z9 O (fun hc137=>?_) (fun hc137=>?_)
   ·refine W.skip (W.seq (W.block ?_));refine w7 (m:=12) (an:=[0,0,0,0,12,28,0,0,192,448,1020,2047,4095]) hP dU O (its:=[.y 140 _,.y 141 _,.y 142 _,.y 143 _,.y 144 _,.y 145 _,.y 146 _,.y 147 _,.y 148 _,.y 149 _,.y 150 _,.y 151 _]) (ks:=[]) (kk:=[]) (live:=[2,3,4,5,6,8,16,140,150,151]) (env':=(AS 2 3 4 5 6 8 16 140 150 151)) (⟨nU O,O,⟨aU<|zM O O,mU 16 O O,aU<|zM O O,mU 16 O O,aU<|t3 i O O O O bU O,aU<|I8 O O O (j4 (l:=(QJ (hR (w6 b) m) (H4 (hR (w6 b) m) (wR (((w6 b).drop (64*m)).take 64) 64) 64) i)) bU) O O O O O,aU<|zM O O,mU 16 O O,aU<|t3 i O O O O bU O,aU<|I8 O O O (j4 (l:=(H4 (hR (w6 b) m) (wR (((w6 b).drop (64*m)).take 64) 64) 64)) bU) O O O O O,aU<|zB O O O O,aU<|t3 i O O O O bU O,Zt⟩,O,O,O⟩) O (bx':=(b1 2)) O (n':=171) O (⟨O,_,M0 (gU 151 O) (Or.inr (gU 140 O)) (gU 3 O) (j4 (l:=(QJ (hR (w6 b) m) (H4 (hR (w6 b) m) (wR (((w6 b).drop (64*m)).take 64) 64) 64) i)) bU) O (gV 150 O) (by rfl) (by rfl) (by rfl) (by rfl) o5 o7,tV (V7 2 3 4 5 6 8 16) (b1 2) 171 O O O ?_⟩);refine j1 3 (y3 138 139 16) (V7 2 3 4 5 6 8 16) ⟨mU 16 O O,aU<|m8 1 O O bU O,aU<|zA O O O,Zt⟩ O O O O ?_;exact⟨⟨(i+1),bU⟩,rfl,(by simp only[];omega)⟩
   ·obtain rfl:i=8:=by omega
    refine W.exit ?_;refine j1 3 (y3 27 28 6) (V5 2 3 4 5 6) ⟨mU 6 O O,aU<|m8 64 O O bU O,aU<|zA O O O,Zt⟩ O O O O ?_;exact⟨⟨(m+1),(by omega)⟩,rfl,(by simp only[];omega)⟩
 ·obtain rfl:m=pieces b:=by omega
  refine W.exit (z7 1 [] [] [] (V2 2 3) Zt O O (o0 O O (tV (V3 2 3 17) (b2 17 2) 171 O O O ?_)));refine W.seq (z6 1 (y1 18) (V4 2 3 17 18) ⟨aU<|zK (kI 0 O) O O,Zt⟩ O O O O ?_);refine W.block ?_;refine W.loop (α:={q__:Nat//q__<=32}) (fun q__=>⟨171,[(2,.ptr 2 0 []),(3,.sl (some 32) 1 ((hR (w6 b) (pieces b)).map D.u32)),(17,.ptr 17 0 []),(18,.int ((q__.1:Nat):Int))],[(17,.var (z5 (YQ (hR (w6 b) (pieces b)) q__.1))),(2,.var (z5 (List.replicate 32 0)))]⟩) (fun q__=>32-q__.1) ⟨(0),bU⟩ O ?_;rintro ⟨i,hi⟩;show W _ _ _ _ ⟨171,[(2,.ptr 2 0 []),(3,.sl (some 32) 1 ((hR (w6 b) (pieces b)).map D.u32)),(17,.ptr 17 0 []),(18,.int ((i:Nat):Int))],[(17,.var (z5 (YQ (hR (w6 b) (pieces b)) i))),(2,.var (z5 (List.replicate 32 0)))]⟩;have hol:=NO (hR (w6 b) (pieces b)) i;refine W.seq (z6 2 (y2 152 153) (V5 2 3 17 18 153) ⟨mU 18 O O,aU<|I7 32 O O O,Zt⟩ O O O O ?_);refine z9 O (fun hc153=>?_) (fun hc153=>?_)
  ·refine W.skip (W.seq (W.block ?_));refine c9 15 (y14 156 157 158 159 160 161 162 163 164 165 166 167 168 169) [] [] (V6 2 3 17 18 168 169) ⟨mU 18 O O,aU<|zM O O,mU 18 O O,aU fun _ _ H K=>O8 (i) (4) (eU K 158 O) (kI 4 O) bU bU H,aU<|t3 ((i/4)) O O O O bU O,aU<|I8 O O O (mG (hR (w6 b) (pieces b))) O O O O O,mU 18 O O,aU fun _ _ H K=>E7 (i) (4) (eU K 162 O) (kI 4 O) bU H,aU<|E8 8 O O bU O,aU fun _ _ H K=>QX (24) ((8*(i%4))) (kI 24 O) (eU K 164 O) bU bU H,aU<|zW O O O,aU fun _ _ H K=>R.bin (eU K 161 O) (eU K 166 O) O bV H,aU<|zW O O O,aU<|PW i O O O bU O,Zt⟩ O O (⟨O,_,r6 (gU 169 O) (xU 17 O) (g8 (j4 (l:=(YQ (hR (w6 b) (pieces b)) i)) bU) g7 bU) (gV 168 O) (by rfl) (by rfl) (by rfl) (by rfl) (A1 (j4 (l:=(YQ (hR (w6 b) (pieces b)) i)) bU) o5 o7),tV (V4 2 3 17 18) (b2 17 2) 171 O O O ?_⟩);refine j1 3 (y3 154 155 18) (V4 2 3 17 18) ⟨mU 18 O O,aU<|m8 1 O O bU O,aU<|zA O O O,Zt⟩ O O O O ?_;exact⟨⟨(i+1),bU⟩,rfl,(by simp only[];omega)⟩
  ·obtain rfl:i=32:=by omega
   refine W.exit (z7 2 (y1 170) [] [] (V2 2 170) ⟨aU (lU 17 O O O O O O O),Zt⟩ O O (m1 O O O O O (tV (V1 2) (b2 17 2) 171 O O O ?_)));refine W.ret ?_;exact Ends.one' (.inr O) O (O) O O (show LdT _ 26 32 true from inferInstance)
theorem KU(b:List UInt8)(hb0:b.length<=1000000000):Fn Tryd.prog gl 56 [.sl none 1 (b.map D.u8)] (z5 (S8 b)):=by
 refine Fn.of (n:=8) Tryd.func56 rfl rfl rfl (nU rfl) fun C hC hD=>?_;refine z7 1 [] [] [] (V1 0) Zt O O (o0 O O (tV (V2 0 2) (b1 2) 8 O O O ?_));refine z7 4 (y2 4 5) [] [] (V2 2 5) ⟨mU 0 O O,aU<|zC hC (XU _ hb0) O O O (F1 (d9 _)) O,Zt⟩ O O (o0 O O (m1 O O O O O (tV (V2 2 3) (b2 3 2) 8 O O O ?_)));refine z7 3 (y2 6 7) [] [] (V2 2 7) ⟨aU fun _ B H K=>J4 (0) (32) (32) (K 3 _ O) (B 3 _ O) O O O O O bU bU O H,aU fun _ B H K=>j5 hC (XU (JA b) (by rw[T0];decide)) (Bc (Bor.sc (SC.va (K 6 _ O) (B 3 _ O) O bU) (XV (fun _=>rfl) (T0 _))) Bn) (F1 (d9 _)) H,Zt⟩ O O (m1 O O O O O (tV (V1 2) (b2 3 2) 8 O O O ?_));refine W.ret ?_;exact Ends.one' (.inr O) O (O) O O (show LdT _ 26 32 true from inferInstance)
end Go.Sx

namespace Go.Sx
theorem TA(a b:UInt32):a|||b=b|||a:=by
 apply UInt32.toBitVec_inj.1;simp[BitVec.or_comm]
theorem XY(x:UInt32):right x 2=rright x 2/\right x 13=rright x 13/\right x 22=rright x 22/\right x 6=rright x 6/\right x 11=rright x 11/\right x 25=rright x 25 /\
 right x 7=rright x 7/\right x 18=rright x 18/\right x 17=rright x 17/\right x 19=rright x 19:=by
 refine⟨?_, ?_, ?_, ?_, ?_, ?_, ?_, ?_, ?_, ?_⟩<;>exact TA _ _
theorem ch_r(e f g:UInt32):g^^^(e&&&(f^^^g))=e&&&f ^^^ ~~~e&&&g:=by
 apply UInt32.toBitVec_inj.1;simp only[UInt32.toBitVec_xor,UInt32.toBitVec_and,UInt32.toBitVec_not]
 ext i hi
 simp only[BitVec.getElem_xor,BitVec.getElem_and,BitVec.getElem_not]
 cases e.toBitVec[i]<;>cases f.toBitVec[i]<;>cases g.toBitVec[i]<;>rfl
theorem maj_r(a b c:UInt32):a&&&b|||c&&&(a|||b)=a&&&b^^^a&&&c^^^b&&&c:=by
 apply UInt32.toBitVec_inj.1;simp only[UInt32.toBitVec_xor,UInt32.toBitVec_and,UInt32.toBitVec_or]
 ext i hi
 simp only[BitVec.getElem_xor,BitVec.getElem_and,BitVec.getElem_or]
 cases a.toBitVec[i]<;>cases b.toBitVec[i]<;>cases c.toBitVec[i]<;>rfl
theorem A7{α:Type}[Inhabited α]{l r:List α}{i:Nat}(h:i<l.length):(l++r)[i]! = l[i]!:=by
 simp[List.getElem?_append_left h]
theorem HL{α:Type}[Inhabited α]{l:List α}{i:Nat}{v:α}(h:i<l.length):(l.set i v)[i]! = v:=by simp[h]
theorem next_r(w r:List UInt32)(t:Nat)(h:16<=t)(hw:w.length=t):nextW (w++r) t=nextR w t:=by
 unfold nextW nextR;rw[A7 (by omega),A7 (by omega),A7 (by omega),A7 (by omega)];obtain⟨_,_,_,_,_,_,h7,h18,_,_⟩:=XY w[t-15]!;obtain⟨_,_,_,_,_,_,_,_,h17,h19⟩:=XY w[t-2]!;rw[h7,h18,h17,h19];generalize rright _ 7^^^_^^^_=a;generalize rright _ 17^^^_^^^_=b;generalize w[t-16]! = c;generalize w[t-7]! = d;apply UInt32.toBitVec_inj.1;simp only[UInt32.toBitVec_add]
 ac_rfl
theorem shl_or(x y:UInt32):c5 (x|||y) 8=c5 x 8|||c5 y 8:=by
 apply UInt32.toBitVec_inj.1;simp[c5,BitVec.shiftLeft_or_distrib]
theorem shl_8_8(x:UInt32):c5 (c5 x 8) 8=c5 x 16:=by
 apply UInt32.toBitVec_inj.1;simp[c5,<- BitVec.shiftLeft_add]
theorem shl_16_8(x:UInt32):c5 (c5 x 16) 8=c5 x 24:=by
 apply UInt32.toBitVec_inj.1;simp[c5,<- BitVec.shiftLeft_add]
theorem sched_r(p:List UInt8)(t:Nat)(ht:t<=64):sched p t=wR p t++List.replicate (64-t) 0:=by
 induction t with
 | zero=>simp[sched,wR]
 | succ t ih=>
  have ih:=ih (by omega);have hl:=CE p t
  have hset:∀ v:UInt32,(wR p t++List.replicate (64-t) 0).set t v=wR p t++[v]++List.replicate (64-(t+1)) 0:=by
   intro v;rw[List.set_append_right _ _ (by omega),hl,Nat.sub_self,show 64-t=(64-(t+1))+1 by omega,List.replicate_succ,List.set_cons_zero];simp
  simp only[sched,wR];by_cases h:t<16
  ·rw[if_pos h,if_pos h,ih]
   have h0:(wR p t++List.replicate (64-t) 0)[t]! = 0:=by
    simp only[getElem!_def];rw[List.getElem?_append_right (by omega),hl,Nat.sub_self];simp[show 0<64-t by omega]
   have hlen:∀ l:List UInt32,l.length=64->t<l.length:=fun l hl=>by omega
   have e0:(wR p t++List.replicate (64-t) 0).length=64:=by simp[hl];omega
   have hins:WI p t (wR p t++List.replicate (64-t) 0) 4=(wR p t++List.replicate (64-t) 0).set t (w4 p t):=by
    simp only[WI];simp only[List.set_set,HL (hlen _ e0),h0]
    congr 1
    unfold w4
    have hz:∀ y:UInt32,c5 0 8|||y=y:=fun y=>by
     apply UInt32.toBitVec_inj.1;simp[c5]
    simp only[hz,shl_or,shl_8_8,shl_16_8,Nat.add_zero]
   rw[hins,hset]
  ·rw[if_neg h,if_neg h,ih,next_r _ _ _ (by omega) hl,hset]
theorem sched_64(p:List UInt8):sched p 64=wR p 64:=by rw[sched_r p 64 (Nat.le_refl _)];simp
theorem W8.list_get(v:W8):v.list[0]! = v.a/\v.list[1]! = v.b/\v.list[2]! = v.c/\v.list[3]! = v.d/\v.list[4]! = v.e/\v.list[5]! = v.f/\v.list[6]! = v.g/\v.list[7]! = v.l:=⟨rfl,rfl,rfl,rfl,rfl,rfl,rfl,rfl⟩
theorem of_list(h:List UInt32)(hh:h.length=8):(W8.of h).list=h:=by
 match h,hh with
 | [a,b,c,d,e,f,g,l],_=>rfl
theorem rnd_r(v:W8)(k w:UInt32):(rnd v k w).list=rndR v.list k w:=by
 obtain⟨e0,e1,e2,e3,e4,e5,e6,e7⟩:=W8.list_get v;unfold rndR oneR twoR;simp only[e0,e1,e2,e3,e4,e5,e6,e7];obtain⟨h2,h13,h22,_⟩:=XY v.a;obtain⟨_,_,_,h6,h11,h25,_⟩:=XY v.e;simp only[rnd,W8.list,one,two,ch_r,maj_r,h2,h13,h22,h6,h11,h25]
theorem rds_r(h w:List UInt32)(hh:h.length=8)(t:Nat):(rds h w t).list=H4 h w t:=by
 induction t with
 | zero=>exact of_list h hh
 | succ t ih=>simp only[rds,H4,rnd_r,ih]
theorem comp_r(h:List UInt32)(p:List UInt8)(hh:h.length=8):comp h p=RS h p:=by
 unfold comp RS;rw[sched_64,rds_r _ _ hh]
theorem outB_r(h:List UInt32)(i:Nat)(hi:i<=32):YZ h i=YQ h i:=by
 induction i with
 | zero=>rfl
 | succ i ih=>
  simp only[YZ,YQ,ih (by omega)]
  have:(UInt64.ofInt ((24-8*(i%4):Nat):Int)).toNat=24-8*(i%4):=by
   have h:=F6 ((24-8*(i%4):Nat):Int);omega
  rw[this]
theorem VQ(n:UInt64)(i:Nat)(hi:i<=8):N8 n i=R6 n i++List.replicate (8-i) 0:=by
 induction i with
 | zero=>simp[N8,R6]
 | succ i ih=>
  simp only[N8,R6,ih (by omega)];have hl:=KJ n i;rw[List.set_append_right _ _ (by omega),hl,Nat.sub_self,show 8-i=(8-(i+1))+1 by omega,List.replicate_succ,List.set_cons_zero]
  have e:(UInt64.ofInt (wr (8*(7-((i:Nat):Int))))).toNat=56-8*i:=by
   have h:=F6 (wr (8*(7-((i:Nat):Int))))
   have h2:wr (8*(7-((i:Nat):Int)))=8*(7-(i:Int)):=by unfold wr;rw[IntKind.wrap_i64];omega
   rw[h2] at h;rw[h2];omega
  rw[e];simp
theorem FG(n:UInt64):N8 n 8=R6 n 8:=by rw[VQ n 8 (Nat.le_refl _)];simp
theorem DV(a b:List UInt8)(q:Nat)(h:64*q<=a.length):hR (a++b) q=hR a q:=by
 induction q with
 | zero=>rfl
 | succ q ih=>
  simp only[hR,ih (by omega)];rw[List.drop_append_of_le_length (by omega),List.take_append_of_le_length (by simp;omega)]
structure Rep(s:ShaS)(b:List UInt8):Prop where
 begun:s.begun=true
 n:s.n=UInt64.ofNat b.length
 h:s.h=hR b (b.length/64)
 len:s.piece.length=64
 piece:s.piece.take (b.length%64)=b.drop (64*(b.length/64))
theorem Rep.mS{s:ShaS}{b:List UInt8}(h:Rep s b):mS s=b.length%64:=by
 unfold Go.Sx.mS;rw[h.n,UInt64.toNat_mod,UInt64.toNat_ofNat'];have:(64:UInt64).toNat=64:=rfl;rw[this];omega
theorem TC:Rep ShaS.start []:=⟨rfl,rfl,rfl,by simp[ShaS.start],by simp⟩
theorem rep_step{s:ShaS}{b c:List UInt8}(h:Rep s b)(hc:c.length≠0):Rep (N7 s c) (b++c.take (kS s c)):=by
 have hm:=h.mS;have hk1:=kS_le s c;have hk2:=BA s c;have hk3:=f8 s c (by omega);have hmlt:=JD s;generalize hk:kS s c=k at hk1 hk2 hk3
 have hb':(b++c.take k).length=b.length+k:=by simp;omega
 have hp:L7 s c=b.drop (64*(b.length/64))++c.take k++s.piece.drop (b.length%64+k):=by
  unfold L7;rw[hk,hm,h.piece]
 have hpl:(b.drop (64*(b.length/64))).length=b.length%64:=by simp;omega
 have hn:nS s c=UInt64.ofNat (b.length+k):=by
  unfold nS;rw[hk,h.n];apply UInt64.toNat_inj.1;have h1:=F6 ((k:Nat):Int);simp only[UInt64.toNat_add,UInt64.toNat_ofNat'];omega
 have hmod:(nS s c%64==0)=decide ((b.length+k)%64=0):=by
  rw[hn,Bool.eq_iff_iff,beq_iff_eq,decide_eq_true_eq,<- UInt64.toNat_inj,UInt64.toNat_mod,UInt64.toNat_ofNat'];have h1:(64:UInt64).toNat=64:=rfl;have h2:(0:UInt64).toNat=0:=rfl;rw[h1,h2];omega
 have hlen:(L7 s c).length=64:=by
  rw[hp];simp only[List.length_append,List.length_drop,List.length_take,h.len];omega
 refine⟨h.begun,by simp only[N7,hn,hb'], ?_,hlen, ?_⟩
 ·simp only[N7,hmod,hb'];by_cases hd:(b.length+k)%64=0
  ·simp only[hd,decide_true,cond_true]
   have hq:(b.length+k)/64=b.length/64+1:=by omega
   have hmk:b.length%64+k=64:=by omega
   rw[hq];simp only[hR];rw[DV b _ _ (by omega),h.h,comp_r _ _ (hR_len _ _)]
   congr 1
   have e1:(b++c.take k).drop (64*(b.length/64))=b.drop (64*(b.length/64))++c.take k:=List.drop_append_of_le_length (by omega);have e2:s.piece.drop 64=[]:=List.drop_eq_nil_of_le (by rw[h.len];exact Nat.le_refl _);rw[hp,hmk,e1,e2,List.append_nil];exact(List.take_of_length_le (by rw[List.length_append,hpl,List.length_take];omega)).symm
  ·simp only[hd,decide_false,cond_false]
   have hq:(b.length+k)/64=b.length/64:=by omega
   rw[hq,DV b _ _ (by omega),h.h]
 ·simp only[N7,hb'];by_cases hd:(b.length+k)%64=0
  ·rw[hd,List.take_zero,List.drop_eq_nil_of_le (by rw[hb'];omega)]
  ·have hq:(b.length+k)/64=b.length/64:=by omega
   have hr:(b.length+k)%64=b.length%64+k:=by omega
   rw[hq,hr,hp,List.drop_append_of_le_length (by omega)];rw[List.take_append_of_le_length (by simp;omega),List.take_of_length_le (by simp;omega)]
theorem rep_addW{s:ShaS}{b c:List UInt8}(h:Rep s b):Rep (GA s c) (b++c):=by
 induction hn:c.length using Nat.strongRecOn generalizing s b c with
 | _ n ih=>
  by_cases h0:c.length=0
  ·rw[W9 _ _ h0,List.length_eq_zero_iff.1 h0,List.append_nil];exact h
  ·rw[N3 _ _ h0];have hk:=f8 s c (by omega);have:=ih _ (by rw[<- hn];simp only[List.length_drop];omega) (rep_step h h0) (c:=c.drop (kS s c)) rfl;rw[List.append_assoc,List.take_append_drop] at this;exact this
theorem QO{s:ShaS}{b c:List UInt8}(h:Rep s b):Rep (E6 s c) (b++c):=by
 unfold E6;rw[h.begun];exact rep_addW h
theorem rep_padS{s:ShaS}{b:List UInt8}(h:Rep s b)(k:Nat):Rep (NM k s) (b++List.replicate k 0):=by
 induction k generalizing s b with
 | zero=>simpa [NM] using h
 | succ k ih=>
  have:=ih (QO (c:=[0]) h);rw[List.append_assoc] at this;simpa [NM,List.replicate_succ] using this
theorem end_r{s:ShaS}{b:List UInt8}(h:Rep s b):endS s=JA b:=by
 have h1:Rep (pad1 s) (b++[128]):=QO h
 have hz:t5 (pad1 s)=zR b:=by
  unfold t5 zR;rw[h1.mS];simp only[List.length_append,List.length_singleton];omega
 have h2:Rep (EI s) (b++[128]++List.replicate (zR b) 0):=by
  unfold EI;rw[hz];exact rep_padS h1 _
 have hn:s.n*8=JM b:=by
  rw[h.n];unfold JM
  congr 1
  apply UInt64.toNat_inj.1;have:=F6 ((b.length:Nat):Int);rw[UInt64.toNat_ofNat'];omega
 have h3:Rep (JI s) (w6 b):=by
  unfold JI w6;rw[FG,hn];exact QO h2
 unfold endS JA;rw[outB_r _ _ (Nat.le_refl _),h3.h,QY]
 congr 2
 omega
theorem HN(b:List UInt8):Rep (E6 ShaS.start b) b:=by
 have:=QO (c:=b) TC;simpa using this
theorem LY(b:List UInt8):S9 b=JA b:=end_r (HN b)
theorem CV(b:List UInt8):S7 b=S8 b:=by unfold S7 S8;rw[LY,LY]
end Go.Sx

namespace Go.Sx
instance:Inhabited ShaS:=⟨ShaS.zero⟩
end Go.Sx

namespace Go.Sx
abbrev Hs:=List UInt8
def p7(a b:Hs):Hs:=S7 (a++b)
def n9(a b:Hs):Hs:=S8 (a++b)
theorem join_r:p7=n9:=by funext a b;exact CV _
theorem UB(b:Hs):(S7 b).length=32:=by unfold S7;exact UA _
theorem l6(b:Hs):(S8 b).length=32:=by unfold S8;exact T0 _
theorem DL(a b:Hs):(p7 a b).length=32:=UB _
theorem KA(a b:Hs):(n9 a b).length=32:=l6 _
theorem both1(a:Hs)(ha:a.length=32):((List.replicate 64 (0:UInt8)).map D.u8).take 0++(((a.map D.u8).drop 0).take 32).take 32++((List.replicate 64 (0:UInt8)).map D.u8).drop (0+32)=(a++List.replicate 32 0).map D.u8:=by
 have h1:((a.map D.u8).take 32)=a.map D.u8:=List.take_of_length_le (by simp[ha]);simp only[List.drop_zero,List.take_take,Nat.min_self,h1,List.take_zero,List.nil_append,List.map_append];rfl
theorem both2(a b:Hs)(ha:a.length=32)(hb:b.length=32):((a++List.replicate 32 (0:UInt8)).map D.u8).take 32++(((b.map D.u8).drop 0).take 32).take 32++((a++List.replicate 32 (0:UInt8)).map D.u8).drop (32+32)=(a++b).map D.u8:=by
 have h1:((b.map D.u8).take 32)=b.map D.u8:=List.take_of_length_le (by simp[hb])
 have h2:((a++List.replicate 32 (0:UInt8)).map D.u8).take 32=a.map D.u8:=by rw[List.map_append,List.take_append_of_le_length (by simp[ha]),List.take_of_length_le (by simp[ha])]
 have h3:((a++List.replicate 32 (0:UInt8)).map D.u8).drop (32+32)=[]:=List.drop_eq_nil_of_le (by simp[ha]);rw[h2,h3];simp only[List.drop_zero,List.take_take,Nat.min_self,h1,List.map_append,List.append_nil]
theorem part32(a:Hs)(ha:a.length=32):((a.map D.u8).drop 0).take 32=a.map D.u8:=by rw[List.drop_zero,List.take_of_length_le (by simp[ha])]
def upI(J:Hs->Hs->Hs)(l:List Hs):Nat->List Hs
 | 0=>[]
 | i+1=>upI J l i++[J l[2*i]! l[min (2*i+1) (l.length-1)]!]
def upR(J:Hs->Hs->Hs)(l:List Hs):List Hs:=upI J l ((l.length+1)/2)
def n7(J:Hs->Hs->Hs)(l:List Hs):Nat->List Hs
 | 0=>l
 | k+1=>upR J (n7 J l k)
def Q9(n:Nat):Nat:=if n=0 then 0 else if n=1 then 1 else Q9 ((n+1)/2)+1
termination_by n
def KN(n:Nat):Nat->Nat
 | 0=>n
 | k+1=>(KN n k+1)/2
theorem CS(J:Hs->Hs->Hs)(l:List Hs)(i:Nat):(upI J l i).length=i:=by
 induction i with
 | zero=>rfl
 | succ i ih=>simp[upI,ih]
theorem XQ(J:Hs->Hs->Hs)(l:List Hs):(upR J l).length=(l.length+1)/2:=CS _ _ _
theorem QM(J:Hs->Hs->Hs)(l:List Hs)(k:Nat):(n7 J l k).length=KN l.length k:=by
 induction k with
 | zero=>rfl
 | succ k ih=>simp only[n7,KN,XQ,ih]
theorem BO(n k:Nat):KN n k<=n:=by
 induction k with
 | zero=>exact Nat.le_refl _
 | succ k ih=>simp only[KN];omega
theorem XP:Q9 0=0:=by unfold Q9;rfl
theorem XB:Q9 1=1:=by unfold Q9;rfl
theorem XC{n:Nat}(h:2<=n):Q9 n=Q9 ((n+1)/2)+1:=by
 rw[Q9];simp[show n≠0 by omega,show n≠1 by omega]
theorem KC{n:Nat}(h:1<=n):1<=Q9 n:=by
 by_cases h1:n=1
 ·subst h1;rw[XB];exact Nat.le_refl _
 ·rw[XC (by omega)];omega
theorem FK(n k:Nat)(h:k<Q9 n):k+Q9 (KN n k)=Q9 n:=by
 induction k with
 | zero=>simp[KN]
 | succ k ih=>
  have h0:=ih (by omega)
  have h2:2<=KN n k:=by
   apply Nat.le_of_not_lt;intro hc
   rcases Nat.lt_or_ge (KN n k) 1 with h3|h3
   ·rw[show KN n k=0 by omega,XP] at h0;omega
   ·rw[show KN n k=1 by omega,XB] at h0;omega
  rw[XC h2] at h0;simp only[KN];omega
theorem NJ(J:Hs->Hs->Hs)(l:List Hs)(k:Nat)(h:k<Q9 l.length):1<=(n7 J l k).length:=by
 have h0:=FK _ _ h;rw[QM];apply Nat.le_of_not_lt;intro hc;rw[show KN l.length k=0 by omega,XP] at h0;omega
def allH(l:List Hs):Prop:=∀ h∈l,h.length=32
theorem allH.get{l:List Hs}(h:allH l){i:Nat}(hi:i<l.length):l[i]!.length=32:=by
 rw[getElem!_pos l i hi];exact h _ (List.getElem_mem hi)
theorem upI_all{J:Hs->Hs->Hs}(hJ:∀ a b,(J a b).length=32)(l:List Hs)(i:Nat):allH (upI J l i):=by
 induction i with
 | zero=>intro h hh;cases hh
 | succ i ih=>
  intro h hh
  rcases List.mem_append.1 hh with h1|h1
  ·exact ih h h1
  ·rw[List.mem_singleton.1 h1];exact hJ _ _
theorem QN{J:Hs->Hs->Hs}(hJ:∀ a b,(J a b).length=32){l:List Hs}(h:allH l)(k:Nat):allH (n7 J l k):=by
 cases k with
 | zero=>exact h
 | succ k=>exact upI_all hJ _ _
theorem X9(h:Hs):(z5 h).brw=z5 h:=by
 unfold z5;simp only[D.brw,d5];rw[j9 (fun _=>rfl)]
theorem IN(o:Option Nat)(z:Nat)(l:List Hs):(D.sl o z (l.map z5)).brw=.sl none z (l.map z5):=by
 simp only[D.brw,d5];rw[j9 X9]
theorem v8(h:Hs):Frs (z5 h):=.arr _ _ _ (u2 fun _=>.u8 _)
theorem frs_hs(e z:Nat)(l:List Hs):Frs (.sl (some e) z (l.map z5)):=.sl _ _ _ (u2 v8)
def zero32:Hs:=List.replicate 32 0
theorem fdiv_pow(k:Int)(n:Nat)(h:0<=k)(hn:n<=64):k.fdiv (2^min (n:Int).toNat 64)=((k.toNat/2^n:Nat):Int):=by
 have e:min (n:Int).toNat 64=n:=by omega
 rw[e];obtain⟨m,rfl⟩:=Int.eq_ofNat_of_zero_le h;rw[Int.fdiv_eq_ediv_of_nonneg _ (by exact_mod_cast Nat.zero_le _)]
 norm_cast
def LA(J:Hs->Hs->Hs)(l:List Hs):Nat->Hs
 | 0=>zero32
 | k+1=>(n7 J l k)[0]!
def M1(J:Hs->Hs->Hs)(l:List Hs):Hs:=LA J l (Q9 l.length)
end Go.Sx

namespace Go.Sx
abbrev Bg:=List UInt64
def Q3(x:Bg):D:=.arr 4 1 (x.map .u64)
def Q8(n:Nat):D:=.int ((n:Nat):Int)
def u4:Bg:=[0,0,0,0]
def c8(a:Bg)(i:Nat):Nat:=if 256<=i then 0 else(o6 a[i/64]! (i%64)&&&1).toNat
theorem SE(x:UInt64):(x&&&1).toNat<=1:=by
 rw[UInt64.toNat_and];exact Nat.le_trans Nat.and_le_right (by decide)
theorem M7(a:Bg)(i:Nat):c8 a i<=1:=by
 unfold c8;split
 ·exact Nat.zero_le _
 ·exact SE _
def D3(l:List Nat):Nat->Bg
 | 0=>u4
 | i+1=>if l[i]! = 1 then(D3 l i).set (i/64) ((D3 l i)[i/64]!|||H0 1 (i%64)) else D3 l i
def A8(l:List Nat):Bg:=D3 l (min l.length 256)
theorem CQ(l:List Nat)(i:Nat):(D3 l i).length=4:=by
 induction i with
 | zero=>rfl
 | succ i ih=>simp only[D3];split<;>simp[ih]
theorem B1(l:List Nat):(A8 l).length=4:=CQ _ _
def R7(a b:Bg):Nat->Bool
 | 0=>false
 | i+1=>if c8 a i≠c8 b i then decide (c8 a i<c8 b i) else R7 a b i
def T8(a b:Bg):Bool:=R7 a b 256
def nbI(a:Bg):Nat->Nat
 | 0=>0
 | i+1=>if c8 a i=1 then i+1 else nbI a i
def KD(a:Bg):Nat:=nbI a 256
theorem nbI_le(a:Bg)(i:Nat):nbI a i<=i:=by
 induction i with
 | zero=>exact Nat.le_refl _
 | succ i ih=>simp only[nbI];split<;>omega
theorem nbS_le(a:Bg):KD a<=256:=nbI_le a 256
def allB(l:List Nat):Prop:=∀ x∈l,x<=1
theorem allB.get{l:List Nat}(h:allB l)(i:Nat):l[i]!<=1:=by
 by_cases hi:i<l.length
 ·rw[getElem!_pos l i hi];exact h _ (List.getElem_mem hi)
 ·rw[getElem!_neg l i hi];exact Nat.zero_le _
theorem allB.set{l:List Nat}(h:allB l)(i x:Nat)(hx:x<=1):allB (l.set i x):=fun y hy=>by
 rcases List.mem_or_eq_of_mem_set hy with h1|h1
 ·exact h y h1
 ·exact h1▸hx
def ZI(a b:Bg):Nat->Nat
 | 0=>0
 | i+1=>(c8 a i+c8 b i+ZI a b i)/2
def ZL(a b:Bg):Nat->List Nat
 | 0=>[]
 | i+1=>ZL a b i++[(c8 a i+c8 b i+ZI a b i)%2]
def HT(a b:Bg):Bg:=A8 (ZL a b 256)
def WC(a b:Bg):Bool:=decide (ZI a b 256=1)
theorem bAddM_le(a b:Bg)(i:Nat):ZI a b i<=1:=by
 induction i with
 | zero=>exact Nat.zero_le _
 | succ i ih=>have:=M7 a i;have:=M7 b i;simp only[ZI];omega
theorem CP(a b:Bg)(i:Nat):(ZL a b i).length=i:=by
 induction i with
 | zero=>rfl
 | succ i ih=>simp[ZL,ih]
def Y4(a b:Bg):Nat->Nat
 | 0=>0
 | i+1=>if c8 a i<c8 b i+Y4 a b i then 1 else 0
def O5(a b:Bg):Nat->List Nat
 | 0=>[]
 | i+1=>O5 a b i++[if c8 a i<c8 b i+Y4 a b i then c8 a i+2-(c8 b i+Y4 a b i) else c8 a i-(c8 b i+Y4 a b i)]
def WD(a b:Bg):Bg:=A8 (O5 a b 256)
theorem AB(a b:Bg)(i:Nat):Y4 a b i<=1:=by
 cases i with
 | zero=>exact Nat.zero_le _
 | succ i=>simp only[Y4];split<;>omega
theorem CC(a b:Bg)(i:Nat):(O5 a b i).length=i:=by
 induction i with
 | zero=>rfl
 | succ i ih=>simp[O5,ih]
theorem bSub_len(a b:Bg):(WD a b).length=4:=by unfold WD;exact B1 _
theorem AN(a b:Bg):(HT a b).length=4:=by unfold HT;exact B1 _
def Z1(a:Bg)(k:Nat)(l:List Nat):Nat->List Nat×Nat
 | 0=>(l,0)
 | j+1=>((Z1 a k l j).1.set (k+j) (((Z1 a k l j).1[k+j]!+c8 a j+(Z1 a k l j).2)%2),((Z1 a k l j).1[k+j]!+c8 a j+(Z1 a k l j).2)/2)
def K9(a:Bg)(n:UInt64):Nat->List Nat
 | 0=>List.replicate 320 0
 | k+1=>if o6 n k&&&1=0 then K9 a n k else(Z1 a k (K9 a n k) (320-k)).1
def LR(l:List Nat):Nat->UInt64
 | 0=>0
 | k+1=>LR l k|||H0 (UInt64.ofInt ((l[256+k]!:Nat):Int)) k
def G9(a:Bg)(n:UInt64):Bg:=A8 (K9 a n 64)
def CB(a:Bg)(n:UInt64):UInt64:=LR (K9 a n 64) 64
theorem DO(a:Bg)(k:Nat)(l:List Nat)(j:Nat):(Z1 a k l j).1.length=l.length:=by
 induction j with
 | zero=>rfl
 | succ j ih=>simp[Z1,ih]
theorem DA(a:Bg)(k:Nat)(l:List Nat)(h:allB l)(j:Nat):allB (Z1 a k l j).1/\(Z1 a k l j).2<=1:=by
 induction j with
 | zero=>exact⟨h,Nat.zero_le _⟩
 | succ j ih=>
  have h1:=ih.1.get (k+j);have h2:=M7 a j;have h3:=ih.2;exact⟨ih.1.set _ _ (by omega),by simp only[Z1];omega⟩
theorem YD(a:Bg)(n:UInt64)(k:Nat):(K9 a n k).length=320:=by
 induction k with
 | zero=>exact List.length_replicate
 | succ k ih=>
  simp only[K9];split
  ·exact ih
  ·rw[DO,ih]
theorem mulI_bit(a:Bg)(n:UInt64)(k:Nat):allB (K9 a n k):=by
 induction k with
 | zero=>intro x hx;rw[(List.mem_replicate.1 hx).2];exact Nat.zero_le _
 | succ k ih=>
  simp only[K9];split
  ·exact ih
  ·exact(DA a k _ ih _).1
def KK(a:Bg)(n:Nat):Bg:=if n=0 then a else A8 ((List.range 256).map fun i=>if 256<n∨i<n then 0 else c8 a (i-n))
def X8(a:Bg)(n:Nat):Bg:=if n=0 then a else A8 ((List.range 256).map fun i=>if 256<n then 0 else c8 a (i+n))
def EK(a:Bg)(n i:Nat):List Nat:=(List.range i).map fun i=>if 256<n∨i<n then 0 else c8 a (i-n)
def A9(a:Bg)(n i:Nat):List Nat:=(List.range i).map fun i=>if 256<n then 0 else c8 a (i+n)
theorem upL_succ(a:Bg)(n i:Nat):EK a n (i+1)=EK a n i++[if 256<n∨i<n then 0 else c8 a (i-n)]:=by simp[EK,List.range_succ]
theorem ID(a:Bg)(n i:Nat):A9 a n (i+1)=A9 a n i++[if 256<n then 0 else c8 a (i+n)]:=by simp[A9,List.range_succ]
theorem LQ(a:Bg)(n i:Nat):(EK a n i).length=i:=by simp[EK]
theorem CU(a:Bg)(n i:Nat):(A9 a n i).length=i:=by simp[A9]
theorem JW{a:Bg}(ha:a.length=4)(n:Nat):(KK a n).length=4:=by
 unfold KK;split
 ·exact ha
 ·exact B1 _
theorem N2{a:Bg}(ha:a.length=4)(n:Nat):(X8 a n).length=4:=by
 unfold X8;split
 ·exact ha
 ·exact B1 _
theorem AP(a:Bg)(n:UInt64):(G9 a n).length=4:=by unfold G9;exact B1 _
def EZ(a r:Bg)(i:Nat):Bg:=(KK r 1).set 0 ((KK r 1)[0]!|||UInt64.ofInt ((c8 a i:Nat):Int))
theorem XZ{a r:Bg}(h:r.length=4)(i:Nat):(EZ a r i).length=4:=by unfold EZ;rw[List.length_set];exact JW h _
def Y3(a b:Bg):Nat->List Nat×Bg
 | 0=>(List.replicate 256 0,u4)
 | t+1=>
  if c8 (Y3 a b t).2 255=1∨T8 (EZ a (Y3 a b t).2 (255-t)) b=false then
   ((Y3 a b t).1.set (255-t) 1,WD (EZ a (Y3 a b t).2 (255-t)) b)
  else((Y3 a b t).1,EZ a (Y3 a b t).2 (255-t))
def J2(a b:Bg):Bg:=if b=u4 then u4 else A8 (Y3 a b 256).1
def M6(a b:Bg):Bg:=if b=u4 then u4 else(Y3 a b 256).2
def divE(b:Bg):Nat:=if b=u4 then 1 else 0
theorem divR_len(a b:Bg)(h:(Y3 a b 256).2.length=4):(M6 a b).length=4:=by
 unfold M6;split
 ·rfl
 ·exact h
theorem AQ(a b:Bg):(J2 a b).length=4:=by
 unfold J2;split
 ·rfl
 ·exact B1 _
theorem AZ(a b:Bg)(t:Nat):(Y3 a b t).1.length=256/\(Y3 a b t).2.length=4:=by
 induction t with
 | zero=>rw[Y3];exact⟨List.length_replicate,rfl⟩
 | succ t ih=>
  rw[Y3];generalize Y3 a b t=q at ih ⊢;obtain⟨h1,h2⟩:=ih;split
  ·dsimp only;exact⟨List.length_set.trans h1,bSub_len _ _⟩
  ·dsimp only;exact⟨h1,XZ h2 _⟩
def hbit(h:Hs)(i:Nat):Nat:=(T1 h[i/8]! (i%8)&&&1).toNat
def HE(h:Hs)(i:Nat):List Nat:=(List.range i).map (hbit h)
def EW(h:Hs):Bg:=A8 (HE h 256)
theorem TT(h:Hs)(i:Nat):HE h (i+1)=HE h i++[hbit h i]:=by simp[HE,List.range_succ]
theorem NR(h:Hs)(i:Nat):(HE h i).length=i:=by simp[HE]
theorem BU(n:Nat)(h:n<18446744073709551616):(UInt64.ofInt ((n:Nat):Int)).toNat=n:=by
 have:UInt64.ofInt ((n:Nat):Int)=UInt64.ofNat n:=by
  unfold UInt64.ofInt
  congr 1
  omega
 rw[this];simp[UInt64.toNat_ofNat];omega
theorem shr_of(x:UInt64)(n:Nat)(h:n<64):o6 x ((((UInt64.ofInt ((n:Nat):Int)).toNat:Nat):Int)).toNat=o6 x n:=by
 rw[BU n (by omega)];rfl
theorem shl_of(x:UInt64)(n:Nat)(h:n<64):H0 x ((((UInt64.ofInt ((n:Nat):Int)).toNat:Nat):Int)).toNat=H0 x n:=by
 rw[BU n (by omega)];rfl
theorem shr8_of(x:UInt8)(n:Nat)(h:n<8):T1 x ((((UInt64.ofInt ((n:Nat):Int)).toNat:Nat):Int)).toNat=T1 x n:=by
 rw[BU n (by omega)];rfl
theorem wr_and1(x:UInt64):D.int (wr ((x&&&1).toNat:Int))=D.int (((x&&&1).toNat:Nat):Int):=by
 have:=SE x;exact B6 rfl (by omega) (by omega)
theorem RO{l:List Nat}{i:Nat}(h:l[i]! = 1):D3 l (i+1)=(D3 l i).set (i/64) ((D3 l i)[i/64]!|||H0 1 (i%64)):=by rw[D3,if_pos h]
theorem RA{l:List Nat}{i:Nat}(h:¬ l[i]! = 1):D3 l (i+1)=D3 l i:=by rw[D3,if_neg h]
theorem subL_f{a b:Bg}{i:Nat}(h:¬ ((c8 a i:Nat):Int)-((c8 b i:Nat):Int)-((Y4 a b i:Nat):Int)<0) :
 (O5 a b i).map Q8++[D.int (((c8 a i:Nat):Int)-((c8 b i:Nat):Int)-((Y4 a b i:Nat):Int))]=(O5 a b (i+1)).map Q8:=by
 rw[O5,List.map_append,if_neg (by omega)]
 congr 1
 simp only[List.map_cons,List.map_nil,Q8]
 congr 2
 omega
theorem subL_t{a b:Bg}{i:Nat}(h:((c8 a i:Nat):Int)-((c8 b i:Nat):Int)-((Y4 a b i:Nat):Int)<0) :
 (O5 a b i).map Q8++[D.int (((c8 a i:Nat):Int)-((c8 b i:Nat):Int)-((Y4 a b i:Nat):Int)+2)]=(O5 a b (i+1)).map Q8:=by
 have h1:=M7 b i;have h2:=AB a b i;rw[O5,List.map_append,if_pos (by omega)]
 congr 1
 simp only[List.map_cons,List.map_nil,Q8]
 congr 2
 omega
theorem subM_f{a b:Bg}{i:Nat}(h:¬ ((c8 a i:Nat):Int)-((c8 b i:Nat):Int)-((Y4 a b i:Nat):Int)<0):Y4 a b (i+1)=0:=by rw[Y4,if_neg (by omega)]
theorem subM_t{a b:Bg}{i:Nat}(h:((c8 a i:Nat):Int)-((c8 b i:Nat):Int)-((Y4 a b i:Nat):Int)<0):Y4 a b (i+1)=1:=by rw[Y4,if_pos (by omega)]
theorem lessI_f{a b:Bg}{i:Nat}(h:¬ c8 a i≠c8 b i):R7 a b (i+1)=R7 a b i:=by rw[R7,if_neg h]
theorem lessI_t{a b:Bg}{i:Nat}(h:c8 a i≠c8 b i):R7 a b (i+1)=decide (c8 a i<c8 b i):=by rw[R7,if_pos h]
theorem nbI_t{a:Bg}{i:Nat}(h:c8 a i=1):nbI a (i+1)=i+1:=by rw[nbI,if_pos h]
theorem nbI_f{a:Bg}{i:Nat}(h:¬ c8 a i=1):nbI a (i+1)=nbI a i:=by rw[nbI,if_neg h]
theorem EQ{a:Bg}{n i x:Nat}(h:(if 256<n∨i<n then 0 else c8 a (i-n))=x):(EK a n i).map Q8++[D.int ((x:Nat):Int)]=(EK a n (i+1)).map Q8:=by rw[upL_succ,List.map_append,h];rfl
theorem OW{a:Bg}{n i x:Nat}(h:(if 256<n then 0 else c8 a (i+n))=x):(A9 a n i).map Q8++[D.int ((x:Nat):Int)]=(A9 a n (i+1)).map Q8:=by rw[ID,List.map_append,h];rfl
theorem upS_0(a:Bg):KK a 0=a:=by rw[KK,if_pos rfl]
theorem upS_n{a:Bg}{n:Nat}(h:¬ n<=0):KK a n=A8 (EK a n 256):=by rw[KK,if_neg (by omega),EK]
theorem downS_0(a:Bg):X8 a 0=a:=by rw[X8,if_pos rfl]
theorem downS_n{a:Bg}{n:Nat}(h:¬ n<=0):X8 a n=A8 (A9 a n 256):=by rw[X8,if_neg (by omega),A9]
theorem zl(n:Nat):(List.replicate n 0).map Q8=List.replicate n (.int 0):=by rw[List.map_replicate];rfl
theorem mulI_0(a:Bg)(n:UInt64):K9 a n 0=List.replicate 320 0:=by rw[K9]
theorem mulI_f{a:Bg}{n:UInt64}{k:Nat}(h:o6 n k&&&1=0):K9 a n (k+1)=K9 a n k:=by rw[K9,if_pos h]
theorem mulI_t{a:Bg}{n:UInt64}{k:Nat}(h:¬ o6 n k&&&1=0):K9 a n (k+1)=(Z1 a k (K9 a n k) (320-k)).1:=by rw[K9,if_neg h]
theorem mulJ_2(a:Bg)(k:Nat)(l:List Nat)(j:Nat):((Z1 a k l j).1[k+j]!+c8 a j+(Z1 a k l j).2)/2=(Z1 a k l (j+1)).2:=by rw[Z1]
theorem mulJ_0(a:Bg)(k:Nat)(l:List Nat):Z1 a k l 0=(l,0):=by rw[Z1]
theorem divI_0(a b:Bg):Y3 a b 0=(List.replicate 256 0,u4):=by rw[Y3]
theorem JZ{a b r:Bg}{q:List Nat}{k:Nat}(hq:Y3 a b k=(q,r))(h:c8 r 255=1∨T8 (EZ a r (255-k)) b=false):Y3 a b (k+1)=(q.set (255-k) 1,WD (EZ a r (255-k)) b):=by
 rw[Y3,hq];exact if_pos h
theorem IC{a b r:Bg}{q:List Nat}{k:Nat}(hq:Y3 a b k=(q,r))(h:¬ c8 r 255=1)(h2:¬ T8 (EZ a r (255-k)) b=false):Y3 a b (k+1)=(q,EZ a r (255-k)):=by
 rw[Y3,hq];exact if_neg (fun h3=>h3.elim h h2)
theorem RR{a b r:Bg}{q:List Nat}{k:Nat}(hq:Y3 a b k=(q,r)):q.length=256/\r.length=4:=by
 have:=AZ a b k;rw[hq] at this;exact this
theorem div_z{a b:Bg}(h:(b==u4)=true):J2 a b=u4/\M6 a b=u4/\divE b=1:=by
 have h:=eq_of_beq h;exact⟨by rw[J2,if_pos h],by rw[M6,if_pos h],by rw[divE,if_pos h]⟩
theorem div_n{a b r:Bg}{q:List Nat}(h:(b==u4)=false)(hq:Y3 a b 256=(q,r)):J2 a b=A8 q/\M6 a b=r/\divE b=0:=by
 have h:=ne_of_beq_false h;exact⟨by rw[J2,if_neg h,hq],by rw[M6,if_neg h,hq],by rw[divE,if_neg h]⟩
theorem divR_ok(a b:Bg):(M6 a b).length=4:=divR_len a b (AZ a b 256).2
theorem m4(x:Bg):Frs (Q3 x):=.arr _ _ _ (u2 fun _=>.u64 _)
def Z5(bits:UInt32):Bg:=[(bits&&&8388607).toUInt64,0,0,0]
def S1(bits:UInt32):Bg:=
 if(u0 bits 24).toNat<3 then X8 (Z5 bits) (8*(3-(u0 bits 24).toNat)) else KK (Z5 bits) (8*((u0 bits 24).toNat-3))
def i8(bits:UInt32):Option Bg:=
 if 3<=(u0 bits 24).toNat/\256<KD (Z5 bits)+8*((u0 bits 24).toNat-3)/\Z5 bits≠u4 then none
 else if S1 bits=u4∨bits&&&8388608≠0 then none else some (S1 bits)
def HF(bits:UInt32):Bg:=(i8 bits).getD u4
def ZP(t:Bg):Nat:=(KD t+7)/8
def ZB(t:Bg):Bg:=if ZP t<3 then KK t (8*(3-ZP t)) else X8 t (8*(ZP t-3))
def W2(t:Bg):UInt32:=
 if t=u4 then 0
 else if(8388608:UInt64)<=(ZB t)[0]! then c5 (UInt32.ofInt ((ZP t+1:Nat):Int)) 24|||(X8 (ZB t) 8)[0]!.toUInt32
 else c5 (UInt32.ofInt ((ZP t:Nat):Int)) 24|||(ZB t)[0]!.toUInt32
def QR(h:Hs)(t:Bg):Bool:=t != u4&&!T8 t (EW h)
theorem tgtS_len(bits:UInt32):(S1 bits).length=4:=by
 unfold S1;split
 ·exact N2 rfl _
 ·exact JW rfl _
theorem QF(bits:UInt32):(HF bits).length=4:=by
 unfold HF i8;split
 ·rfl
 ·split
  ·rfl
  ·exact tgtS_len _
theorem shr24_le(bits:UInt32):(u0 bits 24).toNat<=255:=by
 unfold u0;rw[if_pos (by decide),UInt32.toNat_shiftRight];have:=bits.toNat_lt;have e:(UInt32.ofNat 24).toNat%32=24:=rfl;rw[e,Nat.shiftRight_eq_div_pow];omega
theorem of_no1{bits:UInt32}(h3:¬ (u0 bits 24).toNat<3)(hb:256<KD (Z5 bits)+8*((u0 bits 24).toNat-3))(hn:(Z5 bits != u4)=true):i8 bits=none:=by
 unfold i8;exact if_pos ⟨by omega,hb,bne_iff_ne.1 hn⟩
theorem D2{bits:UInt32}(h:(u0 bits 24).toNat<3∨¬ 256<KD (Z5 bits)+8*((u0 bits 24).toNat-3)∨(Z5 bits != u4)=false):i8 bits=if S1 bits=u4∨bits&&&8388608≠0 then none else some (S1 bits):=by
 unfold i8;refine if_neg (fun hc=>?_)
 rcases h with h|h|h
 ·omega
 ·exact h hc.2.1
 ·exact bne_iff_ne.2 hc.2.2 |>.symm.trans h |> fun e=>by cases e
theorem LX{bits:UInt32}(h:(u0 bits 24).toNat<3):S1 bits=X8 (Z5 bits) (8*(3-(u0 bits 24).toNat)):=by unfold S1;exact if_pos h
theorem JG{bits:UInt32}(h:¬ (u0 bits 24).toNat<3):S1 bits=KK (Z5 bits) (8*((u0 bits 24).toNat-3)):=by unfold S1;exact if_neg h
theorem DM{bits:UInt32}{x:Bg}(hg:i8 bits=if S1 bits=u4∨bits&&&8388608≠0 then none else some (S1 bits))(ht:S1 bits=x)(hz:x=u4):i8 bits=none:=by rw[hg,if_pos (.inl (ht.trans hz))]
theorem DP{bits:UInt32}(hg:i8 bits=if S1 bits=u4∨bits&&&8388608≠0 then none else some (S1 bits))(h:(bits&&&8388608 != 0)=true):i8 bits=none:=by rw[hg,if_pos (.inr (bne_iff_ne.1 h))]
theorem DB{bits:UInt32}{x:Bg}(hg:i8 bits=if S1 bits=u4∨bits&&&8388608≠0 then none else some (S1 bits))(ht:S1 bits=x)(hz:¬ x=u4)(h:(bits&&&8388608 != 0)=false):i8 bits=some x:=by
 rw[hg,if_neg (fun hc=>hc.elim (fun e=>hz (ht.symm.trans e)) (fun e=>by rw[bne_iff_ne.2 e] at h;cases h)),ht]
theorem i9{bits:UInt32}(h:i8 bits=none):HF bits=u4:=by rw[HF,h];rfl
theorem BY{bits:UInt32}{x:Bg}(h:i8 bits=some x):HF bits=x:=by rw[HF,h];rfl
theorem comp_z{t:Bg}(h:(t==u4)=true):W2 t=0:=by unfold W2;exact if_pos (eq_of_beq h)
theorem comp_t{t x:Bg}(h:(t==u4)=false)(hp:ZB t=x)(h2:(8388608:UInt64)<=x[0]!):W2 t=c5 (UInt32.ofInt ((ZP t+1:Nat):Int)) 24|||(X8 x 8)[0]!.toUInt32:=by
 subst hp;unfold W2;rw[if_neg (ne_of_beq_false h),if_pos h2]
theorem comp_f{t x:Bg}(h:(t==u4)=false)(hp:ZB t=x)(h2:¬ (8388608:UInt64)<=x[0]!):W2 t=c5 (UInt32.ofInt ((ZP t:Nat):Int)) 24|||x[0]!.toUInt32:=by
 subst hp;unfold W2;rw[if_neg (ne_of_beq_false h),if_neg h2]
theorem RT{t:Bg}(h:(KD t+7)/8<3):ZB t=KK t (8*(3-(KD t+7)/8)):=by unfold ZB ZP;exact if_pos h
theorem RW{t:Bg}(h:¬ (KD t+7)/8<3):ZB t=X8 t (8*((KD t+7)/8-3)):=by unfold ZB ZP;exact if_neg h
theorem ofHS_len(h:Hs):(EW h).length=4:=by unfold EW;exact B1 _
theorem meet_f{h:Hs}{t:Bg}(hz:t=u4):QR h t=false:=by unfold QR;rw[hz];rfl
theorem meet_t{h:Hs}{t:Bg}(hz:¬ t=u4):QR h t=!T8 t (EW h):=by unfold QR;rw[bne_iff_ne.2 hz,Bool.true_and]
end Go.Sx
