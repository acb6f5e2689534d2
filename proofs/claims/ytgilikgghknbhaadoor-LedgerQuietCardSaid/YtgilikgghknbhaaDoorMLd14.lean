/- Proved: what functions of the given program compute (used by the theorem of this claim). Conditions: none but those that each theorem states. -/
import Derived.Test.YtgilikgghknbhaaDoorMSxTake
import Derived.Test.YtgilikgghknbhaaDoorMLd4
set_option linter.unusedVariables false
set_option linter.unusedSimpArgs false
set_option linter.unnecessarySimpa false

namespace Go.Sx
open Go.Proofs
theorem may13_ok:Fn Tryd.prog gl 78 [.agg [.u32 545259519,.int 10,.u32 10,.nils,d7 Z9]] (.bool true):=by
 refine Fn.of (n:=94) Tryd.func78 rfl rfl rfl (nU rfl) fun C hC hD=>?_;refine z7 2 [] [] [] (V1 0) Zt O O (⟨O,_,R.box (gV 0 O) O O (nU O),⟨O,_,v3 (kB false O) O (nU O),tV (V1 1) (b1 1) 94 O O O ?_⟩⟩);refine z7 9 (y6 8 9 10 7 11 12) [] [] (V3 1 11 12) ⟨aU (fU 1 O O),aU (lU 8 O O O O O O O),aU<|zC hC (of_lim) O O O (FrsR.two (m4 _) (.bool _)) O,aU<|zY O O O,aU<|zX O O O O,aU<|zX O O O O,Zt⟩ O O (o0 O O (m1 O O O O O (E9 O O O (tV (V3 1 3 4) (b2 3 1) 94 O O O ?_))));refine W.seq (W.seq ?_);refine w7 (m:=37) (an:=(0::1::3::7::15::7::39::127::255::511::1023::2047::4095::8191::16383::32767::65535::131071::262143::524287::1048575::2097151::4194303::8388607::16777215::33554431::67108863::134217727::268435455::536870911::1073741823::2147483647::4294967295::1073741823::9663676415::34359738367::68719476735::[])) hP dU O (its:=(.y 13 _::.y 14 _::.y 15 _::.y 16 _::.y 17 _::.y 18 _::.y 19 _::.y 20 _::.y 21 _::.y 22 _::.y 23 _::.y 24 _::.y 25 _::.y 26 _::.y 27 _::.y 28 _::.y 29 _::.y 30 _::.y 31 _::.y 32 _::.y 33 _::.y 34 _::.y 35 _::.y 36 _::.y 37 _::.y 38 _::.y 39 _::.y 40 _::.y 41 _::.y 42 _::.y 43 _::.y 44 _::.y 45 _::.y 46 _::.y 47 _::.y 48 _::.y 49 _::[])) (ks:=[]) (kk:=[]) (live:=[1,49]) (env':=(V2 1 49)) (⟨nU O,O,⟨mU 4 O O,aU<|JY O O O,mU 14 O O,aW O O (gF (O) O) (lU 3 O O O O O O O),aW O O (gF (O) O)<|zC hC (VS) O O O (F1 (.u32 _)) O,aW O O (gF (O) O) (fU 1 O O),aW O O (gF (O) O) (lU 18 O O O O O O O),aW O O (gF (O) O)<|zB O O O O,aU<|zF O (O) O O O,mU 21 O O,aW O O (gF dU O) (fU 1 O O),aW O O (gF dU O) (lU 23 O O O O O O O),aW O O (gF dU O)<|I7 2 O O O,aU<|zF O dU O O O,mU 26 O O,aW O O (gF dU O) (fU 1 O O),aW O O (gF dU O) (lU 28 O O O O O O O),aW O O (gF dU O)<|HQ 2016 O O O,aU<|zF O dU O O O,mU 31 O O,aW O O (gF dU O) (fU 1 O O),aW O O (gF dU O) (lU 33 O O O O O O O),aW O O (gF dU O)<|P5 O (kW (.int .u32 1) (.u32 1) O) O O,aU<|zF O dU O O O,mU 36 O O,aW O O (gF dU O) (fU 1 O O),aW O O (gF dU O) (lU 38 O O O O O O O),aW O O (gF dU O)<|P5 O (kW (.int .u32 3600) (.u32 3600) O) O O,aU<|zF O dU O O O,mU 41 O O,aW O O (gF dU O) (fU 1 O O),aW O O (gF dU O) (fU 43 O O),aW O O (gF dU O) (lU 44 O O O O O O O),aW O O (gF dU O) (fU 1 O O),aW O O (gF dU O) (lU 46 O O O O O O O),aW O O (gF dU O)<|zB O O O O,aU<|zF O dU O O O,Zt⟩,O,O,O⟩) O (bx':=(b2 3 1)) O (n':=94) O (tV (V2 1 49) (b2 3 1) 94 O O O ?_);refine g9 O dU ?_;refine W.skip (W.seq (z6 1 (y1 5) (V2 1 5) ⟨aU<|zK (kI 0 O) O O,Zt⟩ O O O O ?_));refine W.block ?_;refine SL ?_;refine WU.step ?_;show W _ _ _ _ _;refine u3 (live:=[1,5]) (env':=(V2 1 5)) (bx':=(b2 3 1)) (n':=94) O O O ?_;refine p9 [1] (bx':=(b1 1)) O O O (j7 hD O) ?_;refine W.seq (z6 5 (y5 50 51 52 53 54) (V3 1 5 54) ⟨mU 5 O O,aU (fU 1 O O),aU (lU 51 O O O O O O O),aU fun _ _ H K=>GI (n:=0) (SC.nil (z:=1) (K 52 _ O)) (O) H,aU<|zS O O O,Zt⟩ O O O O ?_);refine g9 O dU ?_;refine W.exit (z6 1 (y1 2) (V1 2) ⟨aU<|zK (kB true O) O O,Zt⟩ O O O O ?_);refine W.ret ?_;exact Ends.one' (.inr O) O (O) O O Zt
theorem WH(l:List HdS)(hl0:l.length<=1000):Fn Tryd.prog gl 58 [.agg [.u32 545259519,.int 10,.u32 10,.nils,d7 Z9],.sl none 68 (l.map d7)] (.u32 (Q0 l)):=by
 refine Fn.of (n:=86) Tryd.func58 rfl rfl rfl (nU rfl) fun C hC hD=>?_;refine z7 2 [] [] [] (V2 0 1) Zt O O (⟨O,_,R.box (gV 0 O) O O (nU O),⟨O,_,v3 (kW (.int .u32 0) (.u32 0) O) O (nU O),tV (V2 1 2) (b1 2) 86 O O O ?_⟩⟩);refine z6 3 (y3 14 15 5) (V3 1 2 5) ⟨mU 1 O O,aU<|zN O (lN _) O,aU<|zA O O O,Zt⟩ O O O O ?_;refine W.seq (W.seq ?_);by_cases hn:l.length=0
 ·refine j1 7 [.y 16 _,.y 17 _,.y 18 _,.x 19,.x 20,.x 21,.y 22 _] (V4 1 2 5 22) ⟨mU 5 O O,aU<|r7 0 O O O,mU 17 O O,aF O O (gT (dT hn) O),aF O O (gT (dT hn) O),aF O O (gT (dT hn) O),aU<|AT O (dT hn) (kB true O) O O,Zt⟩ O O O O ?_;refine d6 O (O) ?_;refine z6 1 (y1 4) (V1 4) ⟨aU<|zK (kW (.int .u32 0) (.u32 0) O) O O,Zt⟩ O O O O ?_;refine W.ret ?_;exact Ends.one' (.inr O) O (by rw[bitsP_0 hn]) O O Zt
 ·refine j1 7 (y7 16 17 18 19 20 21 22) (V4 1 2 5 22) ⟨mU 5 O O,aU<|r7 0 O O O,mU 17 O O,aW O O (gF (dF hn) O) (lU 2 O O O O O O O),aW O O (gF (dF hn) O)<|zC hC (may13_ok) O O O (F1 (.bool _)) O,aW O O (gF (dF hn) O)<|JY O O O,aU<|zF O (dF hn) O O O,Zt⟩ O O O O ?_;refine g9 O (O) ?_;refine W.skip (z7 7 (y5 23 24 25 26 27) [] [] (V4 1 2 5 27) ⟨mU 1 O O,mU 5 O O,aU<|GW 1 O O bU bU O,aU<|zI ((l.length-1)) O O O bU O,aU<|zL O O (mG l) O O O O O,Zt⟩ O O (o0 O O (m1 O O O O O (tV (V4 1 2 5 6) (b2 6 2) 86 O O O ?_))));refine W.seq (z6 5 (y5 28 29 30 31 32) (V5 1 2 5 6 32) ⟨mU 5 O O,aU (fU 2 O O),aU (lU 29 O O O O O O O),aU fun _ _ H K=>E7 (l.length) (10) (eU K 28 O) (eU K 30 O) bU H,aU<|zNek 0 O O O,Zt⟩ O O O O ?_);refine z9 O (fun hc32=>?_) (fun hc32=>?_)
  ·refine z6 3 (y3 33 34 4) (V1 4) ⟨aU (fU 6 O O),aU (lU 33 O O O O O O O),aU<|zA O O O,Zt⟩ O O O O ?_;refine W.ret ?_;exact Ends.one' (.inr O) O (by rw[bitsP_1 hn hc32]) O O Zt
  ·refine W.skip (W.seq ?_);refine W.l0 7 [.y 35 _,.y 36 _,.y 37 _,.y 38 _,.y 39 _,.y 40 _,.y 7 _] [] [] [(1,_),(2,_),(5,_),(6,_),(7,_)] [(6,.var _),(2,.var _)] 86 ⟨aU (fU 2 O O),aU (lU 35 O O O O O O O),aU (fU 2 O O),aU (lU 37 O O O O O O O),aU fun _ _ H K=>R.conv (eU K 38 O) O H,aU fun _ _ H K=>II (10) (10) (eU K 36 O) (eU K 39 O) bU H,aU fun _ _ H K=>v3 (eU K 40 O) O H,Zt⟩ O O O O (tU O ?_);refine W.seq ?_;have ht1:=l[l.length-1]!.time.toNat_lt;have ht2:=l[l.length-10]!.time.toNat_lt;refine w7 (m:=14) (an:=[0,1,3,0,0,0,32,112,248,504,1016,2040,4095,8191]) hP dU O (its:=[.y 41 _,.y 42 _,.y 43 _,.y 44 _,.y 45 _,.y 46 _,.y 47 _,.y 48 _,.y 49 _,.y 50 _,.y 51 _,.y 52 _,.y 53 _,.y 8 _]) (ks:=[]) (kk:=[]) (live:=[2,6,7,8]) (env':=(V4 2 6 7 8)) (⟨nU O,O,⟨aU (fU 6 O O),aU (lU 41 O O O O O O O),aU<|zW O O O,mU 1 O O,mU 5 O O,aU (fU 2 O O),aU (lU 46 O O O O O O O),aU<|zQ O O bU bU O,aU<|zI ((l.length-10)) O O O bU O,aU<|H9 O O,aU<|zL O O (mG l) O O O O O,aU<|zW O O O,aU fun _ _ H K=>m3 (d:=.int (((l[l.length-1]!.time.toNat:Nat):Int)-((l[l.length-10]!.time.toNat:Nat):Int))) (eU K 43 O) (eU K 52 O) O Zt (B6 bO bO bO) H,aU<|zA O O O,Zt⟩,O,O,O⟩) O (bx':=(b2 6 2)) O (n':=86) O (tV (V4 2 6 7 8) (b2 6 2) 86 O O O ?_);refine W.seq ?_;refine W.l0 8 [.y 54 _,.y 55 _,.y 56 _,.y 57 _,.y 58 _,.y 59 _,.y 60 _,.y 8 _] [] [] [(2,_),(6,_),(7,_),(8,_)] [(6,.var _),(2,.var _)] 86 ⟨mU 8 O O,mU 7 O O,aU fun _ _ H K=>O8 (100) (4) (eU K 55 O) (kI 4 O) bU bU H,aU fun _ _ H K=>R.maxI (r:=(max (((l[l.length-1]!.time.toNat:Nat):Int)-((l[l.length-10]!.time.toNat:Nat):Int)) 25)) (eU K 54 O) (eU K 56 O) (O) H,mU 7 O O,aU fun _ _ H K=>II (4) (100) (kI 4 O) (eU K 58 O) bU H,aU fun _ _ H K=>R.minI (r:=(spanZ l)) (eU K 57 O) (eU K 59 O) (O) H,aU fun _ _ H K=>v3 (eU K 60 O) O H,Zt⟩ O O O O (tU O ?_);refine z7 9 (y6 62 63 64 61 65 66) [] [] (V5 6 7 8 65 66) ⟨aU (fU 2 O O),aU (lU 62 O O O O O O O),aU<|zC hC (of_lim) O O O (FrsR.two (m4 _) (.bool _)) O,aU<|zY O O O,aU<|zX O O O O,aU<|zX O O O O,Zt⟩ O O (o0 O O (m1 O O O O O (E9 O O O (tV (V4 6 7 8 9) (b3 9 6 2) 86 O O O ?_))));refine z7 9 (y6 68 69 70 67 71 72) [] [] (V5 7 8 9 71 72) ⟨aU (fU 6 O O),aU (lU 68 O O O O O O O),aU<|zC hC (EJ l[l.length-1]!.bits) O O O (FrsR.two (m4 _) (.bool _)) O,aU<|zY O O O,aU<|zX O O O O,aU<|zX O O O O,Zt⟩ O O (o0 O O (m1 O O O O O (E9 O O O (tV (V4 7 8 9 11) (b4 11 9 6 2) 86 O O O ?_))));refine z7 9 (y7 73 74 75 76 77 78 79) [] [] (V1 79) ⟨aU (lU 11 O O O O O O O),mU 8 O O,aU<|zW O O O,mU 7 O O,aU fun _ _ H K=>Z3 (d:=.u64 100) (eU K 76 O) O (O) H,aU (lU 9 O O O O O O O),aU fun _ _ H K=>j5 hC (part_ok (HF l[l.length-1]!.bits) (UInt64.ofInt (spanZ l)) 100 (HF lim) (QF _) (QF _)) (Bc (Bp (eU K 73 O) O O) (Bc (Bp (eU K 75 O) O O) (Bc (Bp (eU K 77 O) O O) (Bc (Bp (eU K 78 O) O O) Bn)))) (F1 (m4 _)) H,Zt⟩ O O (o0 O O (m1 O O O O O (tV (V1 13) (b5 13 11 9 6 2) 86 O O O ?_)));refine W.seq (W.seq ?_);by_cases hz:YG l=u4
   ·refine j1 3 (y3 80 81 82) (V2 13 82) ⟨aU (lU 13 O O O O O O O),aU fun _ _ H _=>R.bldAZ O H,aU fun _ _ H K=>R.eqD (neg:=false) (b':=((YG l)==u4)) (B2 _ _) O (eU K 80 O) (eU K 81 O) O O O O (O) H,Zt⟩ O O O O ?_;refine d6 O (beq_iff_eq.2 hz) ?_;refine c9 2 (y1 83) [] [] (V2 13 83) ⟨aU fun _ _ H _=>R.bldAP (z:=1) (l2:=([1,0,0,0].map D.u64)) (.cons (kW (.int .u64 1) (.u64 1) O) (.nil O)) ⟨⟨_,(kW (.int .u64 1) (.u64 1) O),O,O,O,O⟩,Zt⟩ (O) H,Zt⟩ O O (m1 O O O O O (tV (V1 13) (b5 13 11 9 6 2) 86 O O O ?_));refine z6 3 (y3 84 85 4) (V1 4) ⟨aU (lU 13 O O O O O O O),aU<|zC hC (UM [1,0,0,0] O) O O O (F1 (.u32 _)) O,aU<|zA O O O,Zt⟩ O O O O ?_;refine W.ret ?_;exact Ends.one' (.inr O) O (by rw[bitsP_2 hn hc32 hz]) O O Zt
   ·refine j1 3 (y3 80 81 82) (V2 13 82) ⟨aU (lU 13 O O O O O O O),aU fun _ _ H _=>R.bldAZ O H,aU fun _ _ H K=>R.eqD (neg:=false) (b':=((YG l)==u4)) (B2 _ _) O (eU K 80 O) (eU K 81 O) O O O O (O) H,Zt⟩ O O O O ?_;refine g9 O (beq_eq_false_iff_ne.2 hz) ?_;refine W.skip (z6 3 (y3 84 85 4) (V1 4) ⟨aU (lU 13 O O O O O O O),aU<|zC hC (UM (YG l) (newT_len l)) O O O (F1 (.u32 _)) O,aU<|zA O O O,Zt⟩ O O O O ?_);refine W.ret ?_;exact Ends.one' (.inr O) O (by rw[bitsP_3 hn hc32 hz]) O O Zt
theorem RL:Fn Tryd.prog gl 10 [.int ((10:Nat):Int),.u32 10] (.agg [.u32 545259519,.int 10,.u32 10,.nils,d7 Z9]):=by
 refine Fn.of (n:=9) Tryd.func10 rfl rfl rfl (nU rfl) fun C hC hD=>?_;refine z7 1 [] [] [] (V2 0 1) Zt O O (o0 O O (tV (V3 0 1 4) (b1 4) 9 O O O ?_));refine z7 5 (y4 5 6 7 8) [] [] (V2 4 8) ⟨mU 0 O O,mU 1 O O,aU fun _ _ H _=>p6 (l:=[.u32 0,.arr 32 1 ((List.replicate 32 0).map D.u8),.arr 32 1 ((List.replicate 32 0).map D.u8),.u32 0,.u32 0,.u32 0]) (l':=[_,_,_,_,_,_]) (.cons (kW (.int .u32 1) (.u32 1) O) (.cons (kW (.int .u32 1000) (.u32 1000) O) (.cons (kW (.int .u32 545259519) (.u32 545259519) O) (.nil O)))) ⟨⟨_,(kW (.int .u32 1) (.u32 1) O),O,O,O⟩,⟨⟨_,(kW (.int .u32 1000) (.u32 1000) O),O,O,O⟩,⟨⟨_,(kW (.int .u32 545259519) (.u32 545259519) O),O,O,O⟩,Zt⟩⟩⟩ H,aU fun _ _ H K=>p6 (l:=[.u32 0,.int 0,.u32 0,.nils,.agg [.u32 0,.arr 32 1 ((List.replicate 32 0).map D.u8),.arr 32 1 ((List.replicate 32 0).map D.u8),.u32 0,.u32 0,.u32 0]]) (l':=[_,_,_,_,_]) (.cons (kW (.int .u32 545259519) (.u32 545259519) O) (.cons (eU K 5 O) (.cons (eU K 6 O) (.cons (eU K 7 O) (.nil O))))) ⟨⟨_,(kW (.int .u32 545259519) (.u32 545259519) O),O,O,O⟩,⟨⟨_,(eU K 5 O),O,O,O⟩,⟨⟨_,(eU K 6 O),O,O,O⟩,⟨⟨_,(eU K 7 O),O,O,O⟩,Zt⟩⟩⟩⟩ H,Zt⟩ O O (m1 O O O O O (tV (V1 4) (b1 4) 9 O O O ?_));refine W.ret ?_;exact Ends.one' (.inr O) O (O) O O (show LdT _ 37 72 true from inferInstance)
end Go.Sx

namespace Go.Sx
theorem med_0{l:List HdS}(h:l.length=0):NV l=0:=by unfold NV;exact if_pos h
theorem med_1{l:List HdS}(h:¬ l.length=0):NV l=(JL l (min l.length 11))[min l.length 11/2]!:=by unfold NV;exact if_neg h
theorem u32_succ(n:Nat):UInt32.ofNat n+1=UInt32.ofNat (n+1):=by
 apply UInt32.toNat_inj.1;rw[UInt32.toNat_add,UInt32.toNat_ofNat',UInt32.toNat_ofNat'];show(n%4294967296+1)%4294967296=_;omega
theorem CT{n:Nat}(h:n<=200):(UInt32.ofNat n<200)↔n<200:=by
 rw[UInt32.lt_iff_toNat_lt,UInt32.toNat_ofNat'];have e:(200:UInt32).toNat=200:=rfl;rw[e];omega
structure MI(l:List HdS)(time:UInt32)(root:Hs)(h:HdS)(n:Nat):Prop where
 wf:h.wf
 le:n<=200
 is:(i8 (Q0 l)).isSome=true->F7 h (HF (Q0 l)) (200-n)=A5 l time root
 no:(i8 (Q0 l)).isSome=false->A5 l time root=(h,false)
theorem MI.init{l:List HdS}{time:UInt32}{root:Hs}(hr:root.length=32):MI l time root (A6 l time root) 0 where
 wf:=GQ l time root hr
 le:=Nat.zero_le _
 is:=fun h=>by
  cases hs:i8 (Q0 l) with
  | none=>rw[hs] at h;cases h
  | some t=>rw[f6 hs,BY hs]
 no:=fun h=>by
  cases hs:i8 (Q0 l) with
  | none=>exact f7 hs
  | some t=>rw[hs] at h;cases h
theorem YB{h:HdS}{t:Bg}{n:Nat}(hn:n<200):F7 h t (200-n)=if QR (F8 { h with nonce:=UInt32.ofNat n }) t=true then({ h with nonce:=UInt32.ofNat n },true) else F7 { h with nonce:=UInt32.ofNat n } t (200-(n+1)):=by
 obtain⟨k,hk⟩:∃ k,200-n=k+1:=⟨199-n,by omega⟩
 rw[hk,F7,show 199-k=n by omega,show 200-(n+1)=k by omega]
theorem MI.found{l:List HdS}{time:UInt32}{root:Hs}{h:HdS}{n:Nat}(hi:MI l time root h n)(hs:(i8 (Q0 l)).isSome=true)(hn:n<200)(hm:QR (F8 { h with nonce:=UInt32.ofNat n }) (HF (Q0 l))=true) :
 A5 l time root=({ h with nonce:=UInt32.ofNat n },true):=by rw[<- hi.is hs,YB hn,if_pos hm]
theorem MI.next{l:List HdS}{time:UInt32}{root:Hs}{h:HdS}{n:Nat}(hi:MI l time root h n)(hs:(i8 (Q0 l)).isSome=true)(hn:n<200)(hm:¬ QR (F8 { h with nonce:=UInt32.ofNat n }) (HF (Q0 l))=true) :
 MI l time root { h with nonce:=UInt32.ofNat n } (n+1) where
 wf:=wfI hi.wf.1 hi.wf.2
 le:=by omega
 is:=fun _=>by rw[<- hi.is hs,YB hn,if_neg hm]
 no:=fun h=>by rw[h] at hs;cases hs
theorem MI.last{l:List HdS}{time:UInt32}{root:Hs}{h:HdS}{n:Nat}(hi:MI l time root h n)(hs:(i8 (Q0 l)).isSome=true)(hn:¬ n<200):A5 l time root=(h,false):=by
 rw[<- hi.is hs,show 200-n=0 by omega,F7]
end Go.Sx

namespace Go.Sx
open Go.Proofs
theorem med13_ok(l:List HdS)(hl0:l.length<=1000):Fn Tryd.prog gl 42 [.sl none 68 (l.map d7)] (.u32 (NV l)):=by
 refine Fn.of (n:=68) Tryd.func42 rfl rfl rfl (nU rfl) fun C hC hD=>?_;refine z6 1 (y1 2) (V1 0) ⟨aU<|zK (kW (.int .u32 0) (.u32 0) O) O O,Zt⟩ O O O O ?_;refine z6 1 (y1 3) (V2 0 3) ⟨aU<|zK (kN O) O O,Zt⟩ O O O O ?_;refine W.seq (z6 5 (y5 6 7 8 9 4) (V3 0 3 4) ⟨mU 0 O O,aU<|zN O (lN _) O,aU fun _ _ H K=>m3 (d:=.int (((l.length:Nat):Int)-11)) (eU K 7 O) (kI 11 O) O Zt (B6 bO bO bO) H,aU fun _ _ H K=>R.maxI (r:=(((l.length-11):Nat):Int)) (eU K 8 O) (kI 0 O) bO H,aU<|zA O O O,Zt⟩ O O O O ?_);refine W.block ?_;refine Q7 (s:=3) 32 1 O ?_;refine W.loop (α:={q__:Nat//q__<=min l.length 11}) (fun q__=>⟨68,[(0,.sl none 68 (l.map d7)),(3,.sl (some 32) 1 ((JL l q__.1).map D.u32)),(4,.int (((l.length-11+q__.1):Nat):Int))],[]⟩) (fun q__=>min l.length 11-q__.1) ⟨(0),bU⟩ O ?_;rintro ⟨j,hj⟩;show W _ _ _ _ ⟨68,[(0,.sl none 68 (l.map d7)),(3,.sl (some 32) 1 ((JL l j).map D.u32)),(4,.int (((l.length-11+j):Nat):Int))],[]⟩;have hj:j<=min l.length 11:=hj;have hml:=medI_len l j;refine W.seq (z6 4 (y4 10 11 12 13) (V4 0 3 4 13) ⟨mU 4 O O,mU 0 O O,aU<|zN O (lN _) O,aU<|zS O O O,Zt⟩ O O O O ?_);refine z9 O (fun hc13=>?_) (fun hc13=>?_)
 ·refine W.skip (W.seq (W.block (z6 3 (y3 16 17 5) (V4 0 3 4 5) ⟨aU<|zM O O,aU<|UG (n:=j) O O ((lN _).trans hml) O,aU<|zA O O O,Zt⟩ O O O O ?_)));refine z7 9 (y9 18 19 20 21 22 23 24 25 3) [(7,3),(8,25),(8,18)] [(7,3),(8,25)] (V4 0 3 4 5) ⟨aU<|zM O O,mU 0 O O,mU 4 O O,aU<|zI ((l.length-11+j)) O O O bU O,aU<|H9 O O,aU<|zL O O (mG l) O O O O O,aU fun _ _ H K=>w9 (z:=1) (.cons (eU K 23 O) .nil) ⟨⟨O,O,O⟩,Zt⟩ O H dU,aU<|R5 O O O (g6 O) (show _=((JL l j++[l[l.length-11+j]!.time]).map D.u32) from(by rw[List.map_append];rfl)) bU O,aU<|zO O O O,Zt⟩ O O (tU O ?_);refine W.seq (W.block ?_);refine W.loop (α:={q__:List UInt32×Nat//(q__.2<=j/\q__.1.length=j+1)/\shf l[l.length-11+j]!.time q__.1 q__.2=VJ (JL l j) l[l.length-11+j]!.time}) (fun q__=>⟨68,[(0,.sl none 68 (l.map d7)),(3,.sl (some 32) 1 (q__.1.1.map D.u32)),(4,.int (((l.length-11+j):Nat):Int)),(5,.int ((q__.1.2:Nat):Int))],[]⟩) (fun q__=>q__.1.2) ⟨(JL l j++[l[l.length-11+j]!.time],j),⟨⟨Nat.le_refl _,by rw[List.length_append,hml];rfl⟩,by rw[VJ,hml]⟩⟩ O ?_;rintro ⟨⟨ts,k⟩,⟨⟨hk,htl⟩,hsh⟩⟩;show W _ _ _ _ ⟨68,[(0,.sl none 68 (l.map d7)),(3,.sl (some 32) 1 (ts.map D.u32)),(4,.int (((l.length-11+j):Nat):Int)),(5,.int ((k:Nat):Int))],[]⟩;have hk:k<=j:=hk;have htl:ts.length=j+1:=htl;have hsh:shf l[l.length-11+j]!.time ts k=VJ (JL l j) l[l.length-11+j]!.time:=hsh;refine W.seq (W.seq ?_);by_cases hk0:0<k
  ·refine w7 (m:=15) (an:=[0,1,3,7,7,23,63,127,7,7,775,1799,3847,8191,16383]) hP dU O (its:=[.y 26 _,.y 27 _,.y 28 _,.y 29 _,.y 30 _,.y 31 _,.y 32 _,.y 33 _,.y 34 _,.y 35 _,.y 36 _,.y 37 _,.y 38 _,.y 39 _,.y 40 _]) (ks:=[]) (kk:=[]) (live:=[0,3,4,5,40]) (env':=(V5 0 3 4 5 40)) (⟨nU O,O,⟨mU 5 O O,aU<|HQ 0 O O O,mU 27 O O,aW O O (gT (dT hk0) O)<|zM O O,aW O O (gT (dT hk0) O)<|zV O O O,aW O O (gT (dT hk0) O)<|GW 1 O O bU bU O,aW O O (gT (dT hk0) O)<|t3 ((k-1)) O O O O bU O,aW O O (gT (dT hk0) O)<|I8 O O O (mG ts) O O O O O,aW O O (gT (dT hk0) O)<|zV O O O,aW O O (gT (dT hk0) O)<|zV O O O,aW O O (gT (dT hk0) O)<|zI ((l.length-11+j)) O O O bU O,aW O O (gT (dT hk0) O)<|H9 O O,aW O O (gT (dT hk0) O)<|zL O O (mG l) O O O O O,aW O O (gT (dT hk0) O)<|zB O O O O,aU<|zT O (dT hk0) O O O,Zt⟩,O,O,O⟩) O (bx':=[]) O (n':=68) O (tV (V5 0 3 4 5 40) [] 68 O O O ?_);refine W.cond O (fun hc40=>?_) (fun hc40=>?_)
   ·refine W.skip (W.block (z7 9 (y8 41 42 43 44 45 46 47 48) [] [] (V7 0 3 4 5 41 47 48) ⟨aU<|zM O O,mU 5 O O,aU<|zM O O,mU 5 O O,aU<|GW 1 O O bU bU O,aU<|t3 ((k-1)) O O O O bU O,aU<|I8 O O O (mG ts) O O O O O,aU<|t3 k O O O O bU O,Zt⟩ O O (⟨O,_,M0 (gU 48 O) (Or.inr (gU 41 O)) (gU 3 O) (mG ts) O (gV 47 O) (by rfl) (by rfl) (by rfl) (by rfl) o5 o7,tV (V4 0 3 4 5) [] 68 O O O ?_⟩)));refine j1 3 (y3 49 50 5) (V4 0 3 4 5) ⟨mU 5 O O,aU<|GW 1 O O bU bU O,aU<|zA O O O,Zt⟩ O O O O ?_;exact⟨⟨(ts.set k ts[k-1]!,k-1),⟨⟨by show k-1<=j;omega,List.length_set.trans htl⟩,(shf_t hk0 (of_decide_eq_true hc40)).symm.trans hsh⟩⟩,rfl,(by show k-1<k;omega)⟩
   ·refine W.exit ?_;refine c9 9 (y8 51 52 53 54 55 56 57 58) [] [] (V6 0 3 4 51 57 58) ⟨aU<|zM O O,mU 5 O O,mU 0 O O,mU 4 O O,aU<|zI ((l.length-11+j)) O O O bU O,aU<|H9 O O,aU<|zL O O (mG l) O O O O O,aU<|t3 k O O O O bU O,Zt⟩ O O (⟨O,_,M0 (gU 58 O) (Or.inr (gU 51 O)) (gU 3 O) (mG ts) O (gV 57 O) (by rfl) (by rfl) (by rfl) (by rfl) o5 o7,tV (V3 0 3 4) [] 68 O O O ?_⟩);refine j1 3 (y3 14 15 4) (V3 0 3 4) ⟨mU 4 O O,aU<|m8 1 O O bU O,aU<|zA O O O,Zt⟩ O O O O ?_;exact⟨⟨(j+1),bU⟩,(by first|(rw[<- LB (x:=l[l.length-11+j]!.time) (ts:=ts) (k:=k) (fun _=>of_decide_eq_false hc40),hsh]<;>rfl)|(rw[<- LB (x:=l[l.length-11+j]!.time) (ts:=ts) (k:=k) (fun h=>absurd h hk0),hsh]<;>rfl)),(by simp only[];omega)⟩
  ·refine w7 (m:=15) (an:=[0,1,3,7,7,23,63,127,7,7,775,1799,3847,8191,16383]) hP dU O (its:=[.y 26 _,.y 27 _,.y 28 _,.x 29,.x 30,.x 31,.x 32,.x 33,.x 34,.x 35,.x 36,.x 37,.x 38,.x 39,.y 40 _]) (ks:=[]) (kk:=[]) (live:=[0,3,4,5,40]) (env':=(V5 0 3 4 5 40)) (⟨nU O,O,⟨mU 5 O O,aU<|HQ 0 O O O,mU 27 O O,aF O O (gF (dF hk0) O),aF O O (gF (dF hk0) O),aF O O (gF (dF hk0) O),aF O O (gF (dF hk0) O),aF O O (gF (dF hk0) O),aF O O (gF (dF hk0) O),aF O O (gF (dF hk0) O),aF O O (gF (dF hk0) O),aF O O (gF (dF hk0) O),aF O O (gF (dF hk0) O),aF O O (gF (dF hk0) O),aU<|MQ O (dF hk0) (kB false O) O O,Zt⟩,O,O,O⟩) O (bx':=[]) O (n':=68) O (tV (V5 0 3 4 5 40) [] 68 O O O ?_);refine g9 O (O) ?_;refine W.exit ?_;refine c9 9 (y8 51 52 53 54 55 56 57 58) [] [] (V6 0 3 4 51 57 58) ⟨aU<|zM O O,mU 5 O O,mU 0 O O,mU 4 O O,aU<|zI ((l.length-11+j)) O O O bU O,aU<|H9 O O,aU<|zL O O (mG l) O O O O O,aU<|t3 k O O O O bU O,Zt⟩ O O (⟨O,_,M0 (gU 58 O) (Or.inr (gU 51 O)) (gU 3 O) (mG ts) O (gV 57 O) (by rfl) (by rfl) (by rfl) (by rfl) o5 o7,tV (V3 0 3 4) [] 68 O O O ?_⟩);refine j1 3 (y3 14 15 4) (V3 0 3 4) ⟨mU 4 O O,aU<|m8 1 O O bU O,aU<|zA O O O,Zt⟩ O O O O ?_;exact⟨⟨(j+1),bU⟩,(by first|(rw[<- LB (x:=l[l.length-11+j]!.time) (ts:=ts) (k:=k) (fun _=>of_decide_eq_false hc40),hsh]<;>rfl)|(rw[<- LB (x:=l[l.length-11+j]!.time) (ts:=ts) (k:=k) (fun h=>absurd h hk0),hsh]<;>rfl)),(by simp only[];omega)⟩
 ·obtain rfl:j=min l.length 11:=by omega
  refine W.exit (W.seq (z6 3 (y3 59 60 61) (V2 3 61) ⟨aU<|zM O O,aU<|UG (n:=(min l.length 11)) O O ((lN _).trans hml) O,aU<|r7 0 O O O,Zt⟩ O O O O ?_));refine z9 O (fun hc61=>?_) (fun hc61=>?_)
  ·refine z6 1 (y1 2) (V1 2) ⟨aU<|zK (kW (.int .u32 0) (.u32 0) O) O O,Zt⟩ O O O O ?_;refine W.ret ?_;exact Ends.one' (.inr O) O (by rw[med_0 bO]) O O Zt
  ·refine W.skip (z6 7 (y7 62 63 64 65 66 67 2) (V1 2) ⟨aU<|zM O O,aU<|zM O O,aU<|UG (n:=(min l.length 11)) O O ((lN _).trans hml) O,aU fun _ _ H K=>O8 ((min l.length 11)) (2) (eU K 64 O) (kI 2 O) bU bU H,aU<|t3 (((min l.length 11)/2)) O O O O bU O,aU<|I8 O O O (mG (JL l (min l.length 11))) O O O O O,aU<|zA O O O,Zt⟩ O O O O ?_);refine W.ret ?_;exact Ends.one' (.inr O) O (by rw[med_1 bO]) O O Zt
end Go.Sx

namespace Go.Sx
open Go.Proofs
theorem mine_ok(l:List HdS)(time:UInt32)(root:Hs)(hw:allW l)(hl1:1<=l.length)(hl0:l.length<=1000)(hr:root.length=32):Fn Tryd.prog gl 41 [.agg [.u32 545259519,.int 10,.u32 10,.nils,d7 Z9],.sl none 68 (l.map d7),.u32 time,z5 root,.u32 200] (.tup [d7 (A5 l time root).1,.bool (A5 l time root).2]):=by
 refine Fn.of (n:=56) Tryd.func41 rfl rfl rfl (nU rfl) fun C hC hD=>?_;refine z7 4 [] [] [] (V5 0 1 2 3 4) Zt O O (⟨O,_,R.box (gV 0 O) O O (nU O),⟨O,_,R.box (gV 3 O) O O (nU O),(o0 O O ⟨O,_,v3 (kB false O) O (nU O),tV (V6 1 2 4 5 8 10) (b3 10 8 5) 56 O O O ?_⟩)⟩⟩);refine W.seq ?_;refine J7 (m:=7) (an:=[0,0,0,0,12,31,0,127]) (its:=[.y 16 _,.y 17 _,.y 18 _,.y 19 _,.y 20 _,.y 21 _,.y 12 _]) (ks:=[]) (kk:=[]) (efs:=[(6,(b1 12))]) (live:=[1,4,10,12,21]) (env':=(V5 1 4 10 12 21)) (nd:=40) (bx1:=(b4 12 10 8 5)) hP dU O ⟨⟨69,O⟩,nU O,O,O,O,O⟩ (      ⟨⟨O,nU O,O,fun _ τ hb ht hτ=>R.ldP (hτ 8 _ O) (hb 8 _ O) O O O O ht⟩,⟨⟨O,nU O,O,fun _ τ hb ht hτ=>R.mov (evt (hτ 2 _ O)) O ht⟩,⟨⟨O,nU O,O,fun _ τ hb ht hτ=>R.ldP (hτ 5 _ O) (hb 5 _ O) O O O O ht⟩,⟨⟨O,nU O,O,fun _ τ hb ht hτ=>R.mov (evt (hτ 1 _ O)) O ht⟩,⟨⟨O,nU O,O,fun _ τ hb ht hτ=>j5 hC (WH l hl0) (Bc (Bp (evt (hτ 18 _ O)) O O) (Bc (Bp (evt (hτ 19 _ O)) O O) Bn)) (F1 (.u32 _)) ht⟩,⟨⟨O,nU O,O,fun _ τ hb ht hτ=>p6 (l:=[.u32 0,.arr 32 1 ((List.replicate 32 0).map D.u8),.arr 32 1 ((List.replicate 32 0).map D.u8),.u32 0,.u32 0,.u32 0]) (l':=[_,_,_,_,_,_]) (.cons (kW (.int .u32 1) (.u32 1) O) (.cons (evt (hτ 16 _ O)) (.cons (evt (hτ 17 _ O)) (.cons (evt (hτ 20 _ O)) (.nil O))))) ⟨⟨_,(kW (.int .u32 1) (.u32 1) O),O,O,O⟩,⟨⟨_,(evt (hτ 16 _ O)),O,O,O⟩,⟨⟨_,(evt (hτ 17 _ O)),O,O,O⟩,⟨⟨_,(evt (hτ 20 _ O)),O,O,O⟩,Zt⟩⟩⟩⟩ ht⟩,⟨⟨O,O,⟨O,nU O⟩,(SpE.alloc O (nU O))⟩,Zt⟩⟩⟩⟩⟩⟩⟩) O O O (n':=56) O (m1 O O O O O ⟨[1,4,10,12],(V4 1 4 10 12),(b4 12 10 8 5),56,O,O,O, ?_⟩);refine W.seq (z6 3 (y3 22 23 24) (V5 1 4 10 12 24) ⟨mU 1 O O,aU<|zN O (lN _) O,aU<|r7 0 O O O,Zt⟩ O O O O ?_);refine g9 O (dF bO) ?_;refine W.skip (z7 9 (y8 26 27 28 29 30 31 32 33) [] [] (V5 4 10 12 32 33) ⟨mU 1 O O,mU 1 O O,aU<|zN O (lN _) O,aU<|GW 1 O O bU bU O,aU<|zI ((l.length-1)) O O O bU O,aU<|zL O O (mG l) O O O O O,aU<|zC hC (RD l[l.length-1]! (hw.get bO)) O O O (F1 (v8 _)) O,aU (fU 12 O O),Zt⟩ O O (m1 O O O O O (tV (V3 4 10 12) (b4 12 10 8 5) 56 O O O ?_)));refine z7 9 (y6 35 36 37 34 38 39) [] [] (V5 4 10 12 38 39) ⟨aU (fU 12 O O),aU (lU 35 O O O O O O O),aU<|zC hC (EJ (Q0 l)) O O O (FrsR.two (m4 _) (.bool _)) O,aU<|zY O O O,aU<|zX O O O O,aU<|zX O O O O,Zt⟩ O O (o0 O O (m1 O O O O O (E9 O O O (tV (V5 4 10 12 13 14) (b5 13 12 10 8 5) 56 O O O ?_))));refine W.seq (z6 1 (y1 15) (V6 4 10 12 13 14 15) ⟨aU<|zK (kW (.int .u32 0) (.u32 0) O) O O,Zt⟩ O O O O ?_);refine W.block ?_;refine W.loop (α:={q__:HdS×Nat//MI l time root q__.1 q__.2}) (fun q__=>⟨56,[(4,.u32 200),(10,.ptr 10 0 []),(12,.ptr 12 0 []),(13,.ptr 13 0 []),(14,.bool (i8 (Q0 l)).isSome),(15,.u32 (UInt32.ofNat q__.1.2))],[(13,.var (Q3 (HF (Q0 l)))),(12,.var (d7 q__.1.1)),(10,.var (d7 zeroH)),(8,.var (z5 root)),(5,.var (.agg [.u32 545259519,.int 10,.u32 10,.nils,d7 Z9]))]⟩) (fun q__=>200-q__.1.2) ⟨(A6 l time root,0),MI.init hr⟩ (by dsimp only[A6,d7]<;>rfl) ?_;rintro ⟨⟨h,n⟩,hi⟩;show W _ _ _ _ ⟨56,[(4,.u32 200),(10,.ptr 10 0 []),(12,.ptr 12 0 []),(13,.ptr 13 0 []),(14,.bool (i8 (Q0 l)).isSome),(15,.u32 (UInt32.ofNat n))],[(13,.var (Q3 (HF (Q0 l)))),(12,.var (d7 h)),(10,.var (d7 zeroH)),(8,.var (z5 root)),(5,.var (.agg [.u32 545259519,.int 10,.u32 10,.nils,d7 Z9]))]⟩;have hi:MI l time root h n:=hi;have hle:=hi.le;refine W.seq (W.seq ?_);by_cases hs:(i8 (Q0 l)).isSome=true
 ·refine j1 6 (y6 40 41 42 43 44 45) (V7 4 10 12 13 14 15 45) ⟨mU 14 O O,mU 40 O O,aW O O (gT (hs) O)<|zV O O O,aW O O (gT (hs) O)<|zV O O O,aW O O (gT (hs) O)<|zB O O O O,aU<|zT O (hs) O O O,Zt⟩ O O O O ?_;refine W.cond O (fun hc45=>?_) (fun hc45=>?_)
  ·refine W.skip (W.seq (W.block (z7 3 (y2 48 49) [] [] (V8 4 10 12 13 14 15 48 49) ⟨mU 15 O O,aU (fU 12 O O),Zt⟩ O O (m1 O O O O O (tV (V6 4 10 12 13 14 15) (b5 13 12 10 8 5) 56 O O O ?_)))));refine W.seq ?_;refine w7 (m:=4) (an:=[0,1,0,7]) hP dU rfl (its:=[.y 50 _,.y 51 _,.y 52 _,.y 53 _]) (ks:=[]) (kk:=[]) (live:=[4,10,12,13,14,15,53]) (env':=(V7 4 10 12 13 14 15 53)) (⟨nU rfl,rfl,⟨aU (lU 12 rfl rfl rfl rfl rfl rfl rfl),aU fun _ _ H K=>j5 hC (RD { h with nonce:=UInt32.ofNat n } (wfI hi.wf.1 hi.wf.2)) (Bc (Bp (eU K 50 rfl) rfl rfl) Bn) (F1 (v8 _)) H,aU (lU 13 rfl rfl rfl rfl rfl rfl rfl),aU fun _ _ H K=>j5 hC (tmeet_ok (F8 { h with nonce:=UInt32.ofNat n }) (HF (Q0 l)) (DS _) (QF _)) (Bc (Bp (eU K 51 rfl) rfl rfl) (Bc (Bp (eU K 52 rfl) rfl rfl) Bn)) (F1 (.bool _)) H,Zt⟩,rfl,rfl,rfl⟩) rfl (bx':=(b5 13 12 10 8 5)) rfl (n':=56) rfl (tV (V7 4 10 12 13 14 15 53) (b5 13 12 10 8 5) 56 rfl rfl rfl ?_);refine W.cond O (fun hc53=>?_) (fun hc53=>?_)
   ·refine z7 3 (y1 54) [] [] (V2 10 54) ⟨aU (lU 12 O O O O O O O),Zt⟩ O O (m1 O O O O O ⟨O,_,v3 (kB true O) O (nU O),tV (V2 10 11) (b5 13 12 10 8 5) 56 O O O ?_⟩);refine W.ret ?_;exact Ends.many (.inr O) (.cons O O O (show LdT _ 35 68 true from inferInstance) (.cons O O O Zt .nil)) (by rw[hi.found hs ((CT hi.le).1 (of_decide_eq_true hc45)) hc53]<;>rfl) (show[(10,false),(11,true)].Nodup by decide)
   ·refine W.skip ?_;refine j1 3 (y3 46 47 15) (V6 4 10 12 13 14 15) ⟨mU 15 O O,aU<|P5 O (kW (.int .u32 1) (.u32 1) O) O O,aU<|zA O O O,Zt⟩ O O O O ?_;exact⟨⟨({ h with nonce:=UInt32.ofNat n },n+1),hi.next hs ((CT hi.le).1 (of_decide_eq_true hc45)) (by simpa using hc53)⟩,(by rw[u32_succ]<;>rfl),(by have:=(CT hi.le).1 (of_decide_eq_true hc45);show 200-(n+1)<200-n;omega)⟩
  ·refine W.exit (z7 3 (y1 55) [] [] (V2 10 55) ⟨aU (lU 12 O O O O O O O),Zt⟩ O O (m1 O O O O O ⟨O,_,v3 (kB false O) O (nU O),tV (V2 10 11) (b5 13 12 10 8 5) 56 O O O ?_⟩));refine W.ret ?_;exact Ends.many (.inr O) (.cons O O O (show LdT _ 35 68 true from inferInstance) (.cons O O O Zt .nil)) (by rw[hi.last hs (fun h=>of_decide_eq_false hc45 ((CT hi.le).2 h))]<;>rfl) (show[(10,false),(11,true)].Nodup by decide)
 ·refine j1 6 [.y 40 _,.y 41 _,.x 42,.x 43,.x 44,.y 45 _] (V7 4 10 12 13 14 15 45) ⟨mU 14 O O,mU 40 O O,aF O O (gF (bfalse hs) O),aF O O (gF (bfalse hs) O),aF O O (gF (bfalse hs) O),aU<|MQ O (bfalse hs) (kB false O) O O,Zt⟩ O O O O ?_;refine g9 O (O) ?_;refine W.exit (z7 3 (y1 55) [] [] (V2 10 55) ⟨aU (lU 12 O O O O O O O),Zt⟩ O O (m1 O O O O O ⟨O,_,v3 (kB false O) O (nU O),tV (V2 10 11) (b5 13 12 10 8 5) 56 O O O ?_⟩));refine W.ret ?_;exact Ends.many (.inr O) (.cons O O O (show LdT _ 35 68 true from inferInstance) (.cons O O O Zt .nil)) (by rw[hi.no (bfalse hs)]<;>rfl) (show[(10,false),(11,true)].Nodup by decide)
end Go.Sx

namespace Go.Sx
open Go.Proofs
theorem SQ(t:TxS)(hwf:t.wf):Fn Tryd.prog gl 75 [U7 t] (.bool (m9 t)):=by
 refine Fn.of (n:=5) Tryd.func75 rfl rfl rfl (nU rfl) fun C hC hD=>?_;refine z7 2 [] [] [] (V1 0) Zt O O (⟨O,_,R.box (gV 0 O) O O (nU O),⟨O,_,v3 (kB false O) O (nU O),tV (V1 1) (b1 1) 5 O O O ?_⟩⟩);refine z6 3 (y3 3 4 2) (V1 2) ⟨aU (lU 1 O O O O O O O),aU<|zC hC (rmint_ok t hwf) O O O (F1 (.bool _)) O,aU<|zA O O O,Zt⟩ O O O O ?_;refine W.ret ?_;exact Ends.one' (.inr O) O (O) O O Zt
theorem all15_ok(l:List BlkS)(hl:allBl l):Fn Tryd.prog gl 27 [.sl none 69 (l.map v9)] (.sl (some 90) 38 ((b9 l).map N6)):=by
 refine Fn.of (n:=46) Tryd.func27 rfl rfl rfl (nU rfl) fun C hC hD=>?_;have hl1:=hl.1;refine z6 1 (y1 2) (V1 0) ⟨aU<|zK (kN O) O O,Zt⟩ O O O O ?_;refine z6 1 (y1 3) (V2 0 3) ⟨aU<|zK (kN O) O O,Zt⟩ O O O O ?_;refine W.seq (z6 1 (y1 4) (V3 0 3 4) ⟨aU<|zK (kI 0 O) O O,Zt⟩ O O O O ?_);refine W.block ?_;refine Q7 (s:=3) 90 38 O ?_;refine W.loop (α:={q__:Nat//q__<=l.length}) (fun q__=>⟨46,[(0,.sl none 69 (l.map v9)),(3,.sl (some 90) 38 ((t8 l q__.1).map N6)),(4,.int ((q__.1:Nat):Int))],[]⟩) (fun q__=>l.length-q__.1) ⟨(0),bU⟩ O ?_;rintro ⟨h,hh⟩;show W _ _ _ _ ⟨46,[(0,.sl none 69 (l.map v9)),(3,.sl (some 90) 38 ((t8 l h).map N6)),(4,.int ((h:Nat):Int))],[]⟩;have hh:h<=l.length:=hh;have hal:=AE hl h hh;have hbl:h<l.length->l[h]!.txs.length<=1000:=fun h=>(hl.get h).len;refine W.seq (z6 4 (y4 6 7 8 9) (V4 0 3 4 9) ⟨mU 4 O O,mU 0 O O,aU<|zN O (lN _) O,aU<|zS O O O,Zt⟩ O O O O ?_);refine z9 O (fun hc9=>?_) (fun hc9=>?_)
 ·refine W.skip (W.seq (W.block (z6 1 (y1 5) (V4 0 3 4 5) ⟨aU<|zK (kI 0 O) O O,Zt⟩ O O O O ?_)));refine W.block ?_;refine W.loop (α:={q__:Nat//q__<=l[h]!.txs.length}) (fun q__=>⟨46,[(0,.sl none 69 (l.map v9)),(3,.sl (some 90) 38 ((t8 l h++U0 l[h]! h q__.1).map N6)),(4,.int ((h:Nat):Int)),(5,.int ((q__.1:Nat):Int))],[]⟩) (fun q__=>l[h]!.txs.length-q__.1) ⟨(0),bU⟩ (by rw[U0,List.append_nil]) ?_;rintro ⟨i,hi⟩;show W _ _ _ _ ⟨46,[(0,.sl none 69 (l.map v9)),(3,.sl (some 90) 38 ((t8 l h++U0 l[h]! h i).map N6)),(4,.int ((h:Nat):Int)),(5,.int ((i:Nat):Int))],[]⟩;have hi:i<=l[h]!.txs.length:=hi;have hbw:=hl.get (show h<l.length by omega);have hbl2:=hbw.len;refine W.seq (z6 8 (y8 12 13 14 15 16 17 18 19) (V5 0 3 4 5 19) ⟨mU 5 O O,mU 0 O O,mU 4 O O,aU<|zI h O O O bU O,aU<|H9 O O,aU<|zL O O (mG l) O O O O O,aU<|zN O (lN _) O,aU<|zS O O O,Zt⟩ O O O O ?_);refine z9 O (fun hc19=>?_) (fun hc19=>?_)
  ·refine W.skip (W.seq (W.block ?_));refine w7 (m:=24) (an:=[0,0,0,0,0,24,56,120,0,504,1016,2040,0,0,12288,28672,61440,0,258048,520192,1048574,2097150,4194303,8388607]) hP dU O (its:=[.y 22 _,.y 23 _,.y 24 _,.y 25 _,.y 26 _,.y 27 _,.y 28 _,.y 29 _,.y 30 _,.y 31 _,.y 32 _,.y 33 _,.y 34 _,.y 35 _,.y 36 _,.y 37 _,.y 38 _,.y 39 _,.y 40 _,.y 41 _,.y 42 _,.y 43 _,.y 44 _,.y 3 _]) (ks:=[(22,3),(23,44),(23,22)]) (kk:=[(22,3),(23,44)]) (live:=[0,3,4,5]) (env':=(V4 0 3 4 5)) (⟨nU O,O,⟨aU<|zM O O,mU 4 O O,mU 5 O O,mU 0 O O,mU 4 O O,aU<|zI h O O O bU O,aU<|H9 O O,aU<|zL O O (mG l) O O O O O,mU 5 O O,aU<|zI i O O O bU O,aU<|zL O O (j4 (l:=l[h]!.txs) bU) O O O O O,aU<|zC hC (rid_ok l[h]!.txs[i]! (hbw.get bO)) O O O (F1 (v8 _)) O,mU 0 O O,mU 4 O O,aU<|zI h O O O bU O,aU<|H9 O O,aU<|zL O O (mG l) O O O O O,mU 5 O O,aU<|zI i O O O bU O,aU<|zL O O (j4 (l:=l[h]!.txs) bU) O O O O O,aU fun _ _ H K=>p6 (l:=[.int 0,.int 0,.arr 32 1 ((List.replicate 32 0).map D.u8),.agg [.u32 0,.nils,.nils,.u32 0]]) (l':=[_,_,_,_]) (.cons (eU K 23 O) (.cons (eU K 24 O) (.cons (eU K 33 O) (.cons (eU K 41 O) (.nil O))))) ⟨⟨_,(eU K 23 O),O,O,O⟩,⟨⟨_,(eU K 24 O),O,O,O⟩,⟨⟨_,(eU K 33 O),O,O,szH O⟩,⟨⟨_,(eU K 41 O),O,O,O⟩,Zt⟩⟩⟩⟩ H,aU fun _ _ H K=>w9 (z:=38) (.cons (eU K 42 O) .nil) ⟨⟨O,O,O⟩,Zt⟩ O H dU,aU<|R5 O O O (g6 O) (show _=((t8 l h++U0 l[h]! h (i+1)).map N6) from(all_app _ _ _ _)) (by simp only[List.length_map,List.length_append,ZR,List.length_cons,List.length_nil];omega) O,aU<|zO O O O,Zt⟩,O,O,O⟩) O (bx':=[]) O (n':=46) O (tV (V4 0 3 4 5) [] 46 O O O ?_);refine j1 3 (y3 20 21 5) (V4 0 3 4 5) ⟨mU 5 O O,aU<|m8 1 O O bU O,aU<|zA O O O,Zt⟩ O O O O ?_;exact⟨⟨(i+1),bU⟩,rfl,(by simp only[];omega)⟩
  ·obtain rfl:i=l[h]!.txs.length:=by omega
   refine W.exit ?_;refine j1 3 (y3 10 11 4) (V3 0 3 4) ⟨mU 4 O O,aU<|m8 1 O O bU O,aU<|zA O O O,Zt⟩ O O O O ?_;exact⟨⟨(h+1),bU⟩,(by rw[I4]<;>rfl),(by simp only[];omega)⟩
 ·obtain rfl:h=l.length:=by omega
  refine W.exit (z7 2 (y2 45 2) [(0,3),(1,45)] [(0,3),(1,45)] (V1 2) ⟨aU fun _ _ H K=>G3 (K 3 _ O) O H dU,aU<|zO O O O,Zt⟩ O O (tU O ?_));refine W.ret ?_;exact Ends.one' (.inr O) O (by rw[b9]) O O Zt
end Go.Sx

namespace Go.Sx
open Go.Proofs
theorem frm15_ok(l:List StS)(hl:allSt l)(before input:Nat)(p:Plc)(hb0:before<=1000000)(hn0:input<=1000000):Fn Tryd.prog gl 55 [.sl none 38 (l.map N6),.int ((before:Nat):Int),.int ((input:Nat):Int),q7 p] (.bool (JT l before input p)):=by
 refine Fn.of (n:=64) Tryd.func55 rfl rfl rfl (nU rfl) fun C hC hD=>?_;have hl1:=hl.1;refine z7 2 [] [] [] (V4 0 1 2 3) Zt O O (⟨O,_,R.box (gV 3 O) O O (nU O),⟨O,_,v3 (kB false O) O (nU O),tV (V4 0 1 2 7) (b1 7) 64 O O O ?_⟩⟩);refine W.seq (z6 1 (y1 9) (V5 0 1 2 7 9) ⟨aU<|zK (kI 0 O) O O,Zt⟩ O O O O ?_);refine W.block ?_;refine W.loop (α:={q__:Nat//q__<=min (before+1) l.length/\∀ q<q__,KW l[q]!.t p (P1 l before input q)=false}) (fun q__=>⟨64,[(0,.sl none 38 (l.map N6)),(1,.int ((before:Nat):Int)),(2,.int ((input:Nat):Int)),(7,.ptr 7 0 []),(9,.int ((q__.1:Nat):Int))],[(7,.var (q7 p))]⟩) (fun q__=>l.length-q__.1) ⟨(0),⟨Nat.zero_le _,fun q hq=>absurd hq (Nat.not_lt_zero _)⟩⟩ O ?_;rintro ⟨i,⟨hi,hno⟩⟩;show W _ _ _ _ ⟨64,[(0,.sl none 38 (l.map N6)),(1,.int ((before:Nat):Int)),(2,.int ((input:Nat):Int)),(7,.ptr 7 0 []),(9,.int ((i:Nat):Int))],[(7,.var (q7 p))]⟩;have hi:i<=min (before+1) l.length:=hi;have hno:∀ q<i,KW l[q]!.t p (P1 l before input q)=false:=hno;refine W.seq (W.seq ?_);by_cases h1:i<=before
 ·refine j1 9 (y9 11 12 13 14 15 16 17 18 19) (V6 0 1 2 7 9 19) ⟨mU 9 O O,mU 1 O O,aU fun _ _ H K=>GF (i) (before) (eU K 11 O) (eU K 12 O) H,mU 13 O O,aW O O (gT (dT h1) O)<|zV O O O,aW O O (gT (dT h1) O)<|zV O O O,aW O O (gT (dT h1) O)<|zN O (lN _) O,aW O O (gT (dT h1) O)<|zS O O O,aU<|zT O (dT h1) O O O,Zt⟩ O O O O ?_;refine z9 O (fun hc19=>?_) (fun hc19=>?_)
  ·refine W.skip (W.seq (W.block (z6 1 (y1 10) (V6 0 1 2 7 9 10) ⟨aU<|zK (kI 0 O) O O,Zt⟩ O O O O ?_)));refine W.block ?_;refine W.loop (α:={q__:Nat//q__<=P1 l before input i/\∀ q<q__,(plc l[i]!.t.ins[q]! == p&&!m9 l[i]!.t)=false}) (fun q__=>⟨64,[(0,.sl none 38 (l.map N6)),(1,.int ((before:Nat):Int)),(2,.int ((input:Nat):Int)),(7,.ptr 7 0 []),(9,.int ((i:Nat):Int)),(10,.int ((q__.1:Nat):Int))],[(7,.var (q7 p))]⟩) (fun q__=>P1 l before input i-q__.1) ⟨(0),⟨Nat.zero_le _,fun q hq=>absurd hq (Nat.not_lt_zero _)⟩⟩ O ?_;rintro ⟨k,⟨hk,hnk⟩⟩;show W _ _ _ _ ⟨64,[(0,.sl none 38 (l.map N6)),(1,.int ((before:Nat):Int)),(2,.int ((input:Nat):Int)),(7,.ptr 7 0 []),(9,.int ((i:Nat):Int)),(10,.int ((k:Nat):Int))],[(7,.var (q7 p))]⟩;have hk:k<=P1 l before input i:=hk;have hnk:∀ q<k,(plc l[i]!.t.ins[q]! == p&&!m9 l[i]!.t)=false:=hnk;have hiw:=hl.get (show i<l.length by omega);have hi1:=hiw.2.2.1
   have hfk:P1 l before input i<=l[i]!.t.ins.length:=by unfold P1;split<;>omega
   refine W.seq (W.seq ?_);by_cases h2:k<l[i]!.t.ins.length
   ·by_cases h3:i<before
    ·refine j1 19 [.y 22 _,.y 23 _,.y 24 _,.y 25 _,.y 26 _,.y 27 _,.y 28 _,.y 29 _,.y 30 _,.y 31 _,.y 32 _,.y 33 _,.y 34 _,.y 35 _,.x 36,.x 37,.x 38,.y 39 _,.y 40 _] (V7 0 1 2 7 9 10 40) ⟨mU 10 O O,mU 0 O O,mU 9 O O,aU<|zI i O O O bU O,aU<|H9 O O,aU<|H9 O O,aU<|zL O O (mG l) O O O O O,aU<|zN O (lN _) O,aU<|zS O O O,mU 30 O O,aW O O (gT (dT h2) O)<|zV O O O,aW O O (gT (dT h2) O)<|zV O O O,aW O O (gT (dT h2) O)<|zS O O O,aW O O (gT (dT h2) O)<|zV O O O,aF O O (gT (dT h3) O),aF O O (gT (dT h3) O),aF O O (gT (dT h3) O),aW O O (gT (dT h2) O)<|AT O (dT h3) (kB true O) O O,aU<|zT O (dT h2) O O O,Zt⟩ O O O O ?_;refine d6 O (O) ?_;refine W.skip (W.seq (W.block (W.seq ?_)));by_cases h4:plc l[i]!.t.ins[k]! = p
     ·have hkn:k<P1 l before input i:=by rw[W1 h3];exact h2
      refine w7 (m:=21) (an:=[0,0,3,7,15,31,0,127,255,511,0,2047,4095,8191,8191,32767,65535,131071,262143,524287,1048575]) hP dU O (its:=[.y 43 _,.y 44 _,.y 45 _,.y 46 _,.y 47 _,.y 48 _,.y 49 _,.y 50 _,.y 51 _,.y 52 _,.y 53 _,.y 54 _,.y 55 _,.y 56 _,.y 57 _,.y 58 _,.y 59 _,.y 60 _,.y 61 _,.y 62 _,.y 63 _]) (ks:=[]) (kk:=[]) (live:=[0,1,2,7,9,10,63]) (env':=(V7 0 1 2 7 9 10 63)) (⟨nU O,O,⟨mU 0 O O,mU 9 O O,aU<|zI i O O O bU O,aU<|H9 O O,aU<|H9 O O,aU<|zL O O (mG l) O O O O O,mU 10 O O,aU<|zI k O O O bU O,aU<|H9 O O,aU<|zL O O (j4 (l:=l[i]!.t.ins) bU) O O O O O,aU (lU 7 O O O O O O O),aU fun _ _ H K=>R.eqD (neg:=false) (b':=(plc l[i]!.t.ins[k]! == p)) (G8 _ _) O (eU K 52 O) (eU K 53 O) O O O O (O) H,mU 54 O O,aW O O (gT (beq_iff_eq.2 h4) O)<|zV O O O,aW O O (gT (beq_iff_eq.2 h4) O)<|zV O O O,aW O O (gT (beq_iff_eq.2 h4) O)<|zI i O O O bU O,aW O O (gT (beq_iff_eq.2 h4) O)<|H9 O O,aW O O (gT (beq_iff_eq.2 h4) O)<|zL O O (mG l) O O O O O,aW O O (gT (beq_iff_eq.2 h4) O)<|zC hC (SQ l[i]!.t hiw.2.1) O O O (F1 (.bool _)) O,aW O O (gT (beq_iff_eq.2 h4) O)<|JY O O O,aU<|zT O (beq_iff_eq.2 h4) O O O,Zt⟩,O,O,O⟩) O (bx':=(b1 7)) O (n':=64) O (tV (V7 0 1 2 7 9 10 63) (b1 7) 64 O O O ?_);refine W.cond O (fun hc63=>?_) (fun hc63=>?_)
      ·refine z6 1 (y1 8) (V1 8) ⟨aU<|zK (kB true O) O O,Zt⟩ O O O O ?_;refine W.ret ?_;exact Ends.one' (.inr O) O (by rw[OF h1 bO hkn h4 hc63]) O O Zt
      ·refine W.skip ?_;refine j1 3 (y3 41 42 10) (V6 0 1 2 7 9 10) ⟨mU 10 O O,aU<|m8 1 O O bU O,aU<|zA O O O,Zt⟩ O O O O ?_;exact⟨⟨(k+1),⟨by omega,fun q hq=>(Nat.lt_succ_iff_lt_or_eq.1 hq).elim (hnk q) (fun e=>e▸(by first|exact LL h4|exact XG (by simpa using hc63)))⟩⟩,rfl,(by show P1 l before input i-(k+1)<P1 l before input i-k;omega)⟩
     ·have hkn:k<P1 l before input i:=by rw[W1 h3];exact h2
      refine w7 (m:=21) (an:=[0,0,3,7,15,31,0,127,255,511,0,2047,4095,8191,8191,32767,65535,131071,262143,524287,1048575]) hP dU O (its:=[.y 43 _,.y 44 _,.y 45 _,.y 46 _,.y 47 _,.y 48 _,.y 49 _,.y 50 _,.y 51 _,.y 52 _,.y 53 _,.y 54 _,.y 55 _,.x 56,.x 57,.x 58,.x 59,.x 60,.x 61,.x 62,.y 63 _]) (ks:=[]) (kk:=[]) (live:=[0,1,2,7,9,10,63]) (env':=(V7 0 1 2 7 9 10 63)) (⟨nU O,O,⟨mU 0 O O,mU 9 O O,aU<|zI i O O O bU O,aU<|H9 O O,aU<|H9 O O,aU<|zL O O (mG l) O O O O O,mU 10 O O,aU<|zI k O O O bU O,aU<|H9 O O,aU<|zL O O (j4 (l:=l[i]!.t.ins) bU) O O O O O,aU (lU 7 O O O O O O O),aU fun _ _ H K=>R.eqD (neg:=false) (b':=(plc l[i]!.t.ins[k]! == p)) (G8 _ _) O (eU K 52 O) (eU K 53 O) O O O O (O) H,mU 54 O O,aF O O (gF (beq_eq_false_iff_ne.2 h4) O),aF O O (gF (beq_eq_false_iff_ne.2 h4) O),aF O O (gF (beq_eq_false_iff_ne.2 h4) O),aF O O (gF (beq_eq_false_iff_ne.2 h4) O),aF O O (gF (beq_eq_false_iff_ne.2 h4) O),aF O O (gF (beq_eq_false_iff_ne.2 h4) O),aF O O (gF (beq_eq_false_iff_ne.2 h4) O),aU<|MQ O (beq_eq_false_iff_ne.2 h4) (kB false O) O O,Zt⟩,O,O,O⟩) O (bx':=(b1 7)) O (n':=64) O (tV (V7 0 1 2 7 9 10 63) (b1 7) 64 O O O ?_);refine g9 O (O) ?_;refine W.skip ?_;refine j1 3 (y3 41 42 10) (V6 0 1 2 7 9 10) ⟨mU 10 O O,aU<|m8 1 O O bU O,aU<|zA O O O,Zt⟩ O O O O ?_;exact⟨⟨(k+1),⟨by omega,fun q hq=>(Nat.lt_succ_iff_lt_or_eq.1 hq).elim (hnk q) (fun e=>e▸(by first|exact LL h4|exact XG (by simpa using hc63)))⟩⟩,rfl,(by show P1 l before input i-(k+1)<P1 l before input i-k;omega)⟩
    ·refine j1 19 (y19 22 23 24 25 26 27 28 29 30 31 32 33 34 35 36 37 38 39 40) (V7 0 1 2 7 9 10 40) ⟨mU 10 O O,mU 0 O O,mU 9 O O,aU<|zI i O O O bU O,aU<|H9 O O,aU<|H9 O O,aU<|zL O O (mG l) O O O O O,aU<|zN O (lN _) O,aU<|zS O O O,mU 30 O O,aW O O (gT (dT h2) O)<|zV O O O,aW O O (gT (dT h2) O)<|zV O O O,aW O O (gT (dT h2) O)<|zS O O O,aW O O (gT (dT h2) O)<|zV O O O,aW O O (gF (dF h3) O)<|zV O O O,aW O O (gF (dF h3) O)<|zV O O O,aW O O (gF (dF h3) O)<|zS O O O,aW O O (gT (dT h2) O)<|zF O (dF h3) O O O,aU<|zT O (dT h2) O O O,Zt⟩ O O O O ?_;refine z9 O (fun hc40=>?_) (fun hc40=>?_)
     ·refine W.skip (W.seq (W.block (W.seq ?_)));by_cases h4:plc l[i]!.t.ins[k]! = p
      ·have hkn:k<P1 l before input i:=by rw[KV h3];omega
       refine w7 (m:=21) (an:=[0,0,3,7,15,31,0,127,255,511,0,2047,4095,8191,8191,32767,65535,131071,262143,524287,1048575]) hP dU O (its:=[.y 43 _,.y 44 _,.y 45 _,.y 46 _,.y 47 _,.y 48 _,.y 49 _,.y 50 _,.y 51 _,.y 52 _,.y 53 _,.y 54 _,.y 55 _,.y 56 _,.y 57 _,.y 58 _,.y 59 _,.y 60 _,.y 61 _,.y 62 _,.y 63 _]) (ks:=[]) (kk:=[]) (live:=[0,1,2,7,9,10,63]) (env':=(V7 0 1 2 7 9 10 63)) (⟨nU O,O,⟨mU 0 O O,mU 9 O O,aU<|zI i O O O bU O,aU<|H9 O O,aU<|H9 O O,aU<|zL O O (mG l) O O O O O,mU 10 O O,aU<|zI k O O O bU O,aU<|H9 O O,aU<|zL O O (j4 (l:=l[i]!.t.ins) bU) O O O O O,aU (lU 7 O O O O O O O),aU fun _ _ H K=>R.eqD (neg:=false) (b':=(plc l[i]!.t.ins[k]! == p)) (G8 _ _) O (eU K 52 O) (eU K 53 O) O O O O (O) H,mU 54 O O,aW O O (gT (beq_iff_eq.2 h4) O)<|zV O O O,aW O O (gT (beq_iff_eq.2 h4) O)<|zV O O O,aW O O (gT (beq_iff_eq.2 h4) O)<|zI i O O O bU O,aW O O (gT (beq_iff_eq.2 h4) O)<|H9 O O,aW O O (gT (beq_iff_eq.2 h4) O)<|zL O O (mG l) O O O O O,aW O O (gT (beq_iff_eq.2 h4) O)<|zC hC (SQ l[i]!.t hiw.2.1) O O O (F1 (.bool _)) O,aW O O (gT (beq_iff_eq.2 h4) O)<|JY O O O,aU<|zT O (beq_iff_eq.2 h4) O O O,Zt⟩,O,O,O⟩) O (bx':=(b1 7)) O (n':=64) O (tV (V7 0 1 2 7 9 10 63) (b1 7) 64 O O O ?_);refine W.cond O (fun hc63=>?_) (fun hc63=>?_)
       ·refine z6 1 (y1 8) (V1 8) ⟨aU<|zK (kB true O) O O,Zt⟩ O O O O ?_;refine W.ret ?_;exact Ends.one' (.inr O) O (by rw[OF h1 bO hkn h4 hc63]) O O Zt
       ·refine W.skip ?_;refine j1 3 (y3 41 42 10) (V6 0 1 2 7 9 10) ⟨mU 10 O O,aU<|m8 1 O O bU O,aU<|zA O O O,Zt⟩ O O O O ?_;exact⟨⟨(k+1),⟨by omega,fun q hq=>(Nat.lt_succ_iff_lt_or_eq.1 hq).elim (hnk q) (fun e=>e▸(by first|exact LL h4|exact XG (by simpa using hc63)))⟩⟩,rfl,(by show P1 l before input i-(k+1)<P1 l before input i-k;omega)⟩
      ·have hkn:k<P1 l before input i:=by rw[KV h3];omega
       refine w7 (m:=21) (an:=[0,0,3,7,15,31,0,127,255,511,0,2047,4095,8191,8191,32767,65535,131071,262143,524287,1048575]) hP dU O (its:=[.y 43 _,.y 44 _,.y 45 _,.y 46 _,.y 47 _,.y 48 _,.y 49 _,.y 50 _,.y 51 _,.y 52 _,.y 53 _,.y 54 _,.y 55 _,.x 56,.x 57,.x 58,.x 59,.x 60,.x 61,.x 62,.y 63 _]) (ks:=[]) (kk:=[]) (live:=[0,1,2,7,9,10,63]) (env':=(V7 0 1 2 7 9 10 63)) (⟨nU O,O,⟨mU 0 O O,mU 9 O O,aU<|zI i O O O bU O,aU<|H9 O O,aU<|H9 O O,aU<|zL O O (mG l) O O O O O,mU 10 O O,aU<|zI k O O O bU O,aU<|H9 O O,aU<|zL O O (j4 (l:=l[i]!.t.ins) bU) O O O O O,aU (lU 7 O O O O O O O),aU fun _ _ H K=>R.eqD (neg:=false) (b':=(plc l[i]!.t.ins[k]! == p)) (G8 _ _) O (eU K 52 O) (eU K 53 O) O O O O (O) H,mU 54 O O,aF O O (gF (beq_eq_false_iff_ne.2 h4) O),aF O O (gF (beq_eq_false_iff_ne.2 h4) O),aF O O (gF (beq_eq_false_iff_ne.2 h4) O),aF O O (gF (beq_eq_false_iff_ne.2 h4) O),aF O O (gF (beq_eq_false_iff_ne.2 h4) O),aF O O (gF (beq_eq_false_iff_ne.2 h4) O),aF O O (gF (beq_eq_false_iff_ne.2 h4) O),aU<|MQ O (beq_eq_false_iff_ne.2 h4) (kB false O) O O,Zt⟩,O,O,O⟩) O (bx':=(b1 7)) O (n':=64) O (tV (V7 0 1 2 7 9 10 63) (b1 7) 64 O O O ?_);refine g9 O (O) ?_;refine W.skip ?_;refine j1 3 (y3 41 42 10) (V6 0 1 2 7 9 10) ⟨mU 10 O O,aU<|m8 1 O O bU O,aU<|zA O O O,Zt⟩ O O O O ?_;exact⟨⟨(k+1),⟨by omega,fun q hq=>(Nat.lt_succ_iff_lt_or_eq.1 hq).elim (hnk q) (fun e=>e▸(by first|exact LL h4|exact XG (by simpa using hc63)))⟩⟩,rfl,(by show P1 l before input i-(k+1)<P1 l before input i-k;omega)⟩
     ·refine W.exit ?_;refine j1 3 (y3 20 21 9) (V5 0 1 2 7 9) ⟨mU 9 O O,aU<|m8 1 O O bU O,aU<|zA O O O,Zt⟩ O O O O ?_;exact⟨⟨(i+1),⟨by omega,fun q hq=>(Nat.lt_succ_iff_lt_or_eq.1 hq).elim (hno q) (fun e=>e▸IJ (fun q hq=>hnk q (by first|(rw[W1 h3] at hq;omega)|(rw[KV h3] at hq;omega)|(by_cases h3:i<before;(rw[W1 h3] at hq;omega);(rw[KV h3] at hq;omega)))))⟩⟩,rfl,(by show l.length-(i+1)<l.length-i;omega)⟩
   ·refine j1 19 [.y 22 _,.y 23 _,.y 24 _,.y 25 _,.y 26 _,.y 27 _,.y 28 _,.y 29 _,.y 30 _,.y 31 _,.x 32,.x 33,.x 34,.x 35,.x 36,.x 37,.x 38,.x 39,.y 40 _] (V7 0 1 2 7 9 10 40) ⟨mU 10 O O,mU 0 O O,mU 9 O O,aU<|zI i O O O bU O,aU<|H9 O O,aU<|H9 O O,aU<|zL O O (mG l) O O O O O,aU<|zN O (lN _) O,aU<|zS O O O,mU 30 O O,aF O O (gF (dF h2) O),aF O O (gF (dF h2) O),aF O O (gF (dF h2) O),aF O O (gF (dF h2) O),⟨O,⟨_,35,O,O,.inr ⟨O,O⟩⟩,fun h=>absurd h dU⟩,⟨O,⟨_,35,O,O,.inr ⟨O,O⟩⟩,fun h=>absurd h dU⟩,⟨O,⟨_,35,O,O,.inr ⟨O,O⟩⟩,fun h=>absurd h dU⟩,aF O O (gF (dF h2) O),aU<|MQ O (dF h2) (kB false O) O O,Zt⟩ O O O O ?_;refine g9 O (O) ?_;refine W.exit ?_;refine j1 3 (y3 20 21 9) (V5 0 1 2 7 9) ⟨mU 9 O O,aU<|m8 1 O O bU O,aU<|zA O O O,Zt⟩ O O O O ?_;exact⟨⟨(i+1),⟨by omega,fun q hq=>(Nat.lt_succ_iff_lt_or_eq.1 hq).elim (hno q) (fun e=>e▸IJ (fun q hq=>hnk q (by first|(rw[W1 h3] at hq;omega)|(rw[KV h3] at hq;omega)|(by_cases h3:i<before;(rw[W1 h3] at hq;omega);(rw[KV h3] at hq;omega)))))⟩⟩,rfl,(by show l.length-(i+1)<l.length-i;omega)⟩
  ·refine W.exit (z6 1 (y1 8) (V1 8) ⟨aU<|zK (kB false O) O O,Zt⟩ O O O O ?_);refine W.ret ?_;exact Ends.one' (.inr O) O (by rw[CZ (fun q hq=>hno q bO)]) O O Zt
 ·refine j1 9 [.y 11 _,.y 12 _,.y 13 _,.y 14 _,.x 15,.x 16,.x 17,.x 18,.y 19 _] (V6 0 1 2 7 9 19) ⟨mU 9 O O,mU 1 O O,aU fun _ _ H K=>GF (i) (before) (eU K 11 O) (eU K 12 O) H,mU 13 O O,aF O O (gF (dF h1) O),aF O O (gF (dF h1) O),aF O O (gF (dF h1) O),aF O O (gF (dF h1) O),aU<|MQ O (dF h1) (kB false O) O O,Zt⟩ O O O O ?_;refine g9 O (O) ?_;refine W.exit (z6 1 (y1 8) (V1 8) ⟨aU<|zK (kB false O) O O,Zt⟩ O O O O ?_);refine W.ret ?_;exact Ends.one' (.inr O) O (by rw[CZ (fun q hq=>hno q bO)]) O O Zt
end Go.Sx

namespace Go.Sx
open Go.Proofs
theorem YI(k:UInt8):Fn Tryd.prog gl 30 [.u8 k] (.sl (some 5) 1 ((t6 k).map D.u8)):=by
 refine Fn.of (n:=10) Tryd.func30 rfl rfl rfl (Nat.le_of_ble_eq_true rfl) fun C hC hD=>?_;have hsl:=T0 [115,k,0,0,0];refine W.seq ?_;refine JX (n:=1) (by decide) (its:=[⟨2,_,true⟩]) (ks:=[]) (kk:=[]) (live:=[0]) (env':=[(0,_)])
  (⟨Nat.le_of_ble_eq_true rfl,rfl,
   ⟨⟨rfl,rfl,fun _ τ hb ht hτ=>v3 (show ev _ _ (.const (.slice none 0 0))=some (.nils) from rfl) rfl ht⟩,
   trivial⟩,rfl,rfl,rfl⟩)
  rfl (bx':=[]) rfl (n':=10) rfl (⟨[0],[(0,_)],[],10,rfl,rfl,rfl, ?_⟩)
 refine W.seq ?_;refine JX (n:=5) (by decide) (its:=[⟨4,_,true⟩,⟨5,_,true⟩,⟨6,_,true⟩]) (ks:=[]) (kk:=[]) (live:=[6]) (env':=[(6,_)])
  (⟨Nat.le_of_ble_eq_true rfl,rfl,
   ⟨⟨rfl,rfl,fun _ τ hb ht hτ=>R.mov (evt (hτ 0 _ rfl)) rfl ht⟩,
   ⟨⟨rfl,rfl,fun _ τ hb ht hτ=>w9 (z:=1) (.cons (show ev _ _ (.const (.int .u8 115))=some (.u8 115) from rfl) (.cons (evt (hτ 4 _ rfl)) (.cons (show ev _ _ (.const (.int .u8 0))=some (.u8 0) from rfl) (.cons (show ev _ _ (.const (.int .u8 0))=some (.u8 0) from rfl) (.cons (show ev _ _ (.const (.int .u8 0))=some (.u8 0) from rfl) .nil))))) ⟨⟨rfl,rfl,rfl⟩,⟨⟨rfl,rfl,rfl⟩,⟨⟨rfl,rfl,rfl⟩,⟨⟨rfl,rfl,rfl⟩,⟨⟨rfl,rfl,rfl⟩,trivial⟩⟩⟩⟩⟩ rfl ht (by decide)⟩,
   ⟨⟨rfl,rfl,fun _ τ hb ht hτ=>j5 hC (XU [115,k,0,0,0] (by simp)) (Bors.cons (Bor.sc (SC.sl (hτ 5 _ rfl)) rfl) Bors.nil) (FrsR.one (v8 _)) ht⟩,
   trivial⟩⟩⟩,rfl,rfl,rfl⟩)
  rfl (bx':=[]) rfl (n':=10) rfl (⟨rfl,_,R.alloc rfl (Nat.le_of_ble_eq_true rfl),⟨rfl,_,r6 (show Sg.get _ 3=some _ from rfl) (show Sg.box _ 3=some _ from rfl) rfl (evt (show Sg.get _ 6=some _ from rfl)) (by rfl) (by rfl) (by rfl) (by rfl) rfl,⟨[3],[(3,_)],[(3,.var _)],10,rfl,rfl,rfl, ?_⟩⟩⟩)
 refine W.seq ?_;refine JX (n:=4) (by decide) (its:=[⟨7,_,true⟩,⟨8,_,true⟩,⟨9,_,true⟩,⟨2,_,true⟩]) (ks:=[(2,7),(3,9)]) (kk:=[(2,7),(3,9)]) (live:=[2]) (env':=[(2,_)])
  (⟨Nat.le_of_ble_eq_true rfl,rfl,
   ⟨⟨rfl,rfl,fun _ τ hb ht hτ=>w9 (z:=1) (.cons (show ev _ _ (.const (.int .u8 0))=some (.u8 0) from rfl) (.cons (show ev _ _ (.const (.int .u8 20))=some (.u8 20) from rfl) .nil)) ⟨⟨rfl,rfl,rfl⟩,⟨⟨rfl,rfl,rfl⟩,trivial⟩⟩ rfl ht (by decide)⟩,
   ⟨⟨rfl,rfl,fun _ τ hb ht hτ=>J4 (0) (20) (20) (hτ 3 _ rfl) (hb 3 _ rfl) rfl rfl (m2 (show ev _ _ (.const (.int .i64 20))=some (.int ((20:Nat):Int)) from rfl)) rfl rfl (by first|omega|(simp only[List.length_map,List.length_append,List.length_cons,List.length_nil,List.length_take,List.length_drop,List.length_replicate];omega)|(simp;omega)) (by first|omega|(simp only[List.length_map,List.length_append,List.length_cons,List.length_nil,List.length_take,List.length_drop,List.length_replicate];omega)|(simp;omega)) rfl ht⟩,
   ⟨⟨rfl,rfl,fun _ τ hb ht hτ=>Q6 (Or.inl rfl) (hτ 7 _ rfl) (SrcO.sc (SC.va (hτ 8 _ rfl) (hb 3 _ rfl) rfl (by first|omega|(simp only[List.length_map,List.length_append,List.length_cons,List.length_nil,List.length_take,List.length_drop,List.length_replicate];omega)|(simp;omega))) (X5 (fun _=>rfl))) (show _=((t6 k).map D.u8) from(by rw[t6,List.map_append,List.map_take];rfl)) (by first|omega|(simp only[List.length_map,List.length_append,List.length_cons,List.length_nil,List.length_take,List.length_drop,List.length_replicate];omega)|(simp;omega)) ht (by decide) (by decide)⟩,
   ⟨⟨rfl,rfl,fun _ τ hb ht hτ=>R.asgO (hτ 9 _ rfl) rfl ht (by decide)⟩,
   trivial⟩⟩⟩⟩,rfl,rfl,rfl⟩)
  rfl (bx':=[(3,.var _)]) rfl (n':=10) rfl (⟨[2],[(2,_)],[(3,.var _)],10,rfl,rfl,rfl, ?_⟩)
 refine W.ret ?_;exact Ends.one' (.inr rfl) rfl (rfl) rfl rfl trivial
end Go.Sx

namespace Go.Sx
open Go.Proofs
theorem thr15_ok(l:List BlkS)(hl:allBl l):Fn Tryd.prog gl 38 [.sl none 69 (l.map v9)] (.tup [.sl (some 60) 33 ((P7 l).map t4),.sl (some 48) 1 ((P7 l).map l4)]):=by
 refine Fn.of (n:=62) Tryd.func38 rfl rfl rfl (nU rfl) fun C hC hD=>?_;have hsa:=UZ hl;have hal:=hsa.1;refine z6 2 (y2 2 3) (V1 0) ⟨aU<|zK (kN O) O O,aU<|zK (kN O) O O,Zt⟩ O O O O ?_;refine z7 3 (y3 10 11 4) [(2,11)] [(2,11)] (V1 4) ⟨mU 0 O O,aU fun _ _ H K=>I6 hC (all15_ok l hl) (EvP.cons (eU K 10 O) O O EvP.nil) H,aU<|zO O O O,Zt⟩ O O (tU O ?_);refine W.seq ?_;refine PI (s:=4) (d':=.sl none 38 ((b9 l).map N6)) O O (brw_sts _ _ _) ?_;refine j1 1 (y1 5) (V2 4 5) ⟨aU<|zK (kN O) O O,Zt⟩ O O O O ?_;refine z6 1 (y1 6) (V3 4 5 6) ⟨aU<|zK (kN O) O O,Zt⟩ O O O O ?_;refine W.seq (z6 1 (y1 7) (V4 4 5 6 7) ⟨aU<|zK (kI 0 O) O O,Zt⟩ O O O O ?_);refine W.block ?_;refine Q7 (s:=5) 60 33 O ?_;refine Q7 (s:=6) 48 1 O ?_;refine W.loop (α:={q__:Nat//q__<=(b9 l).length}) (fun q__=>⟨62,[(4,.sl none 38 ((b9 l).map N6)),(5,.sl (some 60) 33 ((P8 (b9 l) q__.1).map t4)),(6,.sl (some 48) 1 ((P8 (b9 l) q__.1).map l4)),(7,.int ((q__.1:Nat):Int))],[]⟩) (fun q__=>(b9 l).length-q__.1) ⟨(0),bU⟩ O ?_;rintro ⟨i,hi⟩;show W _ _ _ _ ⟨62,[(4,.sl none 38 ((b9 l).map N6)),(5,.sl (some 60) 33 ((P8 (b9 l) i).map t4)),(6,.sl (some 48) 1 ((P8 (b9 l) i).map l4)),(7,.int ((i:Nat):Int))],[]⟩;have hi:i<=(b9 l).length:=hi;have htl:=MD hsa i hi;have hsm:i<(b9 l).length->(b9 l)[i]!.t.outs.length<=1000:=fun h=>(hsa.get h).2.2.2;refine W.seq (z6 4 (y4 12 13 14 15) (V5 4 5 6 7 15) ⟨mU 7 O O,mU 4 O O,aU<|zN O (lN _) O,aU<|zS O O O,Zt⟩ O O O O ?_);refine z9 O (fun hc15=>?_) (fun hc15=>?_)
 ·refine W.skip (W.seq (W.block (z6 1 (y1 8) (V5 4 5 6 7 8) ⟨aU<|zK (kI 0 O) O O,Zt⟩ O O O O ?_)));refine W.block ?_;refine W.loop (α:={q__:Nat//q__<=(b9 l)[i]!.t.outs.length}) (fun q__=>⟨62,[(4,.sl none 38 ((b9 l).map N6)),(5,.sl (some 60) 33 ((P8 (b9 l) i++K0 (b9 l) i q__.1).map t4)),(6,.sl (some 48) 1 ((P8 (b9 l) i++K0 (b9 l) i q__.1).map l4)),(7,.int ((i:Nat):Int)),(8,.int ((q__.1:Nat):Int))],[]⟩) (fun q__=>(b9 l)[i]!.t.outs.length-q__.1) ⟨(0),bU⟩ (by rw[thrK_0,List.append_nil]) ?_;rintro ⟨k,hk⟩;show W _ _ _ _ ⟨62,[(4,.sl none 38 ((b9 l).map N6)),(5,.sl (some 60) 33 ((P8 (b9 l) i++K0 (b9 l) i k).map t4)),(6,.sl (some 48) 1 ((P8 (b9 l) i++K0 (b9 l) i k).map l4)),(7,.int ((i:Nat):Int)),(8,.int ((k:Nat):Int))],[]⟩;have hk:k<=(b9 l)[i]!.t.outs.length:=hk;have hkl:=MG (b9 l) i k;refine W.seq (z6 9 (y9 18 19 20 21 22 23 24 25 26) (V6 4 5 6 7 8 26) ⟨mU 8 O O,mU 4 O O,mU 7 O O,aU<|zI i O O O bU O,aU<|H9 O O,aU<|H9 O O,aU<|zL O O (mG (b9 l)) O O O O O,aU<|zN O (lN _) O,aU<|zS O O O,Zt⟩ O O O O ?_);refine z9 O (fun hc26=>?_) (fun hc26=>?_)
  ·refine W.skip (W.seq (W.block (z7 10 (y8 29 30 31 32 33 34 35 36) [] [] (V6 4 5 6 7 8 36) ⟨mU 4 O O,mU 7 O O,aU<|zI i O O O bU O,aU<|H9 O O,aU<|zL O O (mG (b9 l)) O O O O O,mU 8 O O,aU fun _ _ H K=>Z3 (d:=.u32 (UInt32.ofInt ((k:Nat):Int))) (eU K 34 O) O (O) H,aU fun _ _ H K=>p6 (l:=[.arr 32 1 ((List.replicate 32 0).map D.u8),.u32 0]) (l':=[_,_]) (.cons (eU K 33 O) (.cons (eU K 35 O) (.nil O))) ⟨⟨_,(eU K 33 O),O,O,szH O⟩,⟨⟨_,(eU K 35 O),O,O,O⟩,Zt⟩⟩ H,Zt⟩ O O (o0 O O (m1 O O O O O (tV (V6 4 5 6 7 8 9) (b1 9) 62 O O O ?_))))));refine z6 6 (y6 37 38 39 40 41 42) (V7 4 5 6 7 8 9 42) ⟨mU 4 O O,mU 4 O O,aU<|zN O (lN _) O,aU (lU 9 O O O O O O O),aU fun _ _ H K=>j5 hC (frm15_ok (b9 l) hsa (b9 l).length 0 ((b9 l)[i]!.id,UInt32.ofInt ((k:Nat):Int)) bO dU) (Bc (Bp (eU K 37 O) O O) (Bc (Bp (eU K 39 O) O O) (Bc (Bp (kI 0 O) O O) (Bc (Bp (eU K 40 O) O O) Bn)))) (F1 (.bool _)) H,aU<|JY O O O,Zt⟩ O O O O ?_;refine W.cond O (fun hc42=>?_) (fun hc42=>?_)
   ·refine z7 5 (y5 43 44 45 46 5) [(3,5),(4,46),(4,43)] [(3,5),(4,46)] (V5 4 5 6 7 8) ⟨aU<|zM O O,aU (lU 9 O O O O O O O),aU fun _ _ H K=>w9 (z:=33) (.cons (eU K 44 O) .nil) ⟨⟨O,O,O⟩,Zt⟩ O H dU,aU<|R5 O O O (g6 O) (show _=((P8 (b9 l) i++K0 (b9 l) i (k+1)).map t4) from(thr_p (by simpa using hc42))) (by simp only[List.length_map,List.length_append,List.length_cons,List.length_nil];omega) O,aU<|zO O O O,Zt⟩ O O (tU O ?_);refine p9 [] (bx':=[]) O O O (j7 hD O) ?_;refine c9 14 (y14 47 48 49 50 51 52 53 54 55 56 57 58 59 6) [(12,6),(13,59),(13,47)] [(12,6),(13,59)] (V5 4 5 6 7 8) ⟨aU<|zM O O,mU 4 O O,mU 7 O O,aU<|zI i O O O bU O,aU<|H9 O O,aU<|H9 O O,aU<|zL O O (mG (b9 l)) O O O O O,mU 8 O O,aU<|zI k O O O bU O,aU<|H9 O O,aU<|zL O O (j4 (l:=((b9 l))[i]!.t.outs) bU) O O O O O,aU fun _ _ H K=>w9 (z:=1) (.cons (eU K 57 O) .nil) ⟨⟨O,O,O⟩,Zt⟩ O H dU,aU<|R5 O O O (g6 O) (show _=((P8 (b9 l) i++K0 (b9 l) i (k+1)).map l4) from(thr_v (by simpa using hc42))) (by simp only[List.length_map,List.length_append,List.length_cons,List.length_nil];omega) O,aU<|zO O O O,Zt⟩ O O (tU O ?_);refine j1 3 (y3 27 28 8) (V5 4 5 6 7 8) ⟨mU 8 O O,aU<|m8 1 O O bU O,aU<|zA O O O,Zt⟩ O O O O ?_;exact⟨⟨(k+1),bU⟩,(by first|rfl|(rw[thrK_t (by simpa using hc42)]<;>rfl)),(by simp only[];omega)⟩
   ·refine W.skip ?_;refine u3 (live:=[4,5,6,7,8]) (env':=(V5 4 5 6 7 8)) (bx':=(b1 9)) (n':=62) O O O ?_;refine p9 [] (bx':=[]) O O O (j7 hD O) ?_;refine j1 3 (y3 27 28 8) (V5 4 5 6 7 8) ⟨mU 8 O O,aU<|m8 1 O O bU O,aU<|zA O O O,Zt⟩ O O O O ?_;exact⟨⟨(k+1),bU⟩,(by first|rfl|(rw[thrK_t (by simpa using hc42)]<;>rfl)),(by simp only[];omega)⟩
  ·obtain rfl:k=(b9 l)[i]!.t.outs.length:=by omega
   refine W.exit ?_;refine j1 3 (y3 16 17 7) (V4 4 5 6 7) ⟨mU 7 O O,aU<|m8 1 O O bU O,aU<|zA O O O,Zt⟩ O O O O ?_;exact⟨⟨(i+1),bU⟩,(by rw[TU]<;>rfl),(by simp only[];omega)⟩
 ·obtain rfl:i=(b9 l).length:=by omega
  refine W.exit (z7 4 (y4 60 61 2 3) [(0,5),(1,6),(2,60),(3,61)] [(0,5),(1,6),(2,60),(3,61)] (V2 2 3) ⟨aU fun _ _ H K=>G3 (K 5 _ O) O H dU,aU fun _ _ H K=>G3 (K 6 _ O) O H dU,aU<|zO O O O,aU<|zO O O O,Zt⟩ O O (tU O ?_));refine W.ret ?_;exact Ends.many (.inr O) (.cons O O O Zt (.cons O O O Zt .nil)) (by rw[P7]) (show[(2,true),(3,true)].Nodup by decide)
end Go.Sx

namespace Go.Sx
theorem YF(k:UInt8):(t6 k).length=22:=by
 unfold t6;rw[List.length_append,List.length_take,T0];rfl
structure TxS.sm(t:TxS):Prop where
 ins:t.ins.length<=8
 outs:t.outs.length<=8
 hash:∀ x∈t.ins,x.tx.length=32
 scr:∀ x∈t.ins,x.script.length<=100
 oscr:∀ x∈t.outs,x.script.length<=100
 wit:∀ x∈t.ins,x.wit.length<=8
 witi:∀ x∈t.ins,∀ b∈x.wit,b.length<=100
theorem RG{l:List InS}(h1:∀ x∈l,x.tx.length=32)(h2:∀ x∈l,x.script.length<=100)(i:Nat)(hi:i<=l.length):(U5 l i).length<=200*i:=by
 induction i with
 | zero=>exact Nat.le_refl _
 | succ i ih=>
  have:=ih (by omega);have h3:=h1 _ (u9 (show i<l.length by omega));have h4:=h2 _ (u9 (show i<l.length by omega));have h5:=C6 l[i]!.script;simp only[U5,inS,List.length_append,w5];omega
theorem NN{l:List OutS}(h2:∀ x∈l,x.script.length<=100)(i:Nat)(hi:i<=l.length):(U3 l i).length<=200*i:=by
 induction i with
 | zero=>exact Nat.le_refl _
 | succ i ih=>
  have:=ih (by omega);have h4:=h2 _ (u9 (show i<l.length by omega));have h5:=C6 l[i]!.script;simp only[U3,DD,List.length_append,w5];omega
theorem IW{l:List (List UInt8)}(h2:∀ x∈l,x.length<=100)(i:Nat)(hi:i<=l.length):(KZ l i).length<=200*i:=by
 induction i with
 | zero=>exact Nat.le_refl _
 | succ i ih=>
  have:=ih (by omega);have h4:=h2 _ (u9 (show i<l.length by omega));have h5:=C6 l[i]!;simp only[KZ,List.length_append];omega
theorem MU{l:List InS}(h1:∀ x∈l,x.wit.length<=8)(h2:∀ x∈l,∀ b∈x.wit,b.length<=100)(i:Nat)(hi:i<=l.length):(A0 l i).length<=2000*i:=by
 induction i with
 | zero=>exact Nat.le_refl _
 | succ i ih=>
  have:=ih (by omega);have hm:=u9 (show i<l.length by omega);have h3:=h1 _ hm;have h4:=IW (h2 _ hm) _ (Nat.le_refl _);have h5:=n6 l[i]!.wit.length;simp only[A0,List.length_append];omega
theorem TxS.sm.wf{t:TxS}(h:t.sm):t.wf where
 ins:=Nat.le_trans h.ins (by decide)
 outs:=Nat.le_trans h.outs (by decide)
 hash:=h.hash
 scr:=fun x hx=>Nat.le_trans (h.scr x hx) (by decide)
 oscr:=fun x hx=>Nat.le_trans (h.oscr x hx) (by decide)
 insb:=fun i hi=>by
  have:=RG h.hash h.scr i hi;have:=h.ins;omega
 outsb:=fun i hi=>by
  have:=NN h.oscr i hi;have:=h.outs;omega
 witsb:=fun i hi=>by
  have:=MU h.wit h.witi i hi;have:=h.ins;omega
 witl:=fun x hx=>⟨Nat.le_trans (h.wit x hx) (by decide),fun i hi=>by
  have:=IW (h.witi x hx) i hi;have:=h.wit x hx
  omega⟩
 witi:=fun x hx b hb=>Nat.le_trans (h.witi x hx b hb) (by decide)
theorem TxS.sm.le{t:TxS}(h:t.sm):t.ins.length<=1000/\t.outs.length<=1000:=⟨Nat.le_trans h.ins (by decide),Nat.le_trans h.outs (by decide)⟩
theorem I9:zero32.length=32:=rfl
theorem NT(n:Nat)(x:PlS)(mark:UInt32):(o4 n x mark).sm where
 ins:=(by decide:1<=8)
 outs:=(by decide:1<=8)
 hash:=fun y hy=>by rw[List.mem_singleton.1 hy];exact I9
 scr:=fun y hy=>by rw[List.mem_singleton.1 hy];exact(by decide:3<=100)
 oscr:=fun y hy=>by
  rw[List.mem_singleton.1 hy];show(t6 _).length<=100;rw[YF];decide
 wit:=fun y hy=>by rw[List.mem_singleton.1 hy];exact(by decide:0<=8)
 witi:=fun y hy b hb=>by rw[List.mem_singleton.1 hy] at hb;cases hb
theorem thrK_h{l:List StS}{i:Nat}(hi:l[i]!.id.length=32)(k:Nat):∀ x∈K0 l i k,x.1.1.length=32:=by
 induction k with
 | zero=>intro x hx;cases hx
 | succ k ih=>
  intro x hx;rw[K0] at hx;split at hx
  ·exact ih x hx
  ·rcases List.mem_append.1 hx with h|h
   ·exact ih x h
   ·rw[List.mem_singleton.1 h];exact hi
theorem thrI_h{l:List StS}(hl:allSt l)(i:Nat)(hi:i<=l.length):∀ x∈P8 l i,x.1.1.length=32:=by
 induction i with
 | zero=>intro x hx;cases hx
 | succ i ih=>
  intro x hx
  rcases List.mem_append.1 hx with h|h
  ·exact ih (by omega) x h
  ·exact thrK_h (hl.get (by omega)).1 _ x h
theorem thrS_h{l:List BlkS}(hl:allBl l):∀ x∈P7 l,x.1.1.length=32:=thrI_h (UZ hl) _ (Nat.le_refl _)
theorem thrS_len{l:List BlkS}(hl:allBl l):(P7 l).length<=100000000:=by
 have h1:=MD (UZ hl) _ (Nat.le_refl _);have h2:=(UZ hl).1;unfold P7;omega
theorem TY(s:SpS)(av:List (Plc×UInt64)):(B8 s av).length<=2:=by
 unfold B8;dsimp only;split
 ·exact(by decide:2<=2)
 ·exact(by decide:1<=2)
theorem spT_sm{s:SpS}{av:List (Plc×UInt64)}{mark:UInt32}(h0:¬ av.length=0)(hav:∀ x∈av,x.1.1.length=32):(spT s av mark).sm:=by
 have hk:s.from_.toNat%av.length<av.length:=Nat.mod_lt _ (by omega)
 have key:∀ x∈B8 s av,x.tx.length=32/\x.script.length<=100/\x.wit.length<=8/\∀ b∈x.wit,b.length<=100:=by
  intro x hx;unfold B8 at hx;dsimp only at hx;split at hx
  ·rename_i h2
   rcases List.mem_cons.1 hx with rfl|hx
   ·exact⟨hav _ (u9 hk),Nat.zero_le _,Nat.zero_le _,fun b hb=>by cases hb⟩
   ·rw[List.mem_singleton.1 hx];refine⟨hav _ (u9 h2.2),(by decide:1<=100),(by decide:2<=8),fun b hb=>?_⟩
    rcases List.mem_cons.1 hb with rfl|hb
    ·exact(by decide:1<=100)
    ·rw[List.mem_singleton.1 hb];exact Nat.zero_le _
  ·rw[List.mem_singleton.1 hx];exact⟨hav _ (u9 hk),Nat.zero_le _,Nat.zero_le _,fun b hb=>by cases hb⟩
 refine { ins:=Nat.le_trans (TY s av) (by decide),outs:=?_,hash:=fun x hx=>(key x hx).1,scr:=fun x hx=>(key x hx).2.1,oscr:=fun x hx=>?_,wit:=fun x hx=>(key x hx).2.2.1,witi:=fun x hx=>(key x hx).2.2.2 }
 ·show(Z0 s (G4 s av) (min s.to.length 4)).length<=8;unfold Z0;rw[List.length_map,List.length_range];omega
 ·obtain⟨j,_,rfl⟩:=List.mem_map.1 hx;show(t6 _).length<=100;rw[YF];decide
theorem spS_sm{s:SpS}{av:List (Plc×UInt64)}{mark:UInt32}(hav:∀ x∈av,x.1.1.length=32)(h:(HY s av mark).2=true):(HY s av mark).1.sm:=by
 unfold HY at h ⊢
 cases hn:UF s av with
 | true=>rw[hn] at h;cases h
 | false=>
  refine spT_sm (fun h0=>?_) hav;unfold UF at hn;rw[decide_eq_true h0] at hn;cases hn
theorem AD{txs:List TxS}{h:HdS}(hh:h.wf)(ht:∀ t∈txs,t.sm)(hl:txs.length<=1000):BlkS.wf ⟨h,txs⟩ where
 hd:=hh
 txs:=fun t h=>(ht t h).wf
 sm:=fun t h=>(ht t h).le
 len:=hl
theorem UY:zeroH.wf:=⟨I9,I9⟩
theorem I5{l:List BlkS}{b:BlkS}(h:allBl l)(hl:l.length<=99)(hb:b.wf):allBl (l++[b]):=
 ⟨by rw[List.length_append,List.length_singleton];omega,fun x hx=>by
  rcases List.mem_append.1 hx with h1|h1
  ·exact h.2 x h1
  ·rw[List.mem_singleton.1 h1];exact hb⟩
theorem grT_sm{l:List BlkS}(hl:allBl l)(h99:l.length<=99)(x:PlS)(mark:UInt32)(i:Nat)(hi:i<=6):(∀ t∈P6 l x mark i,t.sm)/\1<=(P6 l x mark i).length/\(P6 l x mark i).length<=i+1:=by
 induction i with
 | zero=>exact⟨fun t ht=>by rw[P6,List.mem_singleton] at ht;rw[ht];exact NT _ _ _,Nat.le_refl _,Nat.le_refl _⟩
 | succ i ih=>
  obtain⟨h1,h2,h3⟩:=ih (by omega);have hb:=I5 hl h99 (AD UY h1 (by omega));rw[P6];split
  ·rename_i h4;refine⟨fun t ht=>?_,by rw[List.length_append];omega,by rw[List.length_append,List.length_singleton];omega⟩
   rcases List.mem_append.1 ht with h5|h5
   ·exact h1 t h5
   ·rw[List.mem_singleton.1 h5];exact spS_sm (thrS_h hb) h4
  ·exact⟨h1,h2,by omega⟩
theorem s7{l:List BlkS}(hl:allBl l)(h99:l.length<=99)(x:PlS)(mark:UInt32):(∀ t∈Y1 l x mark,t.sm)/\1<=(Y1 l x mark).length/\(Y1 l x mark).length<=7:=by
 obtain⟨h1,h2,h3⟩:=grT_sm hl h99 x mark (min x.spends.length 6) (Nat.min_le_right _ _);exact⟨h1,h2,by show(P6 l x mark _).length<=7;omega⟩
theorem DU{J:Hs->Hs->Hs}(hJ:∀ a b,(J a b).length=32){l:List Hs}(hl:allH l):(M1 J l).length=32:=by
 unfold M1
 cases hk:Q9 l.length with
 | zero=>exact I9
 | succ k=>exact(QN hJ hl k).get (NJ J l k (by omega))
theorem BI(l:List TxS):allH (l.map O9):=fun h hh=>by
 obtain⟨t,_,rfl⟩:=List.mem_map.1 hh;exact NX t
theorem grH_wf(l:List BlkS)(x:PlS)(mark:UInt32):(grH l x mark).1.wf:=mineS_wf _ _ _ (DU KA (BI _))
theorem OY{l:List BlkS}(hl:allBl l)(h99:l.length<=99)(x:PlS)(mark:UInt32):(j8 l x mark).1.wf:=by
 obtain⟨h1,h2,h3⟩:=s7 hl h99 x mark;exact AD (grH_wf l x mark) h1 (by omega)
theorem W6(ps:List PlS)(i:Nat)(hi:i<=14):allBl (J3 ps i)/\1<=(J3 ps i).length/\(J3 ps i).length<=i+1:=by
 induction i with
 | zero=>
  refine⟨⟨(by decide:1<=100),fun b hb=>?_⟩,Nat.le_refl _,Nat.le_refl _⟩;rw[J3,List.mem_singleton] at hb;rw[hb];exact AD ⟨rfl,rfl⟩ (fun t h=>by cases h) (Nat.zero_le _)
 | succ i ih=>
  obtain⟨h1,h2,h3⟩:=ih (by omega);rw[J3];split
  ·refine⟨I5 h1 (by omega) (OY h1 (by omega) _ _),by rw[List.length_append];omega,by rw[List.length_append,List.length_singleton];omega⟩
  ·exact⟨h1,h2,by omega⟩
theorem ZA(ps:List PlS):allBl (d8 ps)/\1<=(d8 ps).length/\(d8 ps).length<=15:=by
 obtain⟨h1,h2,h3⟩:=W6 ps (min ps.length 14) (Nat.min_le_right _ _);exact⟨h1,h2,by show(J3 ps _).length<=15;omega⟩
end Go.Sx

namespace Go.Sx
variable{P:Program}{C:Ctx}{σ σ' σ1:Sg}{a:Act}{w w':World}{ρ:Nat->Nat}{Fe Fe' Fb:Nat->List Nat}
theorem VR_u64{G L:Nat->Prop}{n:UInt64}{v:Value}{F:List Nat}(h:VR w ρ G L (.u64 n) v F):v=.int .u64 n.toNat:=by
 simp only[VR,D.isAgg,Bool.false_eq_true,if_false] at h;cases h;rfl
theorem R.minU{x y:Operand}{t:Nat}{m n:UInt64}{ta tb rt:TypeId}{pos:String}{aft:Array Edge}{g:Option (Nat×Bool)}(hx:ev C.gl σ x=some (.u64 m))(hy:ev C.gl σ y=some (.u64 n))(ht:t<σ.n) :
 OpS P C ⟨some t,.call { callee:=.builtin .min,args:=#[x,y],argTypes:=#[ta,tb] },rt,pos,aft,g⟩ σ (σ.set t (.u64 (if n<m then n else m))):=by
 refine OpS.value fun a w ⟨ρ,Fe,Fb,st⟩=>?_;obtain⟨_,hvx,_⟩:=c3 st hx rfl;obtain⟨_,hvy,_⟩:=c3 st hy rfl;have hvx:=VR_u64 hvx;have hvy:=VR_u64 hvy;refine⟨.int .u64 (if n<m then n else m).toNat,w, ?_,st.put ht rfl (by simp only[VR,D.isAgg,Bool.false_eq_true,if_false];exact .u64 _)⟩;unfold execOp;simp[hvx,hvy,resolve,invoke,builtin,Builtin.min_,Builtin.min2];by_cases h:n<m
 ·rw[if_pos h,if_pos (UInt64.lt_iff_toNat_lt.1 h)]
 ·rw[if_neg h,if_neg (fun h3=>h (UInt64.lt_iff_toNat_lt.2 h3))]
end Go.Sx

namespace Go.Sx
variable{P:Program}{C:Ctx}{σ σ' σ1:Sg}{a:Act}{w w':World}{ρ:Nat->Nat}{Fe Fe' Fb:Nat->List Nat}
theorem StW.takeX{S:List Nat}{t:Nat}{d:D}{v:Value}{F:List Nat}(h:StW C σ a w ρ Fe Fb)(ht:t<σ.n)(hst:t∉S)(hS:∀ s∈S,∃ d0,σ.get s=some d0)
 (hw:Ext w w') (hF:F.Nodup) (hFs:∀ b∈F,(∃ s∈S,b∈Fe s)∨w.heap.size<=b)
 (hv:SR w' ρ (gd C (upd (fun u=>if u∈S then[] else Fe u) t F) Fb) (fun id=>(σ.box id).isSome) (a.put (some t) v) t d F) :
 StW C ((Z6 σ S).set t d) (a.put (some t) v) w' ρ (upd (fun u=>if u∈S then[] else Fe u) t F) Fb:=by
 have hsz:t<a.tmps.size:=by rw[h.size];exact ht
 let Fx:Nat->List Nat:=upd (fun u=>if u∈S then[] else Fe u) t F
 have hFx:∀ u,u≠t->∀ b∈Fx u,b∈Fe u/\u∉S:=fun u hut b hb=>by
  simp only[Fx,q8 hut] at hb;by_cases hus:u∈S
  ·simp[hus] at hb
  ·simp only[hus,if_false] at hb;exact⟨hb,hus⟩
 have hFt:Fx t=F:=by simp[Fx]
 have hlt:=h.lt;have hh:∀ b,b<w.heap.size->w'.heap[b]? = w.heap[b]?:=hw.block
 have ho:∀ b,own Fx Fb b->own Fe Fb b∨w.heap.size<=b:=by
  rintro b (⟨u,hu⟩|hid)
  ·by_cases hut:u=t
   ·subst hut;rw[hFt] at hu
    rcases hFs b hu with ⟨s,_,hs⟩|hn
    ·exact .inl (.inl ⟨s,hs⟩)
    ·exact .inr hn
   ·exact .inl (.inl ⟨u,(hFx u hut b hu).1⟩)
  ·exact .inl (.inr hid)
 have hg:∀ b,gd C Fe Fb b->b<w.heap.size->gd C Fx Fb b:=fun b hb hbl=>⟨hb.1,fun hc=>(ho b hc).elim hb.2 (fun h2=>by omega)⟩
 obtain⟨hn,hbx⟩:=XO S σ
 have hbox:∀ id,((Z6 σ S).set t d).box id=σ.box id:=fun id=>by
  show lk (Z6 σ S).bx id=_;rw[hbx];rfl
 have hLf:(fun id=>(((Z6 σ S).set t d).box id).isSome=true)=fun id=>(σ.box id).isSome=true:=by funext id;rw[hbox]
 have hnotF:∀ u,u≠t->∀ b∈Fx u,b∉F:=fun u hut b hb hbF=>by
  obtain⟨h1,h2⟩:=hFx u hut b hb
  rcases hFs b hbF with ⟨s,hs,h3⟩|hn
  ·exact h.dEE u s (fun e=>h2 (e▸hs)) b h1 h3
  ·have:=hlt b (.inl ⟨u,h1⟩);omega
 refine {
  size:=?_
  defs:=h.defs
  pin:=fun id b hp=>by rw[hbox];exact h.pin id b hp
  env:=fun u x hx=>?_
  envN:=fun u hu=>?_
  bx:=fun id x hx=>by rw[hLf];exact(h.bx id x (by rw[<- hbox];exact hx)).mono (fun b _ hb=>hh b hb) hg (fun i hi=>⟨hi,rfl⟩)
  bxN:=fun id hx=>h.bxN id (by rw[<- hbox];exact hx)
  nodE:=fun u=>?_
  nodB:=h.nodB
  dEE:=fun u u' huu b hb hb'=>?_
  dEB:=fun u id b hb hb'=>?_
  dBB:=h.dBB
  new:=fun b hb=>?_
  kept:=fun b hb=>?_
  os:=hw.os.trans h.os
  tape:=hw.tape.trans h.tape
  output:=hw.output.trans h.output
  grown:=Nat.le_trans h.grown hw.size
  gl:=h.gl
  okN:=fun b hb=>h.okN b (Nat.le_trans hw.size hb)
  okO:=fun b hb=>(ho b hb).elim (h.okO b) (h.okN b) }
 ·simp[Act.put,h.size,hn]
 ·rw[hLf];rw[m7] at hx;by_cases hut:u=t
  ·subst hut;simp at hx;subst hx;simp only[j3];exact hv
  ·simp only[hut,if_false] at hx;obtain⟨d1,hd1,rfl⟩:=Option.map_eq_some_iff.1 hx;rw[C4] at hd1;by_cases hus:u∈S
   ·simp only[hus,if_true,Option.some.injEq] at hd1;subst hd1;obtain⟨d0,hd0⟩:=hS u hus;obtain⟨v0,hv0⟩:=(h.env u d0 hd0).there;refine⟨by simp[q8 hut,hus],v0,by rw[v7 a t v u hsz];simp[hut,hv0]⟩
   ·simp only[hus,if_false] at hd1
    have hFu:upd (fun u=>if u∈S then[] else Fe u) t F u=Fe u:=by simp[q8 hut,hus]
    rw[hFu];exact O7 hut hsz (h.env u d1 hd1) (fun b _ hb=>hh b hb) hg (fun id hid=>⟨hid,rfl⟩) (fun id off v _ hc=>hw.cell hc)
 ·rw[m7] at hu;by_cases hut:u=t
  ·simp[hut] at hu
  ·simp only[hut,if_false,Option.map_eq_none_iff] at hu;rw[C4] at hu;by_cases hus:u∈S
   ·simp[hus] at hu
   ·simp only[hus,if_false] at hu;simp[q8 hut,hus,h.envN u hu]
 ·by_cases hut:u=t
  ·subst hut;simpa using hF
  ·simp only[q8 hut];split
   ·exact List.nodup_nil
   ·exact h.nodE u
 ·by_cases hut:u=t
  ·subst hut
   have hb1:b∈F:=by rw[<- hFt];exact hb
   exact hnotF u' (fun e=>huu e.symm) b hb' hb1
  ·by_cases hut':u'=t
   ·subst hut'
    have hb1:b∈F:=by rw[<- hFt];exact hb'
    exact hnotF u hut b hb hb1
   ·exact h.dEE u u' huu b (hFx u hut b hb).1 (hFx u' hut' b hb').1
 ·by_cases hut:u=t
  ·subst hut
   have hb1:b∈F:=by rw[<- hFt];exact hb
   rcases hFs b hb1 with ⟨s,_,hs⟩|hn
   ·exact h.dEB s id b hs hb'
   ·have:=hlt b (.inr ⟨id,hb'⟩);omega
  ·exact h.dEB u id b (hFx u hut b hb).1 hb'
 ·rcases ho b hb with h1|h1
  ·exact h.new b h1
  ·intro hk;have h2:=(h.kept b hk).2;have h3:=h.grown;omega
 ·obtain⟨h1,h2⟩:=h.kept b hb;exact⟨(hh b (Nat.lt_of_lt_of_le h2 h.grown)).trans h1,h2⟩
theorem VI{z i0:Nat}{cs:Array Value}{v:Value}{xc:List Value}(hxc:v.cells.toList=xc)(hl:xc.length=z)(hk:i0*z+z<=cs.size) :
 ∃ cs2:Array Value,(∀ rest,Instr.fill (fun i=>some (i*z,z)) cs ((i0,v)::rest)=Instr.fill (fun i=>some (i*z,z)) cs2 rest)/\cs2.size=cs.size/\(cs2.toList.drop (i0*z)).take z=xc/\cs2.toList.take (i0*z)=cs.toList.take (i0*z):=by
 have hsz:v.cells.size=z:=by rw[<- Array.length_toList,hxc,hl]
 have hfold:=N1 cs xc (i0*z) 0 (by omega);simp only[Nat.add_zero] at hfold
 have hcs2:(v.cells.zipIdx.foldl (fun(c:Array Value) (p:Value×Nat)=>c.setIfInBounds (i0*z+p.2) p.1) cs).toList=cs.toList.take (i0*z)++xc++cs.toList.drop (i0*z+xc.length):=by
  rw[<- hfold,<- hxc,<- Array.foldl_toList];simp
 generalize hc2:(v.cells.zipIdx.foldl (fun(c:Array Value) (p:Value×Nat)=>c.setIfInBounds (i0*z+p.2) p.1) cs)=cs2 at hcs2;refine⟨cs2,fun rest=>?_, ?_, ?_, ?_⟩
 ·simp only[Instr.fill]
  have hcond:¬ (v.cells.size≠z∨i0*z+v.cells.size>cs.size):=by rw[hsz];simp;omega
  simp only[ne_eq,Bool.or_eq_true,decide_eq_true_eq];rw[if_neg (by simpa using hcond)];rw[hc2]
 ·have:=congrArg List.length hcs2;rw[K1 _ _ _ (by simp;omega)] at this;simpa using this
 ·rw[hcs2,List.append_assoc,List.drop_left' (by simp;omega),List.take_append_of_le_length (by omega),List.take_of_length_le (by omega)]
 ·rw[hcs2,List.append_assoc,List.take_left' (by simp;omega)]
inductive EvL(gl:List (Nat×D))(σ:Sg)(z:Nat):Nat->List (Nat×Operand)->List D->List Nat->Prop
 | nil {k:Nat}:EvL gl σ z k [] [] []
 | pur {k:Nat} {x:Operand} {d:D} {ps:List (Nat×Operand)} {ds:List D} {S:List Nat} (h:ev gl σ x=some d) (hp:d.pur=true) (hn:d.np=true) (hz:d.sz=z) (t:EvL gl σ z (k+1) ps ds S):EvL gl σ z k ((k,x)::ps) (d::ds) S
 | own {k s:Nat} {d:D} {ps:List (Nat×Operand)} {ds:List D} {S:List Nat} (h:σ.get s=some d) (hr:d.isRef=false) (hn:d.np=true) (hz:d.sz=z) (hs:S.contains s=false) (t:EvL gl σ z (k+1) ps ds S):EvL gl σ z k ((k,.tmp s)::ps) (d::ds) (s::S)
theorem EvL.there{gl:List (Nat×D)}{z k:Nat}{ps:List (Nat×Operand)}{ds:List D}{S:List Nat}(h:EvL gl σ z k ps ds S):∀ s∈S,∃ d0,σ.get s=some d0:=by
 induction h with
 | nil=>intro s hs;cases hs
 | pur _ _ _ _ _ ih=>exact ih
 | own h _ _ _ _ _ ih=>
  intro s hs
  rcases List.mem_cons.1 hs with rfl|hs
  ·exact⟨_,h⟩
  ·exact ih s hs
theorem EvL.fill(st:StW C σ a w ρ Fe Fb){z k:Nat}{ps:List (Nat×Operand)}{ds:List D}{S:List Nat}(h:EvL C.gl σ z k ps ds S) :
 ∀ cs:Array Value,(k+ds.length)*z<=cs.size ->
  ∃ (out:Array Value) (Fs:Nat->List Nat),Instr.fill (fun i=>some (i*z,z)) cs (ps.map (fun p=>(p.1,a.eval p.2)))=some out/\out.size=cs.size/\out.toList.take (k*z)=cs.toList.take (k*z) /\
   (∀ i (h:i<ds.length),Rc w ρ (gd C Fe Fb) (fun id=>(σ.box id).isSome=true) false ds[i] ((out.toList.drop ((k+i)*z)).take z) (Fs i)) /\
   (∀ i,i<ds.length->(Fs i).Nodup/\∀ b∈Fs i,∃ s∈S,b∈Fe s)/\(∀ i j,i<ds.length->j<ds.length->i≠j->∀ b,b∈Fs i->b∉Fs j):=by
 have step:∀ {k:Nat} {x:Operand} {d:D} {ps:List (Nat×Operand)} {ds:List D} {S:List Nat} {xc:List Value} {Fx:List Nat},(a.eval x).cells.toList=xc->Rc w ρ (gd C Fe Fb) (fun id=>(σ.box id).isSome=true) false d xc Fx->d.sz=z->Fx.Nodup->∀ (T:List Nat),(∀ b∈Fx,∃ s∈T,b∈Fe s)->(∀ s∈S,s∈T)->(∀ b∈Fx,∀ s∈S,b∉Fe s) ->
  (∀ cs:Array Value,(k+1+ds.length)*z<=cs.size->∃ (out:Array Value) (Fs:Nat->List Nat),Instr.fill (fun i=>some (i*z,z)) cs (ps.map (fun p=>(p.1,a.eval p.2)))=some out/\out.size=cs.size/\out.toList.take ((k+1)*z)=cs.toList.take ((k+1)*z) /\
   (∀ i (h:i<ds.length),Rc w ρ (gd C Fe Fb) (fun id=>(σ.box id).isSome=true) false ds[i] ((out.toList.drop ((k+1+i)*z)).take z) (Fs i)) /\
   (∀ i,i<ds.length->(Fs i).Nodup/\∀ b∈Fs i,∃ s∈S,b∈Fe s)/\(∀ i j,i<ds.length->j<ds.length->i≠j->∀ b,b∈Fs i->b∉Fs j)) ->
  ∀ cs:Array Value,(k+(d::ds).length)*z<=cs.size->∃ (out:Array Value) (Fs:Nat->List Nat),Instr.fill (fun i=>some (i*z,z)) cs (((k,x)::ps).map (fun p=>(p.1,a.eval p.2)))=some out/\out.size=cs.size/\out.toList.take (k*z)=cs.toList.take (k*z) /\
   (∀ i (h:i<(d::ds).length),Rc w ρ (gd C Fe Fb) (fun id=>(σ.box id).isSome=true) false (d::ds)[i] ((out.toList.drop ((k+i)*z)).take z) (Fs i)) /\
   (∀ i,i<(d::ds).length->(Fs i).Nodup/\∀ b∈Fs i,∃ s∈T,b∈Fe s)/\(∀ i j,i<(d::ds).length->j<(d::ds).length->i≠j->∀ b,b∈Fs i->b∉Fs j):=by
  intro k x d ps ds S xc Fx hxc hrc hz hnd T hFx hST hdis ih cs hs
  have hs1:(k+1+ds.length)*z<=cs.size:=by
   rw[List.length_cons] at hs;rw[show k+1+ds.length=k+(ds.length+1) by omega];exact hs
  have hkz:k*z+z<=cs.size:=by
   have:=Nat.le_trans (Nat.mul_le_mul_right z (show k+1<=k+1+ds.length by omega)) hs1;rw[Nat.add_mul,Nat.one_mul] at this;exact this
  obtain⟨cs2,e1,e2,e3,e4⟩:=VI (i0:=k) hxc (hrc.len.trans hz) hkz;obtain⟨out,Fs,q1,q2,q3,q4,q5,q6⟩:=ih cs2 (by rw[e2];exact hs1)
  have hz1:(k+1)*z=k*z+z:=by rw[Nat.add_mul,Nat.one_mul]
  have hmid:(out.toList.drop (k*z)).take z=xc:=by
   have:=congrArg (List.drop (k*z)) q3;rw[hz1,List.drop_take,List.drop_take,Nat.add_sub_cancel_left] at this;rw[this];exact e3
  have hpre:out.toList.take (k*z)=cs.toList.take (k*z):=by
   have:=congrArg (List.take (k*z)) q3;rw[hz1,List.take_take,List.take_take,Nat.min_eq_left (by omega)] at this;rw[this];exact e4
  refine⟨out,fun i=>match i with|0=>Fx|i+1=>Fs i, ?_,q2.trans e2,hpre, ?_, ?_, ?_⟩
  ·rw[List.map_cons,e1];exact q1
  ·intro i hi
   cases i with
   | zero=>simp only[Nat.add_zero,List.getElem_cons_zero,hmid];exact hrc
   | succ i=>
    simp only[List.getElem_cons_succ];have:=q4 i (by simpa using hi);rw[show k+1+i=k+(i+1) by omega] at this;exact this
  ·intro i hi
   cases i with
   | zero=>exact⟨hnd,hFx⟩
   | succ i=>
    obtain⟨h1,h2⟩:=q5 i (by simpa using hi);exact⟨h1,fun b hb=>by obtain⟨s,hs,hb'⟩:=h2 b hb;exact⟨s,hST s hs,hb'⟩⟩
  ·intro i j hi hj hij b hb
   cases i with
   | zero=>cases j with
    | zero=>exact absurd rfl hij
    | succ j=>
     intro hb';obtain⟨s,hs,h3⟩:=(q5 j (by simpa using hj)).2 b hb';exact hdis b hb s hs h3
   | succ i=>cases j with
    | zero=>
     intro hb';obtain⟨s,hs,h3⟩:=(q5 i (by simpa using hi)).2 b hb;exact hdis b hb' s hs h3
    | succ j=>exact q6 i j (by simpa using hi) (by simpa using hj) (by omega) b hb
 induction h with
 | nil=>intro cs _;exact⟨cs,fun _=>[],rfl,rfl,rfl,fun i hi=>by simp at hi,fun i hi=>by simp at hi,fun i j hi=>by simp at hi⟩
 | @pur k x d ps ds S h hp hn hz t ih=>
  obtain⟨xc,hxc,hrc⟩:=P2 st h hp;exact step hxc (hrc.unflag hn) hz List.nodup_nil S (by simp) (fun s hs=>hs) (by simp) ih
 | @own k s d ps ds S h hr hn hz hs t ih=>
  obtain⟨v,hv,hvr⟩:=(j2 hr).1 (st.env _ _ h)
  have hdead:d≠.dead:=by rintro rfl;simp[D.isRef] at hr
  have hrc:=(hvr.cells hdead).unflag hn
  have hs':s∉S:=by intro hm;rw[List.contains_iff_mem.2 hm] at hs;cases hs
  exact step (x:=.tmp s) (by rw[w3 hv]) hrc hz (st.nodE s) (s::S) (fun b hb=>⟨s,by simp,hb⟩) (fun s' h'=>List.mem_cons_of_mem _ h') (fun b hb s' h'=>st.dEE s s' (fun e=>hs' (e▸h')) b hb) ih
theorem R.bslO{t e z bytes k:Nat}{ps:List (Nat×Operand)}{ds:List D}{S:List Nat}{ty rt:TypeId}{pos:String}{aft:Array Edge}{g:Option (Nat×Bool)}[hT:SlT P ty e][hE:ElT P e z bytes]
 (hps:EvL C.gl σ z 0 ps ds S) (hk:ds.length=k) (hS:S.contains t=false) (ht:t<σ.n) (hsm:k*z<=16777216) :
 OpS P C ⟨some t,.buildSlice ty k ps.toArray,rt,pos,aft,g⟩ σ ((Z6 σ S).set t (.sl (some e) z ds)):=by
 refine OpS.value fun a w ⟨ρ,Fe,Fb,st⟩=>?_;obtain⟨i,zv,hi,hsz,hby,hz,hzs,hpos,hone⟩:=hE.i;subst hk
 have htS:t∉S:=by intro hm;rw[List.contains_iff_mem.2 hm] at hS;cases hS
 obtain⟨out,Fs,q1,q2,_,q4,q5,q6⟩:=hps.fill st ((Array.range (ds.length*z)).map (zv.cells[·%zv.cells.size]!)) (by simp);simp only[Nat.zero_add] at q4
 have hml:ds.length<=maxLen:=by
  have:ds.length*1<=ds.length*z:=Nat.mul_le_mul_left _ hpos;simp only[maxLen];omega
 have hos:out.size=ds.length*z:=by rw[q2];simp
 let F:List Nat:=w.heap.size::(List.range ds.length).flatMap Fs
 have hin:∀ b∈(List.range ds.length).flatMap Fs,∃ s∈S,b∈Fe s:=fun b hb=>by
  obtain⟨j,hj,hx⟩:=List.mem_flatMap.1 hb;exact(q5 j (List.mem_range.1 hj)).2 b hx
 have hlt:=st.lt
 have hF:F.Nodup:=by
  refine List.nodup_cons.2 ⟨fun hm=>?_,o9 (fun j hj=>(q5 j hj).1) (fun i j hi hj hij=>q6 i j hi hj hij)⟩;obtain⟨s,_,h2⟩:=hin _ hm;have:=hlt _ (.inl ⟨s,h2⟩);omega
 have hFs:∀ b∈F,(∃ s∈S,b∈Fe s)∨w.heap.size<=b:=fun b hb=>by
  rcases List.mem_cons.1 hb with rfl|hb
  ·exact .inr (Nat.le_refl _)
  ·exact .inl (hin b hb)
 have hgd:∀ b,gd C Fe Fb b->b<w.heap.size->gd C (upd (fun u=>if u∈S then[] else Fe u) t F) Fb b:=fun b hb hbl=>⟨hb.1,fun hc=>hb.2 (by
  rcases hc with ⟨u,hu⟩|hid
  ·by_cases hut:u=t
   ·subst hut;rw[j3] at hu
    rcases hFs b hu with ⟨s,_,hs⟩|hn
    ·exact .inl ⟨s,hs⟩
    ·omega
   ·rw[q8 hut] at hu;by_cases hus:u∈S
    ·simp[hus] at hu
    ·simp only[hus,if_false] at hu;exact .inl ⟨u,hu⟩
  ·exact .inr hid)⟩
 refine⟨.slice (some ⟨w.heap.size,0,none⟩) ds.length ds.length,w.alloc (.cells out e), ?_,ρ,_,Fb,st.takeX ht htS hps.there (Ext.alloc w _) hF hFs ((j2 rfl).2 ⟨.slice (some ⟨w.heap.size,0,none⟩) ds.length ds.length,by rw[v7 a t _ t (by rw[st.size];exact ht)];simp, ?_⟩)⟩
 ·unfold execOp
  have hps2:(ps.toArray.map fun x=>(x.1,a.eval x.2)).toList=ps.map (fun p=>(p.1,a.eval p.2)):=by simp
  by_cases h0:ds.length*z=0
  ·have q1':=q1;simp only[h0] at q1'
   have e0:(Array.range 0).map (fun x=>zv.cells[x%zv.cells.size]!)=(#[]:Array Value):=by simp[Array.range_zero']
   rw[e0] at q1';have e1:Array.range 0=#[]:=rfl;simp[Instr.buildSlice,run_underlying hT.u,ElT.size (P:=P) (e:=e),h0,hps2,e1,q1',newRow,newObj,Sem.run]
  ·simp[Instr.buildSlice,run_underlying hT.u,ElT.size (P:=P) (e:=e),h0,hps2,q1,newRow,newObj,Sem.run,zeroValue,typeInfo,hi,hz,show ¬ (16777216<ds.length*z) by omega]
 ·simp only[VR,D.isAgg,Bool.false_eq_true,if_false]
  have hcell:∀ u∈out.toList,u.oneCell'=true:=by
   intro u hu;obtain⟨j,hj,rfl⟩:=List.mem_iff_getElem.1 hu
   have hj1:j<ds.length*z:=by simpa [hos] using hj
   have hjz:j/z<ds.length:=Nat.div_lt_of_lt_mul (by rw[Nat.mul_comm];exact hj1);have hdm:=Nat.div_add_mod j z;have hmod:=Nat.mod_lt j hpos;rw[Nat.mul_comm] at hdm;refine(q4 (j/z) hjz).one _ (List.mem_iff_getElem?.2 ⟨j%z, ?_⟩);rw[List.getElem?_take,if_pos hmod,List.getElem?_drop,hdm,List.getElem?_eq_getElem hj]
  exact .slO w.heap.size out e ds.length z ds Fs (heap_alloc_new w _) (Nat.le_refl _) hml hos hcell (fun i hi=>(q4 i hi).mono (fun b hb hbl=>heap_alloc_old w _ hbl) hgd (fun id hid=>⟨hid,rfl⟩))
end Go.Sx

namespace Go.Sx
variable{pos:String}{aft:Array Edge}{g:Option (Nat×Bool)}
variable{P:Program}{C:Ctx}{σ σ' σ1:Sg}{a:Act}{w w':World}{ρ:Nat->Nat}{Fe Fe' Fb:Nat->List Nat}
theorem StW.takeY{S:List Nat}{t:Nat}{d:D}{v:Value}{F:List Nat}(h:StW C σ a w ρ Fe Fb)(ht:t<σ.n)(hst:t∉S)(hS:∀ s∈S,∃ d0,σ.get s=some d0)
 (hos:w'.os=w.os) (htape:TpR w' w) (hout:w'.output=w.output) (hsize:w.heap.size<=w'.heap.size)
 (hblk:∀ b,b<w.heap.size->(∀ s∈S,b∉Fe s)->w'.heap[b]? = w.heap[b]?) (hF:F.Nodup) (hFs:∀ b∈F,(∃ s∈S,b∈Fe s)∨w.heap.size<=b)
 (hv:SR w' ρ (gd C (upd (fun u=>if u∈S then[] else Fe u) t F) Fb) (fun id=>(σ.box id).isSome) (a.put (some t) v) t d F) :
 StW C ((Z6 σ S).set t d) (a.put (some t) v) w' ρ (upd (fun u=>if u∈S then[] else Fe u) t F) Fb:=by
 have hsz:t<a.tmps.size:=by rw[h.size];exact ht
 let Fx:Nat->List Nat:=upd (fun u=>if u∈S then[] else Fe u) t F
 have hFx:∀ u,u≠t->∀ b∈Fx u,b∈Fe u/\u∉S:=fun u hut b hb=>by
  simp only[Fx,q8 hut] at hb;by_cases hus:u∈S
  ·simp[hus] at hb
  ·simp only[hus,if_false] at hb;exact⟨hb,hus⟩
 have hFt:Fx t=F:=by simp[Fx]
 have hlt:=h.lt;have hh:∀ b,gd C Fe Fb b->b<w.heap.size->w'.heap[b]? = w.heap[b]?:=fun b hb hl=>hblk b hl (fun s _ hm=>hb.2 (.inl ⟨s,hm⟩))
 have hcc:∀ id off v,(σ.box id).isSome=true->w.cell? ⟨ρ id,off,none⟩=some v->w'.cell? ⟨ρ id,off,none⟩=some v:=by
  intro id off v hid hc;have hl:=block_lt_of_cell hc;rw[<- hc];refine World.cell?_of_block (hblk _ hl ?_);intro s _ hm
  cases hb:σ.box id with
  | none=>simp[hb] at hid
  | some x=>exact h.dEB s id _ hm (h.bx id x hb).mem
 have ho:∀ b,own Fx Fb b->own Fe Fb b∨w.heap.size<=b:=by
  rintro b (⟨u,hu⟩|hid)
  ·by_cases hut:u=t
   ·subst hut;rw[hFt] at hu
    rcases hFs b hu with ⟨s,_,hs⟩|hn
    ·exact .inl (.inl ⟨s,hs⟩)
    ·exact .inr hn
   ·exact .inl (.inl ⟨u,(hFx u hut b hu).1⟩)
  ·exact .inl (.inr hid)
 have hg:∀ b,gd C Fe Fb b->b<w.heap.size->gd C Fx Fb b:=fun b hb hbl=>⟨hb.1,fun hc=>(ho b hc).elim hb.2 (fun h2=>by omega)⟩
 obtain⟨hn,hbx⟩:=XO S σ
 have hbox:∀ id,((Z6 σ S).set t d).box id=σ.box id:=fun id=>by
  show lk (Z6 σ S).bx id=_;rw[hbx];rfl
 have hLf:(fun id=>(((Z6 σ S).set t d).box id).isSome=true)=fun id=>(σ.box id).isSome=true:=by funext id;rw[hbox]
 have hnotF:∀ u,u≠t->∀ b∈Fx u,b∉F:=fun u hut b hb hbF=>by
  obtain⟨h1,h2⟩:=hFx u hut b hb
  rcases hFs b hbF with ⟨s,hs,h3⟩|hn
  ·exact h.dEE u s (fun e=>h2 (e▸hs)) b h1 h3
  ·have:=hlt b (.inl ⟨u,h1⟩);omega
 refine {
  size:=?_
  defs:=h.defs
  pin:=fun id b hp=>by rw[hbox];exact h.pin id b hp
  env:=fun u x hx=>?_
  envN:=fun u hu=>?_
  bx:=fun id x hx=>by rw[hLf];exact(h.bx id x (by rw[<- hbox];exact hx)).mono (fun b hb hl=>hb.elim (fun hb=>hh b hb hl) (fun hb=>hblk b hl (fun s _ hm=>h.dEB s id b hm hb))) hg (fun i hi=>⟨hi,rfl⟩)
  bxN:=fun id hx=>h.bxN id (by rw[<- hbox];exact hx)
  nodE:=fun u=>?_
  nodB:=h.nodB
  dEE:=fun u u' huu b hb hb'=>?_
  dEB:=fun u id b hb hb'=>?_
  dBB:=h.dBB
  new:=fun b hb=>?_
  kept:=fun b hb=>?_
  os:=hos.trans h.os
  tape:=htape.trans h.tape
  output:=hout.trans h.output
  grown:=Nat.le_trans h.grown hsize
  gl:=h.gl
  okN:=fun b hb=>h.okN b (Nat.le_trans hsize hb)
  okO:=fun b hb=>(ho b hb).elim (h.okO b) (h.okN b) }
 ·simp[Act.put,h.size,hn]
 ·rw[hLf];rw[m7] at hx;by_cases hut:u=t
  ·subst hut;simp at hx;subst hx;simp only[j3];exact hv
  ·simp only[hut,if_false] at hx;obtain⟨d1,hd1,rfl⟩:=Option.map_eq_some_iff.1 hx;rw[C4] at hd1;by_cases hus:u∈S
   ·simp only[hus,if_true,Option.some.injEq] at hd1;subst hd1;obtain⟨d0,hd0⟩:=hS u hus;obtain⟨v0,hv0⟩:=(h.env u d0 hd0).there;refine⟨by simp[q8 hut,hus],v0,by rw[v7 a t v u hsz];simp[hut,hv0]⟩
   ·simp only[hus,if_false] at hd1
    have hFu:upd (fun u=>if u∈S then[] else Fe u) t F u=Fe u:=by simp[q8 hut,hus]
    rw[hFu];exact O7 hut hsz (h.env u d1 hd1) (fun b hb hl=>hb.elim (fun hb=>hh b hb hl) (fun hb=>hblk b hl (fun s hs hm=>h.dEE u s (fun e=>hus (e▸hs)) b hb hm))) hg (fun id hid=>⟨hid,rfl⟩) hcc
 ·rw[m7] at hu;by_cases hut:u=t
  ·simp[hut] at hu
  ·simp only[hut,if_false,Option.map_eq_none_iff] at hu;rw[C4] at hu;by_cases hus:u∈S
   ·simp[hus] at hu
   ·simp only[hus,if_false] at hu;simp[q8 hut,hus,h.envN u hu]
 ·by_cases hut:u=t
  ·subst hut;simpa using hF
  ·simp only[q8 hut];split
   ·exact List.nodup_nil
   ·exact h.nodE u
 ·by_cases hut:u=t
  ·subst hut
   have hb1:b∈F:=by rw[<- hFt];exact hb
   exact hnotF u' (fun e=>huu e.symm) b hb' hb1
  ·by_cases hut':u'=t
   ·subst hut'
    have hb1:b∈F:=by rw[<- hFt];exact hb'
    exact hnotF u hut b hb hb1
   ·exact h.dEE u u' huu b (hFx u hut b hb).1 (hFx u' hut' b hb').1
 ·by_cases hut:u=t
  ·subst hut
   have hb1:b∈F:=by rw[<- hFt];exact hb
   rcases hFs b hb1 with ⟨s,_,hs⟩|hn
   ·exact h.dEB s id b hs hb'
   ·have:=hlt b (.inr ⟨id,hb'⟩);omega
  ·exact h.dEB u id b (hFx u hut b hb).1 hb'
 ·rcases ho b hb with h1|h1
  ·exact h.new b h1
  ·intro hk;have h2:=(h.kept b hk).2;have h3:=h.grown;omega
 ·obtain⟨h1,h2⟩:=h.kept b hb;exact⟨(hblk b (Nat.lt_of_lt_of_le h2 h.grown) (fun s _ hm=>h.new b (.inl ⟨s,hm⟩) hb)).trans h1,h2⟩
theorem src_own{G L:Nat->Prop}{e z:Nat}{l:List D}{v:Value}{F:List Nat}(h:Rc w ρ G L true (.sl (some e) z l) [v] F)(hF:F.Nodup) :
 ∃ (base:Option Addr) (cap:Nat) (news:List Value) (Fs2:Nat->List Nat),v=.slice base l.length cap/\((base=none/\l=[]/\cap=0)∨∃ a,base=some a/\∀ j u,news[j]? = some u->w.cell? (a.add j)=some u)/\news.length=l.length*z/\(∀ u∈news,u.oneCell'=true) /\
  (∀ j (h:j<l.length),Rc w ρ G L false l[j] ((news.drop (j*z)).take z) (Fs2 j))/\((List.range l.length).flatMap Fs2).Nodup/\∀ b∈(List.range l.length).flatMap Fs2,b∈F:=by
 generalize hv:[v]=cv at h
 cases h with
 | slN=>cases hv;exact⟨none,0,[],fun _=>[],rfl,.inl ⟨rfl,rfl,rfl⟩,by simp,by simp,fun j hj=>by simp at hj,by simp,by simp⟩
 | slE _ _ a=>cases hv;exact⟨some a,0,[],fun _=>[],rfl,.inr ⟨a,rfl,by simp⟩,by simp,by simp,fun j hj=>by simp at hj,by simp,by simp⟩
 | slO b cs e cap z l Fs hb hc hm hs ho hr=>
  cases hv
  have hsz:l.length*z<=cs.size:=by rw[hs];exact Nat.mul_le_mul_right z hc
  have hl:(cs.toList.take (l.length*z)).length=l.length*z:=by simp;omega
  refine⟨some ⟨b,0,none⟩,cap,cs.toList.take (l.length*z),Fs,rfl,.inr ⟨_,rfl,fun j u hu=>?_⟩,hl,fun u hu=>ho u (List.mem_of_mem_take hu),fun j hj=>?_,(List.nodup_cons.1 hF).2,fun b' hb'=>List.mem_cons_of_mem _ hb'⟩
  ·rw[J6,cell_of_row w b _ cs e _ hb];rw[List.getElem?_take] at hu;split at hu
   ·simpa using hu
   ·cases hu
  ·have h1:j*z+z<=l.length*z:=by
    have:=Nat.mul_le_mul_right z (show j+1<=l.length by omega);rw[Nat.add_mul] at this;omega
   have h2:((cs.toList.take (l.length*z)).drop (j*z)).take z=(cs.toList.drop (j*z)).take z:=by
    rw[List.drop_take,List.take_take,Nat.min_eq_left (by omega)]
   rw[h2];exact hr j hj
theorem R.appO2{s s0 s1 t e e1 z bytes:Nat}{l l' l2:List D}{ty rt:TypeId}[hT:SlT P ty e][hE:ElT P e z bytes]
 (ho:ownr σ s s0) (hs:σ.get s0=some (.sl (some e) z l)) (hs1:σ.get s1=some (.sl (some e1) z l')) (hne:Nat.beq s0 s1=false) (he:l++l'=l2) (hn:l.length+l'.length<=1073741824) (ht:t<σ.n) (hst:[s0,s1].contains t=false) (hby:bytes<=131072) :
 OpS P C ⟨some t,.call { callee:=.builtin .append,args:=#[.tmp s,.tmp s1],argTypes:=#[ty,ty] },rt,pos,aft,g⟩ σ ((Z6 σ [s0,s1]).set t (.sl (some e) z l2)):=by
 subst he
 have hne':s0≠s1:=fun e=>by rw[e] at hne;simp at hne
 have htS:t∉[s0,s1]:=by intro hm;rw[List.contains_iff_mem.2 hm] at hst;cases hst
 refine OpS.value fun a w ⟨ρ,Fe,Fb,st⟩=>?_;obtain⟨v,hv,hv0,hr⟩:=T5 st ho hs;obtain⟨v1,hv1,_,hr1⟩:=T5 st (.inl rfl) hs1;obtain⟨base,cap,news,Fs2,rfl,q1,q2,q3,q4,q5,q6⟩:=src_own hr1 (st.nodE s1);obtain⟨f1,f2⟩:=fits hby hn;obtain⟨v',w',F',hrun,ht',hnd,hsub,hres⟩:=SA (P:=P) (t:=ty) (e:=e) (bytes:=bytes) (ty:=rt) (Fs2:=Fs2) hr (.inr rfl) (st.nodE s0) q1 q2 q3 q4 q5 (fun b hb hb'=>st.dEE s1 s0 (fun e=>hne' e.symm) b (q6 b hb) hb') (fun b hb hm=>hb.2 (.inl ⟨s0,hm⟩)) f1 f2
 have hFs:∀ b∈F',(∃ s∈[s0,s1],b∈Fe s)∨w.heap.size<=b:=fun b hb=>by
  rcases hsub b hb with h|h|h
  ·exact .inl ⟨s0,by simp,h⟩
  ·exact .inl ⟨s1,by simp,q6 b h⟩
  ·exact .inr h
 have hthere:∀ u∈[s0,s1],∃ d0,σ.get u=some d0:=fun u hu=>by
  rcases List.mem_cons.1 hu with rfl|hu
  ·exact⟨_,hs⟩
  ·rw[List.mem_singleton.1 hu];exact⟨_,hs1⟩
 refine⟨v',w', ?_,ρ,_,Fb,st.takeY ht htS hthere ht'.os ht'.tape ht'.output ht'.size (fun b hb hnb=>ht'.blk b hb (hnb s0 (by simp))) hnd hFs ((j2 rfl).2 ⟨v',by rw[v7 a t _ t (by rw[st.size];exact ht)];simp, ?_⟩)⟩
 ·unfold execOp;simp[resolve,invoke,builtin,w3 hv,w3 hv1,hrun]
 ·simp only[VR,D.isAgg,Bool.false_eq_true,if_false];refine hres _ (fun b hb hl=>⟨hb.1,fun hc=>?_⟩)
  rcases hc with ⟨u,hu⟩|hid
  ·by_cases hut:u=t
   ·subst hut;rw[j3] at hu
    rcases hFs b hu with ⟨s',_,h⟩|h
    ·exact hb.2 (.inl ⟨s',h⟩)
    ·omega
   ·rw[q8 hut] at hu;by_cases hus:u∈[s0,s1]
    ·simp only[hus,if_true] at hu;cases hu
    ·simp only[hus,if_false] at hu;exact hb.2 (.inl ⟨u,hu⟩)
  ·exact hb.2 (.inr hid)
theorem GL{s s1 id off t e e1 z bytes:Nat}{path:List Nat}{d0 d0':D}{l l' l2:List D}{ty rt:TypeId}[hT:SlT P ty e][hE:ElT P e z bytes]
 (h:σ.get s=some (.alb id off path)) (hb:σ.box id=some (.var d0)) (hl:d0.loc path=some (off,.sl (some e) z l)) (hna:d0.noArr path=true) (hu:d0.upd path .dead=some d0')
 {τ:Sg} (hτ:(σ.putB id (.var d0')).upd s (.sl (some e) z l)=τ) (hs:τ.get s=some (.sl (some e) z l)) (hs1:τ.get s1=some (.sl (some e1) z l')) (hne:Nat.beq s s1=false)
 (he:l++l'=l2) (hn:l.length+l'.length<=1073741824) (ht:t<σ.n) (hst:[s,s1].contains t=false) (hby:bytes<=131072) :
 OpS P C ⟨some t,.call { callee:=.builtin .append,args:=#[.tmp s,.tmp s1],argTypes:=#[ty,ty] },rt,pos,aft,g⟩ σ ((Z6 τ [s,s1]).set t (.sl (some e) z l2)):=by
 subst hτ;exact UU (fun a w hs=>St.takeP h hb hl hna hu hs) (R.appO2 (.inl rfl) hs hs1 hne he hn ht hst hby)
end Go.Sx

namespace Go.Sx
variable{pos:String}{aft:Array Edge}{g:Option (Nat×Bool)}
variable{P:Program}{C:Ctx}{Q:Exit->Sg->Prop}{σ σ' σ1:Sg}{a:Act}{w w':World}{ρ:Nat->Nat}{Fe Fe' Fb:Nat->List Nat}{ops:Array Oper}
def dsts:List Oper->List Nat
 | []=>[]
 | o::r=>match o.dst with
  | some t=>t::dsts r
  | none=>dsts r
theorem DG{a:Act}{d:Option Nat}{v:Value}{t:Nat}(h:d≠some t):(a.put d v).tmps[t]? = a.tmps[t]?:=by
 cases d with
 | none=>rfl
 | some u=>
  have hne:u≠t:=fun e=>h (e▸rfl);simp[Act.put,Array.getElem?_setIfInBounds,hne]
theorem QV{Q Q':Exit->Act->World->Prop}(h:LetsOut Q)(hq:∀ e a w,e≠.normal->Q e a w->Q' e a w):LetsOut Q':=by
 obtain⟨a,w,h⟩:=h;exact⟨a,w,hq _ _ _ (by simp) h⟩
theorem S6{F:Fence}{n:Nat}{o:Oper}{a:Act}{K K':Act->World->Prop}{Q Q':Exit->Act->World->Prop}{r:Result Next}
 (hk:∀ (b:Act) (w:World) (v:Value),b.tmps=a.tmps->K (b.put o.dst v) w->K' (b.put o.dst v) w) (hq:∀ e a w,e≠.normal->Q e a w->Q' e a w)
 (h:o.uponIn F n P a K Q r):o.uponIn F n P a K' Q' r:=by
 cases r with
 | ok nx w'=>
  cases nx with
  | value v=>exact hk _ _ _ rfl h
  | skip=>exact hk _ _ _ rfl h
  | «defer» d=>exact hk { a with defers:=d::a.defers } _ _ rfl h
  | enter f args=>
   refine⟨h.1,h.2.mono fun e w'' hx=>?_⟩
   cases e with
   | returned v=>exact hk _ _ _ rfl hx
   | panicked ch=>exact hq _ _ _ (by simp) hx
   | outgrown=>exact QV hx hq
  | row r args=>exact⟨h.1,h.2.mono fun v w'' hx=>hk _ _ _ rfl hx⟩
  | round l f tmps assign body=>
   refine⟨h.1,h.2.mono fun e w'' hx=>?_⟩
   cases e with
   | returned v=>exact hk _ _ _ rfl hx
   | panicked ch=>exact hq _ _ _ (by simp) hx
   | outgrown=>exact QV hx hq
  | _=>exact h
 | halt x w'=>
  cases x with
  | panic v=>exact hq _ _ _ (by simp) h
  | _=>exact h
theorem S5{F:Fence}{n:Nat}{Q Q1:Exit->Act->World->Prop}{l2:List Oper}:∀ (l1:List Oper) (a:Act) (w:World),wpListIn F n P ops Q1 l1 a w ->
 (∀ e a w,e≠.normal->Q1 e a w->Q e a w)->(∀ a' w',Q1 .normal a' w'->(∀ t,t∉dsts l1->a'.tmps[t]? = a.tmps[t]?)->wpListIn F n P ops Q l2 a' w')->wpListIn F n P ops Q (l1++l2) a w:=by
 intro l1
 induction l1 with
 | nil=>intro a w h _ k;exact k a w h (fun _ _=>rfl)
 | cons o l ih=>
  intro a w h hq k
  have hstep:∀ (b:Act) (w1:World) (v:Value),b.tmps=a.tmps->wpListIn F n P ops Q1 l (b.put o.dst v) w1->wpListIn F n P ops Q (l++l2) (b.put o.dst v) w1:=by
   intro b w1 v hb hx;refine ih _ _ hx hq (fun a' w' h1 h2=>k a' w' h1 fun t ht=>?_)
   have hne:o.dst≠some t:=by
    intro e;apply ht;simp[dsts,e]
   have hnl:t∉dsts l:=by
    intro hm;apply ht;unfold dsts;split
    ·exact List.mem_cons_of_mem _ hm
    ·exact hm
   rw[h2 t hnl,DG hne,hb]
  simp only[List.cons_append,wpListIn] at h ⊢;split
  ·rename_i hw;simp only[hw,if_true] at h;exact⟨h.1,S6 hstep hq h.2⟩
  ·rename_i hw;simp only[hw,if_false,Bool.false_eq_true] at h;exact⟨h.1,hstep a w undef rfl h.2⟩
inductive BorE(gl:List (Nat×D))(σ:Sg):List (Nat×D)->Prop
 | nil:BorE gl σ []
 | cons {t:Nat} {d:D} {r:List (Nat×D)} (h:Bor gl σ (.tmp t) d) (hr:d.isRef=false) (k:BorE gl σ r):BorE gl σ ((t,d)::r)
theorem BorE.get{gl:List (Nat×D)}{l:List (Nat×D)}(h:BorE gl σ l){t:Nat}{d:D}(ht:lk l t=some d):Bor gl σ (.tmp t) d/\d.isRef=false:=by
 induction h with
 | nil=>cases ht
 | @cons t' d' r h hr k ih=>
  rw[v4] at ht;by_cases e:t'=t
  ·subst e;simp only[if_true,Option.some.injEq] at ht;subst ht;exact⟨h,hr⟩
  ·simp only[e,if_false] at ht;exact ih ht
theorem Bor.there(st:StW C σ a w ρ Fe Fb){t:Nat}{d:D}(h:Bor C.gl σ (.tmp t) d):∃ v,a.tmps[t]? = some v:=by
 have key:∀ d0,σ.get t=some d0->∃ v,a.tmps[t]? = some v:=fun d0 h0=>(st.env t d0 h0).there
 cases h with
 | pur h _ _=>exact key _ h
 | nils h=>exact key _ h
 | own h _ _ _=>exact key _ h
 | al h _ _ _ _=>exact key _ h
 | sc h _=>
  obtain⟨base,len,cap,hv,_⟩:=JO st h;exact⟨_,hv⟩
 | ptr h _ _ _ _=>exact key _ h
def stays(W:List Nat)(d:D):Bool:=
 match d with
 | .al s=>!(W.contains s)
 | d=>!d.isRef
theorem MO{W:List Nat}{d:D}(h:stays W d=true):d.isRef=false∨∃ s,d=.al s/\W.contains s=false:=by
 cases d with
 | al s=>exact .inr ⟨s,rfl,by simpa [stays] using h⟩
 | _=>left;simpa [stays] using h
def Back(σ σ1:Sg)(W:List Nat):List (Nat×D)->Prop
 | []=>True
 | (t,d)::r=>(bif W.contains t then σ1.get t=some d/\d.isRef=false/\d.np=true/\Frs d else σ.get t=some d/\stays W d=true)/\Back σ σ1 W r
theorem Back.get{σ σ1:Sg}{W:List Nat}:∀ {l:List (Nat×D)},Back σ σ1 W l->∀ {t:Nat} {d:D},lk l t=some d->(W.contains t=true/\σ1.get t=some d/\d.isRef=false/\d.np=true/\Frs d)∨(W.contains t=false/\σ.get t=some d/\stays W d=true):=by
 intro l
 induction l with
 | nil=>intro _ t d h;cases h
 | cons x r ih=>
  obtain⟨t',d'⟩:=x;intro h t d ht;rw[v4] at ht;by_cases e:t'=t
  ·subst e;simp only[if_true,Option.some.injEq] at ht;subst ht;have h1:=h.1
   cases hW:W.contains t' with
   | true=>rw[hW] at h1;exact .inl ⟨rfl,h1⟩
   | false=>rw[hW] at h1;exact .inr ⟨rfl,h1⟩
  ·simp only[e,if_false] at ht;exact ih h.2 ht
def Ctx.inl(C:Ctx)(w:World):Ctx:={ w0:=w,keep:=fun b=>b<w.heap.size,ok:=fun _=>True,gl:=C.gl,rd:=C.rd,pin:=fun _=>none,df:=C.df }
theorem StW.inl(st:StW C σ a w ρ Fe Fb){env1:List (Nat×D)}(h:BorE C.gl σ env1):StW (C.inl w) ⟨σ.n,env1,[]⟩ a w (fun x=>x) (fun _=>[]) (fun _=>[]):=by
 have hno:∀ b,¬ own (fun _=>[]) (fun _=>[]) b:=by
  rintro b (⟨t,ht⟩|⟨id,hid⟩)
  ·cases ht
  ·cases hid
 refine⟨st.size,st.defs,fun id b hp=>(by cases hp),fun t d hd=>?_,fun t _=>rfl,fun id d hd=>(by cases hd),fun id _=>rfl,fun _=>List.nodup_nil,fun _=>List.nodup_nil,fun _ _ _ b hb=>(by cases hb),fun _ _ b hb=>(by cases hb),fun _ _ _ b hb=>(by cases hb),fun b hb=>absurd hb (hno b),fun b hb=>⟨rfl,hb⟩,rfl,⟨rfl,Nat.le_refl _⟩,rfl,Nat.le_refl _,fun g d hg=>?_,fun _ _=>trivial,fun _ _=>trivial⟩
 ·obtain⟨hb,hr⟩:=h.get hd;obtain⟨v,hv⟩:=hb.there st;have:=hb.ok st;rw[w3 hv] at this;exact(j2 hr).2 ⟨v,hv,this.mono (fun _ _ _=>rfl) (fun b _ _=>⟨trivial,hno b⟩) (fun id hid=>hid.elim)⟩
 ·obtain⟨_,cs,e,fz,h1,h2⟩:=GU st g d hg;exact⟨(Array.getElem?_eq_some_iff.1 h1).1,trivial,cs,e,fz,h1,h2⟩
theorem StW.back{W:List Nat}{env2:List (Nat×D)}{a':Act}{ρ1:Nat->Nat}{Fe1 Fb1:Nat->List Nat}(st:StW C σ a w ρ Fe Fb)(st1:StW (C.inl w) σ1 a' w' ρ1 Fe1 Fb1)(hn:σ1.n=σ.n)
 (hfr:∀ t,W.contains t=false->a'.tmps[t]? = a.tmps[t]?) (h:Back σ σ1 W env2) :
 StW C ⟨σ.n,env2,σ.bx⟩ a' w' ρ (fun t=>match lk env2 t with|none=>[]|some _=>bif W.contains t then Fe1 t else Fe t) Fb:=by
 let F2:Nat->List Nat:=fun t=>match lk env2 t with|none=>[]|some _=>bif W.contains t then Fe1 t else Fe t
 have hlt:=st.lt;have hblk:∀ b,b<w.heap.size->w'.heap[b]? = w.heap[b]?:=fun b hb=>(st1.kept b hb).1;have hnew1:∀ b,own Fe1 Fb1 b->w.heap.size<=b:=fun b hb=>Nat.le_of_not_lt (st1.new b hb)
 have hF2:∀ t b,b∈F2 t->(W.contains t=true/\b∈Fe1 t/\w.heap.size<=b)∨(W.contains t=false/\b∈Fe t/\b<w.heap.size):=by
  intro t b hb;simp only[F2] at hb;split at hb
  ·cases hb
  ·cases hW:W.contains t with
   | true=>rw[hW] at hb;exact .inl ⟨rfl,hb,hnew1 b (.inl ⟨t,hb⟩)⟩
   | false=>rw[hW] at hb;exact .inr ⟨rfl,hb,hlt b (.inl ⟨t,hb⟩)⟩
 have hown:∀ b,own F2 Fb b->own Fe Fb b∨w.heap.size<=b:=by
  rintro b (⟨t,ht⟩|hid)
  ·rcases hF2 t b ht with ⟨_,_,h3⟩|⟨_,h2,_⟩
   ·exact .inr h3
   ·exact .inl (.inl ⟨t,h2⟩)
  ·exact .inl (.inr hid)
 have hgd:∀ b,gd C Fe Fb b->b<w.heap.size->gd C F2 Fb b:=fun b hb hl=>⟨hb.1,fun ho=>by
  rcases hown b ho with h1|h1
  ·exact hb.2 h1
  ·omega⟩
 have hsz:w.heap.size<=w'.heap.size:=st1.grown;refine { size:=st1.size.trans hn,defs:=st1.defs,pin:=st.pin,env:=fun t d hd=>?_,envN:=fun t ht=>?_,bx:=fun id d hd=>?_,bxN:=st.bxN,nodE:=fun t=>?_,nodB:=st.nodB,dEE:=fun t t' htt b hb hb'=>?_,dEB:=fun t id b hb hb'=>?_,dBB:=st.dBB,new:=fun b hb hk=>?_,kept:=fun b hk=>?_,os:=st1.os.trans st.os,tape:=st1.tape.trans st.tape,output:=st1.output.trans st.output,grown:=Nat.le_trans st.grown hsz,gl:=st.gl,okN:=fun b hb=>st.okN b (Nat.le_trans hsz hb),okO:=fun b hb=>?_ }
 ·have hd':lk env2 t=some d:=hd;show SR w' ρ (gd C F2 Fb) _ a' t d (F2 t)
  rcases h.get hd' with ⟨hW,h1,h2,h3,h4⟩|⟨hW,h1,h2⟩
  ·have e2:F2 t=Fe1 t:=by simp only[F2,hd',hW,cond_true]
   rw[e2];obtain⟨v,hv,hr⟩:=(j2 h2).1 (st1.env t d h1);exact(j2 h2).2 ⟨v,hv,(hr.frs h4).noL h3⟩
  ·have e2:F2 t=Fe t:=by simp only[F2,hd',hW,cond_false]
   rw[e2]
   rcases MO h2 with h9|⟨s,rfl,h9⟩
   ·obtain⟨v,hv,hr⟩:=(j2 h9).1 (st.env t d h1);exact(j2 h9).2 ⟨v,by rw[hfr t hW];exact hv,hr.mono (fun b _ hb=>hblk b hb) hgd (fun id hid=>⟨hid,rfl⟩)⟩
   ·obtain⟨h3,v,h4,h5⟩:=st.env t _ h1;exact⟨h3,v,by rw[hfr t hW];exact h4,by rw[hfr s h9];exact h5⟩
 ·have ht':lk env2 t=none:=ht;show F2 t=[];simp only[F2,ht']
 ·exact(st.bx id d hd).mono (fun b _ hb=>hblk b hb) hgd (fun id hid=>⟨hid,rfl⟩)
 ·show(F2 t).Nodup;simp only[F2];split
  ·exact List.nodup_nil
  ·cases W.contains t with
   | true=>exact st1.nodE t
   | false=>exact st.nodE t
 ·rcases hF2 t b hb with ⟨_,h2,h3⟩|⟨_,h2,h3⟩<;>rcases hF2 t' b hb' with ⟨_,h5,h6⟩|⟨_,h5,h6⟩
  ·exact st1.dEE t t' htt b h2 h5
  ·omega
  ·omega
  ·exact st.dEE t t' htt b h2 h5
 ·rcases hF2 t b hb with ⟨_,h2,h3⟩|⟨_,h2,h3⟩
  ·have:=hlt b (.inr ⟨id,hb'⟩);omega
  ·exact st.dEB t id b h2 hb'
 ·rcases hown b hb with h1|h1
  ·exact st.new b h1 hk
  ·have:=(st.kept b hk).2;have:=st.grown;omega
 ·have h1:=st.kept b hk;exact⟨(hblk b (Nat.lt_of_lt_of_le h1.2 st.grown)).trans h1.1,h1.2⟩
 ·rcases hown b hb with h1|h1
  ·exact st.okO b h1
  ·exact st.okN b h1
theorem R.extO{s t k:Nat}{ds ds':List D}{d:D}{rt:TypeId}
 (h:σ.get s=some (.tup ds)) (hk:ds[k]? = some d) (hr:d.isRef=false) (hds:ds.set k .dead=ds') (hp:ds'.all (fun x=>x.pur||x.isRef)=true) (hst:Nat.beq t s=false) (ht:t<σ.n) :
 OpS P C ⟨some t,.extract (.tmp s) k,rt,pos,aft,g⟩ σ (((Z6 σ [s]).set t d).upd s (.tup ds')):=by
 subst hds
 have hne:t≠s:=fun e=>by rw[e] at hst;simp at hst
 refine OpS.value fun a w ⟨ρ,Fe,Fb,st⟩=>?_;obtain⟨vs,Fs,h1,h2,h3,h4⟩:=st.env s _ h;obtain⟨hkl,hkd⟩:=List.getElem?_eq_some_iff.1 hk
 have hv:vs[k]? = some (vs.getD k undef):=by
  have:k<vs.length:=by omega
  rw[List.getD_eq_getElem?_getD,List.getElem?_eq_getElem this];rfl
 rcases h4 k hkl with ⟨h5,_⟩|⟨h5,h6⟩
 ·rw[hkd] at h5;rw[h5] at hr;cases hr
 ·rw[hkd] at h6
  have hsub:∀ b∈Fs k,b∈Fe s:=fun b hb=>by rw[h3];exact List.mem_flatMap.2 ⟨k,List.mem_range.2 hkl,hb⟩
  have hnd:(Fs k).Nodup:=by
   have:=st.nodE s;rw[h3] at this;exact(Y9 this).1 k hkl
  have hgd:∀ b,gd C Fe Fb b->gd C (upd (fun u=>if u∈[s] then[] else Fe u) t (Fs k)) Fb b:=fun b hb=>⟨hb.1,fun hc=>hb.2 (by
   rcases hc with ⟨u,hu⟩|hid
   ·by_cases hut:u=t
    ·subst hut;rw[j3] at hu;exact .inl ⟨s,hsub b hu⟩
    ·rw[q8 hut] at hu;by_cases hus:u∈[s]
     ·simp only[hus,if_true] at hu;cases hu
     ·simp only[hus,if_false] at hu;exact .inl ⟨u,hu⟩
   ·exact .inr hid)⟩
  have hput:(a.put (some t) (vs.getD k undef)).tmps[t]? = some (vs.getD k undef):=by rw[v7 a t _ t (by rw[st.size];exact ht)];simp
  have st2:=st.takeL (S:=[s]) (t:=t) (d:=d) (v:=vs.getD k undef) (F:=Fs k) ht (by simpa using hne) (fun u hu=>by rw[List.mem_singleton.1 hu];exact⟨_,h⟩) hnd (fun b hb=>⟨s,by simp,hsub b hb⟩)
   ((j2 hr).2 ⟨_,hput,h6.mono (fun _ _ _=>rfl) (fun b hb _=>hgd b hb) (fun id hid=>⟨hid,rfl⟩)⟩)
  have hgs:((Z6 σ [s]).set t d).get s=some .dead:=by
   rw[m7,if_neg (fun e=>hne e.symm),C4];simp[scrub]
  have hFs0:upd (fun u=>if u∈[s] then[] else Fe u) t (Fs k) s=[]:=by rw[q8 (fun e=>hne e.symm)];simp
  have st3:=st2.turn (s:=s) (d':=.tup (ds.set k .dead)) (F:=[]) hgs rfl ⟨rfl,Nat.le_refl _⟩ rfl (Nat.le_refl _) (fun _ _ _=>rfl) List.nodup_nil (by simp) (by
   refine⟨vs,fun _=>[],by rw[v7 a t _ s (by rw[st.size];exact ht)];simp[show ¬ s=t from fun e=>hne e.symm,h1],by rw[h2];simp,(CK _).symm,fun j hj=>?_⟩
   have hj0:j<ds.length:=by simpa using hj
   by_cases hjk:k=j
   ·subst hjk;left;exact⟨by simp,rfl⟩
   ·have e1:(ds.set k .dead)[j]=ds[j]:=by rw[List.getElem_set];simp[hjk]
    have e2:=List.all_eq_true.1 hp _ (List.getElem_mem hj);rw[e1] at e2 ⊢
    rcases h4 j hj0 with h7|⟨h7,h8⟩
    ·exact .inl ⟨h7.1,rfl⟩
    ·right
     have hpj:ds[j].pur=true:=by simpa [h7] using e2
     have hF:=h8.pur hpj;rw[hF] at h8;refine⟨h7,h8.mono (fun _ _ _=>rfl) (fun b hb _=>⟨hb.1,fun hc=>(hgd b hb).2 ?_⟩) (fun id hid=>⟨?_,rfl⟩)⟩
     ·rcases hc with ⟨u,hu⟩|hid
      ·by_cases hus:u=s
       ·subst hus;rw[j3] at hu;cases hu
       ·rw[q8 hus] at hu;exact .inl ⟨u,hu⟩
      ·exact .inr hid
     ·have:((Z6 σ [s]).set t d).box id=σ.box id:=by
       show lk (Z6 σ [s]).bx id=_;rw[(XO [s] σ).2];rfl
      rw[this];exact hid)
  refine⟨vs.getD k undef,w, ?_,ρ,_,Fb,st3⟩;clear st3 st2 hput h6;generalize vs.getD k undef=x at hv
  have hx:vs.toArray[k]? = some x:=by rw[List.getElem?_toArray];exact hv
  unfold execOp;simp only[Instr.extract,w3 h1,hx,Sem.run_bind,Sem.run_pure,Result.andThen_ok]
theorem R.movTO{s t:Nat}{ds:List D}{rt:TypeId}(h:σ.get s=some (.tup ds))(hst:Nat.beq t s=false)(ht:t<σ.n) :
 OpS P C ⟨some t,.move (.tmp s),rt,pos,aft,g⟩ σ ((Z6 σ [s]).set t (.tup ds)):=by
 have hne:t≠s:=fun e=>by rw[e] at hst;simp at hst
 refine OpS.value fun a w ⟨ρ,Fe,Fb,st⟩=>?_;obtain⟨vs,Fs,h1,h2,h3,h4⟩:=st.env s _ h
 have hgd:∀ b,gd C Fe Fb b->gd C (upd (fun u=>if u∈[s] then[] else Fe u) t (Fe s)) Fb b:=fun b hb=>⟨hb.1,fun hc=>hb.2 (by
  rcases hc with ⟨u,hu⟩|hid
  ·by_cases hut:u=t
   ·subst hut;rw[j3] at hu;exact .inl ⟨s,hu⟩
   ·rw[q8 hut] at hu;by_cases hus:u∈[s]
    ·simp only[hus,if_true] at hu;cases hu
    ·simp only[hus,if_false] at hu;exact .inl ⟨u,hu⟩
  ·exact .inr hid)⟩
 have hput:(a.put (some t) (.tuple vs.toArray)).tmps[t]? = some (.tuple vs.toArray):=by rw[v7 a t _ t (by rw[st.size];exact ht)];simp
 refine⟨.tuple vs.toArray,w, ?_,ρ,_,Fb,st.takeL (S:=[s]) (t:=t) (F:=Fe s) ht (by simpa using hne) (fun u hu=>by rw[List.mem_singleton.1 hu];exact⟨_,h⟩) (st.nodE s) (fun b hb=>⟨s,by simp,hb⟩)
  ⟨vs,Fs,hput,h2,h3,fun k hk=>(h4 k hk).imp id fun hx=>⟨hx.1,hx.2.mono (fun _ _ _=>rfl) (fun b hb _=>hgd b hb) (fun id hid=>⟨hid,rfl⟩)⟩⟩⟩
 unfold execOp;simp[w3 h1]
theorem TL.wpListO{l:List Oper}(h:TL P C Q l σ)(ops:Array Oper):WL P C ops l Q σ:=by
 induction l generalizing σ with
 | nil=>
  obtain⟨live,env',bx',n',p1,p2,p4,p3⟩:=h
  exact fun a w hs=>⟨_,hs.picks p1 p2 p4,p3⟩
 | cons o l ih=>
  obtain⟨h1,σ',h2,h3⟩:=h;exact WL.cons h1 h2 (ih h3)
def WIn(P:Program)(C:Ctx)(c:Code)(Q:Exit->Sg->Prop)(σ σ1:Sg)(W0:List Nat):Prop:=
 ∀ (a0:Act) (w0:World) (ρ:Nat->Nat) (Fe Fb:Nat->List Nat),StW C σ a0 w0 ρ Fe Fb->∀ (a:Act) (w:World),St (C.inl w0) σ1 a w->(∀ t,W0.contains t=false->a.tmps[t]? = a0.tmps[t]?) ->
  c.wpIn (Fx C) 3 P (fun e a' w'=>∃ σ',St C σ' a' w'/\Q e σ') a w
theorem W.inl{c:Code}(env1:List (Nat×D))(hb:BorE C.gl σ env1)(h:WIn P C c Q σ ⟨σ.n,env1,[]⟩ []):W P C c Q σ:=by
 intro a w ⟨ρ,Fe,Fb,st⟩;exact h a w ρ Fe Fb st a w ⟨_,_,_,st.inl hb⟩ (fun _ _=>rfl)
theorem WIn.seq{x y:Code}{W0:List Nat}(h:WIn P C x (fun e s=>match e with | .normal=>W P C y Q s|e=>Q e s) σ σ1 W0):WIn P C (.seq x y) Q σ σ1 W0:=by
 intro a0 w0 ρ Fe Fb st a w hs hf;refine wpIn_seq ?_;refine Go.Code.wpIn_mono ?_ (h a0 w0 ρ Fe Fb st a w hs hf);intro e a' w' ⟨s,hs',hq⟩
 cases e<;>first|exact hq a' w' hs'|exact⟨s,hs',hq⟩
theorem WIn.region{id:Nat}{W0:List Nat}(k:Nat)(env2:List (Nat×D)){l:List Oper}
 (h1:∀ C':Ctx,C'.gl=C.gl->C'.rd=C.rd->C'.df=C.df->(∀ id b,C'.pin id=some b->o3 [] id=true)->TL P C' (fun e s=>e=.normal/\s.n=σ.n/\Back σ s (W0++dsts (l.take k)) env2) (l.take k) σ1)
 (h2:TL P C Q (l.drop k) ⟨σ.n,env2,σ.bx⟩):WIn P C (.region id l.toArray false) Q σ σ1 W0:=by
 intro a0 w0 ρ Fe Fb st a w hs hf;refine wpIn_region_lit ?_;generalize hl1:l.take k=l1 at h1;generalize hl2:l.drop k=l2 at h2
 have hl:l=l1++l2:=by rw[<- hl1,<- hl2,List.take_append_drop]
 clear hl1 hl2;subst hl;have hw1:=(h1 (C.inl w0) rfl rfl rfl (fun id b hp=>by cases hp)).wpList (ops:=l1++l2) a w hs;refine S5 l1 a w (F:=Fx C) hw1 ?_ ?_
 ·rintro e a' w' he ⟨s,_,rfl,_⟩;exact absurd rfl he
 ·rintro a' w' ⟨s,⟨ρ1,Fe1,Fb1,st1⟩,_,hn,hB⟩ hfr;refine(h2.wpList (ops:=l1++l2)) a' w' ⟨ρ,_,Fb,st.back st1 hn (fun t ht=>?_) hB⟩
  have h3:W0.contains t=false/\(dsts l1).contains t=false:=by simpa [List.contains_append] using ht
  rw[hfr t (fun hm=>by rw[List.contains_iff_mem.2 hm] at h3;cases h3.2),hf t h3.1]
theorem WL.inlT{l:List Oper}(k:Nat)(env1 env2:List (Nat×D))(hb:BorE C.gl σ env1)
 (h1:∀ C':Ctx,C'.gl=C.gl->C'.rd=C.rd->C'.df=C.df->(∀ id b,C'.pin id=some b->o3 [] id=true)->TL P C' (fun e s=>e=.normal/\s.n=σ.n/\Back σ s (dsts (l.take k)) env2) (l.take k) ⟨σ.n,env1,[]⟩)
 (h2:TL P C Q (l.drop k) ⟨σ.n,env2,σ.bx⟩):WL P C ops l Q σ:=by
 generalize hl1:l.take k=l1 at h1;generalize hl2:l.drop k=l2 at h2
 have hl:l=l1++l2:=by rw[<- hl1,<- hl2,List.take_append_drop]
 clear hl1 hl2;subst hl;intro a w ⟨ρ,Fe,Fb,st⟩;have hw1:=(h1 (C.inl w) rfl rfl rfl (fun id b hp=>by cases hp)).wpListO ops a w ⟨_,_,_,st.inl hb⟩;refine S5 l1 a w (F:=Fx C) hw1 ?_ ?_
 ·rintro e a' w' he ⟨s,_,rfl,_⟩;exact absurd rfl he
 ·rintro a' w' ⟨s,⟨ρ1,Fe1,Fb1,st1⟩,_,hn,hB⟩ hfr;exact(h2.wpListO ops) a' w' ⟨ρ,_,Fb,st.back st1 hn (fun t ht=>hfr t (by intro hm;rw[List.contains_iff_mem.2 hm] at ht;cases ht)) hB⟩
theorem HJ{F:Fence}{n:Nat}{md:Region.Mode}{os:List Oper}{Q:Exit->Act->World->Prop}(a0:Act)(hd:∀ o∈os,∀ t,o.dst=some t->t∈dsts os):∀ (fuel:Nat) (listed:Array Bool) (a:Act) (w:World),
 (∀ t,(dsts os).contains t=false->a.tmps[t]? = a0.tmps[t]?)->wpAnyIn F n P md os.toArray Q fuel listed a w ->
 wpAnyIn F n P md os.toArray (fun e a' w'=>Q e a' w'/\(e=.normal->∀ t,(dsts os).contains t=false->a'.tmps[t]? = a0.tmps[t]?)) fuel listed a w:=by
 intro fuel
 induction fuel with
 | zero=>intro listed a w hf h;exact⟨h.1,h.2,fun _=>hf⟩
 | succ fuel ih=>
  intro listed a w hf h;refine⟨fun hr=>⟨h.1 hr,fun _=>hf⟩,fun i hi=>?_⟩;have h1:=h.2 i hi;unfold wpOpIn at h1 ⊢
  cases ho:os.toArray[i]? with
  | none=>rw[ho] at h1;exact ih _ _ _ hf h1
  | some o=>
   rw[ho] at h1;simp only at h1 ⊢;have hmem:o∈os:=List.mem_of_getElem? (by simpa using ho)
   have hput:∀ (b:Act) (v:Value),b.tmps=a.tmps->∀ t,(dsts os).contains t=false->(b.put o.dst v).tmps[t]? = a0.tmps[t]?:=fun b v hb t ht=>by
    rw[DG (fun e=>by rw[List.contains_iff_mem.2 (hd o hmem t e)] at ht;cases ht),hb];exact hf t ht
   have hstep:∀ (b:Act) (w1:World) (v:Value),b.tmps=a.tmps->wpAnyIn F n P md os.toArray Q fuel (listed.setIfInBounds i true) (b.put o.dst v) w1 ->
    wpAnyIn F n P md os.toArray (fun e a' w'=>Q e a' w'/\(e=.normal->∀ t,(dsts os).contains t=false->a'.tmps[t]? = a0.tmps[t]?)) fuel (listed.setIfInBounds i true) (b.put o.dst v) w1:=fun b w1 v hb hx=>ih _ _ _ (hput b v hb) hx
   split
   ·rename_i hw;simp only[hw,if_true] at h1;exact⟨h1.1,S6 hstep (fun e a w he hq=>⟨hq,fun hn=>absurd hn he⟩) h1.2⟩
   ·rename_i hw;simp only[hw,if_false,Bool.false_eq_true] at h1;exact⟨h1.1,hstep a w undef rfl h1.2⟩
theorem dsts_mem{os:List Oper}:∀ o∈os,∀ t,o.dst=some t->t∈dsts os:=by
 induction os with
 | nil=>intro o h;cases h
 | cons x r ih=>
  intro o h t ht
  rcases List.mem_cons.1 h with rfl|h
  ·simp[dsts,ht]
  ·have:=ih o h t ht;unfold dsts;split
   ·exact List.mem_cons_of_mem _ this
   ·exact this
def WA(P:Program)(C:Ctx)(ops:List Oper)(Q:Exit->Sg->Prop)(σ:Sg):Prop:=
 ∀ a w,St C σ a w->wpAnyIn (Fx C) 3 P .any ops.toArray (fun e a' w'=>∃ σ',St C σ' a' w'/\Q e σ') ops.toArray.size (Array.replicate ops.toArray.size false) a { w with drawn:=w.drawn+1 }
theorem WA.draw{ops:List Oper}{an:List Nat}{ks kk:List (Nat×Nat)}{its:List It}{m n':Nat}{bx':List (Nat×Bx)}(hA0:YX ops an m=true)(hlen:its.length=m)(H:ItOk P C σ ops an ks kk its){live:List Nat}{env':List (Nat×D)}(hE:picks (afts an (fun _=>true) ks σ.env its) live=env')
 (hb:σ.bx=bx') (hn:σ.n=n') (hT:TL P C Q (ops.drop its.length) ⟨n',env',bx'⟩):WA P C ops Q σ:=by
 intro a w hs
 have hc:Cl ops (Array.replicate ops.toArray.size false):=⟨by simp,fun i o _ hd=>by
  have:=Q2 hd;simp at this
  simp[this] at hd⟩
 have hA:YX ops an its.length=true:=by rw[hlen];exact hA0
 subst hb;subst hn;refine CX hA H hE hT _ _ a _ σ hc ?_ ?_ (hs.ext (Ext.drew w)) ⟨rfl,rfl,fun u x hx=>?_⟩
 ·simp
 ·intro j _ hj;simp[hj]
 ·unfold afts at hx;generalize hb:bads _ ks u=bb at hx
  cases bb with
  | true=>cases hx
  | false=>
   simp only[cond_false] at hx
   rcases n4 its u with hu|⟨k,dk,wk,hk⟩
   ·rw[n5 hu] at hx;exact hx
   ·rw[Q4 (Y6 H.ts).1 hk] at hx
    have e:(Array.replicate ops.toArray.size false).getD (0+k) false=false:=by
     simp only[Array.getD_eq_getD_getElem?,Array.getElem?_replicate]
     split<;>rfl
    rw[e] at hx;exact hx
theorem CN{F:Fence}{n:Nat}{md:Region.Mode}{ops:Array Oper}{Q Q':Exit->Act->World->Prop}(hq:∀ e a w,Q e a w->Q' e a w):∀ (fuel:Nat) (listed:Array Bool) (a:Act) (w:World),wpAnyIn F n P md ops Q fuel listed a w->wpAnyIn F n P md ops Q' fuel listed a w:=by
 intro fuel
 induction fuel with
 | zero=>intro listed a w h;exact⟨h.1,hq _ _ _ h.2⟩
 | succ fuel ih=>
  intro listed a w h;refine⟨fun hr=>hq _ _ _ (h.1 hr),fun i hi=>?_⟩;have h1:=h.2 i hi;unfold wpOpIn at h1 ⊢
  cases ho:ops[i]? with
  | none=>rw[ho] at h1;exact ih _ _ _ h1
  | some o=>
   rw[ho] at h1;simp only at h1 ⊢;split
   ·rename_i hw;simp only[hw,if_true] at h1;exact⟨h1.1,S6 (fun b w v _ hx=>ih _ _ _ hx) (fun e a w _ hx=>hq e a w hx) h1.2⟩
   ·rename_i hw;simp only[hw,if_false,Bool.false_eq_true] at h1;exact⟨h1.1,ih _ _ _ h1.2⟩
theorem WIn.seqA{id:Nat}{ops:List Oper}{y:Code}{W0:List Nat}{σ2:Sg}(hm:P.follows .mixedOrders=true)
 (h1:∀ C':Ctx,C'.gl=C.gl->C'.rd=C.rd->C'.df=C.df->(∀ id b,C'.pin id=some b->o3 [] id=true)->WA P C' ops (fun e s=>e=.normal/\s=σ2) σ1)
 (h2:WIn P C y Q σ σ2 (W0++dsts ops)):WIn P C (.seq (.region id ops.toArray true) y) Q σ σ1 W0:=by
 intro a0 w0 ρ Fe Fb st a w hs hf;refine wpIn_seq ?_;refine wpIn_region_any hm ?_;have h3:=HJ (os:=ops) a dsts_mem _ _ a _ (fun _ _=>rfl) (h1 (C.inl w0) rfl rfl rfl (fun id b hp=>by cases hp) a w hs);refine CN ?_ _ _ _ _ h3;rintro e a' w' ⟨⟨s,hs',rfl,rfl⟩,hfr⟩;refine h2 a0 w0 ρ Fe Fb st a' w' hs' (fun t ht=>?_)
 have h4:W0.contains t=false/\(dsts ops).contains t=false:=by simpa [List.contains_append] using ht
 rw[hfr rfl t h4.2,hf t h4.1]
theorem W.wkS{c:Code}{s:Nat}{d d':D}(h:σ.get s=some d)(hr:d.isRef=false)(hr':d'.isRef=false)(hw:Wk d d')(k:W P C c Q (σ.upd s d')):W P C c Q σ:=by
 intro a w ⟨ρ,Fe,Fb,st⟩;obtain⟨v,hv,hvr⟩:=(j2 hr).1 (st.env _ _ h)
 have hgd:∀ b,gd C Fe Fb b->gd C (Go.Sx.upd Fe s (Fe s)) Fb b:=fun b hb=>⟨hb.1,fun hc=>hb.2 (hc.imp (fun⟨u,hu⟩=>⟨u,by
  by_cases hus:u=s
  ·subst hus;rwa [j3] at hu
  ·rwa [q8 hus] at hu⟩) id)⟩
 refine k a w ⟨ρ,_,Fb,st.turn (F:=Fe s) h rfl ⟨rfl,Nat.le_refl _⟩ rfl (Nat.le_refl _) (fun _ _ _=>rfl) (st.nodE s) (fun b hb=>.inl hb) ((j2 hr').2 ⟨v,hv, ?_⟩)⟩;have h2:=hvr.mono (w':=w) (ρ':=ρ) (G':=gd C (Go.Sx.upd Fe s (Fe s)) Fb) (L':=fun id=>(σ.box id).isSome) (fun _ _ _=>rfl) (fun b hb _=>hgd b hb) (fun id hid=>⟨hid,rfl⟩);unfold VR at h2 ⊢;rw[hw.isAgg]
 cases hd:d.isAgg<;>simp only[hd,if_true,if_false,Bool.false_eq_true] at h2 ⊢
 ·exact h2.wk hw
 ·obtain⟨cs,rfl,h2⟩:=h2;exact⟨cs,rfl,h2.wk hw⟩
theorem R.wkT{o:Oper}{τ:Sg}{t:Nat}{r r':D}(h:OpS P C o σ (τ.set t r))(hr:r.isRef=false)(hr':r'.isRef=false)(he:Wk r r'):OpS P C o σ (τ.set t r'):=by
 intro a w hs K Q hK;refine h a w hs K Q fun a' w' hs'=>hK a' w' ?_
 have h1:(τ.set t r).get t=some r:=by rw[m7];simp
 obtain⟨ρ,Fe,Fb,st⟩:=hs';obtain⟨v,hv,hvr⟩:=(j2 hr).1 (st.env _ _ h1)
 have hgd:∀ b,gd C Fe Fb b->gd C (Go.Sx.upd Fe t (Fe t)) Fb b:=fun b hb=>⟨hb.1,fun hc=>hb.2 (hc.imp (fun⟨u,hu⟩=>⟨u,by
  by_cases hus:u=t
  ·subst hus;rwa [j3] at hu
  ·rwa [q8 hus] at hu⟩) id)⟩
 have st2:St C ((τ.set t r).upd t r') a' w':=by
  refine⟨ρ,_,Fb,st.turn (F:=Fe t) h1 rfl ⟨rfl,Nat.le_refl _⟩ rfl (Nat.le_refl _) (fun _ _ _=>rfl) (st.nodE t) (fun b hb=>.inl hb) ((j2 hr').2 ⟨v,hv, ?_⟩)⟩;have h2:=hvr.mono (w':=w') (ρ':=ρ) (G':=gd C (Go.Sx.upd Fe t (Fe t)) Fb) (L':=fun id=>((τ.set t r).box id).isSome) (fun _ _ _=>rfl) (fun b hb _=>hgd b hb) (fun id hid=>⟨hid,rfl⟩);unfold VR at h2 ⊢;rw[he.isAgg]
  cases hd:r.isAgg<;>simp only[hd,if_true,if_false,Bool.false_eq_true] at h2 ⊢
  ·exact h2.wk he
  ·obtain⟨cs,rfl,h2⟩:=h2;exact⟨cs,rfl,h2.wk he⟩
 refine st2.weaken rfl rfl fun u d hd=>?_;rw[M5,m7];rw[m7] at hd;by_cases hu:u=t
 ·subst hu;simpa using hd
 ·simpa [hu] using hd
end Go.Sx

namespace Go.Sx
variable{P:Program}{C:Ctx}{σ σ' σ1:Sg}{a:Act}{w w':World}{ρ:Nat->Nat}{Fe Fe' Fb:Nat->List Nat}
variable{ops:List Oper}{an:List Nat}{ks kk:List (Nat×Nat)}{its:List It}
end Go.Sx

namespace Go.Sx
def JJ(b:List UInt8):D:=.sl (some 5) 1 (b.map D.u8)
def R9(x:InS):D:=.agg [.agg [z5 x.tx,.u32 x.n],JJ x.script,.u32 x.seq,.sl (some 24) 1 (x.wit.map JJ)]
def D8(o:OutS):D:=.agg [.u64 o.value,JJ o.script]
def X3(t:TxS):D:=.agg [.u32 t.ver,.sl (some 67) 36 (t.ins.map R9),.sl (some 64) 2 (t.outs.map D8),.u32 t.lock]
def QK(b:BlkS):D:=.agg [d7 b.hd,.sl (some 54) 4 (b.txs.map X3)]
theorem O2{α:Type}{f g:α->D}(h:∀ x,(f x).brw=g x)(l:List α):(l.map f).map D.brw=l.map g:=by
 rw[List.map_map];exact List.map_congr_left fun x _=>h x
theorem QQ(b:List UInt8):(JJ b).brw=E5 b:=by
 simp only[JJ,E5,D.brw,d5];rw[O2 (g:=D.u8) (fun _=>rfl)]
theorem WX(x:InS):(R9 x).brw=E3 x:=by
 simp only[R9,E3,D.brw,d5,List.map_cons,List.map_nil,X9,QQ];rw[O2 QQ]
theorem IM(x:OutS):(D8 x).brw=J8 x:=by
 simp only[D8,J8,D.brw,d5,List.map_cons,List.map_nil,QQ]
theorem WQ(t:TxS):(X3 t).brw=U7 t:=by
 simp only[X3,U7,D.brw,d5,List.map_cons,List.map_nil];rw[O2 WX,O2 IM]
theorem QZ(b:BlkS):(QK b).brw=v9 b:=by
 simp only[QK,v9,D.brw,d5,List.map_cons,List.map_nil,XT];rw[O2 WQ]
theorem OE{a b c d:D}(h1:Frs a)(h2:Frs b)(h3:Frs c)(h4:Frs d):∀ x∈[a,b,c,d],Frs x:=fun x hx=>by
 simp only[List.mem_cons,List.not_mem_nil,or_false] at hx
 rcases hx with rfl|rfl|rfl|rfl<;>assumption
theorem X7{a b:D}(h1:Frs a)(h2:Frs b):∀ x∈[a,b],Frs x:=fun x hx=>by
 simp only[List.mem_cons,List.not_mem_nil,or_false] at hx
 rcases hx with rfl|rfl<;>assumption
theorem B0(b:List UInt8):Frs (JJ b):=.sl _ _ _ (u2 (fun x=>.u8 x))
theorem VN(x:InS):Frs (R9 x):=.agg _ (OE (.agg _ (X7 (d9 _) (.u32 _))) (B0 _) (.u32 _) (.sl _ _ _ (u2 B0)))
theorem IQ(x:OutS):Frs (D8 x):=.agg _ (X7 (.u64 _) (B0 _))
theorem KS(t:TxS):Frs (X3 t):=.agg _ (OE (.u32 _) (.sl _ _ _ (u2 VN)) (.sl _ _ _ (u2 IQ)) (.u32 _))
theorem IK(b:BlkS):Frs (QK b):=.agg _ (X7 (RN _) (.sl _ _ _ (u2 KS)))
theorem VM(t:TxS)(b:Bool):FrsR (.tup [X3 t,.bool b]):=.inl ⟨_,rfl,X7 (KS t) (.bool b)⟩
theorem ZG(x:BlkS)(b:Bool):FrsR (.tup [QK x,.bool b]):=.inl ⟨_,rfl,X7 (IK x) (.bool b)⟩
end Go.Sx

namespace Go.Sx
theorem wk_in(h:Hs)(n q:UInt32):Wk (.agg [.agg [z5 h,.u32 n],.nils,.u32 q,.nils]) (R9 ⟨h,n,[],q,[]⟩):=
 .aggL (.cons (.refl _) (.cons (.nils _ _) (.cons (.refl _) (.cons (.nils _ _) .nil))))
theorem MJ:Wk (.agg [.u32 0,.nils,.nils,.u32 0]) (X3 HW):=
 .aggL (.cons (.refl _) (.cons (.nils _ _) (.cons (.nils _ _) (.cons (.refl _) .nil))))
theorem wk_tx1(v k:UInt32)(h:Hs)(n q:UInt32):Wk (.agg [.u32 v,.sl (some 67) 36 [.agg [.agg [z5 h,.u32 n],.nils,.u32 q,.nils]],.nils,.u32 k]) (.agg [.u32 v,.sl (some 67) 36 ([(⟨h,n,[],q,[]⟩:InS)].map R9),.sl (some 64) 2 (([]:List OutS).map D8),.u32 k]):=
 .aggL (.cons (.refl _) (.cons (.slL (.cons (wk_in h n q) .nil)) (.cons (.nils _ _) (.cons (.refl _) .nil))))
def spV(s:SpS)(sum:UInt64)(i:Nat):UInt64:=
 let v:=sum/UInt64.ofInt ((s.to.length:Nat):Int)
 if i=0 then v-min v s.part.toUInt64 else v
theorem spV_0{s:SpS}{sum:UInt64}{i:Nat}(h:i=0):spV s sum i=sum/UInt64.ofInt ((s.to.length:Nat):Int)-(if s.part.toUInt64<sum/UInt64.ofInt ((s.to.length:Nat):Int) then s.part.toUInt64 else sum/UInt64.ofInt ((s.to.length:Nat):Int)):=by
 unfold spV;rw[if_pos h]
 congr 1
 show(if _<=_ then _ else _)=_;by_cases hc:s.part.toUInt64<sum/UInt64.ofInt ((s.to.length:Nat):Int)
 ·rw[if_pos hc,if_neg (fun h=>by rw[UInt64.le_iff_toNat_le] at h;rw[UInt64.lt_iff_toNat_lt] at hc;omega)]
 ·rw[if_neg hc,if_pos (by rw[UInt64.le_iff_toNat_le];rw[UInt64.lt_iff_toNat_lt] at hc;omega)]
theorem spV_1{s:SpS}{sum:UInt64}{i:Nat}(h:¬ i=0):spV s sum i=sum/UInt64.ofInt ((s.to.length:Nat):Int):=by
 unfold spV;rw[if_neg h]
theorem ME(s:SpS)(sum:UInt64)(i:Nat):Z0 s sum (i+1)=Z0 s sum i++[⟨spV s sum i,t6 (s.to[i]!%12)⟩]:=by
 unfold Z0;rw[List.range_succ,List.map_append];rfl
theorem ED(s:SpS)(sum:UInt64)(i:Nat):(Z0 s sum i).map D8++[.agg [.u64 (spV s sum i),.sl (some 5) 1 ((t6 (s.to[i]!%12)).map D.u8)]]=(Z0 s sum (i+1)).map D8:=by
 rw[ME,List.map_append];rfl
theorem u64_ne{n:Nat}(h0:¬ n=0)(h:n<=140737488355328):UInt64.ofInt ((n:Nat):Int)≠0:=by
 intro e;have:=congrArg UInt64.toNat e
 have h2:(UInt64.ofInt ((n:Nat):Int)).toNat=n%2^64:=by
  unfold UInt64.ofInt;rw[UInt64.toNat_ofNat'];omega
 rw[h2] at this;have h3:(0:UInt64).toNat=0:=rfl;omega
section
variable{s:SpS}{av:List (Plc×UInt64)}{mark:UInt32}
theorem spIns_y(h:s.two=true)(h2:s.from_.toNat%av.length+1<av.length):B8 s av=[⟨av[s.from_.toNat%av.length]!.1.1,av[s.from_.toNat%av.length]!.1.2,[],s.extra.toUInt32,[]⟩,⟨av[s.from_.toNat%av.length+1]!.1.1,av[s.from_.toNat%av.length+1]!.1.2,[s.extra],0,[[s.part],[]]⟩]:=by
 unfold B8;exact if_pos ⟨h,h2⟩
theorem LD(h:¬ (s.two=true/\s.from_.toNat%av.length+1<av.length)):B8 s av=[⟨av[s.from_.toNat%av.length]!.1.1,av[s.from_.toNat%av.length]!.1.2,[],s.extra.toUInt32,[]⟩]:=by
 unfold B8;exact if_neg h
theorem spSum_y(h:s.two=true)(h2:s.from_.toNat%av.length+1<av.length):G4 s av=av[s.from_.toNat%av.length]!.2+av[s.from_.toNat%av.length+1]!.2:=by
 unfold G4;exact if_pos ⟨h,h2⟩
theorem LH(h:¬ (s.two=true/\s.from_.toNat%av.length+1<av.length)):G4 s av=av[s.from_.toNat%av.length]!.2:=by
 unfold G4;exact if_neg h
theorem spS_1(h:av.length=0):HY s av mark=(HW,false):=by
 unfold HY UF;rw[decide_eq_true h];rfl
theorem spS_2(h:s.to.length=0):HY s av mark=(HW,false):=by
 unfold HY UF;rw[decide_eq_true h,Bool.or_true];rfl
theorem spS_3(h:¬ av.length=0)(h2:¬ s.to.length=0):HY s av mark=(spT s av mark,true):=by
 unfold HY UF;rw[decide_eq_false h,decide_eq_false h2];rfl
end
end Go.Sx
