/- Proved: what functions of the given program compute (used by the theorem of this claim). Conditions: none but those that each theorem states. -/
import Derived.Test.YtgilikgghknbhaaDoorMSxTake
import Derived.Test.YtgilikgghknbhaaDoorMLd47
import Derived.Test.YtgilikgghknbhaaDoorMSxApp2
import Derived.OpenShut
import Derived.Carry
import Derived.Deep.Slices
import Derived.Deep.DeepHandedRow
import Derived.Lib.LaidTab
set_option linter.unusedVariables false
set_option linter.unusedSimpArgs false
set_option linter.unnecessarySimpa false

namespace Go.Sx
open Go.Proofs
set_option maxHeartbeats 2000000 in
theorem TW(ps:List PlS)(hps:CM ps)(key:UInt8)(mark:UInt32):Fn Tryd.prog gl 5 [.sl none 3 (ps.map QU),.u8 key,.u32 mark] (.bool true):=by
 refine Fn.of (n:=199) Tryd.func5 rfl rfl rfl (nU rfl) fun C hC hD=>?_;refine z6 1 (y1 6) (V3 0 1 2) ⟨aU<|zK (kB false O) O O,Zt⟩ O O O O ?_;refine W.seq (z6 3 (y3 24 25 26) (V4 0 1 2 26) ⟨mU 0 O O,aU<|zN O (lN _) O,aU<|HQ 8 O O O,Zt⟩ O O O O ?_);refine z9 O (fun hc26=>?_) (fun hc26=>?_)
 ·refine z6 2 (y2 27 6) (V1 6) ⟨aU fun _ _ H _=>j5 hC (L3) Bn (F1 (.bool _)) H,aU<|zA O O O,Zt⟩ O O O O ?_;refine W.ret ?_;exact Ends.one' (.inr O) O (O) O O Zt
 ·refine W.skip (z7 3 (y1 28) [] [] (V4 0 1 2 28) ⟨aU fun _ _ H _=>I6 hC (RL) (EvP.cons (kI 10 O) O O (EvP.cons (kW (.int .u32 10) (.u32 10) O) O O EvP.nil)) H,Zt⟩ O O (o0 O O (m1 O O O O O (tV (V4 0 1 2 7) (b1 7) 199 O O O ?_))));refine z6 4 (y4 29 30 31 8) (V4 1 2 7 8) ⟨aU (lU 7 O O O O O O O),mU 0 O O,aU fun _ _ H K=>I6 hC (AY ps hps) (EvP.cons (eU K 29 O) O O (EvP.cons (eU K 30 O) O O EvP.nil)) H,aU<|zA O O O,Zt⟩ O O O O ?_;refine W.seq (W.seq ?_);have hbs:=(ZA ps).1;have hb1:=(ZA ps).2.1;have hb2:=(ZA ps).2.2;have hmd:=WY ps hps;have hqa:=UL hmd (by omega) 11 mark;have hpa:=UL hmd (by omega) (key%8) mark;have hQ:=hqa.1;have hPa:=hpa.1;refine j1 3 (y3 32 33 34) (V5 1 2 7 8 34) ⟨mU 8 O O,aU<|zC hC (few15_ok (d8 ps) hbs.fewH) O O O (F1 (.bool _)) O,aU<|JY O O O,Zt⟩ O O O O ?_;refine W.cond O (fun hc34=>?_) (fun hc34=>?_)
  ·refine z6 2 (y2 35 6) (V1 6) ⟨aU fun _ _ H _=>j5 hC (L3) Bn (F1 (.bool _)) H,aU<|zA O O O,Zt⟩ O O O O ?_;refine W.ret ?_;exact Ends.one' (.inr O) O (O) O O Zt
  ·refine W.skip (z6 3 (y3 36 37 9) (V4 2 7 8 9) ⟨mU 1 O O,aU fun _ _ H K=>R.bin (eU K 36 O) (kW (.int .u8 8) (.u8 8) O) O dU H,aU<|zA O O O,Zt⟩ O O O O ?_);refine z7 4 (y2 38 39) [] [] (V5 2 7 8 9 39) ⟨mU 9 O O,aU<|zC hC (QD (key%8)) O O O (F1 (v8 _)) O,Zt⟩ O O (o0 O O (m1 O O O O O (tV (V5 2 7 8 9 10) (b2 10 7) 199 O O O ?_)));refine z7 11 (y8 41 42 43 44 45 40 46 47) [] [] (V7 2 7 8 9 10 46 47) ⟨aU (lU 7 O O O O O O O),mU 8 O O,aU fun _ _ H _=>PT (r':=QU (u5 11)) (R.wkT (r':=QU (u5 11)) (p6 (l:=[.u8 0,.nils,.u8 0]) (l':=[_,_,_]) (.cons (kW (.int .u8 11) (.u8 11) O) (.nil O)) ⟨⟨_,(kW (.int .u8 11) (.u8 11) O),O,O,O⟩,Zt⟩ H) O O (MX _)) O (IP _),mU 2 O O,aU fun _ _ H K=>R.callZ (r':=.tup [v9 (j8 (d8 ps) (u5 11) mark).1,.bool (j8 (d8 ps) (u5 11) mark).2]) (s6 (d8 ps) (u5 11) mark hbs bO bO (NE _)) hC (Bc (Bp (eU K 41 O) O O) (Bc (Bp (eU K 42 O) O O) (Bc (Bp (eU K 43 O) O O) (Bc (Bp (eU K 44 O) O O) Bn)))) (ZG _ _) (ZM _ _) H,aU<|zY O O O,aU<|zX O O O O,aU<|zX O O O O,Zt⟩ O O (o0 O O (m1 O O O O O (E9 O O O (tV (V7 2 7 8 9 10 11 12) (b3 11 10 7) 199 O O O ?_))));refine z7 12 (y9 49 50 51 52 53 54 48 55 56) [] [] (V6 8 10 11 12 55 56) ⟨aU (lU 7 O O O O O O O),mU 8 O O,mU 9 O O,aU fun _ _ H K=>PT (r':=QU (u5 (key%8))) (R.wkT (r':=QU (u5 (key%8))) (p6 (l:=[.u8 0,.nils,.u8 0]) (l':=[_,_,_]) (.cons (eU K 51 O) (.nil O)) ⟨⟨_,(eU K 51 O),O,O,O⟩,Zt⟩ H) O O (MX _)) O (IP _),mU 2 O O,aU fun _ _ H K=>R.callZ (r':=.tup [v9 (j8 (d8 ps) (u5 (key%8)) mark).1,.bool (j8 (d8 ps) (u5 (key%8)) mark).2]) (s6 (d8 ps) (u5 (key%8)) mark hbs bO bO (NE _)) hC (Bc (Bp (eU K 49 O) O O) (Bc (Bp (eU K 50 O) O O) (Bc (Bp (eU K 52 O) O O) (Bc (Bp (eU K 53 O) O O) Bn)))) (ZG _ _) (ZM _ _) H,aU<|zY O O O,aU<|zX O O O O,aU<|zX O O O O,Zt⟩ O O (o0 O O (m1 O O O O O (E9 O O O (tV (V6 8 10 11 12 13 14) (b4 13 11 10 7) 199 O O O ?_))));refine W.seq (W.seq ?_);by_cases ha:(j8 (d8 ps) (u5 11) mark).2=true
   ·refine j1 6 (y6 57 58 59 60 61 62) (V5 8 10 11 13 62) ⟨mU 12 O O,aU<|JY O O O,mU 58 O O,aW O O (gF (by rw[ha];rfl) O)<|zV O O O,aW O O (gF (by rw[ha];rfl) O)<|JY O O O,aU<|zF O (by rw[ha];rfl) O O O,Zt⟩ O O O O ?_;refine W.cond O (fun hc62=>?_) (fun hc62=>?_)
    ·refine z6 2 (y2 63 6) (V1 6) ⟨aU fun _ _ H _=>j5 hC (L3) Bn (F1 (.bool _)) H,aU<|zA O O O,Zt⟩ O O O O ?_;refine W.ret ?_;exact Ends.one' (.inr O) O (O) O O Zt
    ·refine W.skip (W.seq ?_);refine w7 (m:=7) (an:=[0,0,3,0,8,31,63]) hP dU O (its:=[.y 64 _,.y 65 _,.y 66 _,.y 67 _,.y 68 _,.y 69 _,.y 15 _]) (ks:=[(2,64),(5,66),(6,69)]) (kk:=[(2,64),(5,66),(6,69)]) (live:=[8,10,13,15]) (env':=(V4 8 10 13 15)) (⟨nU O,O,⟨aU fun _ _ H _=>w9 .nil Zt O H dU,mU 8 O O,aU fun _ _ H K=>Q6 (Or.inl O) (K 64 _ O) (SrcO.sc (SC.sl (K 65 _ O)) (p8 (fun _=>rfl))) (show _=((d8 ps).map v9) from(List.nil_append _)) bU H dU dU,aU (lU 11 O O O O O O O),aU fun _ _ H K=>w9 (z:=69) (.cons (eU K 67 O) .nil) ⟨⟨O,O,O⟩,Zt⟩ O H dU,aU fun _ _ H K=>Q6 (Or.inl O) (K 66 _ O) (SrcO.sc (SC.sl (K 68 _ O)) (g6 O)) (show _=(((d8 ps)++[(j8 (d8 ps) (u5 11) mark).1]).map v9) from(SD)) bU H dU dU,aU<|zO O O O,Zt⟩,O,O,O⟩) O (bx':=(b4 13 11 10 7)) O (n':=199) O (tV (V4 8 10 13 15) (b4 13 11 10 7) 199 O O O ?_);refine W.seq ?_;refine w7 (m:=7) (an:=[0,0,3,0,8,31,63]) hP dU O (its:=[.y 70 _,.y 71 _,.y 72 _,.y 73 _,.y 74 _,.y 75 _,.y 16 _]) (ks:=[(2,70),(5,72),(6,75)]) (kk:=[(2,70),(5,72),(6,75)]) (live:=[8,10,15,16]) (env':=(V4 8 10 15 16)) (⟨nU O,O,⟨aU fun _ _ H _=>w9 .nil Zt O H dU,mU 8 O O,aU fun _ _ H K=>Q6 (Or.inl O) (K 70 _ O) (SrcO.sc (SC.sl (K 71 _ O)) (p8 (fun _=>rfl))) (show _=((d8 ps).map v9) from(List.nil_append _)) bU H dU dU,aU (lU 13 O O O O O O O),aU fun _ _ H K=>w9 (z:=69) (.cons (eU K 73 O) .nil) ⟨⟨O,O,O⟩,Zt⟩ O H dU,aU fun _ _ H K=>Q6 (Or.inl O) (K 72 _ O) (SrcO.sc (SC.sl (K 74 _ O)) (g6 O)) (show _=(((d8 ps)++[(j8 (d8 ps) (u5 (key%8)) mark).1]).map v9) from(SD)) bU H dU dU,aU<|zO O O O,Zt⟩,O,O,O⟩) O (bx':=(b4 13 11 10 7)) O (n':=199) O (tV (V4 8 10 15 16) (b4 13 11 10 7) 199 O O O ?_);refine z6 7 (y7 77 78 76 79 80 17 18) (V5 8 10 15 16 18) ⟨aU<|zM O O,aU fun _ _ H K=>j5 hC (s5 ((d8 ps)++[(j8 (d8 ps) (u5 11) mark).1]) hQ) (Bc (Bor.sc (SC.al (K 77 _ O) (K 15 _ O)) (j9 n3)) Bn) (FrsR.two (.int _) (.int _)) H,aU<|zY O O O,aU<|zX O O O O,aU<|zX O O O O,aU<|zA O O O,aU<|zA O O O,Zt⟩ O O O O ?_;refine z6 7 (y7 82 83 81 84 85 19 20) (V6 8 10 15 16 18 20) ⟨aU<|zM O O,aU fun _ _ H K=>j5 hC (s5 ((d8 ps)++[(j8 (d8 ps) (u5 (key%8)) mark).1]) hPa) (Bc (Bor.sc (SC.al (K 82 _ O) (K 16 _ O)) (j9 n3)) Bn) (FrsR.two (.int _) (.int _)) H,aU<|zY O O O,aU<|zX O O O O,aU<|zX O O O O,aU<|zA O O O,aU<|zA O O O,Zt⟩ O O O O ?_;refine W.seq (W.seq ?_);by_cases he:(K3 ((d8 ps)++[(j8 (d8 ps) (u5 11) mark).1])).2=0
     ·refine j1 6 (y6 86 87 88 89 90 91) (V7 8 10 15 16 18 20 91) ⟨mU 18 O O,aU<|P5 O (kI 0 O) O O,mU 87 O O,aW O O (gF (by rw[he];rfl) O)<|zV O O O,aW O O (gF (by rw[he];rfl) O)<|P5 O (kI 0 O) O O,aU<|zF O (by rw[he];rfl) O O O,Zt⟩ O O O O ?_;refine W.cond O (fun hc91=>?_) (fun hc91=>?_)
      ·refine z6 10 (y10 92 93 94 95 96 97 98 99 100 6) (V1 6) ⟨mU 18 O O,aU<|P5 O (kI 14 O) O O,mU 93 O O,aW O O (gF (by rw[he];rfl) O)<|zV O O O,aW O O (gF (by rw[he];rfl) O)<|P5 O (kI 14 O) O O,aU<|zF O (by rw[he];rfl) O O O,mU 97 O O,aW O O (gT (by rw[hpa.2.resolve_left (fun h=>by rw[h] at hc91;cases hc91)];rfl) O) fun _ _ H _=>j5 hC (L3) Bn (F1 (.bool _)) H,aU<|zT O (by rw[hpa.2.resolve_left (fun h=>by rw[h] at hc91;cases hc91)];rfl) O O O,aU<|zA O O O,Zt⟩ O O O O ?_;refine W.ret ?_;exact Ends.one' (.inr O) O (O) O O Zt
      ·refine W.skip (W.seq ?_)
       have hf:(K3 ((d8 ps)++[(j8 (d8 ps) (u5 (key%8)) mark).1])).2=0:=by simpa using hc91
       have hq1:=EA (mark:=mark) hbs key;have hq2:=TP (l:=(d8 ps)) (mark:=mark) key;have hp1:=TO (mark:=mark) hbs key;have hp2:=paid_uns hbs (by omega) key hf;have hll:=GG hbs (c7 (key%8));have hlq:=GG hQ (c7 (key%8));have hlp:=GG hPa (c7 (key%8));have hul:=ZK hbs (c7 (key%8));have huq:=ZK hQ (c7 (key%8));have hup:=ZK hPa (c7 (key%8))
       have hl1:(Z8 ((d8 ps)++[(j8 (d8 ps) (u5 (key%8)) mark).1]) (c7 (key%8))).length=(Z8 (d8 ps) (c7 (key%8))).length+1:=by rw[hp1];exact BN _ _
       have hl2:(X2 ((d8 ps)++[(j8 (d8 ps) (u5 (key%8)) mark).1]) (c7 (key%8))).length=(X2 (d8 ps) (c7 (key%8))).length+1:=by rw[hp2];exact BN _ _
       refine c9 4 (y4 101 102 103 21) [(3,103)] [(3,103)] (V5 8 10 15 16 21) ⟨mU 8 O O,aU (lU 10 O O O O O O O),aU<|zD hC (QT (d8 ps) hbs (c7 (key%8))) O O O O O O (XI _ _ _) O,aU<|zO O O O,Zt⟩ O O (tU O ?_);refine W.seq (W.seq ?_);refine w7 (m:=25) (an:=(0::0::3::0::15::31::63::127::127::511::127::127::4095::8191::16383::32767::65535::131071::131071::524287::131071::131071::4194303::8388607::16777215::[])) hP dU O (its:=(.y 104 _::.y 105 _::.y 106 _::.y 107 _::.y 108 _::.y 109 _::.y 110 _::.y 111 _::.y 112 _::.y 113 _::.y 114 _::.y 115 _::.y 116 _::.y 117 _::.y 118 _::.y 119 _::.y 120 _::.y 121 _::.y 122 _::.y 123 _::.y 124 _::.y 125 _::.y 126 _::.y 127 _::.y 128 _::[])) (ks:=[]) (kk:=[]) (live:=[8,10,16,21,128]) (env':=(V5 8 10 16 21 128)) (⟨nU O,O,⟨aU<|zM O O,aU (lU 10 O O O O O O O),aU fun _ _ H K=>j5 hC (QT ((d8 ps)++[(j8 (d8 ps) (u5 11) mark).1]) hQ (c7 (key%8))) (Bc (Bor.sc (SC.al (K 104 _ O) (K 15 _ O)) (j9 n3)) (Bc (Bp (eU K 105 O) O O) Bn)) (XI _ _ _) H,aU<|zM O O,aU fun _ _ H K=>j5 hC (MR (Z8 ((d8 ps)++[(j8 (d8 ps) (u5 11) mark).1]) (c7 (key%8))) (Z8 (d8 ps) (c7 (key%8))) bO bO) (Bc (Bor.sc (SC.sl (K 106 _ O)) (j9 ZN)) (Bc (Bor.sc (SC.al (K 107 _ O) (K 21 _ O)) (j9 ZN)) Bn)) (F1 (.bool _)) H,aU<|JY O O O,mU 109 O O,aW O O (gF (by rw[hq1,beq_self_eq_true];rfl) O)<|zM O O,aW O O (gF (by rw[hq1,beq_self_eq_true];rfl) O) (lU 10 O O O O O O O),aW O O (gF (by rw[hq1,beq_self_eq_true];rfl) O) fun _ _ H K=>j5 hC (QS ((d8 ps)++[(j8 (d8 ps) (u5 11) mark).1]) hQ (c7 (key%8))) (Bc (Bor.sc (SC.al (K 111 _ O) (K 15 _ O)) (j9 n3)) (Bc (Bp (eU K 112 O) O O) Bn)) (ZY _ _ _) H,aW O O (gF (by rw[hq1,beq_self_eq_true];rfl) O)<|zV O O O,aW O O (gF (by rw[hq1,beq_self_eq_true];rfl) O) (lU 10 O O O O O O O),aW O O (gF (by rw[hq1,beq_self_eq_true];rfl) O)<|zD hC (QS (d8 ps) hbs (c7 (key%8))) O O O O O O (ZY _ _ _) O,aW O O (gF (by rw[hq1,beq_self_eq_true];rfl) O) fun _ _ H K=>j5 hC (sameU_ok (X2 ((d8 ps)++[(j8 (d8 ps) (u5 11) mark).1]) (c7 (key%8))) (X2 (d8 ps) (c7 (key%8))) bO bO) (Bc (Bor.sc (SC.sl (K 113 _ O)) (j9 SU)) (Bc (Bor.sc (SC.sl (K 116 _ O)) (j9 SU)) Bn)) (F1 (.bool _)) H,aW O O (gF (by rw[hq1,beq_self_eq_true];rfl) O)<|JY O O O,aU<|zF O (by rw[hq1,beq_self_eq_true];rfl) O O O,mU 119 O O,aW O O (gF (by rw[hq2,beq_self_eq_true];rfl) O)<|zM O O,aW O O (gF (by rw[hq2,beq_self_eq_true];rfl) O) (lU 10 O O O O O O O),aW O O (gF (by rw[hq2,beq_self_eq_true];rfl) O) fun _ _ H K=>j5 hC (QW ((d8 ps)++[(j8 (d8 ps) (u5 11) mark).1]) hQ (c7 (key%8))) (Bc (Bor.sc (SC.al (K 121 _ O) (K 15 _ O)) (j9 n3)) (Bc (Bp (eU K 122 O) O O) Bn)) (F1 (.u64 _)) H,aW O O (gF (by rw[hq2,beq_self_eq_true];rfl) O)<|zV O O O,aW O O (gF (by rw[hq2,beq_self_eq_true];rfl) O) (lU 10 O O O O O O O),aW O O (gF (by rw[hq2,beq_self_eq_true];rfl) O)<|zD hC (QW (d8 ps) hbs (c7 (key%8))) O O O O O O (F1 (.u64 _)) O,aW O O (gF (by rw[hq2,beq_self_eq_true];rfl) O)<|zB O O O O,aU<|zF O (by rw[hq2,beq_self_eq_true];rfl) O O O,Zt⟩,O,O,O⟩) O (bx':=(b4 13 11 10 7)) O (n':=199) O (tV (V5 8 10 16 21 128) (b4 13 11 10 7) 199 O O O ?_);refine g9 O (by rw[hq2];exact bne_self_eq_false _) ?_;refine W.skip (z7 4 (y4 129 130 131 22) [(3,131)] [(3,131)] (V5 8 10 16 21 22) ⟨aU<|zM O O,aU (lU 10 O O O O O O O),aU fun _ _ H K=>j5 hC (QT ((d8 ps)++[(j8 (d8 ps) (u5 (key%8)) mark).1]) hPa (c7 (key%8))) (Bc (Bor.sc (SC.al (K 129 _ O) (K 16 _ O)) (j9 n3)) (Bc (Bp (eU K 130 O) O O) Bn)) (XI _ _ _) H,aU<|zO O O O,Zt⟩ O O (tU O ?_));refine z7 4 (y4 132 133 134 23) [(3,134)] [(3,134)] (V6 8 10 16 21 22 23) ⟨aU<|zM O O,aU (lU 10 O O O O O O O),aU fun _ _ H K=>j5 hC (QS ((d8 ps)++[(j8 (d8 ps) (u5 (key%8)) mark).1]) hPa (c7 (key%8))) (Bc (Bor.sc (SC.al (K 132 _ O) (K 16 _ O)) (j9 n3)) (Bc (Bp (eU K 133 O) O O) Bn)) (ZY _ _ _) H,aU<|zO O O O,Zt⟩ O O (tU O ?_);refine W.seq (z6 53 (.y 135 _::.y 136 _::.y 137 _::.y 138 _::.y 139 _::.y 140 _::.y 141 _::.y 142 _::.y 143 _::.y 144 _::.y 145 _::.y 146 _::.y 147 _::.y 148 _::.y 149 _::.y 150 _::.y 151 _::.y 152 _::.y 153 _::.y 154 _::.y 155 _::.y 156 _::.y 157 _::.y 158 _::.y 159 _::.y 160 _::.y 161 _::.y 162 _::.y 163 _::.y 164 _::.y 165 _::.y 166 _::.y 167 _::.y 168 _::.y 169 _::.y 170 _::.y 171 _::.y 172 _::.y 173 _::.y 174 _::.y 175 _::.y 176 _::.y 177 _::.y 178 _::.y 179 _::.y 180 _::.y 181 _::.y 182 _::.y 183 _::.y 184 _::.y 185 _::.y 186 _::.y 187 _::[]) (V4 8 10 16 187) ⟨aU<|zM O O,aU<|UG O O (lN _) O,aU<|zM O O,aU<|UG O O (lN _) O,aU<|m8 1 O O bU O,aU<|zNe O O O,mU 140 O O,aW O O (gF (dF (fun h=>h hl1)) O)<|zM O O,aW O O (gF (dF (fun h=>h hl1)) O)<|zM O O,aW O O (gF (dF (fun h=>h hl1)) O)<|UG O O (lN _) O,aW O O (gF (dF (fun h=>h hl1)) O) fun _ _ H K=>PS (0) ((Z8 (d8 ps) (c7 (key%8))).length) ((Z8 (d8 ps) (c7 (key%8))).length) (SC.al (K 142 _ O) (K 22 _ O)) O (m2 (eU K 144 O)) O O bU bU O H dU,aW O O (gF (dF (fun h=>h hl1)) O)<|zM O O,aW O O (gF (dF (fun h=>h hl1)) O) fun _ _ H K=>j5 hC (MR ((Z8 ((d8 ps)++[(j8 (d8 ps) (u5 (key%8)) mark).1]) (c7 (key%8))).take (Z8 (d8 ps) (c7 (key%8))).length) (Z8 (d8 ps) (c7 (key%8))) (by rw[List.length_take];omega) bO) (Bc (Bor.sc (SC.vw (K 145 _ O) (SC.al (K 142 _ O) (K 22 _ O)) bU) (by first|exact j9 ZN|exact SY _ _)) (Bc (Bor.sc (SC.al (K 146 _ O) (K 21 _ O)) (by first|exact j9 ZN|exact SY _ _)) Bn)) (F1 (.bool _)) H,aW O O (gF (dF (fun h=>h hl1)) O)<|JY O O O,aU<|zF O (dF (fun h=>h hl1)) O O O,mU 149 O O,aW O O (gF (by rw[hp1,B5,beq_self_eq_true];rfl) O)<|zM O O,aW O O (gF (by rw[hp1,B5,beq_self_eq_true];rfl) O)<|zM O O,aW O O (gF (by rw[hp1,B5,beq_self_eq_true];rfl) O)<|UG O O (lN _) O,aW O O (gF (by rw[hp1,B5,beq_self_eq_true];rfl) O)<|t3 ((Z8 (d8 ps) (c7 (key%8))).length) O O O O bU O,aW O O (gF (by rw[hp1,B5,beq_self_eq_true];rfl) O)<|H9 O O,aW O O (gF (by rw[hp1,B5,beq_self_eq_true];rfl) O)<|I8 O O O (j4 (l:=(Z8 ((d8 ps)++[(j8 (d8 ps) (u5 (key%8)) mark).1]) (c7 (key%8)))) bU) O O O O O,aW O O (gF (by rw[hp1,B5,beq_self_eq_true];rfl) O)<|zV O O O,aW O O (gF (by rw[hp1,B5,beq_self_eq_true];rfl) O)<|zN O (lN _) O,aW O O (gF (by rw[hp1,B5,beq_self_eq_true];rfl) O)<|zB O O O O,aU<|zF O (by rw[hp1,B5,beq_self_eq_true];rfl) O O O,mU 160 O O,aW O O (gF (by rw[hp1,QA];exact bne_self_eq_false _) O)<|zM O O,aW O O (gF (by rw[hp1,QA];exact bne_self_eq_false _) O)<|UG O O (lN _) O,aW O O (gF (by rw[hp1,QA];exact bne_self_eq_false _) O)<|r7 0 O O O,aU<|zF O (by rw[hp1,QA];exact bne_self_eq_false _) O O O,mU 165 O O,aW O O (gF (dF bO) O)<|zM O O,aW O O (gF (dF bO) O)<|zM O O,aW O O (gF (dF bO) O)<|UG O O (lN _) O,aW O O (gF (dF bO) O)<|GW 1 O O bU bU O,aW O O (gF (dF bO) O)<|t3 (((X2 ((d8 ps)++[(j8 (d8 ps) (u5 (key%8)) mark).1]) (c7 (key%8))).length-1)) O O O O bU O,aW O O (gF (dF bO) O)<|H9 O O,aW O O (gF (dF bO) O)<|I8 O O O (j4 (l:=(X2 ((d8 ps)++[(j8 (d8 ps) (u5 (key%8)) mark).1]) (c7 (key%8)))) bU) O O O O O,aW O O (gF (dF bO) O)<|zV O O O,aW O O (gF (dF bO) O)<|zN O (lN _) O,aW O O (gF (dF bO) O)<|zB O O O O,aU<|zF O (dF bO) O O O,mU 177 O O,aW O O (gF (by rw[hp2,K8];exact bne_self_eq_false _) O)<|zM O O,aW O O (gF (by rw[hp2,K8];exact bne_self_eq_false _) O)<|zM O O,aW O O (gF (by rw[hp2,K8];exact bne_self_eq_false _) O)<|UG O O (lN _) O,aW O O (gF (by rw[hp2,K8];exact bne_self_eq_false _) O)<|GW 1 O O bU bU O,aW O O (gF (by rw[hp2,K8];exact bne_self_eq_false _) O)<|t3 (((X2 ((d8 ps)++[(j8 (d8 ps) (u5 (key%8)) mark).1]) (c7 (key%8))).length-1)) O O O O bU O,aW O O (gF (by rw[hp2,K8];exact bne_self_eq_false _) O)<|H9 O O,aW O O (gF (by rw[hp2,K8];exact bne_self_eq_false _) O)<|I8 O O O (j4 (l:=(X2 ((d8 ps)++[(j8 (d8 ps) (u5 (key%8)) mark).1]) (c7 (key%8)))) bU) O O O O O,aW O O (gF (by rw[hp2,K8];exact bne_self_eq_false _) O)<|P5 O (kW (.int .u64 5000) (.u64 5000) O) O O,aU<|zF O (by rw[hp2,K8];exact bne_self_eq_false _) O O O,Zt⟩ O O O O ?_);refine g9 O (by rw[hp2,K8];exact bne_self_eq_false _) ?_;refine W.skip (W.seq ?_);refine w7 (m:=12) (an:=[0,0,3,0,0,31,63,127,255,511,1023,2047]) hP dU O (its:=[.y 188 _,.y 189 _,.y 190 _,.y 191 _,.y 192 _,.y 193 _,.y 194 _,.y 195 _,.y 196 _,.y 197 _,.y 198 _,.y 6 _]) (ks:=[]) (kk:=[]) (live:=[6]) (env':=(V1 6)) (⟨nU O,O,⟨aU<|zM O O,aU (lU 10 O O O O O O O),aU fun _ _ H K=>j5 hC (QW ((d8 ps)++[(j8 (d8 ps) (u5 (key%8)) mark).1]) hPa (c7 (key%8))) (Bc (Bor.sc (SC.al (K 188 _ O) (K 16 _ O)) (j9 n3)) (Bc (Bp (eU K 189 O) O O) Bn)) (F1 (.u64 _)) H,mU 8 O O,aU (lU 10 O O O O O O O),aU<|zD hC (QW (d8 ps) hbs (c7 (key%8))) O O O O O O (F1 (.u64 _)) O,aU<|P5 O (kW (.int .u64 5000) (.u64 5000) O) O O,aU<|zB O O O O,mU 195 O O,aW O O (gT (by rw[hp2,SB];exact beq_self_eq_true _) O) fun _ _ H _=>j5 hC (L3) Bn (F1 (.bool _)) H,aU<|zT O (by rw[hp2,SB];exact beq_self_eq_true _) O O O,aU<|zA O O O,Zt⟩,O,O,O⟩) O (bx':=(b4 13 11 10 7)) O (n':=199) O (tV (V1 6) (b4 13 11 10 7) 199 O O O ?_);refine W.ret ?_;exact Ends.one' (.inr O) O (O) O O Zt
     ·refine j1 6 [.y 86 _,.y 87 _,.y 88 _,.x 89,.x 90,.y 91 _] (V7 8 10 15 16 18 20 91) ⟨mU 18 O O,aU<|P5 O (kI 0 O) O O,mU 87 O O,aF O O (gT (bne_iff_ne.2 he) O),aF O O (gT (bne_iff_ne.2 he) O),aU<|AT O (bne_iff_ne.2 he) (kB true O) O O,Zt⟩ O O O O ?_;refine d6 O (O) ?_;refine z6 10 [.y 92 _,.y 93 _,.y 94 _,.x 95,.x 96,.y 97 _,.y 98 _,.y 99 _,.y 100 _,.y 6 _] (V1 6) ⟨mU 18 O O,aU<|P5 O (kI 14 O) O O,mU 93 O O,aF O O (gT (by rw[hqa.2.resolve_left he];rfl) O),aF O O (gT (by rw[hqa.2.resolve_left he];rfl) O),aU<|AT O (by rw[hqa.2.resolve_left he];rfl) (kB true O) O O,mU 97 O O,aW O O (gT (O) O) fun _ _ H _=>j5 hC (L3) Bn (F1 (.bool _)) H,aU<|zT O (O) O O O,aU<|zA O O O,Zt⟩ O O O O ?_;refine W.ret ?_;exact Ends.one' (.inr O) O (O) O O Zt
   ·refine j1 6 [.y 57 _,.y 58 _,.y 59 _,.x 60,.x 61,.y 62 _] (V5 8 10 11 13 62) ⟨mU 12 O O,aU<|JY O O O,mU 58 O O,aF O O (gT (by rw[bfalse ha];rfl) O),aF O O (gT (by rw[bfalse ha];rfl) O),aU<|AT O (by rw[bfalse ha];rfl) (kB true O) O O,Zt⟩ O O O O ?_;refine d6 O (O) ?_;refine z6 2 (y2 63 6) (V1 6) ⟨aU fun _ _ H _=>j5 hC (L3) Bn (F1 (.bool _)) H,aU<|zA O O O,Zt⟩ O O O O ?_;refine W.ret ?_;exact Ends.one' (.inr O) O (O) O O Zt
end Go.Sx

namespace Go.Sx
open Go.ChangeShapes Go.WideShapes
structure Rd(P:Program)(t:TypeId)(z:Nat){α:Type}(f:α->D)(q:α->Prop):Prop where
 cells:P.cellsOf t=z
 sz:∀ a,q a->(f a).sz=z
 rd:∀ {H:Type} {enc:TypeId×Value->H} {w:World} {n:Nat} {cs:List Value} {x:DataW H×List MemPlace},DataW.trod enc P w 0 (fun _=>true) true n t cs=some x ->
  (x.1.weights P t).all (·<=reachBytes)=true->∃ a,q a/\Rc w (fun x=>x) (fun b=>b<w.heap.size) (fun _=>False) false (f a) cs []
variable{P:Program}{t e z:Nat}
theorem Rd.bool(ht:P.underlying t=some .bool)(hz:P.cellsOf t=1):Rd P t 1 D.bool (fun _=>True):=
 ⟨hz,fun _ _=>rfl,fun h _=>by obtain⟨b,rfl,_⟩:=DataW.trod_bool ht h;exact⟨b,trivial,.bool b⟩⟩
theorem Rd.u8(ht:P.underlying t=some (.int .u8))(hz:P.cellsOf t=1):Rd P t 1 D.u8 (fun _=>True):=
 ⟨hz,fun _ _=>rfl,fun h _=>by
  obtain⟨n,rfl,_,hw⟩:=DataW.trod_int ht h;simp[Lit.wf,IntKind.min,IntKind.max,IntKind.signed,IntKind.bits] at hw;refine⟨UInt8.ofNat n.toNat,trivial, ?_⟩
  have:((UInt8.ofNat n.toNat).toNat:Int)=n:=by simp[UInt8.toNat_ofNat'];omega
  have h1:=Rc.u8 (w:=‹World›) (ρ:=fun x=>x) (G:=fun b=>b<(‹World›).heap.size) (L:=fun _=>False) (p:=false) (UInt8.ofNat n.toNat);rw[this] at h1
  exact h1⟩
theorem Rd.u32(ht:P.underlying t=some (.int .u32))(hz:P.cellsOf t=1):Rd P t 1 D.u32 (fun _=>True):=
 ⟨hz,fun _ _=>rfl,fun h _=>by
  obtain⟨n,rfl,_,hw⟩:=DataW.trod_int ht h;simp[Lit.wf,IntKind.min,IntKind.max,IntKind.signed,IntKind.bits] at hw;refine⟨UInt32.ofNat n.toNat,trivial, ?_⟩
  have:((UInt32.ofNat n.toNat).toNat:Int)=n:=by simp[UInt32.toNat_ofNat'];omega
  have h1:=Rc.u32 (w:=‹World›) (ρ:=fun x=>x) (G:=fun b=>b<(‹World›).heap.size) (L:=fun _=>False) (p:=false) (UInt32.ofNat n.toNat);rw[this] at h1
  exact h1⟩
theorem UD{H:Type}{p:Nat->Bool}{l:List (DataW H)}(h:(DataW.weightsAll P e l).all p=true):∀ d∈l,(d.weights P e).all p=true:=by
 induction l with
 | nil=>intro d hd;cases hd
 | cons x r ih=>
  simp only[DataW.weightsAll,List.all_append,Bool.and_eq_true] at h;intro d hd
  rcases List.mem_cons.1 hd with rfl|hd
  ·exact h.1
  ·exact ih h.2 d hd
theorem Y5{H:Type}{p:Nat->Bool}:∀ {ts:List TypeId} {l:List (DataW H)},(DataW.weightsEach P ts l).all p=true->∀ (i:Nat) (t:TypeId) (d:DataW H),ts[i]? = some t->l[i]? = some d->(d.weights P t).all p=true:=by
 intro ts
 induction ts with
 | nil=>intro l _ i t d ht;simp at ht
 | cons t0 ts ih=>
  intro l h i t d ht hd
  cases l with
  | nil=>simp at hd
  | cons x r=>
   simp only[DataW.weightsEach,List.all_append,Bool.and_eq_true] at h
   cases i with
   | zero=>simp at ht hd;subst ht;subst hd;exact h.1
   | succ i=>exact ih h.2 i t d (by simpa using ht) (by simpa using hd)
theorem list_of{α:Type}{n:Nat}{p:Nat->α->Prop}(h:∀ i,i<n->∃ a,p i a):∃ l:List α,l.length=n/\∀ i (hi:i<l.length),p i l[i]:=by
 induction n with
 | zero=>exact⟨[],rfl,fun i hi=>by simp at hi⟩
 | succ n ih=>
  obtain⟨l,hl,hp⟩:=ih (fun i hi=>h i (by omega));obtain⟨a,ha⟩:=h n (by omega);refine⟨l++[a],by simp[hl],fun i hi=>?_⟩
  rcases Nat.lt_or_ge i l.length with h1|h1
  ·rw[List.getElem_append_left h1];exact hp i h1
  ·have:i=n:=by simp at hi;omega
   subst this;rw[List.getElem_append_right h1];simpa [hl] using ha
theorem VV{w:World}{b off n:Nat}{c:Array Value}{ty:TypeId}{fz:Nat×Nat}{cs:List Value}(hb:w.heap[b]? = some (.cells c ty fz))(h:w.cells? 0 ⟨b,off,none⟩ n=some cs)(hn:0<n) :
 off+n<=c.size/\cs=(c.toList.drop off).take n:=by
 obtain⟨_,hl,hc⟩:=World.cells?_some h
 have hc':∀ i,i<n->c[off+i]? = cs[i]?:=fun i hi=>by
  have:=hc i hi;rw[J6,cell_of_row w b _ c ty fz hb] at this;exact this
 have h1:=hc' (n-1) (by omega)
 have h2:off+(n-1)<c.size:=by
  rw[List.getElem?_eq_getElem (by omega)] at h1;exact(Array.getElem?_eq_some_iff.1 h1).1
 refine⟨by omega, ?_⟩;apply List.ext_getElem?;intro i;rw[List.getElem?_take];split
 ·rw[List.getElem?_drop];rw[<- hc' i (by assumption)];simp
 ·rw[List.getElem?_eq_none (by omega)]
theorem Rd.sl{α:Type}{f:α->D}{q:α->Prop}(ht:P.underlying t=some (.slice e))(hz:P.cellsOf t=1)(h0:0<z)(hby:0<P.bytesOf e)(he:Rd P e z f q) :
 Rd P t 1 (fun l:List α=>.sl none z (l.map f)) (fun l=>l.length<=140737488355328/\∀ x∈l,q x):=
 ⟨hz,fun _ _=>rfl,fun {H enc w n cs x} h hwt=>by
  rcases Go.Deep.open_slice ht h with ⟨rfl,_⟩|⟨a,len,cap,m,n',Dd,Pl,rfl,_,hlc,hcm,hm,rfl,hx⟩
  ·exact⟨[],⟨by simp,by simp⟩,.slN none z⟩
  ·simp only[if_true] at hm;have hx:=fun i (hi:i<cap)=>hx i (by omega);simp only[DataW.weights,ht,List.all_cons,List.all_append,Bool.and_eq_true,decide_eq_true_eq,List.length_map,List.length_range] at hwt;obtain⟨hw1,hw2,hw3⟩:=hwt;have hw4:∀ i,i<len->((Dd i).weights P e).all (·<=reachBytes)=true:=fun i hi=>UD hw2 _ (List.mem_map.2 ⟨i,List.mem_range.2 hi,rfl⟩)
   have hlen:len<=140737488355328:=by
    have h6:len*1<=(len+(m-len))*P.bytesOf e:=Nat.mul_le_mul (by omega) hby
    simp only[reachBytes] at hw1;omega
   rcases Nat.eq_zero_or_pos cap with rfl|hcap
   ·have:len=0:=by omega
    subst this;exact⟨[],⟨by simp,by simp⟩,.slE none z a⟩
   ·rw[he.cells] at hx;obtain⟨b,off,sp⟩:=a;obtain⟨cs0,hc0,_⟩:=hx 0 hcap;obtain⟨_,hl0,hv0⟩:=World.cells?_some hc0;have h1:=hv0 0 h0;rw[List.getElem?_eq_getElem (by omega)] at h1
    have hblk:∃ c ty fz,w.heap[b]? = some (.cells c ty fz)/\sp=none:=by
     have e0:((⟨b,off,sp⟩:Addr).add (0*z)).add 0=⟨b,off,sp⟩:=by simp[Addr.add]
     rw[e0] at h1;unfold World.cell? at h1;simp only at h1;split at h1
     ·rename_i c ty fz hh
      cases sp with
      | none=>exact⟨c,ty,fz,hh,rfl⟩
      | some s=>simp at h1
     ·cases h1
    obtain⟨c,ty,fz,hb,rfl⟩:=hblk
    have hrow:∀ i,i<cap->off+i*z+z<=c.size/\(i<len->∃ a,q a/\Rc w (fun x=>x) (fun b=>b<w.heap.size) (fun _=>False) false (f a) ((c.toList.drop (off+i*z)).take z) []):=fun i hi=>by
     obtain⟨cs',h2,h3⟩:=hx i hi;rw[J6] at h2;obtain⟨h4,rfl⟩:=VV hb h2 h0;exact⟨h4,fun hi=>he.rd h3 (hw4 i hi)⟩
    obtain⟨l,hl,hp⟩:=list_of (fun i hi=>(hrow i (by omega:i<cap)).2 hi:∀ i,i<len->_)
    have hsz:off+cap*z<=c.size:=by
     have h5:=(hrow (cap-1) (by omega)).1
     have:(cap-1)*z+z=cap*z:=by rw[<- Nat.succ_mul];congr 1;omega
     omega
    have hlz:len*z<=cap*z:=Nat.mul_le_mul_right z hlc;refine⟨l,⟨by omega,fun y hy=>?_⟩, ?_⟩
    ·obtain⟨i,hi,rfl⟩:=List.mem_iff_getElem.1 hy;exact(hp i hi).1
    ·have:=Rc.slI (w:=w) (ρ:=fun x=>x) (G:=fun b=>b<w.heap.size) (L:=fun _=>False) (p:=false) b off c ty fz cap z (l.map f) hb (Array.getElem?_eq_some_iff.1 hb).1 (by simp;omega) (by simp[hl];omega)
      (fun i hi=>by simp only[List.getElem_map];exact(hp i (by simpa using hi)).2)
     simpa [hl] using this⟩
theorem Rd.map{α β:Type}{f:α->D}{q:α->Prop}{g:β->D}{q':β->Prop}(h:Rd P t z f q)(m:α->β)(hm:∀ a,q a->q' (m a)/\g (m a)=f a)(hs:∀ b,q' b->(g b).sz=z):Rd P t z g q':=
 ⟨h.cells,hs,fun hx hw=>by
  obtain⟨a,ha,hr⟩:=h.rd hx hw;obtain⟨h1,h2⟩:=hm a ha
  exact⟨m a,h1,by rw[h2];exact hr⟩⟩
structure RdF(P:Program)(off:Nat)(fs:List Field)(e:Nat){α:Type}(f:α->List D)(q:α->Prop):Prop where
 sz:∀ a,q a->off+D.szs (f a)=e
 rd:∀ {H:Type} {enc:TypeId×Value->H} {w:World} {n:Nat} {cs:List Value},(∀ fld∈fs,∃ x,DataW.trod enc P w 0 (fun _=>true) true n fld.type ((cs.drop fld.offset).take (P.cellsOf fld.type))=some x/\(x.1.weights P fld.type).all (·<=reachBytes)=true) ->
  ∃ a,q a/\∀ k (hk:k<(f a).length),Rc w (fun x=>x) (fun b=>b<w.heap.size) (fun _=>False) false (f a)[k] ((cs.drop (off+offk (f a) k)).take (f a)[k].sz) []
theorem RdF.nil{off:Nat}:RdF P off [] off (fun _:Unit=>[]) (fun _=>True):=
 ⟨fun _ _=>by simp,fun _=>⟨(),trivial,fun k hk=>by simp at hk⟩⟩
theorem RdF.cons{α β:Type}{f:α->D}{q:α->Prop}{g:β->List D}{q':β->Prop}{off e':Nat}{fld:Field}{fs:List Field}(h:Rd P fld.type z f q)(ho:fld.offset=off)(hr:RdF P (off+z) fs e' g q') :
 RdF P off (fld::fs) e' (fun a:α×β=>f a.1::g a.2) (fun a=>q a.1/\q' a.2):=
 ⟨fun a ha=>by have:=hr.sz a.2 ha.2;have:=h.sz a.1 ha.1;simp only[K5];omega,fun {H enc w n cs} hx=>by
  obtain⟨x,h1,hw⟩:=hx fld (by simp);rw[ho,h.cells] at h1;obtain⟨a,ha,hra⟩:=h.rd h1 hw;obtain⟨b,hb,hrb⟩:=hr.rd (fun f hf=>hx f (List.mem_cons_of_mem _ hf));refine⟨(a,b),⟨ha,hb⟩,fun k hk=>?_⟩
  cases k with
  | zero=>simpa [offk,h.sz a ha] using hra
  | succ k=>
   have:=hrb k (by simpa using hk);simp only[offk,List.take_succ_cons,K5,List.getElem_cons_succ,h.sz a ha];rw[<- Nat.add_assoc]
   exact this⟩
theorem Rd.struct{α:Type}{g:α->List D}{q:α->Prop}{fs:Array Field}(ht:P.underlying t=some (.struct fs))(hz:P.cellsOf t=z)(h:RdF P 0 fs.toList z g q):Rd P t z (fun a=>.agg (g a)) q:=
 ⟨hz,fun a ha=>by have:=h.sz a ha;simp;omega,fun {H enc w n cs x} hx hwt=>by
  obtain⟨xs,m,_,rfl,hlen,hxl,hf⟩:=DataW.trod_struct ht hx
  obtain⟨a,ha,hr⟩:=h.rd (H:=H) (enc:=enc) (w:=w) (n:=m) (cs:=cs) (fun fld hm=>by
   obtain⟨i,hi,rfl⟩:=List.mem_iff_getElem.1 hm;have h1:=hf i fs[i] (by simp at hi;simp[hi]);rw[List.getElem?_eq_getElem (by simp at hi;omega)] at h1;simp only[DataW.weights,ht] at hwt;refine⟨_,by simpa using h1, ?_⟩
   exact Y5 hwt i _ _ (by simp at hi;simp[hi]) (by simp at hi;rw[List.getElem?_map,List.getElem?_eq_getElem (by omega)];rfl))
  refine⟨a,ha, ?_⟩;have:=Rc.agg (w:=w) (ρ:=fun x=>x) (G:=fun b=>b<w.heap.size) (L:=fun _=>False) (p:=false) (g a) cs (fun _=>[]) (by have:=h.sz a ha;omega) (fun k hk=>by have:=hr k hk;rwa [Nat.zero_add] at this);rw[CK] at this
  exact this⟩
def BE(P:Program)(t:TypeId):Bool:=match P.underlying t with
 | some (.struct _)=>true
 | some (.array _ _)=>true
 | _=>false
theorem VW{r:Reach}{W:World}{base:Nat}{v:Value}(hu:BE P t=false)(hv:Value.okWide P W r base t v):v.cells=#[v]:=by
 cases v with
 | agg cs=>
  exfalso;unfold BE at hu;unfold Value.okWide at hv;split at hv
  ·rename_i h;simp[h] at hu
  ·rename_i h;simp[h] at hu
  ·unfold Cell.okWide Cell.ok at hv
   split at hv<;>simp_all
 | _=>rfl
theorem Rd.arg{H:Type}{enc:TypeId×Value->H}{α:Type}{f:α->D}{q:α->Prop}{g:Bool}{r:Reach}{W:World}{base:Nat}{v:Value}{d:DataW H}{ps:List MemPlace}(h:Rd P t z f q)(hu:BE P t=g)(hg:∀ a,q a->(f a).isAgg=g)
 (hv:Value.okWide P W r base t v) (hd:DataW.Trod enc P W 0 (fun _=>true) true t v d ps) (hw:(d.weights P t).all (·<=reachBytes)=true) :
 ∃ a,q a/\VR W (fun x=>x) (fun b=>b<W.heap.size) (fun _=>False) (f a) v []:=by
 obtain⟨fuel,hd⟩:=hd;obtain⟨a,ha,hr⟩:=h.rd hd hw;refine⟨a,ha, ?_⟩;have hga:=hg a ha
 cases g with
 | true=>
  have:∃ cs,v=.agg cs:=by
   unfold BE at hu;unfold Value.okWide at hv;split at hv
   ·exact⟨_,hv.choose_spec.1⟩
   ·exact⟨_,hv.choose_spec.1⟩
   ·split at hu<;>simp_all
  obtain⟨cs,rfl⟩:=this;simp only[VR,hga,if_true];exact⟨cs,rfl,hr.flag⟩
 | false=>
  rw[VW hu hv] at hr;simp only[VR,hga,if_false,Bool.false_eq_true];exact hr.flag
theorem HX{H:Type}{enc:TypeId×Value->H}{W W':World}{sp:Nat->Bool}(hl:laidOutB P=true)(hb:∀ b,b<W.heap.size->W'.heap[b]? = W.heap[b]?) :
 ∀ {ts:List TypeId} {vs:List Value} {ds:List (DataW H)} {ps:List MemPlace},(ts.all fun t=>P.readableRec t&&decide (t<P.types.size))=true->(∀ x∈ps,x.block<W.heap.size)->(∀ x∈ps,sp x.block=true) ->
  DataW.TrodAll enc P W 0 (fun _=>true) true ts vs ds ps->DataW.TrodAll enc P W' 0 sp true ts vs ds ps:=by
 intro ts
 induction ts with
 | nil=>intro vs ds ps _ _ _ h;obtain⟨rfl,rfl,rfl⟩:=trodAll_nil h;exact trodAll_mk0
 | cons t ts ih=>
  intro vs ds ps ht hlt hs h;obtain⟨v,vs1,d,ds1,a,b,rfl,rfl,rfl,h1,h2⟩:=trodAll_cons h;simp only[List.all_cons,Bool.and_eq_true,decide_eq_true_eq] at ht;refine trodAll_cons_mk (Go.WideElems.Trod_stays hl ht.1.1 ht.1.2 h1 (fun x hx=>?_) (fun x hx=>hs x (List.mem_append.2 (.inl hx)))) (ih ht.2 (fun x hx=>hlt x (List.mem_append.2 (.inr hx))) (fun x hx=>hs x (List.mem_append.2 (.inr hx))) h2);have hx':=hlt x (List.mem_append.2 (.inl hx))
  cases x with
  | cell b o=>exact World.cell?_of_block (w:=W) (hb b hx')
  | map b=>exact hb b hx'
theorem AK{H:Type}{enc:TypeId×Value->H}{fn:Func}{f:FuncId}{s:ChangeSpec}{W:World}{args:Array Value}{ds gs:List (DataW H)}{before:List MemPlace}{tb:TypeId}{gl:List (Nat×D)}{Ds:List D}
 (hl:laidOutB P=true) (hpar:(fn.params.toList.all fun t=>P.readableRec t&&decide (t<P.types.size))=true) (hres:fn.resultTypes=#[tb]) (htb:P.underlying tb=some .bool) (hsv:s.vars=[])
 (hfn:s.fn H ds={ results:=[.lit (.bool true)],args:=ds }) (hW:DataW.Whole enc P fn.params.toList s.vars false W args.toList ds gs before)
 (hgl:∀ g d,(g,d)∈gl->g<W.heap.size/\∃ cs e fz,W.heap[g]? = some (.cells cs e fz)/\Rc W (fun x=>x) (fun _=>False) (fun _=>False) false d cs.toList [])
 (hlen:args.toList.length=Ds.length) (hargs:∀ k (h:k<Ds.length),VR W (fun x=>x) (fun b=>b<W.heap.size) (fun _=>False) Ds[k] (args.toList.getD k undef) [])
 (hf:Fn P gl f Ds (.bool true)):Calls P f args W fun e W'=>∃ v,e=.returned v/\s.post enc P fn false true false false W args v W':=by
 have hrun:=hf W (fun b=>b<W.heap.size) args.toList hgl hlen hargs;rw[Array.toArray_toList] at hrun
 refine hrun.mono fun ex W' ⟨v,F,he,hext,_,_,hrv⟩=>⟨v,he, ?_⟩
 have hv:v=.bool true:=by
  obtain⟨_,h2⟩:=hrv;simp only[VR,D.isAgg,Bool.false_eq_true,if_false] at h2;cases h2;rfl
 subst hv;have hlt:=hW.lt;have hW0:=hW;obtain⟨p,q',hA,hV,rfl,hfz,hnd⟩:=hW;rw[hsv] at hV;obtain⟨rfl,rfl⟩:=trodVars_none hV;simp only[List.append_nil] at hlt hW0;have hst:∀ sp:Nat->Bool,(∀ x∈p,sp x.block=true)->DataW.TrodAll enc P W' 0 sp true fn.params.toList args.toList ds p:=fun sp hs=>HX hl (fun b hb=>hext.block b hb) hpar hlt hs hA;refine⟨ds,[],p,[],p,[],hW0, ?_, ?_, ?_,⟨hext.os,hext.output,fun i hi=>?_⟩,fun h=>by cases h⟩
 ·rw[hres];simp only[List.append_nil,hfn];exact trodAll_cons_mk (Go.RowKit.shut_bool htb true) trodAll_mk0
 ·simp only[List.append_nil,hfn];exact hst _ (fun x hx=>by simpa using hlt x hx)
 ·simp only[List.append_nil,hfn,hsv];rfl
 ·rw[hext.block i hi]
  cases hh:W.heap[i]? with
  | none=>simp
  | some o=>cases o<;>simp
theorem rc_tab32{w:World}{ρ:Nat->Nat}{G L:Nat->Prop}(l:List UInt32){n:Nat}(hn:l.length=n):Rc w ρ G L false (.arr n 1 (l.map D.u32)) (l.map fun x=>Value.int .u32 x.toNat) []:=by
 refine .arr n 1 _ _ (by simpa using hn) (by simp[hn]) (fun i hi=>?_)
 have hi':i<l.length:=by simpa using hi
 simp only[Nat.mul_one,List.getElem_map];rw[List.drop_eq_getElem_cons (by simpa using hi'),List.take_succ_cons,List.take_zero,List.getElem_map];exact .u32 _
theorem gl_tab32{W:World}{name:String}{g n:Nat}(l:List UInt32)(hg:P.globalNamed name=some g)(hn:l.length=n)(h:Lib.TabIs P W name .u32 (l.map fun x=>((x.toNat:Nat):Int))) :
 g<W.heap.size/\∃ cs e fz,W.heap[g]? = some (.cells cs e fz)/\Rc W (fun x=>x) (fun _=>False) (fun _=>False) false (.arr n 1 (l.map D.u32)) cs.toList []:=by
 unfold Lib.TabIs World.var? at h;simp only[hg,Option.bind_some,List.map_map] at h;split at h
 ·rename_i cs e fz hh;simp only[Option.some.injEq] at h;refine⟨(Array.getElem?_eq_some_iff.1 hh).1,cs,e,fz,hh, ?_⟩;rw[h];exact rc_tab32 l hn
 ·cases h
end Go.Sx

namespace Go.Sx
open Go.Proofs
theorem rd_plan:Rd Tryd.prog 77 3 QU (fun x=>∀ s∈x.spends,s.to.length<=140737488355328):=by
 have h8:=Rd.u8 (P:=Tryd.prog) Tryd.underlying5 (by kernel_rfl);have hbo:=Rd.bool (P:=Tryd.prog) Tryd.underlying4 (by kernel_rfl);have hb:=Rd.sl (P:=Tryd.prog) Tryd.underlying24 (by kernel_rfl) (by decide) (of_decide_eq_true (by kernel_rfl)) h8;have hs0:=Rd.struct (P:=Tryd.prog) (z:=5) Tryd.underlying86 (by kernel_rfl) (.cons h8 rfl (.cons hbo rfl (.cons hb rfl (.cons h8 rfl (.cons h8 rfl .nil)))));have hs:=hs0.map (q':=fun x:SpS=>x.to.length<=140737488355328) (g:=WE) (fun a=>⟨a.1,a.2.1,a.2.2.1,a.2.2.2.1,a.2.2.2.2.1⟩) (fun a ha=>⟨ha.2.2.1.1,rfl⟩) (fun b hb=>rfl);have hsl:=Rd.sl (P:=Tryd.prog) Tryd.underlying75 (by kernel_rfl) (by decide) (of_decide_eq_true (by kernel_rfl)) hs;have h0:=Rd.struct (P:=Tryd.prog) (z:=3) Tryd.underlying77 (by kernel_rfl) (.cons h8 rfl (.cons hsl rfl (.cons h8 rfl .nil)));exact h0.map (fun a=>⟨a.1,a.2.1,a.2.2.1⟩) (fun a ha=>⟨fun x hx=>ha.2.1.2 x hx,rfl⟩) (fun b hb=>rfl)
end Go.Sx
