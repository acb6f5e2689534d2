/-
 The plain law: what sha computes is what scantlingref01 computes.
-/
import Derived.Test.YthhliikibffhjaaDoorMSxCallB
import Derived.Test.YthhliikibffhjaaDoorMShaDefs
import Derived.Test.YthhliikibffhjaaDoorMSxRange
import Derived.Test.YthhliikibffhjaaDoorMSxOwn
set_option linter.unusedVariables false
set_option linter.unusedSimpArgs false
set_option linter.unnecessarySimpa false

namespace Go.Sx
open Go.Proofs
theorem k_ok : Fn Tryd.prog gl 56 [] (.sl (some 94) 1 (kTab.map D.u32)) := by
 refine Fn.of (n := 2) Tryd.func56 rfl rfl rfl (nU rfl) fun C hC hD => ?_
 refine W.seq ?_
 refine W.l0 1 [.y 0 _] [] [] [] [] 2 ⟨aU fun _ _ H _ => R.asg (kN rfl) rfl H,trivial⟩ rfl rfl rfl rfl (tU rfl ?_)
 refine W.seq ?_
 refine W.l0 2 [.y 1 _,.y 0 _] [(1,1)] [(1,1)] [(0,_)] [] 2 ⟨aU fun _ _ H _ => R.bslE (z := 1) (.cons (show ev _ _ (.const (.int .u32 1116352408)) = some (.u32 1116352408) from rfl) (.cons (show ev _ _ (.const (.int .u32 1899447441)) = some (.u32 1899447441) from rfl) (.cons (show ev _ _ (.const (.int .u32 3049323471)) = some (.u32 3049323471) from rfl) (.cons (show ev _ _ (.const (.int .u32 3921009573)) = some (.u32 3921009573) from rfl) (.cons (show ev _ _ (.const (.int .u32 961987163)) = some (.u32 961987163) from rfl) (.cons (show ev _ _ (.const (.int .u32 1508970993)) = some (.u32 1508970993) from rfl) (.cons (show ev _ _ (.const (.int .u32 2453635748)) = some (.u32 2453635748) from rfl) (.cons (show ev _ _ (.const (.int .u32 2870763221)) = some (.u32 2870763221) from rfl) (.cons (show ev _ _ (.const (.int .u32 3624381080)) = some (.u32 3624381080) from rfl) (.cons (show ev _ _ (.const (.int .u32 310598401)) = some (.u32 310598401) from rfl) (.cons (show ev _ _ (.const (.int .u32 607225278)) = some (.u32 607225278) from rfl) (.cons (show ev _ _ (.const (.int .u32 1426881987)) = some (.u32 1426881987) from rfl) (.cons (show ev _ _ (.const (.int .u32 1925078388)) = some (.u32 1925078388) from rfl) (.cons (show ev _ _ (.const (.int .u32 2162078206)) = some (.u32 2162078206) from rfl) (.cons (show ev _ _ (.const (.int .u32 2614888103)) = some (.u32 2614888103) from rfl) (.cons (show ev _ _ (.const (.int .u32 3248222580)) = some (.u32 3248222580) from rfl) (.cons (show ev _ _ (.const (.int .u32 3835390401)) = some (.u32 3835390401) from rfl) (.cons (show ev _ _ (.const (.int .u32 4022224774)) = some (.u32 4022224774) from rfl) (.cons (show ev _ _ (.const (.int .u32 264347078)) = some (.u32 264347078) from rfl) (.cons (show ev _ _ (.const (.int .u32 604807628)) = some (.u32 604807628) from rfl) (.cons (show ev _ _ (.const (.int .u32 770255983)) = some (.u32 770255983) from rfl) (.cons (show ev _ _ (.const (.int .u32 1249150122)) = some (.u32 1249150122) from rfl) (.cons (show ev _ _ (.const (.int .u32 1555081692)) = some (.u32 1555081692) from rfl) (.cons (show ev _ _ (.const (.int .u32 1996064986)) = some (.u32 1996064986) from rfl) (.cons (show ev _ _ (.const (.int .u32 2554220882)) = some (.u32 2554220882) from rfl) (.cons (show ev _ _ (.const (.int .u32 2821834349)) = some (.u32 2821834349) from rfl) (.cons (show ev _ _ (.const (.int .u32 2952996808)) = some (.u32 2952996808) from rfl) (.cons (show ev _ _ (.const (.int .u32 3210313671)) = some (.u32 3210313671) from rfl) (.cons (show ev _ _ (.const (.int .u32 3336571891)) = some (.u32 3336571891) from rfl) (.cons (show ev _ _ (.const (.int .u32 3584528711)) = some (.u32 3584528711) from rfl) (.cons (show ev _ _ (.const (.int .u32 113926993)) = some (.u32 113926993) from rfl) (.cons (show ev _ _ (.const (.int .u32 338241895)) = some (.u32 338241895) from rfl) (.cons (show ev _ _ (.const (.int .u32 666307205)) = some (.u32 666307205) from rfl) (.cons (show ev _ _ (.const (.int .u32 773529912)) = some (.u32 773529912) from rfl) (.cons (show ev _ _ (.const (.int .u32 1294757372)) = some (.u32 1294757372) from rfl) (.cons (show ev _ _ (.const (.int .u32 1396182291)) = some (.u32 1396182291) from rfl) (.cons (show ev _ _ (.const (.int .u32 1695183700)) = some (.u32 1695183700) from rfl) (.cons (show ev _ _ (.const (.int .u32 1986661051)) = some (.u32 1986661051) from rfl) (.cons (show ev _ _ (.const (.int .u32 2177026350)) = some (.u32 2177026350) from rfl) (.cons (show ev _ _ (.const (.int .u32 2456956037)) = some (.u32 2456956037) from rfl) (.cons (show ev _ _ (.const (.int .u32 2730485921)) = some (.u32 2730485921) from rfl) (.cons (show ev _ _ (.const (.int .u32 2820302411)) = some (.u32 2820302411) from rfl) (.cons (show ev _ _ (.const (.int .u32 3259730800)) = some (.u32 3259730800) from rfl) (.cons (show ev _ _ (.const (.int .u32 3345764771)) = some (.u32 3345764771) from rfl) (.cons (show ev _ _ (.const (.int .u32 3516065817)) = some (.u32 3516065817) from rfl) (.cons (show ev _ _ (.const (.int .u32 3600352804)) = some (.u32 3600352804) from rfl) (.cons (show ev _ _ (.const (.int .u32 4094571909)) = some (.u32 4094571909) from rfl) (.cons (show ev _ _ (.const (.int .u32 275423344)) = some (.u32 275423344) from rfl) (.cons (show ev _ _ (.const (.int .u32 430227734)) = some (.u32 430227734) from rfl) (.cons (show ev _ _ (.const (.int .u32 506948616)) = some (.u32 506948616) from rfl) (.cons (show ev _ _ (.const (.int .u32 659060556)) = some (.u32 659060556) from rfl) (.cons (show ev _ _ (.const (.int .u32 883997877)) = some (.u32 883997877) from rfl) (.cons (show ev _ _ (.const (.int .u32 958139571)) = some (.u32 958139571) from rfl) (.cons (show ev _ _ (.const (.int .u32 1322822218)) = some (.u32 1322822218) from rfl) (.cons (show ev _ _ (.const (.int .u32 1537002063)) = some (.u32 1537002063) from rfl) (.cons (show ev _ _ (.const (.int .u32 1747873779)) = some (.u32 1747873779) from rfl) (.cons (show ev _ _ (.const (.int .u32 1955562222)) = some (.u32 1955562222) from rfl) (.cons (show ev _ _ (.const (.int .u32 2024104815)) = some (.u32 2024104815) from rfl) (.cons (show ev _ _ (.const (.int .u32 2227730452)) = some (.u32 2227730452) from rfl) (.cons (show ev _ _ (.const (.int .u32 2361852424)) = some (.u32 2361852424) from rfl) (.cons (show ev _ _ (.const (.int .u32 2428436474)) = some (.u32 2428436474) from rfl) (.cons (show ev _ _ (.const (.int .u32 2756734187)) = some (.u32 2756734187) from rfl) (.cons (show ev _ _ (.const (.int .u32 3204031479)) = some (.u32 3204031479) from rfl) (.cons (show ev _ _ (.const (.int .u32 3329325298)) = some (.u32 3329325298) from rfl) .nil)))))))))))))))))))))))))))))))))))))))))))))))))))))))))))))))) ⟨⟨rfl,rfl,rfl⟩,⟨rfl,rfl,rfl⟩,⟨rfl,rfl,rfl⟩,⟨rfl,rfl,rfl⟩,⟨rfl,rfl,rfl⟩,⟨rfl,rfl,rfl⟩,⟨rfl,rfl,rfl⟩,⟨rfl,rfl,rfl⟩,⟨rfl,rfl,rfl⟩,⟨rfl,rfl,rfl⟩,⟨rfl,rfl,rfl⟩,⟨rfl,rfl,rfl⟩,⟨rfl,rfl,rfl⟩,⟨rfl,rfl,rfl⟩,⟨rfl,rfl,rfl⟩,⟨rfl,rfl,rfl⟩,⟨rfl,rfl,rfl⟩,⟨rfl,rfl,rfl⟩,⟨rfl,rfl,rfl⟩,⟨rfl,rfl,rfl⟩,⟨rfl,rfl,rfl⟩,⟨rfl,rfl,rfl⟩,⟨rfl,rfl,rfl⟩,⟨rfl,rfl,rfl⟩,⟨rfl,rfl,rfl⟩,⟨rfl,rfl,rfl⟩,⟨rfl,rfl,rfl⟩,⟨rfl,rfl,rfl⟩,⟨rfl,rfl,rfl⟩,⟨rfl,rfl,rfl⟩,⟨rfl,rfl,rfl⟩,⟨rfl,rfl,rfl⟩,⟨rfl,rfl,rfl⟩,⟨rfl,rfl,rfl⟩,⟨rfl,rfl,rfl⟩,⟨rfl,rfl,rfl⟩,⟨rfl,rfl,rfl⟩,⟨rfl,rfl,rfl⟩,⟨rfl,rfl,rfl⟩,⟨rfl,rfl,rfl⟩,⟨rfl,rfl,rfl⟩,⟨rfl,rfl,rfl⟩,⟨rfl,rfl,rfl⟩,⟨rfl,rfl,rfl⟩,⟨rfl,rfl,rfl⟩,⟨rfl,rfl,rfl⟩,⟨rfl,rfl,rfl⟩,⟨rfl,rfl,rfl⟩,⟨rfl,rfl,rfl⟩,⟨rfl,rfl,rfl⟩,⟨rfl,rfl,rfl⟩,⟨rfl,rfl,rfl⟩,⟨rfl,rfl,rfl⟩,⟨rfl,rfl,rfl⟩,⟨rfl,rfl,rfl⟩,⟨rfl,rfl,rfl⟩,⟨rfl,rfl,rfl⟩,⟨rfl,rfl,rfl⟩,⟨rfl,rfl,rfl⟩,⟨rfl,rfl,rfl⟩,⟨rfl,rfl,rfl⟩,⟨rfl,rfl,rfl⟩,⟨rfl,rfl,rfl⟩,⟨rfl,rfl,rfl⟩,trivial⟩ rfl H (by decide),aU fun _ _ H K => R.asgO (K 1 _ rfl) rfl H (by decide),trivial⟩ rfl rfl rfl rfl (tU rfl ?_)
 refine W.ret ?_
 exact Ends.one' (.inr rfl) rfl (rfl) rfl rfl trivial

theorem rright_ok (x : UInt32) (n : UInt64) : Fn Tryd.prog gl 58 [.u32 x,.u64 n] (.u32 (rright x n)) := by
 refine Fn.of (n := 13) Tryd.func58 rfl rfl rfl (nU rfl) fun C hC hD => ?_
 refine W.seq ?_
 refine W.l0 1 [.y 4 _] [] [] [(0,_),(1,_)] [] 13 ⟨aU fun _ _ H _ => R.asg (show ev _ _ (.const (.int .u32 0)) = some (.u32 0) from rfl) rfl H,trivial⟩ rfl rfl rfl rfl (tU rfl ?_)
 refine W.seq ?_
 refine W.l0 9 [.y 5 _,.y 6 _,.y 7 _,.y 8 _,.y 9 _,.y 10 _,.y 11 _,.y 12 _,.y 4 _] [] [] [(4,_)] [] 13 ⟨mU 0 rfl rfl,mU 1 rfl rfl,aU fun _ _ H K => R.bin (eU K 5 rfl) (eU K 6 rfl) rfl bV H,mU 0 rfl rfl,mU 1 rfl rfl,aU fun _ _ H K => R.bin (show ev _ _ (.const (.int .u64 32)) = some (.u64 32) from rfl) (eU K 9 rfl) rfl trivial H,aU fun _ _ H K => R.bin (eU K 8 rfl) (eU K 10 rfl) rfl bV H,aU fun _ _ H K => R.bin (eU K 7 rfl) (eU K 11 rfl) rfl trivial H,aU fun _ _ H K => R.asg (eU K 12 rfl) rfl H,trivial⟩ rfl rfl rfl rfl (tU rfl ?_)
 refine W.ret ?_
 exact Ends.one' (.inr rfl) rfl (rfl) rfl rfl trivial

theorem words_ok (p : List UInt8) (hp : p.length = 64) : Fn Tryd.prog gl 57 [.sl none 1 (p.map D.u8)] (.sl (some 94) 1 ((wR p 64).map D.u32)) := by
 refine Fn.of (n := 99) Tryd.func57 rfl rfl rfl (nU rfl) fun C hC hD => ?_
 refine W.seq ?_
 refine W.l0 1 [.y 2 _] [] [] [(0,_)] [] 99 ⟨aU fun _ _ H _ => R.asg (kN rfl) rfl H,trivial⟩ rfl rfl rfl rfl (tU rfl ?_)
 refine W.seq ?_
 refine W.l0 1 [.y 3 _] [] [] [(0,_),(3,_)] [] 99 ⟨aU fun _ _ H _ => R.asg (kN rfl) rfl H,trivial⟩ rfl rfl rfl rfl (tU rfl ?_)
 refine W.seq ?_
 refine W.seq ?_
 refine W.l0 1 [.y 4 _] [] [] [(0,_),(3,_),(4,_)] [] 99 ⟨aU fun _ _ H _ => R.asg (kI 0 rfl) rfl H,trivial⟩ rfl rfl rfl rfl (tU rfl ?_)
 refine W.block ?_
 refine W.asOwn (s := 3) 94 1 rfl ?_
 refine W.loop (α := {q__ : Nat // q__ ≤ 16}) (fun q__ => ⟨99,[(0,.sl none 1 (p.map D.u8)),(3,.sl (some 94) 1 ((wR p q__.1).map D.u32)),(4,.int ((q__.1 : Nat) : Int))],[]⟩) (fun q__ => 16 - q__.1) ⟨(0),bU⟩ rfl ?_
 rintro ⟨t,htl⟩
 show W _ _ _ _ ⟨99,[(0,.sl none 1 (p.map D.u8)),(3,.sl (some 94) 1 ((wR p t).map D.u32)),(4,.int ((t : Nat) : Int))],[]⟩
 have hwl := wR_len p t
 refine W.seq ?_
 refine W.seq ?_
 refine W.l0 2 [.y 10 _,.y 11 _] [] [] [(0,_),(3,_),(4,_),(11,_)] [] 99 ⟨mU 4 rfl rfl,aU fun _ _ H K => R.lssN (t) (16) (eU K 10 rfl) (kI 16 rfl) H,trivial⟩ rfl rfl rfl rfl (tU rfl ?_)
 refine W.condD rfl (fun hc11 => ?_) (fun hc11 => ?_)
 · refine W.skip ?_
   refine W.seq ?_
   refine W.block ?_
   refine W.draw (m := 37) (an := (0 :: 0 :: 0 :: 4 :: 14 :: 30 :: 62 :: 126 :: 0 :: 0 :: 512 :: 1536 :: 3840 :: 7936 :: 16128 :: 32512 :: 65534 :: 0 :: 0 :: 262144 :: 786432 :: 1966080 :: 4063232 :: 8257536 :: 16646144 :: 33554430 :: 0 :: 0 :: 134217728 :: 402653184 :: 1006632960 :: 2080374784 :: 4227858432 :: 8589934590 :: 17179869182 :: 34359738367 :: 68719476735 :: [])) hP (by decide) rfl (its := (.y 14 _ :: .y 15 _ :: .y 16 _ :: .y 17 _ :: .y 18 _ :: .y 19 _ :: .y 20 _ :: .y 21 _ :: .y 22 _ :: .y 23 _ :: .y 24 _ :: .y 25 _ :: .y 26 _ :: .y 27 _ :: .y 28 _ :: .y 29 _ :: .y 30 _ :: .y 31 _ :: .y 32 _ :: .y 33 _ :: .y 34 _ :: .y 35 _ :: .y 36 _ :: .y 37 _ :: .y 38 _ :: .y 39 _ :: .y 40 _ :: .y 41 _ :: .y 42 _ :: .y 43 _ :: .y 44 _ :: .y 45 _ :: .y 46 _ :: .y 47 _ :: .y 48 _ :: .y 49 _ :: .y 3 _ :: [])) (ks := [(35,3),(36,49),(36,14)]) (kk := [(35,3),(36,49)]) (live := [0,3,4]) (env' := [(0,_),(3,_),(4,_)]) (⟨nU rfl,rfl,⟨aU fun _ _ H K => R.al (K 3 _ rfl) H (by decide),mU 0 rfl rfl,mU 4 rfl rfl,aU fun _ _ H K => R.mulN (4) (t) (kI 4 rfl) (eU K 16 rfl) bU H,aU fun _ _ H K => R.idxN ((4 * t)) (SC.sl (K 15 _ rfl)) (evoI (eU K 17 rfl)) rfl bU H (by decide),aU fun _ _ H K => R.ldE (K 18 _ rfl) (SC.sl (K 15 _ rfl)) (map_get! (l := p) bU) rfl rfl rfl rfl H,aU fun _ _ H K => R.conv (eU K 19 rfl) rfl H,aU fun _ _ H K => R.bin (eU K 20 rfl) (show ev _ _ (.const (.int .u64 24)) = some (.u64 24) from rfl) rfl bV H,mU 0 rfl rfl,mU 4 rfl rfl,aU fun _ _ H K => R.mulN (4) (t) (kI 4 rfl) (eU K 23 rfl) bU H,aU fun _ _ H K => R.addN ((4 * t)) (1) (eU K 24 rfl) (kI 1 rfl) bU H,aU fun _ _ H K => R.idxN (((4 * t) + 1)) (SC.sl (K 22 _ rfl)) (evoI (eU K 25 rfl)) rfl bU H (by decide),aU fun _ _ H K => R.ldE (K 26 _ rfl) (SC.sl (K 22 _ rfl)) (map_get! (l := p) bU) rfl rfl rfl rfl H,aU fun _ _ H K => R.conv (eU K 27 rfl) rfl H,aU fun _ _ H K => R.bin (eU K 28 rfl) (show ev _ _ (.const (.int .u64 16)) = some (.u64 16) from rfl) rfl bV H,aU fun _ _ H K => R.bin (eU K 21 rfl) (eU K 29 rfl) rfl trivial H,mU 0 rfl rfl,mU 4 rfl rfl,aU fun _ _ H K => R.mulN (4) (t) (kI 4 rfl) (eU K 32 rfl) bU H,aU fun _ _ H K => R.addN ((4 * t)) (2) (eU K 33 rfl) (kI 2 rfl) bU H,aU fun _ _ H K => R.idxN (((4 * t) + 2)) (SC.sl (K 31 _ rfl)) (evoI (eU K 34 rfl)) rfl bU H (by decide),aU fun _ _ H K => R.ldE (K 35 _ rfl) (SC.sl (K 31 _ rfl)) (map_get! (l := p) bU) rfl rfl rfl rfl H,aU fun _ _ H K => R.conv (eU K 36 rfl) rfl H,aU fun _ _ H K => R.bin (eU K 37 rfl) (show ev _ _ (.const (.int .u64 8)) = some (.u64 8) from rfl) rfl bV H,aU fun _ _ H K => R.bin (eU K 30 rfl) (eU K 38 rfl) rfl trivial H,mU 0 rfl rfl,mU 4 rfl rfl,aU fun _ _ H K => R.mulN (4) (t) (kI 4 rfl) (eU K 41 rfl) bU H,aU fun _ _ H K => R.addN ((4 * t)) (3) (eU K 42 rfl) (kI 3 rfl) bU H,aU fun _ _ H K => R.idxN (((4 * t) + 3)) (SC.sl (K 40 _ rfl)) (evoI (eU K 43 rfl)) rfl bU H (by decide),aU fun _ _ H K => R.ldE (K 44 _ rfl) (SC.sl (K 40 _ rfl)) (map_get! (l := p) bU) rfl rfl rfl rfl H,aU fun _ _ H K => R.conv (eU K 45 rfl) rfl H,aU fun _ _ H K => R.bin (eU K 39 rfl) (eU K 46 rfl) rfl trivial H,aU fun _ _ H K => R.bslE (z := 1) (.cons (eU K 47 rfl) .nil) ⟨⟨rfl,rfl,rfl⟩,trivial⟩ rfl H (by decide),aU fun _ _ H K => R.appE (Or.inr (K 14 _ rfl)) (K 3 _ rfl) (SrcO.sc (SC.sl (K 48 _ rfl)) (pur_lit rfl)) (app_one) bU H (by decide) (by decide),aU fun _ _ H K => R.asgO (K 49 _ rfl) rfl H (by decide),trivial⟩,rfl,rfl,rfl⟩) rfl (bx' := []) rfl (n' := 99) rfl (tV [(0,_),(3,_),(4,_)] [] 99 rfl rfl rfl ?_)
   refine W.l0 3 [.y 12 _,.y 13 _,.y 4 _] [] [] [(0,_),(3,_),(4,_)] [] 99 ⟨mU 4 rfl rfl,aU fun _ _ H K => R.addN (t) (1) (eU K 12 rfl) (kI 1 rfl) bU H,aU fun _ _ H K => R.asg (eU K 13 rfl) rfl H,trivial⟩ rfl rfl rfl rfl (tU rfl ?_)
   exact ⟨⟨(t + 1),bU⟩,(by simp only [wR]; rw [if_pos hc11]; rfl),(by simp only []; omega)⟩
 · obtain rfl : t = 16 := by omega
   refine W.exit ?_
   refine W.seq ?_
   refine W.seq ?_
   refine W.l0 1 [.y 5 _] [] [] [(3,_),(5,_)] [] 99 ⟨aU fun _ _ H _ => R.asg (kI 16 rfl) rfl H,trivial⟩ rfl rfl rfl rfl (tU rfl ?_)
   refine W.block ?_
   refine W.loop (α := {q__ : Nat // 16 ≤ q__ ∧ q__ ≤ 64}) (fun q__ => ⟨99,[(3,.sl (some 94) 1 ((wR p q__.1).map D.u32)),(5,.int ((q__.1 : Nat) : Int))],[]⟩) (fun q__ => 64 - q__.1) ⟨(16),bU⟩ rfl ?_
   rintro ⟨t,⟨ht16,htl⟩⟩
   show W _ _ _ _ ⟨99,[(3,.sl (some 94) 1 ((wR p t).map D.u32)),(5,.int ((t : Nat) : Int))],[]⟩
   have hwl := wR_len p t
   refine W.seq ?_
   refine W.seq ?_
   refine W.l0 2 [.y 50 _,.y 51 _] [] [] [(3,_),(5,_),(51,_)] [] 99 ⟨mU 5 rfl rfl,aU fun _ _ H K => R.lssN (t) (64) (eU K 50 rfl) (kI 64 rfl) H,trivial⟩ rfl rfl rfl rfl (tU rfl ?_)
   refine W.condD rfl (fun hc51 => ?_) (fun hc51 => ?_)
   · refine W.skip ?_
     refine W.seq ?_
     refine W.block ?_
     refine W.seq ?_
     refine W.l0 6 [.y 54 _,.y 55 _,.y 56 _,.y 57 _,.y 58 _,.y 6 _] [] [] [(3,_),(5,_),(6,_)] [] 99 ⟨aU fun _ _ H K => R.al (K 3 _ rfl) H (by decide),mU 5 rfl rfl,aU fun _ _ H K => R.subN (t) (15) (eU K 55 rfl) (kI 15 rfl) bU bU H,aU fun _ _ H K => R.idxN ((t - 15)) (SC.al (K 54 _ rfl) (K 3 _ rfl)) (evoI (eU K 56 rfl)) rfl bU H (by decide),aU fun _ _ H K => R.ldE (K 57 _ rfl) (SC.al (K 54 _ rfl) (K 3 _ rfl)) (map_get! (l := (wR p t)) bU) rfl rfl rfl rfl H,aU fun _ _ H K => R.asg (eU K 58 rfl) rfl H,trivial⟩ rfl rfl rfl rfl (tU rfl ?_)
     refine W.seq ?_
     refine W.l0 6 [.y 59 _,.y 60 _,.y 61 _,.y 62 _,.y 63 _,.y 7 _] [] [] [(3,_),(5,_),(6,_),(7,_)] [] 99 ⟨aU fun _ _ H K => R.al (K 3 _ rfl) H (by decide),mU 5 rfl rfl,aU fun _ _ H K => R.subN (t) (2) (eU K 60 rfl) (kI 2 rfl) bU bU H,aU fun _ _ H K => R.idxN ((t - 2)) (SC.al (K 59 _ rfl) (K 3 _ rfl)) (evoI (eU K 61 rfl)) rfl bU H (by decide),aU fun _ _ H K => R.ldE (K 62 _ rfl) (SC.al (K 59 _ rfl) (K 3 _ rfl)) (map_get! (l := (wR p t)) bU) rfl rfl rfl rfl H,aU fun _ _ H K => R.asg (eU K 63 rfl) rfl H,trivial⟩ rfl rfl rfl rfl (tU rfl ?_)
     refine W.seq ?_
     refine W.l0 9 [.y 64 _,.y 65 _,.y 66 _,.y 67 _,.y 68 _,.y 69 _,.y 70 _,.y 71 _,.y 8 _] [] [] [(3,_),(5,_),(7,_),(8,_)] [] 99 ⟨mU 6 rfl rfl,aU fun _ _ H K => R.callG hC (rright_ok _ _) (Bors.cons (Bor.pur (eU K 64 rfl) rfl rfl) (Bors.cons (Bor.pur (show ev _ _ (.const (.int .u64 7)) = some (.u64 7) from rfl) rfl rfl) Bors.nil)) (FrsR.one (.u32 _)) H,mU 6 rfl rfl,aU fun _ _ H K => R.callG hC (rright_ok _ _) (Bors.cons (Bor.pur (eU K 66 rfl) rfl rfl) (Bors.cons (Bor.pur (show ev _ _ (.const (.int .u64 18)) = some (.u64 18) from rfl) rfl rfl) Bors.nil)) (FrsR.one (.u32 _)) H,aU fun _ _ H K => R.bin (eU K 65 rfl) (eU K 67 rfl) rfl trivial H,mU 6 rfl rfl,aU fun _ _ H K => R.bin (eU K 69 rfl) (show ev _ _ (.const (.int .u64 3)) = some (.u64 3) from rfl) rfl bV H,aU fun _ _ H K => R.bin (eU K 68 rfl) (eU K 70 rfl) rfl trivial H,aU fun _ _ H K => R.asg (eU K 71 rfl) rfl H,trivial⟩ rfl rfl rfl rfl (tU rfl ?_)
     refine W.seq ?_
     refine W.l0 9 [.y 72 _,.y 73 _,.y 74 _,.y 75 _,.y 76 _,.y 77 _,.y 78 _,.y 79 _,.y 9 _] [] [] [(3,_),(5,_),(8,_),(9,_)] [] 99 ⟨mU 7 rfl rfl,aU fun _ _ H K => R.callG hC (rright_ok _ _) (Bors.cons (Bor.pur (eU K 72 rfl) rfl rfl) (Bors.cons (Bor.pur (show ev _ _ (.const (.int .u64 17)) = some (.u64 17) from rfl) rfl rfl) Bors.nil)) (FrsR.one (.u32 _)) H,mU 7 rfl rfl,aU fun _ _ H K => R.callG hC (rright_ok _ _) (Bors.cons (Bor.pur (eU K 74 rfl) rfl rfl) (Bors.cons (Bor.pur (show ev _ _ (.const (.int .u64 19)) = some (.u64 19) from rfl) rfl rfl) Bors.nil)) (FrsR.one (.u32 _)) H,aU fun _ _ H K => R.bin (eU K 73 rfl) (eU K 75 rfl) rfl trivial H,mU 7 rfl rfl,aU fun _ _ H K => R.bin (eU K 77 rfl) (show ev _ _ (.const (.int .u64 10)) = some (.u64 10) from rfl) rfl bV H,aU fun _ _ H K => R.bin (eU K 76 rfl) (eU K 78 rfl) rfl trivial H,aU fun _ _ H K => R.asg (eU K 79 rfl) rfl H,trivial⟩ rfl rfl rfl rfl (tU rfl ?_)
     refine W.draw (m := 19) (an := [0,0,0,0,8,28,60,126,0,510,0,0,2048,7168,15360,32766,65534,131071,262143]) hP (by decide) rfl (its := [.y 80 _,.y 81 _,.y 82 _,.y 83 _,.y 84 _,.y 85 _,.y 86 _,.y 87 _,.y 88 _,.y 89 _,.y 90 _,.y 91 _,.y 92 _,.y 93 _,.y 94 _,.y 95 _,.y 96 _,.y 97 _,.y 3 _]) (ks := [(17,3),(18,97),(18,80),(18,82),(18,90)]) (kk := [(17,3),(18,97)]) (live := [3,5]) (env' := [(3,_),(5,_)]) (⟨nU rfl,rfl,⟨aU fun _ _ H K => R.al (K 3 _ rfl) H (by decide),mU 9 rfl rfl,aU fun _ _ H K => R.al (K 3 _ rfl) H (by decide),mU 5 rfl rfl,aU fun _ _ H K => R.subN (t) (7) (eU K 83 rfl) (kI 7 rfl) bU bU H,aU fun _ _ H K => R.idxN ((t - 7)) (SC.al (K 82 _ rfl) (K 3 _ rfl)) (evoI (eU K 84 rfl)) rfl bU H (by decide),aU fun _ _ H K => R.ldE (K 85 _ rfl) (SC.al (K 82 _ rfl) (K 3 _ rfl)) (map_get! (l := (wR p t)) bU) rfl rfl rfl rfl H,aU fun _ _ H K => R.bin (eU K 81 rfl) (eU K 86 rfl) rfl trivial H,mU 8 rfl rfl,aU fun _ _ H K => R.bin (eU K 87 rfl) (eU K 88 rfl) rfl trivial H,aU fun _ _ H K => R.al (K 3 _ rfl) H (by decide),mU 5 rfl rfl,aU fun _ _ H K => R.subN (t) (16) (eU K 91 rfl) (kI 16 rfl) bU bU H,aU fun _ _ H K => R.idxN ((t - 16)) (SC.al (K 90 _ rfl) (K 3 _ rfl)) (evoI (eU K 92 rfl)) rfl bU H (by decide),aU fun _ _ H K => R.ldE (K 93 _ rfl) (SC.al (K 90 _ rfl) (K 3 _ rfl)) (map_get! (l := (wR p t)) bU) rfl rfl rfl rfl H,aU fun _ _ H K => R.bin (eU K 89 rfl) (eU K 94 rfl) rfl trivial H,aU fun _ _ H K => R.bslE (z := 1) (.cons (eU K 95 rfl) .nil) ⟨⟨rfl,rfl,rfl⟩,trivial⟩ rfl H (by decide),aU fun _ _ H K => R.appE (Or.inr (K 80 _ rfl)) (K 3 _ rfl) (SrcO.sc (SC.sl (K 96 _ rfl)) (pur_lit rfl)) (app_one) bU H (by decide) (by decide),aU fun _ _ H K => R.asgO (K 97 _ rfl) rfl H (by decide),trivial⟩,rfl,rfl,rfl⟩) rfl (bx' := []) rfl (n' := 99) rfl (tV [(3,_),(5,_)] [] 99 rfl rfl rfl ?_)
     refine W.l0 3 [.y 52 _,.y 53 _,.y 5 _] [] [] [(3,_),(5,_)] [] 99 ⟨mU 5 rfl rfl,aU fun _ _ H K => R.addN (t) (1) (eU K 52 rfl) (kI 1 rfl) bU H,aU fun _ _ H K => R.asg (eU K 53 rfl) rfl H,trivial⟩ rfl rfl rfl rfl (tU rfl ?_)
     exact ⟨⟨(t + 1),bU⟩,(by simp only [wR]; rw [if_neg (by omega)]; rfl),(by simp only []; omega)⟩
   · obtain rfl : t = 64 := by omega
     refine W.exit ?_
     refine W.seq ?_
     refine W.l0 2 [.y 98 _,.y 2 _] [(0,3),(1,98)] [(0,3),(1,98)] [(2,_)] [] 99 ⟨aU fun _ _ H K => R.movO (K 3 _ rfl) rfl H (by decide),aU fun _ _ H K => R.asgO (K 98 _ rfl) rfl H (by decide),trivial⟩ rfl rfl rfl rfl (tU rfl ?_)
     refine W.ret ?_
     exact Ends.one' (.inr rfl) rfl (rfl) rfl rfl trivial

theorem text_ok (b : List UInt8) (hb0 : b.length ≤ 1000000000) : Fn Tryd.prog gl 55 [.sl none 1 (b.map D.u8)] (.sl (some 5) 1 ((textR b).map D.u8)) := by
 refine Fn.of (n := 37) Tryd.func55 rfl rfl rfl (nU rfl) fun C hC hD => ?_
 refine W.seq ?_
 refine W.l0 1 [.y 2 _] [] [] [(0,_)] [] 37 ⟨aU fun _ _ H _ => R.asg (kN rfl) rfl H,trivial⟩ rfl rfl rfl rfl (tU rfl ?_)
 refine W.seq ?_
 refine W.l0 4 [.y 6 _,.y 7 _,.y 8 _,.y 3 _] [(2,6),(3,8)] [(2,6),(3,8)] [(0,_),(3,_)] [] 37 ⟨aU fun _ _ H _ => R.bslE .nil trivial rfl H (by decide),mU 0 rfl rfl,aU fun _ _ H K => R.appE (Or.inl rfl) (K 6 _ rfl) (SrcO.sc (SC.sl (K 7 _ rfl)) (pur_map (fun _ => rfl))) (List.nil_append _) bU H (by decide) (by decide),aU fun _ _ H K => R.asgO (K 8 _ rfl) rfl H (by decide),trivial⟩ rfl rfl rfl rfl (tU rfl ?_)
 refine W.seq ?_
 refine W.l0 4 [.y 9 _,.y 10 _,.y 11 _,.y 3 _] [(2,3),(3,11),(3,9)] [(2,3),(3,11)] [(0,_),(3,_)] [] 37 ⟨aU fun _ _ H K => R.al (K 3 _ rfl) H (by decide),aU fun _ _ H _ => R.bslE (z := 1) (.cons (show ev _ _ (.const (.int .u8 128)) = some (.u8 128) from rfl) .nil) ⟨⟨rfl,rfl,rfl⟩,trivial⟩ rfl H (by decide),aU fun _ _ H K => R.appE (Or.inr (K 9 _ rfl)) (K 3 _ rfl) (SrcO.sc (SC.sl (K 10 _ rfl)) (pur_lit rfl)) (app_one) bU H (by decide) (by decide),aU fun _ _ H K => R.asgO (K 11 _ rfl) rfl H (by decide),trivial⟩ rfl rfl rfl rfl (tU rfl ?_)
 refine W.seq ?_
 refine W.block ?_
 refine W.loop (α := {q__ : Nat // q__ ≤ zR b}) (fun q__ => ⟨37,[(0,.sl none 1 (b.map D.u8)),(3,.sl (some 5) 1 ((b ++ [128] ++ List.replicate q__.1 0).map D.u8))],[]⟩) (fun q__ => zR b - q__.1) ⟨(0),bU⟩ (by simp) ?_
 rintro ⟨z,hz⟩
 show W _ _ _ _ ⟨37,[(0,.sl none 1 (b.map D.u8)),(3,.sl (some 5) 1 ((b ++ [128] ++ List.replicate z 0).map D.u8))],[]⟩
 have hz0 : zR b ≤ 63 := by unfold zR; omega
 refine W.seq ?_
 refine W.seq ?_
 refine W.l0 4 [.y 12 _,.y 13 _,.y 14 _,.y 15 _] [] [] [(0,_),(3,_),(15,_)] [] 37 ⟨aU fun _ _ H K => R.al (K 3 _ rfl) H (by decide),aU fun _ _ H K => R.lenE (SC.al (K 12 _ rfl) (K 3 _ rfl)) (List.length_map _) H,aU fun _ _ H K => R.remN ((b ++ [128] ++ List.replicate z 0).length) (64) (eU K 13 rfl) (kI 64 rfl) (by (first | decide | omega)) H,aU fun _ _ H K => R.neqN (((b ++ [128] ++ List.replicate z 0).length % 64)) (56) (eU K 14 rfl) (kI 56 rfl) H,trivial⟩ rfl rfl rfl rfl (tU rfl ?_)
 refine W.condD rfl (fun hc15 => ?_) (fun hc15 => ?_)
 · refine W.skip ?_
   refine W.block ?_
   refine W.l0 4 [.y 16 _,.y 17 _,.y 18 _,.y 3 _] [(2,3),(3,18),(3,16)] [(2,3),(3,18)] [(0,_),(3,_)] [] 37 ⟨aU fun _ _ H K => R.al (K 3 _ rfl) H (by decide),aU fun _ _ H _ => R.bslE (z := 1) (.cons (show ev _ _ (.const (.int .u8 0)) = some (.u8 0) from rfl) .nil) ⟨⟨rfl,rfl,rfl⟩,trivial⟩ rfl H (by decide),aU fun _ _ H K => R.appE (Or.inr (K 16 _ rfl)) (K 3 _ rfl) (SrcO.sc (SC.sl (K 17 _ rfl)) (pur_lit rfl)) (app_one) bU H (by decide) (by decide),aU fun _ _ H K => R.asgO (K 18 _ rfl) rfl H (by decide),trivial⟩ rfl rfl rfl rfl (tU rfl ?_)
   exact ⟨⟨(z + 1),(by simp only [List.length_append,List.length_replicate,List.length_singleton] at hc15; unfold zR at *; omega)⟩,(by rw [List.replicate_succ',← List.append_assoc]),(by simp only [List.length_append,List.length_replicate,List.length_singleton] at hc15; unfold zR at *; simp only []; omega)⟩
 · obtain rfl : z = zR b := by simp only [List.length_append,List.length_replicate,List.length_singleton,ne_eq,Classical.not_not] at hc15; unfold zR at *; omega
   refine W.exit ?_
   refine W.seq ?_
   refine W.l0 5 [.y 19 _,.y 20 _,.y 21 _,.y 22 _,.y 4 _] [] [] [(3,_),(4,_)] [] 37 ⟨mU 0 rfl rfl,aU fun _ _ H K => R.lenE (SC.sl (K 19 _ rfl)) (List.length_map _) H,aU fun _ _ H K => R.conv (eU K 20 rfl) rfl H,aU fun _ _ H K => R.bin (eU K 21 rfl) (show ev _ _ (.const (.int .u64 8)) = some (.u64 8) from rfl) rfl trivial H,aU fun _ _ H K => R.asg (eU K 22 rfl) rfl H,trivial⟩ rfl rfl rfl rfl (tU rfl ?_)
   refine W.seq ?_
   refine W.seq ?_
   refine W.l0 1 [.y 5 _] [] [] [(3,_),(4,_),(5,_)] [] 37 ⟨aU fun _ _ H _ => R.asg (kI 7 rfl) rfl H,trivial⟩ rfl rfl rfl rfl (tU rfl ?_)
   refine W.block ?_
   refine W.loop (α := {q__ : Nat // q__ ≤ 8}) (fun q__ => ⟨37,[(3,.sl (some 5) 1 ((b ++ [128] ++ List.replicate (zR b) 0 ++ tailR (bitsR b) q__.1).map D.u8)),(4,.u64 (bitsR b)),(5,.int (7 - ((q__.1 : Nat) : Int)))],[]⟩) (fun q__ => 8 - q__.1) ⟨(0),bU⟩ (by simp [tailR]; rfl) ?_
   rintro ⟨j,hj⟩
   show W _ _ _ _ ⟨37,[(3,.sl (some 5) 1 ((b ++ [128] ++ List.replicate (zR b) 0 ++ tailR (bitsR b) j).map D.u8)),(4,.u64 (bitsR b)),(5,.int (7 - ((j : Nat) : Int)))],[]⟩
   have htl := tailR_len (bitsR b) j
   have hz1 : zR b ≤ 63 := by unfold zR; omega
   refine W.seq ?_
   refine W.seq ?_
   refine W.l0 2 [.y 23 _,.y 24 _] [] [] [(3,_),(4,_),(5,_),(24,_)] [] 37 ⟨mU 5 rfl rfl,aU fun _ _ H K => R.bin (eU K 23 rfl) (kI 0 rfl) rfl trivial H,trivial⟩ rfl rfl rfl rfl (tU rfl ?_)
   refine W.cond rfl (fun hc24 => ?_) (fun hc24 => ?_)
   · refine W.skip ?_
     refine W.seq ?_
     refine W.block ?_
     refine W.l0 10 [.y 27 _,.y 28 _,.y 29 _,.y 30 _,.y 31 _,.y 32 _,.y 33 _,.y 34 _,.y 35 _,.y 3 _] [(8,3),(9,35),(9,27)] [(8,3),(9,35)] [(3,_),(4,_),(5,_)] [] 37 ⟨aU fun _ _ H K => R.al (K 3 _ rfl) H (by decide),mU 4 rfl rfl,mU 5 rfl rfl,aU fun _ _ H K => R.bin (kI 8 rfl) (eU K 29 rfl) rfl trivial H,aU fun _ _ H K => R.conv (eU K 30 rfl) rfl H,aU fun _ _ H K => R.bin (eU K 28 rfl) (eU K 31 rfl) rfl bV H,aU fun _ _ H K => R.conv (eU K 32 rfl) rfl H,aU fun _ _ H K => R.bslE (z := 1) (.cons (eU K 33 rfl) .nil) ⟨⟨rfl,rfl,rfl⟩,trivial⟩ rfl H (by decide),aU fun _ _ H K => R.appE (Or.inr (K 27 _ rfl)) (K 3 _ rfl) (SrcO.sc (SC.sl (K 34 _ rfl)) (pur_lit rfl)) (app_one) bU H (by decide) (by decide),aU fun _ _ H K => R.asgO (K 35 _ rfl) rfl H (by decide),trivial⟩ rfl rfl rfl rfl (tU rfl ?_)
     refine W.l0 3 [.y 25 _,.y 26 _,.y 5 _] [] [] [(3,_),(4,_),(5,_)] [] 37 ⟨mU 5 rfl rfl,aU fun _ _ H K => R.binE (d := .int (7 - ((j + 1 : Nat) : Int))) (eU K 25 rfl) (kI 1 rfl) rfl trivial (wr_eq (by omega) (by omega) (by omega)) H,aU fun _ _ H K => R.asg (eU K 26 rfl) rfl H,trivial⟩ rfl rfl rfl rfl (tU rfl ?_)
     exact ⟨⟨(j + 1),(by have := of_decide_eq_true hc24; omega)⟩,(by simp only [tailR,← List.append_assoc]; rfl),(by have := of_decide_eq_true hc24; simp only []; omega)⟩
   · obtain rfl : j = 8 := by have := of_decide_eq_false hc24; omega
     refine W.exit ?_
     refine W.seq ?_
     refine W.l0 2 [.y 36 _,.y 2 _] [(0,3),(1,36)] [(0,3),(1,36)] [(2,_)] [] 37 ⟨aU fun _ _ H K => R.movO (K 3 _ rfl) rfl H (by decide),aU fun _ _ H K => R.asgO (K 36 _ rfl) rfl H (by decide),trivial⟩ rfl rfl rfl rfl (tU rfl ?_)
     refine W.ret ?_
     exact Ends.one' (.inr rfl) rfl (rfl) rfl rfl trivial

theorem rsum_ok (b : List UInt8) (hb0 : b.length ≤ 1000000000) : Fn Tryd.prog gl 51 [.sl none 1 (b.map D.u8)] (hashD (sumR b)) := by
 refine Fn.of (n := 171) Tryd.func51 rfl rfl rfl (nU rfl) fun C hC hD => ?_
 refine W.seq ?_
 refine W.l0 1 [] [] [] [(0,_)] [] 171 trivial rfl rfl rfl rfl (⟨rfl,_,R.alloc rfl (nU rfl),tV [(0,_),(2,_)] [(2,.var _)] 171 rfl rfl rfl ?_⟩)
 refine W.seq ?_
 refine W.l0 2 [.y 19 _,.y 3 _] [(1,19)] [(1,19)] [(0,_),(2,_),(3,_)] [(2,.var _)] 171 ⟨aU fun _ _ H _ => R.bslE (z := 1) (.cons (show ev _ _ (.const (.int .u32 1779033703)) = some (.u32 1779033703) from rfl) (.cons (show ev _ _ (.const (.int .u32 3144134277)) = some (.u32 3144134277) from rfl) (.cons (show ev _ _ (.const (.int .u32 1013904242)) = some (.u32 1013904242) from rfl) (.cons (show ev _ _ (.const (.int .u32 2773480762)) = some (.u32 2773480762) from rfl) (.cons (show ev _ _ (.const (.int .u32 1359893119)) = some (.u32 1359893119) from rfl) (.cons (show ev _ _ (.const (.int .u32 2600822924)) = some (.u32 2600822924) from rfl) (.cons (show ev _ _ (.const (.int .u32 528734635)) = some (.u32 528734635) from rfl) (.cons (show ev _ _ (.const (.int .u32 1541459225)) = some (.u32 1541459225) from rfl) .nil)))))))) ⟨⟨rfl,rfl,rfl⟩,⟨rfl,rfl,rfl⟩,⟨rfl,rfl,rfl⟩,⟨rfl,rfl,rfl⟩,⟨rfl,rfl,rfl⟩,⟨rfl,rfl,rfl⟩,⟨rfl,rfl,rfl⟩,⟨rfl,rfl,rfl⟩,trivial⟩ rfl H (by decide),aU fun _ _ H K => R.asgO (K 19 _ rfl) rfl H (by decide),trivial⟩ rfl rfl rfl rfl (tU rfl ?_)
 refine W.seq ?_
 refine W.l0 3 [.y 20 _,.y 21 _,.y 4 _] [(2,21)] [(2,21)] [(2,_),(3,_),(4,_)] [(2,.var _)] 171 ⟨mU 0 rfl rfl,aU fun _ _ H K => R.callG hC (text_ok b hb0) (Bors.cons (Bor.pur (eU K 20 rfl) rfl rfl) Bors.nil) (FrsR.one (.sl _ _ _ (frs_map fun _ => .u8 _))) H,aU fun _ _ H K => R.asgO (K 21 _ rfl) rfl H (by decide),trivial⟩ rfl rfl rfl rfl (tU rfl ?_)
 refine W.seq ?_
 refine W.l0 2 [.y 22 _,.y 5 _] [(1,22)] [(1,22)] [(2,_),(3,_),(4,_),(5,_)] [(2,.var _)] 171 ⟨aU fun _ _ H _ => R.callG hC (k_ok) Bors.nil (FrsR.one (.sl _ _ _ (frs_map fun _ => .u32 _))) H,aU fun _ _ H K => R.asgO (K 22 _ rfl) rfl H (by decide),trivial⟩ rfl rfl rfl rfl (tU rfl ?_)
 refine W.seq ?_
 refine W.seq ?_
 refine W.l0 1 [.y 6 _] [] [] [(2,_),(3,_),(4,_),(5,_),(6,_)] [(2,.var _)] 171 ⟨aU fun _ _ H _ => R.asg (kI 0 rfl) rfl H,trivial⟩ rfl rfl rfl rfl (tU rfl ?_)
 refine W.block ?_
 refine W.loop (α := {q__ : Nat // q__ ≤ pieces b}) (fun q__ => ⟨171,[(2,.ptr 2 0 []),(3,.sl (some 94) 1 ((hR (textR b) q__.1).map D.u32)),(4,.sl (some 5) 1 ((textR b).map D.u8)),(5,.sl (some 94) 1 (kTab.map D.u32)),(6,.int ((64 * q__.1 : Nat) : Int))],[(2,.var (hashD (List.replicate 32 0)))]⟩) (fun q__ => pieces b - q__.1) ⟨(0),bU⟩ rfl ?_
 rintro ⟨m,hm⟩
 show W _ _ _ _ ⟨171,[(2,.ptr 2 0 []),(3,.sl (some 94) 1 ((hR (textR b) m).map D.u32)),(4,.sl (some 5) 1 ((textR b).map D.u8)),(5,.sl (some 94) 1 (kTab.map D.u32)),(6,.int ((64 * m : Nat) : Int))],[(2,.var (hashD (List.replicate 32 0)))]⟩
 have htp := textR_pieces b
 have htl := textR_len b
 have hz1 : zR b ≤ 63 := by unfold zR; omega
 have hhl := hR_len (textR b) m
 refine W.seq ?_
 refine W.seq ?_
 refine W.l0 4 [.y 23 _,.y 24 _,.y 25 _,.y 26 _] [] [] [(2,_),(3,_),(4,_),(5,_),(6,_),(26,_)] [(2,.var _)] 171 ⟨mU 6 rfl rfl,aU fun _ _ H K => R.al (K 4 _ rfl) H (by decide),aU fun _ _ H K => R.lenE (SC.al (K 24 _ rfl) (K 4 _ rfl)) (List.length_map _) H,aU fun _ _ H K => R.lssN (64 * m) ((textR b).length) (eU K 23 rfl) (eU K 25 rfl) H,trivial⟩ rfl rfl rfl rfl (tU rfl ?_)
 refine W.condD rfl (fun hc26 => ?_) (fun hc26 => ?_)
 · refine W.skip ?_
   refine W.seq ?_
   refine W.block ?_
   refine W.seq ?_
   refine W.l0 7 [.y 29 _,.y 30 _,.y 31 _,.y 32 _,.y 33 _,.y 34 _,.y 7 _] [(6,34)] [(6,34)] [(2,_),(3,_),(4,_),(5,_),(6,_),(7,_)] [(2,.var _)] 171 ⟨aU fun _ _ H K => R.al (K 4 _ rfl) H (by decide),mU 6 rfl rfl,mU 6 rfl rfl,aU fun _ _ H K => R.addN (64 * m) (64) (eU K 31 rfl) (kI 64 rfl) bU H,aU fun _ _ H K => R.slVN (64 * m) ((64 * m + 64)) (64) (SC.al (K 29 _ rfl) (K 4 _ rfl)) (evoI (eU K 30 rfl)) (evoI (eU K 32 rfl)) rfl rfl bU bU bU H (by decide),aU fun _ _ H K => R.callG hC (words_ok (((textR b).drop (64 * m)).take 64) (by simp only [List.length_take,List.length_drop]; omega)) (Bors.cons (Bor.sc (SC.vw (K 33 _ rfl) (SC.al (K 29 _ rfl) (K 4 _ rfl)) (by simp only [List.length_map]; omega)) (brw_part (fun _ => rfl))) Bors.nil) (FrsR.one (.sl _ _ _ (frs_map fun _ => .u32 _))) H,aU fun _ _ H K => R.asgO (K 34 _ rfl) rfl H (by decide),trivial⟩ rfl rfl rfl rfl (tU rfl ?_)
   refine W.seq ?_
   refine W.l0 4 [.y 35 _,.y 36 _,.y 37 _,.y 8 _] [(2,35),(3,37)] [(2,35),(3,37)] [(2,_),(3,_),(4,_),(5,_),(6,_),(7,_),(8,_)] [(2,.var _)] 171 ⟨aU fun _ _ H _ => R.bslE .nil trivial rfl H (by decide),aU fun _ _ H K => R.al (K 3 _ rfl) H (by decide),aU fun _ _ H K => R.appE (Or.inl rfl) (K 35 _ rfl) (SrcO.sc (SC.al (K 36 _ rfl) (K 3 _ rfl)) (pur_map (fun _ => rfl))) (List.nil_append _) bU H (by decide) (by decide),aU fun _ _ H K => R.asgO (K 37 _ rfl) rfl H (by decide),trivial⟩ rfl rfl rfl rfl (tU rfl ?_)
   refine W.seq ?_
   refine W.seq ?_
   refine W.l0 1 [.y 9 _] [] [] [(2,_),(3,_),(4,_),(5,_),(6,_),(7,_),(8,_),(9,_)] [(2,.var _)] 171 ⟨aU fun _ _ H _ => R.asg (kI 0 rfl) rfl H,trivial⟩ rfl rfl rfl rfl (tU rfl ?_)
   refine W.block ?_
   refine W.loop (α := {q__ : Nat // q__ ≤ 64}) (fun q__ => ⟨171,[(2,.ptr 2 0 []),(3,.sl (some 94) 1 ((hR (textR b) m).map D.u32)),(4,.sl (some 5) 1 ((textR b).map D.u8)),(5,.sl (some 94) 1 (kTab.map D.u32)),(6,.int ((64 * m : Nat) : Int)),(7,.sl (some 94) 1 ((wR (((textR b).drop (64 * m)).take 64) 64).map D.u32)),(8,.sl (some 94) 1 ((rdsR (hR (textR b) m) (wR (((textR b).drop (64 * m)).take 64) 64) q__.1).map D.u32)),(9,.int ((q__.1 : Nat) : Int))],[(2,.var (hashD (List.replicate 32 0)))]⟩) (fun q__ => 64 - q__.1) ⟨(0),bU⟩ rfl ?_
   rintro ⟨t,ht⟩
   show W _ _ _ _ ⟨171,[(2,.ptr 2 0 []),(3,.sl (some 94) 1 ((hR (textR b) m).map D.u32)),(4,.sl (some 5) 1 ((textR b).map D.u8)),(5,.sl (some 94) 1 (kTab.map D.u32)),(6,.int ((64 * m : Nat) : Int)),(7,.sl (some 94) 1 ((wR (((textR b).drop (64 * m)).take 64) 64).map D.u32)),(8,.sl (some 94) 1 ((rdsR (hR (textR b) m) (wR (((textR b).drop (64 * m)).take 64) 64) t).map D.u32)),(9,.int ((t : Nat) : Int))],[(2,.var (hashD (List.replicate 32 0)))]⟩
   have hwl := wR_len (((textR b).drop (64 * m)).take 64) 64
   have hkl : kTab.length = 64 := rfl
   have hrl := rdsR_len (hR (textR b) m) (wR (((textR b).drop (64 * m)).take 64) 64) t hhl
   refine W.seq ?_
   refine W.seq ?_
   refine W.l0 2 [.y 38 _,.y 39 _] [] [] [(2,_),(3,_),(4,_),(5,_),(6,_),(7,_),(8,_),(9,_),(39,_)] [(2,.var _)] 171 ⟨mU 9 rfl rfl,aU fun _ _ H K => R.lssN (t) (64) (eU K 38 rfl) (kI 64 rfl) H,trivial⟩ rfl rfl rfl rfl (tU rfl ?_)
   refine W.condD rfl (fun hc39 => ?_) (fun hc39 => ?_)
   · refine W.skip ?_
     refine W.seq ?_
     refine W.block ?_
     refine W.seq ?_
     refine W.l0 4 [.y 42 _,.y 43 _,.y 44 _,.y 10 _] [] [] [(2,_),(3,_),(4,_),(5,_),(6,_),(7,_),(8,_),(9,_),(10,_)] [(2,.var _)] 171 ⟨aU fun _ _ H K => R.al (K 8 _ rfl) H (by decide),aU fun _ _ H K => R.idxN (0) (SC.al (K 42 _ rfl) (K 8 _ rfl)) (evoI (kI 0 rfl)) rfl bU H (by decide),aU fun _ _ H K => R.ldE (K 43 _ rfl) (SC.al (K 42 _ rfl) (K 8 _ rfl)) (map_get! (l := (rdsR (hR (textR b) m) (wR (((textR b).drop (64 * m)).take 64) 64) t)) bU) rfl rfl rfl rfl H,aU fun _ _ H K => R.asg (eU K 44 rfl) rfl H,trivial⟩ rfl rfl rfl rfl (tU rfl ?_)
     refine W.seq ?_
     refine W.l0 4 [.y 45 _,.y 46 _,.y 47 _,.y 11 _] [] [] [(2,_),(3,_),(4,_),(5,_),(6,_),(7,_),(8,_),(9,_),(10,_),(11,_)] [(2,.var _)] 171 ⟨aU fun _ _ H K => R.al (K 8 _ rfl) H (by decide),aU fun _ _ H K => R.idxN (4) (SC.al (K 45 _ rfl) (K 8 _ rfl)) (evoI (kI 4 rfl)) rfl bU H (by decide),aU fun _ _ H K => R.ldE (K 46 _ rfl) (SC.al (K 45 _ rfl) (K 8 _ rfl)) (map_get! (l := (rdsR (hR (textR b) m) (wR (((textR b).drop (64 * m)).take 64) 64) t)) bU) rfl rfl rfl rfl H,aU fun _ _ H K => R.asg (eU K 47 rfl) rfl H,trivial⟩ rfl rfl rfl rfl (tU rfl ?_)
     refine W.seq ?_
     refine W.l0 9 [.y 48 _,.y 49 _,.y 50 _,.y 51 _,.y 52 _,.y 53 _,.y 54 _,.y 55 _,.y 12 _] [] [] [(2,_),(3,_),(4,_),(5,_),(6,_),(7,_),(8,_),(9,_),(10,_),(11,_),(12,_)] [(2,.var _)] 171 ⟨mU 11 rfl rfl,aU fun _ _ H K => R.callG hC (rright_ok _ _) (Bors.cons (Bor.pur (eU K 48 rfl) rfl rfl) (Bors.cons (Bor.pur (show ev _ _ (.const (.int .u64 6)) = some (.u64 6) from rfl) rfl rfl) Bors.nil)) (FrsR.one (.u32 _)) H,mU 11 rfl rfl,aU fun _ _ H K => R.callG hC (rright_ok _ _) (Bors.cons (Bor.pur (eU K 50 rfl) rfl rfl) (Bors.cons (Bor.pur (show ev _ _ (.const (.int .u64 11)) = some (.u64 11) from rfl) rfl rfl) Bors.nil)) (FrsR.one (.u32 _)) H,aU fun _ _ H K => R.bin (eU K 49 rfl) (eU K 51 rfl) rfl trivial H,mU 11 rfl rfl,aU fun _ _ H K => R.callG hC (rright_ok _ _) (Bors.cons (Bor.pur (eU K 53 rfl) rfl rfl) (Bors.cons (Bor.pur (show ev _ _ (.const (.int .u64 25)) = some (.u64 25) from rfl) rfl rfl) Bors.nil)) (FrsR.one (.u32 _)) H,aU fun _ _ H K => R.bin (eU K 52 rfl) (eU K 54 rfl) rfl trivial H,aU fun _ _ H K => R.asg (eU K 55 rfl) rfl H,trivial⟩ rfl rfl rfl rfl (tU rfl ?_)
     refine W.seq ?_
     refine W.draw (m := 29) (an := (0 :: 1 :: 3 :: 0 :: 15 :: 0 :: 0 :: 64 :: 192 :: 480 :: 0 :: 1024 :: 0 :: 4096 :: 12288 :: 31744 :: 65504 :: 131071 :: 0 :: 0 :: 786432 :: 1835008 :: 4194303 :: 0 :: 0 :: 25165824 :: 58720256 :: 134217727 :: 268435455 :: [])) hP (by decide) rfl (its := (.y 56 _ :: .y 57 _ :: .y 58 _ :: .y 59 _ :: .y 60 _ :: .y 61 _ :: .y 62 _ :: .y 63 _ :: .y 64 _ :: .y 65 _ :: .y 66 _ :: .y 67 _ :: .y 68 _ :: .y 69 _ :: .y 70 _ :: .y 71 _ :: .y 72 _ :: .y 73 _ :: .y 74 _ :: .y 75 _ :: .y 76 _ :: .y 77 _ :: .y 78 _ :: .y 79 _ :: .y 80 _ :: .y 81 _ :: .y 82 _ :: .y 83 _ :: .y 13 _ :: [])) (ks := []) (kk := []) (live := [2,3,4,5,6,7,8,9,10,11,13]) (env' := [(2,_),(3,_),(4,_),(5,_),(6,_),(7,_),(8,_),(9,_),(10,_),(11,_),(13,_)]) (⟨nU rfl,rfl,⟨aU fun _ _ H K => R.al (K 8 _ rfl) H (by decide),aU fun _ _ H K => R.idxN (7) (SC.al (K 56 _ rfl) (K 8 _ rfl)) (evoI (kI 7 rfl)) rfl bU H (by decide),aU fun _ _ H K => R.ldE (K 57 _ rfl) (SC.al (K 56 _ rfl) (K 8 _ rfl)) (map_get! (l := (rdsR (hR (textR b) m) (wR (((textR b).drop (64 * m)).take 64) 64) t)) bU) rfl rfl rfl rfl H,mU 12 rfl rfl,aU fun _ _ H K => R.bin (eU K 58 rfl) (eU K 59 rfl) rfl trivial H,mU 11 rfl rfl,aU fun _ _ H K => R.al (K 8 _ rfl) H (by decide),aU fun _ _ H K => R.idxN (5) (SC.al (K 62 _ rfl) (K 8 _ rfl)) (evoI (kI 5 rfl)) rfl bU H (by decide),aU fun _ _ H K => R.ldE (K 63 _ rfl) (SC.al (K 62 _ rfl) (K 8 _ rfl)) (map_get! (l := (rdsR (hR (textR b) m) (wR (((textR b).drop (64 * m)).take 64) 64) t)) bU) rfl rfl rfl rfl H,aU fun _ _ H K => R.bin (eU K 61 rfl) (eU K 64 rfl) rfl trivial H,mU 11 rfl rfl,aU fun _ _ H K => R.un (eU K 66 rfl) rfl H,aU fun _ _ H K => R.al (K 8 _ rfl) H (by decide),aU fun _ _ H K => R.idxN (6) (SC.al (K 68 _ rfl) (K 8 _ rfl)) (evoI (kI 6 rfl)) rfl bU H (by decide),aU fun _ _ H K => R.ldE (K 69 _ rfl) (SC.al (K 68 _ rfl) (K 8 _ rfl)) (map_get! (l := (rdsR (hR (textR b) m) (wR (((textR b).drop (64 * m)).take 64) 64) t)) bU) rfl rfl rfl rfl H,aU fun _ _ H K => R.bin (eU K 67 rfl) (eU K 70 rfl) rfl trivial H,aU fun _ _ H K => R.bin (eU K 65 rfl) (eU K 71 rfl) rfl trivial H,aU fun _ _ H K => R.bin (eU K 60 rfl) (eU K 72 rfl) rfl trivial H,aU fun _ _ H K => R.al (K 5 _ rfl) H (by decide),mU 9 rfl rfl,aU fun _ _ H K => R.idxN (t) (SC.al (K 74 _ rfl) (K 5 _ rfl)) (evoI (eU K 75 rfl)) rfl bU H (by decide),aU fun _ _ H K => R.ldE (K 76 _ rfl) (SC.al (K 74 _ rfl) (K 5 _ rfl)) (map_get! (l := kTab) bU) rfl rfl rfl rfl H,aU fun _ _ H K => R.bin (eU K 73 rfl) (eU K 77 rfl) rfl trivial H,aU fun _ _ H K => R.al (K 7 _ rfl) H (by decide),mU 9 rfl rfl,aU fun _ _ H K => R.idxN (t) (SC.al (K 79 _ rfl) (K 7 _ rfl)) (evoI (eU K 80 rfl)) rfl bU H (by decide),aU fun _ _ H K => R.ldE (K 81 _ rfl) (SC.al (K 79 _ rfl) (K 7 _ rfl)) (map_get! (l := (wR (((textR b).drop (64 * m)).take 64) 64)) bU) rfl rfl rfl rfl H,aU fun _ _ H K => R.bin (eU K 78 rfl) (eU K 82 rfl) rfl trivial H,aU fun _ _ H K => R.asg (eU K 83 rfl) rfl H,trivial⟩,rfl,rfl,rfl⟩) rfl (bx' := [(2,.var _)]) rfl (n' := 171) rfl (tV [(2,_),(3,_),(4,_),(5,_),(6,_),(7,_),(8,_),(9,_),(10,_),(11,_),(13,_)] [(2,.var _)] 171 rfl rfl rfl ?_)
     refine W.seq ?_
     refine W.l0 9 [.y 84 _,.y 85 _,.y 86 _,.y 87 _,.y 88 _,.y 89 _,.y 90 _,.y 91 _,.y 14 _] [] [] [(2,_),(3,_),(4,_),(5,_),(6,_),(7,_),(8,_),(9,_),(10,_),(11,_),(13,_),(14,_)] [(2,.var _)] 171 ⟨mU 10 rfl rfl,aU fun _ _ H K => R.callG hC (rright_ok _ _) (Bors.cons (Bor.pur (eU K 84 rfl) rfl rfl) (Bors.cons (Bor.pur (show ev _ _ (.const (.int .u64 2)) = some (.u64 2) from rfl) rfl rfl) Bors.nil)) (FrsR.one (.u32 _)) H,mU 10 rfl rfl,aU fun _ _ H K => R.callG hC (rright_ok _ _) (Bors.cons (Bor.pur (eU K 86 rfl) rfl rfl) (Bors.cons (Bor.pur (show ev _ _ (.const (.int .u64 13)) = some (.u64 13) from rfl) rfl rfl) Bors.nil)) (FrsR.one (.u32 _)) H,aU fun _ _ H K => R.bin (eU K 85 rfl) (eU K 87 rfl) rfl trivial H,mU 10 rfl rfl,aU fun _ _ H K => R.callG hC (rright_ok _ _) (Bors.cons (Bor.pur (eU K 89 rfl) rfl rfl) (Bors.cons (Bor.pur (show ev _ _ (.const (.int .u64 22)) = some (.u64 22) from rfl) rfl rfl) Bors.nil)) (FrsR.one (.u32 _)) H,aU fun _ _ H K => R.bin (eU K 88 rfl) (eU K 90 rfl) rfl trivial H,aU fun _ _ H K => R.asg (eU K 91 rfl) rfl H,trivial⟩ rfl rfl rfl rfl (tU rfl ?_)
     refine W.seq ?_
     refine W.draw (m := 22) (an := [0,0,0,4,12,30,0,0,128,384,960,2046,0,4096,12288,0,32768,98304,258048,524286,1048575,2097151]) hP (by decide) rfl (its := [.y 92 _,.y 93 _,.y 94 _,.y 95 _,.y 96 _,.y 97 _,.y 98 _,.y 99 _,.y 100 _,.y 101 _,.y 102 _,.y 103 _,.y 104 _,.y 105 _,.y 106 _,.y 107 _,.y 108 _,.y 109 _,.y 110 _,.y 111 _,.y 112 _,.y 15 _]) (ks := []) (kk := []) (live := [2,3,4,5,6,7,8,9,10,11,13,15]) (env' := [(2,_),(3,_),(4,_),(5,_),(6,_),(7,_),(8,_),(9,_),(10,_),(11,_),(13,_),(15,_)]) (⟨nU rfl,rfl,⟨mU 14 rfl rfl,mU 10 rfl rfl,aU fun _ _ H K => R.al (K 8 _ rfl) H (by decide),aU fun _ _ H K => R.idxN (1) (SC.al (K 94 _ rfl) (K 8 _ rfl)) (evoI (kI 1 rfl)) rfl bU H (by decide),aU fun _ _ H K => R.ldE (K 95 _ rfl) (SC.al (K 94 _ rfl) (K 8 _ rfl)) (map_get! (l := (rdsR (hR (textR b) m) (wR (((textR b).drop (64 * m)).take 64) 64) t)) bU) rfl rfl rfl rfl H,aU fun _ _ H K => R.bin (eU K 93 rfl) (eU K 96 rfl) rfl trivial H,mU 10 rfl rfl,aU fun _ _ H K => R.al (K 8 _ rfl) H (by decide),aU fun _ _ H K => R.idxN (2) (SC.al (K 99 _ rfl) (K 8 _ rfl)) (evoI (kI 2 rfl)) rfl bU H (by decide),aU fun _ _ H K => R.ldE (K 100 _ rfl) (SC.al (K 99 _ rfl) (K 8 _ rfl)) (map_get! (l := (rdsR (hR (textR b) m) (wR (((textR b).drop (64 * m)).take 64) 64) t)) bU) rfl rfl rfl rfl H,aU fun _ _ H K => R.bin (eU K 98 rfl) (eU K 101 rfl) rfl trivial H,aU fun _ _ H K => R.bin (eU K 97 rfl) (eU K 102 rfl) rfl trivial H,aU fun _ _ H K => R.al (K 8 _ rfl) H (by decide),aU fun _ _ H K => R.idxN (1) (SC.al (K 104 _ rfl) (K 8 _ rfl)) (evoI (kI 1 rfl)) rfl bU H (by decide),aU fun _ _ H K => R.ldE (K 105 _ rfl) (SC.al (K 104 _ rfl) (K 8 _ rfl)) (map_get! (l := (rdsR (hR (textR b) m) (wR (((textR b).drop (64 * m)).take 64) 64) t)) bU) rfl rfl rfl rfl H,aU fun _ _ H K => R.al (K 8 _ rfl) H (by decide),aU fun _ _ H K => R.idxN (2) (SC.al (K 107 _ rfl) (K 8 _ rfl)) (evoI (kI 2 rfl)) rfl bU H (by decide),aU fun _ _ H K => R.ldE (K 108 _ rfl) (SC.al (K 107 _ rfl) (K 8 _ rfl)) (map_get! (l := (rdsR (hR (textR b) m) (wR (((textR b).drop (64 * m)).take 64) 64) t)) bU) rfl rfl rfl rfl H,aU fun _ _ H K => R.bin (eU K 106 rfl) (eU K 109 rfl) rfl trivial H,aU fun _ _ H K => R.bin (eU K 103 rfl) (eU K 110 rfl) rfl trivial H,aU fun _ _ H K => R.bin (eU K 92 rfl) (eU K 111 rfl) rfl trivial H,aU fun _ _ H K => R.asg (eU K 112 rfl) rfl H,trivial⟩,rfl,rfl,rfl⟩) rfl (bx' := [(2,.var _)]) rfl (n' := 171) rfl (tV [(2,_),(3,_),(4,_),(5,_),(6,_),(7,_),(8,_),(9,_),(10,_),(11,_),(13,_),(15,_)] [(2,.var _)] 171 rfl rfl rfl ?_)
     refine W.draw (m := 24) (an := [0,0,3,0,0,16,48,0,128,384,0,1024,3072,0,15360,0,0,65536,196608,0,524288,1572864,4194303,8388607]) hP (by decide) rfl (its := [.y 113 _,.y 114 _,.y 115 _,.y 116 _,.y 117 _,.y 118 _,.y 119 _,.y 120 _,.y 121 _,.y 122 _,.y 123 _,.y 124 _,.y 125 _,.y 126 _,.y 127 _,.y 128 _,.y 129 _,.y 130 _,.y 131 _,.y 132 _,.y 133 _,.y 134 _,.y 135 _,.y 8 _]) (ks := [(23,135),(23,117),(23,120),(23,123),(23,129),(23,132)]) (kk := [(23,135)]) (live := [2,3,4,5,6,7,8,9]) (env' := [(2,_),(3,_),(4,_),(5,_),(6,_),(7,_),(8,_),(9,_)]) (⟨nU rfl,rfl,⟨mU 13 rfl rfl,mU 15 rfl rfl,aU fun _ _ H K => R.bin (eU K 113 rfl) (eU K 114 rfl) rfl trivial H,mU 10 rfl rfl,aU fun _ _ H K => R.al (K 8 _ rfl) H (by decide),aU fun _ _ H K => R.idxN (1) (SC.al (K 117 _ rfl) (K 8 _ rfl)) (evoI (kI 1 rfl)) rfl bU H (by decide),aU fun _ _ H K => R.ldE (K 118 _ rfl) (SC.al (K 117 _ rfl) (K 8 _ rfl)) (map_get! (l := (rdsR (hR (textR b) m) (wR (((textR b).drop (64 * m)).take 64) 64) t)) bU) rfl rfl rfl rfl H,aU fun _ _ H K => R.al (K 8 _ rfl) H (by decide),aU fun _ _ H K => R.idxN (2) (SC.al (K 120 _ rfl) (K 8 _ rfl)) (evoI (kI 2 rfl)) rfl bU H (by decide),aU fun _ _ H K => R.ldE (K 121 _ rfl) (SC.al (K 120 _ rfl) (K 8 _ rfl)) (map_get! (l := (rdsR (hR (textR b) m) (wR (((textR b).drop (64 * m)).take 64) 64) t)) bU) rfl rfl rfl rfl H,aU fun _ _ H K => R.al (K 8 _ rfl) H (by decide),aU fun _ _ H K => R.idxN (3) (SC.al (K 123 _ rfl) (K 8 _ rfl)) (evoI (kI 3 rfl)) rfl bU H (by decide),aU fun _ _ H K => R.ldE (K 124 _ rfl) (SC.al (K 123 _ rfl) (K 8 _ rfl)) (map_get! (l := (rdsR (hR (textR b) m) (wR (((textR b).drop (64 * m)).take 64) 64) t)) bU) rfl rfl rfl rfl H,mU 13 rfl rfl,aU fun _ _ H K => R.bin (eU K 125 rfl) (eU K 126 rfl) rfl trivial H,mU 11 rfl rfl,aU fun _ _ H K => R.al (K 8 _ rfl) H (by decide),aU fun _ _ H K => R.idxN (5) (SC.al (K 129 _ rfl) (K 8 _ rfl)) (evoI (kI 5 rfl)) rfl bU H (by decide),aU fun _ _ H K => R.ldE (K 130 _ rfl) (SC.al (K 129 _ rfl) (K 8 _ rfl)) (map_get! (l := (rdsR (hR (textR b) m) (wR (((textR b).drop (64 * m)).take 64) 64) t)) bU) rfl rfl rfl rfl H,aU fun _ _ H K => R.al (K 8 _ rfl) H (by decide),aU fun _ _ H K => R.idxN (6) (SC.al (K 132 _ rfl) (K 8 _ rfl)) (evoI (kI 6 rfl)) rfl bU H (by decide),aU fun _ _ H K => R.ldE (K 133 _ rfl) (SC.al (K 132 _ rfl) (K 8 _ rfl)) (map_get! (l := (rdsR (hR (textR b) m) (wR (((textR b).drop (64 * m)).take 64) 64) t)) bU) rfl rfl rfl rfl H,aU fun _ _ H K => R.bslE (z := 1) (.cons (eU K 115 rfl) (.cons (eU K 116 rfl) (.cons (eU K 119 rfl) (.cons (eU K 122 rfl) (.cons (eU K 127 rfl) (.cons (eU K 128 rfl) (.cons (eU K 131 rfl) (.cons (eU K 134 rfl) .nil)))))))) ⟨⟨rfl,rfl,rfl⟩,⟨⟨rfl,rfl,rfl⟩,⟨⟨rfl,rfl,rfl⟩,⟨⟨rfl,rfl,rfl⟩,⟨⟨rfl,rfl,rfl⟩,⟨⟨rfl,rfl,rfl⟩,⟨⟨rfl,rfl,rfl⟩,⟨⟨rfl,rfl,rfl⟩,trivial⟩⟩⟩⟩⟩⟩⟩⟩ rfl H (by decide),aU fun _ _ H K => R.asgO (K 135 _ rfl) rfl H (by decide),trivial⟩,rfl,rfl,rfl⟩) rfl (bx' := [(2,.var _)]) rfl (n' := 171) rfl (tV [(2,_),(3,_),(4,_),(5,_),(6,_),(7,_),(8,_),(9,_)] [(2,.var _)] 171 rfl rfl rfl ?_)
     refine W.l0 3 [.y 40 _,.y 41 _,.y 9 _] [] [] [(2,_),(3,_),(4,_),(5,_),(6,_),(7,_),(8,_),(9,_)] [(2,.var _)] 171 ⟨mU 9 rfl rfl,aU fun _ _ H K => R.addN (t) (1) (eU K 40 rfl) (kI 1 rfl) bU H,aU fun _ _ H K => R.asg (eU K 41 rfl) rfl H,trivial⟩ rfl rfl rfl rfl (tU rfl ?_)
     exact ⟨⟨(t + 1),bU⟩,rfl,(by simp only []; omega)⟩
   · obtain rfl : t = 64 := by omega
     refine W.exit ?_
     refine W.seq ?_
     refine W.l0 1 [.y 16 _] [] [] [(2,_),(3,_),(4,_),(5,_),(6,_),(8,_),(16,_)] [(2,.var _)] 171 ⟨aU fun _ _ H _ => R.asg (kI 0 rfl) rfl H,trivial⟩ rfl rfl rfl rfl (tU rfl ?_)
     refine W.block ?_
     refine W.loop (α := {q__ : Nat // q__ ≤ 8}) (fun q__ => ⟨171,[(2,.ptr 2 0 []),(3,.sl (some 94) 1 ((addH (hR (textR b) m) (rdsR (hR (textR b) m) (wR (((textR b).drop (64 * m)).take 64) 64) 64) q__.1).map D.u32)),(4,.sl (some 5) 1 ((textR b).map D.u8)),(5,.sl (some 94) 1 (kTab.map D.u32)),(6,.int ((64 * m : Nat) : Int)),(8,.sl (some 94) 1 ((rdsR (hR (textR b) m) (wR (((textR b).drop (64 * m)).take 64) 64) 64).map D.u32)),(16,.int ((q__.1 : Nat) : Int))],[(2,.var (hashD (List.replicate 32 0)))]⟩) (fun q__ => 8 - q__.1) ⟨(0),bU⟩ rfl ?_
     rintro ⟨i,hi⟩
     show W _ _ _ _ ⟨171,[(2,.ptr 2 0 []),(3,.sl (some 94) 1 ((addH (hR (textR b) m) (rdsR (hR (textR b) m) (wR (((textR b).drop (64 * m)).take 64) 64) 64) i).map D.u32)),(4,.sl (some 5) 1 ((textR b).map D.u8)),(5,.sl (some 94) 1 (kTab.map D.u32)),(6,.int ((64 * m : Nat) : Int)),(8,.sl (some 94) 1 ((rdsR (hR (textR b) m) (wR (((textR b).drop (64 * m)).take 64) 64) 64).map D.u32)),(16,.int ((i : Nat) : Int))],[(2,.var (hashD (List.replicate 32 0)))]⟩
     have hal := addH_len (hR (textR b) m) (rdsR (hR (textR b) m) (wR (((textR b).drop (64 * m)).take 64) 64) 64) i
     refine W.seq ?_
     refine W.seq ?_
     refine W.l0 2 [.y 136 _,.y 137 _] [] [] [(2,_),(3,_),(4,_),(5,_),(6,_),(8,_),(16,_),(137,_)] [(2,.var _)] 171 ⟨mU 16 rfl rfl,aU fun _ _ H K => R.lssN (i) (8) (eU K 136 rfl) (kI 8 rfl) H,trivial⟩ rfl rfl rfl rfl (tU rfl ?_)
     refine W.condD rfl (fun hc137 => ?_) (fun hc137 => ?_)
     · refine W.skip ?_
       refine W.seq ?_
       refine W.block ?_
       refine W.draw (m := 12) (an := [0,0,0,0,12,28,0,0,192,448,1020,2047,4095]) hP (by decide) rfl (its := [.y 140 _,.y 141 _,.y 142 _,.y 143 _,.y 144 _,.y 145 _,.y 146 _,.y 147 _,.y 148 _,.y 149 _,.y 150 _,.y 151 _]) (ks := []) (kk := []) (live := [2,3,4,5,6,8,16,140,150,151]) (env' := [(2,_),(3,_),(4,_),(5,_),(6,_),(8,_),(16,_),(140,_),(150,_),(151,_)]) (⟨nU rfl,rfl,⟨aU fun _ _ H K => R.al (K 3 _ rfl) H (by decide),mU 16 rfl rfl,aU fun _ _ H K => R.al (K 3 _ rfl) H (by decide),mU 16 rfl rfl,aU fun _ _ H K => R.idxN (i) (SC.al (K 142 _ rfl) (K 3 _ rfl)) (evoI (eU K 143 rfl)) rfl bU H (by decide),aU fun _ _ H K => R.ldE (K 144 _ rfl) (SC.al (K 142 _ rfl) (K 3 _ rfl)) (map_get! (l := (addH (hR (textR b) m) (rdsR (hR (textR b) m) (wR (((textR b).drop (64 * m)).take 64) 64) 64) i)) bU) rfl rfl rfl rfl H,aU fun _ _ H K => R.al (K 8 _ rfl) H (by decide),mU 16 rfl rfl,aU fun _ _ H K => R.idxN (i) (SC.al (K 146 _ rfl) (K 8 _ rfl)) (evoI (eU K 147 rfl)) rfl bU H (by decide),aU fun _ _ H K => R.ldE (K 148 _ rfl) (SC.al (K 146 _ rfl) (K 8 _ rfl)) (map_get! (l := (rdsR (hR (textR b) m) (wR (((textR b).drop (64 * m)).take 64) 64) 64)) bU) rfl rfl rfl rfl H,aU fun _ _ H K => R.bin (eU K 145 rfl) (eU K 149 rfl) rfl trivial H,aU fun _ _ H K => R.idxN (i) (SC.al (K 140 _ rfl) (K 3 _ rfl)) (evoI (eU K 141 rfl)) rfl bU H (by decide),trivial⟩,rfl,rfl,rfl⟩) rfl (bx' := [(2,.var _)]) rfl (n' := 171) rfl (⟨rfl,_,R.stEY (gU 151 rfl) (Or.inr (gU 140 rfl)) (gU 3 rfl) (map_get! (l := (addH (hR (textR b) m) (rdsR (hR (textR b) m) (wR (((textR b).drop (64 * m)).take 64) 64) 64) i)) bU) rfl (gV 150 rfl) (by rfl) (by rfl) (by rfl) (by rfl) upd_nil set_map,tV [(2,_),(3,_),(4,_),(5,_),(6,_),(8,_),(16,_)] [(2,.var _)] 171 rfl rfl rfl ?_⟩)
       refine W.l0 3 [.y 138 _,.y 139 _,.y 16 _] [] [] [(2,_),(3,_),(4,_),(5,_),(6,_),(8,_),(16,_)] [(2,.var _)] 171 ⟨mU 16 rfl rfl,aU fun _ _ H K => R.addN (i) (1) (eU K 138 rfl) (kI 1 rfl) bU H,aU fun _ _ H K => R.asg (eU K 139 rfl) rfl H,trivial⟩ rfl rfl rfl rfl (tU rfl ?_)
       exact ⟨⟨(i + 1),bU⟩,rfl,(by simp only []; omega)⟩
     · obtain rfl : i = 8 := by omega
       refine W.exit ?_
       refine W.l0 3 [.y 27 _,.y 28 _,.y 6 _] [] [] [(2,_),(3,_),(4,_),(5,_),(6,_)] [(2,.var _)] 171 ⟨mU 6 rfl rfl,aU fun _ _ H K => R.addN (64 * m) (64) (eU K 27 rfl) (kI 64 rfl) bU H,aU fun _ _ H K => R.asg (eU K 28 rfl) rfl H,trivial⟩ rfl rfl rfl rfl (tU rfl ?_)
       exact ⟨⟨(m + 1),(by omega)⟩,rfl,(by simp only []; omega)⟩
 · obtain rfl : m = pieces b := by omega
   refine W.exit ?_
   refine W.seq ?_
   refine W.l0 1 [] [] [] [(2,_),(3,_)] [(2,.var _)] 171 trivial rfl rfl rfl rfl (⟨rfl,_,R.alloc rfl (nU rfl),tV [(2,_),(3,_),(17,_)] [(17,.var _),(2,.var _)] 171 rfl rfl rfl ?_⟩)
   refine W.seq ?_
   refine W.seq ?_
   refine W.l0 1 [.y 18 _] [] [] [(2,_),(3,_),(17,_),(18,_)] [(17,.var _),(2,.var _)] 171 ⟨aU fun _ _ H _ => R.asg (kI 0 rfl) rfl H,trivial⟩ rfl rfl rfl rfl (tU rfl ?_)
   refine W.block ?_
   refine W.loop (α := {q__ : Nat // q__ ≤ 32}) (fun q__ => ⟨171,[(2,.ptr 2 0 []),(3,.sl (some 94) 1 ((hR (textR b) (pieces b)).map D.u32)),(17,.ptr 17 0 []),(18,.int ((q__.1 : Nat) : Int))],[(17,.var (hashD (outR (hR (textR b) (pieces b)) q__.1))),(2,.var (hashD (List.replicate 32 0)))]⟩) (fun q__ => 32 - q__.1) ⟨(0),bU⟩ rfl ?_
   rintro ⟨i,hi⟩
   show W _ _ _ _ ⟨171,[(2,.ptr 2 0 []),(3,.sl (some 94) 1 ((hR (textR b) (pieces b)).map D.u32)),(17,.ptr 17 0 []),(18,.int ((i : Nat) : Int))],[(17,.var (hashD (outR (hR (textR b) (pieces b)) i))),(2,.var (hashD (List.replicate 32 0)))]⟩
   have hol := outR_len (hR (textR b) (pieces b)) i
   refine W.seq ?_
   refine W.seq ?_
   refine W.l0 2 [.y 152 _,.y 153 _] [] [] [(2,_),(3,_),(17,_),(18,_),(153,_)] [(17,.var _),(2,.var _)] 171 ⟨mU 18 rfl rfl,aU fun _ _ H K => R.lssN (i) (32) (eU K 152 rfl) (kI 32 rfl) H,trivial⟩ rfl rfl rfl rfl (tU rfl ?_)
   refine W.condD rfl (fun hc153 => ?_) (fun hc153 => ?_)
   · refine W.skip ?_
     refine W.seq ?_
     refine W.block ?_
     refine W.l0 15 [.y 156 _,.y 157 _,.y 158 _,.y 159 _,.y 160 _,.y 161 _,.y 162 _,.y 163 _,.y 164 _,.y 165 _,.y 166 _,.y 167 _,.y 168 _,.y 169 _] [] [] [(2,_),(3,_),(17,_),(18,_),(168,_),(169,_)] [(17,.var _),(2,.var _)] 171 ⟨mU 18 rfl rfl,aU fun _ _ H K => R.al (K 3 _ rfl) H (by decide),mU 18 rfl rfl,aU fun _ _ H K => R.quoN (i) (4) (eU K 158 rfl) (kI 4 rfl) bU bU H,aU fun _ _ H K => R.idxN ((i / 4)) (SC.al (K 157 _ rfl) (K 3 _ rfl)) (evoI (eU K 159 rfl)) rfl bU H (by decide),aU fun _ _ H K => R.ldE (K 160 _ rfl) (SC.al (K 157 _ rfl) (K 3 _ rfl)) (map_get! (l := (hR (textR b) (pieces b))) bU) rfl rfl rfl rfl H,mU 18 rfl rfl,aU fun _ _ H K => R.remN (i) (4) (eU K 162 rfl) (kI 4 rfl) bU H,aU fun _ _ H K => R.mulN (8) ((i % 4)) (kI 8 rfl) (eU K 163 rfl) bU H,aU fun _ _ H K => R.subN (24) ((8 * (i % 4))) (kI 24 rfl) (eU K 164 rfl) bU bU H,aU fun _ _ H K => R.conv (eU K 165 rfl) rfl H,aU fun _ _ H K => R.bin (eU K 161 rfl) (eU K 166 rfl) rfl bV H,aU fun _ _ H K => R.conv (eU K 167 rfl) rfl H,aU fun _ _ H K => R.idxP (i) (K 17 _ rfl) (evoI (eU K 156 rfl)) rfl bU H,trivial⟩ rfl rfl rfl rfl (⟨rfl,_,R.stZ (gU 169 rfl) (xU 17 rfl) (loc_arr (map_get! (l := (outR (hR (textR b) (pieces b)) i)) bU) loc_nil bU) (gV 168 rfl) (by rfl) (by rfl) (by rfl) (by rfl) (upd_arr (map_get! (l := (outR (hR (textR b) (pieces b)) i)) bU) upd_nil set_map),tV [(2,_),(3,_),(17,_),(18,_)] [(17,.var _),(2,.var _)] 171 rfl rfl rfl ?_⟩)
     refine W.l0 3 [.y 154 _,.y 155 _,.y 18 _] [] [] [(2,_),(3,_),(17,_),(18,_)] [(17,.var _),(2,.var _)] 171 ⟨mU 18 rfl rfl,aU fun _ _ H K => R.addN (i) (1) (eU K 154 rfl) (kI 1 rfl) bU H,aU fun _ _ H K => R.asg (eU K 155 rfl) rfl H,trivial⟩ rfl rfl rfl rfl (tU rfl ?_)
     exact ⟨⟨(i + 1),bU⟩,rfl,(by simp only []; omega)⟩
   · obtain rfl : i = 32 := by omega
     refine W.exit ?_
     refine W.seq ?_
     refine W.l0 2 [.y 170 _] [] [] [(2,_),(170,_)] [(17,.var _),(2,.var _)] 171 ⟨aU (lU 17 rfl rfl rfl rfl rfl rfl rfl),trivial⟩ rfl rfl rfl rfl (⟨rfl,_,R.stZ (gU 2 rfl) (xU 2 rfl) rfl (gV 170 rfl) (by rfl) (by rfl) (by rfl) (by rfl) rfl,tV [(2,_)] [(17,.var _),(2,.var _)] 171 rfl rfl rfl ?_⟩)
     refine W.ret ?_
     exact Ends.one' (.inr rfl) rfl (rfl) rfl rfl (show LdT _ 38 32 true from inferInstance)

theorem rtwice_ok (b : List UInt8) (hb0 : b.length ≤ 1000000000) : Fn Tryd.prog gl 49 [.sl none 1 (b.map D.u8)] (hashD (twiceR b)) := by
 refine Fn.of (n := 8) Tryd.func49 rfl rfl rfl (nU rfl) fun C hC hD => ?_
 refine W.seq ?_
 refine W.l0 1 [] [] [] [(0,_)] [] 8 trivial rfl rfl rfl rfl (⟨rfl,_,R.alloc rfl (nU rfl),tV [(0,_),(2,_)] [(2,.var _)] 8 rfl rfl rfl ?_⟩)
 refine W.seq ?_
 refine W.l0 4 [.y 4 _,.y 5 _] [] [] [(2,_),(5,_)] [(2,.var _)] 8 ⟨mU 0 rfl rfl,aU fun _ _ H K => R.callG hC (rsum_ok _ hb0) (Bors.cons (Bor.pur (eU K 4 rfl) rfl rfl) Bors.nil) (FrsR.one (frs_hash _)) H,trivial⟩ rfl rfl rfl rfl (⟨rfl,_,R.alloc rfl (nU rfl),⟨rfl,_,R.stZ (gU 3 rfl) (xU 3 rfl) rfl (gV 5 rfl) (by rfl) (by rfl) (by rfl) (by rfl) rfl,tV [(2,_),(3,_)] [(3,.var _),(2,.var _)] 8 rfl rfl rfl ?_⟩⟩)
 refine W.seq ?_
 refine W.l0 3 [.y 6 _,.y 7 _] [] [] [(2,_),(7,_)] [(3,.var _),(2,.var _)] 8 ⟨aU fun _ B H K => R.slAN (0) (32) (32) (K 3 _ rfl) (B 3 _ rfl) rfl rfl rfl rfl rfl bU bU rfl H,aU fun _ B H K => R.callG hC (rsum_ok (sumR b) (by rw [sumR_len]; decide)) (Bors.cons (Bor.sc (SC.va (K 6 _ rfl) (B 3 _ rfl) rfl bU) (brw_all (fun _ => rfl) (sumR_len _))) Bors.nil) (FrsR.one (frs_hash _)) H,trivial⟩ rfl rfl rfl rfl (⟨rfl,_,R.stZ (gU 2 rfl) (xU 2 rfl) rfl (gV 7 rfl) (by rfl) (by rfl) (by rfl) (by rfl) rfl,tV [(2,_)] [(3,.var _),(2,.var _)] 8 rfl rfl rfl ?_⟩)
 refine W.ret ?_
 exact Ends.one' (.inr rfl) rfl (rfl) rfl rfl (show LdT _ 38 32 true from inferInstance)

end Go.Sx

namespace Go.Sx

theorem or_comm32 (a b : UInt32) : a ||| b = b ||| a := by
 apply UInt32.toBitVec_inj.1
 simp [BitVec.or_comm]
theorem right_r (x : UInt32) : right x 2 = rright x 2 ∧ right x 13 = rright x 13 ∧ right x 22 = rright x 22 ∧ right x 6 = rright x 6 ∧ right x 11 = rright x 11 ∧ right x 25 = rright x 25 ∧
 right x 7 = rright x 7 ∧ right x 18 = rright x 18 ∧ right x 17 = rright x 17 ∧ right x 19 = rright x 19 := by
 refine ⟨?_, ?_, ?_, ?_, ?_, ?_, ?_, ?_, ?_, ?_⟩ <;> exact or_comm32 _ _
theorem ch_r (e f g : UInt32) : g ^^^ (e &&& (f ^^^ g)) = e &&& f ^^^ ~~~e &&& g := by
 apply UInt32.toBitVec_inj.1
 simp only [UInt32.toBitVec_xor,UInt32.toBitVec_and,UInt32.toBitVec_not]
 ext i hi
 simp only [BitVec.getElem_xor,BitVec.getElem_and,BitVec.getElem_not]
 cases e.toBitVec[i] <;> cases f.toBitVec[i] <;> cases g.toBitVec[i] <;> rfl
theorem maj_r (a b c : UInt32) : a &&& b ||| c &&& (a ||| b) = a &&& b ^^^ a &&& c ^^^ b &&& c := by
 apply UInt32.toBitVec_inj.1
 simp only [UInt32.toBitVec_xor,UInt32.toBitVec_and,UInt32.toBitVec_or]
 ext i hi
 simp only [BitVec.getElem_xor,BitVec.getElem_and,BitVec.getElem_or]
 cases a.toBitVec[i] <;> cases b.toBitVec[i] <;> cases c.toBitVec[i] <;> rfl

theorem get!_append {α : Type} [Inhabited α] {l r : List α} {i : Nat} (h : i < l.length) : (l ++ r)[i]! = l[i]! := by
 simp [List.getElem?_append_left h]
theorem get!_set_same {α : Type} [Inhabited α] {l : List α} {i : Nat} {v : α} (h : i < l.length) : (l.set i v)[i]! = v := by simp [h]

theorem next_r (w r : List UInt32) (t : Nat) (h : 16 ≤ t) (hw : w.length = t) : nextW (w ++ r) t = nextR w t := by
 unfold nextW nextR
 rw [get!_append (by omega),get!_append (by omega),get!_append (by omega),get!_append (by omega)]
 obtain ⟨_,_,_,_,_,_,h7,h18,_,_⟩ := right_r w[t - 15]!
 obtain ⟨_,_,_,_,_,_,_,_,h17,h19⟩ := right_r w[t - 2]!
 rw [h7,h18,h17,h19]
 generalize rright _ 7 ^^^ _ ^^^ _ = a
 generalize rright _ 17 ^^^ _ ^^^ _ = b
 generalize w[t - 16]! = c
 generalize w[t - 7]! = d
 apply UInt32.toBitVec_inj.1
 simp only [UInt32.toBitVec_add]
 ac_rfl

theorem shl_or (x y : UInt32) : shl_u32 (x ||| y) 8 = shl_u32 x 8 ||| shl_u32 y 8 := by
 apply UInt32.toBitVec_inj.1
 simp [shl_u32,BitVec.shiftLeft_or_distrib]
theorem shl_8_8 (x : UInt32) : shl_u32 (shl_u32 x 8) 8 = shl_u32 x 16 := by
 apply UInt32.toBitVec_inj.1
 simp [shl_u32,← BitVec.shiftLeft_add]
theorem shl_16_8 (x : UInt32) : shl_u32 (shl_u32 x 16) 8 = shl_u32 x 24 := by
 apply UInt32.toBitVec_inj.1
 simp [shl_u32,← BitVec.shiftLeft_add]
theorem sched_r (p : List UInt8) (t : Nat) (ht : t ≤ 64) : sched p t = wR p t ++ List.replicate (64 - t) 0 := by
 induction t with
 | zero => simp [sched,wR]
 | succ t ih =>
  have ih := ih (by omega)
  have hl := wR_len p t
  have hset : ∀ v : UInt32,(wR p t ++ List.replicate (64 - t) 0).set t v = wR p t ++ [v] ++ List.replicate (64 - (t + 1)) 0 := by
   intro v
   rw [List.set_append_right _ _ (by omega),hl,Nat.sub_self,show 64 - t = (64 - (t + 1)) + 1 by omega,List.replicate_succ,List.set_cons_zero]
   simp
  simp only [sched,wR]
  by_cases h : t < 16
  · rw [if_pos h,if_pos h,ih]
    have h0 : (wR p t ++ List.replicate (64 - t) 0)[t]! = 0 := by
     simp only [getElem!_def]
     rw [List.getElem?_append_right (by omega),hl,Nat.sub_self]
     simp [show 0 < 64 - t by omega]
    have hlen : ∀ l : List UInt32,l.length = 64 → t < l.length := fun l hl => by omega
    have e0 : (wR p t ++ List.replicate (64 - t) 0).length = 64 := by simp [hl]; omega
    have hins : inW p t (wR p t ++ List.replicate (64 - t) 0) 4 = (wR p t ++ List.replicate (64 - t) 0).set t (w4 p t) := by
     simp only [inW]
     simp only [List.set_set,get!_set_same (hlen _ e0),h0]
     congr 1
     unfold w4
     have hz : ∀ y : UInt32,shl_u32 0 8 ||| y = y := fun y => by
      apply UInt32.toBitVec_inj.1
      simp [shl_u32]
     simp only [hz,shl_or,shl_8_8,shl_16_8,Nat.add_zero]
    rw [hins,hset]
  · rw [if_neg h,if_neg h,ih,next_r _ _ _ (by omega) hl,hset]

theorem sched_64 (p : List UInt8) : sched p 64 = wR p 64 := by rw [sched_r p 64 (Nat.le_refl _)]; simp

theorem W8.list_get (v : W8) : v.list[0]! = v.a ∧ v.list[1]! = v.b ∧ v.list[2]! = v.c ∧ v.list[3]! = v.d ∧ v.list[4]! = v.e ∧ v.list[5]! = v.f ∧ v.list[6]! = v.g ∧ v.list[7]! = v.l := ⟨rfl,rfl,rfl,rfl,rfl,rfl,rfl,rfl⟩
theorem of_list (h : List UInt32) (hh : h.length = 8) : (W8.of h).list = h := by
 match h,hh with
 | [a,b,c,d,e,f,g,l],_ => rfl
theorem rnd_r (v : W8) (k w : UInt32) : (rnd v k w).list = rndR v.list k w := by
 obtain ⟨e0,e1,e2,e3,e4,e5,e6,e7⟩ := W8.list_get v
 unfold rndR oneR twoR
 simp only [e0,e1,e2,e3,e4,e5,e6,e7]
 obtain ⟨h2,h13,h22,_⟩ := right_r v.a
 obtain ⟨_,_,_,h6,h11,h25,_⟩ := right_r v.e
 simp only [rnd,W8.list,one,two,ch_r,maj_r,h2,h13,h22,h6,h11,h25]
theorem rds_r (h w : List UInt32) (hh : h.length = 8) (t : Nat) : (rds h w t).list = rdsR h w t := by
 induction t with
 | zero => exact of_list h hh
 | succ t ih => simp only [rds,rdsR,rnd_r,ih]
theorem comp_r (h : List UInt32) (p : List UInt8) (hh : h.length = 8) : comp h p = compR h p := by
 unfold comp compR
 rw [sched_64,rds_r _ _ hh]

theorem outB_r (h : List UInt32) (i : Nat) (hi : i ≤ 32) : outB h i = outR h i := by
 induction i with
 | zero => rfl
 | succ i ih =>
  simp only [outB,outR,ih (by omega)]
  have : (UInt64.ofInt ((24 - 8 * (i % 4) : Nat) : Int)).toNat = 24 - 8 * (i % 4) := by
   have h := ofInt_u64 ((24 - 8 * (i % 4) : Nat) : Int)
   omega
  rw [this]
theorem long_tail (n : UInt64) (i : Nat) (hi : i ≤ 8) : longB n i = tailR n i ++ List.replicate (8 - i) 0 := by
 induction i with
 | zero => simp [longB,tailR]
 | succ i ih =>
  simp only [longB,tailR,ih (by omega)]
  have hl := tailR_len n i
  rw [List.set_append_right _ _ (by omega),hl,Nat.sub_self,show 8 - i = (8 - (i + 1)) + 1 by omega,List.replicate_succ,List.set_cons_zero]
  have e : (UInt64.ofInt (wr (8 * (7 - ((i : Nat) : Int))))).toNat = 56 - 8 * i := by
   have h := ofInt_u64 (wr (8 * (7 - ((i : Nat) : Int))))
   have h2 : wr (8 * (7 - ((i : Nat) : Int))) = 8 * (7 - (i : Int)) := by unfold wr; rw [IntKind.wrap_i64]; omega
   rw [h2] at h
   rw [h2]
   omega
  rw [e]
  simp
theorem long_tail8 (n : UInt64) : longB n 8 = tailR n 8 := by rw [long_tail n 8 (Nat.le_refl _)]; simp

theorem hR_prefix (a b : List UInt8) (q : Nat) (h : 64 * q ≤ a.length) : hR (a ++ b) q = hR a q := by
 induction q with
 | zero => rfl
 | succ q ih =>
  simp only [hR,ih (by omega)]
  rw [List.drop_append_of_le_length (by omega),List.take_append_of_le_length (by simp; omega)]

structure Rep (s : ShaS) (b : List UInt8) : Prop where
 begun : s.begun = true
 n : s.n = UInt64.ofNat b.length
 h : s.h = hR b (b.length / 64)
 len : s.piece.length = 64
 piece : s.piece.take (b.length % 64) = b.drop (64 * (b.length / 64))

theorem Rep.mS {s : ShaS} {b : List UInt8} (h : Rep s b) : mS s = b.length % 64 := by
 unfold Go.Sx.mS
 rw [h.n,UInt64.toNat_mod,UInt64.toNat_ofNat']
 have : (64 : UInt64).toNat = 64 := rfl
 rw [this]; omega

theorem rep_start : Rep ShaS.start [] := ⟨rfl,rfl,rfl,by simp [ShaS.start],by simp⟩

theorem rep_step {s : ShaS} {b c : List UInt8} (h : Rep s b) (hc : c.length ≠ 0) : Rep (stepS s c) (b ++ c.take (kS s c)) := by
 have hm := h.mS
 have hk1 := kS_le s c
 have hk2 := kS_room s c
 have hk3 := kS_pos s c (by omega)
 have hmlt := mS_lt s
 generalize hk : kS s c = k at hk1 hk2 hk3
 have hb' : (b ++ c.take k).length = b.length + k := by simp; omega
 have hp : pieceS s c = b.drop (64 * (b.length / 64)) ++ c.take k ++ s.piece.drop (b.length % 64 + k) := by
  unfold pieceS; rw [hk,hm,h.piece]
 have hpl : (b.drop (64 * (b.length / 64))).length = b.length % 64 := by simp; omega
 have hn : nS s c = UInt64.ofNat (b.length + k) := by
  unfold nS
  rw [hk,h.n]
  apply UInt64.toNat_inj.1
  have h1 := ofInt_u64 ((k : Nat) : Int)
  simp only [UInt64.toNat_add,UInt64.toNat_ofNat']
  omega
 have hmod : (nS s c % 64 == 0) = decide ((b.length + k) % 64 = 0) := by
  rw [hn,Bool.eq_iff_iff,beq_iff_eq,decide_eq_true_eq,← UInt64.toNat_inj,UInt64.toNat_mod,UInt64.toNat_ofNat']
  have h1 : (64 : UInt64).toNat = 64 := rfl
  have h2 : (0 : UInt64).toNat = 0 := rfl
  rw [h1,h2]; omega
 have hlen : (pieceS s c).length = 64 := by
  rw [hp]; simp only [List.length_append,List.length_drop,List.length_take,h.len]; omega
 refine ⟨h.begun,by simp only [stepS,hn,hb'], ?_,hlen, ?_⟩
 · simp only [stepS,hmod,hb']
   by_cases hd : (b.length + k) % 64 = 0
   · simp only [hd,decide_true,cond_true]
     have hq : (b.length + k) / 64 = b.length / 64 + 1 := by omega
     have hmk : b.length % 64 + k = 64 := by omega
     rw [hq]
     simp only [hR]
     rw [hR_prefix b _ _ (by omega),h.h,comp_r _ _ (hR_len _ _)]
     congr 1
     have e1 : (b ++ c.take k).drop (64 * (b.length / 64)) = b.drop (64 * (b.length / 64)) ++ c.take k := List.drop_append_of_le_length (by omega)
     have e2 : s.piece.drop 64 = [] := List.drop_eq_nil_of_le (by rw [h.len]; exact Nat.le_refl _)
     rw [hp,hmk,e1,e2,List.append_nil]
     exact (List.take_of_length_le (by rw [List.length_append,hpl,List.length_take]; omega)).symm
   · simp only [hd,decide_false,cond_false]
     have hq : (b.length + k) / 64 = b.length / 64 := by omega
     rw [hq,hR_prefix b _ _ (by omega),h.h]
 · simp only [stepS,hb']
   by_cases hd : (b.length + k) % 64 = 0
   · rw [hd,List.take_zero,List.drop_eq_nil_of_le (by rw [hb']; omega)]
   · have hq : (b.length + k) / 64 = b.length / 64 := by omega
     have hr : (b.length + k) % 64 = b.length % 64 + k := by omega
     rw [hq,hr,hp,List.drop_append_of_le_length (by omega)]
     rw [List.take_append_of_le_length (by simp; omega),List.take_of_length_le (by simp; omega)]

theorem rep_addW {s : ShaS} {b c : List UInt8} (h : Rep s b) : Rep (addW s c) (b ++ c) := by
 induction hn : c.length using Nat.strongRecOn generalizing s b c with
 | _ n ih =>
  by_cases h0 : c.length = 0
  · rw [addW_nil _ _ h0,List.length_eq_zero_iff.1 h0,List.append_nil]; exact h
  · rw [addW_step _ _ h0]
    have hk := kS_pos s c (by omega)
    have := ih _ (by rw [← hn]; simp only [List.length_drop]; omega) (rep_step h h0) (c := c.drop (kS s c)) rfl
    rw [List.append_assoc,List.take_append_drop] at this
    exact this
theorem rep_addS {s : ShaS} {b c : List UInt8} (h : Rep s b) : Rep (addS s c) (b ++ c) := by
 unfold addS; rw [h.begun]; exact rep_addW h
theorem rep_padS {s : ShaS} {b : List UInt8} (h : Rep s b) (k : Nat) : Rep (padS k s) (b ++ List.replicate k 0) := by
 induction k generalizing s b with
 | zero => simpa [padS] using h
 | succ k ih =>
  have := ih (rep_addS (c := [0]) h)
  rw [List.append_assoc] at this
  simpa [padS,List.replicate_succ] using this
theorem end_r {s : ShaS} {b : List UInt8} (h : Rep s b) : endS s = sumR b := by
 have h1 : Rep (pad1 s) (b ++ [128]) := rep_addS h
 have hz : padN (pad1 s) = zR b := by
  unfold padN zR
  rw [h1.mS]
  simp only [List.length_append,List.length_singleton]
  omega
 have h2 : Rep (pad2 s) (b ++ [128] ++ List.replicate (zR b) 0) := by
  unfold pad2; rw [hz]; exact rep_padS h1 _
 have hn : s.n * 8 = bitsR b := by
  rw [h.n]; unfold bitsR
  congr 1
  apply UInt64.toNat_inj.1
  have := ofInt_u64 ((b.length : Nat) : Int)
  rw [UInt64.toNat_ofNat']
  omega
 have h3 : Rep (pad3 s) (textR b) := by
  unfold pad3 textR
  rw [long_tail8,hn]
  exact rep_addS h2
 unfold endS sumR
 rw [outB_r _ _ (Nat.le_refl _),h3.h,textR_pieces]
 congr 2
 omega
theorem rep_start_add (b : List UInt8) : Rep (addS ShaS.start b) b := by
 have := rep_addS (c := b) rep_start
 simpa using this
theorem sum_r (b : List UInt8) : sumS b = sumR b := end_r (rep_start_add b)
theorem twice_r (b : List UInt8) : twiceS b = twiceR b := by unfold twiceS twiceR; rw [sum_r,sum_r]
end Go.Sx

namespace Go.Sx

instance : Inhabited ShaS := ⟨ShaS.zero⟩
theorem get!_last {α : Type} [Inhabited α] {l : List α} {v : α} {i : Nat} (h : i = l.length) : (l ++ [v])[i]! = v := by subst h; simp
end Go.Sx

namespace Go.Sx
abbrev Hs := List UInt8

def joinS (a b : Hs) : Hs := twiceS (a ++ b)
def joinR (a b : Hs) : Hs := twiceR (a ++ b)
theorem join_r : joinS = joinR := by funext a b; exact twice_r _
theorem twiceS_len (b : Hs) : (twiceS b).length = 32 := by unfold twiceS; exact sumS_len _
theorem twiceR_len (b : Hs) : (twiceR b).length = 32 := by unfold twiceR; exact sumR_len _
theorem joinS_len (a b : Hs) : (joinS a b).length = 32 := twiceS_len _
theorem joinR_len (a b : Hs) : (joinR a b).length = 32 := twiceR_len _

theorem both1 (a : Hs) (ha : a.length = 32) : ((List.replicate 64 (0 : UInt8)).map D.u8).take 0 ++ (((a.map D.u8).drop 0).take 32).take 32 ++ ((List.replicate 64 (0 : UInt8)).map D.u8).drop (0 + 32) = (a ++ List.replicate 32 0).map D.u8 := by
 have h1 : ((a.map D.u8).take 32) = a.map D.u8 := List.take_of_length_le (by simp [ha])
 simp only [List.drop_zero,List.take_take,Nat.min_self,h1,List.take_zero,List.nil_append,List.map_append]
 rfl
theorem both2 (a b : Hs) (ha : a.length = 32) (hb : b.length = 32) : ((a ++ List.replicate 32 (0 : UInt8)).map D.u8).take 32 ++ (((b.map D.u8).drop 0).take 32).take 32 ++ ((a ++ List.replicate 32 (0 : UInt8)).map D.u8).drop (32 + 32) = (a ++ b).map D.u8 := by
 have h1 : ((b.map D.u8).take 32) = b.map D.u8 := List.take_of_length_le (by simp [hb])
 have h2 : ((a ++ List.replicate 32 (0 : UInt8)).map D.u8).take 32 = a.map D.u8 := by rw [List.map_append,List.take_append_of_le_length (by simp [ha]),List.take_of_length_le (by simp [ha])]
 have h3 : ((a ++ List.replicate 32 (0 : UInt8)).map D.u8).drop (32 + 32) = [] := List.drop_eq_nil_of_le (by simp [ha])
 rw [h2,h3]
 simp only [List.drop_zero,List.take_take,Nat.min_self,h1,List.map_append,List.append_nil]
theorem part32 (a : Hs) (ha : a.length = 32) : ((a.map D.u8).drop 0).take 32 = a.map D.u8 := by rw [List.drop_zero,List.take_of_length_le (by simp [ha])]

def upI (J : Hs → Hs → Hs) (l : List Hs) : Nat → List Hs
 | 0 => []
 | i + 1 => upI J l i ++ [J l[2 * i]! l[min (2 * i + 1) (l.length - 1)]!]
def upR (J : Hs → Hs → Hs) (l : List Hs) : List Hs := upI J l ((l.length + 1) / 2)
def rowA (J : Hs → Hs → Hs) (l : List Hs) : Nat → List Hs
 | 0 => l
 | k + 1 => upR J (rowA J l k)
def nRows (n : Nat) : Nat := if n = 0 then 0 else if n = 1 then 1 else nRows ((n + 1) / 2) + 1
termination_by n
def lenA (n : Nat) : Nat → Nat
 | 0 => n
 | k + 1 => (lenA n k + 1) / 2
theorem upI_len (J : Hs → Hs → Hs) (l : List Hs) (i : Nat) : (upI J l i).length = i := by
 induction i with
 | zero => rfl
 | succ i ih => simp [upI,ih]
theorem upR_len (J : Hs → Hs → Hs) (l : List Hs) : (upR J l).length = (l.length + 1) / 2 := upI_len _ _ _
theorem rowA_len (J : Hs → Hs → Hs) (l : List Hs) (k : Nat) : (rowA J l k).length = lenA l.length k := by
 induction k with
 | zero => rfl
 | succ k ih => simp only [rowA,lenA,upR_len,ih]
theorem lenA_le (n k : Nat) : lenA n k ≤ n := by
 induction k with
 | zero => exact Nat.le_refl _
 | succ k ih => simp only [lenA]; omega
theorem nRows_0 : nRows 0 = 0 := by unfold nRows; rfl
theorem nRows_1 : nRows 1 = 1 := by unfold nRows; rfl
theorem nRows_2 {n : Nat} (h : 2 ≤ n) : nRows n = nRows ((n + 1) / 2) + 1 := by
 rw [nRows]
 simp [show n ≠ 0 by omega,show n ≠ 1 by omega]
theorem nRows_pos {n : Nat} (h : 1 ≤ n) : 1 ≤ nRows n := by
 by_cases h1 : n = 1
 · subst h1; rw [nRows_1]; exact Nat.le_refl _
 · rw [nRows_2 (by omega)]; omega
theorem nRows_left (n k : Nat) (h : k < nRows n) : k + nRows (lenA n k) = nRows n := by
 induction k with
 | zero => simp [lenA]
 | succ k ih =>
  have h0 := ih (by omega)
  have h2 : 2 ≤ lenA n k := by
   apply Nat.le_of_not_lt
   intro hc
   rcases Nat.lt_or_ge (lenA n k) 1 with h3 | h3
   · rw [show lenA n k = 0 by omega,nRows_0] at h0; omega
   · rw [show lenA n k = 1 by omega,nRows_1] at h0; omega
  rw [nRows_2 h2] at h0
  simp only [lenA]
  omega
theorem rowA_pos (J : Hs → Hs → Hs) (l : List Hs) (k : Nat) (h : k < nRows l.length) : 1 ≤ (rowA J l k).length := by
 have h0 := nRows_left _ _ h
 rw [rowA_len]
 apply Nat.le_of_not_lt
 intro hc
 rw [show lenA l.length k = 0 by omega,nRows_0] at h0
 omega
theorem nRows_le (n : Nat) : nRows n ≤ n := by
 induction n using Nat.strongRecOn with
 | _ n ih =>
  by_cases h0 : n = 0
  · subst h0; rw [nRows_0]; exact Nat.le_refl _
  · by_cases h1 : n = 1
    · subst h1; rw [nRows_1]; exact Nat.le_refl _
    · rw [nRows_2 (by omega)]; have := ih ((n + 1) / 2) (by omega); omega

def allH (l : List Hs) : Prop := ∀ h ∈ l,h.length = 32
theorem allH.get {l : List Hs} (h : allH l) {i : Nat} (hi : i < l.length) : l[i]!.length = 32 := by
 rw [getElem!_pos l i hi]; exact h _ (List.getElem_mem hi)
theorem upI_all {J : Hs → Hs → Hs} (hJ : ∀ a b,(J a b).length = 32) (l : List Hs) (i : Nat) : allH (upI J l i) := by
 induction i with
 | zero => intro h hh; cases hh
 | succ i ih =>
  intro h hh
  rcases List.mem_append.1 hh with h1 | h1
  · exact ih h h1
  · rw [List.mem_singleton.1 h1]; exact hJ _ _
theorem rowA_all {J : Hs → Hs → Hs} (hJ : ∀ a b,(J a b).length = 32) {l : List Hs} (h : allH l) (k : Nat) : allH (rowA J l k) := by
 cases k with
 | zero => exact h
 | succ k => exact upI_all hJ _ _
theorem brw_hash (h : Hs) : (hashD h).brw = hashD h := by
 unfold hashD
 simp only [D.brw,brws_eq]
 rw [brw_map (fun _ => rfl)]
theorem brw_hs (o : Option Nat) (z : Nat) (l : List Hs) : (D.sl o z (l.map hashD)).brw = .sl none z (l.map hashD) := by
 simp only [D.brw,brws_eq]
 rw [brw_map brw_hash]
theorem frs_hash' (h : Hs) : Frs (hashD h) := .arr _ _ _ (frs_map fun _ => .u8 _)
theorem frs_hs (e z : Nat) (l : List Hs) : Frs (.sl (some e) z (l.map hashD)) := .sl _ _ _ (frs_map frs_hash')

def zero32 : Hs := List.replicate 32 0
def rootA (J : Hs → Hs → Hs) (l : List Hs) : Nat → Hs
 | 0 => zero32
 | k + 1 => (rowA J l k)[0]!
def rootS (J : Hs → Hs → Hs) (l : List Hs) : Hs := rootA J l (nRows l.length)
def rowDbl (l : List Hs) : Bool := (List.range (l.length / 2)).any fun i => l[2 * i + 1]! == l[2 * i]!
def dblS (J : Hs → Hs → Hs) (l : List Hs) : Bool := (List.range (nRows l.length)).any fun k => rowDbl (rowA J l k)
theorem rowDbl_true {l : List Hs} {i : Nat} (ho : i % 2 = 1) (hi : i < l.length) (h : (l[i]! == l[i - 1]!) = true) : rowDbl l = true := by
 unfold rowDbl
 rw [List.any_eq_true]
 refine ⟨i / 2,List.mem_range.2 (by omega), ?_⟩
 rw [show 2 * (i / 2) + 1 = i by omega,show 2 * (i / 2) = i - 1 by omega]
 exact h
theorem rowDbl_false {l : List Hs} (h : ∀ j,2 * j + 1 < l.length → (l[2 * j + 1]! == l[2 * j]!) = false) : rowDbl l = false := by
 unfold rowDbl
 rw [List.any_eq_false]
 intro j hj
 have := List.mem_range.1 hj
 rw [h j (by omega)]
 simp
theorem dblS_true {J : Hs → Hs → Hs} {l : List Hs} {k : Nat} (hk : k < nRows l.length) (h : rowDbl (rowA J l k) = true) : dblS J l = true := by
 unfold dblS
 rw [List.any_eq_true]
 exact ⟨k,List.mem_range.2 hk,h⟩
theorem dblS_false {J : Hs → Hs → Hs} {l : List Hs} (h : ∀ j,j < nRows l.length → rowDbl (rowA J l j) = false) : dblS J l = false := by
 unfold dblS
 rw [List.any_eq_false]
 intro j hj
 rw [h j (List.mem_range.1 hj)]
 simp
end Go.Sx

namespace Go.Sx
open Go.Proofs
theorem join_ok (a b : Hs) (hx : a.length = 32) (hy : b.length = 32) : Fn Tryd.prog gl 30 [hashD a,hashD b] (hashD (joinS a b)) := by
 refine Fn.of (n := 14) Tryd.func30 rfl rfl rfl (nU rfl) fun C hC hD => ?_
 refine W.seq ?_
 refine W.l0 3 [] [] [] [(0,_),(1,_)] [] 14 trivial rfl rfl rfl rfl (⟨rfl,_,R.box (gV 0 rfl) rfl rfl (nU rfl),⟨rfl,_,R.box (gV 1 rfl) rfl rfl (nU rfl),⟨rfl,_,R.alloc rfl (nU rfl),tV [(2,_),(3,_),(4,_)] [(4,.var _),(3,.var _),(2,.var _)] 14 rfl rfl rfl ?_⟩⟩⟩)
 refine W.seq ?_
 refine W.l0 1 [] [] [] [(2,_),(3,_),(4,_)] [(4,.var _),(3,.var _),(2,.var _)] 14 trivial rfl rfl rfl rfl (⟨rfl,_,R.alloc rfl (nU rfl),tV [(2,_),(3,_),(4,_),(5,_)] [(5,.var _),(4,.var _),(3,.var _),(2,.var _)] 14 rfl rfl rfl ?_⟩)
 refine W.seq ?_
 refine W.draw (m := 2) (an := [0,0,3]) hP (by decide) rfl (its := [.y 6 _,.y 7 _]) (ks := []) (kk := []) (live := [3,4,5,6,7]) (env' := [(3,_),(4,_),(5,_),(6,_),(7,_)]) (⟨nU rfl,rfl,⟨aU fun _ B H K => R.slAN (0) (64) (64) (K 5 _ rfl) (B 5 _ rfl) rfl rfl rfl rfl rfl bU bU rfl H,aU fun _ B H K => R.slAN (0) (32) (32) (K 2 _ rfl) (B 2 _ rfl) rfl rfl rfl rfl rfl bU bU rfl H,trivial⟩,rfl,rfl,rfl⟩) rfl (bx' := [(5,.var _),(4,.var _),(3,.var _),(2,.var _)]) rfl (n' := 14) rfl (⟨rfl,_,R.cpAE (k := 32) (l2 := ((a ++ List.replicate 32 0).map D.u8)) (gU 6 rfl) (xU 5 rfl) rfl (by decide) (SrcO.sc (SC.va (gU 7 rfl) (xU 2 rfl) rfl (by decide)) (pur_part (fun _ => rfl))) (fun y q => np_map (fun _ => rfl) y (List.mem_of_mem_drop (List.mem_of_mem_take q))) (nU rfl) (by simp [hx]) (both1 a hx) rfl,tV [(3,_),(4,_),(5,_)] [(5,.var _),(4,.var _),(3,.var _),(2,.var _)] 14 rfl rfl rfl ?_⟩)
 refine W.seq ?_
 refine W.draw (m := 2) (an := [0,0,3]) hP (by decide) rfl (its := [.y 9 _,.y 10 _]) (ks := []) (kk := []) (live := [4,5,9,10]) (env' := [(4,_),(5,_),(9,_),(10,_)]) (⟨nU rfl,rfl,⟨aU fun _ B H K => R.slAN (32) (64) ((64 - 32)) (K 5 _ rfl) (B 5 _ rfl) rfl (evoI (kI 32 rfl)) rfl rfl rfl bU bU rfl H,aU fun _ B H K => R.slAN (0) (32) (32) (K 3 _ rfl) (B 3 _ rfl) rfl rfl rfl rfl rfl bU bU rfl H,trivial⟩,rfl,rfl,rfl⟩) rfl (bx' := [(5,.var _),(4,.var _),(3,.var _),(2,.var _)]) rfl (n' := 14) rfl (⟨rfl,_,R.cpAE (k := 32) (l2 := ((a ++ b).map D.u8)) (gU 9 rfl) (xU 5 rfl) rfl (by decide) (SrcO.sc (SC.va (gU 10 rfl) (xU 3 rfl) rfl (by decide)) (pur_part (fun _ => rfl))) (fun y q => np_map (fun _ => rfl) y (List.mem_of_mem_drop (List.mem_of_mem_take q))) (nU rfl) (by simp [hy]) (both2 a b hx hy) rfl,tV [(4,_),(5,_)] [(5,.var _),(4,.var _),(3,.var _),(2,.var _)] 14 rfl rfl rfl ?_⟩)
 refine W.seq ?_
 refine W.l0 3 [.y 12 _,.y 13 _] [] [] [(4,_),(13,_)] [(5,.var _),(4,.var _),(3,.var _),(2,.var _)] 14 ⟨aU fun _ B H K => R.slAN (0) (64) (64) (K 5 _ rfl) (B 5 _ rfl) rfl rfl rfl rfl rfl bU bU rfl H,aU fun _ B H K => R.callG hC (twice_ok (a ++ b) (by simp only [List.length_append,hx,hy]; decide)) (Bors.cons (Bor.sc (SC.va (K 12 _ rfl) (B 5 _ rfl) rfl (by decide)) (brw_all (fun _ => rfl) (by simp only [List.length_append,hx,hy]))) Bors.nil) (FrsR.one (frs_hash _)) H,trivial⟩ rfl rfl rfl rfl (⟨rfl,_,R.stZ (gU 4 rfl) (xU 4 rfl) rfl (gV 13 rfl) (by rfl) (by rfl) (by rfl) (by rfl) rfl,tV [(4,_)] [(5,.var _),(4,.var _),(3,.var _),(2,.var _)] 14 rfl rfl rfl ?_⟩)
 refine W.ret ?_
 exact Ends.one' (.inr rfl) rfl (rfl) rfl rfl (show LdT _ 38 32 true from inferInstance)

theorem rjoin_ok (a b : Hs) (hx : a.length = 32) (hy : b.length = 32) : Fn Tryd.prog gl 40 [hashD a,hashD b] (hashD (joinR a b)) := by
 refine Fn.of (n := 13) Tryd.func40 rfl rfl rfl (nU rfl) fun C hC hD => ?_
 refine W.seq ?_
 refine W.l0 3 [] [] [] [(0,_),(1,_)] [] 13 trivial rfl rfl rfl rfl (⟨rfl,_,R.box (gV 0 rfl) rfl rfl (nU rfl),⟨rfl,_,R.box (gV 1 rfl) rfl rfl (nU rfl),⟨rfl,_,R.alloc rfl (nU rfl),tV [(2,_),(3,_),(4,_)] [(4,.var _),(3,.var _),(2,.var _)] 13 rfl rfl rfl ?_⟩⟩⟩)
 refine W.seq ?_
 refine W.l0 4 [.y 6 _,.y 7 _,.y 8 _,.y 5 _] [(2,6),(3,8)] [(2,6),(3,8)] [(3,_),(4,_),(5,_)] [(4,.var _),(3,.var _),(2,.var _)] 13 ⟨aU fun _ _ H _ => R.bslE .nil trivial rfl H (by decide),aU fun _ B H K => R.slAN (0) (32) (32) (K 2 _ rfl) (B 2 _ rfl) rfl rfl rfl rfl rfl bU bU rfl H,aU fun _ B H K => R.appE (Or.inl rfl) (K 6 _ rfl) (SrcO.sc (SC.va (K 7 _ rfl) (B 2 _ rfl) rfl (by decide)) (pur_part (fun _ => rfl))) (show _ = (a.map D.u8) from ((List.nil_append _).trans (part32 a hx))) (by simp [hx]) H (by decide) (by decide),aU fun _ _ H K => R.asgO (K 8 _ rfl) rfl H (by decide),trivial⟩ rfl rfl rfl rfl (tU rfl ?_)
 refine W.seq ?_
 refine W.l0 5 [.y 9 _,.y 10 _,.y 11 _,.y 12 _] [(2,5)] [(2,5)] [(4,_),(12,_)] [(4,.var _),(3,.var _),(2,.var _)] 13 ⟨aU fun _ _ H K => R.al (K 5 _ rfl) H (by decide),aU fun _ B H K => R.slAN (0) (32) (32) (K 3 _ rfl) (B 3 _ rfl) rfl rfl rfl rfl rfl bU bU rfl H,aU fun _ B H K => R.appE (Or.inr (K 9 _ rfl)) (K 5 _ rfl) (SrcO.sc (SC.va (K 10 _ rfl) (B 3 _ rfl) rfl (by decide)) (pur_part (fun _ => rfl))) (show _ = ((a ++ b).map D.u8) from (by rw [part32 b hy,List.map_append])) (by simp [hx,hy]) H (by decide) (by decide),aU fun _ _ H K => R.callG hC (rtwice_ok (a ++ b) (by simp only [List.length_append,hx,hy]; decide)) (Bors.cons (Bor.sc (SC.sl (K 11 _ rfl)) (brw_map (fun _ => rfl))) Bors.nil) (FrsR.one (frs_hash _)) H,trivial⟩ rfl rfl rfl rfl (⟨rfl,_,R.stZ (gU 4 rfl) (xU 4 rfl) rfl (gV 12 rfl) (by rfl) (by rfl) (by rfl) (by rfl) rfl,tV [(4,_)] [(4,.var _),(3,.var _),(2,.var _)] 13 rfl rfl rfl ?_⟩)
 refine W.ret ?_
 exact Ends.one' (.inr rfl) rfl (rfl) rfl rfl (show LdT _ 38 32 true from inferInstance)

end Go.Sx

namespace Go.Sx
open Go.Proofs
theorem rows_ok (l : List Hs) : Fn Tryd.prog gl 38 [.sl none 32 (l.map hashD)] (.fn 48 [.rp (.sl none 32 (l.map hashD))]) := by
 refine Fn.of (n := 4) Tryd.func38 rfl rfl rfl (nU rfl) fun C hC hD => ?_
 refine W.seq ?_
 refine W.l0 2 [] [] [] [(0,_)] [] 4 trivial rfl rfl rfl rfl (⟨rfl,_,R.box (gV 0 rfl) rfl rfl (nU rfl),⟨rfl,_,R.asg (show ev _ _ (.const (.nilFunc)) = some (.nilf) from rfl) rfl (nU rfl),tV [(1,_)] [(1,.var _)] 4 rfl rfl rfl ?_⟩⟩)
 refine W.seq ?_
 refine W.frzB 1 [] (d' := .sl none 32 (l.map hashD)) (bx' := []) rfl (brw_hs _ _ _) rfl rfl rfl rfl rfl rfl (pin_sub hD rfl) ?_
 refine W.l0 2 [.y 3 _,.y 2 _] [] [] [(2,_)] [] 4 ⟨aU fun _ _ H K => R.mkfn1 (eU K 1 rfl) rfl rfl H,aU fun _ _ H K => R.asg (eU K 3 rfl) rfl H,trivial⟩ rfl rfl rfl rfl (tU rfl ?_)
 refine W.ret ?_
 exact Ends.one' (.inr rfl) rfl (rfl) rfl rfl trivial

theorem rows_itr (l : List Hs) (hl : allH l) (hl0 : l.length ≤ 1000) : Itr Tryd.prog gl 48 [.rp (.sl none 32 (l.map hashD))] ((List.range (nRows l.length)).map fun k => .sl none 32 ((rowA joinS l k).map hashD)) := by
 refine Itr.of (n := 43) Tryd.func48 rfl rfl rfl rfl (nU rfl) fun G Y lo hY hyl => ?_
 refine V.scope ?_
 refine V.seq ?_
 refine V.of fun C hC hD => ?_
 refine W.l0 2 [.y 6 _,.y 3 _] [] [] [(0,_),(3,_)] [] 43 ⟨aU fun _ _ H K => R.ldR (eU K 1 rfl) rfl rfl rfl H,aU fun _ _ H K => R.asg (eU K 6 rfl) rfl H,trivial⟩ rfl rfl rfl rfl (tU rfl ?_)
 refine V.seq ?_
 refine V.label ?_
 refine V.block ?_
 refine V.loop (α := {q__ : Nat // q__ + nRows (rowA joinS l q__).length = nRows l.length}) (fun q__ => ((q__.1,false),(⟨43,[(0,.yld lo),(3,.sl none 32 ((rowA joinS l q__.1).map hashD))],[]⟩ : Sg))) (fun q__ => nRows l.length - q__.1) ⟨(0),(by show 0 + _ = _; rw [Nat.zero_add]; rfl)⟩ rfl ?_
 rintro ⟨k,hk⟩
 show V _ _ _ _ _ ((k,false),(⟨43,[(0,.yld lo),(3,.sl none 32 ((rowA joinS l k).map hashD))],[]⟩ : Sg))
 have hrl := rowA_len joinS l k
 have hle := lenA_le l.length k
 have hra := rowA_all joinS_len hl k
 have hk : k + nRows (rowA joinS l k).length = nRows l.length := hk
 refine V.seq ?_
 refine V.of fun C hC hD => ?_
 refine W.seq ?_
 refine W.l0 3 [.y 7 _,.y 8 _,.y 9 _] [] [] [(0,_),(3,_),(9,_)] [] 43 ⟨mU 3 rfl rfl,aU fun _ _ H K => R.lenE (SC.sl (K 7 _ rfl)) (List.length_map _) H,aU fun _ _ H K => R.gtrN ((rowA joinS l k).length) (0) (eU K 8 rfl) (kI 0 rfl) H,trivial⟩ rfl rfl rfl rfl (tU rfl ?_)
 refine W.condD rfl (fun hc9 => ?_) (fun hc9 => ?_)
 · refine W.skip ?_
   refine V.block ?_
   refine V.seq ?_
   refine V.seq ?_
   refine V.region ?_
   refine VL.step rfl (fun C hC => R.mov (gV 0 rfl) rfl (nU rfl)) ?_
   refine VL.step rfl (fun C hC => R.mov (gV 3 rfl) rfl (nU rfl)) ?_
   refine VL.yield hY hyl (gU 10 rfl) (gV 11 rfl) rfl rfl (by rw [List.length_map,List.length_range]; have := nRows_pos (n := (rowA joinS l k).length) (by omega); omega) (by rw [List.getElem_map,List.getElem_range]) (nU rfl) (fun s__ => ?_)
   cases s__
   · refine VL.step rfl (fun C hC => R.un (gV 12 rfl) rfl (nU rfl)) ?_
     refine VL.step rfl (fun C hC => R.mov (gV 13 rfl) rfl (nU rfl)) ?_
     refine VL.stepG ⟨_,14,rfl,rfl,.inl ⟨_,rfl,gw (v := false) (rfl) rfl⟩⟩ (fun C hC => R.mov (gV 3 rfl) rfl (nU rfl)) ?_
     refine VL.stepG ⟨_,14,rfl,rfl,.inl ⟨_,rfl,gw (v := false) (rfl) rfl⟩⟩ (fun C hC => R.lenE (SC.sl (gU 15 rfl)) (List.length_map _) (nU rfl)) ?_
     refine VL.stepG ⟨_,14,rfl,rfl,.inl ⟨_,rfl,gw (v := false) (rfl) rfl⟩⟩ (fun C hC => R.eqlN ((rowA joinS l k).length) (1) (gV 16 rfl) (kI 1 rfl) (nU rfl)) ?_
     refine VL.step rfl (fun C hC => R.pickF (gV 14 rfl) (rfl) (gV 17 rfl) rfl (nU rfl)) ?_
     refine VL.nil ?_
     refine V.dropS (live := [0,3,18]) (env' := [(0,_),(3,_),(18,_)]) (bx' := []) (n' := 43) rfl rfl rfl ?_
     refine V.of fun C hC hD => ?_
     refine W.condD rfl (fun hc18 => ?_) (fun hc18 => ?_)
     · refine W.exit ?_
       exact ⟨fun _ h => (by cases h),.inl rfl,.inr (by rw [List.length_map,List.length_range]; show k + 1 = _; rw [show (rowA joinS l k).length = 1 by omega,nRows_1] at hk; omega)⟩
     · refine W.skip ?_
       refine V.of fun C hC hD => ?_
       refine W.seq ?_
       refine W.l0 1 [.y 4 _] [] [] [(0,_),(3,_),(4,_)] [] 43 ⟨aU fun _ _ H _ => R.asg (kN rfl) rfl H,trivial⟩ rfl rfl rfl rfl (tU rfl ?_)
       refine W.seq ?_
       refine W.seq ?_
       refine W.l0 1 [.y 5 _] [] [] [(0,_),(3,_),(4,_),(5,_)] [] 43 ⟨aU fun _ _ H _ => R.asg (kI 0 rfl) rfl H,trivial⟩ rfl rfl rfl rfl (tU rfl ?_)
       refine W.block ?_
       refine W.asOwn (s := 4) 38 32 rfl ?_
       refine W.loop (α := {q__ : Nat // q__ ≤ ((rowA joinS l k).length + 1) / 2}) (fun q__ => ⟨43,[(0,.yld lo),(3,.sl none 32 ((rowA joinS l k).map hashD)),(4,.sl (some 38) 32 ((upI joinS (rowA joinS l k) q__.1).map hashD)),(5,.int ((2 * q__.1 : Nat) : Int))],[]⟩) (fun q__ => ((rowA joinS l k).length + 1) / 2 - q__.1) ⟨(0),bU⟩ rfl ?_
       rintro ⟨i,hi⟩
       show W _ _ _ _ ⟨43,[(0,.yld lo),(3,.sl none 32 ((rowA joinS l k).map hashD)),(4,.sl (some 38) 32 ((upI joinS (rowA joinS l k) i).map hashD)),(5,.int ((2 * i : Nat) : Int))],[]⟩
       have hul := upI_len joinS (rowA joinS l k) i
       refine W.seq ?_
       refine W.seq ?_
       refine W.l0 4 [.y 19 _,.y 20 _,.y 21 _,.y 22 _] [] [] [(0,_),(3,_),(4,_),(5,_),(22,_)] [] 43 ⟨mU 5 rfl rfl,mU 3 rfl rfl,aU fun _ _ H K => R.lenE (SC.sl (K 20 _ rfl)) (List.length_map _) H,aU fun _ _ H K => R.lssN (2 * i) ((rowA joinS l k).length) (eU K 19 rfl) (eU K 21 rfl) H,trivial⟩ rfl rfl rfl rfl (tU rfl ?_)
       refine W.condD rfl (fun hc22 => ?_) (fun hc22 => ?_)
       · refine W.skip ?_
         refine W.seq ?_
         refine W.block ?_
         refine W.draw (m := 18) (an := [0,0,0,6,14,0,0,64,0,256,768,1984,4064,8160,16382,32766,65535,131071]) hP (by decide) rfl (its := [.y 25 _,.y 26 _,.y 27 _,.y 28 _,.y 29 _,.y 30 _,.y 31 _,.y 32 _,.y 33 _,.y 34 _,.y 35 _,.y 36 _,.y 37 _,.y 38 _,.y 39 _,.y 40 _,.y 41 _,.y 4 _]) (ks := [(16,4),(17,41),(17,25)]) (kk := [(16,4),(17,41)]) (live := [0,3,4,5]) (env' := [(0,_),(3,_),(4,_),(5,_)]) (⟨nU rfl,rfl,⟨aU fun _ _ H K => R.al (K 4 _ rfl) H (by decide),mU 3 rfl rfl,mU 5 rfl rfl,aU fun _ _ H K => R.idxN (2 * i) (SC.sl (K 26 _ rfl)) (evoI (eU K 27 rfl)) rfl bU H (by decide),aU fun _ _ H K => R.ldE (K 28 _ rfl) (SC.sl (K 26 _ rfl)) (map_get! (l := (rowA joinS l k)) bU) rfl rfl rfl rfl H,mU 3 rfl rfl,mU 5 rfl rfl,aU fun _ _ H K => R.addN (2 * i) (1) (eU K 31 rfl) (kI 1 rfl) bU H,mU 3 rfl rfl,aU fun _ _ H K => R.lenE (SC.sl (K 33 _ rfl)) (List.length_map _) H,aU fun _ _ H K => R.subN ((rowA joinS l k).length) (1) (eU K 34 rfl) (kI 1 rfl) bU bU H,aU fun _ _ H K => R.minI (r := ((min (2 * i + 1) ((rowA joinS l k).length - 1) : Nat) : Int)) (eU K 32 rfl) (eU K 35 rfl) (by omega) H,aU fun _ _ H K => R.idxN (min (2 * i + 1) ((rowA joinS l k).length - 1)) (SC.sl (K 30 _ rfl)) (evoI (eU K 36 rfl)) rfl bU H (by decide),aU fun _ _ H K => R.ldE (K 37 _ rfl) (SC.sl (K 30 _ rfl)) (map_get! (l := (rowA joinS l k)) bU) rfl rfl rfl rfl H,aU fun _ _ H K => R.callG hC (join_ok _ _ (hra.get (by omega)) (hra.get (by omega))) (Bors.cons (Bor.pur (eU K 29 rfl) rfl rfl) (Bors.cons (Bor.pur (eU K 38 rfl) rfl rfl) Bors.nil)) (FrsR.one (frs_hash _)) H,aU fun _ _ H K => R.bslE (z := 32) (.cons (eU K 39 rfl) .nil) ⟨⟨rfl,rfl,rfl⟩,trivial⟩ rfl H (by decide),aU fun _ _ H K => R.appE (Or.inr (K 25 _ rfl)) (K 4 _ rfl) (SrcO.sc (SC.sl (K 40 _ rfl)) (pur_lit rfl)) (app_one) bU H (by decide) (by decide),aU fun _ _ H K => R.asgO (K 41 _ rfl) rfl H (by decide),trivial⟩,rfl,rfl,rfl⟩) rfl (bx' := []) rfl (n' := 43) rfl (tV [(0,_),(3,_),(4,_),(5,_)] [] 43 rfl rfl rfl ?_)
         refine W.l0 3 [.y 23 _,.y 24 _,.y 5 _] [] [] [(0,_),(3,_),(4,_),(5,_)] [] 43 ⟨mU 5 rfl rfl,aU fun _ _ H K => R.addN (2 * i) (2) (eU K 23 rfl) (kI 2 rfl) bU H,aU fun _ _ H K => R.asg (eU K 24 rfl) rfl H,trivial⟩ rfl rfl rfl rfl (tU rfl ?_)
         exact ⟨⟨(i + 1),bU⟩,rfl,(by simp only []; omega)⟩
       · obtain rfl : i = ((rowA joinS l k).length + 1) / 2 := by omega
         refine W.exit ?_
         refine W.frzS (s := 4) (d' := .sl none 32 ((rowA joinS l (k + 1)).map hashD)) rfl rfl (brw_hs _ _ _) ?_
         refine W.l0 2 [.y 42 _,.y 3 _] [] [] [(0,_),(3,_)] [] 43 ⟨mU 4 rfl rfl,aU fun _ _ H K => R.asg (eU K 42 rfl) rfl H,trivial⟩ rfl rfl rfl rfl (tU rfl ?_)
         exact ⟨⟨(k + 1),(by have h2 := nRows_2 (n := (rowA joinS l k).length) (by omega); have h3 : (rowA joinS l (k + 1)).length = ((rowA joinS l k).length + 1) / 2 := upR_len _ _; rw [h2,← h3] at hk; show k + 1 + _ = _; omega)⟩,rfl,(by have := nRows_pos (n := (rowA joinS l k).length) (by omega); simp only []; omega)⟩
   · refine VL.step rfl (fun C hC => R.un (gV 12 rfl) rfl (nU rfl)) ?_
     refine VL.step rfl (fun C hC => R.mov (gV 13 rfl) rfl (nU rfl)) ?_
     refine VL.stepU ⟨_,14,rfl,rfl,.inl ⟨_,rfl,gw (v := true) (rfl) rfl⟩⟩ rfl (nU rfl) ?_
     refine VL.stepU ⟨_,14,rfl,rfl,.inl ⟨_,rfl,gw (v := true) (rfl) rfl⟩⟩ rfl (nU rfl) ?_
     refine VL.stepU ⟨_,14,rfl,rfl,.inl ⟨_,rfl,gw (v := true) (rfl) rfl⟩⟩ rfl (nU rfl) ?_
     refine VL.step rfl (fun C hC => R.pickT (gV 14 rfl) (rfl) (kB true rfl) rfl (nU rfl)) ?_
     refine VL.nil ?_
     refine V.dropS (live := [0,3,18]) (env' := [(0,_),(3,_),(18,_)]) (bx' := []) (n' := 43) rfl rfl rfl ?_
     refine V.of fun C hC hD => ?_
     refine W.condT rfl (rfl) ?_
     refine W.exit ?_
     exact ⟨fun _ h => (by cases h),.inl rfl,.inl rfl⟩
 · refine W.exit ?_
   exact ⟨fun _ h => (by cases h),.inl rfl,.inr (by rw [List.length_map,List.length_range]; show k = _; rw [show (rowA joinS l k).length = 0 by omega,nRows_0] at hk; omega)⟩

end Go.Sx

namespace Go.Sx
open Go.Proofs
theorem root_ok (l : List Hs) (hl : allH l) (hl0 : l.length ≤ 1000) : Fn Tryd.prog gl 22 [.sl none 32 (l.map hashD)] (hashD (rootS joinS l)) := by
 refine Fn.ofR (n := 11) Tryd.func22 rfl rfl rfl (Nat.le_of_ble_eq_true rfl) fun W0 G hgl => ?_
 refine V.seq ?_
 refine V.of fun C hC hD => ?_
 refine W.line (n := 1) (by decide) (its := []) (ks := []) (kk := []) (live := [0]) (env' := [(0,_)])
  (⟨Nat.le_of_ble_eq_true rfl,rfl,
   trivial,rfl,rfl,rfl⟩)
  rfl (bx' := []) rfl (n' := 11) rfl (⟨rfl,_,R.alloc rfl (Nat.le_of_ble_eq_true rfl),⟨[0,2],[(0,_),(2,_)],[(2,.var _)],11,rfl,rfl,rfl, ?_⟩⟩)
 refine V.seq ?_
 refine V.seq ?_
 refine V.of fun C hC hD => ?_
 refine W.line (n := 2) (by decide) (its := [⟨4,_,true⟩,⟨5,_,true⟩]) (ks := []) (kk := []) (live := [2,5]) (env' := [(2,_),(5,_)])
  (⟨Nat.le_of_ble_eq_true rfl,rfl,
   ⟨⟨rfl,rfl,fun _ τ hb ht hτ => R.mov (evt (hτ 0 _ rfl)) rfl ht⟩,
   ⟨⟨rfl,rfl,fun _ τ hb ht hτ => R.callPE hC (rows_ok l) (EvP.cons (evt (hτ 4 _ rfl)) rfl rfl EvP.nil) ht⟩,
   trivial⟩⟩,rfl,rfl,rfl⟩)
  rfl (bx' := [(2,.var _)]) rfl (n' := 11) rfl (⟨[2,5],[(2,_),(5,_)],[(2,.var _)],11,rfl,rfl,rfl, ?_⟩)
 refine V.block ?_
 refine V.rangeE [2] (nRows l.length) (fun k => .sl none 32 ((rowA joinS l k).map hashD)) (fun k => [(2,.var (hashD (rootA joinS l k)))]) (fun _ _ => False) (fun _ => True) hgl (rows_itr l hl hl0) rfl rfl rfl rfl (rfl) rfl ⟨frs_hash' _,rfl,trivial⟩ (fun _ => ⟨rfl,rfl⟩) (trivial) (fun k hk hJ C hC hD => ?_) ?_ ?_
 · have hrl := rowA_len joinS l k
   have hle := lenA_le l.length k
   have hra := rowA_all joinS_len hl k
   have hrp := rowA_pos joinS l k hk
   show W _ _ _ _ _
   refine W.dropS (live := [2,6]) (env' := [(2,_),(6,_)]) (bx' := [(2,.var _)]) (n' := 11) rfl rfl rfl ?_
   refine W.line (n := 1) (by decide) (its := [⟨3,_,true⟩]) (ks := []) (kk := []) (live := [2,3]) (env' := [(2,_),(3,_)])
    (⟨Nat.le_of_ble_eq_true rfl,rfl,
     ⟨⟨rfl,rfl,fun _ τ hb ht hτ => R.asg (evt (hτ 6 _ rfl)) rfl ht⟩,
     trivial⟩,rfl,rfl,rfl⟩)
    rfl (bx' := [(2,.var _)]) rfl (n' := 11) rfl (⟨[2,3],[(2,_),(3,_)],[(2,.var _)],11,rfl,rfl,rfl, ?_⟩)
   refine ⟨rfl,fun C hC hD => ?_⟩
   refine W.block ?_
   refine W.line (n := 4) (by decide) (its := [⟨7,_,true⟩,⟨8,_,true⟩,⟨9,_,true⟩]) (ks := []) (kk := []) (live := [2,9]) (env' := [(2,_),(9,_)])
    (⟨Nat.le_of_ble_eq_true rfl,rfl,
     ⟨⟨rfl,rfl,fun _ τ hb ht hτ => R.mov (evt (hτ 3 _ rfl)) rfl ht⟩,
     ⟨⟨rfl,rfl,fun _ τ hb ht hτ => R.idxN (0) (SC.sl (hτ 7 _ rfl)) (evoI (show ev _ _ (.const (.int .i64 0)) = some (.int ((0 : Nat) : Int)) from rfl)) rfl (by first | omega | (simp only [List.length_map,List.length_append,List.length_cons,List.length_nil,List.length_take,List.length_drop,List.length_replicate]; omega) | (simp; omega)) ht (by decide)⟩,
     ⟨⟨rfl,rfl,fun _ τ hb ht hτ => R.ldE (hτ 8 _ rfl) (SC.sl (hτ 7 _ rfl)) (map_get! (l := (rowA joinS l k)) (by first | omega | (simp only [List.length_map,List.length_append,List.length_cons,List.length_nil,List.length_take,List.length_drop,List.length_replicate]; omega) | (simp; omega))) rfl rfl rfl rfl ht⟩,
     trivial⟩⟩⟩,rfl,rfl,rfl⟩)
    rfl (bx' := [(2,.var _)]) rfl (n' := 11) rfl (⟨rfl,_,R.stZ (show Sg.get _ 2 = some _ from rfl) (show Sg.box _ 2 = some _ from rfl) rfl (evt (show Sg.get _ 9 = some _ from rfl)) (by rfl) (by rfl) (by rfl) (by rfl) rfl,⟨[],[],[(2,.var _)],11,rfl,rfl,rfl, ?_⟩⟩)
   exact ⟨.inl ⟨rfl,rfl,trivial⟩,⟨frs_hash' _,rfl,trivial⟩⟩
 · intro hJ
   refine V.of fun C hC hD => ?_
   refine W.seq ?_
   refine W.line (n := 2) (by decide) (its := [⟨10,_,true⟩]) (ks := []) (kk := []) (live := [2,10]) (env' := [(2,_),(10,_)])
    (⟨Nat.le_of_ble_eq_true rfl,rfl,
     ⟨⟨rfl,rfl,fun _ τ hb ht hτ => R.ldP (hτ 2 _ rfl) (hb 2 _ rfl) rfl rfl rfl rfl ht⟩,
     trivial⟩,rfl,rfl,rfl⟩)
    rfl (bx' := [(2,.var _)]) rfl (n' := 11) rfl (⟨rfl,_,R.stZ (show Sg.get _ 2 = some _ from rfl) (show Sg.box _ 2 = some _ from rfl) rfl (evt (show Sg.get _ 10 = some _ from rfl)) (by rfl) (by rfl) (by rfl) (by rfl) rfl,⟨[2],[(2,_)],[(2,.var _)],11,rfl,rfl,rfl, ?_⟩⟩)
   refine W.ret ?_
   exact Ends.one' (.inr rfl) rfl (rfl) rfl rfl (show LdT _ 38 32 true from inferInstance)
 · exact fun e bx he hs => hs.elim

end Go.Sx

namespace Go.Sx
open Go.Proofs
end Go.Sx

namespace Go.Sx

theorem upI_get (J : Hs → Hs → Hs) (l : List Hs) (i j : Nat) (h : j < i) : (upI J l i)[j]! = J l[2 * j]! l[min (2 * j + 1) (l.length - 1)]! := by
 induction i with
 | zero => omega
 | succ i ih =>
  simp only [upI]
  rcases Nat.lt_or_ge j i with h1 | h1
  · rw [get!_append (by rw [upI_len]; exact h1)]; exact ih h1
  · obtain rfl : j = i := by omega
    rw [get!_last (upI_len J l j).symm]
theorem rowA_get (J : Hs → Hs → Hs) (l : List Hs) (k j : Nat) (h : j < (rowA J l (k + 1)).length) : (rowA J l (k + 1))[j]! = J (rowA J l k)[2 * j]! (rowA J l k)[min (2 * j + 1) ((rowA J l k).length - 1)]! := by
 simp only [rowA,upR] at h ⊢
 rw [upI_len] at h
 exact upI_get J _ _ _ h

theorem idx_lt {n m : Nat} (h : m < n) (j : Nat) : m / 2 ^ j < lenA n j := by
 induction j with
 | zero => simpa [lenA] using h
 | succ j ih =>
  simp only [lenA,Nat.pow_succ,← Nat.div_div_eq_div_mul]
  omega
theorem idx_back {n i : Nat} (j : Nat) (h : i < lenA n j) : i * 2 ^ j < n := by
 induction j generalizing i with
 | zero => simpa [lenA] using h
 | succ j ih =>
  simp only [lenA] at h
  have := ih (i := 2 * i) (by omega)
  rw [Nat.pow_succ,Nat.mul_comm (2 ^ j) 2,← Nat.mul_assoc,Nat.mul_comm i 2]
  exact this

def bad (J : Hs → Hs → Hs) (l : List Hs) (m j : Nat) : Bool := decide ((m / 2 ^ j) % 2 = 1) && ((rowA J l j)[m / 2 ^ j]! == (rowA J l j)[m / 2 ^ j - 1]!)

def hv (n : UInt8) : Hs := n :: List.replicate 31 0
def abc : List Hs := [hv 1,hv 2,hv 3]
theorem abc_all : allH abc := by
 intro h hh
 simp only [abc,List.mem_cons,List.not_mem_nil,or_false] at hh
 rcases hh with rfl | rfl | rfl <;> rfl
theorem nRows_3 : nRows 3 = 3 := by rw [nRows_2 (by decide),nRows_2 (by decide),nRows_1]
theorem abc_r1 (J : Hs → Hs → Hs) : rowA J abc 1 = [J (hv 1) (hv 2),J (hv 3) (hv 3)] := by simp [rowA,upR,upI,abc]
theorem abc_r2 (J : Hs → Hs → Hs) : rowA J abc 2 = [J (J (hv 1) (hv 2)) (J (hv 3) (hv 3))] := by rw [rowA,abc_r1]; simp [upR,upI]
theorem wk_ne0 : (twiceR (hv 1 ++ hv 2))[0]! ≠ (twiceR (hv 3 ++ hv 3))[0]! := by decide +kernel
theorem wk_ne : joinS (hv 1) (hv 2) ≠ joinS (hv 3) (hv 3) := by
 intro h
 rw [join_r] at h
 exact wk_ne0 (congrArg (fun l : Hs => l[0]!) h)
theorem wk_d1J (J : Hs → Hs → Hs) (h : J (hv 1) (hv 2) ≠ J (hv 3) (hv 3)) : dblS J abc = false := by
 have h1 : rowDbl (rowA J abc 0) = false := by show rowDbl abc = false; decide
 have h2 : rowDbl (rowA J abc 1) = false := by
  refine rowDbl_false fun j hj => ?_
  have : (rowA J abc 1).length = 2 := by rw [abc_r1]; rfl
  obtain rfl : j = 0 := by omega
  rw [abc_r1]
  show (J (hv 3) (hv 3) == J (hv 1) (hv 2)) = false
  exact beq_false_of_ne (fun e => h e.symm)
 have h3 : rowDbl (rowA J abc 2) = false := by
  refine rowDbl_false fun j hj => ?_
  have : (rowA J abc 2).length = 1 := by rw [abc_r2]; rfl
  omega
 refine dblS_false fun j hj => ?_
 rw [show abc.length = 3 from rfl,nRows_3] at hj
 have : j = 0 ∨ j = 1 ∨ j = 2 := by omega
 rcases this with rfl | rfl | rfl <;> assumption
theorem wk_d1 : dblS joinS abc = false := wk_d1J joinS wk_ne
end Go.Sx

namespace Go.Sx
structure PartS where
 n : Int
 hs : List Hs
 fl : List Bool
 deriving Inhabited
def partD (p : PartS) : D := .agg [.int p.n,.sl none 32 (p.hs.map hashD),.sl none 1 (p.fl.map D.bool)]
def hsD (l : List Hs) : D := .sl none 32 (l.map hashD)
def flD (l : List Bool) : D := .sl none 1 (l.map D.bool)
def szB (n : Nat) : Bool := decide (n = 1) || decide (n = 2) || decide (n = 4) || decide (n = 8)
def shr8 (n : UInt64) : Nat → UInt64
 | 0 => n
 | k + 1 => shr_u64 (shr8 n k) 8
def leB (n : UInt64) : Nat → List UInt8
 | 0 => []
 | k + 1 => leB n k ++ [(shr8 n k).toUInt8]
theorem leB_len (n : UInt64) (k : Nat) : (leB n k).length = k := by
 induction k with
 | zero => rfl
 | succ k ih => simp [leB,ih]
def le2 (b : List UInt8) (k : Nat) : UInt64 := UInt64.ofNat (b[k]!.toNat + 256 * b[k + 1]!.toNat)
def takS (b : List UInt8) (k : Nat) : UInt64 × Nat × Nat := if b.length < k then (0,0,1) else if b.length < k + 2 then (0,0,5) else (le2 b k,k + 2,0)
theorem le2_or (b : List UInt8) (k : Nat) : (0 : UInt64) ||| shl_u64 b[k]!.toUInt64 0 ||| shl_u64 b[k + 1]!.toUInt64 8 = le2 b k := by
 apply UInt64.toNat_inj.1
 have h1 := b[k]!.toNat_lt
 have h2 := b[k + 1]!.toNat_lt
 have e0 : (shl_u64 b[k]!.toUInt64 0) = b[k]!.toUInt64 := by simp [shl_u64]
 have e1 : (shl_u64 b[k + 1]!.toUInt64 8).toNat = b[k + 1]!.toNat <<< 8 := by
  simp only [shl_u64,Nat.reduceLT,if_true,UInt64.toNat_shiftLeft,UInt8.toNat_toUInt64]
  rw [show (UInt64.ofNat 8).toNat % 64 = 8 from rfl,Nat.shiftLeft_eq]
  omega
 rw [e0,UInt64.toNat_or,UInt64.toNat_or,e1,UInt8.toNat_toUInt64]
 simp only [le2,UInt64.toNat_ofNat',UInt64.toNat_zero,Nat.zero_or]
 rw [Nat.or_comm,← Nat.shiftLeft_add_eq_or_of_lt (by omega : b[k]!.toNat < 2 ^ 8),Nat.shiftLeft_eq]
 omega
def numJ (l : List UInt8) : Nat → UInt64
 | 0 => 0
 | k + 1 => numJ l k ||| shl_u64 l[k]!.toUInt64 (8 * k)
theorem numJ_le2 {b : List UInt8} {m : Nat} (h : m + 2 ≤ b.length) : numJ ((b.drop m).take 2) 2 = le2 b m := by
 have h0 : ((b.drop m).take 2)[0]! = b[m]! := by
  rw [getElem!_pos ((b.drop m).take 2) 0 (by simp; omega),getElem!_pos b m (by omega)]; simp
 have h1 : ((b.drop m).take 2)[1]! = b[m + 1]! := by
  rw [getElem!_pos ((b.drop m).take 2) 1 (by simp; omega),getElem!_pos b (m + 1) (by omega)]; simp
 show (0 ||| shl_u64 _ (8 * 0)) ||| shl_u64 _ (8 * 1) = _
 rw [h0,h1]
 exact le2_or b m
theorem list_ext! {α : Type} [Inhabited α] {a b : List α} (hl : a.length = b.length) (h : ∀ j,j < a.length → a[j]! = b[j]!) : a = b := by
 refine List.ext_getElem hl fun i h1 h2 => ?_
 have := h i h1
 rwa [getElem!_pos a i h1,getElem!_pos b i h2] at this
theorem takS_1 {b : List UInt8} {m : Nat} (h : b.length < m) : takS b m = (0,0,1) := if_pos h
theorem takS_2 {b : List UInt8} {m : Nat} (h : ¬ b.length < m) (h2 : b.length < m + 2) : takS b m = (0,0,5) := by rw [takS,if_neg h,if_pos h2]
theorem takS_3 {b : List UInt8} {m : Nat} (h : ¬ b.length < m) (h2 : m + 2 ≤ b.length) : takS b m = (le2 b m,m + 2,0) := by rw [takS,if_neg h,if_neg (by omega)]
theorem nRows_short {n : Nat} (h : n ≤ 1) : nRows n ≤ 1 := by
 rcases (by omega : n = 0 ∨ n = 1) with rfl | rfl
 · rw [nRows_0]; omega
 · rw [nRows_1]; omega
theorem rowDbl_short {l : List Hs} (h : l.length ≤ 1) : rowDbl l = false := rowDbl_false fun j hj => by omega
end Go.Sx

namespace Go.Sx
open Go.Proofs
theorem rat_ok (l : List Hs) (k : Nat) (h0 : 0 < l.length) (hl0 : l.length ≤ 1000) (hk0 : k ≤ 1000000) : Fn Tryd.prog gl 47 [.sl none 32 (l.map hashD),.int ((k : Nat) : Int)] (hashD l[min k (l.length - 1)]!) := by
 refine Fn.of (n := 13) Tryd.func47 rfl rfl rfl (nU rfl) fun C hC hD => ?_
 refine W.seq ?_
 refine W.l0 1 [] [] [] [(0,_),(1,_)] [] 13 trivial rfl rfl rfl rfl (⟨rfl,_,R.alloc rfl (nU rfl),tV [(0,_),(1,_),(4,_)] [(4,.var _)] 13 rfl rfl rfl ?_⟩)
 refine W.seq ?_
 refine W.l0 9 [.y 5 _,.y 6 _,.y 7 _,.y 8 _,.y 9 _,.y 10 _,.y 11 _,.y 12 _] [] [] [(4,_),(12,_)] [(4,.var _)] 13 ⟨mU 0 rfl rfl,mU 1 rfl rfl,mU 0 rfl rfl,aU fun _ _ H K => R.lenE (SC.sl (K 7 _ rfl)) (List.length_map _) H,aU fun _ _ H K => R.subN (l.length) (1) (eU K 8 rfl) (kI 1 rfl) bU bU H,aU fun _ _ H K => R.minI (r := ((min k (l.length - 1) : Nat) : Int)) (eU K 6 rfl) (eU K 9 rfl) (by omega) H,aU fun _ _ H K => R.idxN (min k (l.length - 1)) (SC.sl (K 5 _ rfl)) (evoI (eU K 10 rfl)) rfl bU H (by decide),aU fun _ _ H K => R.ldE (K 11 _ rfl) (SC.sl (K 5 _ rfl)) (map_get! (l := l) bU) rfl rfl rfl rfl H,trivial⟩ rfl rfl rfl rfl (⟨rfl,_,R.stZ (gU 4 rfl) (xU 4 rfl) rfl (gV 12 rfl) (by rfl) (by rfl) (by rfl) (by rfl) rfl,tV [(4,_)] [(4,.var _)] 13 rfl rfl rfl ?_⟩)
 refine W.ret ?_
 exact Ends.one' (.inr rfl) rfl (rfl) rfl rfl (show LdT _ 38 32 true from inferInstance)

theorem rabove_ok (l : List Hs) (hl : allH l) (hl0 : l.length ≤ 1000) : Fn Tryd.prog gl 37 [.sl none 32 (l.map hashD)] (.sl (some 38) 32 ((upR joinR l).map hashD)) := by
 refine Fn.of (n := 24) Tryd.func37 rfl rfl rfl (nU rfl) fun C hC hD => ?_
 refine W.seq ?_
 refine W.l0 1 [.y 2 _] [] [] [(0,_)] [] 24 ⟨aU fun _ _ H _ => R.asg (kN rfl) rfl H,trivial⟩ rfl rfl rfl rfl (tU rfl ?_)
 refine W.seq ?_
 refine W.l0 1 [.y 3 _] [] [] [(0,_),(3,_)] [] 24 ⟨aU fun _ _ H _ => R.asg (kN rfl) rfl H,trivial⟩ rfl rfl rfl rfl (tU rfl ?_)
 refine W.seq ?_
 refine W.seq ?_
 refine W.l0 1 [.y 4 _] [] [] [(0,_),(3,_),(4,_)] [] 24 ⟨aU fun _ _ H _ => R.asg (kI 0 rfl) rfl H,trivial⟩ rfl rfl rfl rfl (tU rfl ?_)
 refine W.block ?_
 refine W.asOwn (s := 3) 38 32 rfl ?_
 refine W.loop (α := {q__ : Nat // q__ ≤ (l.length + 1) / 2}) (fun q__ => ⟨24,[(0,.sl none 32 (l.map hashD)),(3,.sl (some 38) 32 ((upI joinR l q__.1).map hashD)),(4,.int ((2 * q__.1 : Nat) : Int))],[]⟩) (fun q__ => (l.length + 1) / 2 - q__.1) ⟨(0),bU⟩ rfl ?_
 rintro ⟨i,hi⟩
 show W _ _ _ _ ⟨24,[(0,.sl none 32 (l.map hashD)),(3,.sl (some 38) 32 ((upI joinR l i).map hashD)),(4,.int ((2 * i : Nat) : Int))],[]⟩
 have hul := upI_len joinR l i
 refine W.seq ?_
 refine W.seq ?_
 refine W.l0 4 [.y 5 _,.y 6 _,.y 7 _,.y 8 _] [] [] [(0,_),(3,_),(4,_),(8,_)] [] 24 ⟨mU 4 rfl rfl,mU 0 rfl rfl,aU fun _ _ H K => R.lenE (SC.sl (K 6 _ rfl)) (List.length_map _) H,aU fun _ _ H K => R.lssN (2 * i) (l.length) (eU K 5 rfl) (eU K 7 rfl) H,trivial⟩ rfl rfl rfl rfl (tU rfl ?_)
 refine W.condD rfl (fun hc8 => ?_) (fun hc8 => ?_)
 · refine W.skip ?_
   refine W.seq ?_
   refine W.block ?_
   refine W.draw (m := 13) (an := [0,0,0,6,14,0,0,64,224,510,1022,2047,4095]) hP (by decide) rfl (its := [.y 11 _,.y 12 _,.y 13 _,.y 14 _,.y 15 _,.y 16 _,.y 17 _,.y 18 _,.y 19 _,.y 20 _,.y 21 _,.y 22 _,.y 3 _]) (ks := [(11,3),(12,22),(12,11)]) (kk := [(11,3),(12,22)]) (live := [0,3,4]) (env' := [(0,_),(3,_),(4,_)]) (⟨nU rfl,rfl,⟨aU fun _ _ H K => R.al (K 3 _ rfl) H (by decide),mU 0 rfl rfl,mU 4 rfl rfl,aU fun _ _ H K => R.idxN (2 * i) (SC.sl (K 12 _ rfl)) (evoI (eU K 13 rfl)) rfl bU H (by decide),aU fun _ _ H K => R.ldE (K 14 _ rfl) (SC.sl (K 12 _ rfl)) (map_get! (l := l) bU) rfl rfl rfl rfl H,mU 0 rfl rfl,mU 4 rfl rfl,aU fun _ _ H K => R.addN (2 * i) (1) (eU K 17 rfl) (kI 1 rfl) bU H,aU fun _ _ H K => R.callG hC (rat_ok l (2 * i + 1) (by omega) hl0 (by omega)) (Bors.cons (Bor.pur (eU K 16 rfl) rfl rfl) (Bors.cons (Bor.pur (eU K 18 rfl) rfl rfl) Bors.nil)) (FrsR.one (frs_hash _)) H,aU fun _ _ H K => R.callG hC (rjoin_ok _ _ (hl.get (by omega)) (hl.get (by omega))) (Bors.cons (Bor.pur (eU K 15 rfl) rfl rfl) (Bors.cons (Bor.pur (eU K 19 rfl) rfl rfl) Bors.nil)) (FrsR.one (frs_hash _)) H,aU fun _ _ H K => R.bslE (z := 32) (.cons (eU K 20 rfl) .nil) ⟨⟨rfl,rfl,rfl⟩,trivial⟩ rfl H (by decide),aU fun _ _ H K => R.appE (Or.inr (K 11 _ rfl)) (K 3 _ rfl) (SrcO.sc (SC.sl (K 21 _ rfl)) (pur_lit rfl)) (app_one) bU H (by decide) (by decide),aU fun _ _ H K => R.asgO (K 22 _ rfl) rfl H (by decide),trivial⟩,rfl,rfl,rfl⟩) rfl (bx' := []) rfl (n' := 24) rfl (tV [(0,_),(3,_),(4,_)] [] 24 rfl rfl rfl ?_)
   refine W.l0 3 [.y 9 _,.y 10 _,.y 4 _] [] [] [(0,_),(3,_),(4,_)] [] 24 ⟨mU 4 rfl rfl,aU fun _ _ H K => R.addN (2 * i) (2) (eU K 9 rfl) (kI 2 rfl) bU H,aU fun _ _ H K => R.asg (eU K 10 rfl) rfl H,trivial⟩ rfl rfl rfl rfl (tU rfl ?_)
   exact ⟨⟨(i + 1),bU⟩,rfl,(by simp only []; omega)⟩
 · obtain rfl : i = (l.length + 1) / 2 := by omega
   refine W.exit ?_
   refine W.seq ?_
   refine W.l0 2 [.y 23 _,.y 2 _] [(0,3),(1,23)] [(0,3),(1,23)] [(2,_)] [] 24 ⟨aU fun _ _ H K => R.movO (K 3 _ rfl) rfl H (by decide),aU fun _ _ H K => R.asgO (K 23 _ rfl) rfl H (by decide),trivial⟩ rfl rfl rfl rfl (tU rfl ?_)
   refine W.ret ?_
   exact Ends.one' (.inr rfl) rfl (rfl) rfl rfl trivial

theorem rdoubled_ok (l : List Hs) (hl : allH l) (hl0 : l.length ≤ 1000) : Fn Tryd.prog gl 20 [.sl none 32 (l.map hashD)] (.bool (dblS joinR l)) := by
 refine Fn.of (n := 27) Tryd.func20 rfl rfl rfl (nU rfl) fun C hC hD => ?_
 refine W.seq ?_
 refine W.l0 1 [.y 2 _] [] [] [(0,_)] [] 27 ⟨aU fun _ _ H _ => R.asg (kB false rfl) rfl H,trivial⟩ rfl rfl rfl rfl (tU rfl ?_)
 refine W.seq ?_
 refine W.l0 2 [.y 5 _,.y 3 _] [] [] [(3,_)] [] 27 ⟨mU 0 rfl rfl,aU fun _ _ H K => R.asg (eU K 5 rfl) rfl H,trivial⟩ rfl rfl rfl rfl (tU rfl ?_)
 refine W.seq ?_
 refine W.block ?_
 refine W.loop (α := {q__ : Nat // q__ + nRows (rowA joinR l q__).length = nRows l.length ∧ ∀ q < q__,rowDbl (rowA joinR l q) = false}) (fun q__ => ⟨27,[(3,.sl none 32 ((rowA joinR l q__.1).map hashD))],[]⟩) (fun q__ => nRows l.length - q__.1) ⟨(0),⟨(by show 0 + _ = _; rw [Nat.zero_add]; rfl),fun q hq => absurd hq (Nat.not_lt_zero _)⟩⟩ rfl ?_
 rintro ⟨k,⟨hk,hd⟩⟩
 show W _ _ _ _ ⟨27,[(3,.sl none 32 ((rowA joinR l k).map hashD))],[]⟩
 have hrl := rowA_len joinR l k
 have hle := lenA_le l.length k
 have hra := rowA_all joinR_len hl k
 have hk : k + nRows (rowA joinR l k).length = nRows l.length := hk
 have hd : ∀ q < k,rowDbl (rowA joinR l q) = false := hd
 refine W.seq ?_
 refine W.seq ?_
 refine W.l0 3 [.y 6 _,.y 7 _,.y 8 _] [] [] [(3,_),(8,_)] [] 27 ⟨mU 3 rfl rfl,aU fun _ _ H K => R.lenE (SC.sl (K 6 _ rfl)) (List.length_map _) H,aU fun _ _ H K => R.gtrN ((rowA joinR l k).length) (1) (eU K 7 rfl) (kI 1 rfl) H,trivial⟩ rfl rfl rfl rfl (tU rfl ?_)
 refine W.condD rfl (fun hc8 => ?_) (fun hc8 => ?_)
 · refine W.skip ?_
   refine W.block ?_
   refine W.seq ?_
   refine W.seq ?_
   refine W.l0 1 [.y 4 _] [] [] [(3,_),(4,_)] [] 27 ⟨aU fun _ _ H _ => R.asg (kI 1 rfl) rfl H,trivial⟩ rfl rfl rfl rfl (tU rfl ?_)
   refine W.block ?_
   refine W.loop (α := {q__ : Nat // q__ ≤ (rowA joinR l k).length / 2 ∧ ∀ q < q__,((rowA joinR l k)[2 * q + 1]! == (rowA joinR l k)[2 * q]!) = false}) (fun q__ => ⟨27,[(3,.sl none 32 ((rowA joinR l k).map hashD)),(4,.int ((2 * q__.1 + 1 : Nat) : Int))],[]⟩) (fun q__ => (rowA joinR l k).length / 2 - q__.1) ⟨(0),⟨Nat.zero_le _,fun q hq => absurd hq (Nat.not_lt_zero _)⟩⟩ rfl ?_
   rintro ⟨j,⟨hj,hjd⟩⟩
   show W _ _ _ _ ⟨27,[(3,.sl none 32 ((rowA joinR l k).map hashD)),(4,.int ((2 * j + 1 : Nat) : Int))],[]⟩
   have hj : j ≤ (rowA joinR l k).length / 2 := hj
   have hjd : ∀ q < j,((rowA joinR l k)[2 * q + 1]! == (rowA joinR l k)[2 * q]!) = false := hjd
   refine W.seq ?_
   refine W.seq ?_
   refine W.l0 4 [.y 9 _,.y 10 _,.y 11 _,.y 12 _] [] [] [(3,_),(4,_),(12,_)] [] 27 ⟨mU 4 rfl rfl,mU 3 rfl rfl,aU fun _ _ H K => R.lenE (SC.sl (K 10 _ rfl)) (List.length_map _) H,aU fun _ _ H K => R.lssN (2 * j + 1) ((rowA joinR l k).length) (eU K 9 rfl) (eU K 11 rfl) H,trivial⟩ rfl rfl rfl rfl (tU rfl ?_)
   refine W.condD rfl (fun hc12 => ?_) (fun hc12 => ?_)
   · refine W.skip ?_
     refine W.seq ?_
     refine W.block ?_
     refine W.seq ?_
     refine W.draw (m := 10) (an := [0,0,3,7,0,0,32,112,240,511]) hP (by decide) rfl (its := [.y 15 _,.y 16 _,.y 17 _,.y 18 _,.y 19 _,.y 20 _,.y 21 _,.y 22 _,.y 23 _,.y 24 _]) (ks := []) (kk := []) (live := [3,4,24]) (env' := [(3,_),(4,_),(24,_)]) (⟨nU rfl,rfl,⟨mU 3 rfl rfl,mU 4 rfl rfl,aU fun _ _ H K => R.idxN (2 * j + 1) (SC.sl (K 15 _ rfl)) (evoI (eU K 16 rfl)) rfl bU H (by decide),aU fun _ _ H K => R.ldE (K 17 _ rfl) (SC.sl (K 15 _ rfl)) (map_get! (l := (rowA joinR l k)) bU) rfl rfl rfl rfl H,mU 3 rfl rfl,mU 4 rfl rfl,aU fun _ _ H K => R.subN (2 * j + 1) (1) (eU K 20 rfl) (kI 1 rfl) bU bU H,aU fun _ _ H K => R.idxN ((2 * j + 1 - 1)) (SC.sl (K 19 _ rfl)) (evoI (eU K 21 rfl)) rfl bU H (by decide),aU fun _ _ H K => R.ldE (K 22 _ rfl) (SC.sl (K 19 _ rfl)) (map_get! (l := (rowA joinR l k)) bU) rfl rfl rfl rfl H,aU fun _ _ H K => R.eqAE (eU K 18 rfl) (eU K 23 rfl) H,trivial⟩,rfl,rfl,rfl⟩) rfl (bx' := []) rfl (n' := 27) rfl (tV [(3,_),(4,_),(24,_)] [] 27 rfl rfl rfl ?_)
     refine W.cond rfl (fun hc24 => ?_) (fun hc24 => ?_)
     · refine W.seq ?_
       refine W.l0 1 [.y 2 _] [] [] [(2,_)] [] 27 ⟨aU fun _ _ H _ => R.asg (kB true rfl) rfl H,trivial⟩ rfl rfl rfl rfl (tU rfl ?_)
       refine W.ret ?_
       exact Ends.one' (.inr rfl) rfl (by rw [dblS_true (k := k) (by have := nRows_pos (n := (rowA joinR l k).length) (by omega); omega) (rowDbl_true (i := 2 * j + 1) (by omega) (by omega) hc24)]) rfl rfl trivial
     · refine W.skip ?_
       refine W.l0 3 [.y 13 _,.y 14 _,.y 4 _] [] [] [(3,_),(4,_)] [] 27 ⟨mU 4 rfl rfl,aU fun _ _ H K => R.addN (2 * j + 1) (2) (eU K 13 rfl) (kI 2 rfl) bU H,aU fun _ _ H K => R.asg (eU K 14 rfl) rfl H,trivial⟩ rfl rfl rfl rfl (tU rfl ?_)
       exact ⟨⟨(j + 1),⟨by omega,fun q hq => (by rcases Nat.lt_or_ge q j with h1 | h1; exact hjd q h1; obtain rfl : q = j := (by omega); exact hc24)⟩⟩,rfl,(by simp only []; omega)⟩
   · obtain rfl : j = (rowA joinR l k).length / 2 := by omega
     refine W.exit ?_
     refine W.l0 3 [.y 25 _,.y 26 _,.y 3 _] [] [] [(3,_)] [] 27 ⟨mU 3 rfl rfl,aU fun _ _ H K => R.frzT (r' := .sl none 32 ((upR joinR (rowA joinR l k)).map hashD)) (R.callG hC (rabove_ok (rowA joinR l k) hra (by omega)) (Bors.cons (Bor.pur (eU K 25 rfl) rfl rfl) Bors.nil) (FrsR.one (frs_hs _ _ _)) H) rfl (brw_hs _ _ _),aU fun _ _ H K => R.asg (eU K 26 rfl) rfl H,trivial⟩ rfl rfl rfl rfl (tU rfl ?_)
     exact ⟨⟨(k + 1),⟨(by have h2 := nRows_2 (n := (rowA joinR l k).length) (by omega); have h3 : (rowA joinR l (k + 1)).length = ((rowA joinR l k).length + 1) / 2 := upR_len _ _; rw [h2,← h3] at hk; show k + 1 + _ = _; omega),fun q hq => (by rcases Nat.lt_or_ge q k with h1 | h1; exact hd q h1; obtain rfl : q = k := (by omega); exact rowDbl_false (fun j hj => hjd j (by omega)))⟩⟩,rfl,(by have := nRows_pos (n := (rowA joinR l k).length) (by omega); simp only []; omega)⟩
 · refine W.exit ?_
   refine W.seq ?_
   refine W.l0 1 [.y 2 _] [] [] [(2,_)] [] 27 ⟨aU fun _ _ H _ => R.asg (kB false rfl) rfl H,trivial⟩ rfl rfl rfl rfl (tU rfl ?_)
   refine W.ret ?_
   exact Ends.one' (.inr rfl) rfl (by rw [dblS_false (fun q hq => (by rcases Nat.lt_or_ge q k with h1 | h1; exact hd q h1; obtain rfl : q = k := (by have := nRows_short (n := (rowA joinR l k).length) (by omega); omega); exact rowDbl_short (by omega)))]) rfl rfl trivial

theorem same10_ok (a b : List Hs) (ha : a.length ≤ 1000000) : Fn Tryd.prog gl 16 [.sl none 32 (a.map hashD),.sl none 32 (b.map hashD)] (.bool (a == b)) := by
 refine Fn.of (n := 26) Tryd.func16 rfl rfl rfl (nU rfl) fun C hC hD => ?_
 refine W.seq ?_
 refine W.l0 1 [.y 4 _] [] [] [(0,_),(1,_)] [] 26 ⟨aU fun _ _ H _ => R.asg (kB false rfl) rfl H,trivial⟩ rfl rfl rfl rfl (tU rfl ?_)
 refine W.seq ?_
 refine W.seq ?_
 refine W.l0 5 [.y 6 _,.y 7 _,.y 8 _,.y 9 _,.y 10 _] [] [] [(0,_),(1,_),(10,_)] [] 26 ⟨mU 0 rfl rfl,aU fun _ _ H K => R.lenE (SC.sl (K 6 _ rfl)) (List.length_map _) H,mU 1 rfl rfl,aU fun _ _ H K => R.lenE (SC.sl (K 8 _ rfl)) (List.length_map _) H,aU fun _ _ H K => R.neqN (a.length) (b.length) (eU K 7 rfl) (eU K 9 rfl) H,trivial⟩ rfl rfl rfl rfl (tU rfl ?_)
 refine W.condD rfl (fun hc10 => ?_) (fun hc10 => ?_)
 · refine W.seq ?_
   refine W.l0 1 [.y 4 _] [] [] [(4,_)] [] 26 ⟨aU fun _ _ H _ => R.asg (kB false rfl) rfl H,trivial⟩ rfl rfl rfl rfl (tU rfl ?_)
   refine W.ret ?_
   exact Ends.one' (.inr rfl) rfl (by have := hc10; congr 1; symm; rw [beq_eq_false_iff_ne]; rintro rfl; exact this rfl) rfl rfl trivial
 · refine W.skip ?_
   refine W.seq ?_
   refine W.seq ?_
   refine W.l0 1 [.y 5 _] [] [] [(0,_),(1,_),(5,_)] [] 26 ⟨aU fun _ _ H _ => R.asg (kI 0 rfl) rfl H,trivial⟩ rfl rfl rfl rfl (tU rfl ?_)
   refine W.block ?_
   refine W.loop (α := {q__ : Nat // q__ ≤ a.length ∧ ∀ j,j < q__ → a[j]! = b[j]!}) (fun q__ => ⟨26,[(0,.sl none 32 (a.map hashD)),(1,.sl none 32 (b.map hashD)),(5,.int ((q__.1 : Nat) : Int))],[]⟩) (fun q__ => a.length - q__.1) ⟨(0),⟨Nat.zero_le _,fun j hj => absurd hj (Nat.not_lt_zero j)⟩⟩ rfl ?_
   rintro ⟨i,⟨hi,hall⟩⟩
   show W _ _ _ _ ⟨26,[(0,.sl none 32 (a.map hashD)),(1,.sl none 32 (b.map hashD)),(5,.int ((i : Nat) : Int))],[]⟩
   refine W.seq ?_
   refine W.seq ?_
   refine W.l0 4 [.y 11 _,.y 12 _,.y 13 _,.y 14 _] [] [] [(0,_),(1,_),(5,_),(14,_)] [] 26 ⟨mU 5 rfl rfl,mU 0 rfl rfl,aU fun _ _ H K => R.lenE (SC.sl (K 12 _ rfl)) (List.length_map _) H,aU fun _ _ H K => R.lssN (i) (a.length) (eU K 11 rfl) (eU K 13 rfl) H,trivial⟩ rfl rfl rfl rfl (tU rfl ?_)
   refine W.condD rfl (fun hc14 => ?_) (fun hc14 => ?_)
   · refine W.skip ?_
     refine W.seq ?_
     refine W.block ?_
     refine W.seq ?_
     refine W.draw (m := 9) (an := [0,0,3,7,0,0,48,112,255]) hP (by decide) rfl (its := [.y 17 _,.y 18 _,.y 19 _,.y 20 _,.y 21 _,.y 22 _,.y 23 _,.y 24 _,.y 25 _]) (ks := []) (kk := []) (live := [0,1,5,25]) (env' := [(0,_),(1,_),(5,_),(25,_)]) (⟨nU rfl,rfl,⟨mU 0 rfl rfl,mU 5 rfl rfl,aU fun _ _ H K => R.idxN (i) (SC.sl (K 17 _ rfl)) (evoI (eU K 18 rfl)) rfl bU H (by decide),aU fun _ _ H K => R.ldE (K 19 _ rfl) (SC.sl (K 17 _ rfl)) (map_get! (l := a) bU) rfl rfl rfl rfl H,mU 1 rfl rfl,mU 5 rfl rfl,aU fun _ _ H K => R.idxN (i) (SC.sl (K 21 _ rfl)) (evoI (eU K 22 rfl)) rfl bU H (by decide),aU fun _ _ H K => R.ldE (K 23 _ rfl) (SC.sl (K 21 _ rfl)) (map_get! (l := b) bU) rfl rfl rfl rfl H,aU fun _ _ H K => R.eqAX (eU K 20 rfl) (eU K 24 rfl) H,trivial⟩,rfl,rfl,rfl⟩) rfl (bx' := []) rfl (n' := 26) rfl (tV [(0,_),(1,_),(5,_),(25,_)] [] 26 rfl rfl rfl ?_)
     refine W.cond rfl (fun hc25 => ?_) (fun hc25 => ?_)
     · refine W.seq ?_
       refine W.l0 1 [.y 4 _] [] [] [(4,_)] [] 26 ⟨aU fun _ _ H _ => R.asg (kB false rfl) rfl H,trivial⟩ rfl rfl rfl rfl (tU rfl ?_)
       refine W.ret ?_
       exact Ends.one' (.inr rfl) rfl (by congr 1; symm; rw [beq_eq_false_iff_ne]; rintro rfl; simp at hc25) rfl rfl trivial
     · refine W.skip ?_
       refine W.l0 3 [.y 15 _,.y 16 _,.y 5 _] [] [] [(0,_),(1,_),(5,_)] [] 26 ⟨mU 5 rfl rfl,aU fun _ _ H K => R.addN (i) (1) (eU K 15 rfl) (kI 1 rfl) bU H,aU fun _ _ H K => R.asg (eU K 16 rfl) rfl H,trivial⟩ rfl rfl rfl rfl (tU rfl ?_)
       exact ⟨⟨(i + 1),⟨by omega,fun j hj => by rcases Nat.lt_or_ge j i with h | h; exact hall j h; obtain rfl : j = i := (by omega); simpa using hc25⟩⟩,rfl,(by simp only []; omega)⟩
   · refine W.exit ?_
     refine W.seq ?_
     refine W.l0 1 [.y 4 _] [] [] [(4,_)] [] 26 ⟨aU fun _ _ H _ => R.asg (kB true rfl) rfl H,trivial⟩ rfl rfl rfl rfl (tU rfl ?_)
     refine W.ret ?_
     exact Ends.one' (.inr rfl) rfl (by congr 1; symm; rw [beq_iff_eq]; exact list_ext! (by omega) (fun j hj => hall j (by omega))) rfl rfl trivial

end Go.Sx

namespace Go.Sx
theorem bfalse {b : Bool} (h : ¬ b = true) : b = false := by simpa using h
def upFI (f : List Bool) : Nat → List Bool
 | 0 => []
 | i + 1 => upFI f i ++ [f[2 * i]! || f[min (2 * i + 1) (f.length - 1)]!]
def upF (f : List Bool) : List Bool := upFI f ((f.length + 1) / 2)
theorem upFI_t {f : List Bool} {i : Nat} (h : f[2 * i]! = true) : upFI f i ++ [true] = upFI f (i + 1) := by rw [upFI,h]; rfl
theorem upFI_f {f : List Bool} {i m : Nat} (h : f[2 * i]! = false) (hm : f.length = m) : upFI f i ++ [f[min (2 * i + 1) (m - 1)]!] = upFI f (i + 1) := by rw [upFI,h,← hm]; rfl
def flA (f : List Bool) : Nat → List Bool
 | 0 => f
 | k + 1 => upF (flA f k)
theorem upFI_len (f : List Bool) (i : Nat) : (upFI f i).length = i := by
 induction i with
 | zero => rfl
 | succ i ih => simp [upFI,ih]
theorem flA_len {J : Hs → Hs → Hs} {l : List Hs} {f : List Bool} (h : f.length = l.length) (k : Nat) : (flA f k).length = (rowA J l k).length := by
 induction k with
 | zero => exact h
 | succ k ih =>
  show (upFI _ _).length = (upI J _ _).length
  rw [upFI_len,upI_len,ih]
def rowsL (J : Hs → Hs → Hs) (l : List Hs) (n : Nat) : List (List Hs) := (List.range n).map (rowA J l)
def flsL (f : List Bool) (n : Nat) : List (List Bool) := (List.range n).map (flA f)
theorem rowsL_len (J : Hs → Hs → Hs) (l : List Hs) (n : Nat) : (rowsL J l n).length = n := by simp [rowsL]
theorem flsL_len (f : List Bool) (n : Nat) : (flsL f n).length = n := by simp [flsL]
theorem rowsL_succ (J : Hs → Hs → Hs) (l : List Hs) (n : Nat) : rowsL J l (n + 1) = rowsL J l n ++ [rowA J l n] := by simp [rowsL,List.range_succ]
theorem flsL_succ (f : List Bool) (n : Nat) : flsL f (n + 1) = flsL f n ++ [flA f n] := by simp [flsL,List.range_succ]
theorem rowsL_get {J : Hs → Hs → Hs} {l : List Hs} {n k : Nat} (h : k < n) : (rowsL J l n)[k]! = rowA J l k := by
 rw [getElem!_pos _ k (by rw [rowsL_len]; exact h)]; simp [rowsL]
theorem flsL_get {f : List Bool} {n k : Nat} (h : k < n) : (flsL f n)[k]! = flA f k := by
 rw [getElem!_pos _ k (by rw [flsL_len]; exact h)]; simp [flsL]
theorem brw_fl (o : Option Nat) (z : Nat) (l : List Bool) : (D.sl o z (l.map D.bool)).brw = .sl none z (l.map D.bool) := by
 simp only [D.brw,brws_eq]
 rw [brw_map (fun _ => rfl)]
theorem brw_hsD (l : List Hs) : (hsD l).brw = hsD l := brw_hs _ _ _
theorem brw_flD (l : List Bool) : (flD l).brw = flD l := brw_fl _ _ _
theorem brw_hss (o : Option Nat) (z : Nat) (l : List (List Hs)) : (D.sl o z (l.map hsD)).brw = .sl none z (l.map hsD) := by
 simp only [D.brw,brws_eq]
 rw [brw_map brw_hsD]
theorem brw_fls (o : Option Nat) (z : Nat) (l : List (List Bool)) : (D.sl o z (l.map flD)).brw = .sl none z (l.map flD) := by
 simp only [D.brw,brws_eq]
 rw [brw_map brw_flD]
theorem lenA_pos {n : Nat} (h : 0 < n) (k : Nat) : 1 ≤ lenA n k := by
 induction k with
 | zero => exact h
 | succ k ih => show 1 ≤ (lenA n k + 1) / 2; omega
theorem rowA_pos1 (J : Hs → Hs → Hs) {l : List Hs} (h : 0 < l.length) (k : Nat) : 1 ≤ (rowA J l k).length := by
 rw [rowA_len]; exact lenA_pos h k
abbrev natD (j : Nat) : D := .int ((j : Nat) : Int)
def wdI (n : Nat) (k : Nat) : List Nat := (List.range k).map (lenA n)
theorem wdI_len (n k : Nat) : (wdI n k).length = k := by simp [wdI]
theorem wdI_succ (n k : Nat) : wdI n (k + 1) = wdI n k ++ [lenA n k] := by simp [wdI,List.range_succ]
theorem wdI_get {n m k : Nat} (h : k < m) : (wdI n m)[k]! = lenA n k := by
 rw [getElem!_pos _ k (by rw [wdI_len]; exact h)]; simp [wdI]
end Go.Sx
