/-
  The plain law: what sha computes is what scantlingref01 computes.
-/
import Derived.Test.YtggoegenobhanaaDoorHd2
import Derived.Test.YtggoegenobhanaaDoorMSxVal2
set_option linter.unusedVariables false
set_option linter.unusedSimpArgs false
set_option linter.unnecessarySimpa false

namespace Go.Sx
open Go.Proofs
theorem k_ok : Fn Tryd.prog gl 39 [] (.sl (some 22) 1 (kTab.map D.u32)) := by
  refine Fn.of (n := 2) Tryd.func39 rfl rfl rfl (Nat.le_of_ble_eq_true rfl) fun C hC hD => ?_
  refine W.seq ?_
  refine W.line (n := 1) (by decide) (its := [⟨0, _, true⟩]) (ks := []) (kk := []) (live := []) (env' := [])
    (⟨Nat.le_of_ble_eq_true rfl, rfl,
      ⟨⟨rfl, rfl, fun _ τ hb ht hτ => R.asg (show ev _ _ (.const (.slice none 0 0)) = some (.nils) from rfl) rfl ht⟩,
      trivial⟩, rfl, rfl, rfl⟩)
    rfl (bx' := []) rfl (n' := 2) rfl (⟨[], [], [], 2, rfl, rfl, rfl, ?_⟩)
  refine W.seq ?_
  refine W.line (n := 2) (by decide) (its := [⟨1, _, true⟩, ⟨0, _, true⟩]) (ks := [(1, 1)]) (kk := [(1, 1)]) (live := [0]) (env' := [(0, _)])
    (⟨Nat.le_of_ble_eq_true rfl, rfl,
      ⟨⟨rfl, rfl, fun _ τ hb ht hτ => R.bslE (z := 1) (.cons (show ev _ _ (.const (.int .u32 1116352408)) = some (.u32 1116352408) from rfl) (.cons (show ev _ _ (.const (.int .u32 1899447441)) = some (.u32 1899447441) from rfl) (.cons (show ev _ _ (.const (.int .u32 3049323471)) = some (.u32 3049323471) from rfl) (.cons (show ev _ _ (.const (.int .u32 3921009573)) = some (.u32 3921009573) from rfl) (.cons (show ev _ _ (.const (.int .u32 961987163)) = some (.u32 961987163) from rfl) (.cons (show ev _ _ (.const (.int .u32 1508970993)) = some (.u32 1508970993) from rfl) (.cons (show ev _ _ (.const (.int .u32 2453635748)) = some (.u32 2453635748) from rfl) (.cons (show ev _ _ (.const (.int .u32 2870763221)) = some (.u32 2870763221) from rfl) (.cons (show ev _ _ (.const (.int .u32 3624381080)) = some (.u32 3624381080) from rfl) (.cons (show ev _ _ (.const (.int .u32 310598401)) = some (.u32 310598401) from rfl) (.cons (show ev _ _ (.const (.int .u32 607225278)) = some (.u32 607225278) from rfl) (.cons (show ev _ _ (.const (.int .u32 1426881987)) = some (.u32 1426881987) from rfl) (.cons (show ev _ _ (.const (.int .u32 1925078388)) = some (.u32 1925078388) from rfl) (.cons (show ev _ _ (.const (.int .u32 2162078206)) = some (.u32 2162078206) from rfl) (.cons (show ev _ _ (.const (.int .u32 2614888103)) = some (.u32 2614888103) from rfl) (.cons (show ev _ _ (.const (.int .u32 3248222580)) = some (.u32 3248222580) from rfl) (.cons (show ev _ _ (.const (.int .u32 3835390401)) = some (.u32 3835390401) from rfl) (.cons (show ev _ _ (.const (.int .u32 4022224774)) = some (.u32 4022224774) from rfl) (.cons (show ev _ _ (.const (.int .u32 264347078)) = some (.u32 264347078) from rfl) (.cons (show ev _ _ (.const (.int .u32 604807628)) = some (.u32 604807628) from rfl) (.cons (show ev _ _ (.const (.int .u32 770255983)) = some (.u32 770255983) from rfl) (.cons (show ev _ _ (.const (.int .u32 1249150122)) = some (.u32 1249150122) from rfl) (.cons (show ev _ _ (.const (.int .u32 1555081692)) = some (.u32 1555081692) from rfl) (.cons (show ev _ _ (.const (.int .u32 1996064986)) = some (.u32 1996064986) from rfl) (.cons (show ev _ _ (.const (.int .u32 2554220882)) = some (.u32 2554220882) from rfl) (.cons (show ev _ _ (.const (.int .u32 2821834349)) = some (.u32 2821834349) from rfl) (.cons (show ev _ _ (.const (.int .u32 2952996808)) = some (.u32 2952996808) from rfl) (.cons (show ev _ _ (.const (.int .u32 3210313671)) = some (.u32 3210313671) from rfl) (.cons (show ev _ _ (.const (.int .u32 3336571891)) = some (.u32 3336571891) from rfl) (.cons (show ev _ _ (.const (.int .u32 3584528711)) = some (.u32 3584528711) from rfl) (.cons (show ev _ _ (.const (.int .u32 113926993)) = some (.u32 113926993) from rfl) (.cons (show ev _ _ (.const (.int .u32 338241895)) = some (.u32 338241895) from rfl) (.cons (show ev _ _ (.const (.int .u32 666307205)) = some (.u32 666307205) from rfl) (.cons (show ev _ _ (.const (.int .u32 773529912)) = some (.u32 773529912) from rfl) (.cons (show ev _ _ (.const (.int .u32 1294757372)) = some (.u32 1294757372) from rfl) (.cons (show ev _ _ (.const (.int .u32 1396182291)) = some (.u32 1396182291) from rfl) (.cons (show ev _ _ (.const (.int .u32 1695183700)) = some (.u32 1695183700) from rfl) (.cons (show ev _ _ (.const (.int .u32 1986661051)) = some (.u32 1986661051) from rfl) (.cons (show ev _ _ (.const (.int .u32 2177026350)) = some (.u32 2177026350) from rfl) (.cons (show ev _ _ (.const (.int .u32 2456956037)) = some (.u32 2456956037) from rfl) (.cons (show ev _ _ (.const (.int .u32 2730485921)) = some (.u32 2730485921) from rfl) (.cons (show ev _ _ (.const (.int .u32 2820302411)) = some (.u32 2820302411) from rfl) (.cons (show ev _ _ (.const (.int .u32 3259730800)) = some (.u32 3259730800) from rfl) (.cons (show ev _ _ (.const (.int .u32 3345764771)) = some (.u32 3345764771) from rfl) (.cons (show ev _ _ (.const (.int .u32 3516065817)) = some (.u32 3516065817) from rfl) (.cons (show ev _ _ (.const (.int .u32 3600352804)) = some (.u32 3600352804) from rfl) (.cons (show ev _ _ (.const (.int .u32 4094571909)) = some (.u32 4094571909) from rfl) (.cons (show ev _ _ (.const (.int .u32 275423344)) = some (.u32 275423344) from rfl) (.cons (show ev _ _ (.const (.int .u32 430227734)) = some (.u32 430227734) from rfl) (.cons (show ev _ _ (.const (.int .u32 506948616)) = some (.u32 506948616) from rfl) (.cons (show ev _ _ (.const (.int .u32 659060556)) = some (.u32 659060556) from rfl) (.cons (show ev _ _ (.const (.int .u32 883997877)) = some (.u32 883997877) from rfl) (.cons (show ev _ _ (.const (.int .u32 958139571)) = some (.u32 958139571) from rfl) (.cons (show ev _ _ (.const (.int .u32 1322822218)) = some (.u32 1322822218) from rfl) (.cons (show ev _ _ (.const (.int .u32 1537002063)) = some (.u32 1537002063) from rfl) (.cons (show ev _ _ (.const (.int .u32 1747873779)) = some (.u32 1747873779) from rfl) (.cons (show ev _ _ (.const (.int .u32 1955562222)) = some (.u32 1955562222) from rfl) (.cons (show ev _ _ (.const (.int .u32 2024104815)) = some (.u32 2024104815) from rfl) (.cons (show ev _ _ (.const (.int .u32 2227730452)) = some (.u32 2227730452) from rfl) (.cons (show ev _ _ (.const (.int .u32 2361852424)) = some (.u32 2361852424) from rfl) (.cons (show ev _ _ (.const (.int .u32 2428436474)) = some (.u32 2428436474) from rfl) (.cons (show ev _ _ (.const (.int .u32 2756734187)) = some (.u32 2756734187) from rfl) (.cons (show ev _ _ (.const (.int .u32 3204031479)) = some (.u32 3204031479) from rfl) (.cons (show ev _ _ (.const (.int .u32 3329325298)) = some (.u32 3329325298) from rfl) .nil)))))))))))))))))))))))))))))))))))))))))))))))))))))))))))))))) ⟨⟨rfl, rfl, rfl⟩, ⟨⟨rfl, rfl, rfl⟩, ⟨⟨rfl, rfl, rfl⟩, ⟨⟨rfl, rfl, rfl⟩, ⟨⟨rfl, rfl, rfl⟩, ⟨⟨rfl, rfl, rfl⟩, ⟨⟨rfl, rfl, rfl⟩, ⟨⟨rfl, rfl, rfl⟩, ⟨⟨rfl, rfl, rfl⟩, ⟨⟨rfl, rfl, rfl⟩, ⟨⟨rfl, rfl, rfl⟩, ⟨⟨rfl, rfl, rfl⟩, ⟨⟨rfl, rfl, rfl⟩, ⟨⟨rfl, rfl, rfl⟩, ⟨⟨rfl, rfl, rfl⟩, ⟨⟨rfl, rfl, rfl⟩, ⟨⟨rfl, rfl, rfl⟩, ⟨⟨rfl, rfl, rfl⟩, ⟨⟨rfl, rfl, rfl⟩, ⟨⟨rfl, rfl, rfl⟩, ⟨⟨rfl, rfl, rfl⟩, ⟨⟨rfl, rfl, rfl⟩, ⟨⟨rfl, rfl, rfl⟩, ⟨⟨rfl, rfl, rfl⟩, ⟨⟨rfl, rfl, rfl⟩, ⟨⟨rfl, rfl, rfl⟩, ⟨⟨rfl, rfl, rfl⟩, ⟨⟨rfl, rfl, rfl⟩, ⟨⟨rfl, rfl, rfl⟩, ⟨⟨rfl, rfl, rfl⟩, ⟨⟨rfl, rfl, rfl⟩, ⟨⟨rfl, rfl, rfl⟩, ⟨⟨rfl, rfl, rfl⟩, ⟨⟨rfl, rfl, rfl⟩, ⟨⟨rfl, rfl, rfl⟩, ⟨⟨rfl, rfl, rfl⟩, ⟨⟨rfl, rfl, rfl⟩, ⟨⟨rfl, rfl, rfl⟩, ⟨⟨rfl, rfl, rfl⟩, ⟨⟨rfl, rfl, rfl⟩, ⟨⟨rfl, rfl, rfl⟩, ⟨⟨rfl, rfl, rfl⟩, ⟨⟨rfl, rfl, rfl⟩, ⟨⟨rfl, rfl, rfl⟩, ⟨⟨rfl, rfl, rfl⟩, ⟨⟨rfl, rfl, rfl⟩, ⟨⟨rfl, rfl, rfl⟩, ⟨⟨rfl, rfl, rfl⟩, ⟨⟨rfl, rfl, rfl⟩, ⟨⟨rfl, rfl, rfl⟩, ⟨⟨rfl, rfl, rfl⟩, ⟨⟨rfl, rfl, rfl⟩, ⟨⟨rfl, rfl, rfl⟩, ⟨⟨rfl, rfl, rfl⟩, ⟨⟨rfl, rfl, rfl⟩, ⟨⟨rfl, rfl, rfl⟩, ⟨⟨rfl, rfl, rfl⟩, ⟨⟨rfl, rfl, rfl⟩, ⟨⟨rfl, rfl, rfl⟩, ⟨⟨rfl, rfl, rfl⟩, ⟨⟨rfl, rfl, rfl⟩, ⟨⟨rfl, rfl, rfl⟩, ⟨⟨rfl, rfl, rfl⟩, ⟨⟨rfl, rfl, rfl⟩, trivial⟩⟩⟩⟩⟩⟩⟩⟩⟩⟩⟩⟩⟩⟩⟩⟩⟩⟩⟩⟩⟩⟩⟩⟩⟩⟩⟩⟩⟩⟩⟩⟩⟩⟩⟩⟩⟩⟩⟩⟩⟩⟩⟩⟩⟩⟩⟩⟩⟩⟩⟩⟩⟩⟩⟩⟩⟩⟩⟩⟩⟩⟩⟩⟩ rfl ht (by decide)⟩,
      ⟨⟨rfl, rfl, fun _ τ hb ht hτ => R.asgO (hτ 1 _ rfl) rfl ht (by decide)⟩,
      trivial⟩⟩, rfl, rfl, rfl⟩)
    rfl (bx' := []) rfl (n' := 2) rfl (⟨[0], [(0, _)], [], 2, rfl, rfl, rfl, ?_⟩)
  refine W.ret ?_
  exact Ends.one' (.inr rfl) rfl (rfl) rfl rfl trivial

theorem rright_ok (x : UInt32) (n : UInt64) : Fn Tryd.prog gl 41 [.u32 x, .u64 n] (.u32 (rright x n)) := by
  refine Fn.of (n := 13) Tryd.func41 rfl rfl rfl (Nat.le_of_ble_eq_true rfl) fun C hC hD => ?_
  refine W.seq ?_
  refine W.line (n := 1) (by decide) (its := [⟨4, _, true⟩]) (ks := []) (kk := []) (live := [0, 1]) (env' := [(0, _), (1, _)])
    (⟨Nat.le_of_ble_eq_true rfl, rfl,
      ⟨⟨rfl, rfl, fun _ τ hb ht hτ => R.asg (show ev _ _ (.const (.int .u32 0)) = some (.u32 0) from rfl) rfl ht⟩,
      trivial⟩, rfl, rfl, rfl⟩)
    rfl (bx' := []) rfl (n' := 13) rfl (⟨[0, 1], [(0, _), (1, _)], [], 13, rfl, rfl, rfl, ?_⟩)
  refine W.seq ?_
  refine W.line (n := 9) (by decide) (its := [⟨5, _, true⟩, ⟨6, _, true⟩, ⟨7, _, true⟩, ⟨8, _, true⟩, ⟨9, _, true⟩, ⟨10, _, true⟩, ⟨11, _, true⟩, ⟨12, _, true⟩, ⟨4, _, true⟩]) (ks := []) (kk := []) (live := [4]) (env' := [(4, _)])
    (⟨Nat.le_of_ble_eq_true rfl, rfl,
      ⟨⟨rfl, rfl, fun _ τ hb ht hτ => R.mov (evt (hτ 0 _ rfl)) rfl ht⟩,
      ⟨⟨rfl, rfl, fun _ τ hb ht hτ => R.mov (evt (hτ 1 _ rfl)) rfl ht⟩,
      ⟨⟨rfl, rfl, fun _ τ hb ht hτ => R.bin (evt (hτ 5 _ rfl)) (evt (hτ 6 _ rfl)) rfl (show (0 : Int) ≤ _ by first | omega | (simp only [List.length_map, List.length_append, List.length_cons, List.length_nil, List.length_take, List.length_drop, List.length_replicate]; omega) | (simp; omega)) ht⟩,
      ⟨⟨rfl, rfl, fun _ τ hb ht hτ => R.mov (evt (hτ 0 _ rfl)) rfl ht⟩,
      ⟨⟨rfl, rfl, fun _ τ hb ht hτ => R.mov (evt (hτ 1 _ rfl)) rfl ht⟩,
      ⟨⟨rfl, rfl, fun _ τ hb ht hτ => R.bin (show ev _ _ (.const (.int .u64 32)) = some (.u64 32) from rfl) (evt (hτ 9 _ rfl)) rfl trivial ht⟩,
      ⟨⟨rfl, rfl, fun _ τ hb ht hτ => R.bin (evt (hτ 8 _ rfl)) (evt (hτ 10 _ rfl)) rfl (show (0 : Int) ≤ _ by first | omega | (simp only [List.length_map, List.length_append, List.length_cons, List.length_nil, List.length_take, List.length_drop, List.length_replicate]; omega) | (simp; omega)) ht⟩,
      ⟨⟨rfl, rfl, fun _ τ hb ht hτ => R.bin (evt (hτ 7 _ rfl)) (evt (hτ 11 _ rfl)) rfl trivial ht⟩,
      ⟨⟨rfl, rfl, fun _ τ hb ht hτ => R.asg (evt (hτ 12 _ rfl)) rfl ht⟩,
      trivial⟩⟩⟩⟩⟩⟩⟩⟩⟩, rfl, rfl, rfl⟩)
    rfl (bx' := []) rfl (n' := 13) rfl (⟨[4], [(4, _)], [], 13, rfl, rfl, rfl, ?_⟩)
  refine W.ret ?_
  exact Ends.one' (.inr rfl) rfl (rfl) rfl rfl trivial

theorem words_ok (p : List UInt8) (hp : p.length = 64) : Fn Tryd.prog gl 40 [.sl none 1 (p.map D.u8)] (.sl (some 22) 1 ((wR p 64).map D.u32)) := by
  refine Fn.of (n := 99) Tryd.func40 rfl rfl rfl (Nat.le_of_ble_eq_true rfl) fun C hC hD => ?_
  refine W.seq ?_
  refine W.line (n := 1) (by decide) (its := [⟨2, _, true⟩]) (ks := []) (kk := []) (live := [0]) (env' := [(0, _)])
    (⟨Nat.le_of_ble_eq_true rfl, rfl,
      ⟨⟨rfl, rfl, fun _ τ hb ht hτ => R.asg (show ev _ _ (.const (.slice none 0 0)) = some (.nils) from rfl) rfl ht⟩,
      trivial⟩, rfl, rfl, rfl⟩)
    rfl (bx' := []) rfl (n' := 99) rfl (⟨[0], [(0, _)], [], 99, rfl, rfl, rfl, ?_⟩)
  refine W.seq ?_
  refine W.line (n := 1) (by decide) (its := [⟨3, _, true⟩]) (ks := []) (kk := []) (live := [0, 3]) (env' := [(0, _), (3, _)])
    (⟨Nat.le_of_ble_eq_true rfl, rfl,
      ⟨⟨rfl, rfl, fun _ τ hb ht hτ => R.asg (show ev _ _ (.const (.slice none 0 0)) = some (.nils) from rfl) rfl ht⟩,
      trivial⟩, rfl, rfl, rfl⟩)
    rfl (bx' := []) rfl (n' := 99) rfl (⟨[0, 3], [(0, _), (3, _)], [], 99, rfl, rfl, rfl, ?_⟩)
  refine W.seq ?_
  refine W.seq ?_
  refine W.line (n := 1) (by decide) (its := [⟨4, _, true⟩]) (ks := []) (kk := []) (live := [0, 3, 4]) (env' := [(0, _), (3, _), (4, _)])
    (⟨Nat.le_of_ble_eq_true rfl, rfl,
      ⟨⟨rfl, rfl, fun _ τ hb ht hτ => R.asg (show ev _ _ (.const (.int .i64 0)) = some (.int ((0 : Nat) : Int)) from rfl) rfl ht⟩,
      trivial⟩, rfl, rfl, rfl⟩)
    rfl (bx' := []) rfl (n' := 99) rfl (⟨[0, 3, 4], [(0, _), (3, _), (4, _)], [], 99, rfl, rfl, rfl, ?_⟩)
  refine W.block ?_
  refine W.asOwn (s := 3) 22 1 rfl ?_
  refine W.loop (α := {q__ : Nat // q__ ≤ 16}) (fun q__ => ⟨99, [(0, .sl none 1 (p.map D.u8)), (3, .sl (some 22) 1 ((wR p q__.1).map D.u32)), (4, .int ((q__.1 : Nat) : Int))], []⟩) (fun q__ => 16 - q__.1) ⟨(0), (by first | omega | (simp only [List.length_map, List.length_append, List.length_cons, List.length_nil, List.length_take, List.length_drop, List.length_replicate]; omega) | (simp; omega))⟩ rfl ?_
  rintro ⟨t, htl⟩
  show W _ _ _ _ ⟨99, [(0, .sl none 1 (p.map D.u8)), (3, .sl (some 22) 1 ((wR p t).map D.u32)), (4, .int ((t : Nat) : Int))], []⟩
  have hwl := wR_len p t
  refine W.seq ?_
  refine W.seq ?_
  refine W.line (n := 2) (by decide) (its := [⟨10, _, true⟩, ⟨11, _, true⟩]) (ks := []) (kk := []) (live := [0, 3, 4, 11]) (env' := [(0, _), (3, _), (4, _), (11, _)])
    (⟨Nat.le_of_ble_eq_true rfl, rfl,
      ⟨⟨rfl, rfl, fun _ τ hb ht hτ => R.mov (evt (hτ 4 _ rfl)) rfl ht⟩,
      ⟨⟨rfl, rfl, fun _ τ hb ht hτ => R.lssN (t) (16) (evt (hτ 10 _ rfl)) (show ev _ _ (.const (.int .i64 16)) = some (.int ((16 : Nat) : Int)) from rfl) ht⟩,
      trivial⟩⟩, rfl, rfl, rfl⟩)
    rfl (bx' := []) rfl (n' := 99) rfl (⟨[0, 3, 4, 11], [(0, _), (3, _), (4, _), (11, _)], [], 99, rfl, rfl, rfl, ?_⟩)
  refine W.condD rfl (fun hc11 => ?_) (fun hc11 => ?_)
  · refine W.skip ?_
    refine W.seq ?_
    refine W.block ?_
    refine W.draw (m := 37) (an := (0 :: 0 :: 0 :: 4 :: 14 :: 30 :: 62 :: 126 :: 0 :: 0 :: 512 :: 1536 :: 3840 :: 7936 :: 16128 :: 32512 :: 65534 :: 0 :: 0 :: 262144 :: 786432 :: 1966080 :: 4063232 :: 8257536 :: 16646144 :: 33554430 :: 0 :: 0 :: 134217728 :: 402653184 :: 1006632960 :: 2080374784 :: 4227858432 :: 8589934590 :: 17179869182 :: 34359738367 :: 68719476735 :: [])) hP (by decide) rfl (its := (⟨14, _, true⟩ :: ⟨15, _, true⟩ :: ⟨16, _, true⟩ :: ⟨17, _, true⟩ :: ⟨18, _, true⟩ :: ⟨19, _, true⟩ :: ⟨20, _, true⟩ :: ⟨21, _, true⟩ :: ⟨22, _, true⟩ :: ⟨23, _, true⟩ :: ⟨24, _, true⟩ :: ⟨25, _, true⟩ :: ⟨26, _, true⟩ :: ⟨27, _, true⟩ :: ⟨28, _, true⟩ :: ⟨29, _, true⟩ :: ⟨30, _, true⟩ :: ⟨31, _, true⟩ :: ⟨32, _, true⟩ :: ⟨33, _, true⟩ :: ⟨34, _, true⟩ :: ⟨35, _, true⟩ :: ⟨36, _, true⟩ :: ⟨37, _, true⟩ :: ⟨38, _, true⟩ :: ⟨39, _, true⟩ :: ⟨40, _, true⟩ :: ⟨41, _, true⟩ :: ⟨42, _, true⟩ :: ⟨43, _, true⟩ :: ⟨44, _, true⟩ :: ⟨45, _, true⟩ :: ⟨46, _, true⟩ :: ⟨47, _, true⟩ :: ⟨48, _, true⟩ :: ⟨49, _, true⟩ :: ⟨3, _, true⟩ :: [])) (ks := [(35, 3), (36, 49), (36, 14)]) (kk := [(35, 3), (36, 49)]) (live := [0, 3, 4]) (env' := [(0, _), (3, _), (4, _)])
      (⟨Nat.le_of_ble_eq_true rfl, rfl,
        ⟨⟨rfl, rfl, fun _ τ hb ht hτ => R.al (hτ 3 _ rfl) ht (by decide)⟩,
        ⟨⟨rfl, rfl, fun _ τ hb ht hτ => R.mov (evt (hτ 0 _ rfl)) rfl ht⟩,
        ⟨⟨rfl, rfl, fun _ τ hb ht hτ => R.mov (evt (hτ 4 _ rfl)) rfl ht⟩,
        ⟨⟨rfl, rfl, fun _ τ hb ht hτ => R.mulN (4) (t) (show ev _ _ (.const (.int .i64 4)) = some (.int ((4 : Nat) : Int)) from rfl) (evt (hτ 16 _ rfl)) (by first | omega | (simp only [List.length_map, List.length_append, List.length_cons, List.length_nil, List.length_take, List.length_drop, List.length_replicate]; omega) | (simp; omega)) ht⟩,
        ⟨⟨rfl, rfl, fun _ τ hb ht hτ => R.idxN ((4 * t)) (SC.sl (hτ 15 _ rfl)) (evoI (evt (hτ 17 _ rfl))) rfl (by first | omega | (simp only [List.length_map, List.length_append, List.length_cons, List.length_nil, List.length_take, List.length_drop, List.length_replicate]; omega) | (simp; omega)) ht (by decide)⟩,
        ⟨⟨rfl, rfl, fun _ τ hb ht hτ => R.ldE (hτ 18 _ rfl) (SC.sl (hτ 15 _ rfl)) (map_get! (l := p) (by first | omega | (simp only [List.length_map, List.length_append, List.length_cons, List.length_nil, List.length_take, List.length_drop, List.length_replicate]; omega) | (simp; omega))) rfl rfl rfl rfl ht⟩,
        ⟨⟨rfl, rfl, fun _ τ hb ht hτ => R.conv (evt (hτ 19 _ rfl)) rfl ht⟩,
        ⟨⟨rfl, rfl, fun _ τ hb ht hτ => R.bin (evt (hτ 20 _ rfl)) (show ev _ _ (.const (.int .u64 24)) = some (.u64 24) from rfl) rfl (show (0 : Int) ≤ _ by first | omega | (simp only [List.length_map, List.length_append, List.length_cons, List.length_nil, List.length_take, List.length_drop, List.length_replicate]; omega) | (simp; omega)) ht⟩,
        ⟨⟨rfl, rfl, fun _ τ hb ht hτ => R.mov (evt (hτ 0 _ rfl)) rfl ht⟩,
        ⟨⟨rfl, rfl, fun _ τ hb ht hτ => R.mov (evt (hτ 4 _ rfl)) rfl ht⟩,
        ⟨⟨rfl, rfl, fun _ τ hb ht hτ => R.mulN (4) (t) (show ev _ _ (.const (.int .i64 4)) = some (.int ((4 : Nat) : Int)) from rfl) (evt (hτ 23 _ rfl)) (by first | omega | (simp only [List.length_map, List.length_append, List.length_cons, List.length_nil, List.length_take, List.length_drop, List.length_replicate]; omega) | (simp; omega)) ht⟩,
        ⟨⟨rfl, rfl, fun _ τ hb ht hτ => R.addN ((4 * t)) (1) (evt (hτ 24 _ rfl)) (show ev _ _ (.const (.int .i64 1)) = some (.int ((1 : Nat) : Int)) from rfl) (by first | omega | (simp only [List.length_map, List.length_append, List.length_cons, List.length_nil, List.length_take, List.length_drop, List.length_replicate]; omega) | (simp; omega)) ht⟩,
        ⟨⟨rfl, rfl, fun _ τ hb ht hτ => R.idxN (((4 * t) + 1)) (SC.sl (hτ 22 _ rfl)) (evoI (evt (hτ 25 _ rfl))) rfl (by first | omega | (simp only [List.length_map, List.length_append, List.length_cons, List.length_nil, List.length_take, List.length_drop, List.length_replicate]; omega) | (simp; omega)) ht (by decide)⟩,
        ⟨⟨rfl, rfl, fun _ τ hb ht hτ => R.ldE (hτ 26 _ rfl) (SC.sl (hτ 22 _ rfl)) (map_get! (l := p) (by first | omega | (simp only [List.length_map, List.length_append, List.length_cons, List.length_nil, List.length_take, List.length_drop, List.length_replicate]; omega) | (simp; omega))) rfl rfl rfl rfl ht⟩,
        ⟨⟨rfl, rfl, fun _ τ hb ht hτ => R.conv (evt (hτ 27 _ rfl)) rfl ht⟩,
        ⟨⟨rfl, rfl, fun _ τ hb ht hτ => R.bin (evt (hτ 28 _ rfl)) (show ev _ _ (.const (.int .u64 16)) = some (.u64 16) from rfl) rfl (show (0 : Int) ≤ _ by first | omega | (simp only [List.length_map, List.length_append, List.length_cons, List.length_nil, List.length_take, List.length_drop, List.length_replicate]; omega) | (simp; omega)) ht⟩,
        ⟨⟨rfl, rfl, fun _ τ hb ht hτ => R.bin (evt (hτ 21 _ rfl)) (evt (hτ 29 _ rfl)) rfl trivial ht⟩,
        ⟨⟨rfl, rfl, fun _ τ hb ht hτ => R.mov (evt (hτ 0 _ rfl)) rfl ht⟩,
        ⟨⟨rfl, rfl, fun _ τ hb ht hτ => R.mov (evt (hτ 4 _ rfl)) rfl ht⟩,
        ⟨⟨rfl, rfl, fun _ τ hb ht hτ => R.mulN (4) (t) (show ev _ _ (.const (.int .i64 4)) = some (.int ((4 : Nat) : Int)) from rfl) (evt (hτ 32 _ rfl)) (by first | omega | (simp only [List.length_map, List.length_append, List.length_cons, List.length_nil, List.length_take, List.length_drop, List.length_replicate]; omega) | (simp; omega)) ht⟩,
        ⟨⟨rfl, rfl, fun _ τ hb ht hτ => R.addN ((4 * t)) (2) (evt (hτ 33 _ rfl)) (show ev _ _ (.const (.int .i64 2)) = some (.int ((2 : Nat) : Int)) from rfl) (by first | omega | (simp only [List.length_map, List.length_append, List.length_cons, List.length_nil, List.length_take, List.length_drop, List.length_replicate]; omega) | (simp; omega)) ht⟩,
        ⟨⟨rfl, rfl, fun _ τ hb ht hτ => R.idxN (((4 * t) + 2)) (SC.sl (hτ 31 _ rfl)) (evoI (evt (hτ 34 _ rfl))) rfl (by first | omega | (simp only [List.length_map, List.length_append, List.length_cons, List.length_nil, List.length_take, List.length_drop, List.length_replicate]; omega) | (simp; omega)) ht (by decide)⟩,
        ⟨⟨rfl, rfl, fun _ τ hb ht hτ => R.ldE (hτ 35 _ rfl) (SC.sl (hτ 31 _ rfl)) (map_get! (l := p) (by first | omega | (simp only [List.length_map, List.length_append, List.length_cons, List.length_nil, List.length_take, List.length_drop, List.length_replicate]; omega) | (simp; omega))) rfl rfl rfl rfl ht⟩,
        ⟨⟨rfl, rfl, fun _ τ hb ht hτ => R.conv (evt (hτ 36 _ rfl)) rfl ht⟩,
        ⟨⟨rfl, rfl, fun _ τ hb ht hτ => R.bin (evt (hτ 37 _ rfl)) (show ev _ _ (.const (.int .u64 8)) = some (.u64 8) from rfl) rfl (show (0 : Int) ≤ _ by first | omega | (simp only [List.length_map, List.length_append, List.length_cons, List.length_nil, List.length_take, List.length_drop, List.length_replicate]; omega) | (simp; omega)) ht⟩,
        ⟨⟨rfl, rfl, fun _ τ hb ht hτ => R.bin (evt (hτ 30 _ rfl)) (evt (hτ 38 _ rfl)) rfl trivial ht⟩,
        ⟨⟨rfl, rfl, fun _ τ hb ht hτ => R.mov (evt (hτ 0 _ rfl)) rfl ht⟩,
        ⟨⟨rfl, rfl, fun _ τ hb ht hτ => R.mov (evt (hτ 4 _ rfl)) rfl ht⟩,
        ⟨⟨rfl, rfl, fun _ τ hb ht hτ => R.mulN (4) (t) (show ev _ _ (.const (.int .i64 4)) = some (.int ((4 : Nat) : Int)) from rfl) (evt (hτ 41 _ rfl)) (by first | omega | (simp only [List.length_map, List.length_append, List.length_cons, List.length_nil, List.length_take, List.length_drop, List.length_replicate]; omega) | (simp; omega)) ht⟩,
        ⟨⟨rfl, rfl, fun _ τ hb ht hτ => R.addN ((4 * t)) (3) (evt (hτ 42 _ rfl)) (show ev _ _ (.const (.int .i64 3)) = some (.int ((3 : Nat) : Int)) from rfl) (by first | omega | (simp only [List.length_map, List.length_append, List.length_cons, List.length_nil, List.length_take, List.length_drop, List.length_replicate]; omega) | (simp; omega)) ht⟩,
        ⟨⟨rfl, rfl, fun _ τ hb ht hτ => R.idxN (((4 * t) + 3)) (SC.sl (hτ 40 _ rfl)) (evoI (evt (hτ 43 _ rfl))) rfl (by first | omega | (simp only [List.length_map, List.length_append, List.length_cons, List.length_nil, List.length_take, List.length_drop, List.length_replicate]; omega) | (simp; omega)) ht (by decide)⟩,
        ⟨⟨rfl, rfl, fun _ τ hb ht hτ => R.ldE (hτ 44 _ rfl) (SC.sl (hτ 40 _ rfl)) (map_get! (l := p) (by first | omega | (simp only [List.length_map, List.length_append, List.length_cons, List.length_nil, List.length_take, List.length_drop, List.length_replicate]; omega) | (simp; omega))) rfl rfl rfl rfl ht⟩,
        ⟨⟨rfl, rfl, fun _ τ hb ht hτ => R.conv (evt (hτ 45 _ rfl)) rfl ht⟩,
        ⟨⟨rfl, rfl, fun _ τ hb ht hτ => R.bin (evt (hτ 39 _ rfl)) (evt (hτ 46 _ rfl)) rfl trivial ht⟩,
        ⟨⟨rfl, rfl, fun _ τ hb ht hτ => R.bslE (z := 1) (.cons (evt (hτ 47 _ rfl)) .nil) ⟨⟨rfl, rfl, rfl⟩, trivial⟩ rfl ht (by decide)⟩,
        ⟨⟨rfl, rfl, fun _ τ hb ht hτ => R.appE (Or.inr (hτ 14 _ rfl)) (hτ 3 _ rfl) (SrcO.sc (SC.sl (hτ 48 _ rfl)) (pur_lit rfl)) (app_one) (by first | omega | (simp only [List.length_map, List.length_append, List.length_cons, List.length_nil, List.length_take, List.length_drop, List.length_replicate]; omega) | (simp; omega)) ht (by decide) (by decide)⟩,
        ⟨⟨rfl, rfl, fun _ τ hb ht hτ => R.asgO (hτ 49 _ rfl) rfl ht (by decide)⟩,
        trivial⟩⟩⟩⟩⟩⟩⟩⟩⟩⟩⟩⟩⟩⟩⟩⟩⟩⟩⟩⟩⟩⟩⟩⟩⟩⟩⟩⟩⟩⟩⟩⟩⟩⟩⟩⟩⟩, rfl, rfl, rfl⟩)
      rfl (bx' := []) rfl (n' := 99) rfl (⟨[0, 3, 4], [(0, _), (3, _), (4, _)], [], 99, rfl, rfl, rfl, ?_⟩)
    refine W.line (n := 3) (by decide) (its := [⟨12, _, true⟩, ⟨13, _, true⟩, ⟨4, _, true⟩]) (ks := []) (kk := []) (live := [0, 3, 4]) (env' := [(0, _), (3, _), (4, _)])
      (⟨Nat.le_of_ble_eq_true rfl, rfl,
        ⟨⟨rfl, rfl, fun _ τ hb ht hτ => R.mov (evt (hτ 4 _ rfl)) rfl ht⟩,
        ⟨⟨rfl, rfl, fun _ τ hb ht hτ => R.addN (t) (1) (evt (hτ 12 _ rfl)) (show ev _ _ (.const (.int .i64 1)) = some (.int ((1 : Nat) : Int)) from rfl) (by first | omega | (simp only [List.length_map, List.length_append, List.length_cons, List.length_nil, List.length_take, List.length_drop, List.length_replicate]; omega) | (simp; omega)) ht⟩,
        ⟨⟨rfl, rfl, fun _ τ hb ht hτ => R.asg (evt (hτ 13 _ rfl)) rfl ht⟩,
        trivial⟩⟩⟩, rfl, rfl, rfl⟩)
      rfl (bx' := []) rfl (n' := 99) rfl (⟨[0, 3, 4], [(0, _), (3, _), (4, _)], [], 99, rfl, rfl, rfl, ?_⟩)
    exact ⟨⟨(t + 1), (by first | omega | (simp only [List.length_map, List.length_append, List.length_cons, List.length_nil, List.length_take, List.length_drop, List.length_replicate]; omega) | (simp; omega))⟩, (by simp only [wR]; rw [if_pos hc11]; rfl), (by simp only []; omega)⟩
  · obtain rfl : t = 16 := by omega
    refine W.exit ?_
    refine W.seq ?_
    refine W.seq ?_
    refine W.line (n := 1) (by decide) (its := [⟨5, _, true⟩]) (ks := []) (kk := []) (live := [3, 5]) (env' := [(3, _), (5, _)])
      (⟨Nat.le_of_ble_eq_true rfl, rfl,
        ⟨⟨rfl, rfl, fun _ τ hb ht hτ => R.asg (show ev _ _ (.const (.int .i64 16)) = some (.int ((16 : Nat) : Int)) from rfl) rfl ht⟩,
        trivial⟩, rfl, rfl, rfl⟩)
      rfl (bx' := []) rfl (n' := 99) rfl (⟨[3, 5], [(3, _), (5, _)], [], 99, rfl, rfl, rfl, ?_⟩)
    refine W.block ?_
    refine W.loop (α := {q__ : Nat // 16 ≤ q__ ∧ q__ ≤ 64}) (fun q__ => ⟨99, [(3, .sl (some 22) 1 ((wR p q__.1).map D.u32)), (5, .int ((q__.1 : Nat) : Int))], []⟩) (fun q__ => 64 - q__.1) ⟨(16), (by first | omega | (simp only [List.length_map, List.length_append, List.length_cons, List.length_nil, List.length_take, List.length_drop, List.length_replicate]; omega) | (simp; omega))⟩ rfl ?_
    rintro ⟨t, ⟨ht16, htl⟩⟩
    show W _ _ _ _ ⟨99, [(3, .sl (some 22) 1 ((wR p t).map D.u32)), (5, .int ((t : Nat) : Int))], []⟩
    have hwl := wR_len p t
    refine W.seq ?_
    refine W.seq ?_
    refine W.line (n := 2) (by decide) (its := [⟨50, _, true⟩, ⟨51, _, true⟩]) (ks := []) (kk := []) (live := [3, 5, 51]) (env' := [(3, _), (5, _), (51, _)])
      (⟨Nat.le_of_ble_eq_true rfl, rfl,
        ⟨⟨rfl, rfl, fun _ τ hb ht hτ => R.mov (evt (hτ 5 _ rfl)) rfl ht⟩,
        ⟨⟨rfl, rfl, fun _ τ hb ht hτ => R.lssN (t) (64) (evt (hτ 50 _ rfl)) (show ev _ _ (.const (.int .i64 64)) = some (.int ((64 : Nat) : Int)) from rfl) ht⟩,
        trivial⟩⟩, rfl, rfl, rfl⟩)
      rfl (bx' := []) rfl (n' := 99) rfl (⟨[3, 5, 51], [(3, _), (5, _), (51, _)], [], 99, rfl, rfl, rfl, ?_⟩)
    refine W.condD rfl (fun hc51 => ?_) (fun hc51 => ?_)
    · refine W.skip ?_
      refine W.seq ?_
      refine W.block ?_
      refine W.seq ?_
      refine W.line (n := 6) (by decide) (its := [⟨54, _, true⟩, ⟨55, _, true⟩, ⟨56, _, true⟩, ⟨57, _, true⟩, ⟨58, _, true⟩, ⟨6, _, true⟩]) (ks := []) (kk := []) (live := [3, 5, 6]) (env' := [(3, _), (5, _), (6, _)])
        (⟨Nat.le_of_ble_eq_true rfl, rfl,
          ⟨⟨rfl, rfl, fun _ τ hb ht hτ => R.al (hτ 3 _ rfl) ht (by decide)⟩,
          ⟨⟨rfl, rfl, fun _ τ hb ht hτ => R.mov (evt (hτ 5 _ rfl)) rfl ht⟩,
          ⟨⟨rfl, rfl, fun _ τ hb ht hτ => R.subN (t) (15) (evt (hτ 55 _ rfl)) (show ev _ _ (.const (.int .i64 15)) = some (.int ((15 : Nat) : Int)) from rfl) (by first | omega | (simp only [List.length_map, List.length_append, List.length_cons, List.length_nil, List.length_take, List.length_drop, List.length_replicate]; omega) | (simp; omega)) (by first | omega | (simp only [List.length_map, List.length_append, List.length_cons, List.length_nil, List.length_take, List.length_drop, List.length_replicate]; omega) | (simp; omega)) ht⟩,
          ⟨⟨rfl, rfl, fun _ τ hb ht hτ => R.idxN ((t - 15)) (SC.al (hτ 54 _ rfl) (hτ 3 _ rfl)) (evoI (evt (hτ 56 _ rfl))) rfl (by first | omega | (simp only [List.length_map, List.length_append, List.length_cons, List.length_nil, List.length_take, List.length_drop, List.length_replicate]; omega) | (simp; omega)) ht (by decide)⟩,
          ⟨⟨rfl, rfl, fun _ τ hb ht hτ => R.ldE (hτ 57 _ rfl) (SC.al (hτ 54 _ rfl) (hτ 3 _ rfl)) (map_get! (l := (wR p t)) (by first | omega | (simp only [List.length_map, List.length_append, List.length_cons, List.length_nil, List.length_take, List.length_drop, List.length_replicate]; omega) | (simp; omega))) rfl rfl rfl rfl ht⟩,
          ⟨⟨rfl, rfl, fun _ τ hb ht hτ => R.asg (evt (hτ 58 _ rfl)) rfl ht⟩,
          trivial⟩⟩⟩⟩⟩⟩, rfl, rfl, rfl⟩)
        rfl (bx' := []) rfl (n' := 99) rfl (⟨[3, 5, 6], [(3, _), (5, _), (6, _)], [], 99, rfl, rfl, rfl, ?_⟩)
      refine W.seq ?_
      refine W.line (n := 6) (by decide) (its := [⟨59, _, true⟩, ⟨60, _, true⟩, ⟨61, _, true⟩, ⟨62, _, true⟩, ⟨63, _, true⟩, ⟨7, _, true⟩]) (ks := []) (kk := []) (live := [3, 5, 6, 7]) (env' := [(3, _), (5, _), (6, _), (7, _)])
        (⟨Nat.le_of_ble_eq_true rfl, rfl,
          ⟨⟨rfl, rfl, fun _ τ hb ht hτ => R.al (hτ 3 _ rfl) ht (by decide)⟩,
          ⟨⟨rfl, rfl, fun _ τ hb ht hτ => R.mov (evt (hτ 5 _ rfl)) rfl ht⟩,
          ⟨⟨rfl, rfl, fun _ τ hb ht hτ => R.subN (t) (2) (evt (hτ 60 _ rfl)) (show ev _ _ (.const (.int .i64 2)) = some (.int ((2 : Nat) : Int)) from rfl) (by first | omega | (simp only [List.length_map, List.length_append, List.length_cons, List.length_nil, List.length_take, List.length_drop, List.length_replicate]; omega) | (simp; omega)) (by first | omega | (simp only [List.length_map, List.length_append, List.length_cons, List.length_nil, List.length_take, List.length_drop, List.length_replicate]; omega) | (simp; omega)) ht⟩,
          ⟨⟨rfl, rfl, fun _ τ hb ht hτ => R.idxN ((t - 2)) (SC.al (hτ 59 _ rfl) (hτ 3 _ rfl)) (evoI (evt (hτ 61 _ rfl))) rfl (by first | omega | (simp only [List.length_map, List.length_append, List.length_cons, List.length_nil, List.length_take, List.length_drop, List.length_replicate]; omega) | (simp; omega)) ht (by decide)⟩,
          ⟨⟨rfl, rfl, fun _ τ hb ht hτ => R.ldE (hτ 62 _ rfl) (SC.al (hτ 59 _ rfl) (hτ 3 _ rfl)) (map_get! (l := (wR p t)) (by first | omega | (simp only [List.length_map, List.length_append, List.length_cons, List.length_nil, List.length_take, List.length_drop, List.length_replicate]; omega) | (simp; omega))) rfl rfl rfl rfl ht⟩,
          ⟨⟨rfl, rfl, fun _ τ hb ht hτ => R.asg (evt (hτ 63 _ rfl)) rfl ht⟩,
          trivial⟩⟩⟩⟩⟩⟩, rfl, rfl, rfl⟩)
        rfl (bx' := []) rfl (n' := 99) rfl (⟨[3, 5, 6, 7], [(3, _), (5, _), (6, _), (7, _)], [], 99, rfl, rfl, rfl, ?_⟩)
      refine W.seq ?_
      refine W.line (n := 9) (by decide) (its := [⟨64, _, true⟩, ⟨65, _, true⟩, ⟨66, _, true⟩, ⟨67, _, true⟩, ⟨68, _, true⟩, ⟨69, _, true⟩, ⟨70, _, true⟩, ⟨71, _, true⟩, ⟨8, _, true⟩]) (ks := []) (kk := []) (live := [3, 5, 7, 8]) (env' := [(3, _), (5, _), (7, _), (8, _)])
        (⟨Nat.le_of_ble_eq_true rfl, rfl,
          ⟨⟨rfl, rfl, fun _ τ hb ht hτ => R.mov (evt (hτ 6 _ rfl)) rfl ht⟩,
          ⟨⟨rfl, rfl, fun _ τ hb ht hτ => R.callG hC (rright_ok _ _) (Bors.cons (Bor.pur (evt (hτ 64 _ rfl)) rfl rfl) (Bors.cons (Bor.pur (show ev _ _ (.const (.int .u64 7)) = some (.u64 7) from rfl) rfl rfl) Bors.nil)) (FrsR.one (.u32 _)) ht⟩,
          ⟨⟨rfl, rfl, fun _ τ hb ht hτ => R.mov (evt (hτ 6 _ rfl)) rfl ht⟩,
          ⟨⟨rfl, rfl, fun _ τ hb ht hτ => R.callG hC (rright_ok _ _) (Bors.cons (Bor.pur (evt (hτ 66 _ rfl)) rfl rfl) (Bors.cons (Bor.pur (show ev _ _ (.const (.int .u64 18)) = some (.u64 18) from rfl) rfl rfl) Bors.nil)) (FrsR.one (.u32 _)) ht⟩,
          ⟨⟨rfl, rfl, fun _ τ hb ht hτ => R.bin (evt (hτ 65 _ rfl)) (evt (hτ 67 _ rfl)) rfl trivial ht⟩,
          ⟨⟨rfl, rfl, fun _ τ hb ht hτ => R.mov (evt (hτ 6 _ rfl)) rfl ht⟩,
          ⟨⟨rfl, rfl, fun _ τ hb ht hτ => R.bin (evt (hτ 69 _ rfl)) (show ev _ _ (.const (.int .u64 3)) = some (.u64 3) from rfl) rfl (show (0 : Int) ≤ _ by first | omega | (simp only [List.length_map, List.length_append, List.length_cons, List.length_nil, List.length_take, List.length_drop, List.length_replicate]; omega) | (simp; omega)) ht⟩,
          ⟨⟨rfl, rfl, fun _ τ hb ht hτ => R.bin (evt (hτ 68 _ rfl)) (evt (hτ 70 _ rfl)) rfl trivial ht⟩,
          ⟨⟨rfl, rfl, fun _ τ hb ht hτ => R.asg (evt (hτ 71 _ rfl)) rfl ht⟩,
          trivial⟩⟩⟩⟩⟩⟩⟩⟩⟩, rfl, rfl, rfl⟩)
        rfl (bx' := []) rfl (n' := 99) rfl (⟨[3, 5, 7, 8], [(3, _), (5, _), (7, _), (8, _)], [], 99, rfl, rfl, rfl, ?_⟩)
      refine W.seq ?_
      refine W.line (n := 9) (by decide) (its := [⟨72, _, true⟩, ⟨73, _, true⟩, ⟨74, _, true⟩, ⟨75, _, true⟩, ⟨76, _, true⟩, ⟨77, _, true⟩, ⟨78, _, true⟩, ⟨79, _, true⟩, ⟨9, _, true⟩]) (ks := []) (kk := []) (live := [3, 5, 8, 9]) (env' := [(3, _), (5, _), (8, _), (9, _)])
        (⟨Nat.le_of_ble_eq_true rfl, rfl,
          ⟨⟨rfl, rfl, fun _ τ hb ht hτ => R.mov (evt (hτ 7 _ rfl)) rfl ht⟩,
          ⟨⟨rfl, rfl, fun _ τ hb ht hτ => R.callG hC (rright_ok _ _) (Bors.cons (Bor.pur (evt (hτ 72 _ rfl)) rfl rfl) (Bors.cons (Bor.pur (show ev _ _ (.const (.int .u64 17)) = some (.u64 17) from rfl) rfl rfl) Bors.nil)) (FrsR.one (.u32 _)) ht⟩,
          ⟨⟨rfl, rfl, fun _ τ hb ht hτ => R.mov (evt (hτ 7 _ rfl)) rfl ht⟩,
          ⟨⟨rfl, rfl, fun _ τ hb ht hτ => R.callG hC (rright_ok _ _) (Bors.cons (Bor.pur (evt (hτ 74 _ rfl)) rfl rfl) (Bors.cons (Bor.pur (show ev _ _ (.const (.int .u64 19)) = some (.u64 19) from rfl) rfl rfl) Bors.nil)) (FrsR.one (.u32 _)) ht⟩,
          ⟨⟨rfl, rfl, fun _ τ hb ht hτ => R.bin (evt (hτ 73 _ rfl)) (evt (hτ 75 _ rfl)) rfl trivial ht⟩,
          ⟨⟨rfl, rfl, fun _ τ hb ht hτ => R.mov (evt (hτ 7 _ rfl)) rfl ht⟩,
          ⟨⟨rfl, rfl, fun _ τ hb ht hτ => R.bin (evt (hτ 77 _ rfl)) (show ev _ _ (.const (.int .u64 10)) = some (.u64 10) from rfl) rfl (show (0 : Int) ≤ _ by first | omega | (simp only [List.length_map, List.length_append, List.length_cons, List.length_nil, List.length_take, List.length_drop, List.length_replicate]; omega) | (simp; omega)) ht⟩,
          ⟨⟨rfl, rfl, fun _ τ hb ht hτ => R.bin (evt (hτ 76 _ rfl)) (evt (hτ 78 _ rfl)) rfl trivial ht⟩,
          ⟨⟨rfl, rfl, fun _ τ hb ht hτ => R.asg (evt (hτ 79 _ rfl)) rfl ht⟩,
          trivial⟩⟩⟩⟩⟩⟩⟩⟩⟩, rfl, rfl, rfl⟩)
        rfl (bx' := []) rfl (n' := 99) rfl (⟨[3, 5, 8, 9], [(3, _), (5, _), (8, _), (9, _)], [], 99, rfl, rfl, rfl, ?_⟩)
      refine W.draw (m := 19) (an := [0, 0, 0, 0, 8, 28, 60, 126, 0, 510, 0, 0, 2048, 7168, 15360, 32766, 65534, 131071, 262143]) hP (by decide) rfl (its := [⟨80, _, true⟩, ⟨81, _, true⟩, ⟨82, _, true⟩, ⟨83, _, true⟩, ⟨84, _, true⟩, ⟨85, _, true⟩, ⟨86, _, true⟩, ⟨87, _, true⟩, ⟨88, _, true⟩, ⟨89, _, true⟩, ⟨90, _, true⟩, ⟨91, _, true⟩, ⟨92, _, true⟩, ⟨93, _, true⟩, ⟨94, _, true⟩, ⟨95, _, true⟩, ⟨96, _, true⟩, ⟨97, _, true⟩, ⟨3, _, true⟩]) (ks := [(17, 3), (18, 97), (18, 80), (18, 82), (18, 90)]) (kk := [(17, 3), (18, 97)]) (live := [3, 5]) (env' := [(3, _), (5, _)])
        (⟨Nat.le_of_ble_eq_true rfl, rfl,
          ⟨⟨rfl, rfl, fun _ τ hb ht hτ => R.al (hτ 3 _ rfl) ht (by decide)⟩,
          ⟨⟨rfl, rfl, fun _ τ hb ht hτ => R.mov (evt (hτ 9 _ rfl)) rfl ht⟩,
          ⟨⟨rfl, rfl, fun _ τ hb ht hτ => R.al (hτ 3 _ rfl) ht (by decide)⟩,
          ⟨⟨rfl, rfl, fun _ τ hb ht hτ => R.mov (evt (hτ 5 _ rfl)) rfl ht⟩,
          ⟨⟨rfl, rfl, fun _ τ hb ht hτ => R.subN (t) (7) (evt (hτ 83 _ rfl)) (show ev _ _ (.const (.int .i64 7)) = some (.int ((7 : Nat) : Int)) from rfl) (by first | omega | (simp only [List.length_map, List.length_append, List.length_cons, List.length_nil, List.length_take, List.length_drop, List.length_replicate]; omega) | (simp; omega)) (by first | omega | (simp only [List.length_map, List.length_append, List.length_cons, List.length_nil, List.length_take, List.length_drop, List.length_replicate]; omega) | (simp; omega)) ht⟩,
          ⟨⟨rfl, rfl, fun _ τ hb ht hτ => R.idxN ((t - 7)) (SC.al (hτ 82 _ rfl) (hτ 3 _ rfl)) (evoI (evt (hτ 84 _ rfl))) rfl (by first | omega | (simp only [List.length_map, List.length_append, List.length_cons, List.length_nil, List.length_take, List.length_drop, List.length_replicate]; omega) | (simp; omega)) ht (by decide)⟩,
          ⟨⟨rfl, rfl, fun _ τ hb ht hτ => R.ldE (hτ 85 _ rfl) (SC.al (hτ 82 _ rfl) (hτ 3 _ rfl)) (map_get! (l := (wR p t)) (by first | omega | (simp only [List.length_map, List.length_append, List.length_cons, List.length_nil, List.length_take, List.length_drop, List.length_replicate]; omega) | (simp; omega))) rfl rfl rfl rfl ht⟩,
          ⟨⟨rfl, rfl, fun _ τ hb ht hτ => R.bin (evt (hτ 81 _ rfl)) (evt (hτ 86 _ rfl)) rfl trivial ht⟩,
          ⟨⟨rfl, rfl, fun _ τ hb ht hτ => R.mov (evt (hτ 8 _ rfl)) rfl ht⟩,
          ⟨⟨rfl, rfl, fun _ τ hb ht hτ => R.bin (evt (hτ 87 _ rfl)) (evt (hτ 88 _ rfl)) rfl trivial ht⟩,
          ⟨⟨rfl, rfl, fun _ τ hb ht hτ => R.al (hτ 3 _ rfl) ht (by decide)⟩,
          ⟨⟨rfl, rfl, fun _ τ hb ht hτ => R.mov (evt (hτ 5 _ rfl)) rfl ht⟩,
          ⟨⟨rfl, rfl, fun _ τ hb ht hτ => R.subN (t) (16) (evt (hτ 91 _ rfl)) (show ev _ _ (.const (.int .i64 16)) = some (.int ((16 : Nat) : Int)) from rfl) (by first | omega | (simp only [List.length_map, List.length_append, List.length_cons, List.length_nil, List.length_take, List.length_drop, List.length_replicate]; omega) | (simp; omega)) (by first | omega | (simp only [List.length_map, List.length_append, List.length_cons, List.length_nil, List.length_take, List.length_drop, List.length_replicate]; omega) | (simp; omega)) ht⟩,
          ⟨⟨rfl, rfl, fun _ τ hb ht hτ => R.idxN ((t - 16)) (SC.al (hτ 90 _ rfl) (hτ 3 _ rfl)) (evoI (evt (hτ 92 _ rfl))) rfl (by first | omega | (simp only [List.length_map, List.length_append, List.length_cons, List.length_nil, List.length_take, List.length_drop, List.length_replicate]; omega) | (simp; omega)) ht (by decide)⟩,
          ⟨⟨rfl, rfl, fun _ τ hb ht hτ => R.ldE (hτ 93 _ rfl) (SC.al (hτ 90 _ rfl) (hτ 3 _ rfl)) (map_get! (l := (wR p t)) (by first | omega | (simp only [List.length_map, List.length_append, List.length_cons, List.length_nil, List.length_take, List.length_drop, List.length_replicate]; omega) | (simp; omega))) rfl rfl rfl rfl ht⟩,
          ⟨⟨rfl, rfl, fun _ τ hb ht hτ => R.bin (evt (hτ 89 _ rfl)) (evt (hτ 94 _ rfl)) rfl trivial ht⟩,
          ⟨⟨rfl, rfl, fun _ τ hb ht hτ => R.bslE (z := 1) (.cons (evt (hτ 95 _ rfl)) .nil) ⟨⟨rfl, rfl, rfl⟩, trivial⟩ rfl ht (by decide)⟩,
          ⟨⟨rfl, rfl, fun _ τ hb ht hτ => R.appE (Or.inr (hτ 80 _ rfl)) (hτ 3 _ rfl) (SrcO.sc (SC.sl (hτ 96 _ rfl)) (pur_lit rfl)) (app_one) (by first | omega | (simp only [List.length_map, List.length_append, List.length_cons, List.length_nil, List.length_take, List.length_drop, List.length_replicate]; omega) | (simp; omega)) ht (by decide) (by decide)⟩,
          ⟨⟨rfl, rfl, fun _ τ hb ht hτ => R.asgO (hτ 97 _ rfl) rfl ht (by decide)⟩,
          trivial⟩⟩⟩⟩⟩⟩⟩⟩⟩⟩⟩⟩⟩⟩⟩⟩⟩⟩⟩, rfl, rfl, rfl⟩)
        rfl (bx' := []) rfl (n' := 99) rfl (⟨[3, 5], [(3, _), (5, _)], [], 99, rfl, rfl, rfl, ?_⟩)
      refine W.line (n := 3) (by decide) (its := [⟨52, _, true⟩, ⟨53, _, true⟩, ⟨5, _, true⟩]) (ks := []) (kk := []) (live := [3, 5]) (env' := [(3, _), (5, _)])
        (⟨Nat.le_of_ble_eq_true rfl, rfl,
          ⟨⟨rfl, rfl, fun _ τ hb ht hτ => R.mov (evt (hτ 5 _ rfl)) rfl ht⟩,
          ⟨⟨rfl, rfl, fun _ τ hb ht hτ => R.addN (t) (1) (evt (hτ 52 _ rfl)) (show ev _ _ (.const (.int .i64 1)) = some (.int ((1 : Nat) : Int)) from rfl) (by first | omega | (simp only [List.length_map, List.length_append, List.length_cons, List.length_nil, List.length_take, List.length_drop, List.length_replicate]; omega) | (simp; omega)) ht⟩,
          ⟨⟨rfl, rfl, fun _ τ hb ht hτ => R.asg (evt (hτ 53 _ rfl)) rfl ht⟩,
          trivial⟩⟩⟩, rfl, rfl, rfl⟩)
        rfl (bx' := []) rfl (n' := 99) rfl (⟨[3, 5], [(3, _), (5, _)], [], 99, rfl, rfl, rfl, ?_⟩)
      exact ⟨⟨(t + 1), (by first | omega | (simp only [List.length_map, List.length_append, List.length_cons, List.length_nil, List.length_take, List.length_drop, List.length_replicate]; omega) | (simp; omega))⟩, (by simp only [wR]; rw [if_neg (by omega)]; rfl), (by simp only []; omega)⟩
    · obtain rfl : t = 64 := by omega
      refine W.exit ?_
      refine W.seq ?_
      refine W.line (n := 2) (by decide) (its := [⟨98, _, true⟩, ⟨2, _, true⟩]) (ks := [(0, 3), (1, 98)]) (kk := [(0, 3), (1, 98)]) (live := [2]) (env' := [(2, _)])
        (⟨Nat.le_of_ble_eq_true rfl, rfl,
          ⟨⟨rfl, rfl, fun _ τ hb ht hτ => R.movO (hτ 3 _ rfl) rfl ht (by decide)⟩,
          ⟨⟨rfl, rfl, fun _ τ hb ht hτ => R.asgO (hτ 98 _ rfl) rfl ht (by decide)⟩,
          trivial⟩⟩, rfl, rfl, rfl⟩)
        rfl (bx' := []) rfl (n' := 99) rfl (⟨[2], [(2, _)], [], 99, rfl, rfl, rfl, ?_⟩)
      refine W.ret ?_
      exact Ends.one' (.inr rfl) rfl (rfl) rfl rfl trivial

theorem text_ok (b : List UInt8) (hb0 : b.length ≤ 1000000000) : Fn Tryd.prog gl 38 [.sl none 1 (b.map D.u8)] (.sl (some 5) 1 ((textR b).map D.u8)) := by
  refine Fn.of (n := 37) Tryd.func38 rfl rfl rfl (Nat.le_of_ble_eq_true rfl) fun C hC hD => ?_
  refine W.seq ?_
  refine W.line (n := 1) (by decide) (its := [⟨2, _, true⟩]) (ks := []) (kk := []) (live := [0]) (env' := [(0, _)])
    (⟨Nat.le_of_ble_eq_true rfl, rfl,
      ⟨⟨rfl, rfl, fun _ τ hb ht hτ => R.asg (show ev _ _ (.const (.slice none 0 0)) = some (.nils) from rfl) rfl ht⟩,
      trivial⟩, rfl, rfl, rfl⟩)
    rfl (bx' := []) rfl (n' := 37) rfl (⟨[0], [(0, _)], [], 37, rfl, rfl, rfl, ?_⟩)
  refine W.seq ?_
  refine W.line (n := 4) (by decide) (its := [⟨6, _, true⟩, ⟨7, _, true⟩, ⟨8, _, true⟩, ⟨3, _, true⟩]) (ks := [(2, 6), (3, 8)]) (kk := [(2, 6), (3, 8)]) (live := [0, 3]) (env' := [(0, _), (3, _)])
    (⟨Nat.le_of_ble_eq_true rfl, rfl,
      ⟨⟨rfl, rfl, fun _ τ hb ht hτ => R.bslE .nil trivial rfl ht (by decide)⟩,
      ⟨⟨rfl, rfl, fun _ τ hb ht hτ => R.mov (evt (hτ 0 _ rfl)) rfl ht⟩,
      ⟨⟨rfl, rfl, fun _ τ hb ht hτ => R.appE (Or.inl rfl) (hτ 6 _ rfl) (SrcO.sc (SC.sl (hτ 7 _ rfl)) (pur_map (fun _ => rfl))) (List.nil_append _) (by first | omega | (simp only [List.length_map, List.length_append, List.length_cons, List.length_nil, List.length_take, List.length_drop, List.length_replicate]; omega) | (simp; omega)) ht (by decide) (by decide)⟩,
      ⟨⟨rfl, rfl, fun _ τ hb ht hτ => R.asgO (hτ 8 _ rfl) rfl ht (by decide)⟩,
      trivial⟩⟩⟩⟩, rfl, rfl, rfl⟩)
    rfl (bx' := []) rfl (n' := 37) rfl (⟨[0, 3], [(0, _), (3, _)], [], 37, rfl, rfl, rfl, ?_⟩)
  refine W.seq ?_
  refine W.line (n := 4) (by decide) (its := [⟨9, _, true⟩, ⟨10, _, true⟩, ⟨11, _, true⟩, ⟨3, _, true⟩]) (ks := [(2, 3), (3, 11), (3, 9)]) (kk := [(2, 3), (3, 11)]) (live := [0, 3]) (env' := [(0, _), (3, _)])
    (⟨Nat.le_of_ble_eq_true rfl, rfl,
      ⟨⟨rfl, rfl, fun _ τ hb ht hτ => R.al (hτ 3 _ rfl) ht (by decide)⟩,
      ⟨⟨rfl, rfl, fun _ τ hb ht hτ => R.bslE (z := 1) (.cons (show ev _ _ (.const (.int .u8 128)) = some (.u8 128) from rfl) .nil) ⟨⟨rfl, rfl, rfl⟩, trivial⟩ rfl ht (by decide)⟩,
      ⟨⟨rfl, rfl, fun _ τ hb ht hτ => R.appE (Or.inr (hτ 9 _ rfl)) (hτ 3 _ rfl) (SrcO.sc (SC.sl (hτ 10 _ rfl)) (pur_lit rfl)) (app_one) (by first | omega | (simp only [List.length_map, List.length_append, List.length_cons, List.length_nil, List.length_take, List.length_drop, List.length_replicate]; omega) | (simp; omega)) ht (by decide) (by decide)⟩,
      ⟨⟨rfl, rfl, fun _ τ hb ht hτ => R.asgO (hτ 11 _ rfl) rfl ht (by decide)⟩,
      trivial⟩⟩⟩⟩, rfl, rfl, rfl⟩)
    rfl (bx' := []) rfl (n' := 37) rfl (⟨[0, 3], [(0, _), (3, _)], [], 37, rfl, rfl, rfl, ?_⟩)
  refine W.seq ?_
  refine W.block ?_
  refine W.loop (α := {q__ : Nat // q__ ≤ zR b}) (fun q__ => ⟨37, [(0, .sl none 1 (b.map D.u8)), (3, .sl (some 5) 1 ((b ++ [128] ++ List.replicate q__.1 0).map D.u8))], []⟩) (fun q__ => zR b - q__.1) ⟨(0), (by first | omega | (simp only [List.length_map, List.length_append, List.length_cons, List.length_nil, List.length_take, List.length_drop, List.length_replicate]; omega) | (simp; omega))⟩ (by simp) ?_
  rintro ⟨z, hz⟩
  show W _ _ _ _ ⟨37, [(0, .sl none 1 (b.map D.u8)), (3, .sl (some 5) 1 ((b ++ [128] ++ List.replicate z 0).map D.u8))], []⟩
  have hz0 : zR b ≤ 63 := by unfold zR; omega
  refine W.seq ?_
  refine W.seq ?_
  refine W.line (n := 4) (by decide) (its := [⟨12, _, true⟩, ⟨13, _, true⟩, ⟨14, _, true⟩, ⟨15, _, true⟩]) (ks := []) (kk := []) (live := [0, 3, 15]) (env' := [(0, _), (3, _), (15, _)])
    (⟨Nat.le_of_ble_eq_true rfl, rfl,
      ⟨⟨rfl, rfl, fun _ τ hb ht hτ => R.al (hτ 3 _ rfl) ht (by decide)⟩,
      ⟨⟨rfl, rfl, fun _ τ hb ht hτ => R.lenE (SC.al (hτ 12 _ rfl) (hτ 3 _ rfl)) (List.length_map _) ht⟩,
      ⟨⟨rfl, rfl, fun _ τ hb ht hτ => R.remN ((b ++ [128] ++ List.replicate z 0).length) (64) (evt (hτ 13 _ rfl)) (show ev _ _ (.const (.int .i64 64)) = some (.int ((64 : Nat) : Int)) from rfl) (by (first | decide | omega)) ht⟩,
      ⟨⟨rfl, rfl, fun _ τ hb ht hτ => R.neqN (((b ++ [128] ++ List.replicate z 0).length % 64)) (56) (evt (hτ 14 _ rfl)) (show ev _ _ (.const (.int .i64 56)) = some (.int ((56 : Nat) : Int)) from rfl) ht⟩,
      trivial⟩⟩⟩⟩, rfl, rfl, rfl⟩)
    rfl (bx' := []) rfl (n' := 37) rfl (⟨[0, 3, 15], [(0, _), (3, _), (15, _)], [], 37, rfl, rfl, rfl, ?_⟩)
  refine W.condD rfl (fun hc15 => ?_) (fun hc15 => ?_)
  · refine W.skip ?_
    refine W.block ?_
    refine W.line (n := 4) (by decide) (its := [⟨16, _, true⟩, ⟨17, _, true⟩, ⟨18, _, true⟩, ⟨3, _, true⟩]) (ks := [(2, 3), (3, 18), (3, 16)]) (kk := [(2, 3), (3, 18)]) (live := [0, 3]) (env' := [(0, _), (3, _)])
      (⟨Nat.le_of_ble_eq_true rfl, rfl,
        ⟨⟨rfl, rfl, fun _ τ hb ht hτ => R.al (hτ 3 _ rfl) ht (by decide)⟩,
        ⟨⟨rfl, rfl, fun _ τ hb ht hτ => R.bslE (z := 1) (.cons (show ev _ _ (.const (.int .u8 0)) = some (.u8 0) from rfl) .nil) ⟨⟨rfl, rfl, rfl⟩, trivial⟩ rfl ht (by decide)⟩,
        ⟨⟨rfl, rfl, fun _ τ hb ht hτ => R.appE (Or.inr (hτ 16 _ rfl)) (hτ 3 _ rfl) (SrcO.sc (SC.sl (hτ 17 _ rfl)) (pur_lit rfl)) (app_one) (by first | omega | (simp only [List.length_map, List.length_append, List.length_cons, List.length_nil, List.length_take, List.length_drop, List.length_replicate]; omega) | (simp; omega)) ht (by decide) (by decide)⟩,
        ⟨⟨rfl, rfl, fun _ τ hb ht hτ => R.asgO (hτ 18 _ rfl) rfl ht (by decide)⟩,
        trivial⟩⟩⟩⟩, rfl, rfl, rfl⟩)
      rfl (bx' := []) rfl (n' := 37) rfl (⟨[0, 3], [(0, _), (3, _)], [], 37, rfl, rfl, rfl, ?_⟩)
    exact ⟨⟨(z + 1), (by simp only [List.length_append, List.length_replicate, List.length_singleton] at hc15; unfold zR at *; omega)⟩, (by rw [List.replicate_succ', ← List.append_assoc]), (by simp only [List.length_append, List.length_replicate, List.length_singleton] at hc15; unfold zR at *; simp only []; omega)⟩
  · obtain rfl : z = zR b := by simp only [List.length_append, List.length_replicate, List.length_singleton, ne_eq, Classical.not_not] at hc15; unfold zR at *; omega
    refine W.exit ?_
    refine W.seq ?_
    refine W.line (n := 5) (by decide) (its := [⟨19, _, true⟩, ⟨20, _, true⟩, ⟨21, _, true⟩, ⟨22, _, true⟩, ⟨4, _, true⟩]) (ks := []) (kk := []) (live := [3, 4]) (env' := [(3, _), (4, _)])
      (⟨Nat.le_of_ble_eq_true rfl, rfl,
        ⟨⟨rfl, rfl, fun _ τ hb ht hτ => R.mov (evt (hτ 0 _ rfl)) rfl ht⟩,
        ⟨⟨rfl, rfl, fun _ τ hb ht hτ => R.lenE (SC.sl (hτ 19 _ rfl)) (List.length_map _) ht⟩,
        ⟨⟨rfl, rfl, fun _ τ hb ht hτ => R.conv (evt (hτ 20 _ rfl)) rfl ht⟩,
        ⟨⟨rfl, rfl, fun _ τ hb ht hτ => R.bin (evt (hτ 21 _ rfl)) (show ev _ _ (.const (.int .u64 8)) = some (.u64 8) from rfl) rfl trivial ht⟩,
        ⟨⟨rfl, rfl, fun _ τ hb ht hτ => R.asg (evt (hτ 22 _ rfl)) rfl ht⟩,
        trivial⟩⟩⟩⟩⟩, rfl, rfl, rfl⟩)
      rfl (bx' := []) rfl (n' := 37) rfl (⟨[3, 4], [(3, _), (4, _)], [], 37, rfl, rfl, rfl, ?_⟩)
    refine W.seq ?_
    refine W.seq ?_
    refine W.line (n := 1) (by decide) (its := [⟨5, _, true⟩]) (ks := []) (kk := []) (live := [3, 4, 5]) (env' := [(3, _), (4, _), (5, _)])
      (⟨Nat.le_of_ble_eq_true rfl, rfl,
        ⟨⟨rfl, rfl, fun _ τ hb ht hτ => R.asg (show ev _ _ (.const (.int .i64 7)) = some (.int ((7 : Nat) : Int)) from rfl) rfl ht⟩,
        trivial⟩, rfl, rfl, rfl⟩)
      rfl (bx' := []) rfl (n' := 37) rfl (⟨[3, 4, 5], [(3, _), (4, _), (5, _)], [], 37, rfl, rfl, rfl, ?_⟩)
    refine W.block ?_
    refine W.loop (α := {q__ : Nat // q__ ≤ 8}) (fun q__ => ⟨37, [(3, .sl (some 5) 1 ((b ++ [128] ++ List.replicate (zR b) 0 ++ tailR (bitsR b) q__.1).map D.u8)), (4, .u64 (bitsR b)), (5, .int (7 - ((q__.1 : Nat) : Int)))], []⟩) (fun q__ => 8 - q__.1) ⟨(0), (by first | omega | (simp only [List.length_map, List.length_append, List.length_cons, List.length_nil, List.length_take, List.length_drop, List.length_replicate]; omega) | (simp; omega))⟩ (by simp [tailR]; rfl) ?_
    rintro ⟨j, hj⟩
    show W _ _ _ _ ⟨37, [(3, .sl (some 5) 1 ((b ++ [128] ++ List.replicate (zR b) 0 ++ tailR (bitsR b) j).map D.u8)), (4, .u64 (bitsR b)), (5, .int (7 - ((j : Nat) : Int)))], []⟩
    have htl := tailR_len (bitsR b) j
    have hz1 : zR b ≤ 63 := by unfold zR; omega
    refine W.seq ?_
    refine W.seq ?_
    refine W.line (n := 2) (by decide) (its := [⟨23, _, true⟩, ⟨24, _, true⟩]) (ks := []) (kk := []) (live := [3, 4, 5, 24]) (env' := [(3, _), (4, _), (5, _), (24, _)])
      (⟨Nat.le_of_ble_eq_true rfl, rfl,
        ⟨⟨rfl, rfl, fun _ τ hb ht hτ => R.mov (evt (hτ 5 _ rfl)) rfl ht⟩,
        ⟨⟨rfl, rfl, fun _ τ hb ht hτ => R.bin (evt (hτ 23 _ rfl)) (show ev _ _ (.const (.int .i64 0)) = some (.int ((0 : Nat) : Int)) from rfl) rfl trivial ht⟩,
        trivial⟩⟩, rfl, rfl, rfl⟩)
      rfl (bx' := []) rfl (n' := 37) rfl (⟨[3, 4, 5, 24], [(3, _), (4, _), (5, _), (24, _)], [], 37, rfl, rfl, rfl, ?_⟩)
    refine W.cond rfl (fun hc24 => ?_) (fun hc24 => ?_)
    · refine W.skip ?_
      refine W.seq ?_
      refine W.block ?_
      refine W.line (n := 10) (by decide) (its := [⟨27, _, true⟩, ⟨28, _, true⟩, ⟨29, _, true⟩, ⟨30, _, true⟩, ⟨31, _, true⟩, ⟨32, _, true⟩, ⟨33, _, true⟩, ⟨34, _, true⟩, ⟨35, _, true⟩, ⟨3, _, true⟩]) (ks := [(8, 3), (9, 35), (9, 27)]) (kk := [(8, 3), (9, 35)]) (live := [3, 4, 5]) (env' := [(3, _), (4, _), (5, _)])
        (⟨Nat.le_of_ble_eq_true rfl, rfl,
          ⟨⟨rfl, rfl, fun _ τ hb ht hτ => R.al (hτ 3 _ rfl) ht (by decide)⟩,
          ⟨⟨rfl, rfl, fun _ τ hb ht hτ => R.mov (evt (hτ 4 _ rfl)) rfl ht⟩,
          ⟨⟨rfl, rfl, fun _ τ hb ht hτ => R.mov (evt (hτ 5 _ rfl)) rfl ht⟩,
          ⟨⟨rfl, rfl, fun _ τ hb ht hτ => R.bin (show ev _ _ (.const (.int .i64 8)) = some (.int ((8 : Nat) : Int)) from rfl) (evt (hτ 29 _ rfl)) rfl trivial ht⟩,
          ⟨⟨rfl, rfl, fun _ τ hb ht hτ => R.conv (evt (hτ 30 _ rfl)) rfl ht⟩,
          ⟨⟨rfl, rfl, fun _ τ hb ht hτ => R.bin (evt (hτ 28 _ rfl)) (evt (hτ 31 _ rfl)) rfl (show (0 : Int) ≤ _ by first | omega | (simp only [List.length_map, List.length_append, List.length_cons, List.length_nil, List.length_take, List.length_drop, List.length_replicate]; omega) | (simp; omega)) ht⟩,
          ⟨⟨rfl, rfl, fun _ τ hb ht hτ => R.conv (evt (hτ 32 _ rfl)) rfl ht⟩,
          ⟨⟨rfl, rfl, fun _ τ hb ht hτ => R.bslE (z := 1) (.cons (evt (hτ 33 _ rfl)) .nil) ⟨⟨rfl, rfl, rfl⟩, trivial⟩ rfl ht (by decide)⟩,
          ⟨⟨rfl, rfl, fun _ τ hb ht hτ => R.appE (Or.inr (hτ 27 _ rfl)) (hτ 3 _ rfl) (SrcO.sc (SC.sl (hτ 34 _ rfl)) (pur_lit rfl)) (app_one) (by first | omega | (simp only [List.length_map, List.length_append, List.length_cons, List.length_nil, List.length_take, List.length_drop, List.length_replicate]; omega) | (simp; omega)) ht (by decide) (by decide)⟩,
          ⟨⟨rfl, rfl, fun _ τ hb ht hτ => R.asgO (hτ 35 _ rfl) rfl ht (by decide)⟩,
          trivial⟩⟩⟩⟩⟩⟩⟩⟩⟩⟩, rfl, rfl, rfl⟩)
        rfl (bx' := []) rfl (n' := 37) rfl (⟨[3, 4, 5], [(3, _), (4, _), (5, _)], [], 37, rfl, rfl, rfl, ?_⟩)
      refine W.line (n := 3) (by decide) (its := [⟨25, _, true⟩, ⟨26, _, true⟩, ⟨5, _, true⟩]) (ks := []) (kk := []) (live := [3, 4, 5]) (env' := [(3, _), (4, _), (5, _)])
        (⟨Nat.le_of_ble_eq_true rfl, rfl,
          ⟨⟨rfl, rfl, fun _ τ hb ht hτ => R.mov (evt (hτ 5 _ rfl)) rfl ht⟩,
          ⟨⟨rfl, rfl, fun _ τ hb ht hτ => R.binE (d := .int (7 - ((j + 1 : Nat) : Int))) (evt (hτ 25 _ rfl)) (show ev _ _ (.const (.int .i64 1)) = some (.int ((1 : Nat) : Int)) from rfl) rfl trivial (wr_eq (by omega) (by omega) (by omega)) ht⟩,
          ⟨⟨rfl, rfl, fun _ τ hb ht hτ => R.asg (evt (hτ 26 _ rfl)) rfl ht⟩,
          trivial⟩⟩⟩, rfl, rfl, rfl⟩)
        rfl (bx' := []) rfl (n' := 37) rfl (⟨[3, 4, 5], [(3, _), (4, _), (5, _)], [], 37, rfl, rfl, rfl, ?_⟩)
      exact ⟨⟨(j + 1), (by have := of_decide_eq_true hc24; omega)⟩, (by simp only [tailR, ← List.append_assoc]; rfl), (by have := of_decide_eq_true hc24; simp only []; omega)⟩
    · obtain rfl : j = 8 := by have := of_decide_eq_false hc24; omega
      refine W.exit ?_
      refine W.seq ?_
      refine W.line (n := 2) (by decide) (its := [⟨36, _, true⟩, ⟨2, _, true⟩]) (ks := [(0, 3), (1, 36)]) (kk := [(0, 3), (1, 36)]) (live := [2]) (env' := [(2, _)])
        (⟨Nat.le_of_ble_eq_true rfl, rfl,
          ⟨⟨rfl, rfl, fun _ τ hb ht hτ => R.movO (hτ 3 _ rfl) rfl ht (by decide)⟩,
          ⟨⟨rfl, rfl, fun _ τ hb ht hτ => R.asgO (hτ 36 _ rfl) rfl ht (by decide)⟩,
          trivial⟩⟩, rfl, rfl, rfl⟩)
        rfl (bx' := []) rfl (n' := 37) rfl (⟨[2], [(2, _)], [], 37, rfl, rfl, rfl, ?_⟩)
      refine W.ret ?_
      exact Ends.one' (.inr rfl) rfl (rfl) rfl rfl trivial

theorem rsum_ok (b : List UInt8) (hb0 : b.length ≤ 1000000000) : Fn Tryd.prog gl 33 [.sl none 1 (b.map D.u8)] (hashD (sumR b)) := by
  refine Fn.of (n := 171) Tryd.func33 rfl rfl rfl (Nat.le_of_ble_eq_true rfl) fun C hC hD => ?_
  refine W.seq ?_
  refine W.line (n := 1) (by decide) (its := []) (ks := []) (kk := []) (live := [0]) (env' := [(0, _)])
    (⟨Nat.le_of_ble_eq_true rfl, rfl,
      trivial, rfl, rfl, rfl⟩)
    rfl (bx' := []) rfl (n' := 171) rfl (⟨rfl, _, R.alloc rfl (Nat.le_of_ble_eq_true rfl), ⟨[0, 2], [(0, _), (2, _)], [(2, .var _)], 171, rfl, rfl, rfl, ?_⟩⟩)
  refine W.seq ?_
  refine W.line (n := 2) (by decide) (its := [⟨19, _, true⟩, ⟨3, _, true⟩]) (ks := [(1, 19)]) (kk := [(1, 19)]) (live := [0, 2, 3]) (env' := [(0, _), (2, _), (3, _)])
    (⟨Nat.le_of_ble_eq_true rfl, rfl,
      ⟨⟨rfl, rfl, fun _ τ hb ht hτ => R.bslE (z := 1) (.cons (show ev _ _ (.const (.int .u32 1779033703)) = some (.u32 1779033703) from rfl) (.cons (show ev _ _ (.const (.int .u32 3144134277)) = some (.u32 3144134277) from rfl) (.cons (show ev _ _ (.const (.int .u32 1013904242)) = some (.u32 1013904242) from rfl) (.cons (show ev _ _ (.const (.int .u32 2773480762)) = some (.u32 2773480762) from rfl) (.cons (show ev _ _ (.const (.int .u32 1359893119)) = some (.u32 1359893119) from rfl) (.cons (show ev _ _ (.const (.int .u32 2600822924)) = some (.u32 2600822924) from rfl) (.cons (show ev _ _ (.const (.int .u32 528734635)) = some (.u32 528734635) from rfl) (.cons (show ev _ _ (.const (.int .u32 1541459225)) = some (.u32 1541459225) from rfl) .nil)))))))) ⟨⟨rfl, rfl, rfl⟩, ⟨⟨rfl, rfl, rfl⟩, ⟨⟨rfl, rfl, rfl⟩, ⟨⟨rfl, rfl, rfl⟩, ⟨⟨rfl, rfl, rfl⟩, ⟨⟨rfl, rfl, rfl⟩, ⟨⟨rfl, rfl, rfl⟩, ⟨⟨rfl, rfl, rfl⟩, trivial⟩⟩⟩⟩⟩⟩⟩⟩ rfl ht (by decide)⟩,
      ⟨⟨rfl, rfl, fun _ τ hb ht hτ => R.asgO (hτ 19 _ rfl) rfl ht (by decide)⟩,
      trivial⟩⟩, rfl, rfl, rfl⟩)
    rfl (bx' := [(2, .var _)]) rfl (n' := 171) rfl (⟨[0, 2, 3], [(0, _), (2, _), (3, _)], [(2, .var _)], 171, rfl, rfl, rfl, ?_⟩)
  refine W.seq ?_
  refine W.line (n := 3) (by decide) (its := [⟨20, _, true⟩, ⟨21, _, true⟩, ⟨4, _, true⟩]) (ks := [(2, 21)]) (kk := [(2, 21)]) (live := [2, 3, 4]) (env' := [(2, _), (3, _), (4, _)])
    (⟨Nat.le_of_ble_eq_true rfl, rfl,
      ⟨⟨rfl, rfl, fun _ τ hb ht hτ => R.mov (evt (hτ 0 _ rfl)) rfl ht⟩,
      ⟨⟨rfl, rfl, fun _ τ hb ht hτ => R.callG hC (text_ok b hb0) (Bors.cons (Bor.pur (evt (hτ 20 _ rfl)) rfl rfl) Bors.nil) (FrsR.one (.sl _ _ _ (frs_map fun _ => .u8 _))) ht⟩,
      ⟨⟨rfl, rfl, fun _ τ hb ht hτ => R.asgO (hτ 21 _ rfl) rfl ht (by decide)⟩,
      trivial⟩⟩⟩, rfl, rfl, rfl⟩)
    rfl (bx' := [(2, .var _)]) rfl (n' := 171) rfl (⟨[2, 3, 4], [(2, _), (3, _), (4, _)], [(2, .var _)], 171, rfl, rfl, rfl, ?_⟩)
  refine W.seq ?_
  refine W.line (n := 2) (by decide) (its := [⟨22, _, true⟩, ⟨5, _, true⟩]) (ks := [(1, 22)]) (kk := [(1, 22)]) (live := [2, 3, 4, 5]) (env' := [(2, _), (3, _), (4, _), (5, _)])
    (⟨Nat.le_of_ble_eq_true rfl, rfl,
      ⟨⟨rfl, rfl, fun _ τ hb ht hτ => R.callG hC (k_ok) Bors.nil (FrsR.one (.sl _ _ _ (frs_map fun _ => .u32 _))) ht⟩,
      ⟨⟨rfl, rfl, fun _ τ hb ht hτ => R.asgO (hτ 22 _ rfl) rfl ht (by decide)⟩,
      trivial⟩⟩, rfl, rfl, rfl⟩)
    rfl (bx' := [(2, .var _)]) rfl (n' := 171) rfl (⟨[2, 3, 4, 5], [(2, _), (3, _), (4, _), (5, _)], [(2, .var _)], 171, rfl, rfl, rfl, ?_⟩)
  refine W.seq ?_
  refine W.seq ?_
  refine W.line (n := 1) (by decide) (its := [⟨6, _, true⟩]) (ks := []) (kk := []) (live := [2, 3, 4, 5, 6]) (env' := [(2, _), (3, _), (4, _), (5, _), (6, _)])
    (⟨Nat.le_of_ble_eq_true rfl, rfl,
      ⟨⟨rfl, rfl, fun _ τ hb ht hτ => R.asg (show ev _ _ (.const (.int .i64 0)) = some (.int ((0 : Nat) : Int)) from rfl) rfl ht⟩,
      trivial⟩, rfl, rfl, rfl⟩)
    rfl (bx' := [(2, .var _)]) rfl (n' := 171) rfl (⟨[2, 3, 4, 5, 6], [(2, _), (3, _), (4, _), (5, _), (6, _)], [(2, .var _)], 171, rfl, rfl, rfl, ?_⟩)
  refine W.block ?_
  refine W.loop (α := {q__ : Nat // q__ ≤ pieces b}) (fun q__ => ⟨171, [(2, .ptr 2 0 []), (3, .sl (some 22) 1 ((hR (textR b) q__.1).map D.u32)), (4, .sl (some 5) 1 ((textR b).map D.u8)), (5, .sl (some 22) 1 (kTab.map D.u32)), (6, .int ((64 * q__.1 : Nat) : Int))], [(2, .var (hashD (List.replicate 32 0)))]⟩) (fun q__ => pieces b - q__.1) ⟨(0), (by first | omega | (simp only [List.length_map, List.length_append, List.length_cons, List.length_nil, List.length_take, List.length_drop, List.length_replicate]; omega) | (simp; omega))⟩ rfl ?_
  rintro ⟨m, hm⟩
  show W _ _ _ _ ⟨171, [(2, .ptr 2 0 []), (3, .sl (some 22) 1 ((hR (textR b) m).map D.u32)), (4, .sl (some 5) 1 ((textR b).map D.u8)), (5, .sl (some 22) 1 (kTab.map D.u32)), (6, .int ((64 * m : Nat) : Int))], [(2, .var (hashD (List.replicate 32 0)))]⟩
  have htp := textR_pieces b
  have htl := textR_len b
  have hz1 : zR b ≤ 63 := by unfold zR; omega
  have hhl := hR_len (textR b) m
  refine W.seq ?_
  refine W.seq ?_
  refine W.line (n := 4) (by decide) (its := [⟨23, _, true⟩, ⟨24, _, true⟩, ⟨25, _, true⟩, ⟨26, _, true⟩]) (ks := []) (kk := []) (live := [2, 3, 4, 5, 6, 26]) (env' := [(2, _), (3, _), (4, _), (5, _), (6, _), (26, _)])
    (⟨Nat.le_of_ble_eq_true rfl, rfl,
      ⟨⟨rfl, rfl, fun _ τ hb ht hτ => R.mov (evt (hτ 6 _ rfl)) rfl ht⟩,
      ⟨⟨rfl, rfl, fun _ τ hb ht hτ => R.al (hτ 4 _ rfl) ht (by decide)⟩,
      ⟨⟨rfl, rfl, fun _ τ hb ht hτ => R.lenE (SC.al (hτ 24 _ rfl) (hτ 4 _ rfl)) (List.length_map _) ht⟩,
      ⟨⟨rfl, rfl, fun _ τ hb ht hτ => R.lssN (64 * m) ((textR b).length) (evt (hτ 23 _ rfl)) (evt (hτ 25 _ rfl)) ht⟩,
      trivial⟩⟩⟩⟩, rfl, rfl, rfl⟩)
    rfl (bx' := [(2, .var _)]) rfl (n' := 171) rfl (⟨[2, 3, 4, 5, 6, 26], [(2, _), (3, _), (4, _), (5, _), (6, _), (26, _)], [(2, .var _)], 171, rfl, rfl, rfl, ?_⟩)
  refine W.condD rfl (fun hc26 => ?_) (fun hc26 => ?_)
  · refine W.skip ?_
    refine W.seq ?_
    refine W.block ?_
    refine W.seq ?_
    refine W.line (n := 7) (by decide) (its := [⟨29, _, true⟩, ⟨30, _, true⟩, ⟨31, _, true⟩, ⟨32, _, true⟩, ⟨33, _, true⟩, ⟨34, _, true⟩, ⟨7, _, true⟩]) (ks := [(6, 34)]) (kk := [(6, 34)]) (live := [2, 3, 4, 5, 6, 7]) (env' := [(2, _), (3, _), (4, _), (5, _), (6, _), (7, _)])
      (⟨Nat.le_of_ble_eq_true rfl, rfl,
        ⟨⟨rfl, rfl, fun _ τ hb ht hτ => R.al (hτ 4 _ rfl) ht (by decide)⟩,
        ⟨⟨rfl, rfl, fun _ τ hb ht hτ => R.mov (evt (hτ 6 _ rfl)) rfl ht⟩,
        ⟨⟨rfl, rfl, fun _ τ hb ht hτ => R.mov (evt (hτ 6 _ rfl)) rfl ht⟩,
        ⟨⟨rfl, rfl, fun _ τ hb ht hτ => R.addN (64 * m) (64) (evt (hτ 31 _ rfl)) (show ev _ _ (.const (.int .i64 64)) = some (.int ((64 : Nat) : Int)) from rfl) (by first | omega | (simp only [List.length_map, List.length_append, List.length_cons, List.length_nil, List.length_take, List.length_drop, List.length_replicate]; omega) | (simp; omega)) ht⟩,
        ⟨⟨rfl, rfl, fun _ τ hb ht hτ => R.slVN (64 * m) ((64 * m + 64)) (64) (SC.al (hτ 29 _ rfl) (hτ 4 _ rfl)) (evoI (evt (hτ 30 _ rfl))) (evoI (evt (hτ 32 _ rfl))) rfl rfl (by first | omega | (simp only [List.length_map, List.length_append, List.length_cons, List.length_nil, List.length_take, List.length_drop, List.length_replicate]; omega) | (simp; omega)) (by first | omega | (simp only [List.length_map, List.length_append, List.length_cons, List.length_nil, List.length_take, List.length_drop, List.length_replicate]; omega) | (simp; omega)) (by first | omega | (simp only [List.length_map, List.length_append, List.length_cons, List.length_nil, List.length_take, List.length_drop, List.length_replicate]; omega) | (simp; omega)) ht (by decide)⟩,
        ⟨⟨rfl, rfl, fun _ τ hb ht hτ => R.callG hC (words_ok (((textR b).drop (64 * m)).take 64) (by simp only [List.length_take, List.length_drop]; omega)) (Bors.cons (Bor.sc (SC.vw (hτ 33 _ rfl) (SC.al (hτ 29 _ rfl) (hτ 4 _ rfl)) (by simp only [List.length_map]; omega)) (brw_part (fun _ => rfl))) Bors.nil) (FrsR.one (.sl _ _ _ (frs_map fun _ => .u32 _))) ht⟩,
        ⟨⟨rfl, rfl, fun _ τ hb ht hτ => R.asgO (hτ 34 _ rfl) rfl ht (by decide)⟩,
        trivial⟩⟩⟩⟩⟩⟩⟩, rfl, rfl, rfl⟩)
      rfl (bx' := [(2, .var _)]) rfl (n' := 171) rfl (⟨[2, 3, 4, 5, 6, 7], [(2, _), (3, _), (4, _), (5, _), (6, _), (7, _)], [(2, .var _)], 171, rfl, rfl, rfl, ?_⟩)
    refine W.seq ?_
    refine W.line (n := 4) (by decide) (its := [⟨35, _, true⟩, ⟨36, _, true⟩, ⟨37, _, true⟩, ⟨8, _, true⟩]) (ks := [(2, 35), (3, 37)]) (kk := [(2, 35), (3, 37)]) (live := [2, 3, 4, 5, 6, 7, 8]) (env' := [(2, _), (3, _), (4, _), (5, _), (6, _), (7, _), (8, _)])
      (⟨Nat.le_of_ble_eq_true rfl, rfl,
        ⟨⟨rfl, rfl, fun _ τ hb ht hτ => R.bslE .nil trivial rfl ht (by decide)⟩,
        ⟨⟨rfl, rfl, fun _ τ hb ht hτ => R.al (hτ 3 _ rfl) ht (by decide)⟩,
        ⟨⟨rfl, rfl, fun _ τ hb ht hτ => R.appE (Or.inl rfl) (hτ 35 _ rfl) (SrcO.sc (SC.al (hτ 36 _ rfl) (hτ 3 _ rfl)) (pur_map (fun _ => rfl))) (List.nil_append _) (by first | omega | (simp only [List.length_map, List.length_append, List.length_cons, List.length_nil, List.length_take, List.length_drop, List.length_replicate]; omega) | (simp; omega)) ht (by decide) (by decide)⟩,
        ⟨⟨rfl, rfl, fun _ τ hb ht hτ => R.asgO (hτ 37 _ rfl) rfl ht (by decide)⟩,
        trivial⟩⟩⟩⟩, rfl, rfl, rfl⟩)
      rfl (bx' := [(2, .var _)]) rfl (n' := 171) rfl (⟨[2, 3, 4, 5, 6, 7, 8], [(2, _), (3, _), (4, _), (5, _), (6, _), (7, _), (8, _)], [(2, .var _)], 171, rfl, rfl, rfl, ?_⟩)
    refine W.seq ?_
    refine W.seq ?_
    refine W.line (n := 1) (by decide) (its := [⟨9, _, true⟩]) (ks := []) (kk := []) (live := [2, 3, 4, 5, 6, 7, 8, 9]) (env' := [(2, _), (3, _), (4, _), (5, _), (6, _), (7, _), (8, _), (9, _)])
      (⟨Nat.le_of_ble_eq_true rfl, rfl,
        ⟨⟨rfl, rfl, fun _ τ hb ht hτ => R.asg (show ev _ _ (.const (.int .i64 0)) = some (.int ((0 : Nat) : Int)) from rfl) rfl ht⟩,
        trivial⟩, rfl, rfl, rfl⟩)
      rfl (bx' := [(2, .var _)]) rfl (n' := 171) rfl (⟨[2, 3, 4, 5, 6, 7, 8, 9], [(2, _), (3, _), (4, _), (5, _), (6, _), (7, _), (8, _), (9, _)], [(2, .var _)], 171, rfl, rfl, rfl, ?_⟩)
    refine W.block ?_
    refine W.loop (α := {q__ : Nat // q__ ≤ 64}) (fun q__ => ⟨171, [(2, .ptr 2 0 []), (3, .sl (some 22) 1 ((hR (textR b) m).map D.u32)), (4, .sl (some 5) 1 ((textR b).map D.u8)), (5, .sl (some 22) 1 (kTab.map D.u32)), (6, .int ((64 * m : Nat) : Int)), (7, .sl (some 22) 1 ((wR (((textR b).drop (64 * m)).take 64) 64).map D.u32)), (8, .sl (some 22) 1 ((rdsR (hR (textR b) m) (wR (((textR b).drop (64 * m)).take 64) 64) q__.1).map D.u32)), (9, .int ((q__.1 : Nat) : Int))], [(2, .var (hashD (List.replicate 32 0)))]⟩) (fun q__ => 64 - q__.1) ⟨(0), (by first | omega | (simp only [List.length_map, List.length_append, List.length_cons, List.length_nil, List.length_take, List.length_drop, List.length_replicate]; omega) | (simp; omega))⟩ rfl ?_
    rintro ⟨t, ht⟩
    show W _ _ _ _ ⟨171, [(2, .ptr 2 0 []), (3, .sl (some 22) 1 ((hR (textR b) m).map D.u32)), (4, .sl (some 5) 1 ((textR b).map D.u8)), (5, .sl (some 22) 1 (kTab.map D.u32)), (6, .int ((64 * m : Nat) : Int)), (7, .sl (some 22) 1 ((wR (((textR b).drop (64 * m)).take 64) 64).map D.u32)), (8, .sl (some 22) 1 ((rdsR (hR (textR b) m) (wR (((textR b).drop (64 * m)).take 64) 64) t).map D.u32)), (9, .int ((t : Nat) : Int))], [(2, .var (hashD (List.replicate 32 0)))]⟩
    have hwl := wR_len (((textR b).drop (64 * m)).take 64) 64
    have hkl : kTab.length = 64 := rfl
    have hrl := rdsR_len (hR (textR b) m) (wR (((textR b).drop (64 * m)).take 64) 64) t hhl
    refine W.seq ?_
    refine W.seq ?_
    refine W.line (n := 2) (by decide) (its := [⟨38, _, true⟩, ⟨39, _, true⟩]) (ks := []) (kk := []) (live := [2, 3, 4, 5, 6, 7, 8, 9, 39]) (env' := [(2, _), (3, _), (4, _), (5, _), (6, _), (7, _), (8, _), (9, _), (39, _)])
      (⟨Nat.le_of_ble_eq_true rfl, rfl,
        ⟨⟨rfl, rfl, fun _ τ hb ht hτ => R.mov (evt (hτ 9 _ rfl)) rfl ht⟩,
        ⟨⟨rfl, rfl, fun _ τ hb ht hτ => R.lssN (t) (64) (evt (hτ 38 _ rfl)) (show ev _ _ (.const (.int .i64 64)) = some (.int ((64 : Nat) : Int)) from rfl) ht⟩,
        trivial⟩⟩, rfl, rfl, rfl⟩)
      rfl (bx' := [(2, .var _)]) rfl (n' := 171) rfl (⟨[2, 3, 4, 5, 6, 7, 8, 9, 39], [(2, _), (3, _), (4, _), (5, _), (6, _), (7, _), (8, _), (9, _), (39, _)], [(2, .var _)], 171, rfl, rfl, rfl, ?_⟩)
    refine W.condD rfl (fun hc39 => ?_) (fun hc39 => ?_)
    · refine W.skip ?_
      refine W.seq ?_
      refine W.block ?_
      refine W.seq ?_
      refine W.line (n := 4) (by decide) (its := [⟨42, _, true⟩, ⟨43, _, true⟩, ⟨44, _, true⟩, ⟨10, _, true⟩]) (ks := []) (kk := []) (live := [2, 3, 4, 5, 6, 7, 8, 9, 10]) (env' := [(2, _), (3, _), (4, _), (5, _), (6, _), (7, _), (8, _), (9, _), (10, _)])
        (⟨Nat.le_of_ble_eq_true rfl, rfl,
          ⟨⟨rfl, rfl, fun _ τ hb ht hτ => R.al (hτ 8 _ rfl) ht (by decide)⟩,
          ⟨⟨rfl, rfl, fun _ τ hb ht hτ => R.idxN (0) (SC.al (hτ 42 _ rfl) (hτ 8 _ rfl)) (evoI (show ev _ _ (.const (.int .i64 0)) = some (.int ((0 : Nat) : Int)) from rfl)) rfl (by first | omega | (simp only [List.length_map, List.length_append, List.length_cons, List.length_nil, List.length_take, List.length_drop, List.length_replicate]; omega) | (simp; omega)) ht (by decide)⟩,
          ⟨⟨rfl, rfl, fun _ τ hb ht hτ => R.ldE (hτ 43 _ rfl) (SC.al (hτ 42 _ rfl) (hτ 8 _ rfl)) (map_get! (l := (rdsR (hR (textR b) m) (wR (((textR b).drop (64 * m)).take 64) 64) t)) (by first | omega | (simp only [List.length_map, List.length_append, List.length_cons, List.length_nil, List.length_take, List.length_drop, List.length_replicate]; omega) | (simp; omega))) rfl rfl rfl rfl ht⟩,
          ⟨⟨rfl, rfl, fun _ τ hb ht hτ => R.asg (evt (hτ 44 _ rfl)) rfl ht⟩,
          trivial⟩⟩⟩⟩, rfl, rfl, rfl⟩)
        rfl (bx' := [(2, .var _)]) rfl (n' := 171) rfl (⟨[2, 3, 4, 5, 6, 7, 8, 9, 10], [(2, _), (3, _), (4, _), (5, _), (6, _), (7, _), (8, _), (9, _), (10, _)], [(2, .var _)], 171, rfl, rfl, rfl, ?_⟩)
      refine W.seq ?_
      refine W.line (n := 4) (by decide) (its := [⟨45, _, true⟩, ⟨46, _, true⟩, ⟨47, _, true⟩, ⟨11, _, true⟩]) (ks := []) (kk := []) (live := [2, 3, 4, 5, 6, 7, 8, 9, 10, 11]) (env' := [(2, _), (3, _), (4, _), (5, _), (6, _), (7, _), (8, _), (9, _), (10, _), (11, _)])
        (⟨Nat.le_of_ble_eq_true rfl, rfl,
          ⟨⟨rfl, rfl, fun _ τ hb ht hτ => R.al (hτ 8 _ rfl) ht (by decide)⟩,
          ⟨⟨rfl, rfl, fun _ τ hb ht hτ => R.idxN (4) (SC.al (hτ 45 _ rfl) (hτ 8 _ rfl)) (evoI (show ev _ _ (.const (.int .i64 4)) = some (.int ((4 : Nat) : Int)) from rfl)) rfl (by first | omega | (simp only [List.length_map, List.length_append, List.length_cons, List.length_nil, List.length_take, List.length_drop, List.length_replicate]; omega) | (simp; omega)) ht (by decide)⟩,
          ⟨⟨rfl, rfl, fun _ τ hb ht hτ => R.ldE (hτ 46 _ rfl) (SC.al (hτ 45 _ rfl) (hτ 8 _ rfl)) (map_get! (l := (rdsR (hR (textR b) m) (wR (((textR b).drop (64 * m)).take 64) 64) t)) (by first | omega | (simp only [List.length_map, List.length_append, List.length_cons, List.length_nil, List.length_take, List.length_drop, List.length_replicate]; omega) | (simp; omega))) rfl rfl rfl rfl ht⟩,
          ⟨⟨rfl, rfl, fun _ τ hb ht hτ => R.asg (evt (hτ 47 _ rfl)) rfl ht⟩,
          trivial⟩⟩⟩⟩, rfl, rfl, rfl⟩)
        rfl (bx' := [(2, .var _)]) rfl (n' := 171) rfl (⟨[2, 3, 4, 5, 6, 7, 8, 9, 10, 11], [(2, _), (3, _), (4, _), (5, _), (6, _), (7, _), (8, _), (9, _), (10, _), (11, _)], [(2, .var _)], 171, rfl, rfl, rfl, ?_⟩)
      refine W.seq ?_
      refine W.line (n := 9) (by decide) (its := [⟨48, _, true⟩, ⟨49, _, true⟩, ⟨50, _, true⟩, ⟨51, _, true⟩, ⟨52, _, true⟩, ⟨53, _, true⟩, ⟨54, _, true⟩, ⟨55, _, true⟩, ⟨12, _, true⟩]) (ks := []) (kk := []) (live := [2, 3, 4, 5, 6, 7, 8, 9, 10, 11, 12]) (env' := [(2, _), (3, _), (4, _), (5, _), (6, _), (7, _), (8, _), (9, _), (10, _), (11, _), (12, _)])
        (⟨Nat.le_of_ble_eq_true rfl, rfl,
          ⟨⟨rfl, rfl, fun _ τ hb ht hτ => R.mov (evt (hτ 11 _ rfl)) rfl ht⟩,
          ⟨⟨rfl, rfl, fun _ τ hb ht hτ => R.callG hC (rright_ok _ _) (Bors.cons (Bor.pur (evt (hτ 48 _ rfl)) rfl rfl) (Bors.cons (Bor.pur (show ev _ _ (.const (.int .u64 6)) = some (.u64 6) from rfl) rfl rfl) Bors.nil)) (FrsR.one (.u32 _)) ht⟩,
          ⟨⟨rfl, rfl, fun _ τ hb ht hτ => R.mov (evt (hτ 11 _ rfl)) rfl ht⟩,
          ⟨⟨rfl, rfl, fun _ τ hb ht hτ => R.callG hC (rright_ok _ _) (Bors.cons (Bor.pur (evt (hτ 50 _ rfl)) rfl rfl) (Bors.cons (Bor.pur (show ev _ _ (.const (.int .u64 11)) = some (.u64 11) from rfl) rfl rfl) Bors.nil)) (FrsR.one (.u32 _)) ht⟩,
          ⟨⟨rfl, rfl, fun _ τ hb ht hτ => R.bin (evt (hτ 49 _ rfl)) (evt (hτ 51 _ rfl)) rfl trivial ht⟩,
          ⟨⟨rfl, rfl, fun _ τ hb ht hτ => R.mov (evt (hτ 11 _ rfl)) rfl ht⟩,
          ⟨⟨rfl, rfl, fun _ τ hb ht hτ => R.callG hC (rright_ok _ _) (Bors.cons (Bor.pur (evt (hτ 53 _ rfl)) rfl rfl) (Bors.cons (Bor.pur (show ev _ _ (.const (.int .u64 25)) = some (.u64 25) from rfl) rfl rfl) Bors.nil)) (FrsR.one (.u32 _)) ht⟩,
          ⟨⟨rfl, rfl, fun _ τ hb ht hτ => R.bin (evt (hτ 52 _ rfl)) (evt (hτ 54 _ rfl)) rfl trivial ht⟩,
          ⟨⟨rfl, rfl, fun _ τ hb ht hτ => R.asg (evt (hτ 55 _ rfl)) rfl ht⟩,
          trivial⟩⟩⟩⟩⟩⟩⟩⟩⟩, rfl, rfl, rfl⟩)
        rfl (bx' := [(2, .var _)]) rfl (n' := 171) rfl (⟨[2, 3, 4, 5, 6, 7, 8, 9, 10, 11, 12], [(2, _), (3, _), (4, _), (5, _), (6, _), (7, _), (8, _), (9, _), (10, _), (11, _), (12, _)], [(2, .var _)], 171, rfl, rfl, rfl, ?_⟩)
      refine W.seq ?_
      refine W.draw (m := 29) (an := (0 :: 1 :: 3 :: 0 :: 15 :: 0 :: 0 :: 64 :: 192 :: 480 :: 0 :: 1024 :: 0 :: 4096 :: 12288 :: 31744 :: 65504 :: 131071 :: 0 :: 0 :: 786432 :: 1835008 :: 4194303 :: 0 :: 0 :: 25165824 :: 58720256 :: 134217727 :: 268435455 :: [])) hP (by decide) rfl (its := (⟨56, _, true⟩ :: ⟨57, _, true⟩ :: ⟨58, _, true⟩ :: ⟨59, _, true⟩ :: ⟨60, _, true⟩ :: ⟨61, _, true⟩ :: ⟨62, _, true⟩ :: ⟨63, _, true⟩ :: ⟨64, _, true⟩ :: ⟨65, _, true⟩ :: ⟨66, _, true⟩ :: ⟨67, _, true⟩ :: ⟨68, _, true⟩ :: ⟨69, _, true⟩ :: ⟨70, _, true⟩ :: ⟨71, _, true⟩ :: ⟨72, _, true⟩ :: ⟨73, _, true⟩ :: ⟨74, _, true⟩ :: ⟨75, _, true⟩ :: ⟨76, _, true⟩ :: ⟨77, _, true⟩ :: ⟨78, _, true⟩ :: ⟨79, _, true⟩ :: ⟨80, _, true⟩ :: ⟨81, _, true⟩ :: ⟨82, _, true⟩ :: ⟨83, _, true⟩ :: ⟨13, _, true⟩ :: [])) (ks := []) (kk := []) (live := [2, 3, 4, 5, 6, 7, 8, 9, 10, 11, 13]) (env' := [(2, _), (3, _), (4, _), (5, _), (6, _), (7, _), (8, _), (9, _), (10, _), (11, _), (13, _)])
        (⟨Nat.le_of_ble_eq_true rfl, rfl,
          ⟨⟨rfl, rfl, fun _ τ hb ht hτ => R.al (hτ 8 _ rfl) ht (by decide)⟩,
          ⟨⟨rfl, rfl, fun _ τ hb ht hτ => R.idxN (7) (SC.al (hτ 56 _ rfl) (hτ 8 _ rfl)) (evoI (show ev _ _ (.const (.int .i64 7)) = some (.int ((7 : Nat) : Int)) from rfl)) rfl (by first | omega | (simp only [List.length_map, List.length_append, List.length_cons, List.length_nil, List.length_take, List.length_drop, List.length_replicate]; omega) | (simp; omega)) ht (by decide)⟩,
          ⟨⟨rfl, rfl, fun _ τ hb ht hτ => R.ldE (hτ 57 _ rfl) (SC.al (hτ 56 _ rfl) (hτ 8 _ rfl)) (map_get! (l := (rdsR (hR (textR b) m) (wR (((textR b).drop (64 * m)).take 64) 64) t)) (by first | omega | (simp only [List.length_map, List.length_append, List.length_cons, List.length_nil, List.length_take, List.length_drop, List.length_replicate]; omega) | (simp; omega))) rfl rfl rfl rfl ht⟩,
          ⟨⟨rfl, rfl, fun _ τ hb ht hτ => R.mov (evt (hτ 12 _ rfl)) rfl ht⟩,
          ⟨⟨rfl, rfl, fun _ τ hb ht hτ => R.bin (evt (hτ 58 _ rfl)) (evt (hτ 59 _ rfl)) rfl trivial ht⟩,
          ⟨⟨rfl, rfl, fun _ τ hb ht hτ => R.mov (evt (hτ 11 _ rfl)) rfl ht⟩,
          ⟨⟨rfl, rfl, fun _ τ hb ht hτ => R.al (hτ 8 _ rfl) ht (by decide)⟩,
          ⟨⟨rfl, rfl, fun _ τ hb ht hτ => R.idxN (5) (SC.al (hτ 62 _ rfl) (hτ 8 _ rfl)) (evoI (show ev _ _ (.const (.int .i64 5)) = some (.int ((5 : Nat) : Int)) from rfl)) rfl (by first | omega | (simp only [List.length_map, List.length_append, List.length_cons, List.length_nil, List.length_take, List.length_drop, List.length_replicate]; omega) | (simp; omega)) ht (by decide)⟩,
          ⟨⟨rfl, rfl, fun _ τ hb ht hτ => R.ldE (hτ 63 _ rfl) (SC.al (hτ 62 _ rfl) (hτ 8 _ rfl)) (map_get! (l := (rdsR (hR (textR b) m) (wR (((textR b).drop (64 * m)).take 64) 64) t)) (by first | omega | (simp only [List.length_map, List.length_append, List.length_cons, List.length_nil, List.length_take, List.length_drop, List.length_replicate]; omega) | (simp; omega))) rfl rfl rfl rfl ht⟩,
          ⟨⟨rfl, rfl, fun _ τ hb ht hτ => R.bin (evt (hτ 61 _ rfl)) (evt (hτ 64 _ rfl)) rfl trivial ht⟩,
          ⟨⟨rfl, rfl, fun _ τ hb ht hτ => R.mov (evt (hτ 11 _ rfl)) rfl ht⟩,
          ⟨⟨rfl, rfl, fun _ τ hb ht hτ => R.un (evt (hτ 66 _ rfl)) rfl ht⟩,
          ⟨⟨rfl, rfl, fun _ τ hb ht hτ => R.al (hτ 8 _ rfl) ht (by decide)⟩,
          ⟨⟨rfl, rfl, fun _ τ hb ht hτ => R.idxN (6) (SC.al (hτ 68 _ rfl) (hτ 8 _ rfl)) (evoI (show ev _ _ (.const (.int .i64 6)) = some (.int ((6 : Nat) : Int)) from rfl)) rfl (by first | omega | (simp only [List.length_map, List.length_append, List.length_cons, List.length_nil, List.length_take, List.length_drop, List.length_replicate]; omega) | (simp; omega)) ht (by decide)⟩,
          ⟨⟨rfl, rfl, fun _ τ hb ht hτ => R.ldE (hτ 69 _ rfl) (SC.al (hτ 68 _ rfl) (hτ 8 _ rfl)) (map_get! (l := (rdsR (hR (textR b) m) (wR (((textR b).drop (64 * m)).take 64) 64) t)) (by first | omega | (simp only [List.length_map, List.length_append, List.length_cons, List.length_nil, List.length_take, List.length_drop, List.length_replicate]; omega) | (simp; omega))) rfl rfl rfl rfl ht⟩,
          ⟨⟨rfl, rfl, fun _ τ hb ht hτ => R.bin (evt (hτ 67 _ rfl)) (evt (hτ 70 _ rfl)) rfl trivial ht⟩,
          ⟨⟨rfl, rfl, fun _ τ hb ht hτ => R.bin (evt (hτ 65 _ rfl)) (evt (hτ 71 _ rfl)) rfl trivial ht⟩,
          ⟨⟨rfl, rfl, fun _ τ hb ht hτ => R.bin (evt (hτ 60 _ rfl)) (evt (hτ 72 _ rfl)) rfl trivial ht⟩,
          ⟨⟨rfl, rfl, fun _ τ hb ht hτ => R.al (hτ 5 _ rfl) ht (by decide)⟩,
          ⟨⟨rfl, rfl, fun _ τ hb ht hτ => R.mov (evt (hτ 9 _ rfl)) rfl ht⟩,
          ⟨⟨rfl, rfl, fun _ τ hb ht hτ => R.idxN (t) (SC.al (hτ 74 _ rfl) (hτ 5 _ rfl)) (evoI (evt (hτ 75 _ rfl))) rfl (by first | omega | (simp only [List.length_map, List.length_append, List.length_cons, List.length_nil, List.length_take, List.length_drop, List.length_replicate]; omega) | (simp; omega)) ht (by decide)⟩,
          ⟨⟨rfl, rfl, fun _ τ hb ht hτ => R.ldE (hτ 76 _ rfl) (SC.al (hτ 74 _ rfl) (hτ 5 _ rfl)) (map_get! (l := kTab) (by first | omega | (simp only [List.length_map, List.length_append, List.length_cons, List.length_nil, List.length_take, List.length_drop, List.length_replicate]; omega) | (simp; omega))) rfl rfl rfl rfl ht⟩,
          ⟨⟨rfl, rfl, fun _ τ hb ht hτ => R.bin (evt (hτ 73 _ rfl)) (evt (hτ 77 _ rfl)) rfl trivial ht⟩,
          ⟨⟨rfl, rfl, fun _ τ hb ht hτ => R.al (hτ 7 _ rfl) ht (by decide)⟩,
          ⟨⟨rfl, rfl, fun _ τ hb ht hτ => R.mov (evt (hτ 9 _ rfl)) rfl ht⟩,
          ⟨⟨rfl, rfl, fun _ τ hb ht hτ => R.idxN (t) (SC.al (hτ 79 _ rfl) (hτ 7 _ rfl)) (evoI (evt (hτ 80 _ rfl))) rfl (by first | omega | (simp only [List.length_map, List.length_append, List.length_cons, List.length_nil, List.length_take, List.length_drop, List.length_replicate]; omega) | (simp; omega)) ht (by decide)⟩,
          ⟨⟨rfl, rfl, fun _ τ hb ht hτ => R.ldE (hτ 81 _ rfl) (SC.al (hτ 79 _ rfl) (hτ 7 _ rfl)) (map_get! (l := (wR (((textR b).drop (64 * m)).take 64) 64)) (by first | omega | (simp only [List.length_map, List.length_append, List.length_cons, List.length_nil, List.length_take, List.length_drop, List.length_replicate]; omega) | (simp; omega))) rfl rfl rfl rfl ht⟩,
          ⟨⟨rfl, rfl, fun _ τ hb ht hτ => R.bin (evt (hτ 78 _ rfl)) (evt (hτ 82 _ rfl)) rfl trivial ht⟩,
          ⟨⟨rfl, rfl, fun _ τ hb ht hτ => R.asg (evt (hτ 83 _ rfl)) rfl ht⟩,
          trivial⟩⟩⟩⟩⟩⟩⟩⟩⟩⟩⟩⟩⟩⟩⟩⟩⟩⟩⟩⟩⟩⟩⟩⟩⟩⟩⟩⟩⟩, rfl, rfl, rfl⟩)
        rfl (bx' := [(2, .var _)]) rfl (n' := 171) rfl (⟨[2, 3, 4, 5, 6, 7, 8, 9, 10, 11, 13], [(2, _), (3, _), (4, _), (5, _), (6, _), (7, _), (8, _), (9, _), (10, _), (11, _), (13, _)], [(2, .var _)], 171, rfl, rfl, rfl, ?_⟩)
      refine W.seq ?_
      refine W.line (n := 9) (by decide) (its := [⟨84, _, true⟩, ⟨85, _, true⟩, ⟨86, _, true⟩, ⟨87, _, true⟩, ⟨88, _, true⟩, ⟨89, _, true⟩, ⟨90, _, true⟩, ⟨91, _, true⟩, ⟨14, _, true⟩]) (ks := []) (kk := []) (live := [2, 3, 4, 5, 6, 7, 8, 9, 10, 11, 13, 14]) (env' := [(2, _), (3, _), (4, _), (5, _), (6, _), (7, _), (8, _), (9, _), (10, _), (11, _), (13, _), (14, _)])
        (⟨Nat.le_of_ble_eq_true rfl, rfl,
          ⟨⟨rfl, rfl, fun _ τ hb ht hτ => R.mov (evt (hτ 10 _ rfl)) rfl ht⟩,
          ⟨⟨rfl, rfl, fun _ τ hb ht hτ => R.callG hC (rright_ok _ _) (Bors.cons (Bor.pur (evt (hτ 84 _ rfl)) rfl rfl) (Bors.cons (Bor.pur (show ev _ _ (.const (.int .u64 2)) = some (.u64 2) from rfl) rfl rfl) Bors.nil)) (FrsR.one (.u32 _)) ht⟩,
          ⟨⟨rfl, rfl, fun _ τ hb ht hτ => R.mov (evt (hτ 10 _ rfl)) rfl ht⟩,
          ⟨⟨rfl, rfl, fun _ τ hb ht hτ => R.callG hC (rright_ok _ _) (Bors.cons (Bor.pur (evt (hτ 86 _ rfl)) rfl rfl) (Bors.cons (Bor.pur (show ev _ _ (.const (.int .u64 13)) = some (.u64 13) from rfl) rfl rfl) Bors.nil)) (FrsR.one (.u32 _)) ht⟩,
          ⟨⟨rfl, rfl, fun _ τ hb ht hτ => R.bin (evt (hτ 85 _ rfl)) (evt (hτ 87 _ rfl)) rfl trivial ht⟩,
          ⟨⟨rfl, rfl, fun _ τ hb ht hτ => R.mov (evt (hτ 10 _ rfl)) rfl ht⟩,
          ⟨⟨rfl, rfl, fun _ τ hb ht hτ => R.callG hC (rright_ok _ _) (Bors.cons (Bor.pur (evt (hτ 89 _ rfl)) rfl rfl) (Bors.cons (Bor.pur (show ev _ _ (.const (.int .u64 22)) = some (.u64 22) from rfl) rfl rfl) Bors.nil)) (FrsR.one (.u32 _)) ht⟩,
          ⟨⟨rfl, rfl, fun _ τ hb ht hτ => R.bin (evt (hτ 88 _ rfl)) (evt (hτ 90 _ rfl)) rfl trivial ht⟩,
          ⟨⟨rfl, rfl, fun _ τ hb ht hτ => R.asg (evt (hτ 91 _ rfl)) rfl ht⟩,
          trivial⟩⟩⟩⟩⟩⟩⟩⟩⟩, rfl, rfl, rfl⟩)
        rfl (bx' := [(2, .var _)]) rfl (n' := 171) rfl (⟨[2, 3, 4, 5, 6, 7, 8, 9, 10, 11, 13, 14], [(2, _), (3, _), (4, _), (5, _), (6, _), (7, _), (8, _), (9, _), (10, _), (11, _), (13, _), (14, _)], [(2, .var _)], 171, rfl, rfl, rfl, ?_⟩)
      refine W.seq ?_
      refine W.draw (m := 22) (an := [0, 0, 0, 4, 12, 30, 0, 0, 128, 384, 960, 2046, 0, 4096, 12288, 0, 32768, 98304, 258048, 524286, 1048575, 2097151]) hP (by decide) rfl (its := [⟨92, _, true⟩, ⟨93, _, true⟩, ⟨94, _, true⟩, ⟨95, _, true⟩, ⟨96, _, true⟩, ⟨97, _, true⟩, ⟨98, _, true⟩, ⟨99, _, true⟩, ⟨100, _, true⟩, ⟨101, _, true⟩, ⟨102, _, true⟩, ⟨103, _, true⟩, ⟨104, _, true⟩, ⟨105, _, true⟩, ⟨106, _, true⟩, ⟨107, _, true⟩, ⟨108, _, true⟩, ⟨109, _, true⟩, ⟨110, _, true⟩, ⟨111, _, true⟩, ⟨112, _, true⟩, ⟨15, _, true⟩]) (ks := []) (kk := []) (live := [2, 3, 4, 5, 6, 7, 8, 9, 10, 11, 13, 15]) (env' := [(2, _), (3, _), (4, _), (5, _), (6, _), (7, _), (8, _), (9, _), (10, _), (11, _), (13, _), (15, _)])
        (⟨Nat.le_of_ble_eq_true rfl, rfl,
          ⟨⟨rfl, rfl, fun _ τ hb ht hτ => R.mov (evt (hτ 14 _ rfl)) rfl ht⟩,
          ⟨⟨rfl, rfl, fun _ τ hb ht hτ => R.mov (evt (hτ 10 _ rfl)) rfl ht⟩,
          ⟨⟨rfl, rfl, fun _ τ hb ht hτ => R.al (hτ 8 _ rfl) ht (by decide)⟩,
          ⟨⟨rfl, rfl, fun _ τ hb ht hτ => R.idxN (1) (SC.al (hτ 94 _ rfl) (hτ 8 _ rfl)) (evoI (show ev _ _ (.const (.int .i64 1)) = some (.int ((1 : Nat) : Int)) from rfl)) rfl (by first | omega | (simp only [List.length_map, List.length_append, List.length_cons, List.length_nil, List.length_take, List.length_drop, List.length_replicate]; omega) | (simp; omega)) ht (by decide)⟩,
          ⟨⟨rfl, rfl, fun _ τ hb ht hτ => R.ldE (hτ 95 _ rfl) (SC.al (hτ 94 _ rfl) (hτ 8 _ rfl)) (map_get! (l := (rdsR (hR (textR b) m) (wR (((textR b).drop (64 * m)).take 64) 64) t)) (by first | omega | (simp only [List.length_map, List.length_append, List.length_cons, List.length_nil, List.length_take, List.length_drop, List.length_replicate]; omega) | (simp; omega))) rfl rfl rfl rfl ht⟩,
          ⟨⟨rfl, rfl, fun _ τ hb ht hτ => R.bin (evt (hτ 93 _ rfl)) (evt (hτ 96 _ rfl)) rfl trivial ht⟩,
          ⟨⟨rfl, rfl, fun _ τ hb ht hτ => R.mov (evt (hτ 10 _ rfl)) rfl ht⟩,
          ⟨⟨rfl, rfl, fun _ τ hb ht hτ => R.al (hτ 8 _ rfl) ht (by decide)⟩,
          ⟨⟨rfl, rfl, fun _ τ hb ht hτ => R.idxN (2) (SC.al (hτ 99 _ rfl) (hτ 8 _ rfl)) (evoI (show ev _ _ (.const (.int .i64 2)) = some (.int ((2 : Nat) : Int)) from rfl)) rfl (by first | omega | (simp only [List.length_map, List.length_append, List.length_cons, List.length_nil, List.length_take, List.length_drop, List.length_replicate]; omega) | (simp; omega)) ht (by decide)⟩,
          ⟨⟨rfl, rfl, fun _ τ hb ht hτ => R.ldE (hτ 100 _ rfl) (SC.al (hτ 99 _ rfl) (hτ 8 _ rfl)) (map_get! (l := (rdsR (hR (textR b) m) (wR (((textR b).drop (64 * m)).take 64) 64) t)) (by first | omega | (simp only [List.length_map, List.length_append, List.length_cons, List.length_nil, List.length_take, List.length_drop, List.length_replicate]; omega) | (simp; omega))) rfl rfl rfl rfl ht⟩,
          ⟨⟨rfl, rfl, fun _ τ hb ht hτ => R.bin (evt (hτ 98 _ rfl)) (evt (hτ 101 _ rfl)) rfl trivial ht⟩,
          ⟨⟨rfl, rfl, fun _ τ hb ht hτ => R.bin (evt (hτ 97 _ rfl)) (evt (hτ 102 _ rfl)) rfl trivial ht⟩,
          ⟨⟨rfl, rfl, fun _ τ hb ht hτ => R.al (hτ 8 _ rfl) ht (by decide)⟩,
          ⟨⟨rfl, rfl, fun _ τ hb ht hτ => R.idxN (1) (SC.al (hτ 104 _ rfl) (hτ 8 _ rfl)) (evoI (show ev _ _ (.const (.int .i64 1)) = some (.int ((1 : Nat) : Int)) from rfl)) rfl (by first | omega | (simp only [List.length_map, List.length_append, List.length_cons, List.length_nil, List.length_take, List.length_drop, List.length_replicate]; omega) | (simp; omega)) ht (by decide)⟩,
          ⟨⟨rfl, rfl, fun _ τ hb ht hτ => R.ldE (hτ 105 _ rfl) (SC.al (hτ 104 _ rfl) (hτ 8 _ rfl)) (map_get! (l := (rdsR (hR (textR b) m) (wR (((textR b).drop (64 * m)).take 64) 64) t)) (by first | omega | (simp only [List.length_map, List.length_append, List.length_cons, List.length_nil, List.length_take, List.length_drop, List.length_replicate]; omega) | (simp; omega))) rfl rfl rfl rfl ht⟩,
          ⟨⟨rfl, rfl, fun _ τ hb ht hτ => R.al (hτ 8 _ rfl) ht (by decide)⟩,
          ⟨⟨rfl, rfl, fun _ τ hb ht hτ => R.idxN (2) (SC.al (hτ 107 _ rfl) (hτ 8 _ rfl)) (evoI (show ev _ _ (.const (.int .i64 2)) = some (.int ((2 : Nat) : Int)) from rfl)) rfl (by first | omega | (simp only [List.length_map, List.length_append, List.length_cons, List.length_nil, List.length_take, List.length_drop, List.length_replicate]; omega) | (simp; omega)) ht (by decide)⟩,
          ⟨⟨rfl, rfl, fun _ τ hb ht hτ => R.ldE (hτ 108 _ rfl) (SC.al (hτ 107 _ rfl) (hτ 8 _ rfl)) (map_get! (l := (rdsR (hR (textR b) m) (wR (((textR b).drop (64 * m)).take 64) 64) t)) (by first | omega | (simp only [List.length_map, List.length_append, List.length_cons, List.length_nil, List.length_take, List.length_drop, List.length_replicate]; omega) | (simp; omega))) rfl rfl rfl rfl ht⟩,
          ⟨⟨rfl, rfl, fun _ τ hb ht hτ => R.bin (evt (hτ 106 _ rfl)) (evt (hτ 109 _ rfl)) rfl trivial ht⟩,
          ⟨⟨rfl, rfl, fun _ τ hb ht hτ => R.bin (evt (hτ 103 _ rfl)) (evt (hτ 110 _ rfl)) rfl trivial ht⟩,
          ⟨⟨rfl, rfl, fun _ τ hb ht hτ => R.bin (evt (hτ 92 _ rfl)) (evt (hτ 111 _ rfl)) rfl trivial ht⟩,
          ⟨⟨rfl, rfl, fun _ τ hb ht hτ => R.asg (evt (hτ 112 _ rfl)) rfl ht⟩,
          trivial⟩⟩⟩⟩⟩⟩⟩⟩⟩⟩⟩⟩⟩⟩⟩⟩⟩⟩⟩⟩⟩⟩, rfl, rfl, rfl⟩)
        rfl (bx' := [(2, .var _)]) rfl (n' := 171) rfl (⟨[2, 3, 4, 5, 6, 7, 8, 9, 10, 11, 13, 15], [(2, _), (3, _), (4, _), (5, _), (6, _), (7, _), (8, _), (9, _), (10, _), (11, _), (13, _), (15, _)], [(2, .var _)], 171, rfl, rfl, rfl, ?_⟩)
      refine W.draw (m := 24) (an := [0, 0, 3, 0, 0, 16, 48, 0, 128, 384, 0, 1024, 3072, 0, 15360, 0, 0, 65536, 196608, 0, 524288, 1572864, 4194303, 8388607]) hP (by decide) rfl (its := [⟨113, _, true⟩, ⟨114, _, true⟩, ⟨115, _, true⟩, ⟨116, _, true⟩, ⟨117, _, true⟩, ⟨118, _, true⟩, ⟨119, _, true⟩, ⟨120, _, true⟩, ⟨121, _, true⟩, ⟨122, _, true⟩, ⟨123, _, true⟩, ⟨124, _, true⟩, ⟨125, _, true⟩, ⟨126, _, true⟩, ⟨127, _, true⟩, ⟨128, _, true⟩, ⟨129, _, true⟩, ⟨130, _, true⟩, ⟨131, _, true⟩, ⟨132, _, true⟩, ⟨133, _, true⟩, ⟨134, _, true⟩, ⟨135, _, true⟩, ⟨8, _, true⟩]) (ks := [(23, 135), (23, 117), (23, 120), (23, 123), (23, 129), (23, 132)]) (kk := [(23, 135)]) (live := [2, 3, 4, 5, 6, 7, 8, 9]) (env' := [(2, _), (3, _), (4, _), (5, _), (6, _), (7, _), (8, _), (9, _)])
        (⟨Nat.le_of_ble_eq_true rfl, rfl,
          ⟨⟨rfl, rfl, fun _ τ hb ht hτ => R.mov (evt (hτ 13 _ rfl)) rfl ht⟩,
          ⟨⟨rfl, rfl, fun _ τ hb ht hτ => R.mov (evt (hτ 15 _ rfl)) rfl ht⟩,
          ⟨⟨rfl, rfl, fun _ τ hb ht hτ => R.bin (evt (hτ 113 _ rfl)) (evt (hτ 114 _ rfl)) rfl trivial ht⟩,
          ⟨⟨rfl, rfl, fun _ τ hb ht hτ => R.mov (evt (hτ 10 _ rfl)) rfl ht⟩,
          ⟨⟨rfl, rfl, fun _ τ hb ht hτ => R.al (hτ 8 _ rfl) ht (by decide)⟩,
          ⟨⟨rfl, rfl, fun _ τ hb ht hτ => R.idxN (1) (SC.al (hτ 117 _ rfl) (hτ 8 _ rfl)) (evoI (show ev _ _ (.const (.int .i64 1)) = some (.int ((1 : Nat) : Int)) from rfl)) rfl (by first | omega | (simp only [List.length_map, List.length_append, List.length_cons, List.length_nil, List.length_take, List.length_drop, List.length_replicate]; omega) | (simp; omega)) ht (by decide)⟩,
          ⟨⟨rfl, rfl, fun _ τ hb ht hτ => R.ldE (hτ 118 _ rfl) (SC.al (hτ 117 _ rfl) (hτ 8 _ rfl)) (map_get! (l := (rdsR (hR (textR b) m) (wR (((textR b).drop (64 * m)).take 64) 64) t)) (by first | omega | (simp only [List.length_map, List.length_append, List.length_cons, List.length_nil, List.length_take, List.length_drop, List.length_replicate]; omega) | (simp; omega))) rfl rfl rfl rfl ht⟩,
          ⟨⟨rfl, rfl, fun _ τ hb ht hτ => R.al (hτ 8 _ rfl) ht (by decide)⟩,
          ⟨⟨rfl, rfl, fun _ τ hb ht hτ => R.idxN (2) (SC.al (hτ 120 _ rfl) (hτ 8 _ rfl)) (evoI (show ev _ _ (.const (.int .i64 2)) = some (.int ((2 : Nat) : Int)) from rfl)) rfl (by first | omega | (simp only [List.length_map, List.length_append, List.length_cons, List.length_nil, List.length_take, List.length_drop, List.length_replicate]; omega) | (simp; omega)) ht (by decide)⟩,
          ⟨⟨rfl, rfl, fun _ τ hb ht hτ => R.ldE (hτ 121 _ rfl) (SC.al (hτ 120 _ rfl) (hτ 8 _ rfl)) (map_get! (l := (rdsR (hR (textR b) m) (wR (((textR b).drop (64 * m)).take 64) 64) t)) (by first | omega | (simp only [List.length_map, List.length_append, List.length_cons, List.length_nil, List.length_take, List.length_drop, List.length_replicate]; omega) | (simp; omega))) rfl rfl rfl rfl ht⟩,
          ⟨⟨rfl, rfl, fun _ τ hb ht hτ => R.al (hτ 8 _ rfl) ht (by decide)⟩,
          ⟨⟨rfl, rfl, fun _ τ hb ht hτ => R.idxN (3) (SC.al (hτ 123 _ rfl) (hτ 8 _ rfl)) (evoI (show ev _ _ (.const (.int .i64 3)) = some (.int ((3 : Nat) : Int)) from rfl)) rfl (by first | omega | (simp only [List.length_map, List.length_append, List.length_cons, List.length_nil, List.length_take, List.length_drop, List.length_replicate]; omega) | (simp; omega)) ht (by decide)⟩,
          ⟨⟨rfl, rfl, fun _ τ hb ht hτ => R.ldE (hτ 124 _ rfl) (SC.al (hτ 123 _ rfl) (hτ 8 _ rfl)) (map_get! (l := (rdsR (hR (textR b) m) (wR (((textR b).drop (64 * m)).take 64) 64) t)) (by first | omega | (simp only [List.length_map, List.length_append, List.length_cons, List.length_nil, List.length_take, List.length_drop, List.length_replicate]; omega) | (simp; omega))) rfl rfl rfl rfl ht⟩,
          ⟨⟨rfl, rfl, fun _ τ hb ht hτ => R.mov (evt (hτ 13 _ rfl)) rfl ht⟩,
          ⟨⟨rfl, rfl, fun _ τ hb ht hτ => R.bin (evt (hτ 125 _ rfl)) (evt (hτ 126 _ rfl)) rfl trivial ht⟩,
          ⟨⟨rfl, rfl, fun _ τ hb ht hτ => R.mov (evt (hτ 11 _ rfl)) rfl ht⟩,
          ⟨⟨rfl, rfl, fun _ τ hb ht hτ => R.al (hτ 8 _ rfl) ht (by decide)⟩,
          ⟨⟨rfl, rfl, fun _ τ hb ht hτ => R.idxN (5) (SC.al (hτ 129 _ rfl) (hτ 8 _ rfl)) (evoI (show ev _ _ (.const (.int .i64 5)) = some (.int ((5 : Nat) : Int)) from rfl)) rfl (by first | omega | (simp only [List.length_map, List.length_append, List.length_cons, List.length_nil, List.length_take, List.length_drop, List.length_replicate]; omega) | (simp; omega)) ht (by decide)⟩,
          ⟨⟨rfl, rfl, fun _ τ hb ht hτ => R.ldE (hτ 130 _ rfl) (SC.al (hτ 129 _ rfl) (hτ 8 _ rfl)) (map_get! (l := (rdsR (hR (textR b) m) (wR (((textR b).drop (64 * m)).take 64) 64) t)) (by first | omega | (simp only [List.length_map, List.length_append, List.length_cons, List.length_nil, List.length_take, List.length_drop, List.length_replicate]; omega) | (simp; omega))) rfl rfl rfl rfl ht⟩,
          ⟨⟨rfl, rfl, fun _ τ hb ht hτ => R.al (hτ 8 _ rfl) ht (by decide)⟩,
          ⟨⟨rfl, rfl, fun _ τ hb ht hτ => R.idxN (6) (SC.al (hτ 132 _ rfl) (hτ 8 _ rfl)) (evoI (show ev _ _ (.const (.int .i64 6)) = some (.int ((6 : Nat) : Int)) from rfl)) rfl (by first | omega | (simp only [List.length_map, List.length_append, List.length_cons, List.length_nil, List.length_take, List.length_drop, List.length_replicate]; omega) | (simp; omega)) ht (by decide)⟩,
          ⟨⟨rfl, rfl, fun _ τ hb ht hτ => R.ldE (hτ 133 _ rfl) (SC.al (hτ 132 _ rfl) (hτ 8 _ rfl)) (map_get! (l := (rdsR (hR (textR b) m) (wR (((textR b).drop (64 * m)).take 64) 64) t)) (by first | omega | (simp only [List.length_map, List.length_append, List.length_cons, List.length_nil, List.length_take, List.length_drop, List.length_replicate]; omega) | (simp; omega))) rfl rfl rfl rfl ht⟩,
          ⟨⟨rfl, rfl, fun _ τ hb ht hτ => R.bslE (z := 1) (.cons (evt (hτ 115 _ rfl)) (.cons (evt (hτ 116 _ rfl)) (.cons (evt (hτ 119 _ rfl)) (.cons (evt (hτ 122 _ rfl)) (.cons (evt (hτ 127 _ rfl)) (.cons (evt (hτ 128 _ rfl)) (.cons (evt (hτ 131 _ rfl)) (.cons (evt (hτ 134 _ rfl)) .nil)))))))) ⟨⟨rfl, rfl, rfl⟩, ⟨⟨rfl, rfl, rfl⟩, ⟨⟨rfl, rfl, rfl⟩, ⟨⟨rfl, rfl, rfl⟩, ⟨⟨rfl, rfl, rfl⟩, ⟨⟨rfl, rfl, rfl⟩, ⟨⟨rfl, rfl, rfl⟩, ⟨⟨rfl, rfl, rfl⟩, trivial⟩⟩⟩⟩⟩⟩⟩⟩ rfl ht (by decide)⟩,
          ⟨⟨rfl, rfl, fun _ τ hb ht hτ => R.asgO (hτ 135 _ rfl) rfl ht (by decide)⟩,
          trivial⟩⟩⟩⟩⟩⟩⟩⟩⟩⟩⟩⟩⟩⟩⟩⟩⟩⟩⟩⟩⟩⟩⟩⟩, rfl, rfl, rfl⟩)
        rfl (bx' := [(2, .var _)]) rfl (n' := 171) rfl (⟨[2, 3, 4, 5, 6, 7, 8, 9], [(2, _), (3, _), (4, _), (5, _), (6, _), (7, _), (8, _), (9, _)], [(2, .var _)], 171, rfl, rfl, rfl, ?_⟩)
      refine W.line (n := 3) (by decide) (its := [⟨40, _, true⟩, ⟨41, _, true⟩, ⟨9, _, true⟩]) (ks := []) (kk := []) (live := [2, 3, 4, 5, 6, 7, 8, 9]) (env' := [(2, _), (3, _), (4, _), (5, _), (6, _), (7, _), (8, _), (9, _)])
        (⟨Nat.le_of_ble_eq_true rfl, rfl,
          ⟨⟨rfl, rfl, fun _ τ hb ht hτ => R.mov (evt (hτ 9 _ rfl)) rfl ht⟩,
          ⟨⟨rfl, rfl, fun _ τ hb ht hτ => R.addN (t) (1) (evt (hτ 40 _ rfl)) (show ev _ _ (.const (.int .i64 1)) = some (.int ((1 : Nat) : Int)) from rfl) (by first | omega | (simp only [List.length_map, List.length_append, List.length_cons, List.length_nil, List.length_take, List.length_drop, List.length_replicate]; omega) | (simp; omega)) ht⟩,
          ⟨⟨rfl, rfl, fun _ τ hb ht hτ => R.asg (evt (hτ 41 _ rfl)) rfl ht⟩,
          trivial⟩⟩⟩, rfl, rfl, rfl⟩)
        rfl (bx' := [(2, .var _)]) rfl (n' := 171) rfl (⟨[2, 3, 4, 5, 6, 7, 8, 9], [(2, _), (3, _), (4, _), (5, _), (6, _), (7, _), (8, _), (9, _)], [(2, .var _)], 171, rfl, rfl, rfl, ?_⟩)
      exact ⟨⟨(t + 1), (by first | omega | (simp only [List.length_map, List.length_append, List.length_cons, List.length_nil, List.length_take, List.length_drop, List.length_replicate]; omega) | (simp; omega))⟩, rfl, (by simp only []; omega)⟩
    · obtain rfl : t = 64 := by omega
      refine W.exit ?_
      refine W.seq ?_
      refine W.line (n := 1) (by decide) (its := [⟨16, _, true⟩]) (ks := []) (kk := []) (live := [2, 3, 4, 5, 6, 8, 16]) (env' := [(2, _), (3, _), (4, _), (5, _), (6, _), (8, _), (16, _)])
        (⟨Nat.le_of_ble_eq_true rfl, rfl,
          ⟨⟨rfl, rfl, fun _ τ hb ht hτ => R.asg (show ev _ _ (.const (.int .i64 0)) = some (.int ((0 : Nat) : Int)) from rfl) rfl ht⟩,
          trivial⟩, rfl, rfl, rfl⟩)
        rfl (bx' := [(2, .var _)]) rfl (n' := 171) rfl (⟨[2, 3, 4, 5, 6, 8, 16], [(2, _), (3, _), (4, _), (5, _), (6, _), (8, _), (16, _)], [(2, .var _)], 171, rfl, rfl, rfl, ?_⟩)
      refine W.block ?_
      refine W.loop (α := {q__ : Nat // q__ ≤ 8}) (fun q__ => ⟨171, [(2, .ptr 2 0 []), (3, .sl (some 22) 1 ((addH (hR (textR b) m) (rdsR (hR (textR b) m) (wR (((textR b).drop (64 * m)).take 64) 64) 64) q__.1).map D.u32)), (4, .sl (some 5) 1 ((textR b).map D.u8)), (5, .sl (some 22) 1 (kTab.map D.u32)), (6, .int ((64 * m : Nat) : Int)), (8, .sl (some 22) 1 ((rdsR (hR (textR b) m) (wR (((textR b).drop (64 * m)).take 64) 64) 64).map D.u32)), (16, .int ((q__.1 : Nat) : Int))], [(2, .var (hashD (List.replicate 32 0)))]⟩) (fun q__ => 8 - q__.1) ⟨(0), (by first | omega | (simp only [List.length_map, List.length_append, List.length_cons, List.length_nil, List.length_take, List.length_drop, List.length_replicate]; omega) | (simp; omega))⟩ rfl ?_
      rintro ⟨i, hi⟩
      show W _ _ _ _ ⟨171, [(2, .ptr 2 0 []), (3, .sl (some 22) 1 ((addH (hR (textR b) m) (rdsR (hR (textR b) m) (wR (((textR b).drop (64 * m)).take 64) 64) 64) i).map D.u32)), (4, .sl (some 5) 1 ((textR b).map D.u8)), (5, .sl (some 22) 1 (kTab.map D.u32)), (6, .int ((64 * m : Nat) : Int)), (8, .sl (some 22) 1 ((rdsR (hR (textR b) m) (wR (((textR b).drop (64 * m)).take 64) 64) 64).map D.u32)), (16, .int ((i : Nat) : Int))], [(2, .var (hashD (List.replicate 32 0)))]⟩
      have hal := addH_len (hR (textR b) m) (rdsR (hR (textR b) m) (wR (((textR b).drop (64 * m)).take 64) 64) 64) i
      refine W.seq ?_
      refine W.seq ?_
      refine W.line (n := 2) (by decide) (its := [⟨136, _, true⟩, ⟨137, _, true⟩]) (ks := []) (kk := []) (live := [2, 3, 4, 5, 6, 8, 16, 137]) (env' := [(2, _), (3, _), (4, _), (5, _), (6, _), (8, _), (16, _), (137, _)])
        (⟨Nat.le_of_ble_eq_true rfl, rfl,
          ⟨⟨rfl, rfl, fun _ τ hb ht hτ => R.mov (evt (hτ 16 _ rfl)) rfl ht⟩,
          ⟨⟨rfl, rfl, fun _ τ hb ht hτ => R.lssN (i) (8) (evt (hτ 136 _ rfl)) (show ev _ _ (.const (.int .i64 8)) = some (.int ((8 : Nat) : Int)) from rfl) ht⟩,
          trivial⟩⟩, rfl, rfl, rfl⟩)
        rfl (bx' := [(2, .var _)]) rfl (n' := 171) rfl (⟨[2, 3, 4, 5, 6, 8, 16, 137], [(2, _), (3, _), (4, _), (5, _), (6, _), (8, _), (16, _), (137, _)], [(2, .var _)], 171, rfl, rfl, rfl, ?_⟩)
      refine W.condD rfl (fun hc137 => ?_) (fun hc137 => ?_)
      · refine W.skip ?_
        refine W.seq ?_
        refine W.block ?_
        refine W.draw (m := 12) (an := [0, 0, 0, 0, 12, 28, 0, 0, 192, 448, 1020, 2047, 4095]) hP (by decide) rfl (its := [⟨140, _, true⟩, ⟨141, _, true⟩, ⟨142, _, true⟩, ⟨143, _, true⟩, ⟨144, _, true⟩, ⟨145, _, true⟩, ⟨146, _, true⟩, ⟨147, _, true⟩, ⟨148, _, true⟩, ⟨149, _, true⟩, ⟨150, _, true⟩, ⟨151, _, true⟩]) (ks := []) (kk := []) (live := [2, 3, 4, 5, 6, 8, 16, 140, 150, 151]) (env' := [(2, _), (3, _), (4, _), (5, _), (6, _), (8, _), (16, _), (140, _), (150, _), (151, _)])
          (⟨Nat.le_of_ble_eq_true rfl, rfl,
            ⟨⟨rfl, rfl, fun _ τ hb ht hτ => R.al (hτ 3 _ rfl) ht (by decide)⟩,
            ⟨⟨rfl, rfl, fun _ τ hb ht hτ => R.mov (evt (hτ 16 _ rfl)) rfl ht⟩,
            ⟨⟨rfl, rfl, fun _ τ hb ht hτ => R.al (hτ 3 _ rfl) ht (by decide)⟩,
            ⟨⟨rfl, rfl, fun _ τ hb ht hτ => R.mov (evt (hτ 16 _ rfl)) rfl ht⟩,
            ⟨⟨rfl, rfl, fun _ τ hb ht hτ => R.idxN (i) (SC.al (hτ 142 _ rfl) (hτ 3 _ rfl)) (evoI (evt (hτ 143 _ rfl))) rfl (by first | omega | (simp only [List.length_map, List.length_append, List.length_cons, List.length_nil, List.length_take, List.length_drop, List.length_replicate]; omega) | (simp; omega)) ht (by decide)⟩,
            ⟨⟨rfl, rfl, fun _ τ hb ht hτ => R.ldE (hτ 144 _ rfl) (SC.al (hτ 142 _ rfl) (hτ 3 _ rfl)) (map_get! (l := (addH (hR (textR b) m) (rdsR (hR (textR b) m) (wR (((textR b).drop (64 * m)).take 64) 64) 64) i)) (by first | omega | (simp only [List.length_map, List.length_append, List.length_cons, List.length_nil, List.length_take, List.length_drop, List.length_replicate]; omega) | (simp; omega))) rfl rfl rfl rfl ht⟩,
            ⟨⟨rfl, rfl, fun _ τ hb ht hτ => R.al (hτ 8 _ rfl) ht (by decide)⟩,
            ⟨⟨rfl, rfl, fun _ τ hb ht hτ => R.mov (evt (hτ 16 _ rfl)) rfl ht⟩,
            ⟨⟨rfl, rfl, fun _ τ hb ht hτ => R.idxN (i) (SC.al (hτ 146 _ rfl) (hτ 8 _ rfl)) (evoI (evt (hτ 147 _ rfl))) rfl (by first | omega | (simp only [List.length_map, List.length_append, List.length_cons, List.length_nil, List.length_take, List.length_drop, List.length_replicate]; omega) | (simp; omega)) ht (by decide)⟩,
            ⟨⟨rfl, rfl, fun _ τ hb ht hτ => R.ldE (hτ 148 _ rfl) (SC.al (hτ 146 _ rfl) (hτ 8 _ rfl)) (map_get! (l := (rdsR (hR (textR b) m) (wR (((textR b).drop (64 * m)).take 64) 64) 64)) (by first | omega | (simp only [List.length_map, List.length_append, List.length_cons, List.length_nil, List.length_take, List.length_drop, List.length_replicate]; omega) | (simp; omega))) rfl rfl rfl rfl ht⟩,
            ⟨⟨rfl, rfl, fun _ τ hb ht hτ => R.bin (evt (hτ 145 _ rfl)) (evt (hτ 149 _ rfl)) rfl trivial ht⟩,
            ⟨⟨rfl, rfl, fun _ τ hb ht hτ => R.idxN (i) (SC.al (hτ 140 _ rfl) (hτ 3 _ rfl)) (evoI (evt (hτ 141 _ rfl))) rfl (by first | omega | (simp only [List.length_map, List.length_append, List.length_cons, List.length_nil, List.length_take, List.length_drop, List.length_replicate]; omega) | (simp; omega)) ht (by decide)⟩,
            trivial⟩⟩⟩⟩⟩⟩⟩⟩⟩⟩⟩⟩, rfl, rfl, rfl⟩)
          rfl (bx' := [(2, .var _)]) rfl (n' := 171) rfl (⟨rfl, _, R.stEY (show Sg.get _ 151 = some _ from rfl) (Or.inr (show Sg.get _ 140 = some _ from rfl)) (show Sg.get _ 3 = some _ from rfl) (map_get! (l := (addH (hR (textR b) m) (rdsR (hR (textR b) m) (wR (((textR b).drop (64 * m)).take 64) 64) 64) i)) (by first | omega | (simp only [List.length_map, List.length_append, List.length_cons, List.length_nil, List.length_take, List.length_drop, List.length_replicate]; omega) | (simp; omega))) rfl (evt (show Sg.get _ 150 = some _ from rfl)) (by rfl) (by rfl) (by rfl) (by rfl) upd_nil set_map, ⟨[2, 3, 4, 5, 6, 8, 16], [(2, _), (3, _), (4, _), (5, _), (6, _), (8, _), (16, _)], [(2, .var _)], 171, rfl, rfl, rfl, ?_⟩⟩)
        refine W.line (n := 3) (by decide) (its := [⟨138, _, true⟩, ⟨139, _, true⟩, ⟨16, _, true⟩]) (ks := []) (kk := []) (live := [2, 3, 4, 5, 6, 8, 16]) (env' := [(2, _), (3, _), (4, _), (5, _), (6, _), (8, _), (16, _)])
          (⟨Nat.le_of_ble_eq_true rfl, rfl,
            ⟨⟨rfl, rfl, fun _ τ hb ht hτ => R.mov (evt (hτ 16 _ rfl)) rfl ht⟩,
            ⟨⟨rfl, rfl, fun _ τ hb ht hτ => R.addN (i) (1) (evt (hτ 138 _ rfl)) (show ev _ _ (.const (.int .i64 1)) = some (.int ((1 : Nat) : Int)) from rfl) (by first | omega | (simp only [List.length_map, List.length_append, List.length_cons, List.length_nil, List.length_take, List.length_drop, List.length_replicate]; omega) | (simp; omega)) ht⟩,
            ⟨⟨rfl, rfl, fun _ τ hb ht hτ => R.asg (evt (hτ 139 _ rfl)) rfl ht⟩,
            trivial⟩⟩⟩, rfl, rfl, rfl⟩)
          rfl (bx' := [(2, .var _)]) rfl (n' := 171) rfl (⟨[2, 3, 4, 5, 6, 8, 16], [(2, _), (3, _), (4, _), (5, _), (6, _), (8, _), (16, _)], [(2, .var _)], 171, rfl, rfl, rfl, ?_⟩)
        exact ⟨⟨(i + 1), (by first | omega | (simp only [List.length_map, List.length_append, List.length_cons, List.length_nil, List.length_take, List.length_drop, List.length_replicate]; omega) | (simp; omega))⟩, rfl, (by simp only []; omega)⟩
      · obtain rfl : i = 8 := by omega
        refine W.exit ?_
        refine W.line (n := 3) (by decide) (its := [⟨27, _, true⟩, ⟨28, _, true⟩, ⟨6, _, true⟩]) (ks := []) (kk := []) (live := [2, 3, 4, 5, 6]) (env' := [(2, _), (3, _), (4, _), (5, _), (6, _)])
          (⟨Nat.le_of_ble_eq_true rfl, rfl,
            ⟨⟨rfl, rfl, fun _ τ hb ht hτ => R.mov (evt (hτ 6 _ rfl)) rfl ht⟩,
            ⟨⟨rfl, rfl, fun _ τ hb ht hτ => R.addN (64 * m) (64) (evt (hτ 27 _ rfl)) (show ev _ _ (.const (.int .i64 64)) = some (.int ((64 : Nat) : Int)) from rfl) (by first | omega | (simp only [List.length_map, List.length_append, List.length_cons, List.length_nil, List.length_take, List.length_drop, List.length_replicate]; omega) | (simp; omega)) ht⟩,
            ⟨⟨rfl, rfl, fun _ τ hb ht hτ => R.asg (evt (hτ 28 _ rfl)) rfl ht⟩,
            trivial⟩⟩⟩, rfl, rfl, rfl⟩)
          rfl (bx' := [(2, .var _)]) rfl (n' := 171) rfl (⟨[2, 3, 4, 5, 6], [(2, _), (3, _), (4, _), (5, _), (6, _)], [(2, .var _)], 171, rfl, rfl, rfl, ?_⟩)
        exact ⟨⟨(m + 1), (by omega)⟩, rfl, (by simp only []; omega)⟩
  · obtain rfl : m = pieces b := by omega
    refine W.exit ?_
    refine W.seq ?_
    refine W.line (n := 1) (by decide) (its := []) (ks := []) (kk := []) (live := [2, 3]) (env' := [(2, _), (3, _)])
      (⟨Nat.le_of_ble_eq_true rfl, rfl,
        trivial, rfl, rfl, rfl⟩)
      rfl (bx' := [(2, .var _)]) rfl (n' := 171) rfl (⟨rfl, _, R.alloc rfl (Nat.le_of_ble_eq_true rfl), ⟨[2, 3, 17], [(2, _), (3, _), (17, _)], [(17, .var _), (2, .var _)], 171, rfl, rfl, rfl, ?_⟩⟩)
    refine W.seq ?_
    refine W.seq ?_
    refine W.line (n := 1) (by decide) (its := [⟨18, _, true⟩]) (ks := []) (kk := []) (live := [2, 3, 17, 18]) (env' := [(2, _), (3, _), (17, _), (18, _)])
      (⟨Nat.le_of_ble_eq_true rfl, rfl,
        ⟨⟨rfl, rfl, fun _ τ hb ht hτ => R.asg (show ev _ _ (.const (.int .i64 0)) = some (.int ((0 : Nat) : Int)) from rfl) rfl ht⟩,
        trivial⟩, rfl, rfl, rfl⟩)
      rfl (bx' := [(17, .var _), (2, .var _)]) rfl (n' := 171) rfl (⟨[2, 3, 17, 18], [(2, _), (3, _), (17, _), (18, _)], [(17, .var _), (2, .var _)], 171, rfl, rfl, rfl, ?_⟩)
    refine W.block ?_
    refine W.loop (α := {q__ : Nat // q__ ≤ 32}) (fun q__ => ⟨171, [(2, .ptr 2 0 []), (3, .sl (some 22) 1 ((hR (textR b) (pieces b)).map D.u32)), (17, .ptr 17 0 []), (18, .int ((q__.1 : Nat) : Int))], [(17, .var (hashD (outR (hR (textR b) (pieces b)) q__.1))), (2, .var (hashD (List.replicate 32 0)))]⟩) (fun q__ => 32 - q__.1) ⟨(0), (by first | omega | (simp only [List.length_map, List.length_append, List.length_cons, List.length_nil, List.length_take, List.length_drop, List.length_replicate]; omega) | (simp; omega))⟩ rfl ?_
    rintro ⟨i, hi⟩
    show W _ _ _ _ ⟨171, [(2, .ptr 2 0 []), (3, .sl (some 22) 1 ((hR (textR b) (pieces b)).map D.u32)), (17, .ptr 17 0 []), (18, .int ((i : Nat) : Int))], [(17, .var (hashD (outR (hR (textR b) (pieces b)) i))), (2, .var (hashD (List.replicate 32 0)))]⟩
    have hol := outR_len (hR (textR b) (pieces b)) i
    refine W.seq ?_
    refine W.seq ?_
    refine W.line (n := 2) (by decide) (its := [⟨152, _, true⟩, ⟨153, _, true⟩]) (ks := []) (kk := []) (live := [2, 3, 17, 18, 153]) (env' := [(2, _), (3, _), (17, _), (18, _), (153, _)])
      (⟨Nat.le_of_ble_eq_true rfl, rfl,
        ⟨⟨rfl, rfl, fun _ τ hb ht hτ => R.mov (evt (hτ 18 _ rfl)) rfl ht⟩,
        ⟨⟨rfl, rfl, fun _ τ hb ht hτ => R.lssN (i) (32) (evt (hτ 152 _ rfl)) (show ev _ _ (.const (.int .i64 32)) = some (.int ((32 : Nat) : Int)) from rfl) ht⟩,
        trivial⟩⟩, rfl, rfl, rfl⟩)
      rfl (bx' := [(17, .var _), (2, .var _)]) rfl (n' := 171) rfl (⟨[2, 3, 17, 18, 153], [(2, _), (3, _), (17, _), (18, _), (153, _)], [(17, .var _), (2, .var _)], 171, rfl, rfl, rfl, ?_⟩)
    refine W.condD rfl (fun hc153 => ?_) (fun hc153 => ?_)
    · refine W.skip ?_
      refine W.seq ?_
      refine W.block ?_
      refine W.line (n := 15) (by decide) (its := [⟨156, _, true⟩, ⟨157, _, true⟩, ⟨158, _, true⟩, ⟨159, _, true⟩, ⟨160, _, true⟩, ⟨161, _, true⟩, ⟨162, _, true⟩, ⟨163, _, true⟩, ⟨164, _, true⟩, ⟨165, _, true⟩, ⟨166, _, true⟩, ⟨167, _, true⟩, ⟨168, _, true⟩, ⟨169, _, true⟩]) (ks := []) (kk := []) (live := [2, 3, 17, 18, 168, 169]) (env' := [(2, _), (3, _), (17, _), (18, _), (168, _), (169, _)])
        (⟨Nat.le_of_ble_eq_true rfl, rfl,
          ⟨⟨rfl, rfl, fun _ τ hb ht hτ => R.mov (evt (hτ 18 _ rfl)) rfl ht⟩,
          ⟨⟨rfl, rfl, fun _ τ hb ht hτ => R.al (hτ 3 _ rfl) ht (by decide)⟩,
          ⟨⟨rfl, rfl, fun _ τ hb ht hτ => R.mov (evt (hτ 18 _ rfl)) rfl ht⟩,
          ⟨⟨rfl, rfl, fun _ τ hb ht hτ => R.quoN (i) (4) (evt (hτ 158 _ rfl)) (show ev _ _ (.const (.int .i64 4)) = some (.int ((4 : Nat) : Int)) from rfl) (by first | omega | (simp only [List.length_map, List.length_append, List.length_cons, List.length_nil, List.length_take, List.length_drop, List.length_replicate]; omega) | (simp; omega)) (by first | omega | (simp only [List.length_map, List.length_append, List.length_cons, List.length_nil, List.length_take, List.length_drop, List.length_replicate]; omega) | (simp; omega)) ht⟩,
          ⟨⟨rfl, rfl, fun _ τ hb ht hτ => R.idxN ((i / 4)) (SC.al (hτ 157 _ rfl) (hτ 3 _ rfl)) (evoI (evt (hτ 159 _ rfl))) rfl (by first | omega | (simp only [List.length_map, List.length_append, List.length_cons, List.length_nil, List.length_take, List.length_drop, List.length_replicate]; omega) | (simp; omega)) ht (by decide)⟩,
          ⟨⟨rfl, rfl, fun _ τ hb ht hτ => R.ldE (hτ 160 _ rfl) (SC.al (hτ 157 _ rfl) (hτ 3 _ rfl)) (map_get! (l := (hR (textR b) (pieces b))) (by first | omega | (simp only [List.length_map, List.length_append, List.length_cons, List.length_nil, List.length_take, List.length_drop, List.length_replicate]; omega) | (simp; omega))) rfl rfl rfl rfl ht⟩,
          ⟨⟨rfl, rfl, fun _ τ hb ht hτ => R.mov (evt (hτ 18 _ rfl)) rfl ht⟩,
          ⟨⟨rfl, rfl, fun _ τ hb ht hτ => R.remN (i) (4) (evt (hτ 162 _ rfl)) (show ev _ _ (.const (.int .i64 4)) = some (.int ((4 : Nat) : Int)) from rfl) (by first | omega | (simp only [List.length_map, List.length_append, List.length_cons, List.length_nil, List.length_take, List.length_drop, List.length_replicate]; omega) | (simp; omega)) ht⟩,
          ⟨⟨rfl, rfl, fun _ τ hb ht hτ => R.mulN (8) ((i % 4)) (show ev _ _ (.const (.int .i64 8)) = some (.int ((8 : Nat) : Int)) from rfl) (evt (hτ 163 _ rfl)) (by first | omega | (simp only [List.length_map, List.length_append, List.length_cons, List.length_nil, List.length_take, List.length_drop, List.length_replicate]; omega) | (simp; omega)) ht⟩,
          ⟨⟨rfl, rfl, fun _ τ hb ht hτ => R.subN (24) ((8 * (i % 4))) (show ev _ _ (.const (.int .i64 24)) = some (.int ((24 : Nat) : Int)) from rfl) (evt (hτ 164 _ rfl)) (by first | omega | (simp only [List.length_map, List.length_append, List.length_cons, List.length_nil, List.length_take, List.length_drop, List.length_replicate]; omega) | (simp; omega)) (by first | omega | (simp only [List.length_map, List.length_append, List.length_cons, List.length_nil, List.length_take, List.length_drop, List.length_replicate]; omega) | (simp; omega)) ht⟩,
          ⟨⟨rfl, rfl, fun _ τ hb ht hτ => R.conv (evt (hτ 165 _ rfl)) rfl ht⟩,
          ⟨⟨rfl, rfl, fun _ τ hb ht hτ => R.bin (evt (hτ 161 _ rfl)) (evt (hτ 166 _ rfl)) rfl (show (0 : Int) ≤ _ by first | omega | (simp only [List.length_map, List.length_append, List.length_cons, List.length_nil, List.length_take, List.length_drop, List.length_replicate]; omega) | (simp; omega)) ht⟩,
          ⟨⟨rfl, rfl, fun _ τ hb ht hτ => R.conv (evt (hτ 167 _ rfl)) rfl ht⟩,
          ⟨⟨rfl, rfl, fun _ τ hb ht hτ => R.idxP (i) (hτ 17 _ rfl) (evoI (evt (hτ 156 _ rfl))) rfl (by first | omega | (simp only [List.length_map, List.length_append, List.length_cons, List.length_nil, List.length_take, List.length_drop, List.length_replicate]; omega) | (simp; omega)) ht⟩,
          trivial⟩⟩⟩⟩⟩⟩⟩⟩⟩⟩⟩⟩⟩⟩, rfl, rfl, rfl⟩)
        rfl (bx' := [(17, .var _), (2, .var _)]) rfl (n' := 171) rfl (⟨rfl, _, R.stZ (show Sg.get _ 169 = some _ from rfl) (show Sg.box _ 17 = some _ from rfl) (loc_arr (map_get! (l := (outR (hR (textR b) (pieces b)) i)) (by first | omega | (simp only [List.length_map, List.length_append, List.length_cons, List.length_nil, List.length_take, List.length_drop, List.length_replicate]; omega) | (simp; omega))) loc_nil (by first | omega | (simp only [List.length_map, List.length_append, List.length_cons, List.length_nil, List.length_take, List.length_drop, List.length_replicate]; omega) | (simp; omega))) (evt (show Sg.get _ 168 = some _ from rfl)) (by rfl) (by rfl) (by rfl) (by rfl) (upd_arr (map_get! (l := (outR (hR (textR b) (pieces b)) i)) (by first | omega | (simp only [List.length_map, List.length_append, List.length_cons, List.length_nil, List.length_take, List.length_drop, List.length_replicate]; omega) | (simp; omega))) upd_nil set_map), ⟨[2, 3, 17, 18], [(2, _), (3, _), (17, _), (18, _)], [(17, .var _), (2, .var _)], 171, rfl, rfl, rfl, ?_⟩⟩)
      refine W.line (n := 3) (by decide) (its := [⟨154, _, true⟩, ⟨155, _, true⟩, ⟨18, _, true⟩]) (ks := []) (kk := []) (live := [2, 3, 17, 18]) (env' := [(2, _), (3, _), (17, _), (18, _)])
        (⟨Nat.le_of_ble_eq_true rfl, rfl,
          ⟨⟨rfl, rfl, fun _ τ hb ht hτ => R.mov (evt (hτ 18 _ rfl)) rfl ht⟩,
          ⟨⟨rfl, rfl, fun _ τ hb ht hτ => R.addN (i) (1) (evt (hτ 154 _ rfl)) (show ev _ _ (.const (.int .i64 1)) = some (.int ((1 : Nat) : Int)) from rfl) (by first | omega | (simp only [List.length_map, List.length_append, List.length_cons, List.length_nil, List.length_take, List.length_drop, List.length_replicate]; omega) | (simp; omega)) ht⟩,
          ⟨⟨rfl, rfl, fun _ τ hb ht hτ => R.asg (evt (hτ 155 _ rfl)) rfl ht⟩,
          trivial⟩⟩⟩, rfl, rfl, rfl⟩)
        rfl (bx' := [(17, .var _), (2, .var _)]) rfl (n' := 171) rfl (⟨[2, 3, 17, 18], [(2, _), (3, _), (17, _), (18, _)], [(17, .var _), (2, .var _)], 171, rfl, rfl, rfl, ?_⟩)
      exact ⟨⟨(i + 1), (by first | omega | (simp only [List.length_map, List.length_append, List.length_cons, List.length_nil, List.length_take, List.length_drop, List.length_replicate]; omega) | (simp; omega))⟩, rfl, (by simp only []; omega)⟩
    · obtain rfl : i = 32 := by omega
      refine W.exit ?_
      refine W.seq ?_
      refine W.line (n := 2) (by decide) (its := [⟨170, _, true⟩]) (ks := []) (kk := []) (live := [2, 170]) (env' := [(2, _), (170, _)])
        (⟨Nat.le_of_ble_eq_true rfl, rfl,
          ⟨⟨rfl, rfl, fun _ τ hb ht hτ => R.ldP (hτ 17 _ rfl) (hb 17 _ rfl) rfl rfl rfl rfl ht⟩,
          trivial⟩, rfl, rfl, rfl⟩)
        rfl (bx' := [(17, .var _), (2, .var _)]) rfl (n' := 171) rfl (⟨rfl, _, R.stZ (show Sg.get _ 2 = some _ from rfl) (show Sg.box _ 2 = some _ from rfl) rfl (evt (show Sg.get _ 170 = some _ from rfl)) (by rfl) (by rfl) (by rfl) (by rfl) rfl, ⟨[2], [(2, _)], [(17, .var _), (2, .var _)], 171, rfl, rfl, rfl, ?_⟩⟩)
      refine W.ret ?_
      exact Ends.one' (.inr rfl) rfl (rfl) rfl rfl (show LdT _ 24 32 true from inferInstance)

theorem rtwice_ok (b : List UInt8) (hb0 : b.length ≤ 1000000000) : Fn Tryd.prog gl 30 [.sl none 1 (b.map D.u8)] (hashD (twiceR b)) := by
  refine Fn.of (n := 8) Tryd.func30 rfl rfl rfl (Nat.le_of_ble_eq_true rfl) fun C hC hD => ?_
  refine W.seq ?_
  refine W.line (n := 1) (by decide) (its := []) (ks := []) (kk := []) (live := [0]) (env' := [(0, _)])
    (⟨Nat.le_of_ble_eq_true rfl, rfl,
      trivial, rfl, rfl, rfl⟩)
    rfl (bx' := []) rfl (n' := 8) rfl (⟨rfl, _, R.alloc rfl (Nat.le_of_ble_eq_true rfl), ⟨[0, 2], [(0, _), (2, _)], [(2, .var _)], 8, rfl, rfl, rfl, ?_⟩⟩)
  refine W.seq ?_
  refine W.line (n := 4) (by decide) (its := [⟨4, _, true⟩, ⟨5, _, true⟩]) (ks := []) (kk := []) (live := [2, 5]) (env' := [(2, _), (5, _)])
    (⟨Nat.le_of_ble_eq_true rfl, rfl,
      ⟨⟨rfl, rfl, fun _ τ hb ht hτ => R.mov (evt (hτ 0 _ rfl)) rfl ht⟩,
      ⟨⟨rfl, rfl, fun _ τ hb ht hτ => R.callG hC (rsum_ok _ hb0) (Bors.cons (Bor.pur (evt (hτ 4 _ rfl)) rfl rfl) Bors.nil) (FrsR.one (frs_hash _)) ht⟩,
      trivial⟩⟩, rfl, rfl, rfl⟩)
    rfl (bx' := [(2, .var _)]) rfl (n' := 8) rfl (⟨rfl, _, R.alloc rfl (Nat.le_of_ble_eq_true rfl), ⟨rfl, _, R.stZ (show Sg.get _ 3 = some _ from rfl) (show Sg.box _ 3 = some _ from rfl) rfl (evt (show Sg.get _ 5 = some _ from rfl)) (by rfl) (by rfl) (by rfl) (by rfl) rfl, ⟨[2, 3], [(2, _), (3, _)], [(3, .var _), (2, .var _)], 8, rfl, rfl, rfl, ?_⟩⟩⟩)
  refine W.seq ?_
  refine W.line (n := 3) (by decide) (its := [⟨6, _, true⟩, ⟨7, _, true⟩]) (ks := []) (kk := []) (live := [2, 7]) (env' := [(2, _), (7, _)])
    (⟨Nat.le_of_ble_eq_true rfl, rfl,
      ⟨⟨rfl, rfl, fun _ τ hb ht hτ => R.slAN (0) (32) (32) (hτ 3 _ rfl) (hb 3 _ rfl) rfl rfl rfl rfl rfl (by first | omega | (simp only [List.length_map, List.length_append, List.length_cons, List.length_nil, List.length_take, List.length_drop, List.length_replicate]; omega) | (simp; omega)) (by first | omega | (simp only [List.length_map, List.length_append, List.length_cons, List.length_nil, List.length_take, List.length_drop, List.length_replicate]; omega) | (simp; omega)) rfl ht⟩,
      ⟨⟨rfl, rfl, fun _ τ hb ht hτ => R.callG hC (rsum_ok (sumR b) (by rw [sumR_len]; decide)) (Bors.cons (Bor.sc (SC.va (hτ 6 _ rfl) (hb 3 _ rfl) rfl (by first | omega | (simp only [List.length_map, List.length_append, List.length_cons, List.length_nil, List.length_take, List.length_drop, List.length_replicate]; omega) | (simp; omega))) (brw_all (fun _ => rfl) (sumR_len _))) Bors.nil) (FrsR.one (frs_hash _)) ht⟩,
      trivial⟩⟩, rfl, rfl, rfl⟩)
    rfl (bx' := [(3, .var _), (2, .var _)]) rfl (n' := 8) rfl (⟨rfl, _, R.stZ (show Sg.get _ 2 = some _ from rfl) (show Sg.box _ 2 = some _ from rfl) rfl (evt (show Sg.get _ 7 = some _ from rfl)) (by rfl) (by rfl) (by rfl) (by rfl) rfl, ⟨[2], [(2, _)], [(3, .var _), (2, .var _)], 8, rfl, rfl, rfl, ?_⟩⟩)
  refine W.ret ?_
  exact Ends.one' (.inr rfl) rfl (rfl) rfl rfl (show LdT _ 24 32 true from inferInstance)

end Go.Sx

namespace Go.Sx

/-! ### words -/
theorem or_comm32 (a b : UInt32) : a ||| b = b ||| a := by
  apply UInt32.toBitVec_inj.1
  simp [BitVec.or_comm]
theorem right_r (x : UInt32) : right x 2 = rright x 2 ∧ right x 13 = rright x 13 ∧ right x 22 = rright x 22 ∧ right x 6 = rright x 6 ∧ right x 11 = rright x 11 ∧ right x 25 = rright x 25 ∧
    right x 7 = rright x 7 ∧ right x 18 = rright x 18 ∧ right x 17 = rright x 17 ∧ right x 19 = rright x 19 := by
  refine ⟨?_, ?_, ?_, ?_, ?_, ?_, ?_, ?_, ?_, ?_⟩ <;> exact or_comm32 _ _
theorem ch_r (e f g : UInt32) : g ^^^ (e &&& (f ^^^ g)) = e &&& f ^^^ ~~~e &&& g := by
  apply UInt32.toBitVec_inj.1
  simp only [UInt32.toBitVec_xor, UInt32.toBitVec_and, UInt32.toBitVec_not]
  ext i hi
  simp only [BitVec.getElem_xor, BitVec.getElem_and, BitVec.getElem_not]
  cases e.toBitVec[i] <;> cases f.toBitVec[i] <;> cases g.toBitVec[i] <;> rfl
theorem maj_r (a b c : UInt32) : a &&& b ||| c &&& (a ||| b) = a &&& b ^^^ a &&& c ^^^ b &&& c := by
  apply UInt32.toBitVec_inj.1
  simp only [UInt32.toBitVec_xor, UInt32.toBitVec_and, UInt32.toBitVec_or]
  ext i hi
  simp only [BitVec.getElem_xor, BitVec.getElem_and, BitVec.getElem_or]
  cases a.toBitVec[i] <;> cases b.toBitVec[i] <;> cases c.toBitVec[i] <;> rfl

theorem get!_append {α : Type} [Inhabited α] {l r : List α} {i : Nat} (h : i < l.length) : (l ++ r)[i]! = l[i]! := by
  simp [List.getElem?_append_left h]
theorem get!_set_same {α : Type} [Inhabited α] {l : List α} {i : Nat} {v : α} (h : i < l.length) : (l.set i v)[i]! = v := by simp [h]

theorem next_r (w r : List UInt32) (t : Nat) (h : 16 ≤ t) (hw : w.length = t) : nextW (w ++ r) t = nextR w t := by
  unfold nextW nextR
  rw [get!_append (by omega), get!_append (by omega), get!_append (by omega), get!_append (by omega)]
  obtain ⟨_, _, _, _, _, _, h7, h18, _, _⟩ := right_r w[t - 15]!
  obtain ⟨_, _, _, _, _, _, _, _, h17, h19⟩ := right_r w[t - 2]!
  rw [h7, h18, h17, h19]
  generalize rright _ 7 ^^^ _ ^^^ _ = a
  generalize rright _ 17 ^^^ _ ^^^ _ = b
  generalize w[t - 16]! = c
  generalize w[t - 7]! = d
  apply UInt32.toBitVec_inj.1
  simp only [UInt32.toBitVec_add]
  ac_rfl

theorem shl_or (x y : UInt32) : shl_u32 (x ||| y) 8 = shl_u32 x 8 ||| shl_u32 y 8 := by
  apply UInt32.toBitVec_inj.1
  simp [shl_u32, BitVec.shiftLeft_or_distrib]
theorem shl_8_8 (x : UInt32) : shl_u32 (shl_u32 x 8) 8 = shl_u32 x 16 := by
  apply UInt32.toBitVec_inj.1
  simp [shl_u32, ← BitVec.shiftLeft_add]
theorem shl_16_8 (x : UInt32) : shl_u32 (shl_u32 x 16) 8 = shl_u32 x 24 := by
  apply UInt32.toBitVec_inj.1
  simp [shl_u32, ← BitVec.shiftLeft_add]
theorem sched_r (p : List UInt8) (t : Nat) (ht : t ≤ 64) : sched p t = wR p t ++ List.replicate (64 - t) 0 := by
  induction t with
  | zero => simp [sched, wR]
  | succ t ih =>
    have ih := ih (by omega)
    have hl := wR_len p t
    have hset : ∀ v : UInt32, (wR p t ++ List.replicate (64 - t) 0).set t v = wR p t ++ [v] ++ List.replicate (64 - (t + 1)) 0 := by
      intro v
      rw [List.set_append_right _ _ (by omega), hl, Nat.sub_self, show 64 - t = (64 - (t + 1)) + 1 by omega, List.replicate_succ, List.set_cons_zero]
      simp
    simp only [sched, wR]
    by_cases h : t < 16
    · rw [if_pos h, if_pos h, ih]
      have h0 : (wR p t ++ List.replicate (64 - t) 0)[t]! = 0 := by
        simp only [getElem!_def]
        rw [List.getElem?_append_right (by omega), hl, Nat.sub_self]
        simp [show 0 < 64 - t by omega]
      have hlen : ∀ l : List UInt32, l.length = 64 → t < l.length := fun l hl => by omega
      have e0 : (wR p t ++ List.replicate (64 - t) 0).length = 64 := by simp [hl]; omega
      have hins : inW p t (wR p t ++ List.replicate (64 - t) 0) 4 = (wR p t ++ List.replicate (64 - t) 0).set t (w4 p t) := by
        simp only [inW]
        simp only [List.set_set, get!_set_same (hlen _ e0), h0]
        congr 1
        unfold w4
        have hz : ∀ y : UInt32, shl_u32 0 8 ||| y = y := fun y => by
          apply UInt32.toBitVec_inj.1
          simp [shl_u32]
        simp only [hz, shl_or, shl_8_8, shl_16_8, Nat.add_zero]
      rw [hins, hset]
    · rw [if_neg h, if_neg h, ih, next_r _ _ _ (by omega) hl, hset]

theorem sched_64 (p : List UInt8) : sched p 64 = wR p 64 := by rw [sched_r p 64 (Nat.le_refl _)]; simp

/-! ### pieces -/
theorem W8.list_get (v : W8) : v.list[0]! = v.a ∧ v.list[1]! = v.b ∧ v.list[2]! = v.c ∧ v.list[3]! = v.d ∧ v.list[4]! = v.e ∧ v.list[5]! = v.f ∧ v.list[6]! = v.g ∧ v.list[7]! = v.l := ⟨rfl, rfl, rfl, rfl, rfl, rfl, rfl, rfl⟩
theorem of_list (h : List UInt32) (hh : h.length = 8) : (W8.of h).list = h := by
  match h, hh with
  | [a, b, c, d, e, f, g, l], _ => rfl
theorem rnd_r (v : W8) (k w : UInt32) : (rnd v k w).list = rndR v.list k w := by
  obtain ⟨e0, e1, e2, e3, e4, e5, e6, e7⟩ := W8.list_get v
  unfold rndR oneR twoR
  simp only [e0, e1, e2, e3, e4, e5, e6, e7]
  obtain ⟨h2, h13, h22, _⟩ := right_r v.a
  obtain ⟨_, _, _, h6, h11, h25, _⟩ := right_r v.e
  simp only [rnd, W8.list, one, two, ch_r, maj_r, h2, h13, h22, h6, h11, h25]
theorem rds_r (h w : List UInt32) (hh : h.length = 8) (t : Nat) : (rds h w t).list = rdsR h w t := by
  induction t with
  | zero => exact of_list h hh
  | succ t ih => simp only [rds, rdsR, rnd_r, ih]
theorem comp_r (h : List UInt32) (p : List UInt8) (hh : h.length = 8) : comp h p = compR h p := by
  unfold comp compR
  rw [sched_64, rds_r _ _ hh]

theorem outB_r (h : List UInt32) (i : Nat) (hi : i ≤ 32) : outB h i = outR h i := by
  induction i with
  | zero => rfl
  | succ i ih =>
    simp only [outB, outR, ih (by omega)]
    have : (UInt64.ofInt ((24 - 8 * (i % 4) : Nat) : Int)).toNat = 24 - 8 * (i % 4) := by
      have h := ofInt_u64 ((24 - 8 * (i % 4) : Nat) : Int)
      omega
    rw [this]
theorem long_tail (n : UInt64) (i : Nat) (hi : i ≤ 8) : longB n i = tailR n i ++ List.replicate (8 - i) 0 := by
  induction i with
  | zero => simp [longB, tailR]
  | succ i ih =>
    simp only [longB, tailR, ih (by omega)]
    have hl := tailR_len n i
    rw [List.set_append_right _ _ (by omega), hl, Nat.sub_self, show 8 - i = (8 - (i + 1)) + 1 by omega, List.replicate_succ, List.set_cons_zero]
    have e : (UInt64.ofInt (wr (8 * (7 - ((i : Nat) : Int))))).toNat = 56 - 8 * i := by
      have h := ofInt_u64 (wr (8 * (7 - ((i : Nat) : Int))))
      have h2 : wr (8 * (7 - ((i : Nat) : Int))) = 8 * (7 - (i : Int)) := by unfold wr; rw [IntKind.wrap_i64]; omega
      rw [h2] at h
      rw [h2]
      omega
    rw [e]
    simp
theorem long_tail8 (n : UInt64) : longB n 8 = tailR n 8 := by rw [long_tail n 8 (Nat.le_refl _)]; simp

/-! ### states -/
theorem hR_prefix (a b : List UInt8) (q : Nat) (h : 64 * q ≤ a.length) : hR (a ++ b) q = hR a q := by
  induction q with
  | zero => rfl
  | succ q ih =>
    simp only [hR, ih (by omega)]
    rw [List.drop_append_of_le_length (by omega), List.take_append_of_le_length (by simp; omega)]

/-- the state of the bytes b -/
structure Rep (s : ShaS) (b : List UInt8) : Prop where
  begun : s.begun = true
  n : s.n = UInt64.ofNat b.length
  h : s.h = hR b (b.length / 64)
  len : s.piece.length = 64
  piece : s.piece.take (b.length % 64) = b.drop (64 * (b.length / 64))

theorem Rep.mS {s : ShaS} {b : List UInt8} (h : Rep s b) : mS s = b.length % 64 := by
  unfold Go.Sx.mS
  rw [h.n, UInt64.toNat_mod, UInt64.toNat_ofNat']
  have : (64 : UInt64).toNat = 64 := rfl
  rw [this]; omega

theorem rep_start : Rep ShaS.start [] := ⟨rfl, rfl, rfl, by simp [ShaS.start], by simp⟩

theorem rep_step {s : ShaS} {b c : List UInt8} (h : Rep s b) (hc : c.length ≠ 0) : Rep (stepS s c) (b ++ c.take (kS s c)) := by
  have hm := h.mS
  have hk1 := kS_le s c
  have hk2 := kS_room s c
  have hk3 := kS_pos s c (by omega)
  have hmlt := mS_lt s
  generalize hk : kS s c = k at hk1 hk2 hk3
  have hb' : (b ++ c.take k).length = b.length + k := by simp; omega
  have hp : pieceS s c = b.drop (64 * (b.length / 64)) ++ c.take k ++ s.piece.drop (b.length % 64 + k) := by
    unfold pieceS; rw [hk, hm, h.piece]
  have hpl : (b.drop (64 * (b.length / 64))).length = b.length % 64 := by simp; omega
  have hn : nS s c = UInt64.ofNat (b.length + k) := by
    unfold nS
    rw [hk, h.n]
    apply UInt64.toNat_inj.1
    have h1 := ofInt_u64 ((k : Nat) : Int)
    simp only [UInt64.toNat_add, UInt64.toNat_ofNat']
    omega
  have hmod : (nS s c % 64 == 0) = decide ((b.length + k) % 64 = 0) := by
    rw [hn, Bool.eq_iff_iff, beq_iff_eq, decide_eq_true_eq, ← UInt64.toNat_inj, UInt64.toNat_mod, UInt64.toNat_ofNat']
    have h1 : (64 : UInt64).toNat = 64 := rfl
    have h2 : (0 : UInt64).toNat = 0 := rfl
    rw [h1, h2]; omega
  have hlen : (pieceS s c).length = 64 := by
    rw [hp]; simp only [List.length_append, List.length_drop, List.length_take, h.len]; omega
  refine ⟨h.begun, by simp only [stepS, hn, hb'], ?_, hlen, ?_⟩
  · simp only [stepS, hmod, hb']
    by_cases hd : (b.length + k) % 64 = 0
    · simp only [hd, decide_true, cond_true]
      have hq : (b.length + k) / 64 = b.length / 64 + 1 := by omega
      have hmk : b.length % 64 + k = 64 := by omega
      rw [hq]
      simp only [hR]
      rw [hR_prefix b _ _ (by omega), h.h, comp_r _ _ (hR_len _ _)]
      congr 1
      have e1 : (b ++ c.take k).drop (64 * (b.length / 64)) = b.drop (64 * (b.length / 64)) ++ c.take k := List.drop_append_of_le_length (by omega)
      have e2 : s.piece.drop 64 = [] := List.drop_eq_nil_of_le (by rw [h.len]; exact Nat.le_refl _)
      rw [hp, hmk, e1, e2, List.append_nil]
      exact (List.take_of_length_le (by rw [List.length_append, hpl, List.length_take]; omega)).symm
    · simp only [hd, decide_false, cond_false]
      have hq : (b.length + k) / 64 = b.length / 64 := by omega
      rw [hq, hR_prefix b _ _ (by omega), h.h]
  · simp only [stepS, hb']
    by_cases hd : (b.length + k) % 64 = 0
    · rw [hd, List.take_zero, List.drop_eq_nil_of_le (by rw [hb']; omega)]
    · have hq : (b.length + k) / 64 = b.length / 64 := by omega
      have hr : (b.length + k) % 64 = b.length % 64 + k := by omega
      rw [hq, hr, hp, List.drop_append_of_le_length (by omega)]
      rw [List.take_append_of_le_length (by simp; omega), List.take_of_length_le (by simp; omega)]

theorem rep_addW {s : ShaS} {b c : List UInt8} (h : Rep s b) : Rep (addW s c) (b ++ c) := by
  induction hn : c.length using Nat.strongRecOn generalizing s b c with
  | _ n ih =>
    by_cases h0 : c.length = 0
    · rw [addW_nil _ _ h0, List.length_eq_zero_iff.1 h0, List.append_nil]; exact h
    · rw [addW_step _ _ h0]
      have hk := kS_pos s c (by omega)
      have := ih _ (by rw [← hn]; simp only [List.length_drop]; omega) (rep_step h h0) (c := c.drop (kS s c)) rfl
      rw [List.append_assoc, List.take_append_drop] at this
      exact this
theorem rep_addS {s : ShaS} {b c : List UInt8} (h : Rep s b) : Rep (addS s c) (b ++ c) := by
  unfold addS; rw [h.begun]; exact rep_addW h
theorem rep_padS {s : ShaS} {b : List UInt8} (h : Rep s b) (k : Nat) : Rep (padS k s) (b ++ List.replicate k 0) := by
  induction k generalizing s b with
  | zero => simpa [padS] using h
  | succ k ih =>
    have := ih (rep_addS (c := [0]) h)
    rw [List.append_assoc] at this
    simpa [padS, List.replicate_succ] using this
theorem end_r {s : ShaS} {b : List UInt8} (h : Rep s b) : endS s = sumR b := by
  have h1 : Rep (pad1 s) (b ++ [128]) := rep_addS h
  have hz : padN (pad1 s) = zR b := by
    unfold padN zR
    rw [h1.mS]
    simp only [List.length_append, List.length_singleton]
    omega
  have h2 : Rep (pad2 s) (b ++ [128] ++ List.replicate (zR b) 0) := by
    unfold pad2; rw [hz]; exact rep_padS h1 _
  have hn : s.n * 8 = bitsR b := by
    rw [h.n]; unfold bitsR
    congr 1
    apply UInt64.toNat_inj.1
    have := ofInt_u64 ((b.length : Nat) : Int)
    rw [UInt64.toNat_ofNat']
    omega
  have h3 : Rep (pad3 s) (textR b) := by
    unfold pad3 textR
    rw [long_tail8, hn]
    exact rep_addS h2
  unfold endS sumR
  rw [outB_r _ _ (Nat.le_refl _), h3.h, textR_pieces]
  congr 2
  omega
theorem rep_start_add (b : List UInt8) : Rep (addS ShaS.start b) b := by
  have := rep_addS (c := b) rep_start
  simpa using this
theorem sum_r (b : List UInt8) : sumS b = sumR b := end_r (rep_start_add b)
theorem twice_r (b : List UInt8) : twiceS b = twiceR b := by unfold twiceS twiceR; rw [sum_r, sum_r]
theorem zero_end : endS ShaS.zero = sumR [] := by
  have : endS ShaS.zero = endS ShaS.start := rfl
  rw [this]; exact end_r rep_start
end Go.Sx
