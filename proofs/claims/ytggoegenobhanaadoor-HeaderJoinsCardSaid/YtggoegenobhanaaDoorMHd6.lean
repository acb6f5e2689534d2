/-
  Headers of 80 bytes, got.
-/
import Derived.Test.YtggoegenobhanaaDoorMShaLaw2
set_option linter.unusedVariables false
set_option linter.unusedSimpArgs false
set_option linter.unnecessarySimpa false

namespace Go.Sx
open Go.Proofs
theorem get_ok (b : List UInt8) (hb0 : b.length ≤ 1000000) : Fn Tryd.prog gl 12 [.sl none 1 (b.map D.u8)] (.tup [hdrD (getS b).1, .int (getS b).2]) := by
  refine Fn.of (n := 48) Tryd.func12 rfl rfl rfl (Nat.le_of_ble_eq_true rfl) fun C hC hD => ?_
  refine W.seq ?_
  refine W.line (n := 2) (by decide) (its := []) (ks := []) (kk := []) (live := [0]) (env' := [(0, _)])
    (⟨Nat.le_of_ble_eq_true rfl, rfl,
      trivial, rfl, rfl, rfl⟩)
    rfl (bx' := []) rfl (n' := 48) rfl (⟨rfl, _, R.alloc rfl (Nat.le_of_ble_eq_true rfl), ⟨rfl, _, R.asg (show ev _ _ (.const (.int .i64 0)) = some (.int ((0 : Nat) : Int)) from rfl) rfl (Nat.le_of_ble_eq_true rfl), ⟨[0, 2], [(0, _), (2, _)], [(2, .var _)], 48, rfl, rfl, rfl, ?_⟩⟩⟩)
  refine W.seq ?_
  refine W.seq ?_
  refine W.line (n := 3) (by decide) (its := [⟨7, _, true⟩, ⟨8, _, true⟩, ⟨9, _, true⟩]) (ks := []) (kk := []) (live := [0, 2, 9]) (env' := [(0, _), (2, _), (9, _)])
    (⟨Nat.le_of_ble_eq_true rfl, rfl,
      ⟨⟨rfl, rfl, fun _ τ hb ht hτ => R.mov (evt (hτ 0 _ rfl)) rfl ht⟩,
      ⟨⟨rfl, rfl, fun _ τ hb ht hτ => R.lenE (SC.sl (hτ 7 _ rfl)) (List.length_map _) ht⟩,
      ⟨⟨rfl, rfl, fun _ τ hb ht hτ => R.neqN (b.length) (80) (evt (hτ 8 _ rfl)) (show ev _ _ (.const (.int .i64 80)) = some (.int ((80 : Nat) : Int)) from rfl) ht⟩,
      trivial⟩⟩⟩, rfl, rfl, rfl⟩)
    rfl (bx' := [(2, .var _)]) rfl (n' := 48) rfl (⟨[0, 2, 9], [(0, _), (2, _), (9, _)], [(2, .var _)], 48, rfl, rfl, rfl, ?_⟩)
  refine W.condD rfl (fun hc9 => ?_) (fun hc9 => ?_)
  · refine W.seq ?_
    refine W.line (n := 3) (by decide) (its := [⟨10, _, true⟩]) (ks := []) (kk := []) (live := [2, 10]) (env' := [(2, _), (10, _)])
      (⟨Nat.le_of_ble_eq_true rfl, rfl,
        ⟨⟨rfl, rfl, fun _ τ hb ht hτ => R.ldP (hτ 2 _ rfl) (hb 2 _ rfl) rfl rfl rfl rfl ht⟩,
        trivial⟩, rfl, rfl, rfl⟩)
      rfl (bx' := [(2, .var _)]) rfl (n' := 48) rfl (⟨rfl, _, R.stZ (show Sg.get _ 2 = some _ from rfl) (show Sg.box _ 2 = some _ from rfl) rfl (evt (show Sg.get _ 10 = some _ from rfl)) (by rfl) (by rfl) (by rfl) (by rfl) rfl, ⟨rfl, _, R.asg (show ev _ _ (.const (.int .i64 5)) = some (.int ((5 : Nat) : Int)) from rfl) rfl (Nat.le_of_ble_eq_true rfl), ⟨[2, 3], [(2, _), (3, _)], [(2, .var _)], 48, rfl, rfl, rfl, ?_⟩⟩⟩)
    refine W.ret ?_
    exact Ends.many (.inr rfl) (.cons rfl rfl rfl (show LdT _ 26 68 true from inferInstance) (.cons rfl rfl rfl trivial .nil)) (by simp only [getS, if_pos hc9]; rfl) (show [(2, false), (3, true)].Nodup by decide)
  · refine W.skip ?_
    refine W.seq ?_
    refine W.seq ?_
    have h80 : b.length = 80 := Decidable.not_not.1 hc9
    refine W.line (n := 2) (by decide) (its := []) (ks := []) (kk := []) (live := [0, 2]) (env' := [(0, _), (2, _)])
      (⟨Nat.le_of_ble_eq_true rfl, rfl,
        trivial, rfl, rfl, rfl⟩)
      rfl (bx' := [(2, .var _)]) rfl (n' := 48) rfl (⟨rfl, _, R.callB [(0, 2)] hC (numbers_ok zeroH) (EvB.cons (evt (show Sg.get _ 2 = some _ from rfl)) rfl rfl rfl EvB.nil) rfl ⟨rfl, trivial⟩ ⟨rfl, trivial⟩ rfl rfl rfl rfl rfl rfl (Nat.le_of_ble_eq_true rfl), ⟨rfl, _, R.mov (show ev _ _ (.const (.int .i64 0)) = some (.int ((0 : Nat) : Int)) from rfl) rfl (Nat.le_of_ble_eq_true rfl), ⟨[0, 2, 11, 12], [(0, _), (2, _), (11, _), (12, _)], [(2, .var _)], 48, rfl, rfl, rfl, ?_⟩⟩⟩)
    refine W.block ?_
    refine W.loopU ?_
    refine WU.step ?_
    show W _ _ _ _ _
    refine W.dropS (live := [0, 2, 11, 12]) (env' := [(0, _), (2, _), (11, _), (12, _)]) (bx' := [(2, .var _)]) (n' := 48) rfl rfl rfl ?_
    refine W.seq ?_
    refine W.line (n := 1) (by decide) (its := [⟨13, _, true⟩]) (ks := []) (kk := []) (live := [0, 2, 11, 12, 13]) (env' := [(0, _), (2, _), (11, _), (12, _), (13, _)])
      (⟨Nat.le_of_ble_eq_true rfl, rfl,
        ⟨⟨rfl, rfl, fun _ τ hb ht hτ => R.lssN (0) (4) (evt (hτ 12 _ rfl)) (show ev _ _ (.const (.int .i64 4)) = some (.int ((4 : Nat) : Int)) from rfl) ht⟩,
        trivial⟩, rfl, rfl, rfl⟩)
      rfl (bx' := [(2, .var _)]) rfl (n' := 48) rfl (⟨[0, 2, 11, 12, 13], [(0, _), (2, _), (11, _), (12, _), (13, _)], [(2, .var _)], 48, rfl, rfl, rfl, ?_⟩)
    refine W.seq ?_
    refine W.condT rfl (rfl) ?_
    refine W.skip ?_
    refine W.seq ?_
    refine W.block ?_
    refine W.seq ?_
    refine W.line (n := 3) (by decide) (its := [⟨14, _, true⟩]) (ks := []) (kk := []) (live := [0, 2, 11, 12, 14]) (env' := [(0, _), (2, _), (11, _), (12, _), (14, _)])
      (⟨Nat.le_of_ble_eq_true rfl, rfl,
        ⟨⟨rfl, rfl, fun _ τ hb ht hτ => R.ixG (0) (evt (hτ 11 _ rfl)) (evoI (evt (hτ 12 _ rfl))) rfl rfl rfl rfl rfl rfl rfl ht⟩,
        trivial⟩, rfl, rfl, rfl⟩)
      rfl (bx' := [(2, .var _)]) rfl (n' := 48) rfl (⟨rfl, _, R.alloc rfl (Nat.le_of_ble_eq_true rfl), ⟨rfl, _, R.stP (show Sg.get _ 5 = some _ from rfl) (show Sg.box _ 5 = some _ from rfl) rfl (evt (show Sg.get _ 14 = some _ from rfl)) rfl rfl (by rfl) (by rfl) rfl, ⟨[0, 2, 5, 11, 12], [(0, _), (2, _), (5, _), (11, _), (12, _)], [(5, .var _), (2, .var _)], 48, rfl, rfl, rfl, ?_⟩⟩⟩)
    refine W.seq ?_
    refine W.line (n := 1) (by decide) (its := [⟨15, _, true⟩]) (ks := []) (kk := []) (live := [0, 2, 5, 11, 12, 15]) (env' := [(0, _), (2, _), (5, _), (11, _), (12, _), (15, _)])
      (⟨Nat.le_of_ble_eq_true rfl, rfl,
        ⟨⟨rfl, rfl, fun _ τ hb ht hτ => R.mov (show ev _ _ (.const (.int .i64 0)) = some (.int ((0 : Nat) : Int)) from rfl) rfl ht⟩,
        trivial⟩, rfl, rfl, rfl⟩)
      rfl (bx' := [(5, .var _), (2, .var _)]) rfl (n' := 48) rfl (⟨[0, 2, 5, 11, 12, 15], [(0, _), (2, _), (5, _), (11, _), (12, _), (15, _)], [(5, .var _), (2, .var _)], 48, rfl, rfl, rfl, ?_⟩)
    refine W.block ?_
    refine W.loop (α := {q__ : Nat // q__ ≤ 4}) (fun q__ => ⟨48, [(0, .sl none 1 (b.map D.u8)), (2, .ptr 2 0 []), (5, .ptr 5 0 []), (11, .agg [.agg [.int ((0 : Nat) : Int), .ptr 2 0 [0]], .agg [.int ((68 : Nat) : Int), .ptr 2 65 [3]], .agg [.int ((72 : Nat) : Int), .ptr 2 66 [4]], .agg [.int ((76 : Nat) : Int), .ptr 2 67 [5]]]), (12, .int ((0 : Nat) : Int)), (15, .int ((q__.1 : Nat) : Int))], [(5, .var (.agg [.int ((0 : Nat) : Int), .ptr 2 0 [0]])), (2, .var (.agg [.u32 (rdN b 0 q__.1), hashD zero32, hashD zero32, .u32 0, .u32 0, .u32 0]))]⟩) (fun q__ => 4 - q__.1) ⟨(0), (by first | omega | (simp only [List.length_map, List.length_append, List.length_cons, List.length_nil, List.length_take, List.length_drop, List.length_replicate]; omega) | (simp; omega))⟩ rfl ?_
    rintro ⟨i, hi⟩
    show W _ _ _ _ ⟨48, [(0, .sl none 1 (b.map D.u8)), (2, .ptr 2 0 []), (5, .ptr 5 0 []), (11, .agg [.agg [.int ((0 : Nat) : Int), .ptr 2 0 [0]], .agg [.int ((68 : Nat) : Int), .ptr 2 65 [3]], .agg [.int ((72 : Nat) : Int), .ptr 2 66 [4]], .agg [.int ((76 : Nat) : Int), .ptr 2 67 [5]]]), (12, .int ((0 : Nat) : Int)), (15, .int ((i : Nat) : Int))], [(5, .var (.agg [.int ((0 : Nat) : Int), .ptr 2 0 [0]])), (2, .var (.agg [.u32 (rdN b 0 i), hashD zero32, hashD zero32, .u32 0, .u32 0, .u32 0]))]⟩
    have hi : i ≤ 4 := hi
    refine W.seq ?_
    refine W.line (n := 1) (by decide) (its := [⟨16, _, true⟩]) (ks := []) (kk := []) (live := [0, 2, 5, 11, 12, 15, 16]) (env' := [(0, _), (2, _), (5, _), (11, _), (12, _), (15, _), (16, _)])
      (⟨Nat.le_of_ble_eq_true rfl, rfl,
        ⟨⟨rfl, rfl, fun _ τ hb ht hτ => R.lssN (i) (4) (evt (hτ 15 _ rfl)) (show ev _ _ (.const (.int .i64 4)) = some (.int ((4 : Nat) : Int)) from rfl) ht⟩,
        trivial⟩, rfl, rfl, rfl⟩)
      rfl (bx' := [(5, .var _), (2, .var _)]) rfl (n' := 48) rfl (⟨[0, 2, 5, 11, 12, 15, 16], [(0, _), (2, _), (5, _), (11, _), (12, _), (15, _), (16, _)], [(5, .var _), (2, .var _)], 48, rfl, rfl, rfl, ?_⟩)
    refine W.seq ?_
    refine W.condD rfl (fun hc16 => ?_) (fun hc16 => ?_)
    · refine W.skip ?_
      refine W.seq ?_
      refine W.block ?_
      refine W.seq ?_
      refine W.line (n := 2) (by decide) (its := [⟨17, _, true⟩, ⟨6, _, true⟩]) (ks := []) (kk := []) (live := [0, 2, 5, 6, 11, 12, 15]) (env' := [(0, _), (2, _), (5, _), (6, _), (11, _), (12, _), (15, _)])
        (⟨Nat.le_of_ble_eq_true rfl, rfl,
          ⟨⟨rfl, rfl, fun _ τ hb ht hτ => R.mov (evt (hτ 15 _ rfl)) rfl ht⟩,
          ⟨⟨rfl, rfl, fun _ τ hb ht hτ => R.asg (evt (hτ 17 _ rfl)) rfl ht⟩,
          trivial⟩⟩, rfl, rfl, rfl⟩)
        rfl (bx' := [(5, .var _), (2, .var _)]) rfl (n' := 48) rfl (⟨[0, 2, 5, 6, 11, 12, 15], [(0, _), (2, _), (5, _), (6, _), (11, _), (12, _), (15, _)], [(5, .var _), (2, .var _)], 48, rfl, rfl, rfl, ?_⟩)
      refine W.draw (m := 17) (an := [0, 1, 3, 7, 0, 0, 32, 0, 224, 496, 1008, 2032, 0, 4096, 16368, 32767, 65535, 131071]) hP (by decide) rfl (its := [⟨18, _, true⟩, ⟨19, _, true⟩, ⟨20, _, true⟩, ⟨21, _, true⟩, ⟨22, _, true⟩, ⟨23, _, true⟩, ⟨24, _, true⟩, ⟨25, _, true⟩, ⟨26, _, true⟩, ⟨27, _, true⟩, ⟨28, _, true⟩, ⟨29, _, true⟩, ⟨30, _, true⟩, ⟨31, _, true⟩, ⟨32, _, true⟩, ⟨33, _, true⟩, ⟨34, _, true⟩]) (ks := []) (kk := []) (live := [0, 2, 5, 11, 12, 15, 33, 34]) (env' := [(0, _), (2, _), (5, _), (11, _), (12, _), (15, _), (33, _), (34, _)])
        (⟨Nat.le_of_ble_eq_true rfl, rfl,
          ⟨⟨rfl, rfl, fun _ τ hb ht hτ => R.fdP (hτ 5 _ rfl) ht⟩,
          ⟨⟨rfl, rfl, fun _ τ hb ht hτ => R.ldP (hτ 18 _ rfl) (hb 5 _ rfl) rfl rfl rfl rfl ht⟩,
          ⟨⟨rfl, rfl, fun _ τ hb ht hτ => R.nilcP (hτ 19 _ rfl) ht⟩,
          ⟨⟨rfl, rfl, fun _ τ hb ht hτ => R.ldP (hτ 20 _ rfl) (hb 2 _ rfl) rfl rfl rfl rfl ht⟩,
          ⟨⟨rfl, rfl, fun _ τ hb ht hτ => R.mov (evt (hτ 0 _ rfl)) rfl ht⟩,
          ⟨⟨rfl, rfl, fun _ τ hb ht hτ => R.fdP (hτ 5 _ rfl) ht⟩,
          ⟨⟨rfl, rfl, fun _ τ hb ht hτ => R.ldP (hτ 23 _ rfl) (hb 5 _ rfl) rfl rfl rfl rfl ht⟩,
          ⟨⟨rfl, rfl, fun _ τ hb ht hτ => R.mov (evt (hτ 6 _ rfl)) rfl ht⟩,
          ⟨⟨rfl, rfl, fun _ τ hb ht hτ => R.addN (0) (i) (evt (hτ 24 _ rfl)) (evt (hτ 25 _ rfl)) (by first | omega | (simp only [List.length_map, List.length_append, List.length_cons, List.length_nil, List.length_take, List.length_drop, List.length_replicate]; omega) | (simp; omega)) ht⟩,
          ⟨⟨rfl, rfl, fun _ τ hb ht hτ => R.idxN ((0 + i)) (SC.sl (hτ 22 _ rfl)) (evoI (evt (hτ 26 _ rfl))) rfl (by first | omega | (simp only [List.length_map, List.length_append, List.length_cons, List.length_nil, List.length_take, List.length_drop, List.length_replicate]; omega) | (simp; omega)) ht (by decide)⟩,
          ⟨⟨rfl, rfl, fun _ τ hb ht hτ => R.ldE (hτ 27 _ rfl) (SC.sl (hτ 22 _ rfl)) (map_get! (l := b) (by first | omega | (simp only [List.length_map, List.length_append, List.length_cons, List.length_nil, List.length_take, List.length_drop, List.length_replicate]; omega) | (simp; omega))) rfl rfl rfl rfl ht⟩,
          ⟨⟨rfl, rfl, fun _ τ hb ht hτ => R.conv (evt (hτ 28 _ rfl)) rfl ht⟩,
          ⟨⟨rfl, rfl, fun _ τ hb ht hτ => R.mov (evt (hτ 6 _ rfl)) rfl ht⟩,
          ⟨⟨rfl, rfl, fun _ τ hb ht hτ => R.mulN (8) (i) (show ev _ _ (.const (.int .i64 8)) = some (.int ((8 : Nat) : Int)) from rfl) (evt (hτ 30 _ rfl)) (by first | omega | (simp only [List.length_map, List.length_append, List.length_cons, List.length_nil, List.length_take, List.length_drop, List.length_replicate]; omega) | (simp; omega)) ht⟩,
          ⟨⟨rfl, rfl, fun _ τ hb ht hτ => R.bin (evt (hτ 29 _ rfl)) (evt (hτ 31 _ rfl)) rfl (show (0 : Int) ≤ _ by first | omega | (simp only [List.length_map, List.length_append, List.length_cons, List.length_nil, List.length_take, List.length_drop, List.length_replicate]; omega) | (simp; omega)) ht⟩,
          ⟨⟨rfl, rfl, fun _ τ hb ht hτ => R.bin (evt (hτ 21 _ rfl)) (evt (hτ 32 _ rfl)) rfl trivial ht⟩,
          ⟨⟨rfl, rfl, fun _ τ hb ht hτ => R.nilcP (hτ 19 _ rfl) ht⟩,
          trivial⟩⟩⟩⟩⟩⟩⟩⟩⟩⟩⟩⟩⟩⟩⟩⟩⟩, rfl, rfl, rfl⟩)
        rfl (bx' := [(5, .var _), (2, .var _)]) rfl (n' := 48) rfl (⟨rfl, _, R.stZ (show Sg.get _ 34 = some _ from rfl) (show Sg.box _ 2 = some _ from rfl) rfl (evt (show Sg.get _ 33 = some _ from rfl)) (by rfl) (by rfl) (by rfl) (by rfl) rfl, ⟨[0, 2, 5, 11, 12, 15], [(0, _), (2, _), (5, _), (11, _), (12, _), (15, _)], [(5, .var _), (2, .var _)], 48, rfl, rfl, rfl, ?_⟩⟩)
      refine W.line (n := 2) (by decide) (its := [⟨35, _, true⟩, ⟨15, _, true⟩]) (ks := []) (kk := []) (live := [0, 2, 5, 11, 12, 15]) (env' := [(0, _), (2, _), (5, _), (11, _), (12, _), (15, _)])
        (⟨Nat.le_of_ble_eq_true rfl, rfl,
          ⟨⟨rfl, rfl, fun _ τ hb ht hτ => R.addN (i) (1) (evt (hτ 15 _ rfl)) (show ev _ _ (.const (.int .i64 1)) = some (.int ((1 : Nat) : Int)) from rfl) (by first | omega | (simp only [List.length_map, List.length_append, List.length_cons, List.length_nil, List.length_take, List.length_drop, List.length_replicate]; omega) | (simp; omega)) ht⟩,
          ⟨⟨rfl, rfl, fun _ τ hb ht hτ => R.mov (evt (hτ 35 _ rfl)) rfl ht⟩,
          trivial⟩⟩, rfl, rfl, rfl⟩)
        rfl (bx' := [(5, .var _), (2, .var _)]) rfl (n' := 48) rfl (⟨[0, 2, 5, 11, 12, 15], [(0, _), (2, _), (5, _), (11, _), (12, _), (15, _)], [(5, .var _), (2, .var _)], 48, rfl, rfl, rfl, ?_⟩)
      exact ⟨⟨(i + 1), (by first | omega | (simp only [List.length_map, List.length_append, List.length_cons, List.length_nil, List.length_take, List.length_drop, List.length_replicate]; omega) | (simp; omega))⟩, rfl, (by simp only []; omega)⟩
    · obtain rfl : i = 4 := by omega
      refine W.exit ?_
      refine W.line (n := 2) (by decide) (its := [⟨36, _, true⟩, ⟨12, _, true⟩]) (ks := []) (kk := []) (live := [0, 2, 11, 12]) (env' := [(0, _), (2, _), (11, _), (12, _)])
        (⟨Nat.le_of_ble_eq_true rfl, rfl,
          ⟨⟨rfl, rfl, fun _ τ hb ht hτ => R.addN (0) (1) (evt (hτ 12 _ rfl)) (show ev _ _ (.const (.int .i64 1)) = some (.int ((1 : Nat) : Int)) from rfl) (by first | omega | (simp only [List.length_map, List.length_append, List.length_cons, List.length_nil, List.length_take, List.length_drop, List.length_replicate]; omega) | (simp; omega)) ht⟩,
          ⟨⟨rfl, rfl, fun _ τ hb ht hτ => R.mov (evt (hτ 36 _ rfl)) rfl ht⟩,
          trivial⟩⟩, rfl, rfl, rfl⟩)
        rfl (bx' := [(5, .var _), (2, .var _)]) rfl (n' := 48) rfl (⟨[0, 2, 11, 12], [(0, _), (2, _), (11, _), (12, _)], [(5, .var _), (2, .var _)], 48, rfl, rfl, rfl, ?_⟩)
      refine WU.step ?_
      show W _ _ _ _ _
      refine W.dropS (live := [0, 2, 11, 12]) (env' := [(0, _), (2, _), (11, _), (12, _)]) (bx' := [(5, .var _), (2, .var _)]) (n' := 48) rfl rfl rfl ?_
      refine W.dropB [2] (bx' := [(2, .var _)]) rfl rfl rfl (pin_sub hD rfl) ?_
      refine W.seq ?_
      refine W.line (n := 1) (by decide) (its := [⟨13, _, true⟩]) (ks := []) (kk := []) (live := [0, 2, 11, 12, 13]) (env' := [(0, _), (2, _), (11, _), (12, _), (13, _)])
        (⟨Nat.le_of_ble_eq_true rfl, rfl,
          ⟨⟨rfl, rfl, fun _ τ hb ht hτ => R.lssN (1) (4) (evt (hτ 12 _ rfl)) (show ev _ _ (.const (.int .i64 4)) = some (.int ((4 : Nat) : Int)) from rfl) ht⟩,
          trivial⟩, rfl, rfl, rfl⟩)
        rfl (bx' := [(2, .var _)]) rfl (n' := 48) rfl (⟨[0, 2, 11, 12, 13], [(0, _), (2, _), (11, _), (12, _), (13, _)], [(2, .var _)], 48, rfl, rfl, rfl, ?_⟩)
      refine W.seq ?_
      refine W.condT rfl (rfl) ?_
      refine W.skip ?_
      refine W.seq ?_
      refine W.block ?_
      refine W.seq ?_
      refine W.line (n := 3) (by decide) (its := [⟨14, _, true⟩]) (ks := []) (kk := []) (live := [0, 2, 11, 12, 14]) (env' := [(0, _), (2, _), (11, _), (12, _), (14, _)])
        (⟨Nat.le_of_ble_eq_true rfl, rfl,
          ⟨⟨rfl, rfl, fun _ τ hb ht hτ => R.ixG (1) (evt (hτ 11 _ rfl)) (evoI (evt (hτ 12 _ rfl))) rfl rfl rfl rfl rfl rfl rfl ht⟩,
          trivial⟩, rfl, rfl, rfl⟩)
        rfl (bx' := [(2, .var _)]) rfl (n' := 48) rfl (⟨rfl, _, R.alloc rfl (Nat.le_of_ble_eq_true rfl), ⟨rfl, _, R.stP (show Sg.get _ 5 = some _ from rfl) (show Sg.box _ 5 = some _ from rfl) rfl (evt (show Sg.get _ 14 = some _ from rfl)) rfl rfl (by rfl) (by rfl) rfl, ⟨[0, 2, 5, 11, 12], [(0, _), (2, _), (5, _), (11, _), (12, _)], [(5, .var _), (2, .var _)], 48, rfl, rfl, rfl, ?_⟩⟩⟩)
      refine W.seq ?_
      refine W.line (n := 1) (by decide) (its := [⟨15, _, true⟩]) (ks := []) (kk := []) (live := [0, 2, 5, 11, 12, 15]) (env' := [(0, _), (2, _), (5, _), (11, _), (12, _), (15, _)])
        (⟨Nat.le_of_ble_eq_true rfl, rfl,
          ⟨⟨rfl, rfl, fun _ τ hb ht hτ => R.mov (show ev _ _ (.const (.int .i64 0)) = some (.int ((0 : Nat) : Int)) from rfl) rfl ht⟩,
          trivial⟩, rfl, rfl, rfl⟩)
        rfl (bx' := [(5, .var _), (2, .var _)]) rfl (n' := 48) rfl (⟨[0, 2, 5, 11, 12, 15], [(0, _), (2, _), (5, _), (11, _), (12, _), (15, _)], [(5, .var _), (2, .var _)], 48, rfl, rfl, rfl, ?_⟩)
      refine W.block ?_
      refine W.loop (α := {q__ : Nat // q__ ≤ 4}) (fun q__ => ⟨48, [(0, .sl none 1 (b.map D.u8)), (2, .ptr 2 0 []), (5, .ptr 5 0 []), (11, .agg [.agg [.int ((0 : Nat) : Int), .ptr 2 0 [0]], .agg [.int ((68 : Nat) : Int), .ptr 2 65 [3]], .agg [.int ((72 : Nat) : Int), .ptr 2 66 [4]], .agg [.int ((76 : Nat) : Int), .ptr 2 67 [5]]]), (12, .int ((1 : Nat) : Int)), (15, .int ((q__.1 : Nat) : Int))], [(5, .var (.agg [.int ((68 : Nat) : Int), .ptr 2 65 [3]])), (2, .var (.agg [.u32 (num b 0), hashD zero32, hashD zero32, .u32 (rdN b 68 q__.1), .u32 0, .u32 0]))]⟩) (fun q__ => 4 - q__.1) ⟨(0), (by first | omega | (simp only [List.length_map, List.length_append, List.length_cons, List.length_nil, List.length_take, List.length_drop, List.length_replicate]; omega) | (simp; omega))⟩ rfl ?_
      rintro ⟨i, hi⟩
      show W _ _ _ _ ⟨48, [(0, .sl none 1 (b.map D.u8)), (2, .ptr 2 0 []), (5, .ptr 5 0 []), (11, .agg [.agg [.int ((0 : Nat) : Int), .ptr 2 0 [0]], .agg [.int ((68 : Nat) : Int), .ptr 2 65 [3]], .agg [.int ((72 : Nat) : Int), .ptr 2 66 [4]], .agg [.int ((76 : Nat) : Int), .ptr 2 67 [5]]]), (12, .int ((1 : Nat) : Int)), (15, .int ((i : Nat) : Int))], [(5, .var (.agg [.int ((68 : Nat) : Int), .ptr 2 65 [3]])), (2, .var (.agg [.u32 (num b 0), hashD zero32, hashD zero32, .u32 (rdN b 68 i), .u32 0, .u32 0]))]⟩
      have hi : i ≤ 4 := hi
      refine W.seq ?_
      refine W.line (n := 1) (by decide) (its := [⟨16, _, true⟩]) (ks := []) (kk := []) (live := [0, 2, 5, 11, 12, 15, 16]) (env' := [(0, _), (2, _), (5, _), (11, _), (12, _), (15, _), (16, _)])
        (⟨Nat.le_of_ble_eq_true rfl, rfl,
          ⟨⟨rfl, rfl, fun _ τ hb ht hτ => R.lssN (i) (4) (evt (hτ 15 _ rfl)) (show ev _ _ (.const (.int .i64 4)) = some (.int ((4 : Nat) : Int)) from rfl) ht⟩,
          trivial⟩, rfl, rfl, rfl⟩)
        rfl (bx' := [(5, .var _), (2, .var _)]) rfl (n' := 48) rfl (⟨[0, 2, 5, 11, 12, 15, 16], [(0, _), (2, _), (5, _), (11, _), (12, _), (15, _), (16, _)], [(5, .var _), (2, .var _)], 48, rfl, rfl, rfl, ?_⟩)
      refine W.seq ?_
      refine W.condD rfl (fun hc16 => ?_) (fun hc16 => ?_)
      · refine W.skip ?_
        refine W.seq ?_
        refine W.block ?_
        refine W.seq ?_
        refine W.line (n := 2) (by decide) (its := [⟨17, _, true⟩, ⟨6, _, true⟩]) (ks := []) (kk := []) (live := [0, 2, 5, 6, 11, 12, 15]) (env' := [(0, _), (2, _), (5, _), (6, _), (11, _), (12, _), (15, _)])
          (⟨Nat.le_of_ble_eq_true rfl, rfl,
            ⟨⟨rfl, rfl, fun _ τ hb ht hτ => R.mov (evt (hτ 15 _ rfl)) rfl ht⟩,
            ⟨⟨rfl, rfl, fun _ τ hb ht hτ => R.asg (evt (hτ 17 _ rfl)) rfl ht⟩,
            trivial⟩⟩, rfl, rfl, rfl⟩)
          rfl (bx' := [(5, .var _), (2, .var _)]) rfl (n' := 48) rfl (⟨[0, 2, 5, 6, 11, 12, 15], [(0, _), (2, _), (5, _), (6, _), (11, _), (12, _), (15, _)], [(5, .var _), (2, .var _)], 48, rfl, rfl, rfl, ?_⟩)
        refine W.draw (m := 17) (an := [0, 1, 3, 7, 0, 0, 32, 0, 224, 496, 1008, 2032, 0, 4096, 16368, 32767, 65535, 131071]) hP (by decide) rfl (its := [⟨18, _, true⟩, ⟨19, _, true⟩, ⟨20, _, true⟩, ⟨21, _, true⟩, ⟨22, _, true⟩, ⟨23, _, true⟩, ⟨24, _, true⟩, ⟨25, _, true⟩, ⟨26, _, true⟩, ⟨27, _, true⟩, ⟨28, _, true⟩, ⟨29, _, true⟩, ⟨30, _, true⟩, ⟨31, _, true⟩, ⟨32, _, true⟩, ⟨33, _, true⟩, ⟨34, _, true⟩]) (ks := []) (kk := []) (live := [0, 2, 5, 11, 12, 15, 33, 34]) (env' := [(0, _), (2, _), (5, _), (11, _), (12, _), (15, _), (33, _), (34, _)])
          (⟨Nat.le_of_ble_eq_true rfl, rfl,
            ⟨⟨rfl, rfl, fun _ τ hb ht hτ => R.fdP (hτ 5 _ rfl) ht⟩,
            ⟨⟨rfl, rfl, fun _ τ hb ht hτ => R.ldP (hτ 18 _ rfl) (hb 5 _ rfl) rfl rfl rfl rfl ht⟩,
            ⟨⟨rfl, rfl, fun _ τ hb ht hτ => R.nilcP (hτ 19 _ rfl) ht⟩,
            ⟨⟨rfl, rfl, fun _ τ hb ht hτ => R.ldP (hτ 20 _ rfl) (hb 2 _ rfl) rfl rfl rfl rfl ht⟩,
            ⟨⟨rfl, rfl, fun _ τ hb ht hτ => R.mov (evt (hτ 0 _ rfl)) rfl ht⟩,
            ⟨⟨rfl, rfl, fun _ τ hb ht hτ => R.fdP (hτ 5 _ rfl) ht⟩,
            ⟨⟨rfl, rfl, fun _ τ hb ht hτ => R.ldP (hτ 23 _ rfl) (hb 5 _ rfl) rfl rfl rfl rfl ht⟩,
            ⟨⟨rfl, rfl, fun _ τ hb ht hτ => R.mov (evt (hτ 6 _ rfl)) rfl ht⟩,
            ⟨⟨rfl, rfl, fun _ τ hb ht hτ => R.addN (68) (i) (evt (hτ 24 _ rfl)) (evt (hτ 25 _ rfl)) (by first | omega | (simp only [List.length_map, List.length_append, List.length_cons, List.length_nil, List.length_take, List.length_drop, List.length_replicate]; omega) | (simp; omega)) ht⟩,
            ⟨⟨rfl, rfl, fun _ τ hb ht hτ => R.idxN ((68 + i)) (SC.sl (hτ 22 _ rfl)) (evoI (evt (hτ 26 _ rfl))) rfl (by first | omega | (simp only [List.length_map, List.length_append, List.length_cons, List.length_nil, List.length_take, List.length_drop, List.length_replicate]; omega) | (simp; omega)) ht (by decide)⟩,
            ⟨⟨rfl, rfl, fun _ τ hb ht hτ => R.ldE (hτ 27 _ rfl) (SC.sl (hτ 22 _ rfl)) (map_get! (l := b) (by first | omega | (simp only [List.length_map, List.length_append, List.length_cons, List.length_nil, List.length_take, List.length_drop, List.length_replicate]; omega) | (simp; omega))) rfl rfl rfl rfl ht⟩,
            ⟨⟨rfl, rfl, fun _ τ hb ht hτ => R.conv (evt (hτ 28 _ rfl)) rfl ht⟩,
            ⟨⟨rfl, rfl, fun _ τ hb ht hτ => R.mov (evt (hτ 6 _ rfl)) rfl ht⟩,
            ⟨⟨rfl, rfl, fun _ τ hb ht hτ => R.mulN (8) (i) (show ev _ _ (.const (.int .i64 8)) = some (.int ((8 : Nat) : Int)) from rfl) (evt (hτ 30 _ rfl)) (by first | omega | (simp only [List.length_map, List.length_append, List.length_cons, List.length_nil, List.length_take, List.length_drop, List.length_replicate]; omega) | (simp; omega)) ht⟩,
            ⟨⟨rfl, rfl, fun _ τ hb ht hτ => R.bin (evt (hτ 29 _ rfl)) (evt (hτ 31 _ rfl)) rfl (show (0 : Int) ≤ _ by first | omega | (simp only [List.length_map, List.length_append, List.length_cons, List.length_nil, List.length_take, List.length_drop, List.length_replicate]; omega) | (simp; omega)) ht⟩,
            ⟨⟨rfl, rfl, fun _ τ hb ht hτ => R.bin (evt (hτ 21 _ rfl)) (evt (hτ 32 _ rfl)) rfl trivial ht⟩,
            ⟨⟨rfl, rfl, fun _ τ hb ht hτ => R.nilcP (hτ 19 _ rfl) ht⟩,
            trivial⟩⟩⟩⟩⟩⟩⟩⟩⟩⟩⟩⟩⟩⟩⟩⟩⟩, rfl, rfl, rfl⟩)
          rfl (bx' := [(5, .var _), (2, .var _)]) rfl (n' := 48) rfl (⟨rfl, _, R.stZ (show Sg.get _ 34 = some _ from rfl) (show Sg.box _ 2 = some _ from rfl) rfl (evt (show Sg.get _ 33 = some _ from rfl)) (by rfl) (by rfl) (by rfl) (by rfl) rfl, ⟨[0, 2, 5, 11, 12, 15], [(0, _), (2, _), (5, _), (11, _), (12, _), (15, _)], [(5, .var _), (2, .var _)], 48, rfl, rfl, rfl, ?_⟩⟩)
        refine W.line (n := 2) (by decide) (its := [⟨35, _, true⟩, ⟨15, _, true⟩]) (ks := []) (kk := []) (live := [0, 2, 5, 11, 12, 15]) (env' := [(0, _), (2, _), (5, _), (11, _), (12, _), (15, _)])
          (⟨Nat.le_of_ble_eq_true rfl, rfl,
            ⟨⟨rfl, rfl, fun _ τ hb ht hτ => R.addN (i) (1) (evt (hτ 15 _ rfl)) (show ev _ _ (.const (.int .i64 1)) = some (.int ((1 : Nat) : Int)) from rfl) (by first | omega | (simp only [List.length_map, List.length_append, List.length_cons, List.length_nil, List.length_take, List.length_drop, List.length_replicate]; omega) | (simp; omega)) ht⟩,
            ⟨⟨rfl, rfl, fun _ τ hb ht hτ => R.mov (evt (hτ 35 _ rfl)) rfl ht⟩,
            trivial⟩⟩, rfl, rfl, rfl⟩)
          rfl (bx' := [(5, .var _), (2, .var _)]) rfl (n' := 48) rfl (⟨[0, 2, 5, 11, 12, 15], [(0, _), (2, _), (5, _), (11, _), (12, _), (15, _)], [(5, .var _), (2, .var _)], 48, rfl, rfl, rfl, ?_⟩)
        exact ⟨⟨(i + 1), (by first | omega | (simp only [List.length_map, List.length_append, List.length_cons, List.length_nil, List.length_take, List.length_drop, List.length_replicate]; omega) | (simp; omega))⟩, rfl, (by simp only []; omega)⟩
      · obtain rfl : i = 4 := by omega
        refine W.exit ?_
        refine W.line (n := 2) (by decide) (its := [⟨36, _, true⟩, ⟨12, _, true⟩]) (ks := []) (kk := []) (live := [0, 2, 11, 12]) (env' := [(0, _), (2, _), (11, _), (12, _)])
          (⟨Nat.le_of_ble_eq_true rfl, rfl,
            ⟨⟨rfl, rfl, fun _ τ hb ht hτ => R.addN (1) (1) (evt (hτ 12 _ rfl)) (show ev _ _ (.const (.int .i64 1)) = some (.int ((1 : Nat) : Int)) from rfl) (by first | omega | (simp only [List.length_map, List.length_append, List.length_cons, List.length_nil, List.length_take, List.length_drop, List.length_replicate]; omega) | (simp; omega)) ht⟩,
            ⟨⟨rfl, rfl, fun _ τ hb ht hτ => R.mov (evt (hτ 36 _ rfl)) rfl ht⟩,
            trivial⟩⟩, rfl, rfl, rfl⟩)
          rfl (bx' := [(5, .var _), (2, .var _)]) rfl (n' := 48) rfl (⟨[0, 2, 11, 12], [(0, _), (2, _), (11, _), (12, _)], [(5, .var _), (2, .var _)], 48, rfl, rfl, rfl, ?_⟩)
        refine WU.step ?_
        show W _ _ _ _ _
        refine W.dropS (live := [0, 2, 11, 12]) (env' := [(0, _), (2, _), (11, _), (12, _)]) (bx' := [(5, .var _), (2, .var _)]) (n' := 48) rfl rfl rfl ?_
        refine W.dropB [2] (bx' := [(2, .var _)]) rfl rfl rfl (pin_sub hD rfl) ?_
        refine W.seq ?_
        refine W.line (n := 1) (by decide) (its := [⟨13, _, true⟩]) (ks := []) (kk := []) (live := [0, 2, 11, 12, 13]) (env' := [(0, _), (2, _), (11, _), (12, _), (13, _)])
          (⟨Nat.le_of_ble_eq_true rfl, rfl,
            ⟨⟨rfl, rfl, fun _ τ hb ht hτ => R.lssN (2) (4) (evt (hτ 12 _ rfl)) (show ev _ _ (.const (.int .i64 4)) = some (.int ((4 : Nat) : Int)) from rfl) ht⟩,
            trivial⟩, rfl, rfl, rfl⟩)
          rfl (bx' := [(2, .var _)]) rfl (n' := 48) rfl (⟨[0, 2, 11, 12, 13], [(0, _), (2, _), (11, _), (12, _), (13, _)], [(2, .var _)], 48, rfl, rfl, rfl, ?_⟩)
        refine W.seq ?_
        refine W.condT rfl (rfl) ?_
        refine W.skip ?_
        refine W.seq ?_
        refine W.block ?_
        refine W.seq ?_
        refine W.line (n := 3) (by decide) (its := [⟨14, _, true⟩]) (ks := []) (kk := []) (live := [0, 2, 11, 12, 14]) (env' := [(0, _), (2, _), (11, _), (12, _), (14, _)])
          (⟨Nat.le_of_ble_eq_true rfl, rfl,
            ⟨⟨rfl, rfl, fun _ τ hb ht hτ => R.ixG (2) (evt (hτ 11 _ rfl)) (evoI (evt (hτ 12 _ rfl))) rfl rfl rfl rfl rfl rfl rfl ht⟩,
            trivial⟩, rfl, rfl, rfl⟩)
          rfl (bx' := [(2, .var _)]) rfl (n' := 48) rfl (⟨rfl, _, R.alloc rfl (Nat.le_of_ble_eq_true rfl), ⟨rfl, _, R.stP (show Sg.get _ 5 = some _ from rfl) (show Sg.box _ 5 = some _ from rfl) rfl (evt (show Sg.get _ 14 = some _ from rfl)) rfl rfl (by rfl) (by rfl) rfl, ⟨[0, 2, 5, 11, 12], [(0, _), (2, _), (5, _), (11, _), (12, _)], [(5, .var _), (2, .var _)], 48, rfl, rfl, rfl, ?_⟩⟩⟩)
        refine W.seq ?_
        refine W.line (n := 1) (by decide) (its := [⟨15, _, true⟩]) (ks := []) (kk := []) (live := [0, 2, 5, 11, 12, 15]) (env' := [(0, _), (2, _), (5, _), (11, _), (12, _), (15, _)])
          (⟨Nat.le_of_ble_eq_true rfl, rfl,
            ⟨⟨rfl, rfl, fun _ τ hb ht hτ => R.mov (show ev _ _ (.const (.int .i64 0)) = some (.int ((0 : Nat) : Int)) from rfl) rfl ht⟩,
            trivial⟩, rfl, rfl, rfl⟩)
          rfl (bx' := [(5, .var _), (2, .var _)]) rfl (n' := 48) rfl (⟨[0, 2, 5, 11, 12, 15], [(0, _), (2, _), (5, _), (11, _), (12, _), (15, _)], [(5, .var _), (2, .var _)], 48, rfl, rfl, rfl, ?_⟩)
        refine W.block ?_
        refine W.loop (α := {q__ : Nat // q__ ≤ 4}) (fun q__ => ⟨48, [(0, .sl none 1 (b.map D.u8)), (2, .ptr 2 0 []), (5, .ptr 5 0 []), (11, .agg [.agg [.int ((0 : Nat) : Int), .ptr 2 0 [0]], .agg [.int ((68 : Nat) : Int), .ptr 2 65 [3]], .agg [.int ((72 : Nat) : Int), .ptr 2 66 [4]], .agg [.int ((76 : Nat) : Int), .ptr 2 67 [5]]]), (12, .int ((2 : Nat) : Int)), (15, .int ((q__.1 : Nat) : Int))], [(5, .var (.agg [.int ((72 : Nat) : Int), .ptr 2 66 [4]])), (2, .var (.agg [.u32 (num b 0), hashD zero32, hashD zero32, .u32 (num b 68), .u32 (rdN b 72 q__.1), .u32 0]))]⟩) (fun q__ => 4 - q__.1) ⟨(0), (by first | omega | (simp only [List.length_map, List.length_append, List.length_cons, List.length_nil, List.length_take, List.length_drop, List.length_replicate]; omega) | (simp; omega))⟩ rfl ?_
        rintro ⟨i, hi⟩
        show W _ _ _ _ ⟨48, [(0, .sl none 1 (b.map D.u8)), (2, .ptr 2 0 []), (5, .ptr 5 0 []), (11, .agg [.agg [.int ((0 : Nat) : Int), .ptr 2 0 [0]], .agg [.int ((68 : Nat) : Int), .ptr 2 65 [3]], .agg [.int ((72 : Nat) : Int), .ptr 2 66 [4]], .agg [.int ((76 : Nat) : Int), .ptr 2 67 [5]]]), (12, .int ((2 : Nat) : Int)), (15, .int ((i : Nat) : Int))], [(5, .var (.agg [.int ((72 : Nat) : Int), .ptr 2 66 [4]])), (2, .var (.agg [.u32 (num b 0), hashD zero32, hashD zero32, .u32 (num b 68), .u32 (rdN b 72 i), .u32 0]))]⟩
        have hi : i ≤ 4 := hi
        refine W.seq ?_
        refine W.line (n := 1) (by decide) (its := [⟨16, _, true⟩]) (ks := []) (kk := []) (live := [0, 2, 5, 11, 12, 15, 16]) (env' := [(0, _), (2, _), (5, _), (11, _), (12, _), (15, _), (16, _)])
          (⟨Nat.le_of_ble_eq_true rfl, rfl,
            ⟨⟨rfl, rfl, fun _ τ hb ht hτ => R.lssN (i) (4) (evt (hτ 15 _ rfl)) (show ev _ _ (.const (.int .i64 4)) = some (.int ((4 : Nat) : Int)) from rfl) ht⟩,
            trivial⟩, rfl, rfl, rfl⟩)
          rfl (bx' := [(5, .var _), (2, .var _)]) rfl (n' := 48) rfl (⟨[0, 2, 5, 11, 12, 15, 16], [(0, _), (2, _), (5, _), (11, _), (12, _), (15, _), (16, _)], [(5, .var _), (2, .var _)], 48, rfl, rfl, rfl, ?_⟩)
        refine W.seq ?_
        refine W.condD rfl (fun hc16 => ?_) (fun hc16 => ?_)
        · refine W.skip ?_
          refine W.seq ?_
          refine W.block ?_
          refine W.seq ?_
          refine W.line (n := 2) (by decide) (its := [⟨17, _, true⟩, ⟨6, _, true⟩]) (ks := []) (kk := []) (live := [0, 2, 5, 6, 11, 12, 15]) (env' := [(0, _), (2, _), (5, _), (6, _), (11, _), (12, _), (15, _)])
            (⟨Nat.le_of_ble_eq_true rfl, rfl,
              ⟨⟨rfl, rfl, fun _ τ hb ht hτ => R.mov (evt (hτ 15 _ rfl)) rfl ht⟩,
              ⟨⟨rfl, rfl, fun _ τ hb ht hτ => R.asg (evt (hτ 17 _ rfl)) rfl ht⟩,
              trivial⟩⟩, rfl, rfl, rfl⟩)
            rfl (bx' := [(5, .var _), (2, .var _)]) rfl (n' := 48) rfl (⟨[0, 2, 5, 6, 11, 12, 15], [(0, _), (2, _), (5, _), (6, _), (11, _), (12, _), (15, _)], [(5, .var _), (2, .var _)], 48, rfl, rfl, rfl, ?_⟩)
          refine W.draw (m := 17) (an := [0, 1, 3, 7, 0, 0, 32, 0, 224, 496, 1008, 2032, 0, 4096, 16368, 32767, 65535, 131071]) hP (by decide) rfl (its := [⟨18, _, true⟩, ⟨19, _, true⟩, ⟨20, _, true⟩, ⟨21, _, true⟩, ⟨22, _, true⟩, ⟨23, _, true⟩, ⟨24, _, true⟩, ⟨25, _, true⟩, ⟨26, _, true⟩, ⟨27, _, true⟩, ⟨28, _, true⟩, ⟨29, _, true⟩, ⟨30, _, true⟩, ⟨31, _, true⟩, ⟨32, _, true⟩, ⟨33, _, true⟩, ⟨34, _, true⟩]) (ks := []) (kk := []) (live := [0, 2, 5, 11, 12, 15, 33, 34]) (env' := [(0, _), (2, _), (5, _), (11, _), (12, _), (15, _), (33, _), (34, _)])
            (⟨Nat.le_of_ble_eq_true rfl, rfl,
              ⟨⟨rfl, rfl, fun _ τ hb ht hτ => R.fdP (hτ 5 _ rfl) ht⟩,
              ⟨⟨rfl, rfl, fun _ τ hb ht hτ => R.ldP (hτ 18 _ rfl) (hb 5 _ rfl) rfl rfl rfl rfl ht⟩,
              ⟨⟨rfl, rfl, fun _ τ hb ht hτ => R.nilcP (hτ 19 _ rfl) ht⟩,
              ⟨⟨rfl, rfl, fun _ τ hb ht hτ => R.ldP (hτ 20 _ rfl) (hb 2 _ rfl) rfl rfl rfl rfl ht⟩,
              ⟨⟨rfl, rfl, fun _ τ hb ht hτ => R.mov (evt (hτ 0 _ rfl)) rfl ht⟩,
              ⟨⟨rfl, rfl, fun _ τ hb ht hτ => R.fdP (hτ 5 _ rfl) ht⟩,
              ⟨⟨rfl, rfl, fun _ τ hb ht hτ => R.ldP (hτ 23 _ rfl) (hb 5 _ rfl) rfl rfl rfl rfl ht⟩,
              ⟨⟨rfl, rfl, fun _ τ hb ht hτ => R.mov (evt (hτ 6 _ rfl)) rfl ht⟩,
              ⟨⟨rfl, rfl, fun _ τ hb ht hτ => R.addN (72) (i) (evt (hτ 24 _ rfl)) (evt (hτ 25 _ rfl)) (by first | omega | (simp only [List.length_map, List.length_append, List.length_cons, List.length_nil, List.length_take, List.length_drop, List.length_replicate]; omega) | (simp; omega)) ht⟩,
              ⟨⟨rfl, rfl, fun _ τ hb ht hτ => R.idxN ((72 + i)) (SC.sl (hτ 22 _ rfl)) (evoI (evt (hτ 26 _ rfl))) rfl (by first | omega | (simp only [List.length_map, List.length_append, List.length_cons, List.length_nil, List.length_take, List.length_drop, List.length_replicate]; omega) | (simp; omega)) ht (by decide)⟩,
              ⟨⟨rfl, rfl, fun _ τ hb ht hτ => R.ldE (hτ 27 _ rfl) (SC.sl (hτ 22 _ rfl)) (map_get! (l := b) (by first | omega | (simp only [List.length_map, List.length_append, List.length_cons, List.length_nil, List.length_take, List.length_drop, List.length_replicate]; omega) | (simp; omega))) rfl rfl rfl rfl ht⟩,
              ⟨⟨rfl, rfl, fun _ τ hb ht hτ => R.conv (evt (hτ 28 _ rfl)) rfl ht⟩,
              ⟨⟨rfl, rfl, fun _ τ hb ht hτ => R.mov (evt (hτ 6 _ rfl)) rfl ht⟩,
              ⟨⟨rfl, rfl, fun _ τ hb ht hτ => R.mulN (8) (i) (show ev _ _ (.const (.int .i64 8)) = some (.int ((8 : Nat) : Int)) from rfl) (evt (hτ 30 _ rfl)) (by first | omega | (simp only [List.length_map, List.length_append, List.length_cons, List.length_nil, List.length_take, List.length_drop, List.length_replicate]; omega) | (simp; omega)) ht⟩,
              ⟨⟨rfl, rfl, fun _ τ hb ht hτ => R.bin (evt (hτ 29 _ rfl)) (evt (hτ 31 _ rfl)) rfl (show (0 : Int) ≤ _ by first | omega | (simp only [List.length_map, List.length_append, List.length_cons, List.length_nil, List.length_take, List.length_drop, List.length_replicate]; omega) | (simp; omega)) ht⟩,
              ⟨⟨rfl, rfl, fun _ τ hb ht hτ => R.bin (evt (hτ 21 _ rfl)) (evt (hτ 32 _ rfl)) rfl trivial ht⟩,
              ⟨⟨rfl, rfl, fun _ τ hb ht hτ => R.nilcP (hτ 19 _ rfl) ht⟩,
              trivial⟩⟩⟩⟩⟩⟩⟩⟩⟩⟩⟩⟩⟩⟩⟩⟩⟩, rfl, rfl, rfl⟩)
            rfl (bx' := [(5, .var _), (2, .var _)]) rfl (n' := 48) rfl (⟨rfl, _, R.stZ (show Sg.get _ 34 = some _ from rfl) (show Sg.box _ 2 = some _ from rfl) rfl (evt (show Sg.get _ 33 = some _ from rfl)) (by rfl) (by rfl) (by rfl) (by rfl) rfl, ⟨[0, 2, 5, 11, 12, 15], [(0, _), (2, _), (5, _), (11, _), (12, _), (15, _)], [(5, .var _), (2, .var _)], 48, rfl, rfl, rfl, ?_⟩⟩)
          refine W.line (n := 2) (by decide) (its := [⟨35, _, true⟩, ⟨15, _, true⟩]) (ks := []) (kk := []) (live := [0, 2, 5, 11, 12, 15]) (env' := [(0, _), (2, _), (5, _), (11, _), (12, _), (15, _)])
            (⟨Nat.le_of_ble_eq_true rfl, rfl,
              ⟨⟨rfl, rfl, fun _ τ hb ht hτ => R.addN (i) (1) (evt (hτ 15 _ rfl)) (show ev _ _ (.const (.int .i64 1)) = some (.int ((1 : Nat) : Int)) from rfl) (by first | omega | (simp only [List.length_map, List.length_append, List.length_cons, List.length_nil, List.length_take, List.length_drop, List.length_replicate]; omega) | (simp; omega)) ht⟩,
              ⟨⟨rfl, rfl, fun _ τ hb ht hτ => R.mov (evt (hτ 35 _ rfl)) rfl ht⟩,
              trivial⟩⟩, rfl, rfl, rfl⟩)
            rfl (bx' := [(5, .var _), (2, .var _)]) rfl (n' := 48) rfl (⟨[0, 2, 5, 11, 12, 15], [(0, _), (2, _), (5, _), (11, _), (12, _), (15, _)], [(5, .var _), (2, .var _)], 48, rfl, rfl, rfl, ?_⟩)
          exact ⟨⟨(i + 1), (by first | omega | (simp only [List.length_map, List.length_append, List.length_cons, List.length_nil, List.length_take, List.length_drop, List.length_replicate]; omega) | (simp; omega))⟩, rfl, (by simp only []; omega)⟩
        · obtain rfl : i = 4 := by omega
          refine W.exit ?_
          refine W.line (n := 2) (by decide) (its := [⟨36, _, true⟩, ⟨12, _, true⟩]) (ks := []) (kk := []) (live := [0, 2, 11, 12]) (env' := [(0, _), (2, _), (11, _), (12, _)])
            (⟨Nat.le_of_ble_eq_true rfl, rfl,
              ⟨⟨rfl, rfl, fun _ τ hb ht hτ => R.addN (2) (1) (evt (hτ 12 _ rfl)) (show ev _ _ (.const (.int .i64 1)) = some (.int ((1 : Nat) : Int)) from rfl) (by first | omega | (simp only [List.length_map, List.length_append, List.length_cons, List.length_nil, List.length_take, List.length_drop, List.length_replicate]; omega) | (simp; omega)) ht⟩,
              ⟨⟨rfl, rfl, fun _ τ hb ht hτ => R.mov (evt (hτ 36 _ rfl)) rfl ht⟩,
              trivial⟩⟩, rfl, rfl, rfl⟩)
            rfl (bx' := [(5, .var _), (2, .var _)]) rfl (n' := 48) rfl (⟨[0, 2, 11, 12], [(0, _), (2, _), (11, _), (12, _)], [(5, .var _), (2, .var _)], 48, rfl, rfl, rfl, ?_⟩)
          refine WU.step ?_
          show W _ _ _ _ _
          refine W.dropS (live := [0, 2, 11, 12]) (env' := [(0, _), (2, _), (11, _), (12, _)]) (bx' := [(5, .var _), (2, .var _)]) (n' := 48) rfl rfl rfl ?_
          refine W.dropB [2] (bx' := [(2, .var _)]) rfl rfl rfl (pin_sub hD rfl) ?_
          refine W.seq ?_
          refine W.line (n := 1) (by decide) (its := [⟨13, _, true⟩]) (ks := []) (kk := []) (live := [0, 2, 11, 12, 13]) (env' := [(0, _), (2, _), (11, _), (12, _), (13, _)])
            (⟨Nat.le_of_ble_eq_true rfl, rfl,
              ⟨⟨rfl, rfl, fun _ τ hb ht hτ => R.lssN (3) (4) (evt (hτ 12 _ rfl)) (show ev _ _ (.const (.int .i64 4)) = some (.int ((4 : Nat) : Int)) from rfl) ht⟩,
              trivial⟩, rfl, rfl, rfl⟩)
            rfl (bx' := [(2, .var _)]) rfl (n' := 48) rfl (⟨[0, 2, 11, 12, 13], [(0, _), (2, _), (11, _), (12, _), (13, _)], [(2, .var _)], 48, rfl, rfl, rfl, ?_⟩)
          refine W.seq ?_
          refine W.condT rfl (rfl) ?_
          refine W.skip ?_
          refine W.seq ?_
          refine W.block ?_
          refine W.seq ?_
          refine W.line (n := 3) (by decide) (its := [⟨14, _, true⟩]) (ks := []) (kk := []) (live := [0, 2, 11, 12, 14]) (env' := [(0, _), (2, _), (11, _), (12, _), (14, _)])
            (⟨Nat.le_of_ble_eq_true rfl, rfl,
              ⟨⟨rfl, rfl, fun _ τ hb ht hτ => R.ixG (3) (evt (hτ 11 _ rfl)) (evoI (evt (hτ 12 _ rfl))) rfl rfl rfl rfl rfl rfl rfl ht⟩,
              trivial⟩, rfl, rfl, rfl⟩)
            rfl (bx' := [(2, .var _)]) rfl (n' := 48) rfl (⟨rfl, _, R.alloc rfl (Nat.le_of_ble_eq_true rfl), ⟨rfl, _, R.stP (show Sg.get _ 5 = some _ from rfl) (show Sg.box _ 5 = some _ from rfl) rfl (evt (show Sg.get _ 14 = some _ from rfl)) rfl rfl (by rfl) (by rfl) rfl, ⟨[0, 2, 5, 11, 12], [(0, _), (2, _), (5, _), (11, _), (12, _)], [(5, .var _), (2, .var _)], 48, rfl, rfl, rfl, ?_⟩⟩⟩)
          refine W.seq ?_
          refine W.line (n := 1) (by decide) (its := [⟨15, _, true⟩]) (ks := []) (kk := []) (live := [0, 2, 5, 11, 12, 15]) (env' := [(0, _), (2, _), (5, _), (11, _), (12, _), (15, _)])
            (⟨Nat.le_of_ble_eq_true rfl, rfl,
              ⟨⟨rfl, rfl, fun _ τ hb ht hτ => R.mov (show ev _ _ (.const (.int .i64 0)) = some (.int ((0 : Nat) : Int)) from rfl) rfl ht⟩,
              trivial⟩, rfl, rfl, rfl⟩)
            rfl (bx' := [(5, .var _), (2, .var _)]) rfl (n' := 48) rfl (⟨[0, 2, 5, 11, 12, 15], [(0, _), (2, _), (5, _), (11, _), (12, _), (15, _)], [(5, .var _), (2, .var _)], 48, rfl, rfl, rfl, ?_⟩)
          refine W.block ?_
          refine W.loop (α := {q__ : Nat // q__ ≤ 4}) (fun q__ => ⟨48, [(0, .sl none 1 (b.map D.u8)), (2, .ptr 2 0 []), (5, .ptr 5 0 []), (11, .agg [.agg [.int ((0 : Nat) : Int), .ptr 2 0 [0]], .agg [.int ((68 : Nat) : Int), .ptr 2 65 [3]], .agg [.int ((72 : Nat) : Int), .ptr 2 66 [4]], .agg [.int ((76 : Nat) : Int), .ptr 2 67 [5]]]), (12, .int ((3 : Nat) : Int)), (15, .int ((q__.1 : Nat) : Int))], [(5, .var (.agg [.int ((76 : Nat) : Int), .ptr 2 67 [5]])), (2, .var (.agg [.u32 (num b 0), hashD zero32, hashD zero32, .u32 (num b 68), .u32 (num b 72), .u32 (rdN b 76 q__.1)]))]⟩) (fun q__ => 4 - q__.1) ⟨(0), (by first | omega | (simp only [List.length_map, List.length_append, List.length_cons, List.length_nil, List.length_take, List.length_drop, List.length_replicate]; omega) | (simp; omega))⟩ rfl ?_
          rintro ⟨i, hi⟩
          show W _ _ _ _ ⟨48, [(0, .sl none 1 (b.map D.u8)), (2, .ptr 2 0 []), (5, .ptr 5 0 []), (11, .agg [.agg [.int ((0 : Nat) : Int), .ptr 2 0 [0]], .agg [.int ((68 : Nat) : Int), .ptr 2 65 [3]], .agg [.int ((72 : Nat) : Int), .ptr 2 66 [4]], .agg [.int ((76 : Nat) : Int), .ptr 2 67 [5]]]), (12, .int ((3 : Nat) : Int)), (15, .int ((i : Nat) : Int))], [(5, .var (.agg [.int ((76 : Nat) : Int), .ptr 2 67 [5]])), (2, .var (.agg [.u32 (num b 0), hashD zero32, hashD zero32, .u32 (num b 68), .u32 (num b 72), .u32 (rdN b 76 i)]))]⟩
          have hi : i ≤ 4 := hi
          refine W.seq ?_
          refine W.line (n := 1) (by decide) (its := [⟨16, _, true⟩]) (ks := []) (kk := []) (live := [0, 2, 5, 11, 12, 15, 16]) (env' := [(0, _), (2, _), (5, _), (11, _), (12, _), (15, _), (16, _)])
            (⟨Nat.le_of_ble_eq_true rfl, rfl,
              ⟨⟨rfl, rfl, fun _ τ hb ht hτ => R.lssN (i) (4) (evt (hτ 15 _ rfl)) (show ev _ _ (.const (.int .i64 4)) = some (.int ((4 : Nat) : Int)) from rfl) ht⟩,
              trivial⟩, rfl, rfl, rfl⟩)
            rfl (bx' := [(5, .var _), (2, .var _)]) rfl (n' := 48) rfl (⟨[0, 2, 5, 11, 12, 15, 16], [(0, _), (2, _), (5, _), (11, _), (12, _), (15, _), (16, _)], [(5, .var _), (2, .var _)], 48, rfl, rfl, rfl, ?_⟩)
          refine W.seq ?_
          refine W.condD rfl (fun hc16 => ?_) (fun hc16 => ?_)
          · refine W.skip ?_
            refine W.seq ?_
            refine W.block ?_
            refine W.seq ?_
            refine W.line (n := 2) (by decide) (its := [⟨17, _, true⟩, ⟨6, _, true⟩]) (ks := []) (kk := []) (live := [0, 2, 5, 6, 11, 12, 15]) (env' := [(0, _), (2, _), (5, _), (6, _), (11, _), (12, _), (15, _)])
              (⟨Nat.le_of_ble_eq_true rfl, rfl,
                ⟨⟨rfl, rfl, fun _ τ hb ht hτ => R.mov (evt (hτ 15 _ rfl)) rfl ht⟩,
                ⟨⟨rfl, rfl, fun _ τ hb ht hτ => R.asg (evt (hτ 17 _ rfl)) rfl ht⟩,
                trivial⟩⟩, rfl, rfl, rfl⟩)
              rfl (bx' := [(5, .var _), (2, .var _)]) rfl (n' := 48) rfl (⟨[0, 2, 5, 6, 11, 12, 15], [(0, _), (2, _), (5, _), (6, _), (11, _), (12, _), (15, _)], [(5, .var _), (2, .var _)], 48, rfl, rfl, rfl, ?_⟩)
            refine W.draw (m := 17) (an := [0, 1, 3, 7, 0, 0, 32, 0, 224, 496, 1008, 2032, 0, 4096, 16368, 32767, 65535, 131071]) hP (by decide) rfl (its := [⟨18, _, true⟩, ⟨19, _, true⟩, ⟨20, _, true⟩, ⟨21, _, true⟩, ⟨22, _, true⟩, ⟨23, _, true⟩, ⟨24, _, true⟩, ⟨25, _, true⟩, ⟨26, _, true⟩, ⟨27, _, true⟩, ⟨28, _, true⟩, ⟨29, _, true⟩, ⟨30, _, true⟩, ⟨31, _, true⟩, ⟨32, _, true⟩, ⟨33, _, true⟩, ⟨34, _, true⟩]) (ks := []) (kk := []) (live := [0, 2, 5, 11, 12, 15, 33, 34]) (env' := [(0, _), (2, _), (5, _), (11, _), (12, _), (15, _), (33, _), (34, _)])
              (⟨Nat.le_of_ble_eq_true rfl, rfl,
                ⟨⟨rfl, rfl, fun _ τ hb ht hτ => R.fdP (hτ 5 _ rfl) ht⟩,
                ⟨⟨rfl, rfl, fun _ τ hb ht hτ => R.ldP (hτ 18 _ rfl) (hb 5 _ rfl) rfl rfl rfl rfl ht⟩,
                ⟨⟨rfl, rfl, fun _ τ hb ht hτ => R.nilcP (hτ 19 _ rfl) ht⟩,
                ⟨⟨rfl, rfl, fun _ τ hb ht hτ => R.ldP (hτ 20 _ rfl) (hb 2 _ rfl) rfl rfl rfl rfl ht⟩,
                ⟨⟨rfl, rfl, fun _ τ hb ht hτ => R.mov (evt (hτ 0 _ rfl)) rfl ht⟩,
                ⟨⟨rfl, rfl, fun _ τ hb ht hτ => R.fdP (hτ 5 _ rfl) ht⟩,
                ⟨⟨rfl, rfl, fun _ τ hb ht hτ => R.ldP (hτ 23 _ rfl) (hb 5 _ rfl) rfl rfl rfl rfl ht⟩,
                ⟨⟨rfl, rfl, fun _ τ hb ht hτ => R.mov (evt (hτ 6 _ rfl)) rfl ht⟩,
                ⟨⟨rfl, rfl, fun _ τ hb ht hτ => R.addN (76) (i) (evt (hτ 24 _ rfl)) (evt (hτ 25 _ rfl)) (by first | omega | (simp only [List.length_map, List.length_append, List.length_cons, List.length_nil, List.length_take, List.length_drop, List.length_replicate]; omega) | (simp; omega)) ht⟩,
                ⟨⟨rfl, rfl, fun _ τ hb ht hτ => R.idxN ((76 + i)) (SC.sl (hτ 22 _ rfl)) (evoI (evt (hτ 26 _ rfl))) rfl (by first | omega | (simp only [List.length_map, List.length_append, List.length_cons, List.length_nil, List.length_take, List.length_drop, List.length_replicate]; omega) | (simp; omega)) ht (by decide)⟩,
                ⟨⟨rfl, rfl, fun _ τ hb ht hτ => R.ldE (hτ 27 _ rfl) (SC.sl (hτ 22 _ rfl)) (map_get! (l := b) (by first | omega | (simp only [List.length_map, List.length_append, List.length_cons, List.length_nil, List.length_take, List.length_drop, List.length_replicate]; omega) | (simp; omega))) rfl rfl rfl rfl ht⟩,
                ⟨⟨rfl, rfl, fun _ τ hb ht hτ => R.conv (evt (hτ 28 _ rfl)) rfl ht⟩,
                ⟨⟨rfl, rfl, fun _ τ hb ht hτ => R.mov (evt (hτ 6 _ rfl)) rfl ht⟩,
                ⟨⟨rfl, rfl, fun _ τ hb ht hτ => R.mulN (8) (i) (show ev _ _ (.const (.int .i64 8)) = some (.int ((8 : Nat) : Int)) from rfl) (evt (hτ 30 _ rfl)) (by first | omega | (simp only [List.length_map, List.length_append, List.length_cons, List.length_nil, List.length_take, List.length_drop, List.length_replicate]; omega) | (simp; omega)) ht⟩,
                ⟨⟨rfl, rfl, fun _ τ hb ht hτ => R.bin (evt (hτ 29 _ rfl)) (evt (hτ 31 _ rfl)) rfl (show (0 : Int) ≤ _ by first | omega | (simp only [List.length_map, List.length_append, List.length_cons, List.length_nil, List.length_take, List.length_drop, List.length_replicate]; omega) | (simp; omega)) ht⟩,
                ⟨⟨rfl, rfl, fun _ τ hb ht hτ => R.bin (evt (hτ 21 _ rfl)) (evt (hτ 32 _ rfl)) rfl trivial ht⟩,
                ⟨⟨rfl, rfl, fun _ τ hb ht hτ => R.nilcP (hτ 19 _ rfl) ht⟩,
                trivial⟩⟩⟩⟩⟩⟩⟩⟩⟩⟩⟩⟩⟩⟩⟩⟩⟩, rfl, rfl, rfl⟩)
              rfl (bx' := [(5, .var _), (2, .var _)]) rfl (n' := 48) rfl (⟨rfl, _, R.stZ (show Sg.get _ 34 = some _ from rfl) (show Sg.box _ 2 = some _ from rfl) rfl (evt (show Sg.get _ 33 = some _ from rfl)) (by rfl) (by rfl) (by rfl) (by rfl) rfl, ⟨[0, 2, 5, 11, 12, 15], [(0, _), (2, _), (5, _), (11, _), (12, _), (15, _)], [(5, .var _), (2, .var _)], 48, rfl, rfl, rfl, ?_⟩⟩)
            refine W.line (n := 2) (by decide) (its := [⟨35, _, true⟩, ⟨15, _, true⟩]) (ks := []) (kk := []) (live := [0, 2, 5, 11, 12, 15]) (env' := [(0, _), (2, _), (5, _), (11, _), (12, _), (15, _)])
              (⟨Nat.le_of_ble_eq_true rfl, rfl,
                ⟨⟨rfl, rfl, fun _ τ hb ht hτ => R.addN (i) (1) (evt (hτ 15 _ rfl)) (show ev _ _ (.const (.int .i64 1)) = some (.int ((1 : Nat) : Int)) from rfl) (by first | omega | (simp only [List.length_map, List.length_append, List.length_cons, List.length_nil, List.length_take, List.length_drop, List.length_replicate]; omega) | (simp; omega)) ht⟩,
                ⟨⟨rfl, rfl, fun _ τ hb ht hτ => R.mov (evt (hτ 35 _ rfl)) rfl ht⟩,
                trivial⟩⟩, rfl, rfl, rfl⟩)
              rfl (bx' := [(5, .var _), (2, .var _)]) rfl (n' := 48) rfl (⟨[0, 2, 5, 11, 12, 15], [(0, _), (2, _), (5, _), (11, _), (12, _), (15, _)], [(5, .var _), (2, .var _)], 48, rfl, rfl, rfl, ?_⟩)
            exact ⟨⟨(i + 1), (by first | omega | (simp only [List.length_map, List.length_append, List.length_cons, List.length_nil, List.length_take, List.length_drop, List.length_replicate]; omega) | (simp; omega))⟩, rfl, (by simp only []; omega)⟩
          · obtain rfl : i = 4 := by omega
            refine W.exit ?_
            refine W.line (n := 2) (by decide) (its := [⟨36, _, true⟩, ⟨12, _, true⟩]) (ks := []) (kk := []) (live := [0, 2, 11, 12]) (env' := [(0, _), (2, _), (11, _), (12, _)])
              (⟨Nat.le_of_ble_eq_true rfl, rfl,
                ⟨⟨rfl, rfl, fun _ τ hb ht hτ => R.addN (3) (1) (evt (hτ 12 _ rfl)) (show ev _ _ (.const (.int .i64 1)) = some (.int ((1 : Nat) : Int)) from rfl) (by first | omega | (simp only [List.length_map, List.length_append, List.length_cons, List.length_nil, List.length_take, List.length_drop, List.length_replicate]; omega) | (simp; omega)) ht⟩,
                ⟨⟨rfl, rfl, fun _ τ hb ht hτ => R.mov (evt (hτ 36 _ rfl)) rfl ht⟩,
                trivial⟩⟩, rfl, rfl, rfl⟩)
              rfl (bx' := [(5, .var _), (2, .var _)]) rfl (n' := 48) rfl (⟨[0, 2, 11, 12], [(0, _), (2, _), (11, _), (12, _)], [(5, .var _), (2, .var _)], 48, rfl, rfl, rfl, ?_⟩)
            refine WU.step ?_
            show W _ _ _ _ _
            refine W.dropS (live := [0, 2, 11, 12]) (env' := [(0, _), (2, _), (11, _), (12, _)]) (bx' := [(5, .var _), (2, .var _)]) (n' := 48) rfl rfl rfl ?_
            refine W.dropB [2] (bx' := [(2, .var _)]) rfl rfl rfl (pin_sub hD rfl) ?_
            refine W.seq ?_
            refine W.line (n := 1) (by decide) (its := [⟨13, _, true⟩]) (ks := []) (kk := []) (live := [0, 2, 11, 12, 13]) (env' := [(0, _), (2, _), (11, _), (12, _), (13, _)])
              (⟨Nat.le_of_ble_eq_true rfl, rfl,
                ⟨⟨rfl, rfl, fun _ τ hb ht hτ => R.lssN (4) (4) (evt (hτ 12 _ rfl)) (show ev _ _ (.const (.int .i64 4)) = some (.int ((4 : Nat) : Int)) from rfl) ht⟩,
                trivial⟩, rfl, rfl, rfl⟩)
              rfl (bx' := [(2, .var _)]) rfl (n' := 48) rfl (⟨[0, 2, 11, 12, 13], [(0, _), (2, _), (11, _), (12, _), (13, _)], [(2, .var _)], 48, rfl, rfl, rfl, ?_⟩)
            refine W.seq ?_
            refine W.condF rfl (rfl) ?_
            refine W.exit ?_
            refine W.seq ?_
            refine W.draw (m := 4) (an := [0, 1, 0, 4, 15]) hP (by decide) rfl (its := [⟨37, _, true⟩, ⟨38, _, true⟩, ⟨39, _, true⟩, ⟨40, _, true⟩]) (ks := []) (kk := []) (live := [0, 2, 38, 40]) (env' := [(0, _), (2, _), (38, _), (40, _)])
              (⟨Nat.le_of_ble_eq_true rfl, rfl,
                ⟨⟨rfl, rfl, fun _ τ hb ht hτ => R.fdP (hτ 2 _ rfl) ht⟩,
                ⟨⟨rfl, rfl, fun _ τ hb ht hτ => R.slAN (0) (32) (32) (hτ 37 _ rfl) (hb 2 _ rfl) rfl rfl rfl rfl rfl (by first | omega | (simp only [List.length_map, List.length_append, List.length_cons, List.length_nil, List.length_take, List.length_drop, List.length_replicate]; omega) | (simp; omega)) (by first | omega | (simp only [List.length_map, List.length_append, List.length_cons, List.length_nil, List.length_take, List.length_drop, List.length_replicate]; omega) | (simp; omega)) rfl ht⟩,
                ⟨⟨rfl, rfl, fun _ τ hb ht hτ => R.mov (evt (hτ 0 _ rfl)) rfl ht⟩,
                ⟨⟨rfl, rfl, fun _ τ hb ht hτ => R.slIN (4) (b.length) ((b.length - 4)) (evt (hτ 39 _ rfl)) (evoI (show ev _ _ (.const (.int .i64 4)) = some (.int ((4 : Nat) : Int)) from rfl)) rfl rfl (by simp) (by first | omega | (simp only [List.length_map, List.length_append, List.length_cons, List.length_nil, List.length_take, List.length_drop, List.length_replicate]; omega) | (simp; omega)) (by first | omega | (simp only [List.length_map, List.length_append, List.length_cons, List.length_nil, List.length_take, List.length_drop, List.length_replicate]; omega) | (simp; omega)) rfl (rest_map) ht⟩,
                trivial⟩⟩⟩⟩, rfl, rfl, rfl⟩)
              rfl (bx' := [(2, .var _)]) rfl (n' := 48) rfl (⟨rfl, _, R.cpAE (k := 32) (l2 := (((b.drop 4).take 32).map D.u8)) (show Sg.get _ 38 = some _ from rfl) (show Sg.box _ 2 = some _ from rfl) rfl (by decide) (SrcO.sc (SC.sl (show Sg.get _ 40 = some _ from rfl)) (pur_map (fun _ => rfl))) (np_map (fun _ => rfl)) (Nat.le_of_ble_eq_true rfl) (by simp [h80]) (get_copy b 4) rfl, ⟨[0, 2], [(0, _), (2, _)], [(2, .var _)], 48, rfl, rfl, rfl, ?_⟩⟩)
            refine W.seq ?_
            refine W.draw (m := 4) (an := [0, 1, 0, 4, 15]) hP (by decide) rfl (its := [⟨42, _, true⟩, ⟨43, _, true⟩, ⟨44, _, true⟩, ⟨45, _, true⟩]) (ks := []) (kk := []) (live := [2, 43, 45]) (env' := [(2, _), (43, _), (45, _)])
              (⟨Nat.le_of_ble_eq_true rfl, rfl,
                ⟨⟨rfl, rfl, fun _ τ hb ht hτ => R.fdP (hτ 2 _ rfl) ht⟩,
                ⟨⟨rfl, rfl, fun _ τ hb ht hτ => R.slAN (0) (32) (32) (hτ 42 _ rfl) (hb 2 _ rfl) rfl rfl rfl rfl rfl (by first | omega | (simp only [List.length_map, List.length_append, List.length_cons, List.length_nil, List.length_take, List.length_drop, List.length_replicate]; omega) | (simp; omega)) (by first | omega | (simp only [List.length_map, List.length_append, List.length_cons, List.length_nil, List.length_take, List.length_drop, List.length_replicate]; omega) | (simp; omega)) rfl ht⟩,
                ⟨⟨rfl, rfl, fun _ τ hb ht hτ => R.mov (evt (hτ 0 _ rfl)) rfl ht⟩,
                ⟨⟨rfl, rfl, fun _ τ hb ht hτ => R.slIN (36) (b.length) ((b.length - 36)) (evt (hτ 44 _ rfl)) (evoI (show ev _ _ (.const (.int .i64 36)) = some (.int ((36 : Nat) : Int)) from rfl)) rfl rfl (by simp) (by first | omega | (simp only [List.length_map, List.length_append, List.length_cons, List.length_nil, List.length_take, List.length_drop, List.length_replicate]; omega) | (simp; omega)) (by first | omega | (simp only [List.length_map, List.length_append, List.length_cons, List.length_nil, List.length_take, List.length_drop, List.length_replicate]; omega) | (simp; omega)) rfl (rest_map) ht⟩,
                trivial⟩⟩⟩⟩, rfl, rfl, rfl⟩)
              rfl (bx' := [(2, .var _)]) rfl (n' := 48) rfl (⟨rfl, _, R.cpAE (k := 32) (l2 := (((b.drop 36).take 32).map D.u8)) (show Sg.get _ 43 = some _ from rfl) (show Sg.box _ 2 = some _ from rfl) rfl (by decide) (SrcO.sc (SC.sl (show Sg.get _ 45 = some _ from rfl)) (pur_map (fun _ => rfl))) (np_map (fun _ => rfl)) (Nat.le_of_ble_eq_true rfl) (by simp [h80]) (get_copy b 36) rfl, ⟨[2], [(2, _)], [(2, .var _)], 48, rfl, rfl, rfl, ?_⟩⟩)
            refine W.seq ?_
            refine W.line (n := 3) (by decide) (its := [⟨47, _, true⟩]) (ks := []) (kk := []) (live := [2, 47]) (env' := [(2, _), (47, _)])
              (⟨Nat.le_of_ble_eq_true rfl, rfl,
                ⟨⟨rfl, rfl, fun _ τ hb ht hτ => R.ldP (hτ 2 _ rfl) (hb 2 _ rfl) rfl rfl rfl rfl ht⟩,
                trivial⟩, rfl, rfl, rfl⟩)
              rfl (bx' := [(2, .var _)]) rfl (n' := 48) rfl (⟨rfl, _, R.stZ (show Sg.get _ 2 = some _ from rfl) (show Sg.box _ 2 = some _ from rfl) rfl (evt (show Sg.get _ 47 = some _ from rfl)) (by rfl) (by rfl) (by rfl) (by rfl) rfl, ⟨rfl, _, R.asg (show ev _ _ (.const (.int .i64 0)) = some (.int ((0 : Nat) : Int)) from rfl) rfl (Nat.le_of_ble_eq_true rfl), ⟨[2, 3], [(2, _), (3, _)], [(2, .var _)], 48, rfl, rfl, rfl, ?_⟩⟩⟩)
            refine W.ret ?_
            exact Ends.many (.inr rfl) (.cons rfl rfl rfl (show LdT _ 26 68 true from inferInstance) (.cons rfl rfl rfl trivial .nil)) (by simp only [getS, if_neg hc9]; rfl) (show [(2, false), (3, true)].Nodup by decide)

theorem id_ok (h : HdS) (hw : h.wf) : Fn Tryd.prog gl 16 [hdrD h] (hashD (idS h)) := by
  refine Fn.of (n := 6) Tryd.func16 rfl rfl rfl (Nat.le_of_ble_eq_true rfl) fun C hC hD => ?_
  refine W.seq ?_
  refine W.line (n := 2) (by decide) (its := []) (ks := []) (kk := []) (live := [0]) (env' := [(0, _)])
    (⟨Nat.le_of_ble_eq_true rfl, rfl,
      trivial, rfl, rfl, rfl⟩)
    rfl (bx' := []) rfl (n' := 6) rfl (⟨rfl, _, R.box (evt (show Sg.get _ 0 = some _ from rfl)) rfl rfl (Nat.le_of_ble_eq_true rfl), ⟨rfl, _, R.alloc rfl (Nat.le_of_ble_eq_true rfl), ⟨[1, 2], [(1, _), (2, _)], [(2, .var _), (1, .var _)], 6, rfl, rfl, rfl, ?_⟩⟩⟩)
  refine W.seq ?_
  refine W.line (n := 4) (by decide) (its := [⟨3, _, true⟩, ⟨4, _, true⟩, ⟨5, _, true⟩]) (ks := []) (kk := []) (live := [2, 5]) (env' := [(2, _), (5, _)])
    (⟨Nat.le_of_ble_eq_true rfl, rfl,
      ⟨⟨rfl, rfl, fun _ τ hb ht hτ => R.ldP (hτ 1 _ rfl) (hb 1 _ rfl) rfl rfl rfl rfl ht⟩,
      ⟨⟨rfl, rfl, fun _ τ hb ht hτ => R.callG hC (put_ok h hw) (Bors.cons (Bor.pur (evt (hτ 3 _ rfl)) rfl rfl) Bors.nil) (FrsR.one (.sl _ _ _ (frs_map fun _ => .u8 _))) ht⟩,
      ⟨⟨rfl, rfl, fun _ τ hb ht hτ => R.callG hC (twice_ok (putS h) (by rw [putS_len h hw]; decide)) (Bors.cons (Bor.sc (SC.sl (hτ 4 _ rfl)) (brw_map (fun _ => rfl))) Bors.nil) (FrsR.one (frs_hash _)) ht⟩,
      trivial⟩⟩⟩, rfl, rfl, rfl⟩)
    rfl (bx' := [(2, .var _), (1, .var _)]) rfl (n' := 6) rfl (⟨rfl, _, R.stZ (show Sg.get _ 2 = some _ from rfl) (show Sg.box _ 2 = some _ from rfl) rfl (evt (show Sg.get _ 5 = some _ from rfl)) (by rfl) (by rfl) (by rfl) (by rfl) rfl, ⟨[2], [(2, _)], [(2, .var _), (1, .var _)], 6, rfl, rfl, rfl, ?_⟩⟩)
  refine W.ret ?_
  exact Ends.one' (.inr rfl) rfl (rfl) rfl rfl (show LdT _ 24 32 true from inferInstance)

theorem row_ok (l : List HdS) (hl : allW l) (hl0 : l.length ≤ 1000) : Fn Tryd.prog gl 21 [.sl none 68 (l.map hdrD)] (.sl (some 5) 1 ((rowS l).map D.u8)) := by
  refine Fn.of (n := 22) Tryd.func21 rfl rfl rfl (Nat.le_of_ble_eq_true rfl) fun C hC hD => ?_
  refine W.seq ?_
  refine W.line (n := 1) (by decide) (its := [⟨2, _, true⟩]) (ks := []) (kk := []) (live := [0]) (env' := [(0, _)])
    (⟨Nat.le_of_ble_eq_true rfl, rfl,
      ⟨⟨rfl, rfl, fun _ τ hb ht hτ => R.asg (show ev _ _ (.const (.slice none 0 0)) = some (.nils) from rfl) rfl ht⟩,
      trivial⟩, rfl, rfl, rfl⟩)
    rfl (bx' := []) rfl (n' := 22) rfl (⟨[0], [(0, _)], [], 22, rfl, rfl, rfl, ?_⟩)
  refine W.seq ?_
  refine W.line (n := 5) (by decide) (its := [⟨6, _, true⟩, ⟨7, _, true⟩, ⟨8, _, true⟩, ⟨9, _, true⟩, ⟨3, _, true⟩]) (ks := [(4, 9)]) (kk := [(4, 9)]) (live := [0, 3]) (env' := [(0, _), (3, _)])
    (⟨Nat.le_of_ble_eq_true rfl, rfl,
      ⟨⟨rfl, rfl, fun _ τ hb ht hτ => R.mov (evt (hτ 0 _ rfl)) rfl ht⟩,
      ⟨⟨rfl, rfl, fun _ τ hb ht hτ => R.lenE (SC.sl (hτ 6 _ rfl)) (List.length_map _) ht⟩,
      ⟨⟨rfl, rfl, fun _ τ hb ht hτ => R.mulN (80) (l.length) (show ev _ _ (.const (.int .i64 80)) = some (.int ((80 : Nat) : Int)) from rfl) (evt (hτ 7 _ rfl)) (by first | omega | (simp only [List.length_map, List.length_append, List.length_cons, List.length_nil, List.length_take, List.length_drop, List.length_replicate]; omega) | (simp; omega)) ht⟩,
      ⟨⟨rfl, rfl, fun _ τ hb ht hτ => R.mkC (m := 0) (n := (80 * l.length)) (show ev _ _ (.const (.int .i64 0)) = some (.int ((0 : Nat) : Int)) from rfl) (evt (hτ 8 _ rfl)) (by first | omega | (simp only [List.length_map, List.length_append, List.length_cons, List.length_nil, List.length_take, List.length_drop, List.length_replicate]; omega) | (simp; omega)) (by first | omega | (simp only [List.length_map, List.length_append, List.length_cons, List.length_nil, List.length_take, List.length_drop, List.length_replicate]; omega) | (simp; omega)) (by decide) ht⟩,
      ⟨⟨rfl, rfl, fun _ τ hb ht hτ => R.asgO (hτ 9 _ rfl) rfl ht (by decide)⟩,
      trivial⟩⟩⟩⟩⟩, rfl, rfl, rfl⟩)
    rfl (bx' := []) rfl (n' := 22) rfl (⟨[0, 3], [(0, _), (3, _)], [], 22, rfl, rfl, rfl, ?_⟩)
  refine W.seq ?_
  refine W.seq ?_
  refine W.line (n := 3) (by decide) (its := [⟨10, _, true⟩, ⟨11, _, true⟩, ⟨12, _, true⟩]) (ks := []) (kk := []) (live := [3, 10, 11, 12]) (env' := [(3, _), (10, _), (11, _), (12, _)])
    (⟨Nat.le_of_ble_eq_true rfl, rfl,
      ⟨⟨rfl, rfl, fun _ τ hb ht hτ => R.mov (evt (hτ 0 _ rfl)) rfl ht⟩,
      ⟨⟨rfl, rfl, fun _ τ hb ht hτ => R.lenE (SC.sl (hτ 10 _ rfl)) (List.length_map _) ht⟩,
      ⟨⟨rfl, rfl, fun _ τ hb ht hτ => R.mov (show ev _ _ (.const (.int .i64 0)) = some (.int ((0 : Nat) : Int)) from rfl) rfl ht⟩,
      trivial⟩⟩⟩, rfl, rfl, rfl⟩)
    rfl (bx' := []) rfl (n' := 22) rfl (⟨[3, 10, 11, 12], [(3, _), (10, _), (11, _), (12, _)], [], 22, rfl, rfl, rfl, ?_⟩)
  refine W.block ?_
  refine W.loop (α := {q__ : Nat // q__ ≤ l.length}) (fun q__ => ⟨22, [(3, .sl (some 5) 1 ((rowI l q__.1).map D.u8)), (10, .sl none 68 (l.map hdrD)), (11, .int ((l.length : Nat) : Int)), (12, .int ((q__.1 : Nat) : Int))], []⟩) (fun q__ => l.length - q__.1) ⟨(0), (by first | omega | (simp only [List.length_map, List.length_append, List.length_cons, List.length_nil, List.length_take, List.length_drop, List.length_replicate]; omega) | (simp; omega))⟩ rfl ?_
  rintro ⟨i, hi⟩
  show W _ _ _ _ ⟨22, [(3, .sl (some 5) 1 ((rowI l i).map D.u8)), (10, .sl none 68 (l.map hdrD)), (11, .int ((l.length : Nat) : Int)), (12, .int ((i : Nat) : Int))], []⟩
  have hi : i ≤ l.length := hi
  have hrl := rowI_len l hl i hi
  have hpl : i < l.length → (putS l[i]!).length = 80 := fun h => putS_len _ (hl.get h)
  refine W.seq ?_
  refine W.line (n := 1) (by decide) (its := [⟨13, _, true⟩]) (ks := []) (kk := []) (live := [3, 10, 11, 12, 13]) (env' := [(3, _), (10, _), (11, _), (12, _), (13, _)])
    (⟨Nat.le_of_ble_eq_true rfl, rfl,
      ⟨⟨rfl, rfl, fun _ τ hb ht hτ => R.lssN (i) (l.length) (evt (hτ 12 _ rfl)) (evt (hτ 11 _ rfl)) ht⟩,
      trivial⟩, rfl, rfl, rfl⟩)
    rfl (bx' := []) rfl (n' := 22) rfl (⟨[3, 10, 11, 12, 13], [(3, _), (10, _), (11, _), (12, _), (13, _)], [], 22, rfl, rfl, rfl, ?_⟩)
  refine W.seq ?_
  refine W.condD rfl (fun hc13 => ?_) (fun hc13 => ?_)
  · refine W.skip ?_
    refine W.seq ?_
    refine W.block ?_
    refine W.seq ?_
    refine W.line (n := 4) (by decide) (its := [⟨14, _, true⟩, ⟨15, _, true⟩]) (ks := []) (kk := []) (live := [3, 10, 11, 12, 15]) (env' := [(3, _), (10, _), (11, _), (12, _), (15, _)])
      (⟨Nat.le_of_ble_eq_true rfl, rfl,
        ⟨⟨rfl, rfl, fun _ τ hb ht hτ => R.idxN (i) (SC.sl (hτ 10 _ rfl)) (evoI (evt (hτ 12 _ rfl))) rfl (by first | omega | (simp only [List.length_map, List.length_append, List.length_cons, List.length_nil, List.length_take, List.length_drop, List.length_replicate]; omega) | (simp; omega)) ht (by decide)⟩,
        ⟨⟨rfl, rfl, fun _ τ hb ht hτ => R.ldE (hτ 14 _ rfl) (SC.sl (hτ 10 _ rfl)) (map_get! (l := l) (by first | omega | (simp only [List.length_map, List.length_append, List.length_cons, List.length_nil, List.length_take, List.length_drop, List.length_replicate]; omega) | (simp; omega))) rfl rfl rfl rfl ht⟩,
        trivial⟩⟩, rfl, rfl, rfl⟩)
      rfl (bx' := []) rfl (n' := 22) rfl (⟨rfl, _, R.alloc rfl (Nat.le_of_ble_eq_true rfl), ⟨rfl, _, R.stZ (show Sg.get _ 5 = some _ from rfl) (show Sg.box _ 5 = some _ from rfl) rfl (evt (show Sg.get _ 15 = some _ from rfl)) (by rfl) (by rfl) (by rfl) (by rfl) rfl, ⟨[3, 5, 10, 11, 12], [(3, _), (5, _), (10, _), (11, _), (12, _)], [(5, .var _)], 22, rfl, rfl, rfl, ?_⟩⟩⟩)
    refine W.line (n := 5) (by decide) (its := [⟨16, _, true⟩, ⟨17, _, true⟩, ⟨18, _, true⟩, ⟨19, _, true⟩, ⟨3, _, true⟩]) (ks := [(3, 3), (4, 19), (4, 16)]) (kk := [(3, 3), (4, 19)]) (live := [3, 10, 11, 12]) (env' := [(3, _), (10, _), (11, _), (12, _)])
      (⟨Nat.le_of_ble_eq_true rfl, rfl,
        ⟨⟨rfl, rfl, fun _ τ hb ht hτ => R.al (hτ 3 _ rfl) ht (by decide)⟩,
        ⟨⟨rfl, rfl, fun _ τ hb ht hτ => R.ldP (hτ 5 _ rfl) (hb 5 _ rfl) rfl rfl rfl rfl ht⟩,
        ⟨⟨rfl, rfl, fun _ τ hb ht hτ => R.callG hC (put_ok l[i]! (hl.get (by omega))) (Bors.cons (Bor.pur (evt (hτ 17 _ rfl)) rfl rfl) Bors.nil) (FrsR.one (.sl _ _ _ (frs_map fun _ => .u8 _))) ht⟩,
        ⟨⟨rfl, rfl, fun _ τ hb ht hτ => R.appE (Or.inr (hτ 16 _ rfl)) (hτ 3 _ rfl) (SrcO.sc (SC.sl (hτ 18 _ rfl)) (pur_map (fun _ => rfl))) (app_map) (by first | omega | (simp only [List.length_map, List.length_append, List.length_cons, List.length_nil, List.length_take, List.length_drop, List.length_replicate]; omega) | (simp; omega)) ht (by decide) (by decide)⟩,
        ⟨⟨rfl, rfl, fun _ τ hb ht hτ => R.asgO (hτ 19 _ rfl) rfl ht (by decide)⟩,
        trivial⟩⟩⟩⟩⟩, rfl, rfl, rfl⟩)
      rfl (bx' := [(5, .var _)]) rfl (n' := 22) rfl (⟨[3, 10, 11, 12], [(3, _), (10, _), (11, _), (12, _)], [(5, .var _)], 22, rfl, rfl, rfl, ?_⟩)
    refine W.dropB [] (bx' := []) rfl rfl rfl (pin_sub hD rfl) ?_
    refine W.line (n := 2) (by decide) (its := [⟨20, _, true⟩, ⟨12, _, true⟩]) (ks := []) (kk := []) (live := [3, 10, 11, 12]) (env' := [(3, _), (10, _), (11, _), (12, _)])
      (⟨Nat.le_of_ble_eq_true rfl, rfl,
        ⟨⟨rfl, rfl, fun _ τ hb ht hτ => R.addN (i) (1) (evt (hτ 12 _ rfl)) (show ev _ _ (.const (.int .i64 1)) = some (.int ((1 : Nat) : Int)) from rfl) (by first | omega | (simp only [List.length_map, List.length_append, List.length_cons, List.length_nil, List.length_take, List.length_drop, List.length_replicate]; omega) | (simp; omega)) ht⟩,
        ⟨⟨rfl, rfl, fun _ τ hb ht hτ => R.mov (evt (hτ 20 _ rfl)) rfl ht⟩,
        trivial⟩⟩, rfl, rfl, rfl⟩)
      rfl (bx' := []) rfl (n' := 22) rfl (⟨[3, 10, 11, 12], [(3, _), (10, _), (11, _), (12, _)], [], 22, rfl, rfl, rfl, ?_⟩)
    exact ⟨⟨(i + 1), (by first | omega | (simp only [List.length_map, List.length_append, List.length_cons, List.length_nil, List.length_take, List.length_drop, List.length_replicate]; omega) | (simp; omega))⟩, rfl, (by simp only []; omega)⟩
  · obtain rfl : i = l.length := by omega
    refine W.exit ?_
    refine W.seq ?_
    refine W.line (n := 2) (by decide) (its := [⟨21, _, true⟩, ⟨2, _, true⟩]) (ks := [(0, 3), (1, 21)]) (kk := [(0, 3), (1, 21)]) (live := [2]) (env' := [(2, _)])
      (⟨Nat.le_of_ble_eq_true rfl, rfl,
        ⟨⟨rfl, rfl, fun _ τ hb ht hτ => R.movO (hτ 3 _ rfl) rfl ht (by decide)⟩,
        ⟨⟨rfl, rfl, fun _ τ hb ht hτ => R.asgO (hτ 21 _ rfl) rfl ht (by decide)⟩,
        trivial⟩⟩, rfl, rfl, rfl⟩)
      rfl (bx' := []) rfl (n' := 22) rfl (⟨[2], [(2, _)], [], 22, rfl, rfl, rfl, ?_⟩)
    refine W.ret ?_
    exact Ends.one' (.inr rfl) rfl (rfl) rfl rfl trivial

end Go.Sx

namespace Go.Sx
open Go.Proofs
theorem get80_ok (b : List UInt8) (h : b.length = 80) : Fn Tryd.prog gl 12 [.sl none 1 (b.map .u8)] (.tup [hdrD (hd80 b), .int ((0 : Nat) : Int)]) := by
  have := get_ok b (by omega)
  unfold getS at this
  rw [if_neg (by omega)] at this
  exact this
end Go.Sx

namespace Go.Sx
open Go.Proofs
theorem pieces_ok (b : List UInt8) : FnB Tryd.prog gl 31 [.sl none 1 (b.map D.u8)] [] (.fn 34 [.ptr 1 0 []]) [] [(1, .var (.sl none 1 (b.map D.u8)))] := by
  refine FnB.of (n := 4) (ids := [1]) Tryd.func31 rfl rfl rfl (Nat.le_of_ble_eq_true rfl) fun C hC hD => ?_
  refine W.seq ?_
  refine W.line (n := 2) (by decide) (its := []) (ks := []) (kk := []) (live := [0]) (env' := [(0, _)])
    (⟨Nat.le_of_ble_eq_true rfl, rfl,
      trivial, rfl, rfl, rfl⟩)
    rfl (bx' := []) rfl (n' := 4) rfl (⟨rfl, _, R.box (evt (show Sg.get _ 0 = some _ from rfl)) rfl rfl (Nat.le_of_ble_eq_true rfl), ⟨rfl, _, R.asg (show ev _ _ (.const (.nilFunc)) = some (.nilf) from rfl) rfl (Nat.le_of_ble_eq_true rfl), ⟨[1], [(1, _)], [(1, .var _)], 4, rfl, rfl, rfl, ?_⟩⟩⟩)
  refine W.seq ?_
  refine W.line (n := 2) (by decide) (its := [⟨3, _, true⟩, ⟨2, _, true⟩]) (ks := []) (kk := []) (live := [2]) (env' := [(2, _)])
    (⟨Nat.le_of_ble_eq_true rfl, rfl,
      ⟨⟨rfl, rfl, fun _ τ hb ht hτ => R.mkfn1 (evt (hτ 1 _ rfl)) rfl rfl ht⟩,
      ⟨⟨rfl, rfl, fun _ τ hb ht hτ => R.asg (evt (hτ 3 _ rfl)) rfl ht⟩,
      trivial⟩⟩, rfl, rfl, rfl⟩)
    rfl (bx' := [(1, .var _)]) rfl (n' := 4) rfl (⟨[2], [(2, _)], [(1, .var _)], 4, rfl, rfl, rfl, ?_⟩)
  refine W.ret ?_
  exact EndsB.one' (.inr rfl) rfl (rfl) rfl trivial rfl rfl (rfl) ⟨rfl, trivial⟩ rfl

theorem pieces_itr (b : List UInt8) (hb0 : b.length ≤ 1000000) : ItrB Tryd.prog gl 34 [.ptr 1 0 []] [(1, .var (.sl none 1 (b.map D.u8)))] ((List.range (b.length / 80)).map fun k => hdrD (pc b k)) := by
  refine ItrB.of (n := 24) Tryd.func34 rfl rfl rfl rfl (Nat.le_of_ble_eq_true rfl) fun G Y lo hY hyl => ?_
  refine V.block ?_
  refine V.loop (α := {q__ : Nat // 80 * q__ ≤ b.length}) (fun q__ => ((q__.1, false), (⟨24, [(0, .yld lo), (1, .ptr 1 0 [])], [(1, .var (.sl none 1 ((b.drop (80 * q__.1)).map D.u8)))]⟩ : Sg))) (fun q__ => b.length / 80 - q__.1) ⟨(0), (Nat.zero_le _)⟩ rfl ?_
  rintro ⟨k, hk⟩
  show V _ _ _ _ _ ((k, false), (⟨24, [(0, .yld lo), (1, .ptr 1 0 [])], [(1, .var (.sl none 1 ((b.drop (80 * k)).map D.u8)))]⟩ : Sg))
  have hk : 80 * k ≤ b.length := hk
  have hdl : (b.drop (80 * k)).length = b.length - 80 * k := List.length_drop
  refine V.seq ?_
  refine V.of fun C hC hD => ?_
  refine W.seq ?_
  refine W.line (n := 3) (by decide) (its := [⟨5, _, true⟩, ⟨6, _, true⟩, ⟨7, _, true⟩]) (ks := []) (kk := []) (live := [0, 1, 7]) (env' := [(0, _), (1, _), (7, _)])
    (⟨Nat.le_of_ble_eq_true rfl, rfl,
      ⟨⟨rfl, rfl, fun _ τ hb ht hτ => R.ldP (hτ 1 _ rfl) (hb 1 _ rfl) rfl rfl rfl rfl ht⟩,
      ⟨⟨rfl, rfl, fun _ τ hb ht hτ => R.lenE (SC.sl (hτ 5 _ rfl)) (List.length_map _) ht⟩,
      ⟨⟨rfl, rfl, fun _ τ hb ht hτ => R.geqN ((b.drop (80 * k)).length) (80) (evt (hτ 6 _ rfl)) (show ev _ _ (.const (.int .i64 80)) = some (.int ((80 : Nat) : Int)) from rfl) ht⟩,
      trivial⟩⟩⟩, rfl, rfl, rfl⟩)
    rfl (bx' := [(1, .var _)]) rfl (n' := 24) rfl (⟨[0, 1, 7], [(0, _), (1, _), (7, _)], [(1, .var _)], 24, rfl, rfl, rfl, ?_⟩)
  refine W.condD rfl (fun hc7 => ?_) (fun hc7 => ?_)
  · refine W.skip ?_
    refine V.seq ?_
    refine V.block ?_
    refine V.seq ?_
    refine V.of fun C hC hD => ?_
    refine W.line (n := 9) (by decide) (its := [⟨11, _, true⟩, ⟨12, _, true⟩, ⟨13, _, true⟩, ⟨10, _, true⟩, ⟨14, _, true⟩, ⟨15, _, true⟩]) (ks := []) (kk := []) (live := [0, 1, 14, 15]) (env' := [(0, _), (1, _), (14, _), (15, _)])
      (⟨Nat.le_of_ble_eq_true rfl, rfl,
        ⟨⟨rfl, rfl, fun _ τ hb ht hτ => R.ldP (hτ 1 _ rfl) (hb 1 _ rfl) rfl rfl rfl rfl ht⟩,
        ⟨⟨rfl, rfl, fun _ τ hb ht hτ => R.slIN (0) (80) (80) (evt (hτ 11 _ rfl)) rfl (evoI (show ev _ _ (.const (.int .i64 80)) = some (.int ((80 : Nat) : Int)) from rfl)) rfl rfl (by first | omega | (simp only [List.length_map, List.length_append, List.length_cons, List.length_nil, List.length_take, List.length_drop, List.length_replicate]; omega) | (simp; omega)) (by first | omega | (simp only [List.length_map, List.length_append, List.length_cons, List.length_nil, List.length_take, List.length_drop, List.length_replicate]; omega) | (simp; omega)) rfl (by rw [List.drop_zero, List.map_take]) ht⟩,
        ⟨⟨rfl, rfl, fun _ τ hb ht hτ => R.callG hC (get80_ok ((b.drop (80 * k)).take 80) (by simp only [List.length_take]; omega)) (Bors.cons (Bor.pur (evt (hτ 12 _ rfl)) rfl rfl) Bors.nil) (FrsR.two (frs_hdr _) (.int _)) ht⟩,
        ⟨⟨rfl, rfl, fun _ τ hb ht hτ => R.movT (hτ 13 _ rfl) rfl ht⟩,
        ⟨⟨rfl, rfl, fun _ τ hb ht hτ => R.ext (hτ 10 _ rfl) rfl rfl ht⟩,
        ⟨⟨rfl, rfl, fun _ τ hb ht hτ => R.ext (hτ 10 _ rfl) rfl rfl ht⟩,
        trivial⟩⟩⟩⟩⟩⟩, rfl, rfl, rfl⟩)
      rfl (bx' := [(1, .var _)]) rfl (n' := 24) rfl (⟨rfl, _, R.alloc rfl (Nat.le_of_ble_eq_true rfl), ⟨rfl, _, R.stZ (show Sg.get _ 3 = some _ from rfl) (show Sg.box _ 3 = some _ from rfl) rfl (evt (show Sg.get _ 14 = some _ from rfl)) (by rfl) (by rfl) (by rfl) (by rfl) rfl, ⟨rfl, _, R.asg (evt (show Sg.get _ 15 = some _ from rfl)) rfl (Nat.le_of_ble_eq_true rfl), ⟨[0, 1, 3, 4], [(0, _), (1, _), (3, _), (4, _)], [(3, .var _), (1, .var _)], 24, rfl, rfl, rfl, ?_⟩⟩⟩⟩)
    refine V.seq ?_
    refine V.region ?_
    refine VL.step rfl (fun C hC => R.mov (evt (show Sg.get _ 4 = some _ from rfl)) rfl (Nat.le_of_ble_eq_true rfl)) ?_
    refine VL.step rfl (fun C hC => R.neqN (0) (0) (evt (show Sg.get _ 16 = some _ from rfl)) (show ev _ _ (.const (.int .i64 0)) = some (.int ((0 : Nat) : Int)) from rfl) (Nat.le_of_ble_eq_true rfl)) ?_
    refine VL.step rfl (fun C hC => R.mov (evt (show Sg.get _ 17 = some _ from rfl)) rfl (Nat.le_of_ble_eq_true rfl)) ?_
    refine VL.stepG ⟨_, 18, rfl, rfl, .inl ⟨_, rfl, gw (v := false) (rfl) rfl⟩⟩ (fun C hC => R.mov (evt (show Sg.get _ 0 = some _ from rfl)) rfl (Nat.le_of_ble_eq_true rfl)) ?_
    refine VL.stepG ⟨_, 18, rfl, rfl, .inl ⟨_, rfl, gw (v := false) (rfl) rfl⟩⟩ (fun C hC => R.ldP (show Sg.get _ 3 = some _ from rfl) (show Sg.box _ 3 = some _ from rfl) rfl rfl rfl rfl (Nat.le_of_ble_eq_true rfl)) ?_
    refine VL.yieldG ⟨_, 18, rfl, rfl, .inl ⟨_, rfl, gw (v := false) (rfl) rfl⟩⟩ hY hyl (show Sg.get _ 19 = some _ from rfl) (evt (show Sg.get _ 20 = some _ from rfl)) rfl rfl (by rw [List.length_map, List.length_range]; omega) (by rw [List.getElem_map, List.getElem_range]; rfl) (Nat.le_of_ble_eq_true rfl) (fun s__ => ?_)
    cases s__
    · refine VL.stepG ⟨_, 18, rfl, rfl, .inl ⟨_, rfl, gw (v := false) (rfl) rfl⟩⟩ (fun C hC => R.un (evt (show Sg.get _ 21 = some _ from rfl)) rfl (Nat.le_of_ble_eq_true rfl)) ?_
      refine VL.step rfl (fun C hC => R.pickF (evt (show Sg.get _ 18 = some _ from rfl)) (rfl) (evt (show Sg.get _ 22 = some _ from rfl)) rfl (Nat.le_of_ble_eq_true rfl)) ?_
      refine VL.nil ?_
      refine V.dropS (live := [0, 1, 23]) (env' := [(0, _), (1, _), (23, _)]) (bx' := [(3, .var _), (1, .var _)]) (n' := 24) rfl rfl rfl ?_
      refine V.of fun C hC hD => ?_
      refine W.condF rfl (rfl) ?_
      refine W.skip ?_
      refine V.of fun C hC hD => ?_
      refine W.dropB [1] (bx' := [(1, .var _)]) rfl rfl rfl (pin_sub hD rfl) ?_
      refine W.line (n := 3) (by decide) (its := [⟨8, _, true⟩, ⟨9, _, true⟩]) (ks := []) (kk := []) (live := [0, 1, 9]) (env' := [(0, _), (1, _), (9, _)])
        (⟨Nat.le_of_ble_eq_true rfl, rfl,
          ⟨⟨rfl, rfl, fun _ τ hb ht hτ => R.ldP (hτ 1 _ rfl) (hb 1 _ rfl) rfl rfl rfl rfl ht⟩,
          ⟨⟨rfl, rfl, fun _ τ hb ht hτ => R.slIN (80) ((b.drop (80 * k)).length) (((b.drop (80 * k)).length - 80)) (evt (hτ 8 _ rfl)) (evoI (show ev _ _ (.const (.int .i64 80)) = some (.int ((80 : Nat) : Int)) from rfl)) rfl rfl (by simp) (by first | omega | (simp only [List.length_map, List.length_append, List.length_cons, List.length_nil, List.length_take, List.length_drop, List.length_replicate]; omega) | (simp; omega)) (by first | omega | (simp only [List.length_map, List.length_append, List.length_cons, List.length_nil, List.length_take, List.length_drop, List.length_replicate]; omega) | (simp; omega)) rfl (rest_map) ht⟩,
          trivial⟩⟩, rfl, rfl, rfl⟩)
        rfl (bx' := [(1, .var _)]) rfl (n' := 24) rfl (⟨rfl, _, R.stZ (show Sg.get _ 1 = some _ from rfl) (show Sg.box _ 1 = some _ from rfl) rfl (evt (show Sg.get _ 9 = some _ from rfl)) (by rfl) (by rfl) (by rfl) (by rfl) rfl, ⟨[0, 1], [(0, _), (1, _)], [(1, .var _)], 24, rfl, rfl, rfl, ?_⟩⟩)
      exact ⟨⟨(k + 1), (by show 80 * (k + 1) ≤ b.length; omega)⟩, (by rw [List.drop_drop, show 80 * k + 80 = 80 * (k + 1) by omega]), (by show b.length / 80 - (k + 1) < b.length / 80 - k; omega)⟩
    · refine VL.stepG ⟨_, 18, rfl, rfl, .inl ⟨_, rfl, gw (v := false) (rfl) rfl⟩⟩ (fun C hC => R.un (evt (show Sg.get _ 21 = some _ from rfl)) rfl (Nat.le_of_ble_eq_true rfl)) ?_
      refine VL.step rfl (fun C hC => R.pickF (evt (show Sg.get _ 18 = some _ from rfl)) (rfl) (evt (show Sg.get _ 22 = some _ from rfl)) rfl (Nat.le_of_ble_eq_true rfl)) ?_
      refine VL.nil ?_
      refine V.dropS (live := [0, 1, 23]) (env' := [(0, _), (1, _), (23, _)]) (bx' := [(3, .var _), (1, .var _)]) (n' := 24) rfl rfl rfl ?_
      refine V.of fun C hC hD => ?_
      refine W.condT rfl (rfl) ?_
      refine W.ret ?_
      exact ⟨.inr rfl, .inl rfl⟩
  · refine W.exit ?_
    exact ⟨.inl rfl, .inr (by rw [List.length_map, List.length_range]; show k = _; omega)⟩

end Go.Sx

namespace Go.Sx
open Go.Proofs
theorem cut_ok (b : List UInt8) (hb0 : b.length ≤ 1000000) : Fn Tryd.prog gl 19 [.sl none 1 (b.map D.u8)] (.tup [.sl (some 26) 68 ((cutS b).1.map hdrD), .int (cutS b).2]) := by
  refine Fn.ofR (n := 21) Tryd.func19 rfl rfl rfl (Nat.le_of_ble_eq_true rfl) fun W0 G hgl => ?_
  refine V.seq ?_
  refine V.of fun C hC hD => ?_
  refine W.line (n := 2) (by decide) (its := []) (ks := []) (kk := []) (live := [0]) (env' := [(0, _)])
    (⟨Nat.le_of_ble_eq_true rfl, rfl,
      trivial, rfl, rfl, rfl⟩)
    rfl (bx' := []) rfl (n' := 21) rfl (⟨rfl, _, R.alloc rfl (Nat.le_of_ble_eq_true rfl), ⟨rfl, _, R.asg (show ev _ _ (.const (.int .i64 0)) = some (.int ((0 : Nat) : Int)) from rfl) rfl (Nat.le_of_ble_eq_true rfl), ⟨[0, 2], [(0, _), (2, _)], [(2, .var _)], 21, rfl, rfl, rfl, ?_⟩⟩⟩)
  refine V.seq ?_
  refine V.of fun C hC hD => ?_
  refine W.seq ?_
  refine W.line (n := 4) (by decide) (its := [⟨5, _, true⟩, ⟨6, _, true⟩, ⟨7, _, true⟩, ⟨8, _, true⟩]) (ks := []) (kk := []) (live := [0, 2, 8]) (env' := [(0, _), (2, _), (8, _)])
    (⟨Nat.le_of_ble_eq_true rfl, rfl,
      ⟨⟨rfl, rfl, fun _ τ hb ht hτ => R.mov (evt (hτ 0 _ rfl)) rfl ht⟩,
      ⟨⟨rfl, rfl, fun _ τ hb ht hτ => R.lenE (SC.sl (hτ 5 _ rfl)) (List.length_map _) ht⟩,
      ⟨⟨rfl, rfl, fun _ τ hb ht hτ => R.remN (b.length) (80) (evt (hτ 6 _ rfl)) (show ev _ _ (.const (.int .i64 80)) = some (.int ((80 : Nat) : Int)) from rfl) (by first | omega | (simp only [List.length_map, List.length_append, List.length_cons, List.length_nil, List.length_take, List.length_drop, List.length_replicate]; omega) | (simp; omega)) ht⟩,
      ⟨⟨rfl, rfl, fun _ τ hb ht hτ => R.neqN ((b.length % 80)) (0) (evt (hτ 7 _ rfl)) (show ev _ _ (.const (.int .i64 0)) = some (.int ((0 : Nat) : Int)) from rfl) ht⟩,
      trivial⟩⟩⟩⟩, rfl, rfl, rfl⟩)
    rfl (bx' := [(2, .var _)]) rfl (n' := 21) rfl (⟨[0, 2, 8], [(0, _), (2, _), (8, _)], [(2, .var _)], 21, rfl, rfl, rfl, ?_⟩)
  refine W.condD rfl (fun hc8 => ?_) (fun hc8 => ?_)
  · refine W.seq ?_
    refine W.line (n := 2) (by decide) (its := []) (ks := []) (kk := []) (live := [2]) (env' := [(2, _)])
      (⟨Nat.le_of_ble_eq_true rfl, rfl,
        trivial, rfl, rfl, rfl⟩)
      rfl (bx' := [(2, .var _)]) rfl (n' := 21) rfl (⟨rfl, _, R.stZ (show Sg.get _ 2 = some _ from rfl) (show Sg.box _ 2 = some _ from rfl) rfl (show ev _ _ (.const (.slice none 0 0)) = some (.nils) from rfl) (by rfl) (by rfl) (by rfl) (by rfl) rfl, ⟨rfl, _, R.asg (show ev _ _ (.const (.int .i64 5)) = some (.int ((5 : Nat) : Int)) from rfl) rfl (Nat.le_of_ble_eq_true rfl), ⟨[2, 3], [(2, _), (3, _)], [(2, .var _)], 21, rfl, rfl, rfl, ?_⟩⟩⟩)
    refine W.asOwnB (id := 2) 26 68 rfl ?_
    refine W.ret ?_
    exact Ends.many (.inr rfl) (.cons rfl rfl rfl (show LdT _ 39 1 false from inferInstance) (.cons rfl rfl rfl trivial .nil)) (by simp only [cutS, if_pos hc8]; rfl) (show [(2, false), (3, true)].Nodup by decide)
  · refine W.skip ?_
    refine V.seq ?_
    refine V.of fun C hC hD => ?_
    refine W.seq ?_
    refine W.line (n := 4) (by decide) (its := [⟨9, _, true⟩, ⟨10, _, true⟩, ⟨11, _, true⟩, ⟨12, _, true⟩]) (ks := []) (kk := []) (live := [0, 2, 12]) (env' := [(0, _), (2, _), (12, _)])
      (⟨Nat.le_of_ble_eq_true rfl, rfl,
        ⟨⟨rfl, rfl, fun _ τ hb ht hτ => R.mov (evt (hτ 0 _ rfl)) rfl ht⟩,
        ⟨⟨rfl, rfl, fun _ τ hb ht hτ => R.lenE (SC.sl (hτ 9 _ rfl)) (List.length_map _) ht⟩,
        ⟨⟨rfl, rfl, fun _ τ hb ht hτ => R.quoN (b.length) (80) (evt (hτ 10 _ rfl)) (show ev _ _ (.const (.int .i64 80)) = some (.int ((80 : Nat) : Int)) from rfl) (by first | omega | (simp only [List.length_map, List.length_append, List.length_cons, List.length_nil, List.length_take, List.length_drop, List.length_replicate]; omega) | (simp; omega)) (by first | omega | (simp only [List.length_map, List.length_append, List.length_cons, List.length_nil, List.length_take, List.length_drop, List.length_replicate]; omega) | (simp; omega)) ht⟩,
        ⟨⟨rfl, rfl, fun _ τ hb ht hτ => R.gtrN ((b.length / 80)) (100) (evt (hτ 11 _ rfl)) (show ev _ _ (.const (.int .i64 100)) = some (.int ((100 : Nat) : Int)) from rfl) ht⟩,
        trivial⟩⟩⟩⟩, rfl, rfl, rfl⟩)
      rfl (bx' := [(2, .var _)]) rfl (n' := 21) rfl (⟨[0, 2, 12], [(0, _), (2, _), (12, _)], [(2, .var _)], 21, rfl, rfl, rfl, ?_⟩)
    refine W.condD rfl (fun hc12 => ?_) (fun hc12 => ?_)
    · refine W.seq ?_
      refine W.line (n := 2) (by decide) (its := []) (ks := []) (kk := []) (live := [2]) (env' := [(2, _)])
        (⟨Nat.le_of_ble_eq_true rfl, rfl,
          trivial, rfl, rfl, rfl⟩)
        rfl (bx' := [(2, .var _)]) rfl (n' := 21) rfl (⟨rfl, _, R.stZ (show Sg.get _ 2 = some _ from rfl) (show Sg.box _ 2 = some _ from rfl) rfl (show ev _ _ (.const (.slice none 0 0)) = some (.nils) from rfl) (by rfl) (by rfl) (by rfl) (by rfl) rfl, ⟨rfl, _, R.asg (show ev _ _ (.const (.int .i64 6)) = some (.int ((6 : Nat) : Int)) from rfl) rfl (Nat.le_of_ble_eq_true rfl), ⟨[2, 3], [(2, _), (3, _)], [(2, .var _)], 21, rfl, rfl, rfl, ?_⟩⟩⟩)
      refine W.asOwnB (id := 2) 26 68 rfl ?_
      refine W.ret ?_
      exact Ends.many (.inr rfl) (.cons rfl rfl rfl (show LdT _ 39 1 false from inferInstance) (.cons rfl rfl rfl trivial .nil)) (by simp only [cutS, if_neg hc8, if_pos hc12]; rfl) (show [(2, false), (3, true)].Nodup by decide)
    · refine W.skip ?_
      refine V.seq ?_
      refine V.seq ?_
      refine V.of fun C hC hD => ?_
      refine W.line (n := 2) (by decide) (its := [⟨13, _, true⟩]) (ks := []) (kk := []) (live := [2, 13]) (env' := [(2, _), (13, _)])
        (⟨Nat.le_of_ble_eq_true rfl, rfl,
          ⟨⟨rfl, rfl, fun _ τ hb ht hτ => R.mov (evt (hτ 0 _ rfl)) rfl ht⟩,
          trivial⟩, rfl, rfl, rfl⟩)
        rfl (bx' := [(2, .var _)]) rfl (n' := 21) rfl (⟨rfl, _, R.callB [(1, 141)] hC (pieces_ok b) (EvB.cons (evt (show Sg.get _ 13 = some _ from rfl)) rfl rfl rfl EvB.nil) rfl trivial trivial rfl rfl rfl rfl rfl rfl (Nat.le_of_ble_eq_true rfl), ⟨[2, 14], [(2, _), (14, _)], [(141, .var _), (2, .var _)], 21, rfl, rfl, rfl, ?_⟩⟩)
      refine V.block ?_
      refine V.asOwnB (id := 2) 26 68 rfl ?_
      refine V.rangeBE (env0 := [(2, _)]) [(1, 141)] [2] [2] (b.length / 80) (fun k => hdrD (pc b k)) (fun k => [(2, .var (.sl (some 26) 68 ((cutI b k).map hdrD)))]) (fun _ _ => False) (fun _ => True) hgl (pieces_itr b hb0) rfl rfl rfl ⟨rfl, trivial⟩ ⟨rfl, trivial⟩ rfl rfl rfl rfl (rfl) rfl rfl rfl ⟨frs_hdrs _ _ _, rfl, trivial⟩ (fun _ => ⟨rfl, rfl⟩) (trivial) (fun k hk hJ C hC hD => ?_) ?_ ?_
      · have hcl : (cutI b k).length = k := cutI_len b k
        show W _ _ _ _ _
        refine W.dropS (live := [2, 15]) (env' := [(2, _), (15, _)]) (bx' := [(2, .var _)]) (n' := 21) rfl rfl rfl ?_
        refine W.line (n := 2) (by decide) (its := []) (ks := []) (kk := []) (live := [2, 15]) (env' := [(2, _), (15, _)])
          (⟨Nat.le_of_ble_eq_true rfl, rfl,
            trivial, rfl, rfl, rfl⟩)
          rfl (bx' := [(2, .var _)]) rfl (n' := 21) rfl (⟨rfl, _, R.alloc rfl (Nat.le_of_ble_eq_true rfl), ⟨rfl, _, R.stZ (show Sg.get _ 4 = some _ from rfl) (show Sg.box _ 4 = some _ from rfl) rfl (evt (show Sg.get _ 15 = some _ from rfl)) (by rfl) (by rfl) (by rfl) (by rfl) rfl, ⟨[2, 4], [(2, _), (4, _)], [(4, .var _), (2, .var _)], 21, rfl, rfl, rfl, ?_⟩⟩⟩)
        refine ⟨rfl, fun C hC hD => ?_⟩
        refine W.block ?_
        refine W.line (n := 5) (by decide) (its := [⟨16, _, true⟩, ⟨17, _, true⟩, ⟨18, _, true⟩]) (ks := []) (kk := []) (live := [2, 16, 18]) (env' := [(2, _), (16, _), (18, _)])
          (⟨Nat.le_of_ble_eq_true rfl, rfl,
            ⟨⟨rfl, rfl, fun _ τ hb ht hτ => R.ldO (hτ 2 _ rfl) (hb 2 _ rfl) rfl ht⟩,
            ⟨⟨rfl, rfl, fun _ τ hb ht hτ => R.ldP (hτ 4 _ rfl) (hb 4 _ rfl) rfl rfl rfl rfl ht⟩,
            ⟨⟨rfl, rfl, fun _ τ hb ht hτ => R.bslE (z := 68) (.cons (evt (hτ 17 _ rfl)) .nil) ⟨⟨rfl, rfl, rfl⟩, trivial⟩ rfl ht (by decide)⟩,
            trivial⟩⟩⟩, rfl, rfl, rfl⟩)
          rfl (bx' := [(4, .var _), (2, .var _)]) rfl (n' := 21) rfl (⟨rfl, _, R.appB (show Sg.get _ 16 = some _ from rfl) (show Sg.box _ 2 = some _ from rfl) rfl (show Sg.get _ 16 = some _ from rfl) (SrcO.sc (SC.sl (show Sg.get _ 18 = some _ from rfl)) (pur_lit rfl)) (app_one) (by first | omega | (simp only [List.length_map, List.length_append, List.length_cons, List.length_nil, List.length_take, List.length_drop, List.length_replicate]; omega) | (simp; omega)) (Nat.le_of_ble_eq_true rfl) (by decide) (by decide), ⟨rfl, _, R.stOZ (show Sg.get _ 2 = some _ from rfl) (show Sg.box _ 2 = some _ from rfl) rfl (show Sg.get _ 19 = some _ from rfl) rfl rfl (by rfl) (by rfl) rfl rfl, ⟨[], [], [(4, .var _), (2, .var _)], 21, rfl, rfl, rfl, ?_⟩⟩⟩)
        exact ⟨.inl ⟨rfl, by rw [← cutI_succ]; rfl, trivial⟩, ⟨frs_hdrs _ _ _, rfl, trivial⟩⟩
      · intro hJ
        refine V.of fun C hC hD => ?_
        refine W.seq ?_
        refine W.line (n := 3) (by decide) (its := [⟨20, _, true⟩]) (ks := []) (kk := []) (live := [2, 20]) (env' := [(2, _), (20, _)])
          (⟨Nat.le_of_ble_eq_true rfl, rfl,
            ⟨⟨rfl, rfl, fun _ τ hb ht hτ => R.ldO (hτ 2 _ rfl) (hb 2 _ rfl) rfl ht⟩,
            trivial⟩, rfl, rfl, rfl⟩)
          rfl (bx' := [(2, .var _)]) rfl (n' := 21) rfl (⟨rfl, _, R.stTB (show Sg.get _ 20 = some _ from rfl) (show Sg.box _ 2 = some _ from rfl) rfl (show Sg.get _ 20 = some _ from rfl) (show Sg.get _ 2 = some _ from rfl) rfl, ⟨rfl, _, R.asg (show ev _ _ (.const (.int .i64 0)) = some (.int ((0 : Nat) : Int)) from rfl) rfl (Nat.le_of_ble_eq_true rfl), ⟨[2, 3], [(2, _), (3, _)], [(2, .var _)], 21, rfl, rfl, rfl, ?_⟩⟩⟩)
        refine W.ret ?_
        exact Ends.many (.inr rfl) (.cons rfl rfl rfl (show LdT _ 39 1 false from inferInstance) (.cons rfl rfl rfl trivial .nil)) (by simp only [cutS, if_neg hc8, if_neg hc12]; rfl) (show [(2, false), (3, true)].Nodup by decide)
      · exact fun e bx he hs => hs.elim

theorem linked_ok (l : List HdS) (hl : allW l) (hl0 : l.length ≤ 1000) : Fn Tryd.prog gl 18 [.sl none 68 (l.map hdrD)] (.int ((linkS l : Nat) : Int)) := by
  refine Fn.of (n := 27) Tryd.func18 rfl rfl rfl (Nat.le_of_ble_eq_true rfl) fun C hC hD => ?_
  refine W.seq ?_
  refine W.line (n := 1) (by decide) (its := [⟨2, _, true⟩]) (ks := []) (kk := []) (live := [0]) (env' := [(0, _)])
    (⟨Nat.le_of_ble_eq_true rfl, rfl,
      ⟨⟨rfl, rfl, fun _ τ hb ht hτ => R.asg (show ev _ _ (.const (.int .i64 0)) = some (.int ((0 : Nat) : Int)) from rfl) rfl ht⟩,
      trivial⟩, rfl, rfl, rfl⟩)
    rfl (bx' := []) rfl (n' := 27) rfl (⟨[0], [(0, _)], [], 27, rfl, rfl, rfl, ?_⟩)
  refine W.seq ?_
  refine W.line (n := 1) (by decide) (its := []) (ks := []) (kk := []) (live := [0]) (env' := [(0, _)])
    (⟨Nat.le_of_ble_eq_true rfl, rfl,
      trivial, rfl, rfl, rfl⟩)
    rfl (bx' := []) rfl (n' := 27) rfl (⟨rfl, _, R.alloc rfl (Nat.le_of_ble_eq_true rfl), ⟨[0, 3], [(0, _), (3, _)], [(3, .var _)], 27, rfl, rfl, rfl, ?_⟩⟩)
  refine W.seq ?_
  refine W.seq ?_
  refine W.line (n := 3) (by decide) (its := [⟨6, _, true⟩, ⟨7, _, true⟩, ⟨8, _, true⟩]) (ks := []) (kk := []) (live := [0, 3, 6, 7, 8]) (env' := [(0, _), (3, _), (6, _), (7, _), (8, _)])
    (⟨Nat.le_of_ble_eq_true rfl, rfl,
      ⟨⟨rfl, rfl, fun _ τ hb ht hτ => R.mov (evt (hτ 0 _ rfl)) rfl ht⟩,
      ⟨⟨rfl, rfl, fun _ τ hb ht hτ => R.lenE (SC.sl (hτ 6 _ rfl)) (List.length_map _) ht⟩,
      ⟨⟨rfl, rfl, fun _ τ hb ht hτ => R.mov (show ev _ _ (.const (.int .i64 0)) = some (.int ((0 : Nat) : Int)) from rfl) rfl ht⟩,
      trivial⟩⟩⟩, rfl, rfl, rfl⟩)
    rfl (bx' := [(3, .var _)]) rfl (n' := 27) rfl (⟨[0, 3, 6, 7, 8], [(0, _), (3, _), (6, _), (7, _), (8, _)], [(3, .var _)], 27, rfl, rfl, rfl, ?_⟩)
  refine W.block ?_
  refine W.loop (α := {q__ : Nat // q__ ≤ l.length ∧ ∀ j, j < q__ → odd l j = false}) (fun q__ => ⟨27, [(0, .sl none 68 (l.map hdrD)), (3, .ptr 3 0 []), (6, .sl none 68 (l.map hdrD)), (7, .int ((l.length : Nat) : Int)), (8, .int ((q__.1 : Nat) : Int))], [(3, .var (hashD (ahd l q__.1)))]⟩) (fun q__ => l.length - q__.1) ⟨(0), ⟨Nat.zero_le _, fun j hj => absurd hj (Nat.not_lt_zero _)⟩⟩ rfl ?_
  rintro ⟨i, hi⟩
  show W _ _ _ _ ⟨27, [(0, .sl none 68 (l.map hdrD)), (3, .ptr 3 0 []), (6, .sl none 68 (l.map hdrD)), (7, .int ((l.length : Nat) : Int)), (8, .int ((i : Nat) : Int))], [(3, .var (hashD (ahd l i)))]⟩
  have hi1 : i ≤ l.length := hi.1
  refine W.seq ?_
  refine W.line (n := 1) (by decide) (its := [⟨9, _, true⟩]) (ks := []) (kk := []) (live := [0, 3, 6, 7, 8, 9]) (env' := [(0, _), (3, _), (6, _), (7, _), (8, _), (9, _)])
    (⟨Nat.le_of_ble_eq_true rfl, rfl,
      ⟨⟨rfl, rfl, fun _ τ hb ht hτ => R.lssN (i) (l.length) (evt (hτ 8 _ rfl)) (evt (hτ 7 _ rfl)) ht⟩,
      trivial⟩, rfl, rfl, rfl⟩)
    rfl (bx' := [(3, .var _)]) rfl (n' := 27) rfl (⟨[0, 3, 6, 7, 8, 9], [(0, _), (3, _), (6, _), (7, _), (8, _), (9, _)], [(3, .var _)], 27, rfl, rfl, rfl, ?_⟩)
  refine W.seq ?_
  refine W.condD rfl (fun hc9 => ?_) (fun hc9 => ?_)
  · refine W.skip ?_
    refine W.seq ?_
    refine W.block ?_
    refine W.seq ?_
    refine W.line (n := 6) (by decide) (its := [⟨10, _, true⟩, ⟨11, _, true⟩, ⟨12, _, true⟩]) (ks := []) (kk := []) (live := [0, 3, 6, 7, 8, 10, 12]) (env' := [(0, _), (3, _), (6, _), (7, _), (8, _), (10, _), (12, _)])
      (⟨Nat.le_of_ble_eq_true rfl, rfl,
        ⟨⟨rfl, rfl, fun _ τ hb ht hτ => R.mov (evt (hτ 8 _ rfl)) rfl ht⟩,
        ⟨⟨rfl, rfl, fun _ τ hb ht hτ => R.idxN (i) (SC.sl (hτ 6 _ rfl)) (evoI (evt (hτ 8 _ rfl))) rfl (by first | omega | (simp only [List.length_map, List.length_append, List.length_cons, List.length_nil, List.length_take, List.length_drop, List.length_replicate]; omega) | (simp; omega)) ht (by decide)⟩,
        ⟨⟨rfl, rfl, fun _ τ hb ht hτ => R.ldE (hτ 11 _ rfl) (SC.sl (hτ 6 _ rfl)) (map_get! (l := l) (by first | omega | (simp only [List.length_map, List.length_append, List.length_cons, List.length_nil, List.length_take, List.length_drop, List.length_replicate]; omega) | (simp; omega))) rfl rfl rfl rfl ht⟩,
        trivial⟩⟩⟩, rfl, rfl, rfl⟩)
      rfl (bx' := [(3, .var _)]) rfl (n' := 27) rfl (⟨rfl, _, R.alloc rfl (Nat.le_of_ble_eq_true rfl), ⟨rfl, _, R.asg (evt (show Sg.get _ 10 = some _ from rfl)) rfl (Nat.le_of_ble_eq_true rfl), ⟨rfl, _, R.stZ (show Sg.get _ 5 = some _ from rfl) (show Sg.box _ 5 = some _ from rfl) rfl (evt (show Sg.get _ 12 = some _ from rfl)) (by rfl) (by rfl) (by rfl) (by rfl) rfl, ⟨[0, 3, 4, 5, 6, 7, 8], [(0, _), (3, _), (4, _), (5, _), (6, _), (7, _), (8, _)], [(5, .var _), (3, .var _)], 27, rfl, rfl, rfl, ?_⟩⟩⟩⟩)
    refine W.seq ?_
    refine W.seq ?_
    by_cases hp : 0 < i
    · refine W.line (n := 8) (by decide) (its := [⟨13, _, true⟩, ⟨14, _, true⟩, ⟨15, _, true⟩, ⟨16, _, true⟩, ⟨17, _, true⟩, ⟨18, _, true⟩, ⟨19, _, true⟩, ⟨20, _, true⟩]) (ks := []) (kk := []) (live := [0, 3, 4, 5, 6, 7, 8, 20]) (env' := [(0, _), (3, _), (4, _), (5, _), (6, _), (7, _), (8, _), (20, _)])
        (⟨Nat.le_of_ble_eq_true rfl, rfl,
          ⟨⟨rfl, rfl, fun _ τ hb ht hτ => R.mov (evt (hτ 4 _ rfl)) rfl ht⟩,
          ⟨⟨rfl, rfl, fun _ τ hb ht hτ => R.gtrN (i) (0) (evt (hτ 13 _ rfl)) (show ev _ _ (.const (.int .i64 0)) = some (.int ((0 : Nat) : Int)) from rfl) ht⟩,
          ⟨⟨rfl, rfl, fun _ τ hb ht hτ => R.mov (evt (hτ 14 _ rfl)) rfl ht⟩,
          ⟨⟨rfl, ⟨_, 15, rfl, rfl, .inl ⟨_, rfl, gw (v := true) (decide_eq_true hp) rfl⟩⟩, fun _ τ hb ht hτ => R.fdP (hτ 5 _ rfl) ht⟩,
          ⟨⟨rfl, ⟨_, 15, rfl, rfl, .inl ⟨_, rfl, gw (v := true) (decide_eq_true hp) rfl⟩⟩, fun _ τ hb ht hτ => R.ldP (hτ 16 _ rfl) (hb 5 _ rfl) rfl rfl rfl rfl ht⟩,
          ⟨⟨rfl, ⟨_, 15, rfl, rfl, .inl ⟨_, rfl, gw (v := true) (decide_eq_true hp) rfl⟩⟩, fun _ τ hb ht hτ => R.ldP (hτ 3 _ rfl) (hb 3 _ rfl) rfl rfl rfl rfl ht⟩,
          ⟨⟨rfl, ⟨_, 15, rfl, rfl, .inl ⟨_, rfl, gw (v := true) (decide_eq_true hp) rfl⟩⟩, fun _ τ hb ht hτ => R.eqAX (evt (hτ 17 _ rfl)) (evt (hτ 18 _ rfl)) ht⟩,
          ⟨⟨rfl, rfl, fun _ τ hb ht hτ => R.pickT (evt (hτ 15 _ rfl)) (decide_eq_true hp) (evt (hτ 19 _ rfl)) rfl ht⟩,
          trivial⟩⟩⟩⟩⟩⟩⟩⟩, rfl, rfl, rfl⟩)
        rfl (bx' := [(5, .var _), (3, .var _)]) rfl (n' := 27) rfl (⟨[0, 3, 4, 5, 6, 7, 8, 20], [(0, _), (3, _), (4, _), (5, _), (6, _), (7, _), (8, _), (20, _)], [(5, .var _), (3, .var _)], 27, rfl, rfl, rfl, ?_⟩)
      refine W.cond rfl (fun hc20 => ?_) (fun hc20 => ?_)
      · refine W.seq ?_
        refine W.line (n := 2) (by decide) (its := [⟨21, _, true⟩, ⟨2, _, true⟩]) (ks := []) (kk := []) (live := [2]) (env' := [(2, _)])
          (⟨Nat.le_of_ble_eq_true rfl, rfl,
            ⟨⟨rfl, rfl, fun _ τ hb ht hτ => R.mov (evt (hτ 4 _ rfl)) rfl ht⟩,
            ⟨⟨rfl, rfl, fun _ τ hb ht hτ => R.asg (evt (hτ 21 _ rfl)) rfl ht⟩,
            trivial⟩⟩, rfl, rfl, rfl⟩)
          rfl (bx' := [(5, .var _), (3, .var _)]) rfl (n' := 27) rfl (⟨[2], [(2, _)], [(5, .var _), (3, .var _)], 27, rfl, rfl, rfl, ?_⟩)
        refine W.ret ?_
        exact Ends.one' (.inr rfl) rfl (by rw [linkS_at l i (by omega) hi.2 (odd_ne hp hc20)]) rfl rfl trivial
      · refine W.skip ?_
        refine W.line (n := 3) (by decide) (its := [⟨22, _, true⟩, ⟨23, _, true⟩]) (ks := []) (kk := []) (live := [0, 3, 6, 7, 8, 23]) (env' := [(0, _), (3, _), (6, _), (7, _), (8, _), (23, _)])
          (⟨Nat.le_of_ble_eq_true rfl, rfl,
            ⟨⟨rfl, rfl, fun _ τ hb ht hτ => R.ldP (hτ 5 _ rfl) (hb 5 _ rfl) rfl rfl rfl rfl ht⟩,
            ⟨⟨rfl, rfl, fun _ τ hb ht hτ => R.callG hC (id_ok l[i]! (hl.get (by omega))) (Bors.cons (Bor.pur (evt (hτ 22 _ rfl)) rfl rfl) Bors.nil) (FrsR.one (frs_hash _)) ht⟩,
            trivial⟩⟩, rfl, rfl, rfl⟩)
          rfl (bx' := [(5, .var _), (3, .var _)]) rfl (n' := 27) rfl (⟨rfl, _, R.stZ (show Sg.get _ 3 = some _ from rfl) (show Sg.box _ 3 = some _ from rfl) rfl (evt (show Sg.get _ 23 = some _ from rfl)) (by rfl) (by rfl) (by rfl) (by rfl) rfl, ⟨[0, 3, 6, 7, 8], [(0, _), (3, _), (6, _), (7, _), (8, _)], [(5, .var _), (3, .var _)], 27, rfl, rfl, rfl, ?_⟩⟩)
        refine W.dropB [3] (bx' := [(3, .var _)]) rfl rfl rfl (pin_sub hD rfl) ?_
        refine W.line (n := 2) (by decide) (its := [⟨24, _, true⟩, ⟨8, _, true⟩]) (ks := []) (kk := []) (live := [0, 3, 6, 7, 8]) (env' := [(0, _), (3, _), (6, _), (7, _), (8, _)])
          (⟨Nat.le_of_ble_eq_true rfl, rfl,
            ⟨⟨rfl, rfl, fun _ τ hb ht hτ => R.addN (i) (1) (evt (hτ 8 _ rfl)) (show ev _ _ (.const (.int .i64 1)) = some (.int ((1 : Nat) : Int)) from rfl) (by first | omega | (simp only [List.length_map, List.length_append, List.length_cons, List.length_nil, List.length_take, List.length_drop, List.length_replicate]; omega) | (simp; omega)) ht⟩,
            ⟨⟨rfl, rfl, fun _ τ hb ht hτ => R.mov (evt (hτ 24 _ rfl)) rfl ht⟩,
            trivial⟩⟩, rfl, rfl, rfl⟩)
          rfl (bx' := [(3, .var _)]) rfl (n' := 27) rfl (⟨[0, 3, 6, 7, 8], [(0, _), (3, _), (6, _), (7, _), (8, _)], [(3, .var _)], 27, rfl, rfl, rfl, ?_⟩)
        exact ⟨⟨(i + 1), ⟨by omega, fun j hj => (by rcases Nat.lt_or_ge j i with h1 | h1; exact hi.2 j h1; obtain rfl : j = i := (by omega); first | (exact odd_no hp) | (exact odd_eq hp hc20))⟩⟩, rfl, (by simp only []; omega)⟩
    · refine W.line (n := 8) (by decide) (its := [⟨13, _, true⟩, ⟨14, _, true⟩, ⟨15, _, true⟩, ⟨16, .dead, false⟩, ⟨17, .dead, false⟩, ⟨18, .dead, false⟩, ⟨19, .dead, false⟩, ⟨20, _, true⟩]) (ks := []) (kk := []) (live := [0, 3, 4, 5, 6, 7, 8, 20]) (env' := [(0, _), (3, _), (4, _), (5, _), (6, _), (7, _), (8, _), (20, _)])
        (⟨Nat.le_of_ble_eq_true rfl, rfl,
          ⟨⟨rfl, rfl, fun _ τ hb ht hτ => R.mov (evt (hτ 4 _ rfl)) rfl ht⟩,
          ⟨⟨rfl, rfl, fun _ τ hb ht hτ => R.gtrN (i) (0) (evt (hτ 13 _ rfl)) (show ev _ _ (.const (.int .i64 0)) = some (.int ((0 : Nat) : Int)) from rfl) ht⟩,
          ⟨⟨rfl, rfl, fun _ τ hb ht hτ => R.mov (evt (hτ 14 _ rfl)) rfl ht⟩,
          ⟨⟨rfl, ⟨_, 15, rfl, rfl, .inl ⟨_, rfl, gw (v := false) (decide_eq_false hp) rfl⟩⟩, fun h => absurd h (by decide)⟩,
          ⟨⟨rfl, ⟨_, 15, rfl, rfl, .inl ⟨_, rfl, gw (v := false) (decide_eq_false hp) rfl⟩⟩, fun h => absurd h (by decide)⟩,
          ⟨⟨rfl, ⟨_, 15, rfl, rfl, .inl ⟨_, rfl, gw (v := false) (decide_eq_false hp) rfl⟩⟩, fun h => absurd h (by decide)⟩,
          ⟨⟨rfl, ⟨_, 15, rfl, rfl, .inl ⟨_, rfl, gw (v := false) (decide_eq_false hp) rfl⟩⟩, fun h => absurd h (by decide)⟩,
          ⟨⟨rfl, rfl, fun _ τ hb ht hτ => R.pickF (evt (hτ 15 _ rfl)) (decide_eq_false hp) (show ev _ _ (.const (.bool false)) = some (.bool false) from rfl) rfl ht⟩,
          trivial⟩⟩⟩⟩⟩⟩⟩⟩, rfl, rfl, rfl⟩)
        rfl (bx' := [(5, .var _), (3, .var _)]) rfl (n' := 27) rfl (⟨[0, 3, 4, 5, 6, 7, 8, 20], [(0, _), (3, _), (4, _), (5, _), (6, _), (7, _), (8, _), (20, _)], [(5, .var _), (3, .var _)], 27, rfl, rfl, rfl, ?_⟩)
      refine W.condF rfl (rfl) ?_
      refine W.skip ?_
      refine W.line (n := 3) (by decide) (its := [⟨22, _, true⟩, ⟨23, _, true⟩]) (ks := []) (kk := []) (live := [0, 3, 6, 7, 8, 23]) (env' := [(0, _), (3, _), (6, _), (7, _), (8, _), (23, _)])
        (⟨Nat.le_of_ble_eq_true rfl, rfl,
          ⟨⟨rfl, rfl, fun _ τ hb ht hτ => R.ldP (hτ 5 _ rfl) (hb 5 _ rfl) rfl rfl rfl rfl ht⟩,
          ⟨⟨rfl, rfl, fun _ τ hb ht hτ => R.callG hC (id_ok l[i]! (hl.get (by omega))) (Bors.cons (Bor.pur (evt (hτ 22 _ rfl)) rfl rfl) Bors.nil) (FrsR.one (frs_hash _)) ht⟩,
          trivial⟩⟩, rfl, rfl, rfl⟩)
        rfl (bx' := [(5, .var _), (3, .var _)]) rfl (n' := 27) rfl (⟨rfl, _, R.stZ (show Sg.get _ 3 = some _ from rfl) (show Sg.box _ 3 = some _ from rfl) rfl (evt (show Sg.get _ 23 = some _ from rfl)) (by rfl) (by rfl) (by rfl) (by rfl) rfl, ⟨[0, 3, 6, 7, 8], [(0, _), (3, _), (6, _), (7, _), (8, _)], [(5, .var _), (3, .var _)], 27, rfl, rfl, rfl, ?_⟩⟩)
      refine W.dropB [3] (bx' := [(3, .var _)]) rfl rfl rfl (pin_sub hD rfl) ?_
      refine W.line (n := 2) (by decide) (its := [⟨24, _, true⟩, ⟨8, _, true⟩]) (ks := []) (kk := []) (live := [0, 3, 6, 7, 8]) (env' := [(0, _), (3, _), (6, _), (7, _), (8, _)])
        (⟨Nat.le_of_ble_eq_true rfl, rfl,
          ⟨⟨rfl, rfl, fun _ τ hb ht hτ => R.addN (i) (1) (evt (hτ 8 _ rfl)) (show ev _ _ (.const (.int .i64 1)) = some (.int ((1 : Nat) : Int)) from rfl) (by first | omega | (simp only [List.length_map, List.length_append, List.length_cons, List.length_nil, List.length_take, List.length_drop, List.length_replicate]; omega) | (simp; omega)) ht⟩,
          ⟨⟨rfl, rfl, fun _ τ hb ht hτ => R.mov (evt (hτ 24 _ rfl)) rfl ht⟩,
          trivial⟩⟩, rfl, rfl, rfl⟩)
        rfl (bx' := [(3, .var _)]) rfl (n' := 27) rfl (⟨[0, 3, 6, 7, 8], [(0, _), (3, _), (6, _), (7, _), (8, _)], [(3, .var _)], 27, rfl, rfl, rfl, ?_⟩)
      exact ⟨⟨(i + 1), ⟨by omega, fun j hj => (by rcases Nat.lt_or_ge j i with h1 | h1; exact hi.2 j h1; obtain rfl : j = i := (by omega); first | (exact odd_no hp) | (exact odd_eq hp hc20))⟩⟩, rfl, (by simp only []; omega)⟩
  · obtain rfl : i = l.length := by omega
    refine W.exit ?_
    refine W.seq ?_
    refine W.line (n := 3) (by decide) (its := [⟨25, _, true⟩, ⟨26, _, true⟩, ⟨2, _, true⟩]) (ks := []) (kk := []) (live := [2]) (env' := [(2, _)])
      (⟨Nat.le_of_ble_eq_true rfl, rfl,
        ⟨⟨rfl, rfl, fun _ τ hb ht hτ => R.mov (evt (hτ 0 _ rfl)) rfl ht⟩,
        ⟨⟨rfl, rfl, fun _ τ hb ht hτ => R.lenE (SC.sl (hτ 25 _ rfl)) (List.length_map _) ht⟩,
        ⟨⟨rfl, rfl, fun _ τ hb ht hτ => R.asg (evt (hτ 26 _ rfl)) rfl ht⟩,
        trivial⟩⟩⟩, rfl, rfl, rfl⟩)
      rfl (bx' := [(3, .var _)]) rfl (n' := 27) rfl (⟨[2], [(2, _)], [(3, .var _)], 27, rfl, rfl, rfl, ?_⟩)
    refine W.ret ?_
    exact Ends.one' (.inr rfl) rfl (by rw [linkS_all l hi.2]) rfl rfl trivial

end Go.Sx
