/-
  Headers held against one another; headers of 80 bytes, got by the document.
-/
import Derived.Test.YtggoegenobhanaaDoorMHd6
import Derived.Test.YtggoegenobhanaaDoorMShaLaw2
set_option linter.unusedVariables false
set_option linter.unusedSimpArgs false
set_option linter.unnecessarySimpa false

namespace Go.Sx
open Go.Proofs
theorem low_ok (v : UInt32) : Fn Tryd.prog gl 28 [.u32 v] (.sl (some 5) 1 ((le4 v).map D.u8)) := by
  refine Fn.of (n := 15) Tryd.func28 rfl rfl rfl (Nat.le_of_ble_eq_true rfl) fun C hC hD => ?_
  refine W.seq ?_
  refine W.line (n := 1) (by decide) (its := [⟨2, _, true⟩]) (ks := []) (kk := []) (live := [0]) (env' := [(0, _)])
    (⟨Nat.le_of_ble_eq_true rfl, rfl,
      ⟨⟨rfl, rfl, fun _ τ hb ht hτ => R.asg (show ev _ _ (.const (.slice none 0 0)) = some (.nils) from rfl) rfl ht⟩,
      trivial⟩, rfl, rfl, rfl⟩)
    rfl (bx' := []) rfl (n' := 15) rfl (⟨[0], [(0, _)], [], 15, rfl, rfl, rfl, ?_⟩)
  refine W.seq ?_
  refine W.line (n := 13) (by decide) (its := [⟨3, _, true⟩, ⟨4, _, true⟩, ⟨5, _, true⟩, ⟨6, _, true⟩, ⟨7, _, true⟩, ⟨8, _, true⟩, ⟨9, _, true⟩, ⟨10, _, true⟩, ⟨11, _, true⟩, ⟨12, _, true⟩, ⟨13, _, true⟩, ⟨14, _, true⟩, ⟨2, _, true⟩]) (ks := [(12, 14)]) (kk := [(12, 14)]) (live := [2]) (env' := [(2, _)])
    (⟨Nat.le_of_ble_eq_true rfl, rfl,
      ⟨⟨rfl, rfl, fun _ τ hb ht hτ => R.mov (evt (hτ 0 _ rfl)) rfl ht⟩,
      ⟨⟨rfl, rfl, fun _ τ hb ht hτ => R.conv (evt (hτ 3 _ rfl)) rfl ht⟩,
      ⟨⟨rfl, rfl, fun _ τ hb ht hτ => R.mov (evt (hτ 0 _ rfl)) rfl ht⟩,
      ⟨⟨rfl, rfl, fun _ τ hb ht hτ => R.bin (evt (hτ 5 _ rfl)) (show ev _ _ (.const (.int .u64 8)) = some (.u64 8) from rfl) rfl (show (0 : Int) ≤ _ by first | omega | (simp only [List.length_map, List.length_append, List.length_cons, List.length_nil, List.length_take, List.length_drop, List.length_replicate]; omega) | (simp; omega)) ht⟩,
      ⟨⟨rfl, rfl, fun _ τ hb ht hτ => R.conv (evt (hτ 6 _ rfl)) rfl ht⟩,
      ⟨⟨rfl, rfl, fun _ τ hb ht hτ => R.mov (evt (hτ 0 _ rfl)) rfl ht⟩,
      ⟨⟨rfl, rfl, fun _ τ hb ht hτ => R.bin (evt (hτ 8 _ rfl)) (show ev _ _ (.const (.int .u64 16)) = some (.u64 16) from rfl) rfl (show (0 : Int) ≤ _ by first | omega | (simp only [List.length_map, List.length_append, List.length_cons, List.length_nil, List.length_take, List.length_drop, List.length_replicate]; omega) | (simp; omega)) ht⟩,
      ⟨⟨rfl, rfl, fun _ τ hb ht hτ => R.conv (evt (hτ 9 _ rfl)) rfl ht⟩,
      ⟨⟨rfl, rfl, fun _ τ hb ht hτ => R.mov (evt (hτ 0 _ rfl)) rfl ht⟩,
      ⟨⟨rfl, rfl, fun _ τ hb ht hτ => R.bin (evt (hτ 11 _ rfl)) (show ev _ _ (.const (.int .u64 24)) = some (.u64 24) from rfl) rfl (show (0 : Int) ≤ _ by first | omega | (simp only [List.length_map, List.length_append, List.length_cons, List.length_nil, List.length_take, List.length_drop, List.length_replicate]; omega) | (simp; omega)) ht⟩,
      ⟨⟨rfl, rfl, fun _ τ hb ht hτ => R.conv (evt (hτ 12 _ rfl)) rfl ht⟩,
      ⟨⟨rfl, rfl, fun _ τ hb ht hτ => R.bslE (z := 1) (.cons (evt (hτ 4 _ rfl)) (.cons (evt (hτ 7 _ rfl)) (.cons (evt (hτ 10 _ rfl)) (.cons (evt (hτ 13 _ rfl)) .nil)))) ⟨⟨rfl, rfl, rfl⟩, ⟨⟨rfl, rfl, rfl⟩, ⟨⟨rfl, rfl, rfl⟩, ⟨⟨rfl, rfl, rfl⟩, trivial⟩⟩⟩⟩ rfl ht (by decide)⟩,
      ⟨⟨rfl, rfl, fun _ τ hb ht hτ => R.asgO (hτ 14 _ rfl) rfl ht (by decide)⟩,
      trivial⟩⟩⟩⟩⟩⟩⟩⟩⟩⟩⟩⟩⟩, rfl, rfl, rfl⟩)
    rfl (bx' := []) rfl (n' := 15) rfl (⟨[2], [(2, _)], [], 15, rfl, rfl, rfl, ?_⟩)
  refine W.ret ?_
  exact Ends.one' (.inr rfl) rfl (congrArg (D.sl (some 5) 1) (le4_eq v)) rfl rfl trivial

theorem number_ok (b : List UInt8) (n : Nat) (hn : n + 4 ≤ b.length) (hb0 : b.length ≤ 1000000) : Fn Tryd.prog gl 26 [.sl none 1 (b.map D.u8), .int ((n : Nat) : Int)] (.u32 (num b n)) := by
  refine Fn.of (n := 34) Tryd.func26 rfl rfl rfl (Nat.le_of_ble_eq_true rfl) fun C hC hD => ?_
  refine W.seq ?_
  refine W.line (n := 1) (by decide) (its := [⟨4, _, true⟩]) (ks := []) (kk := []) (live := [0, 1]) (env' := [(0, _), (1, _)])
    (⟨Nat.le_of_ble_eq_true rfl, rfl,
      ⟨⟨rfl, rfl, fun _ τ hb ht hτ => R.asg (show ev _ _ (.const (.int .u32 0)) = some (.u32 0) from rfl) rfl ht⟩,
      trivial⟩, rfl, rfl, rfl⟩)
    rfl (bx' := []) rfl (n' := 34) rfl (⟨[0, 1], [(0, _), (1, _)], [], 34, rfl, rfl, rfl, ?_⟩)
  refine W.seq ?_
  refine W.draw (m := 30) (an := (0 :: 0 :: 3 :: 7 :: 15 :: 0 :: 0 :: 64 :: 224 :: 480 :: 992 :: 2016 :: 4095 :: 0 :: 0 :: 16384 :: 57344 :: 122880 :: 253952 :: 516096 :: 1048575 :: 0 :: 0 :: 4194304 :: 14680064 :: 31457280 :: 65011712 :: 132120576 :: 268435455 :: 536870911 :: [])) hP (by decide) rfl (its := (⟨5, _, true⟩ :: ⟨6, _, true⟩ :: ⟨7, _, true⟩ :: ⟨8, _, true⟩ :: ⟨9, _, true⟩ :: ⟨10, _, true⟩ :: ⟨11, _, true⟩ :: ⟨12, _, true⟩ :: ⟨13, _, true⟩ :: ⟨14, _, true⟩ :: ⟨15, _, true⟩ :: ⟨16, _, true⟩ :: ⟨17, _, true⟩ :: ⟨18, _, true⟩ :: ⟨19, _, true⟩ :: ⟨20, _, true⟩ :: ⟨21, _, true⟩ :: ⟨22, _, true⟩ :: ⟨23, _, true⟩ :: ⟨24, _, true⟩ :: ⟨25, _, true⟩ :: ⟨26, _, true⟩ :: ⟨27, _, true⟩ :: ⟨28, _, true⟩ :: ⟨29, _, true⟩ :: ⟨30, _, true⟩ :: ⟨31, _, true⟩ :: ⟨32, _, true⟩ :: ⟨33, _, true⟩ :: ⟨4, _, true⟩ :: [])) (ks := []) (kk := []) (live := [4]) (env' := [(4, _)])
    (⟨Nat.le_of_ble_eq_true rfl, rfl,
      ⟨⟨rfl, rfl, fun _ τ hb ht hτ => R.mov (evt (hτ 0 _ rfl)) rfl ht⟩,
      ⟨⟨rfl, rfl, fun _ τ hb ht hτ => R.mov (evt (hτ 1 _ rfl)) rfl ht⟩,
      ⟨⟨rfl, rfl, fun _ τ hb ht hτ => R.idxN (n) (SC.sl (hτ 5 _ rfl)) (evoI (evt (hτ 6 _ rfl))) rfl (by first | omega | (simp only [List.length_map, List.length_append, List.length_cons, List.length_nil, List.length_take, List.length_drop, List.length_replicate]; omega) | (simp; omega)) ht (by decide)⟩,
      ⟨⟨rfl, rfl, fun _ τ hb ht hτ => R.ldE (hτ 7 _ rfl) (SC.sl (hτ 5 _ rfl)) (map_get! (l := b) (by first | omega | (simp only [List.length_map, List.length_append, List.length_cons, List.length_nil, List.length_take, List.length_drop, List.length_replicate]; omega) | (simp; omega))) rfl rfl rfl rfl ht⟩,
      ⟨⟨rfl, rfl, fun _ τ hb ht hτ => R.conv (evt (hτ 8 _ rfl)) rfl ht⟩,
      ⟨⟨rfl, rfl, fun _ τ hb ht hτ => R.mov (evt (hτ 0 _ rfl)) rfl ht⟩,
      ⟨⟨rfl, rfl, fun _ τ hb ht hτ => R.mov (evt (hτ 1 _ rfl)) rfl ht⟩,
      ⟨⟨rfl, rfl, fun _ τ hb ht hτ => R.addN (n) (1) (evt (hτ 11 _ rfl)) (show ev _ _ (.const (.int .i64 1)) = some (.int ((1 : Nat) : Int)) from rfl) (by first | omega | (simp only [List.length_map, List.length_append, List.length_cons, List.length_nil, List.length_take, List.length_drop, List.length_replicate]; omega) | (simp; omega)) ht⟩,
      ⟨⟨rfl, rfl, fun _ τ hb ht hτ => R.idxN ((n + 1)) (SC.sl (hτ 10 _ rfl)) (evoI (evt (hτ 12 _ rfl))) rfl (by first | omega | (simp only [List.length_map, List.length_append, List.length_cons, List.length_nil, List.length_take, List.length_drop, List.length_replicate]; omega) | (simp; omega)) ht (by decide)⟩,
      ⟨⟨rfl, rfl, fun _ τ hb ht hτ => R.ldE (hτ 13 _ rfl) (SC.sl (hτ 10 _ rfl)) (map_get! (l := b) (by first | omega | (simp only [List.length_map, List.length_append, List.length_cons, List.length_nil, List.length_take, List.length_drop, List.length_replicate]; omega) | (simp; omega))) rfl rfl rfl rfl ht⟩,
      ⟨⟨rfl, rfl, fun _ τ hb ht hτ => R.conv (evt (hτ 14 _ rfl)) rfl ht⟩,
      ⟨⟨rfl, rfl, fun _ τ hb ht hτ => R.bin (evt (hτ 15 _ rfl)) (show ev _ _ (.const (.int .u64 8)) = some (.u64 8) from rfl) rfl (show (0 : Int) ≤ _ by first | omega | (simp only [List.length_map, List.length_append, List.length_cons, List.length_nil, List.length_take, List.length_drop, List.length_replicate]; omega) | (simp; omega)) ht⟩,
      ⟨⟨rfl, rfl, fun _ τ hb ht hτ => R.bin (evt (hτ 9 _ rfl)) (evt (hτ 16 _ rfl)) rfl trivial ht⟩,
      ⟨⟨rfl, rfl, fun _ τ hb ht hτ => R.mov (evt (hτ 0 _ rfl)) rfl ht⟩,
      ⟨⟨rfl, rfl, fun _ τ hb ht hτ => R.mov (evt (hτ 1 _ rfl)) rfl ht⟩,
      ⟨⟨rfl, rfl, fun _ τ hb ht hτ => R.addN (n) (2) (evt (hτ 19 _ rfl)) (show ev _ _ (.const (.int .i64 2)) = some (.int ((2 : Nat) : Int)) from rfl) (by first | omega | (simp only [List.length_map, List.length_append, List.length_cons, List.length_nil, List.length_take, List.length_drop, List.length_replicate]; omega) | (simp; omega)) ht⟩,
      ⟨⟨rfl, rfl, fun _ τ hb ht hτ => R.idxN ((n + 2)) (SC.sl (hτ 18 _ rfl)) (evoI (evt (hτ 20 _ rfl))) rfl (by first | omega | (simp only [List.length_map, List.length_append, List.length_cons, List.length_nil, List.length_take, List.length_drop, List.length_replicate]; omega) | (simp; omega)) ht (by decide)⟩,
      ⟨⟨rfl, rfl, fun _ τ hb ht hτ => R.ldE (hτ 21 _ rfl) (SC.sl (hτ 18 _ rfl)) (map_get! (l := b) (by first | omega | (simp only [List.length_map, List.length_append, List.length_cons, List.length_nil, List.length_take, List.length_drop, List.length_replicate]; omega) | (simp; omega))) rfl rfl rfl rfl ht⟩,
      ⟨⟨rfl, rfl, fun _ τ hb ht hτ => R.conv (evt (hτ 22 _ rfl)) rfl ht⟩,
      ⟨⟨rfl, rfl, fun _ τ hb ht hτ => R.bin (evt (hτ 23 _ rfl)) (show ev _ _ (.const (.int .u64 16)) = some (.u64 16) from rfl) rfl (show (0 : Int) ≤ _ by first | omega | (simp only [List.length_map, List.length_append, List.length_cons, List.length_nil, List.length_take, List.length_drop, List.length_replicate]; omega) | (simp; omega)) ht⟩,
      ⟨⟨rfl, rfl, fun _ τ hb ht hτ => R.bin (evt (hτ 17 _ rfl)) (evt (hτ 24 _ rfl)) rfl trivial ht⟩,
      ⟨⟨rfl, rfl, fun _ τ hb ht hτ => R.mov (evt (hτ 0 _ rfl)) rfl ht⟩,
      ⟨⟨rfl, rfl, fun _ τ hb ht hτ => R.mov (evt (hτ 1 _ rfl)) rfl ht⟩,
      ⟨⟨rfl, rfl, fun _ τ hb ht hτ => R.addN (n) (3) (evt (hτ 27 _ rfl)) (show ev _ _ (.const (.int .i64 3)) = some (.int ((3 : Nat) : Int)) from rfl) (by first | omega | (simp only [List.length_map, List.length_append, List.length_cons, List.length_nil, List.length_take, List.length_drop, List.length_replicate]; omega) | (simp; omega)) ht⟩,
      ⟨⟨rfl, rfl, fun _ τ hb ht hτ => R.idxN ((n + 3)) (SC.sl (hτ 26 _ rfl)) (evoI (evt (hτ 28 _ rfl))) rfl (by first | omega | (simp only [List.length_map, List.length_append, List.length_cons, List.length_nil, List.length_take, List.length_drop, List.length_replicate]; omega) | (simp; omega)) ht (by decide)⟩,
      ⟨⟨rfl, rfl, fun _ τ hb ht hτ => R.ldE (hτ 29 _ rfl) (SC.sl (hτ 26 _ rfl)) (map_get! (l := b) (by first | omega | (simp only [List.length_map, List.length_append, List.length_cons, List.length_nil, List.length_take, List.length_drop, List.length_replicate]; omega) | (simp; omega))) rfl rfl rfl rfl ht⟩,
      ⟨⟨rfl, rfl, fun _ τ hb ht hτ => R.conv (evt (hτ 30 _ rfl)) rfl ht⟩,
      ⟨⟨rfl, rfl, fun _ τ hb ht hτ => R.bin (evt (hτ 31 _ rfl)) (show ev _ _ (.const (.int .u64 24)) = some (.u64 24) from rfl) rfl (show (0 : Int) ≤ _ by first | omega | (simp only [List.length_map, List.length_append, List.length_cons, List.length_nil, List.length_take, List.length_drop, List.length_replicate]; omega) | (simp; omega)) ht⟩,
      ⟨⟨rfl, rfl, fun _ τ hb ht hτ => R.bin (evt (hτ 25 _ rfl)) (evt (hτ 32 _ rfl)) rfl trivial ht⟩,
      ⟨⟨rfl, rfl, fun _ τ hb ht hτ => R.asg (evt (hτ 33 _ rfl)) rfl ht⟩,
      trivial⟩⟩⟩⟩⟩⟩⟩⟩⟩⟩⟩⟩⟩⟩⟩⟩⟩⟩⟩⟩⟩⟩⟩⟩⟩⟩⟩⟩⟩⟩, rfl, rfl, rfl⟩)
    rfl (bx' := []) rfl (n' := 34) rfl (⟨[4], [(4, _)], [], 34, rfl, rfl, rfl, ?_⟩)
  refine W.ret ?_
  exact Ends.one' (.inr rfl) rfl (by rw [num_eq]; rfl) rfl rfl trivial

theorem hash_ok (b : List UInt8) (n : Nat) (hn : n + 32 ≤ b.length) (hb0 : b.length ≤ 1000000) : Fn Tryd.prog gl 27 [.sl none 1 (b.map D.u8), .int ((n : Nat) : Int)] (hashD ((b.drop n).take 32)) := by
  refine Fn.of (n := 20) Tryd.func27 rfl rfl rfl (Nat.le_of_ble_eq_true rfl) fun C hC hD => ?_
  refine W.seq ?_
  refine W.line (n := 1) (by decide) (its := []) (ks := []) (kk := []) (live := [0, 1]) (env' := [(0, _), (1, _)])
    (⟨Nat.le_of_ble_eq_true rfl, rfl,
      trivial, rfl, rfl, rfl⟩)
    rfl (bx' := []) rfl (n' := 20) rfl (⟨rfl, _, R.alloc rfl (Nat.le_of_ble_eq_true rfl), ⟨[0, 1, 4], [(0, _), (1, _), (4, _)], [(4, .var _)], 20, rfl, rfl, rfl, ?_⟩⟩)
  refine W.seq ?_
  refine W.line (n := 1) (by decide) (its := []) (ks := []) (kk := []) (live := [0, 1, 4]) (env' := [(0, _), (1, _), (4, _)])
    (⟨Nat.le_of_ble_eq_true rfl, rfl,
      trivial, rfl, rfl, rfl⟩)
    rfl (bx' := [(4, .var _)]) rfl (n' := 20) rfl (⟨rfl, _, R.alloc rfl (Nat.le_of_ble_eq_true rfl), ⟨[0, 1, 4, 5], [(0, _), (1, _), (4, _), (5, _)], [(5, .var _), (4, .var _)], 20, rfl, rfl, rfl, ?_⟩⟩)
  refine W.seq ?_
  refine W.seq ?_
  refine W.line (n := 1) (by decide) (its := [⟨6, _, true⟩]) (ks := []) (kk := []) (live := [0, 1, 4, 5, 6]) (env' := [(0, _), (1, _), (4, _), (5, _), (6, _)])
    (⟨Nat.le_of_ble_eq_true rfl, rfl,
      ⟨⟨rfl, rfl, fun _ τ hb ht hτ => R.asg (show ev _ _ (.const (.int .i64 0)) = some (.int ((0 : Nat) : Int)) from rfl) rfl ht⟩,
      trivial⟩, rfl, rfl, rfl⟩)
    rfl (bx' := [(5, .var _), (4, .var _)]) rfl (n' := 20) rfl (⟨[0, 1, 4, 5, 6], [(0, _), (1, _), (4, _), (5, _), (6, _)], [(5, .var _), (4, .var _)], 20, rfl, rfl, rfl, ?_⟩)
  refine W.block ?_
  refine W.loop (α := {q__ : Nat // q__ ≤ 32}) (fun q__ => ⟨20, [(0, .sl none 1 (b.map D.u8)), (1, .int ((n : Nat) : Int)), (4, .ptr 4 0 []), (5, .ptr 5 0 []), (6, .int ((q__.1 : Nat) : Int))], [(5, .var (hashD (hsI b n q__.1))), (4, .var (hashD zero32))]⟩) (fun q__ => 32 - q__.1) ⟨(0), (by first | omega | (simp only [List.length_map, List.length_append, List.length_cons, List.length_nil, List.length_take, List.length_drop, List.length_replicate]; omega) | (simp; omega))⟩ rfl ?_
  rintro ⟨i, hi⟩
  show W _ _ _ _ ⟨20, [(0, .sl none 1 (b.map D.u8)), (1, .int ((n : Nat) : Int)), (4, .ptr 4 0 []), (5, .ptr 5 0 []), (6, .int ((i : Nat) : Int))], [(5, .var (hashD (hsI b n i))), (4, .var (hashD zero32))]⟩
  have hi : i ≤ 32 := hi
  have hhl := hsI_len b n i hi hn
  refine W.seq ?_
  refine W.seq ?_
  refine W.line (n := 2) (by decide) (its := [⟨7, _, true⟩, ⟨8, _, true⟩]) (ks := []) (kk := []) (live := [0, 1, 4, 5, 6, 8]) (env' := [(0, _), (1, _), (4, _), (5, _), (6, _), (8, _)])
    (⟨Nat.le_of_ble_eq_true rfl, rfl,
      ⟨⟨rfl, rfl, fun _ τ hb ht hτ => R.mov (evt (hτ 6 _ rfl)) rfl ht⟩,
      ⟨⟨rfl, rfl, fun _ τ hb ht hτ => R.lssN (i) (32) (evt (hτ 7 _ rfl)) (show ev _ _ (.const (.int .i64 32)) = some (.int ((32 : Nat) : Int)) from rfl) ht⟩,
      trivial⟩⟩, rfl, rfl, rfl⟩)
    rfl (bx' := [(5, .var _), (4, .var _)]) rfl (n' := 20) rfl (⟨[0, 1, 4, 5, 6, 8], [(0, _), (1, _), (4, _), (5, _), (6, _), (8, _)], [(5, .var _), (4, .var _)], 20, rfl, rfl, rfl, ?_⟩)
  refine W.condD rfl (fun hc8 => ?_) (fun hc8 => ?_)
  · refine W.skip ?_
    refine W.seq ?_
    refine W.block ?_
    refine W.line (n := 9) (by decide) (its := [⟨11, _, true⟩, ⟨12, _, true⟩, ⟨13, _, true⟩, ⟨14, _, true⟩, ⟨15, _, true⟩, ⟨16, _, true⟩, ⟨17, _, true⟩, ⟨18, _, true⟩]) (ks := []) (kk := []) (live := [0, 1, 4, 5, 6, 17, 18]) (env' := [(0, _), (1, _), (4, _), (5, _), (6, _), (17, _), (18, _)])
      (⟨Nat.le_of_ble_eq_true rfl, rfl,
        ⟨⟨rfl, rfl, fun _ τ hb ht hτ => R.mov (evt (hτ 6 _ rfl)) rfl ht⟩,
        ⟨⟨rfl, rfl, fun _ τ hb ht hτ => R.mov (evt (hτ 0 _ rfl)) rfl ht⟩,
        ⟨⟨rfl, rfl, fun _ τ hb ht hτ => R.mov (evt (hτ 1 _ rfl)) rfl ht⟩,
        ⟨⟨rfl, rfl, fun _ τ hb ht hτ => R.mov (evt (hτ 6 _ rfl)) rfl ht⟩,
        ⟨⟨rfl, rfl, fun _ τ hb ht hτ => R.addN (n) (i) (evt (hτ 13 _ rfl)) (evt (hτ 14 _ rfl)) (by first | omega | (simp only [List.length_map, List.length_append, List.length_cons, List.length_nil, List.length_take, List.length_drop, List.length_replicate]; omega) | (simp; omega)) ht⟩,
        ⟨⟨rfl, rfl, fun _ τ hb ht hτ => R.idxN ((n + i)) (SC.sl (hτ 12 _ rfl)) (evoI (evt (hτ 15 _ rfl))) rfl (by first | omega | (simp only [List.length_map, List.length_append, List.length_cons, List.length_nil, List.length_take, List.length_drop, List.length_replicate]; omega) | (simp; omega)) ht (by decide)⟩,
        ⟨⟨rfl, rfl, fun _ τ hb ht hτ => R.ldE (hτ 16 _ rfl) (SC.sl (hτ 12 _ rfl)) (map_get! (l := b) (by first | omega | (simp only [List.length_map, List.length_append, List.length_cons, List.length_nil, List.length_take, List.length_drop, List.length_replicate]; omega) | (simp; omega))) rfl rfl rfl rfl ht⟩,
        ⟨⟨rfl, rfl, fun _ τ hb ht hτ => R.idxP (i) (hτ 5 _ rfl) (evoI (evt (hτ 11 _ rfl))) rfl (by first | omega | (simp only [List.length_map, List.length_append, List.length_cons, List.length_nil, List.length_take, List.length_drop, List.length_replicate]; omega) | (simp; omega)) ht⟩,
        trivial⟩⟩⟩⟩⟩⟩⟩⟩, rfl, rfl, rfl⟩)
      rfl (bx' := [(5, .var _), (4, .var _)]) rfl (n' := 20) rfl (⟨rfl, _, R.stZ (show Sg.get _ 18 = some _ from rfl) (show Sg.box _ 5 = some _ from rfl) (loc_arr (map_get! (l := (hsI b n i)) (by first | omega | (simp only [List.length_map, List.length_append, List.length_cons, List.length_nil, List.length_take, List.length_drop, List.length_replicate]; omega) | (simp; omega))) loc_nil (by first | omega | (simp only [List.length_map, List.length_append, List.length_cons, List.length_nil, List.length_take, List.length_drop, List.length_replicate]; omega) | (simp; omega))) (evt (show Sg.get _ 17 = some _ from rfl)) (by rfl) (by rfl) (by rfl) (by rfl) (upd_arr (map_get! (l := (hsI b n i)) (by first | omega | (simp only [List.length_map, List.length_append, List.length_cons, List.length_nil, List.length_take, List.length_drop, List.length_replicate]; omega) | (simp; omega))) upd_nil set_map), ⟨[0, 1, 4, 5, 6], [(0, _), (1, _), (4, _), (5, _), (6, _)], [(5, .var _), (4, .var _)], 20, rfl, rfl, rfl, ?_⟩⟩)
    refine W.line (n := 3) (by decide) (its := [⟨9, _, true⟩, ⟨10, _, true⟩, ⟨6, _, true⟩]) (ks := []) (kk := []) (live := [0, 1, 4, 5, 6]) (env' := [(0, _), (1, _), (4, _), (5, _), (6, _)])
      (⟨Nat.le_of_ble_eq_true rfl, rfl,
        ⟨⟨rfl, rfl, fun _ τ hb ht hτ => R.mov (evt (hτ 6 _ rfl)) rfl ht⟩,
        ⟨⟨rfl, rfl, fun _ τ hb ht hτ => R.addN (i) (1) (evt (hτ 9 _ rfl)) (show ev _ _ (.const (.int .i64 1)) = some (.int ((1 : Nat) : Int)) from rfl) (by first | omega | (simp only [List.length_map, List.length_append, List.length_cons, List.length_nil, List.length_take, List.length_drop, List.length_replicate]; omega) | (simp; omega)) ht⟩,
        ⟨⟨rfl, rfl, fun _ τ hb ht hτ => R.asg (evt (hτ 10 _ rfl)) rfl ht⟩,
        trivial⟩⟩⟩, rfl, rfl, rfl⟩)
      rfl (bx' := [(5, .var _), (4, .var _)]) rfl (n' := 20) rfl (⟨[0, 1, 4, 5, 6], [(0, _), (1, _), (4, _), (5, _), (6, _)], [(5, .var _), (4, .var _)], 20, rfl, rfl, rfl, ?_⟩)
    exact ⟨⟨(i + 1), (by first | omega | (simp only [List.length_map, List.length_append, List.length_cons, List.length_nil, List.length_take, List.length_drop, List.length_replicate]; omega) | (simp; omega))⟩, (by rw [← hsI_succ b n i hc8 hn]; rfl), (by simp only []; omega)⟩
  · obtain rfl : i = 32 := by omega
    refine W.exit ?_
    refine W.seq ?_
    refine W.line (n := 2) (by decide) (its := [⟨19, _, true⟩]) (ks := []) (kk := []) (live := [4, 19]) (env' := [(4, _), (19, _)])
      (⟨Nat.le_of_ble_eq_true rfl, rfl,
        ⟨⟨rfl, rfl, fun _ τ hb ht hτ => R.ldP (hτ 5 _ rfl) (hb 5 _ rfl) rfl rfl rfl rfl ht⟩,
        trivial⟩, rfl, rfl, rfl⟩)
      rfl (bx' := [(5, .var _), (4, .var _)]) rfl (n' := 20) rfl (⟨rfl, _, R.stZ (show Sg.get _ 4 = some _ from rfl) (show Sg.box _ 4 = some _ from rfl) rfl (evt (show Sg.get _ 19 = some _ from rfl)) (by rfl) (by rfl) (by rfl) (by rfl) rfl, ⟨[4], [(4, _)], [(5, .var _), (4, .var _)], 20, rfl, rfl, rfl, ?_⟩⟩)
    refine W.ret ?_
    exact Ends.one' (.inr rfl) rfl (by rw [hsI_32]) rfl rfl (show LdT _ 24 32 true from inferInstance)

theorem rput_ok (h : HdS) (hw : h.wf) : Fn Tryd.prog gl 15 [hdrD h] (.sl (some 5) 1 ((putS h).map D.u8)) := by
  refine Fn.of (n := 30) Tryd.func15 rfl rfl rfl (Nat.le_of_ble_eq_true rfl) fun C hC hD => ?_
  have hw1 := hw.1
  have hw2 := hw.2
  refine W.seq ?_
  refine W.line (n := 2) (by decide) (its := []) (ks := []) (kk := []) (live := [0]) (env' := [(0, _)])
    (⟨Nat.le_of_ble_eq_true rfl, rfl,
      trivial, rfl, rfl, rfl⟩)
    rfl (bx' := []) rfl (n' := 30) rfl (⟨rfl, _, R.box (evt (show Sg.get _ 0 = some _ from rfl)) rfl rfl (Nat.le_of_ble_eq_true rfl), ⟨rfl, _, R.asg (show ev _ _ (.const (.slice none 0 0)) = some (.nils) from rfl) rfl (Nat.le_of_ble_eq_true rfl), ⟨[1], [(1, _)], [(1, .var _)], 30, rfl, rfl, rfl, ?_⟩⟩⟩)
  refine W.seq ?_
  refine W.line (n := 4) (by decide) (its := [⟨4, _, true⟩, ⟨5, _, true⟩, ⟨6, _, true⟩, ⟨3, _, true⟩]) (ks := [(3, 6)]) (kk := [(3, 6)]) (live := [1, 3]) (env' := [(1, _), (3, _)])
    (⟨Nat.le_of_ble_eq_true rfl, rfl,
      ⟨⟨rfl, rfl, fun _ τ hb ht hτ => R.fdP (hτ 1 _ rfl) ht⟩,
      ⟨⟨rfl, rfl, fun _ τ hb ht hτ => R.ldP (hτ 4 _ rfl) (hb 1 _ rfl) rfl rfl rfl rfl ht⟩,
      ⟨⟨rfl, rfl, fun _ τ hb ht hτ => R.callG hC (low_ok h.ver) (Bors.cons (Bor.pur (evt (hτ 5 _ rfl)) rfl rfl) Bors.nil) (FrsR.one (.sl _ _ _ (frs_map fun _ => .u8 _))) ht⟩,
      ⟨⟨rfl, rfl, fun _ τ hb ht hτ => R.asgO (hτ 6 _ rfl) rfl ht (by decide)⟩,
      trivial⟩⟩⟩⟩, rfl, rfl, rfl⟩)
    rfl (bx' := [(1, .var _)]) rfl (n' := 30) rfl (⟨[1, 3], [(1, _), (3, _)], [(1, .var _)], 30, rfl, rfl, rfl, ?_⟩)
  refine W.seq ?_
  refine W.line (n := 5) (by decide) (its := [⟨7, _, true⟩, ⟨8, _, true⟩, ⟨9, _, true⟩, ⟨10, _, true⟩, ⟨3, _, true⟩]) (ks := [(3, 3), (4, 10), (4, 7)]) (kk := [(3, 3), (4, 10)]) (live := [1, 3]) (env' := [(1, _), (3, _)])
    (⟨Nat.le_of_ble_eq_true rfl, rfl,
      ⟨⟨rfl, rfl, fun _ τ hb ht hτ => R.al (hτ 3 _ rfl) ht (by decide)⟩,
      ⟨⟨rfl, rfl, fun _ τ hb ht hτ => R.fdP (hτ 1 _ rfl) ht⟩,
      ⟨⟨rfl, rfl, fun _ τ hb ht hτ => R.slAN (0) (32) (32) (hτ 8 _ rfl) (hb 1 _ rfl) rfl rfl rfl rfl rfl (by first | omega | (simp only [List.length_map, List.length_append, List.length_cons, List.length_nil, List.length_take, List.length_drop, List.length_replicate]; omega) | (simp; omega)) (by first | omega | (simp only [List.length_map, List.length_append, List.length_cons, List.length_nil, List.length_take, List.length_drop, List.length_replicate]; omega) | (simp; omega)) rfl ht⟩,
      ⟨⟨rfl, rfl, fun _ τ hb ht hτ => R.appE (Or.inr (hτ 7 _ rfl)) (hτ 3 _ rfl) (SrcO.sc (SC.va (hτ 9 _ rfl) (hb 1 _ rfl) rfl (by decide)) (pur_part (fun _ => rfl))) (show _ = ((le4 h.ver ++ h.prev).map D.u8) from (app_part _ h.prev 32 hw1)) (by simp [le4, hw1, hw2]) ht (by decide) (by decide)⟩,
      ⟨⟨rfl, rfl, fun _ τ hb ht hτ => R.asgO (hτ 10 _ rfl) rfl ht (by decide)⟩,
      trivial⟩⟩⟩⟩⟩, rfl, rfl, rfl⟩)
    rfl (bx' := [(1, .var _)]) rfl (n' := 30) rfl (⟨[1, 3], [(1, _), (3, _)], [(1, .var _)], 30, rfl, rfl, rfl, ?_⟩)
  refine W.seq ?_
  refine W.line (n := 5) (by decide) (its := [⟨11, _, true⟩, ⟨12, _, true⟩, ⟨13, _, true⟩, ⟨14, _, true⟩, ⟨3, _, true⟩]) (ks := [(3, 3), (4, 14), (4, 11)]) (kk := [(3, 3), (4, 14)]) (live := [1, 3]) (env' := [(1, _), (3, _)])
    (⟨Nat.le_of_ble_eq_true rfl, rfl,
      ⟨⟨rfl, rfl, fun _ τ hb ht hτ => R.al (hτ 3 _ rfl) ht (by decide)⟩,
      ⟨⟨rfl, rfl, fun _ τ hb ht hτ => R.fdP (hτ 1 _ rfl) ht⟩,
      ⟨⟨rfl, rfl, fun _ τ hb ht hτ => R.slAN (0) (32) (32) (hτ 12 _ rfl) (hb 1 _ rfl) rfl rfl rfl rfl rfl (by first | omega | (simp only [List.length_map, List.length_append, List.length_cons, List.length_nil, List.length_take, List.length_drop, List.length_replicate]; omega) | (simp; omega)) (by first | omega | (simp only [List.length_map, List.length_append, List.length_cons, List.length_nil, List.length_take, List.length_drop, List.length_replicate]; omega) | (simp; omega)) rfl ht⟩,
      ⟨⟨rfl, rfl, fun _ τ hb ht hτ => R.appE (Or.inr (hτ 11 _ rfl)) (hτ 3 _ rfl) (SrcO.sc (SC.va (hτ 13 _ rfl) (hb 1 _ rfl) rfl (by decide)) (pur_part (fun _ => rfl))) (show _ = ((le4 h.ver ++ h.prev ++ h.root).map D.u8) from (app_part _ h.root 32 hw2)) (by simp [le4, hw1, hw2]) ht (by decide) (by decide)⟩,
      ⟨⟨rfl, rfl, fun _ τ hb ht hτ => R.asgO (hτ 14 _ rfl) rfl ht (by decide)⟩,
      trivial⟩⟩⟩⟩⟩, rfl, rfl, rfl⟩)
    rfl (bx' := [(1, .var _)]) rfl (n' := 30) rfl (⟨[1, 3], [(1, _), (3, _)], [(1, .var _)], 30, rfl, rfl, rfl, ?_⟩)
  refine W.seq ?_
  refine W.line (n := 6) (by decide) (its := [⟨15, _, true⟩, ⟨16, _, true⟩, ⟨17, _, true⟩, ⟨18, _, true⟩, ⟨19, _, true⟩, ⟨3, _, true⟩]) (ks := [(4, 3), (5, 19), (5, 15)]) (kk := [(4, 3), (5, 19)]) (live := [1, 3]) (env' := [(1, _), (3, _)])
    (⟨Nat.le_of_ble_eq_true rfl, rfl,
      ⟨⟨rfl, rfl, fun _ τ hb ht hτ => R.al (hτ 3 _ rfl) ht (by decide)⟩,
      ⟨⟨rfl, rfl, fun _ τ hb ht hτ => R.fdP (hτ 1 _ rfl) ht⟩,
      ⟨⟨rfl, rfl, fun _ τ hb ht hτ => R.ldP (hτ 16 _ rfl) (hb 1 _ rfl) rfl rfl rfl rfl ht⟩,
      ⟨⟨rfl, rfl, fun _ τ hb ht hτ => R.callG hC (low_ok h.time) (Bors.cons (Bor.pur (evt (hτ 17 _ rfl)) rfl rfl) Bors.nil) (FrsR.one (.sl _ _ _ (frs_map fun _ => .u8 _))) ht⟩,
      ⟨⟨rfl, rfl, fun _ τ hb ht hτ => R.appE (Or.inr (hτ 15 _ rfl)) (hτ 3 _ rfl) (SrcO.sc (SC.sl (hτ 18 _ rfl)) (pur_map (fun _ => rfl))) (app_map) (by simp [le4, hw1, hw2]) ht (by decide) (by decide)⟩,
      ⟨⟨rfl, rfl, fun _ τ hb ht hτ => R.asgO (hτ 19 _ rfl) rfl ht (by decide)⟩,
      trivial⟩⟩⟩⟩⟩⟩, rfl, rfl, rfl⟩)
    rfl (bx' := [(1, .var _)]) rfl (n' := 30) rfl (⟨[1, 3], [(1, _), (3, _)], [(1, .var _)], 30, rfl, rfl, rfl, ?_⟩)
  refine W.seq ?_
  refine W.line (n := 6) (by decide) (its := [⟨20, _, true⟩, ⟨21, _, true⟩, ⟨22, _, true⟩, ⟨23, _, true⟩, ⟨24, _, true⟩, ⟨3, _, true⟩]) (ks := [(4, 3), (5, 24), (5, 20)]) (kk := [(4, 3), (5, 24)]) (live := [1, 3]) (env' := [(1, _), (3, _)])
    (⟨Nat.le_of_ble_eq_true rfl, rfl,
      ⟨⟨rfl, rfl, fun _ τ hb ht hτ => R.al (hτ 3 _ rfl) ht (by decide)⟩,
      ⟨⟨rfl, rfl, fun _ τ hb ht hτ => R.fdP (hτ 1 _ rfl) ht⟩,
      ⟨⟨rfl, rfl, fun _ τ hb ht hτ => R.ldP (hτ 21 _ rfl) (hb 1 _ rfl) rfl rfl rfl rfl ht⟩,
      ⟨⟨rfl, rfl, fun _ τ hb ht hτ => R.callG hC (low_ok h.bits) (Bors.cons (Bor.pur (evt (hτ 22 _ rfl)) rfl rfl) Bors.nil) (FrsR.one (.sl _ _ _ (frs_map fun _ => .u8 _))) ht⟩,
      ⟨⟨rfl, rfl, fun _ τ hb ht hτ => R.appE (Or.inr (hτ 20 _ rfl)) (hτ 3 _ rfl) (SrcO.sc (SC.sl (hτ 23 _ rfl)) (pur_map (fun _ => rfl))) (app_map) (by simp [le4, hw1, hw2]) ht (by decide) (by decide)⟩,
      ⟨⟨rfl, rfl, fun _ τ hb ht hτ => R.asgO (hτ 24 _ rfl) rfl ht (by decide)⟩,
      trivial⟩⟩⟩⟩⟩⟩, rfl, rfl, rfl⟩)
    rfl (bx' := [(1, .var _)]) rfl (n' := 30) rfl (⟨[1, 3], [(1, _), (3, _)], [(1, .var _)], 30, rfl, rfl, rfl, ?_⟩)
  refine W.seq ?_
  refine W.line (n := 6) (by decide) (its := [⟨25, _, true⟩, ⟨26, _, true⟩, ⟨27, _, true⟩, ⟨28, _, true⟩, ⟨29, _, true⟩, ⟨2, _, true⟩]) (ks := [(4, 3), (5, 29)]) (kk := [(4, 3), (5, 29)]) (live := [2]) (env' := [(2, _)])
    (⟨Nat.le_of_ble_eq_true rfl, rfl,
      ⟨⟨rfl, rfl, fun _ τ hb ht hτ => R.al (hτ 3 _ rfl) ht (by decide)⟩,
      ⟨⟨rfl, rfl, fun _ τ hb ht hτ => R.fdP (hτ 1 _ rfl) ht⟩,
      ⟨⟨rfl, rfl, fun _ τ hb ht hτ => R.ldP (hτ 26 _ rfl) (hb 1 _ rfl) rfl rfl rfl rfl ht⟩,
      ⟨⟨rfl, rfl, fun _ τ hb ht hτ => R.callG hC (low_ok h.nonce) (Bors.cons (Bor.pur (evt (hτ 27 _ rfl)) rfl rfl) Bors.nil) (FrsR.one (.sl _ _ _ (frs_map fun _ => .u8 _))) ht⟩,
      ⟨⟨rfl, rfl, fun _ τ hb ht hτ => R.appE (Or.inr (hτ 25 _ rfl)) (hτ 3 _ rfl) (SrcO.sc (SC.sl (hτ 28 _ rfl)) (pur_map (fun _ => rfl))) (app_map) (by simp [le4, hw1, hw2]) ht (by decide) (by decide)⟩,
      ⟨⟨rfl, rfl, fun _ τ hb ht hτ => R.asgO (hτ 29 _ rfl) rfl ht (by decide)⟩,
      trivial⟩⟩⟩⟩⟩⟩, rfl, rfl, rfl⟩)
    rfl (bx' := [(1, .var _)]) rfl (n' := 30) rfl (⟨[2], [(2, _)], [(1, .var _)], 30, rfl, rfl, rfl, ?_⟩)
  refine W.ret ?_
  exact Ends.one' (.inr rfl) rfl (rfl) rfl rfl trivial

theorem rget_ok (b : List UInt8) (hb0 : b.length ≤ 1000000) : Fn Tryd.prog gl 13 [.sl none 1 (b.map D.u8)] (.tup [hdrD (getS b).1, .int (getS b).2]) := by
  refine Fn.of (n := 21) Tryd.func13 rfl rfl rfl (Nat.le_of_ble_eq_true rfl) fun C hC hD => ?_
  refine W.seq ?_
  refine W.line (n := 2) (by decide) (its := []) (ks := []) (kk := []) (live := [0]) (env' := [(0, _)])
    (⟨Nat.le_of_ble_eq_true rfl, rfl,
      trivial, rfl, rfl, rfl⟩)
    rfl (bx' := []) rfl (n' := 21) rfl (⟨rfl, _, R.alloc rfl (Nat.le_of_ble_eq_true rfl), ⟨rfl, _, R.asg (show ev _ _ (.const (.int .i64 0)) = some (.int ((0 : Nat) : Int)) from rfl) rfl (Nat.le_of_ble_eq_true rfl), ⟨[0, 2], [(0, _), (2, _)], [(2, .var _)], 21, rfl, rfl, rfl, ?_⟩⟩⟩)
  refine W.seq ?_
  refine W.seq ?_
  refine W.line (n := 3) (by decide) (its := [⟨4, _, true⟩, ⟨5, _, true⟩, ⟨6, _, true⟩]) (ks := []) (kk := []) (live := [0, 2, 6]) (env' := [(0, _), (2, _), (6, _)])
    (⟨Nat.le_of_ble_eq_true rfl, rfl,
      ⟨⟨rfl, rfl, fun _ τ hb ht hτ => R.mov (evt (hτ 0 _ rfl)) rfl ht⟩,
      ⟨⟨rfl, rfl, fun _ τ hb ht hτ => R.lenE (SC.sl (hτ 4 _ rfl)) (List.length_map _) ht⟩,
      ⟨⟨rfl, rfl, fun _ τ hb ht hτ => R.neqN (b.length) (80) (evt (hτ 5 _ rfl)) (show ev _ _ (.const (.int .i64 80)) = some (.int ((80 : Nat) : Int)) from rfl) ht⟩,
      trivial⟩⟩⟩, rfl, rfl, rfl⟩)
    rfl (bx' := [(2, .var _)]) rfl (n' := 21) rfl (⟨[0, 2, 6], [(0, _), (2, _), (6, _)], [(2, .var _)], 21, rfl, rfl, rfl, ?_⟩)
  refine W.condD rfl (fun hc6 => ?_) (fun hc6 => ?_)
  · refine W.seq ?_
    refine W.line (n := 3) (by decide) (its := [⟨7, _, true⟩]) (ks := []) (kk := []) (live := [2, 7]) (env' := [(2, _), (7, _)])
      (⟨Nat.le_of_ble_eq_true rfl, rfl,
        ⟨⟨rfl, rfl, fun _ τ hb ht hτ => R.bldSE (l := [.u32 0, .arr 32 1 ((List.replicate 32 0).map D.u8), .arr 32 1 ((List.replicate 32 0).map D.u8), .u32 0, .u32 0, .u32 0]) (l' := [_, _, _, _, _, _]) (.nil rfl) trivial ht⟩,
        trivial⟩, rfl, rfl, rfl⟩)
      rfl (bx' := [(2, .var _)]) rfl (n' := 21) rfl (⟨rfl, _, R.stZ (show Sg.get _ 2 = some _ from rfl) (show Sg.box _ 2 = some _ from rfl) rfl (evt (show Sg.get _ 7 = some _ from rfl)) (by rfl) (by rfl) (by rfl) (by rfl) rfl, ⟨rfl, _, R.asg (show ev _ _ (.const (.int .i64 5)) = some (.int ((5 : Nat) : Int)) from rfl) rfl (Nat.le_of_ble_eq_true rfl), ⟨[2, 3], [(2, _), (3, _)], [(2, .var _)], 21, rfl, rfl, rfl, ?_⟩⟩⟩)
    refine W.ret ?_
    exact Ends.many (.inr rfl) (.cons rfl rfl rfl (show LdT _ 26 68 true from inferInstance) (.cons rfl rfl rfl trivial .nil)) (by simp only [getS, if_pos hc6]; rfl) (show [(2, false), (3, true)].Nodup by decide)
  · refine W.skip ?_
    refine W.seq ?_
    have h80 : b.length = 80 := Decidable.not_not.1 hc6
    refine W.line (n := 15) (by decide) (its := [⟨8, _, true⟩, ⟨9, _, true⟩, ⟨10, _, true⟩, ⟨11, _, true⟩, ⟨12, _, true⟩, ⟨13, _, true⟩, ⟨14, _, true⟩, ⟨15, _, true⟩, ⟨16, _, true⟩, ⟨17, _, true⟩, ⟨18, _, true⟩, ⟨19, _, true⟩, ⟨20, _, true⟩]) (ks := []) (kk := []) (live := [2, 20]) (env' := [(2, _), (20, _)])
      (⟨Nat.le_of_ble_eq_true rfl, rfl,
        ⟨⟨rfl, rfl, fun _ τ hb ht hτ => R.mov (evt (hτ 0 _ rfl)) rfl ht⟩,
        ⟨⟨rfl, rfl, fun _ τ hb ht hτ => R.callG hC (number_ok b 0 (by omega) hb0) (Bors.cons (Bor.pur (evt (hτ 8 _ rfl)) rfl rfl) (Bors.cons (Bor.pur (show ev _ _ (.const (.int .i64 0)) = some (.int ((0 : Nat) : Int)) from rfl) rfl rfl) Bors.nil)) (FrsR.one (.u32 _)) ht⟩,
        ⟨⟨rfl, rfl, fun _ τ hb ht hτ => R.mov (evt (hτ 0 _ rfl)) rfl ht⟩,
        ⟨⟨rfl, rfl, fun _ τ hb ht hτ => R.callG hC (hash_ok b 4 (by omega) hb0) (Bors.cons (Bor.pur (evt (hτ 10 _ rfl)) rfl rfl) (Bors.cons (Bor.pur (show ev _ _ (.const (.int .i64 4)) = some (.int ((4 : Nat) : Int)) from rfl) rfl rfl) Bors.nil)) (FrsR.one (frs_hash _)) ht⟩,
        ⟨⟨rfl, rfl, fun _ τ hb ht hτ => R.mov (evt (hτ 0 _ rfl)) rfl ht⟩,
        ⟨⟨rfl, rfl, fun _ τ hb ht hτ => R.callG hC (hash_ok b 36 (by omega) hb0) (Bors.cons (Bor.pur (evt (hτ 12 _ rfl)) rfl rfl) (Bors.cons (Bor.pur (show ev _ _ (.const (.int .i64 36)) = some (.int ((36 : Nat) : Int)) from rfl) rfl rfl) Bors.nil)) (FrsR.one (frs_hash _)) ht⟩,
        ⟨⟨rfl, rfl, fun _ τ hb ht hτ => R.mov (evt (hτ 0 _ rfl)) rfl ht⟩,
        ⟨⟨rfl, rfl, fun _ τ hb ht hτ => R.callG hC (number_ok b 68 (by omega) hb0) (Bors.cons (Bor.pur (evt (hτ 14 _ rfl)) rfl rfl) (Bors.cons (Bor.pur (show ev _ _ (.const (.int .i64 68)) = some (.int ((68 : Nat) : Int)) from rfl) rfl rfl) Bors.nil)) (FrsR.one (.u32 _)) ht⟩,
        ⟨⟨rfl, rfl, fun _ τ hb ht hτ => R.mov (evt (hτ 0 _ rfl)) rfl ht⟩,
        ⟨⟨rfl, rfl, fun _ τ hb ht hτ => R.callG hC (number_ok b 72 (by omega) hb0) (Bors.cons (Bor.pur (evt (hτ 16 _ rfl)) rfl rfl) (Bors.cons (Bor.pur (show ev _ _ (.const (.int .i64 72)) = some (.int ((72 : Nat) : Int)) from rfl) rfl rfl) Bors.nil)) (FrsR.one (.u32 _)) ht⟩,
        ⟨⟨rfl, rfl, fun _ τ hb ht hτ => R.mov (evt (hτ 0 _ rfl)) rfl ht⟩,
        ⟨⟨rfl, rfl, fun _ τ hb ht hτ => R.callG hC (number_ok b 76 (by omega) hb0) (Bors.cons (Bor.pur (evt (hτ 18 _ rfl)) rfl rfl) (Bors.cons (Bor.pur (show ev _ _ (.const (.int .i64 76)) = some (.int ((76 : Nat) : Int)) from rfl) rfl rfl) Bors.nil)) (FrsR.one (.u32 _)) ht⟩,
        ⟨⟨rfl, rfl, fun _ τ hb ht hτ => R.bldSE (l := [.u32 0, .arr 32 1 ((List.replicate 32 0).map D.u8), .arr 32 1 ((List.replicate 32 0).map D.u8), .u32 0, .u32 0, .u32 0]) (l' := [_, _, _, _, _, _]) (.cons (evt (hτ 9 _ rfl)) (.cons (evt (hτ 11 _ rfl)) (.cons (evt (hτ 13 _ rfl)) (.cons (evt (hτ 15 _ rfl)) (.cons (evt (hτ 17 _ rfl)) (.cons (evt (hτ 19 _ rfl)) (.nil rfl))))))) ⟨⟨_, (evt (hτ 9 _ rfl)), rfl, rfl, rfl⟩, ⟨⟨_, (evt (hτ 11 _ rfl)), rfl, rfl, rfl⟩, ⟨⟨_, (evt (hτ 13 _ rfl)), rfl, rfl, rfl⟩, ⟨⟨_, (evt (hτ 15 _ rfl)), rfl, rfl, rfl⟩, ⟨⟨_, (evt (hτ 17 _ rfl)), rfl, rfl, rfl⟩, ⟨⟨_, (evt (hτ 19 _ rfl)), rfl, rfl, rfl⟩, trivial⟩⟩⟩⟩⟩⟩ ht⟩,
        trivial⟩⟩⟩⟩⟩⟩⟩⟩⟩⟩⟩⟩⟩, rfl, rfl, rfl⟩)
      rfl (bx' := [(2, .var _)]) rfl (n' := 21) rfl (⟨rfl, _, R.stZ (show Sg.get _ 2 = some _ from rfl) (show Sg.box _ 2 = some _ from rfl) rfl (evt (show Sg.get _ 20 = some _ from rfl)) (by rfl) (by rfl) (by rfl) (by rfl) rfl, ⟨rfl, _, R.asg (show ev _ _ (.const (.int .i64 0)) = some (.int ((0 : Nat) : Int)) from rfl) rfl (Nat.le_of_ble_eq_true rfl), ⟨[2, 3], [(2, _), (3, _)], [(2, .var _)], 21, rfl, rfl, rfl, ?_⟩⟩⟩)
    refine W.ret ?_
    exact Ends.many (.inr rfl) (.cons rfl rfl rfl (show LdT _ 26 68 true from inferInstance) (.cons rfl rfl rfl trivial .nil)) (by simp only [getS, if_neg hc6]; rfl) (show [(2, false), (3, true)].Nodup by decide)

end Go.Sx

namespace Go.Sx
open Go.Proofs
theorem eqv_hdr (a b : HdS) : EqV Tryd.prog 3 26 (hdrD a) (hdrD b) (a == b) := by
  rw [← hdr_beq]
  have h32 : ∀ x y : UInt32, EqV Tryd.prog 2 22 (.u32 x) (.u32 y) (x == y) := fun x y => (EqV.u32 Tryd.underlying22 x y).up 1
  have hh : ∀ x y : Hs, EqV Tryd.prog 2 24 (hashD x) (hashD y) (x == y) := fun x y => EqV.arr x y
  exact EqV.struct (k := 2) Tryd.underlying26 (by kernel_rfl) (.cons rfl rfl inferInstance rfl rfl rfl rfl (h32 _ _) (.cons rfl rfl inferInstance rfl rfl rfl rfl (hh _ _) (.cons rfl rfl inferInstance rfl rfl rfl rfl (hh _ _)
    (.cons rfl rfl inferInstance rfl rfl rfl rfl (h32 _ _) (.cons rfl rfl inferInstance rfl rfl rfl rfl (h32 _ _) (.cons rfl rfl inferInstance rfl rfl rfl rfl (h32 _ _) .nil))))))
theorem rget80_ok (b : List UInt8) (h : b.length = 80) : Fn Tryd.prog gl 13 [.sl none 1 (b.map .u8)] (.tup [hdrD (hd80 b), .int ((0 : Nat) : Int)]) := by
  have := rget_ok b (by omega)
  unfold getS at this
  rw [if_neg (by omega)] at this
  exact this
end Go.Sx

namespace Go.Sx
open Go.Proofs
theorem rid_ok (h : HdS) (hw : h.wf) : Fn Tryd.prog gl 17 [hdrD h] (hashD (ridS h)) := by
  refine Fn.of (n := 6) Tryd.func17 rfl rfl rfl (Nat.le_of_ble_eq_true rfl) fun C hC hD => ?_
  refine W.seq ?_
  refine W.line (n := 2) (by decide) (its := []) (ks := []) (kk := []) (live := [0]) (env' := [(0, _)])
    (⟨Nat.le_of_ble_eq_true rfl, rfl,
      trivial, rfl, rfl, rfl⟩)
    rfl (bx' := []) rfl (n' := 6) rfl (⟨rfl, _, R.box (evt (show Sg.get _ 0 = some _ from rfl)) rfl rfl (Nat.le_of_ble_eq_true rfl), ⟨rfl, _, R.alloc rfl (Nat.le_of_ble_eq_true rfl), ⟨[1, 2], [(1, _), (2, _)], [(2, .var _), (1, .var _)], 6, rfl, rfl, rfl, ?_⟩⟩⟩)
  refine W.seq ?_
  refine W.line (n := 4) (by decide) (its := [⟨3, _, true⟩, ⟨4, _, true⟩, ⟨5, _, true⟩]) (ks := []) (kk := []) (live := [2, 5]) (env' := [(2, _), (5, _)])
    (⟨Nat.le_of_ble_eq_true rfl, rfl,
      ⟨⟨rfl, rfl, fun _ τ hb ht hτ => R.ldP (hτ 1 _ rfl) (hb 1 _ rfl) rfl rfl rfl rfl ht⟩,
      ⟨⟨rfl, rfl, fun _ τ hb ht hτ => R.callG hC (rput_ok h hw) (Bors.cons (Bor.pur (evt (hτ 3 _ rfl)) rfl rfl) Bors.nil) (FrsR.one (.sl _ _ _ (frs_map fun _ => .u8 _))) ht⟩,
      ⟨⟨rfl, rfl, fun _ τ hb ht hτ => R.callG hC (rtwice_ok (putS h) (by rw [putS_len h hw]; decide)) (Bors.cons (Bor.sc (SC.sl (hτ 4 _ rfl)) (brw_map (fun _ => rfl))) Bors.nil) (FrsR.one (frs_hash _)) ht⟩,
      trivial⟩⟩⟩, rfl, rfl, rfl⟩)
    rfl (bx' := [(2, .var _), (1, .var _)]) rfl (n' := 6) rfl (⟨rfl, _, R.stZ (show Sg.get _ 2 = some _ from rfl) (show Sg.box _ 2 = some _ from rfl) rfl (evt (show Sg.get _ 5 = some _ from rfl)) (by rfl) (by rfl) (by rfl) (by rfl) rfl, ⟨[2], [(2, _)], [(2, .var _), (1, .var _)], 6, rfl, rfl, rfl, ?_⟩⟩)
  refine W.ret ?_
  exact Ends.one' (.inr rfl) rfl (rfl) rfl rfl (show LdT _ 24 32 true from inferInstance)

theorem rrow_ok (l : List HdS) (hl : allW l) (hl0 : l.length ≤ 1000) : Fn Tryd.prog gl 22 [.sl none 68 (l.map hdrD)] (.sl (some 5) 1 ((rowS l).map D.u8)) := by
  refine Fn.of (n := 19) Tryd.func22 rfl rfl rfl (Nat.le_of_ble_eq_true rfl) fun C hC hD => ?_
  refine W.seq ?_
  refine W.line (n := 1) (by decide) (its := [⟨2, _, true⟩]) (ks := []) (kk := []) (live := [0]) (env' := [(0, _)])
    (⟨Nat.le_of_ble_eq_true rfl, rfl,
      ⟨⟨rfl, rfl, fun _ τ hb ht hτ => R.asg (show ev _ _ (.const (.slice none 0 0)) = some (.nils) from rfl) rfl ht⟩,
      trivial⟩, rfl, rfl, rfl⟩)
    rfl (bx' := []) rfl (n' := 19) rfl (⟨[0], [(0, _)], [], 19, rfl, rfl, rfl, ?_⟩)
  refine W.seq ?_
  refine W.line (n := 1) (by decide) (its := [⟨3, _, true⟩]) (ks := []) (kk := []) (live := [0, 3]) (env' := [(0, _), (3, _)])
    (⟨Nat.le_of_ble_eq_true rfl, rfl,
      ⟨⟨rfl, rfl, fun _ τ hb ht hτ => R.asg (show ev _ _ (.const (.slice none 0 0)) = some (.nils) from rfl) rfl ht⟩,
      trivial⟩, rfl, rfl, rfl⟩)
    rfl (bx' := []) rfl (n' := 19) rfl (⟨[0, 3], [(0, _), (3, _)], [], 19, rfl, rfl, rfl, ?_⟩)
  refine W.seq ?_
  refine W.seq ?_
  refine W.line (n := 1) (by decide) (its := [⟨4, _, true⟩]) (ks := []) (kk := []) (live := [0, 3, 4]) (env' := [(0, _), (3, _), (4, _)])
    (⟨Nat.le_of_ble_eq_true rfl, rfl,
      ⟨⟨rfl, rfl, fun _ τ hb ht hτ => R.asg (show ev _ _ (.const (.int .i64 0)) = some (.int ((0 : Nat) : Int)) from rfl) rfl ht⟩,
      trivial⟩, rfl, rfl, rfl⟩)
    rfl (bx' := []) rfl (n' := 19) rfl (⟨[0, 3, 4], [(0, _), (3, _), (4, _)], [], 19, rfl, rfl, rfl, ?_⟩)
  refine W.block ?_
  refine W.asOwn (s := 3) 5 1 rfl ?_
  refine W.loop (α := {q__ : Nat // q__ ≤ l.length}) (fun q__ => ⟨19, [(0, .sl none 68 (l.map hdrD)), (3, .sl (some 5) 1 ((rowI l q__.1).map D.u8)), (4, .int ((q__.1 : Nat) : Int))], []⟩) (fun q__ => l.length - q__.1) ⟨(0), (by first | omega | (simp only [List.length_map, List.length_append, List.length_cons, List.length_nil, List.length_take, List.length_drop, List.length_replicate]; omega) | (simp; omega))⟩ rfl ?_
  rintro ⟨i, hi⟩
  show W _ _ _ _ ⟨19, [(0, .sl none 68 (l.map hdrD)), (3, .sl (some 5) 1 ((rowI l i).map D.u8)), (4, .int ((i : Nat) : Int))], []⟩
  have hi : i ≤ l.length := hi
  have hrl := rowI_len l hl i hi
  have hpl : i < l.length → (putS l[i]!).length = 80 := fun h => putS_len _ (hl.get h)
  refine W.seq ?_
  refine W.seq ?_
  refine W.line (n := 4) (by decide) (its := [⟨5, _, true⟩, ⟨6, _, true⟩, ⟨7, _, true⟩, ⟨8, _, true⟩]) (ks := []) (kk := []) (live := [0, 3, 4, 8]) (env' := [(0, _), (3, _), (4, _), (8, _)])
    (⟨Nat.le_of_ble_eq_true rfl, rfl,
      ⟨⟨rfl, rfl, fun _ τ hb ht hτ => R.mov (evt (hτ 4 _ rfl)) rfl ht⟩,
      ⟨⟨rfl, rfl, fun _ τ hb ht hτ => R.mov (evt (hτ 0 _ rfl)) rfl ht⟩,
      ⟨⟨rfl, rfl, fun _ τ hb ht hτ => R.lenE (SC.sl (hτ 6 _ rfl)) (List.length_map _) ht⟩,
      ⟨⟨rfl, rfl, fun _ τ hb ht hτ => R.lssN (i) (l.length) (evt (hτ 5 _ rfl)) (evt (hτ 7 _ rfl)) ht⟩,
      trivial⟩⟩⟩⟩, rfl, rfl, rfl⟩)
    rfl (bx' := []) rfl (n' := 19) rfl (⟨[0, 3, 4, 8], [(0, _), (3, _), (4, _), (8, _)], [], 19, rfl, rfl, rfl, ?_⟩)
  refine W.condD rfl (fun hc8 => ?_) (fun hc8 => ?_)
  · refine W.skip ?_
    refine W.seq ?_
    refine W.block ?_
    refine W.line (n := 8) (by decide) (its := [⟨11, _, true⟩, ⟨12, _, true⟩, ⟨13, _, true⟩, ⟨14, _, true⟩, ⟨15, _, true⟩, ⟨16, _, true⟩, ⟨17, _, true⟩, ⟨3, _, true⟩]) (ks := [(6, 3), (7, 17), (7, 11)]) (kk := [(6, 3), (7, 17)]) (live := [0, 3, 4]) (env' := [(0, _), (3, _), (4, _)])
      (⟨Nat.le_of_ble_eq_true rfl, rfl,
        ⟨⟨rfl, rfl, fun _ τ hb ht hτ => R.al (hτ 3 _ rfl) ht (by decide)⟩,
        ⟨⟨rfl, rfl, fun _ τ hb ht hτ => R.mov (evt (hτ 0 _ rfl)) rfl ht⟩,
        ⟨⟨rfl, rfl, fun _ τ hb ht hτ => R.mov (evt (hτ 4 _ rfl)) rfl ht⟩,
        ⟨⟨rfl, rfl, fun _ τ hb ht hτ => R.idxN (i) (SC.sl (hτ 12 _ rfl)) (evoI (evt (hτ 13 _ rfl))) rfl (by first | omega | (simp only [List.length_map, List.length_append, List.length_cons, List.length_nil, List.length_take, List.length_drop, List.length_replicate]; omega) | (simp; omega)) ht (by decide)⟩,
        ⟨⟨rfl, rfl, fun _ τ hb ht hτ => R.ldE (hτ 14 _ rfl) (SC.sl (hτ 12 _ rfl)) (map_get! (l := l) (by first | omega | (simp only [List.length_map, List.length_append, List.length_cons, List.length_nil, List.length_take, List.length_drop, List.length_replicate]; omega) | (simp; omega))) rfl rfl rfl rfl ht⟩,
        ⟨⟨rfl, rfl, fun _ τ hb ht hτ => R.callG hC (rput_ok l[i]! (hl.get (by omega))) (Bors.cons (Bor.pur (evt (hτ 15 _ rfl)) rfl rfl) Bors.nil) (FrsR.one (.sl _ _ _ (frs_map fun _ => .u8 _))) ht⟩,
        ⟨⟨rfl, rfl, fun _ τ hb ht hτ => R.appE (Or.inr (hτ 11 _ rfl)) (hτ 3 _ rfl) (SrcO.sc (SC.sl (hτ 16 _ rfl)) (pur_map (fun _ => rfl))) (app_map) (by first | omega | (simp only [List.length_map, List.length_append, List.length_cons, List.length_nil, List.length_take, List.length_drop, List.length_replicate]; omega) | (simp; omega)) ht (by decide) (by decide)⟩,
        ⟨⟨rfl, rfl, fun _ τ hb ht hτ => R.asgO (hτ 17 _ rfl) rfl ht (by decide)⟩,
        trivial⟩⟩⟩⟩⟩⟩⟩⟩, rfl, rfl, rfl⟩)
      rfl (bx' := []) rfl (n' := 19) rfl (⟨[0, 3, 4], [(0, _), (3, _), (4, _)], [], 19, rfl, rfl, rfl, ?_⟩)
    refine W.line (n := 3) (by decide) (its := [⟨9, _, true⟩, ⟨10, _, true⟩, ⟨4, _, true⟩]) (ks := []) (kk := []) (live := [0, 3, 4]) (env' := [(0, _), (3, _), (4, _)])
      (⟨Nat.le_of_ble_eq_true rfl, rfl,
        ⟨⟨rfl, rfl, fun _ τ hb ht hτ => R.mov (evt (hτ 4 _ rfl)) rfl ht⟩,
        ⟨⟨rfl, rfl, fun _ τ hb ht hτ => R.addN (i) (1) (evt (hτ 9 _ rfl)) (show ev _ _ (.const (.int .i64 1)) = some (.int ((1 : Nat) : Int)) from rfl) (by first | omega | (simp only [List.length_map, List.length_append, List.length_cons, List.length_nil, List.length_take, List.length_drop, List.length_replicate]; omega) | (simp; omega)) ht⟩,
        ⟨⟨rfl, rfl, fun _ τ hb ht hτ => R.asg (evt (hτ 10 _ rfl)) rfl ht⟩,
        trivial⟩⟩⟩, rfl, rfl, rfl⟩)
      rfl (bx' := []) rfl (n' := 19) rfl (⟨[0, 3, 4], [(0, _), (3, _), (4, _)], [], 19, rfl, rfl, rfl, ?_⟩)
    exact ⟨⟨(i + 1), (by first | omega | (simp only [List.length_map, List.length_append, List.length_cons, List.length_nil, List.length_take, List.length_drop, List.length_replicate]; omega) | (simp; omega))⟩, rfl, (by simp only []; omega)⟩
  · obtain rfl : i = l.length := by omega
    refine W.exit ?_
    refine W.seq ?_
    refine W.line (n := 2) (by decide) (its := [⟨18, _, true⟩, ⟨2, _, true⟩]) (ks := [(0, 3), (1, 18)]) (kk := [(0, 3), (1, 18)]) (live := [2]) (env' := [(2, _)])
      (⟨Nat.le_of_ble_eq_true rfl, rfl,
        ⟨⟨rfl, rfl, fun _ τ hb ht hτ => R.movO (hτ 3 _ rfl) rfl ht (by decide)⟩,
        ⟨⟨rfl, rfl, fun _ τ hb ht hτ => R.asgO (hτ 18 _ rfl) rfl ht (by decide)⟩,
        trivial⟩⟩, rfl, rfl, rfl⟩)
      rfl (bx' := []) rfl (n' := 19) rfl (⟨[2], [(2, _)], [], 19, rfl, rfl, rfl, ?_⟩)
    refine W.ret ?_
    exact Ends.one' (.inr rfl) rfl (rfl) rfl rfl trivial

theorem rcut_ok (b : List UInt8) (hb0 : b.length ≤ 1000000) : Fn Tryd.prog gl 20 [.sl none 1 (b.map D.u8)] (.tup [.sl (some 26) 68 ((cutS b).1.map hdrD), .int (cutS b).2]) := by
  refine Fn.of (n := 36) Tryd.func20 rfl rfl rfl (Nat.le_of_ble_eq_true rfl) fun C hC hD => ?_
  refine W.seq ?_
  refine W.line (n := 2) (by decide) (its := [⟨2, _, true⟩, ⟨3, _, true⟩]) (ks := []) (kk := []) (live := [0]) (env' := [(0, _)])
    (⟨Nat.le_of_ble_eq_true rfl, rfl,
      ⟨⟨rfl, rfl, fun _ τ hb ht hτ => R.asg (show ev _ _ (.const (.slice none 0 0)) = some (.nils) from rfl) rfl ht⟩,
      ⟨⟨rfl, rfl, fun _ τ hb ht hτ => R.asg (show ev _ _ (.const (.int .i64 0)) = some (.int ((0 : Nat) : Int)) from rfl) rfl ht⟩,
      trivial⟩⟩, rfl, rfl, rfl⟩)
    rfl (bx' := []) rfl (n' := 36) rfl (⟨[0], [(0, _)], [], 36, rfl, rfl, rfl, ?_⟩)
  refine W.seq ?_
  refine W.seq ?_
  refine W.line (n := 4) (by decide) (its := [⟨8, _, true⟩, ⟨9, _, true⟩, ⟨10, _, true⟩, ⟨11, _, true⟩]) (ks := []) (kk := []) (live := [0, 11]) (env' := [(0, _), (11, _)])
    (⟨Nat.le_of_ble_eq_true rfl, rfl,
      ⟨⟨rfl, rfl, fun _ τ hb ht hτ => R.mov (evt (hτ 0 _ rfl)) rfl ht⟩,
      ⟨⟨rfl, rfl, fun _ τ hb ht hτ => R.lenE (SC.sl (hτ 8 _ rfl)) (List.length_map _) ht⟩,
      ⟨⟨rfl, rfl, fun _ τ hb ht hτ => R.remN (b.length) (80) (evt (hτ 9 _ rfl)) (show ev _ _ (.const (.int .i64 80)) = some (.int ((80 : Nat) : Int)) from rfl) (by first | omega | (simp only [List.length_map, List.length_append, List.length_cons, List.length_nil, List.length_take, List.length_drop, List.length_replicate]; omega) | (simp; omega)) ht⟩,
      ⟨⟨rfl, rfl, fun _ τ hb ht hτ => R.neqN ((b.length % 80)) (0) (evt (hτ 10 _ rfl)) (show ev _ _ (.const (.int .i64 0)) = some (.int ((0 : Nat) : Int)) from rfl) ht⟩,
      trivial⟩⟩⟩⟩, rfl, rfl, rfl⟩)
    rfl (bx' := []) rfl (n' := 36) rfl (⟨[0, 11], [(0, _), (11, _)], [], 36, rfl, rfl, rfl, ?_⟩)
  refine W.condD rfl (fun hc11 => ?_) (fun hc11 => ?_)
  · refine W.seq ?_
    refine W.line (n := 2) (by decide) (its := [⟨2, _, true⟩, ⟨3, _, true⟩]) (ks := []) (kk := []) (live := [2, 3]) (env' := [(2, _), (3, _)])
      (⟨Nat.le_of_ble_eq_true rfl, rfl,
        ⟨⟨rfl, rfl, fun _ τ hb ht hτ => R.asg (show ev _ _ (.const (.slice none 0 0)) = some (.nils) from rfl) rfl ht⟩,
        ⟨⟨rfl, rfl, fun _ τ hb ht hτ => R.asg (show ev _ _ (.const (.int .i64 5)) = some (.int ((5 : Nat) : Int)) from rfl) rfl ht⟩,
        trivial⟩⟩, rfl, rfl, rfl⟩)
      rfl (bx' := []) rfl (n' := 36) rfl (⟨[2, 3], [(2, _), (3, _)], [], 36, rfl, rfl, rfl, ?_⟩)
    refine W.asOwn (s := 2) 26 68 rfl ?_
    refine W.ret ?_
    exact Ends.many (.inr rfl) (.cons rfl rfl rfl trivial (.cons rfl rfl rfl trivial .nil)) (by simp only [cutS, if_pos hc11]; rfl) (show [(2, true), (3, true)].Nodup by decide)
  · refine W.skip ?_
    refine W.seq ?_
    refine W.seq ?_
    refine W.line (n := 4) (by decide) (its := [⟨12, _, true⟩, ⟨13, _, true⟩, ⟨14, _, true⟩, ⟨15, _, true⟩]) (ks := []) (kk := []) (live := [0, 15]) (env' := [(0, _), (15, _)])
      (⟨Nat.le_of_ble_eq_true rfl, rfl,
        ⟨⟨rfl, rfl, fun _ τ hb ht hτ => R.mov (evt (hτ 0 _ rfl)) rfl ht⟩,
        ⟨⟨rfl, rfl, fun _ τ hb ht hτ => R.lenE (SC.sl (hτ 12 _ rfl)) (List.length_map _) ht⟩,
        ⟨⟨rfl, rfl, fun _ τ hb ht hτ => R.quoN (b.length) (80) (evt (hτ 13 _ rfl)) (show ev _ _ (.const (.int .i64 80)) = some (.int ((80 : Nat) : Int)) from rfl) (by first | omega | (simp only [List.length_map, List.length_append, List.length_cons, List.length_nil, List.length_take, List.length_drop, List.length_replicate]; omega) | (simp; omega)) (by first | omega | (simp only [List.length_map, List.length_append, List.length_cons, List.length_nil, List.length_take, List.length_drop, List.length_replicate]; omega) | (simp; omega)) ht⟩,
        ⟨⟨rfl, rfl, fun _ τ hb ht hτ => R.gtrN ((b.length / 80)) (100) (evt (hτ 14 _ rfl)) (show ev _ _ (.const (.int .i64 100)) = some (.int ((100 : Nat) : Int)) from rfl) ht⟩,
        trivial⟩⟩⟩⟩, rfl, rfl, rfl⟩)
      rfl (bx' := []) rfl (n' := 36) rfl (⟨[0, 15], [(0, _), (15, _)], [], 36, rfl, rfl, rfl, ?_⟩)
    refine W.condD rfl (fun hc15 => ?_) (fun hc15 => ?_)
    · refine W.seq ?_
      refine W.line (n := 2) (by decide) (its := [⟨2, _, true⟩, ⟨3, _, true⟩]) (ks := []) (kk := []) (live := [2, 3]) (env' := [(2, _), (3, _)])
        (⟨Nat.le_of_ble_eq_true rfl, rfl,
          ⟨⟨rfl, rfl, fun _ τ hb ht hτ => R.asg (show ev _ _ (.const (.slice none 0 0)) = some (.nils) from rfl) rfl ht⟩,
          ⟨⟨rfl, rfl, fun _ τ hb ht hτ => R.asg (show ev _ _ (.const (.int .i64 6)) = some (.int ((6 : Nat) : Int)) from rfl) rfl ht⟩,
          trivial⟩⟩, rfl, rfl, rfl⟩)
        rfl (bx' := []) rfl (n' := 36) rfl (⟨[2, 3], [(2, _), (3, _)], [], 36, rfl, rfl, rfl, ?_⟩)
      refine W.asOwn (s := 2) 26 68 rfl ?_
      refine W.ret ?_
      exact Ends.many (.inr rfl) (.cons rfl rfl rfl trivial (.cons rfl rfl rfl trivial .nil)) (by simp only [cutS, if_neg hc11, if_pos hc15]; rfl) (show [(2, true), (3, true)].Nodup by decide)
    · refine W.skip ?_
      refine W.seq ?_
      refine W.line (n := 1) (by decide) (its := [⟨4, _, true⟩]) (ks := []) (kk := []) (live := [0, 4]) (env' := [(0, _), (4, _)])
        (⟨Nat.le_of_ble_eq_true rfl, rfl,
          ⟨⟨rfl, rfl, fun _ τ hb ht hτ => R.asg (show ev _ _ (.const (.slice none 0 0)) = some (.nils) from rfl) rfl ht⟩,
          trivial⟩, rfl, rfl, rfl⟩)
        rfl (bx' := []) rfl (n' := 36) rfl (⟨[0, 4], [(0, _), (4, _)], [], 36, rfl, rfl, rfl, ?_⟩)
      refine W.seq ?_
      refine W.seq ?_
      refine W.line (n := 1) (by decide) (its := [⟨5, _, true⟩]) (ks := []) (kk := []) (live := [0, 4, 5]) (env' := [(0, _), (4, _), (5, _)])
        (⟨Nat.le_of_ble_eq_true rfl, rfl,
          ⟨⟨rfl, rfl, fun _ τ hb ht hτ => R.asg (show ev _ _ (.const (.int .i64 0)) = some (.int ((0 : Nat) : Int)) from rfl) rfl ht⟩,
          trivial⟩, rfl, rfl, rfl⟩)
        rfl (bx' := []) rfl (n' := 36) rfl (⟨[0, 4, 5], [(0, _), (4, _), (5, _)], [], 36, rfl, rfl, rfl, ?_⟩)
      refine W.block ?_
      refine W.asOwn (s := 4) 26 68 rfl ?_
      refine W.loop (α := {q__ : Nat // 80 * q__ ≤ b.length}) (fun q__ => ⟨36, [(0, .sl none 1 (b.map D.u8)), (4, .sl (some 26) 68 ((cutI b q__.1).map hdrD)), (5, .int ((80 * q__.1 : Nat) : Int))], []⟩) (fun q__ => b.length - 80 * q__.1) ⟨(0), (by first | omega | (simp only [List.length_map, List.length_append, List.length_cons, List.length_nil, List.length_take, List.length_drop, List.length_replicate]; omega) | (simp; omega))⟩ rfl ?_
      rintro ⟨k, hk⟩
      show W _ _ _ _ ⟨36, [(0, .sl none 1 (b.map D.u8)), (4, .sl (some 26) 68 ((cutI b k).map hdrD)), (5, .int ((80 * k : Nat) : Int))], []⟩
      have hk : 80 * k ≤ b.length := hk
      have hcl : (cutI b k).length = k := cutI_len b k
      refine W.seq ?_
      refine W.seq ?_
      refine W.line (n := 4) (by decide) (its := [⟨16, _, true⟩, ⟨17, _, true⟩, ⟨18, _, true⟩, ⟨19, _, true⟩]) (ks := []) (kk := []) (live := [0, 4, 5, 19]) (env' := [(0, _), (4, _), (5, _), (19, _)])
        (⟨Nat.le_of_ble_eq_true rfl, rfl,
          ⟨⟨rfl, rfl, fun _ τ hb ht hτ => R.mov (evt (hτ 5 _ rfl)) rfl ht⟩,
          ⟨⟨rfl, rfl, fun _ τ hb ht hτ => R.mov (evt (hτ 0 _ rfl)) rfl ht⟩,
          ⟨⟨rfl, rfl, fun _ τ hb ht hτ => R.lenE (SC.sl (hτ 17 _ rfl)) (List.length_map _) ht⟩,
          ⟨⟨rfl, rfl, fun _ τ hb ht hτ => R.lssN (80 * k) (b.length) (evt (hτ 16 _ rfl)) (evt (hτ 18 _ rfl)) ht⟩,
          trivial⟩⟩⟩⟩, rfl, rfl, rfl⟩)
        rfl (bx' := []) rfl (n' := 36) rfl (⟨[0, 4, 5, 19], [(0, _), (4, _), (5, _), (19, _)], [], 36, rfl, rfl, rfl, ?_⟩)
      refine W.condD rfl (fun hc19 => ?_) (fun hc19 => ?_)
      · refine W.skip ?_
        refine W.seq ?_
        refine W.block ?_
        refine W.seq ?_
        refine W.line (n := 12) (by decide) (its := [⟨23, _, true⟩, ⟨24, _, true⟩, ⟨25, _, true⟩, ⟨26, _, true⟩, ⟨27, _, true⟩, ⟨28, _, true⟩, ⟨22, _, true⟩, ⟨29, _, true⟩, ⟨30, _, true⟩]) (ks := []) (kk := []) (live := [0, 4, 5, 29, 30]) (env' := [(0, _), (4, _), (5, _), (29, _), (30, _)])
          (⟨Nat.le_of_ble_eq_true rfl, rfl,
            ⟨⟨rfl, rfl, fun _ τ hb ht hτ => R.mov (evt (hτ 0 _ rfl)) rfl ht⟩,
            ⟨⟨rfl, rfl, fun _ τ hb ht hτ => R.mov (evt (hτ 5 _ rfl)) rfl ht⟩,
            ⟨⟨rfl, rfl, fun _ τ hb ht hτ => R.mov (evt (hτ 5 _ rfl)) rfl ht⟩,
            ⟨⟨rfl, rfl, fun _ τ hb ht hτ => R.addN (80 * k) (80) (evt (hτ 25 _ rfl)) (show ev _ _ (.const (.int .i64 80)) = some (.int ((80 : Nat) : Int)) from rfl) (by first | omega | (simp only [List.length_map, List.length_append, List.length_cons, List.length_nil, List.length_take, List.length_drop, List.length_replicate]; omega) | (simp; omega)) ht⟩,
            ⟨⟨rfl, rfl, fun _ τ hb ht hτ => R.slIN (80 * k) ((80 * k + 80)) (80) (evt (hτ 23 _ rfl)) (evoI (evt (hτ 24 _ rfl))) (evoI (evt (hτ 26 _ rfl))) rfl rfl (by first | omega | (simp only [List.length_map, List.length_append, List.length_cons, List.length_nil, List.length_take, List.length_drop, List.length_replicate]; omega) | (simp; omega)) (by first | omega | (simp only [List.length_map, List.length_append, List.length_cons, List.length_nil, List.length_take, List.length_drop, List.length_replicate]; omega) | (simp; omega)) (by omega) (part_map) ht⟩,
            ⟨⟨rfl, rfl, fun _ τ hb ht hτ => R.callG hC (rget80_ok ((b.drop (80 * k)).take 80) (by simp only [List.length_take, List.length_drop]; omega)) (Bors.cons (Bor.pur (evt (hτ 27 _ rfl)) rfl rfl) Bors.nil) (FrsR.two (frs_hdr _) (.int _)) ht⟩,
            ⟨⟨rfl, rfl, fun _ τ hb ht hτ => R.movT (hτ 28 _ rfl) rfl ht⟩,
            ⟨⟨rfl, rfl, fun _ τ hb ht hτ => R.ext (hτ 22 _ rfl) rfl rfl ht⟩,
            ⟨⟨rfl, rfl, fun _ τ hb ht hτ => R.ext (hτ 22 _ rfl) rfl rfl ht⟩,
            trivial⟩⟩⟩⟩⟩⟩⟩⟩⟩, rfl, rfl, rfl⟩)
          rfl (bx' := []) rfl (n' := 36) rfl (⟨rfl, _, R.alloc rfl (Nat.le_of_ble_eq_true rfl), ⟨rfl, _, R.stZ (show Sg.get _ 6 = some _ from rfl) (show Sg.box _ 6 = some _ from rfl) rfl (evt (show Sg.get _ 29 = some _ from rfl)) (by rfl) (by rfl) (by rfl) (by rfl) rfl, ⟨rfl, _, R.asg (evt (show Sg.get _ 30 = some _ from rfl)) rfl (Nat.le_of_ble_eq_true rfl), ⟨[0, 4, 5, 6], [(0, _), (4, _), (5, _), (6, _)], [(6, .var _)], 36, rfl, rfl, rfl, ?_⟩⟩⟩⟩)
        refine W.line (n := 5) (by decide) (its := [⟨31, _, true⟩, ⟨32, _, true⟩, ⟨33, _, true⟩, ⟨34, _, true⟩, ⟨4, _, true⟩]) (ks := [(3, 4), (4, 34), (4, 31)]) (kk := [(3, 4), (4, 34)]) (live := [0, 4, 5]) (env' := [(0, _), (4, _), (5, _)])
          (⟨Nat.le_of_ble_eq_true rfl, rfl,
            ⟨⟨rfl, rfl, fun _ τ hb ht hτ => R.al (hτ 4 _ rfl) ht (by decide)⟩,
            ⟨⟨rfl, rfl, fun _ τ hb ht hτ => R.ldP (hτ 6 _ rfl) (hb 6 _ rfl) rfl rfl rfl rfl ht⟩,
            ⟨⟨rfl, rfl, fun _ τ hb ht hτ => R.bslE (z := 68) (.cons (evt (hτ 32 _ rfl)) .nil) ⟨⟨rfl, rfl, rfl⟩, trivial⟩ rfl ht (by decide)⟩,
            ⟨⟨rfl, rfl, fun _ τ hb ht hτ => R.appE (Or.inr (hτ 31 _ rfl)) (hτ 4 _ rfl) (SrcO.sc (SC.sl (hτ 33 _ rfl)) (pur_lit rfl)) (app_one) (by first | omega | (simp only [List.length_map, List.length_append, List.length_cons, List.length_nil, List.length_take, List.length_drop, List.length_replicate]; omega) | (simp; omega)) ht (by decide) (by decide)⟩,
            ⟨⟨rfl, rfl, fun _ τ hb ht hτ => R.asgO (hτ 34 _ rfl) rfl ht (by decide)⟩,
            trivial⟩⟩⟩⟩⟩, rfl, rfl, rfl⟩)
          rfl (bx' := [(6, .var _)]) rfl (n' := 36) rfl (⟨[0, 4, 5], [(0, _), (4, _), (5, _)], [(6, .var _)], 36, rfl, rfl, rfl, ?_⟩)
        refine W.dropB [] (bx' := []) rfl rfl rfl (pin_sub hD rfl) ?_
        refine W.line (n := 3) (by decide) (its := [⟨20, _, true⟩, ⟨21, _, true⟩, ⟨5, _, true⟩]) (ks := []) (kk := []) (live := [0, 4, 5]) (env' := [(0, _), (4, _), (5, _)])
          (⟨Nat.le_of_ble_eq_true rfl, rfl,
            ⟨⟨rfl, rfl, fun _ τ hb ht hτ => R.mov (evt (hτ 5 _ rfl)) rfl ht⟩,
            ⟨⟨rfl, rfl, fun _ τ hb ht hτ => R.addN (80 * k) (80) (evt (hτ 20 _ rfl)) (show ev _ _ (.const (.int .i64 80)) = some (.int ((80 : Nat) : Int)) from rfl) (by first | omega | (simp only [List.length_map, List.length_append, List.length_cons, List.length_nil, List.length_take, List.length_drop, List.length_replicate]; omega) | (simp; omega)) ht⟩,
            ⟨⟨rfl, rfl, fun _ τ hb ht hτ => R.asg (evt (hτ 21 _ rfl)) rfl ht⟩,
            trivial⟩⟩⟩, rfl, rfl, rfl⟩)
          rfl (bx' := []) rfl (n' := 36) rfl (⟨[0, 4, 5], [(0, _), (4, _), (5, _)], [], 36, rfl, rfl, rfl, ?_⟩)
        exact ⟨⟨(k + 1), (by show 80 * (k + 1) ≤ b.length; omega)⟩, (by rw [show 80 * k + 80 = 80 * (k + 1) by omega, ← cutI_succ]; rfl), (by show b.length - 80 * (k + 1) < b.length - 80 * k; omega)⟩
      · have hkN : b.length / 80 = k := by omega
        refine W.exit ?_
        refine W.seq ?_
        refine W.line (n := 3) (by decide) (its := [⟨35, _, true⟩, ⟨2, _, true⟩, ⟨3, _, true⟩]) (ks := [(0, 4), (1, 35)]) (kk := [(0, 4), (1, 35)]) (live := [2, 3]) (env' := [(2, _), (3, _)])
          (⟨Nat.le_of_ble_eq_true rfl, rfl,
            ⟨⟨rfl, rfl, fun _ τ hb ht hτ => R.movO (hτ 4 _ rfl) rfl ht (by decide)⟩,
            ⟨⟨rfl, rfl, fun _ τ hb ht hτ => R.asgO (hτ 35 _ rfl) rfl ht (by decide)⟩,
            ⟨⟨rfl, rfl, fun _ τ hb ht hτ => R.asg (show ev _ _ (.const (.int .i64 0)) = some (.int ((0 : Nat) : Int)) from rfl) rfl ht⟩,
            trivial⟩⟩⟩, rfl, rfl, rfl⟩)
          rfl (bx' := []) rfl (n' := 36) rfl (⟨[2, 3], [(2, _), (3, _)], [], 36, rfl, rfl, rfl, ?_⟩)
        refine W.ret ?_
        exact Ends.many (.inr rfl) (.cons rfl rfl rfl trivial (.cons rfl rfl rfl trivial .nil)) (by rw [← hkN]; simp only [cutS, if_neg hc11, if_neg hc15]; rfl) (show [(2, true), (3, true)].Nodup by decide)

theorem heavy_ok (l : List HdS) (b : List UInt8) (hl0 : l.length ≤ 140737488355328) (hb0 : b.length ≤ 140737488355328) : Fn Tryd.prog gl 10 [.sl none 68 (l.map hdrD), .sl none 1 (b.map D.u8)] (.bool (heavyS l b)) := by
  refine Fn.of (n := 13) Tryd.func10 rfl rfl rfl (Nat.le_of_ble_eq_true rfl) fun C hC hD => ?_
  refine W.seq ?_
  refine W.line (n := 1) (by decide) (its := [⟨4, _, true⟩]) (ks := []) (kk := []) (live := [0, 1]) (env' := [(0, _), (1, _)])
    (⟨Nat.le_of_ble_eq_true rfl, rfl,
      ⟨⟨rfl, rfl, fun _ τ hb ht hτ => R.asg (show ev _ _ (.const (.bool false)) = some (.bool false) from rfl) rfl ht⟩,
      trivial⟩, rfl, rfl, rfl⟩)
    rfl (bx' := []) rfl (n' := 13) rfl (⟨[0, 1], [(0, _), (1, _)], [], 13, rfl, rfl, rfl, ?_⟩)
  refine W.seq ?_
  by_cases h1 : 200 < l.length
  · refine W.line (n := 9) (by decide) (its := [⟨5, _, true⟩, ⟨6, _, true⟩, ⟨7, _, true⟩, ⟨8, _, true⟩, ⟨9, .dead, false⟩, ⟨10, .dead, false⟩, ⟨11, .dead, false⟩, ⟨12, _, true⟩, ⟨4, _, true⟩]) (ks := []) (kk := []) (live := [4]) (env' := [(4, _)])
      (⟨Nat.le_of_ble_eq_true rfl, rfl,
        ⟨⟨rfl, rfl, fun _ τ hb ht hτ => R.mov (evt (hτ 0 _ rfl)) rfl ht⟩,
        ⟨⟨rfl, rfl, fun _ τ hb ht hτ => R.lenE (SC.sl (hτ 5 _ rfl)) (List.length_map _) ht⟩,
        ⟨⟨rfl, rfl, fun _ τ hb ht hτ => R.gtrN (l.length) (200) (evt (hτ 6 _ rfl)) (show ev _ _ (.const (.int .i64 200)) = some (.int ((200 : Nat) : Int)) from rfl) ht⟩,
        ⟨⟨rfl, rfl, fun _ τ hb ht hτ => R.mov (evt (hτ 7 _ rfl)) rfl ht⟩,
        ⟨⟨rfl, ⟨_, 8, rfl, rfl, .inl ⟨_, rfl, gw (v := true) (decide_eq_true h1) rfl⟩⟩, fun h => absurd h (by decide)⟩,
        ⟨⟨rfl, ⟨_, 8, rfl, rfl, .inl ⟨_, rfl, gw (v := true) (decide_eq_true h1) rfl⟩⟩, fun h => absurd h (by decide)⟩,
        ⟨⟨rfl, ⟨_, 8, rfl, rfl, .inl ⟨_, rfl, gw (v := true) (decide_eq_true h1) rfl⟩⟩, fun h => absurd h (by decide)⟩,
        ⟨⟨rfl, rfl, fun _ τ hb ht hτ => R.pickT (evt (hτ 8 _ rfl)) (decide_eq_true h1) (show ev _ _ (.const (.bool true)) = some (.bool true) from rfl) rfl ht⟩,
        ⟨⟨rfl, rfl, fun _ τ hb ht hτ => R.asg (evt (hτ 12 _ rfl)) rfl ht⟩,
        trivial⟩⟩⟩⟩⟩⟩⟩⟩⟩, rfl, rfl, rfl⟩)
      rfl (bx' := []) rfl (n' := 13) rfl (⟨[4], [(4, _)], [], 13, rfl, rfl, rfl, ?_⟩)
    refine W.ret ?_
    exact Ends.one' (.inr rfl) rfl (by simp only [heavyS, decide_eq_true h1]; rfl) rfl rfl trivial
  · refine W.line (n := 9) (by decide) (its := [⟨5, _, true⟩, ⟨6, _, true⟩, ⟨7, _, true⟩, ⟨8, _, true⟩, ⟨9, _, true⟩, ⟨10, _, true⟩, ⟨11, _, true⟩, ⟨12, _, true⟩, ⟨4, _, true⟩]) (ks := []) (kk := []) (live := [4]) (env' := [(4, _)])
      (⟨Nat.le_of_ble_eq_true rfl, rfl,
        ⟨⟨rfl, rfl, fun _ τ hb ht hτ => R.mov (evt (hτ 0 _ rfl)) rfl ht⟩,
        ⟨⟨rfl, rfl, fun _ τ hb ht hτ => R.lenE (SC.sl (hτ 5 _ rfl)) (List.length_map _) ht⟩,
        ⟨⟨rfl, rfl, fun _ τ hb ht hτ => R.gtrN (l.length) (200) (evt (hτ 6 _ rfl)) (show ev _ _ (.const (.int .i64 200)) = some (.int ((200 : Nat) : Int)) from rfl) ht⟩,
        ⟨⟨rfl, rfl, fun _ τ hb ht hτ => R.mov (evt (hτ 7 _ rfl)) rfl ht⟩,
        ⟨⟨rfl, ⟨_, 8, rfl, rfl, .inl ⟨_, rfl, gw (v := false) (decide_eq_false h1) rfl⟩⟩, fun _ τ hb ht hτ => R.mov (evt (hτ 1 _ rfl)) rfl ht⟩,
        ⟨⟨rfl, ⟨_, 8, rfl, rfl, .inl ⟨_, rfl, gw (v := false) (decide_eq_false h1) rfl⟩⟩, fun _ τ hb ht hτ => R.lenE (SC.sl (hτ 9 _ rfl)) (List.length_map _) ht⟩,
        ⟨⟨rfl, ⟨_, 8, rfl, rfl, .inl ⟨_, rfl, gw (v := false) (decide_eq_false h1) rfl⟩⟩, fun _ τ hb ht hτ => R.gtrN (b.length) (16384) (evt (hτ 10 _ rfl)) (show ev _ _ (.const (.int .i64 16384)) = some (.int ((16384 : Nat) : Int)) from rfl) ht⟩,
        ⟨⟨rfl, rfl, fun _ τ hb ht hτ => R.pickF (evt (hτ 8 _ rfl)) (decide_eq_false h1) (evt (hτ 11 _ rfl)) rfl ht⟩,
        ⟨⟨rfl, rfl, fun _ τ hb ht hτ => R.asg (evt (hτ 12 _ rfl)) rfl ht⟩,
        trivial⟩⟩⟩⟩⟩⟩⟩⟩⟩, rfl, rfl, rfl⟩)
      rfl (bx' := []) rfl (n' := 13) rfl (⟨[4], [(4, _)], [], 13, rfl, rfl, rfl, ?_⟩)
    refine W.ret ?_
    exact Ends.one' (.inr rfl) rfl (by simp only [heavyS, decide_eq_false h1]; rfl) rfl rfl trivial

theorem rsame_ok (a b : List HdS) (ha : a.length ≤ 1000000) : Fn Tryd.prog gl 23 [.sl none 68 (a.map hdrD), .sl none 68 (b.map hdrD)] (.bool (a == b)) := by
  refine Fn.of (n := 26) Tryd.func23 rfl rfl rfl (Nat.le_of_ble_eq_true rfl) fun C hC hD => ?_
  refine W.seq ?_
  refine W.line (n := 1) (by decide) (its := [⟨4, _, true⟩]) (ks := []) (kk := []) (live := [0, 1]) (env' := [(0, _), (1, _)])
    (⟨Nat.le_of_ble_eq_true rfl, rfl,
      ⟨⟨rfl, rfl, fun _ τ hb ht hτ => R.asg (show ev _ _ (.const (.bool false)) = some (.bool false) from rfl) rfl ht⟩,
      trivial⟩, rfl, rfl, rfl⟩)
    rfl (bx' := []) rfl (n' := 26) rfl (⟨[0, 1], [(0, _), (1, _)], [], 26, rfl, rfl, rfl, ?_⟩)
  refine W.seq ?_
  refine W.seq ?_
  refine W.line (n := 5) (by decide) (its := [⟨6, _, true⟩, ⟨7, _, true⟩, ⟨8, _, true⟩, ⟨9, _, true⟩, ⟨10, _, true⟩]) (ks := []) (kk := []) (live := [0, 1, 10]) (env' := [(0, _), (1, _), (10, _)])
    (⟨Nat.le_of_ble_eq_true rfl, rfl,
      ⟨⟨rfl, rfl, fun _ τ hb ht hτ => R.mov (evt (hτ 0 _ rfl)) rfl ht⟩,
      ⟨⟨rfl, rfl, fun _ τ hb ht hτ => R.lenE (SC.sl (hτ 6 _ rfl)) (List.length_map _) ht⟩,
      ⟨⟨rfl, rfl, fun _ τ hb ht hτ => R.mov (evt (hτ 1 _ rfl)) rfl ht⟩,
      ⟨⟨rfl, rfl, fun _ τ hb ht hτ => R.lenE (SC.sl (hτ 8 _ rfl)) (List.length_map _) ht⟩,
      ⟨⟨rfl, rfl, fun _ τ hb ht hτ => R.neqN (a.length) (b.length) (evt (hτ 7 _ rfl)) (evt (hτ 9 _ rfl)) ht⟩,
      trivial⟩⟩⟩⟩⟩, rfl, rfl, rfl⟩)
    rfl (bx' := []) rfl (n' := 26) rfl (⟨[0, 1, 10], [(0, _), (1, _), (10, _)], [], 26, rfl, rfl, rfl, ?_⟩)
  refine W.condD rfl (fun hc10 => ?_) (fun hc10 => ?_)
  · refine W.seq ?_
    refine W.line (n := 1) (by decide) (its := [⟨4, _, true⟩]) (ks := []) (kk := []) (live := [4]) (env' := [(4, _)])
      (⟨Nat.le_of_ble_eq_true rfl, rfl,
        ⟨⟨rfl, rfl, fun _ τ hb ht hτ => R.asg (show ev _ _ (.const (.bool false)) = some (.bool false) from rfl) rfl ht⟩,
        trivial⟩, rfl, rfl, rfl⟩)
      rfl (bx' := []) rfl (n' := 26) rfl (⟨[4], [(4, _)], [], 26, rfl, rfl, rfl, ?_⟩)
    refine W.ret ?_
    exact Ends.one' (.inr rfl) rfl (by have := hc10; congr 1; symm; rw [beq_eq_false_iff_ne]; rintro rfl; exact this rfl) rfl rfl trivial
  · refine W.skip ?_
    refine W.seq ?_
    refine W.seq ?_
    refine W.line (n := 1) (by decide) (its := [⟨5, _, true⟩]) (ks := []) (kk := []) (live := [0, 1, 5]) (env' := [(0, _), (1, _), (5, _)])
      (⟨Nat.le_of_ble_eq_true rfl, rfl,
        ⟨⟨rfl, rfl, fun _ τ hb ht hτ => R.asg (show ev _ _ (.const (.int .i64 0)) = some (.int ((0 : Nat) : Int)) from rfl) rfl ht⟩,
        trivial⟩, rfl, rfl, rfl⟩)
      rfl (bx' := []) rfl (n' := 26) rfl (⟨[0, 1, 5], [(0, _), (1, _), (5, _)], [], 26, rfl, rfl, rfl, ?_⟩)
    refine W.block ?_
    refine W.loop (α := {q__ : Nat // q__ ≤ a.length ∧ ∀ j, j < q__ → a[j]! = b[j]!}) (fun q__ => ⟨26, [(0, .sl none 68 (a.map hdrD)), (1, .sl none 68 (b.map hdrD)), (5, .int ((q__.1 : Nat) : Int))], []⟩) (fun q__ => a.length - q__.1) ⟨(0), ⟨Nat.zero_le _, fun j hj => absurd hj (Nat.not_lt_zero j)⟩⟩ rfl ?_
    rintro ⟨i, ⟨hi, hall⟩⟩
    show W _ _ _ _ ⟨26, [(0, .sl none 68 (a.map hdrD)), (1, .sl none 68 (b.map hdrD)), (5, .int ((i : Nat) : Int))], []⟩
    refine W.seq ?_
    refine W.seq ?_
    refine W.line (n := 4) (by decide) (its := [⟨11, _, true⟩, ⟨12, _, true⟩, ⟨13, _, true⟩, ⟨14, _, true⟩]) (ks := []) (kk := []) (live := [0, 1, 5, 14]) (env' := [(0, _), (1, _), (5, _), (14, _)])
      (⟨Nat.le_of_ble_eq_true rfl, rfl,
        ⟨⟨rfl, rfl, fun _ τ hb ht hτ => R.mov (evt (hτ 5 _ rfl)) rfl ht⟩,
        ⟨⟨rfl, rfl, fun _ τ hb ht hτ => R.mov (evt (hτ 0 _ rfl)) rfl ht⟩,
        ⟨⟨rfl, rfl, fun _ τ hb ht hτ => R.lenE (SC.sl (hτ 12 _ rfl)) (List.length_map _) ht⟩,
        ⟨⟨rfl, rfl, fun _ τ hb ht hτ => R.lssN (i) (a.length) (evt (hτ 11 _ rfl)) (evt (hτ 13 _ rfl)) ht⟩,
        trivial⟩⟩⟩⟩, rfl, rfl, rfl⟩)
      rfl (bx' := []) rfl (n' := 26) rfl (⟨[0, 1, 5, 14], [(0, _), (1, _), (5, _), (14, _)], [], 26, rfl, rfl, rfl, ?_⟩)
    refine W.condD rfl (fun hc14 => ?_) (fun hc14 => ?_)
    · refine W.skip ?_
      refine W.seq ?_
      refine W.block ?_
      refine W.seq ?_
      refine W.draw (m := 9) (an := [0, 0, 3, 7, 0, 0, 48, 112, 255]) hP (by decide) rfl (its := [⟨17, _, true⟩, ⟨18, _, true⟩, ⟨19, _, true⟩, ⟨20, _, true⟩, ⟨21, _, true⟩, ⟨22, _, true⟩, ⟨23, _, true⟩, ⟨24, _, true⟩, ⟨25, _, true⟩]) (ks := []) (kk := []) (live := [0, 1, 5, 25]) (env' := [(0, _), (1, _), (5, _), (25, _)])
        (⟨Nat.le_of_ble_eq_true rfl, rfl,
          ⟨⟨rfl, rfl, fun _ τ hb ht hτ => R.mov (evt (hτ 0 _ rfl)) rfl ht⟩,
          ⟨⟨rfl, rfl, fun _ τ hb ht hτ => R.mov (evt (hτ 5 _ rfl)) rfl ht⟩,
          ⟨⟨rfl, rfl, fun _ τ hb ht hτ => R.idxN (i) (SC.sl (hτ 17 _ rfl)) (evoI (evt (hτ 18 _ rfl))) rfl (by first | omega | (simp only [List.length_map, List.length_append, List.length_cons, List.length_nil, List.length_take, List.length_drop, List.length_replicate]; omega) | (simp; omega)) ht (by decide)⟩,
          ⟨⟨rfl, rfl, fun _ τ hb ht hτ => R.ldE (hτ 19 _ rfl) (SC.sl (hτ 17 _ rfl)) (map_get! (l := a) (by first | omega | (simp only [List.length_map, List.length_append, List.length_cons, List.length_nil, List.length_take, List.length_drop, List.length_replicate]; omega) | (simp; omega))) rfl rfl rfl rfl ht⟩,
          ⟨⟨rfl, rfl, fun _ τ hb ht hτ => R.mov (evt (hτ 1 _ rfl)) rfl ht⟩,
          ⟨⟨rfl, rfl, fun _ τ hb ht hτ => R.mov (evt (hτ 5 _ rfl)) rfl ht⟩,
          ⟨⟨rfl, rfl, fun _ τ hb ht hτ => R.idxN (i) (SC.sl (hτ 21 _ rfl)) (evoI (evt (hτ 22 _ rfl))) rfl (by first | omega | (simp only [List.length_map, List.length_append, List.length_cons, List.length_nil, List.length_take, List.length_drop, List.length_replicate]; omega) | (simp; omega)) ht (by decide)⟩,
          ⟨⟨rfl, rfl, fun _ τ hb ht hτ => R.ldE (hτ 23 _ rfl) (SC.sl (hτ 21 _ rfl)) (map_get! (l := b) (by first | omega | (simp only [List.length_map, List.length_append, List.length_cons, List.length_nil, List.length_take, List.length_drop, List.length_replicate]; omega) | (simp; omega))) rfl rfl rfl rfl ht⟩,
          ⟨⟨rfl, rfl, fun _ τ hb ht hτ => R.eqD (neg := true) (b' := (a[i]! != b[i]!)) (eqv_hdr _ _) rfl (evt (hτ 20 _ rfl)) (evt (hτ 24 _ rfl)) rfl rfl rfl rfl (rfl) ht⟩,
          trivial⟩⟩⟩⟩⟩⟩⟩⟩⟩, rfl, rfl, rfl⟩)
        rfl (bx' := []) rfl (n' := 26) rfl (⟨[0, 1, 5, 25], [(0, _), (1, _), (5, _), (25, _)], [], 26, rfl, rfl, rfl, ?_⟩)
      refine W.cond rfl (fun hc25 => ?_) (fun hc25 => ?_)
      · refine W.seq ?_
        refine W.line (n := 1) (by decide) (its := [⟨4, _, true⟩]) (ks := []) (kk := []) (live := [4]) (env' := [(4, _)])
          (⟨Nat.le_of_ble_eq_true rfl, rfl,
            ⟨⟨rfl, rfl, fun _ τ hb ht hτ => R.asg (show ev _ _ (.const (.bool false)) = some (.bool false) from rfl) rfl ht⟩,
            trivial⟩, rfl, rfl, rfl⟩)
          rfl (bx' := []) rfl (n' := 26) rfl (⟨[4], [(4, _)], [], 26, rfl, rfl, rfl, ?_⟩)
        refine W.ret ?_
        exact Ends.one' (.inr rfl) rfl (by congr 1; symm; rw [beq_eq_false_iff_ne]; rintro rfl; simp at hc25) rfl rfl trivial
      · refine W.skip ?_
        refine W.line (n := 3) (by decide) (its := [⟨15, _, true⟩, ⟨16, _, true⟩, ⟨5, _, true⟩]) (ks := []) (kk := []) (live := [0, 1, 5]) (env' := [(0, _), (1, _), (5, _)])
          (⟨Nat.le_of_ble_eq_true rfl, rfl,
            ⟨⟨rfl, rfl, fun _ τ hb ht hτ => R.mov (evt (hτ 5 _ rfl)) rfl ht⟩,
            ⟨⟨rfl, rfl, fun _ τ hb ht hτ => R.addN (i) (1) (evt (hτ 15 _ rfl)) (show ev _ _ (.const (.int .i64 1)) = some (.int ((1 : Nat) : Int)) from rfl) (by first | omega | (simp only [List.length_map, List.length_append, List.length_cons, List.length_nil, List.length_take, List.length_drop, List.length_replicate]; omega) | (simp; omega)) ht⟩,
            ⟨⟨rfl, rfl, fun _ τ hb ht hτ => R.asg (evt (hτ 16 _ rfl)) rfl ht⟩,
            trivial⟩⟩⟩, rfl, rfl, rfl⟩)
          rfl (bx' := []) rfl (n' := 26) rfl (⟨[0, 1, 5], [(0, _), (1, _), (5, _)], [], 26, rfl, rfl, rfl, ?_⟩)
        exact ⟨⟨(i + 1), ⟨by omega, fun j hj => by rcases Nat.lt_or_ge j i with h | h; exact hall j h; obtain rfl : j = i := (by omega); simpa using hc25⟩⟩, rfl, (by simp only []; omega)⟩
    · refine W.exit ?_
      refine W.seq ?_
      refine W.line (n := 1) (by decide) (its := [⟨4, _, true⟩]) (ks := []) (kk := []) (live := [4]) (env' := [(4, _)])
        (⟨Nat.le_of_ble_eq_true rfl, rfl,
          ⟨⟨rfl, rfl, fun _ τ hb ht hτ => R.asg (show ev _ _ (.const (.bool true)) = some (.bool true) from rfl) rfl ht⟩,
          trivial⟩, rfl, rfl, rfl⟩)
        rfl (bx' := []) rfl (n' := 26) rfl (⟨[4], [(4, _)], [], 26, rfl, rfl, rfl, ?_⟩)
      refine W.ret ?_
      exact Ends.one' (.inr rfl) rfl (by congr 1; symm; rw [beq_iff_eq]; exact same_lawH a b (by omega) i hi (by omega) hall) rfl rfl trivial

end Go.Sx

namespace Go.Sx
open Go.Proofs
theorem rid2_ok (h : HdS) (hw : h.wf) : Fn Tryd.prog gl 17 [hdrD h] (hashD (idS h)) := by
  have := rid_ok h hw
  rw [id_r] at this
  exact this
end Go.Sx

namespace Go.Sx
open Go.Proofs
theorem rlinked_ok (l : List HdS) (hl : allW l) (hl0 : l.length ≤ 1000) : Fn Tryd.prog gl 24 [.sl none 68 (l.map hdrD)] (.int ((linkS l : Nat) : Int)) := by
  refine Fn.of (n := 25) Tryd.func24 rfl rfl rfl (Nat.le_of_ble_eq_true rfl) fun C hC hD => ?_
  refine W.seq ?_
  refine W.line (n := 1) (by decide) (its := [⟨2, _, true⟩]) (ks := []) (kk := []) (live := [0]) (env' := [(0, _)])
    (⟨Nat.le_of_ble_eq_true rfl, rfl,
      ⟨⟨rfl, rfl, fun _ τ hb ht hτ => R.asg (show ev _ _ (.const (.int .i64 0)) = some (.int ((0 : Nat) : Int)) from rfl) rfl ht⟩,
      trivial⟩, rfl, rfl, rfl⟩)
    rfl (bx' := []) rfl (n' := 25) rfl (⟨[0], [(0, _)], [], 25, rfl, rfl, rfl, ?_⟩)
  refine W.seq ?_
  refine W.seq ?_
  refine W.line (n := 1) (by decide) (its := [⟨3, _, true⟩]) (ks := []) (kk := []) (live := [0, 3]) (env' := [(0, _), (3, _)])
    (⟨Nat.le_of_ble_eq_true rfl, rfl,
      ⟨⟨rfl, rfl, fun _ τ hb ht hτ => R.asg (show ev _ _ (.const (.int .i64 1)) = some (.int ((1 : Nat) : Int)) from rfl) rfl ht⟩,
      trivial⟩, rfl, rfl, rfl⟩)
    rfl (bx' := []) rfl (n' := 25) rfl (⟨[0, 3], [(0, _), (3, _)], [], 25, rfl, rfl, rfl, ?_⟩)
  refine W.block ?_
  refine W.loop (α := {q__ : Nat // 1 ≤ q__ ∧ (q__ ≤ l.length ∨ q__ = 1) ∧ ∀ j, j < q__ → odd l j = false}) (fun q__ => ⟨25, [(0, .sl none 68 (l.map hdrD)), (3, .int ((q__.1 : Nat) : Int))], []⟩) (fun q__ => l.length + 1 - q__.1) ⟨(1), ⟨Nat.le_refl _, .inr rfl, fun j hj => (by obtain rfl : j = 0 := (by omega); rfl)⟩⟩ rfl ?_
  rintro ⟨i, hi⟩
  show W _ _ _ _ ⟨25, [(0, .sl none 68 (l.map hdrD)), (3, .int ((i : Nat) : Int))], []⟩
  have hi1 : 1 ≤ i := hi.1
  have hi2 : i ≤ l.length ∨ i = 1 := hi.2.1
  refine W.seq ?_
  refine W.seq ?_
  refine W.line (n := 4) (by decide) (its := [⟨4, _, true⟩, ⟨5, _, true⟩, ⟨6, _, true⟩, ⟨7, _, true⟩]) (ks := []) (kk := []) (live := [0, 3, 7]) (env' := [(0, _), (3, _), (7, _)])
    (⟨Nat.le_of_ble_eq_true rfl, rfl,
      ⟨⟨rfl, rfl, fun _ τ hb ht hτ => R.mov (evt (hτ 3 _ rfl)) rfl ht⟩,
      ⟨⟨rfl, rfl, fun _ τ hb ht hτ => R.mov (evt (hτ 0 _ rfl)) rfl ht⟩,
      ⟨⟨rfl, rfl, fun _ τ hb ht hτ => R.lenE (SC.sl (hτ 5 _ rfl)) (List.length_map _) ht⟩,
      ⟨⟨rfl, rfl, fun _ τ hb ht hτ => R.lssN (i) (l.length) (evt (hτ 4 _ rfl)) (evt (hτ 6 _ rfl)) ht⟩,
      trivial⟩⟩⟩⟩, rfl, rfl, rfl⟩)
    rfl (bx' := []) rfl (n' := 25) rfl (⟨[0, 3, 7], [(0, _), (3, _), (7, _)], [], 25, rfl, rfl, rfl, ?_⟩)
  refine W.condD rfl (fun hc7 => ?_) (fun hc7 => ?_)
  · refine W.skip ?_
    refine W.seq ?_
    refine W.block ?_
    refine W.seq ?_
    refine W.draw (m := 12) (an := [0, 0, 3, 7, 15, 0, 0, 64, 224, 480, 992, 2047]) hP (by decide) rfl (its := [⟨10, _, true⟩, ⟨11, _, true⟩, ⟨12, _, true⟩, ⟨13, _, true⟩, ⟨14, _, true⟩, ⟨15, _, true⟩, ⟨16, _, true⟩, ⟨17, _, true⟩, ⟨18, _, true⟩, ⟨19, _, true⟩, ⟨20, _, true⟩, ⟨21, _, true⟩]) (ks := []) (kk := []) (live := [0, 3, 21]) (env' := [(0, _), (3, _), (21, _)])
      (⟨Nat.le_of_ble_eq_true rfl, rfl,
        ⟨⟨rfl, rfl, fun _ τ hb ht hτ => R.mov (evt (hτ 0 _ rfl)) rfl ht⟩,
        ⟨⟨rfl, rfl, fun _ τ hb ht hτ => R.mov (evt (hτ 3 _ rfl)) rfl ht⟩,
        ⟨⟨rfl, rfl, fun _ τ hb ht hτ => R.idxN (i) (SC.sl (hτ 10 _ rfl)) (evoI (evt (hτ 11 _ rfl))) rfl (by first | omega | (simp only [List.length_map, List.length_append, List.length_cons, List.length_nil, List.length_take, List.length_drop, List.length_replicate]; omega) | (simp; omega)) ht (by decide)⟩,
        ⟨⟨rfl, rfl, fun _ τ hb ht hτ => R.fdE (hτ 12 _ rfl) ht (by decide)⟩,
        ⟨⟨rfl, rfl, fun _ τ hb ht hτ => R.ldE (hτ 13 _ rfl) (SC.sl (hτ 10 _ rfl)) (map_get! (l := l) (by first | omega | (simp only [List.length_map, List.length_append, List.length_cons, List.length_nil, List.length_take, List.length_drop, List.length_replicate]; omega) | (simp; omega))) rfl rfl rfl rfl ht⟩,
        ⟨⟨rfl, rfl, fun _ τ hb ht hτ => R.mov (evt (hτ 0 _ rfl)) rfl ht⟩,
        ⟨⟨rfl, rfl, fun _ τ hb ht hτ => R.mov (evt (hτ 3 _ rfl)) rfl ht⟩,
        ⟨⟨rfl, rfl, fun _ τ hb ht hτ => R.subN (i) (1) (evt (hτ 16 _ rfl)) (show ev _ _ (.const (.int .i64 1)) = some (.int ((1 : Nat) : Int)) from rfl) (by first | omega | (simp only [List.length_map, List.length_append, List.length_cons, List.length_nil, List.length_take, List.length_drop, List.length_replicate]; omega) | (simp; omega)) (by first | omega | (simp only [List.length_map, List.length_append, List.length_cons, List.length_nil, List.length_take, List.length_drop, List.length_replicate]; omega) | (simp; omega)) ht⟩,
        ⟨⟨rfl, rfl, fun _ τ hb ht hτ => R.idxN ((i - 1)) (SC.sl (hτ 15 _ rfl)) (evoI (evt (hτ 17 _ rfl))) rfl (by first | omega | (simp only [List.length_map, List.length_append, List.length_cons, List.length_nil, List.length_take, List.length_drop, List.length_replicate]; omega) | (simp; omega)) ht (by decide)⟩,
        ⟨⟨rfl, rfl, fun _ τ hb ht hτ => R.ldE (hτ 18 _ rfl) (SC.sl (hτ 15 _ rfl)) (map_get! (l := l) (by first | omega | (simp only [List.length_map, List.length_append, List.length_cons, List.length_nil, List.length_take, List.length_drop, List.length_replicate]; omega) | (simp; omega))) rfl rfl rfl rfl ht⟩,
        ⟨⟨rfl, rfl, fun _ τ hb ht hτ => R.callG hC (rid2_ok l[i - 1]! (hl.get (by omega))) (Bors.cons (Bor.pur (evt (hτ 19 _ rfl)) rfl rfl) Bors.nil) (FrsR.one (frs_hash _)) ht⟩,
        ⟨⟨rfl, rfl, fun _ τ hb ht hτ => R.eqAX (evt (hτ 14 _ rfl)) (evt (hτ 20 _ rfl)) ht⟩,
        trivial⟩⟩⟩⟩⟩⟩⟩⟩⟩⟩⟩⟩, rfl, rfl, rfl⟩)
      rfl (bx' := []) rfl (n' := 25) rfl (⟨[0, 3, 21], [(0, _), (3, _), (21, _)], [], 25, rfl, rfl, rfl, ?_⟩)
    refine W.cond rfl (fun hc21 => ?_) (fun hc21 => ?_)
    · refine W.seq ?_
      refine W.line (n := 2) (by decide) (its := [⟨22, _, true⟩, ⟨2, _, true⟩]) (ks := []) (kk := []) (live := [2]) (env' := [(2, _)])
        (⟨Nat.le_of_ble_eq_true rfl, rfl,
          ⟨⟨rfl, rfl, fun _ τ hb ht hτ => R.mov (evt (hτ 3 _ rfl)) rfl ht⟩,
          ⟨⟨rfl, rfl, fun _ τ hb ht hτ => R.asg (evt (hτ 22 _ rfl)) rfl ht⟩,
          trivial⟩⟩, rfl, rfl, rfl⟩)
        rfl (bx' := []) rfl (n' := 25) rfl (⟨[2], [(2, _)], [], 25, rfl, rfl, rfl, ?_⟩)
      refine W.ret ?_
      exact Ends.one' (.inr rfl) rfl (by rw [linkS_at l i (by omega) hi.2.2 (odd_ne (by omega) (by rw [ahd_pred l i hi1]; exact hc21))]) rfl rfl trivial
    · refine W.skip ?_
      refine W.line (n := 3) (by decide) (its := [⟨8, _, true⟩, ⟨9, _, true⟩, ⟨3, _, true⟩]) (ks := []) (kk := []) (live := [0, 3]) (env' := [(0, _), (3, _)])
        (⟨Nat.le_of_ble_eq_true rfl, rfl,
          ⟨⟨rfl, rfl, fun _ τ hb ht hτ => R.mov (evt (hτ 3 _ rfl)) rfl ht⟩,
          ⟨⟨rfl, rfl, fun _ τ hb ht hτ => R.addN (i) (1) (evt (hτ 8 _ rfl)) (show ev _ _ (.const (.int .i64 1)) = some (.int ((1 : Nat) : Int)) from rfl) (by first | omega | (simp only [List.length_map, List.length_append, List.length_cons, List.length_nil, List.length_take, List.length_drop, List.length_replicate]; omega) | (simp; omega)) ht⟩,
          ⟨⟨rfl, rfl, fun _ τ hb ht hτ => R.asg (evt (hτ 9 _ rfl)) rfl ht⟩,
          trivial⟩⟩⟩, rfl, rfl, rfl⟩)
        rfl (bx' := []) rfl (n' := 25) rfl (⟨[0, 3], [(0, _), (3, _)], [], 25, rfl, rfl, rfl, ?_⟩)
      exact ⟨⟨(i + 1), ⟨by omega, by omega, fun j hj => (by rcases Nat.lt_or_ge j i with h1 | h1; exact hi.2.2 j h1; obtain rfl : j = i := (by omega); exact odd_eq (by omega) (by rw [ahd_pred l j hi1]; exact hc21))⟩⟩, rfl, (by simp only []; omega)⟩
  · refine W.exit ?_
    refine W.seq ?_
    refine W.line (n := 3) (by decide) (its := [⟨23, _, true⟩, ⟨24, _, true⟩, ⟨2, _, true⟩]) (ks := []) (kk := []) (live := [2]) (env' := [(2, _)])
      (⟨Nat.le_of_ble_eq_true rfl, rfl,
        ⟨⟨rfl, rfl, fun _ τ hb ht hτ => R.mov (evt (hτ 0 _ rfl)) rfl ht⟩,
        ⟨⟨rfl, rfl, fun _ τ hb ht hτ => R.lenE (SC.sl (hτ 23 _ rfl)) (List.length_map _) ht⟩,
        ⟨⟨rfl, rfl, fun _ τ hb ht hτ => R.asg (evt (hτ 24 _ rfl)) rfl ht⟩,
        trivial⟩⟩⟩, rfl, rfl, rfl⟩)
      rfl (bx' := []) rfl (n' := 25) rfl (⟨[2], [(2, _)], [], 25, rfl, rfl, rfl, ?_⟩)
    refine W.ret ?_
    exact Ends.one' (.inr rfl) rfl (by rw [linkS_all l (fun j hj => hi.2.2 j (by omega))]) rfl rfl trivial

end Go.Sx

namespace Go.Sx

theorem shl_nat (x : UInt8) (n : Nat) (h : n ≤ 24) : (shl_u32 x.toUInt32 n).toNat = x.toNat * 2 ^ n := by
  unfold shl_u32
  rw [if_pos (by omega), UInt32.toNat_shiftLeft, UInt8.toNat_toUInt32, UInt32.toNat_ofNat', Nat.mod_eq_of_lt (show n < 2 ^ 32 by omega), Nat.mod_eq_of_lt (show n < 32 by omega), Nat.shiftLeft_eq]
  apply Nat.mod_eq_of_lt
  have h1 := x.toNat_lt
  have h2 : 2 ^ n ≤ 2 ^ 24 := Nat.pow_le_pow_right (by decide) h
  calc x.toNat * 2 ^ n < 256 * 2 ^ n := Nat.mul_lt_mul_of_pos_right h1 (Nat.two_pow_pos n)
    _ ≤ 256 * 2 ^ 24 := Nat.mul_le_mul_left _ h2
    _ = 2 ^ 32 := by decide
def ofB (a b c d : UInt8) : UInt32 := a.toUInt32 ||| shl_u32 b.toUInt32 8 ||| shl_u32 c.toUInt32 16 ||| shl_u32 d.toUInt32 24
theorem or_low (a b i : Nat) (h : a < 2 ^ i) : a ||| (b * 2 ^ i) = a + b * 2 ^ i := by
  rw [Nat.or_comm, ← Nat.shiftLeft_eq, ← Nat.shiftLeft_add_eq_or_of_lt h, Nat.add_comm]
theorem ofB_nat (a b c d : UInt8) : (ofB a b c d).toNat = a.toNat + b.toNat * 256 + c.toNat * 65536 + d.toNat * 16777216 := by
  have ha := a.toNat_lt; have hb := b.toNat_lt; have hc := c.toNat_lt; have hd := d.toNat_lt
  unfold ofB
  rw [UInt32.toNat_or, UInt32.toNat_or, UInt32.toNat_or, shl_nat b 8 (by omega), shl_nat c 16 (by omega), shl_nat d 24 (by omega), UInt8.toNat_toUInt32]
  rw [or_low _ _ 8 (by omega), or_low _ _ 16 (by omega), or_low _ _ 24 (by omega)]
theorem byt_nat (v : UInt32) (i : Nat) (h : i < 4) : (byt v i).toNat = v.toNat / 2 ^ (8 * i) % 256 := by
  unfold byt shr_u32
  rw [if_pos (by omega), UInt32.toNat_toUInt8, UInt32.toNat_shiftRight, UInt32.toNat_ofNat', Nat.mod_eq_of_lt (show 8 * i < 2 ^ 32 by omega), Nat.mod_eq_of_lt (show 8 * i < 32 by omega), Nat.shiftRight_eq_div_pow]
theorem of_byt (v : UInt32) : ofB (byt v 0) (byt v 1) (byt v 2) (byt v 3) = v := by
  apply UInt32.toNat_inj.1
  have := v.toNat_lt
  rw [ofB_nat, byt_nat v 0 (by omega), byt_nat v 1 (by omega), byt_nat v 2 (by omega), byt_nat v 3 (by omega)]
  omega
theorem byt_of (a b c d : UInt8) : le4 (ofB a b c d) = [a, b, c, d] := by
  have ha := a.toNat_lt; have hb := b.toNat_lt; have hc := c.toNat_lt; have hd := d.toNat_lt
  have h0 : byt (ofB a b c d) 0 = a := by apply UInt8.toNat_inj.1; rw [byt_nat _ 0 (by omega), ofB_nat]; omega
  have h1 : byt (ofB a b c d) 1 = b := by apply UInt8.toNat_inj.1; rw [byt_nat _ 1 (by omega), ofB_nat]; omega
  have h2 : byt (ofB a b c d) 2 = c := by apply UInt8.toNat_inj.1; rw [byt_nat _ 2 (by omega), ofB_nat]; omega
  have h3 : byt (ofB a b c d) 3 = d := by apply UInt8.toNat_inj.1; rw [byt_nat _ 3 (by omega), ofB_nat]; omega
  unfold le4
  rw [h0, h1, h2, h3]
theorem num_ofB (b : List UInt8) (n : Nat) : num b n = ofB b[n]! b[n + 1]! b[n + 2]! b[n + 3]! := num_eq b n
theorem get!_right {α : Type} [Inhabited α] (p r : List α) (n i : Nat) (h : p.length = n) : (p ++ r)[n + i]! = r[i]! := by
  subst h
  simp [List.getElem!_eq_getElem?_getD, List.getElem?_append_right]
theorem num_le4 (p r : List UInt8) (v : UInt32) (n : Nat) (hp : p.length = n) : num (p ++ (le4 v ++ r)) n = v := by
  rw [num_ofB, show (p ++ (le4 v ++ r))[n]! = (le4 v ++ r)[0]! from get!_right p _ n 0 hp, get!_right p _ n 1 hp, get!_right p _ n 2 hp, get!_right p _ n 3 hp]
  exact of_byt v
/-- what was put is got -/
theorem hd_put (h : HdS) (hw : h.wf) : hd80 (putS h) = h := by
  obtain ⟨ver, prev, root, time, bits, nonce⟩ := h
  obtain ⟨h1, h2⟩ := hw
  simp only at h1 h2
  unfold hd80
  have e1 : num (putS ⟨ver, prev, root, time, bits, nonce⟩) 0 = ver := by
    unfold putS; simp only [List.append_assoc]; exact num_le4 [] _ _ 0 rfl
  have e4 : num (putS ⟨ver, prev, root, time, bits, nonce⟩) 68 = time := by
    unfold putS
    have := num_le4 (le4 ver ++ prev ++ root) (le4 bits ++ le4 nonce) time 68 (by simp [le4, h1, h2])
    simp only [List.append_assoc] at this ⊢
    exact this
  have e5 : num (putS ⟨ver, prev, root, time, bits, nonce⟩) 72 = bits := by
    unfold putS
    have := num_le4 (le4 ver ++ prev ++ root ++ le4 time) (le4 nonce) bits 72 (by simp [le4, h1, h2])
    simp only [List.append_assoc] at this ⊢
    exact this
  have e6 : num (putS ⟨ver, prev, root, time, bits, nonce⟩) 76 = nonce := by
    unfold putS
    have := num_le4 (le4 ver ++ prev ++ root ++ le4 time ++ le4 bits) [] nonce 76 (by simp [le4, h1, h2])
    simp only [List.append_assoc, List.append_nil] at this ⊢
    exact this
  have e2 : ((putS ⟨ver, prev, root, time, bits, nonce⟩).drop 4).take 32 = prev := by
    unfold putS
    simp only [List.append_assoc]
    rw [List.drop_left' (show (le4 ver).length = 4 from rfl), List.take_left' h1]
  have e3 : ((putS ⟨ver, prev, root, time, bits, nonce⟩).drop 36).take 32 = root := by
    unfold putS
    simp only [List.append_assoc]
    rw [show (36 : Nat) = 4 + 32 from rfl, ← List.drop_drop, List.drop_left' (show (le4 ver).length = 4 from rfl), List.drop_left' h1, List.take_left' h2]
  rw [e1, e2, e3, e4, e5, e6]
theorem four (b : List UInt8) (n : Nat) (h : n + 4 ≤ b.length) : le4 (num b n) = (b.drop n).take 4 := by
  rw [num_ofB, byt_of]
  apply List.ext_getElem
  · simp; omega
  · intro i h1 h2
    simp only [List.length_cons, List.length_nil, Nat.zero_add] at h1
    rw [List.getElem_take, List.getElem_drop]
    have e : ∀ j (hj : n + j < b.length), b[n + j]! = b[n + j] := fun j hj => getElem!_pos b (n + j) hj
    match i, h1 with
    | 0, _ => simp only [List.getElem_cons_zero]; exact e 0 (by omega)
    | 1, _ => simp only [List.getElem_cons_succ, List.getElem_cons_zero]; exact e 1 (by omega)
    | 2, _ => simp only [List.getElem_cons_succ, List.getElem_cons_zero]; exact e 2 (by omega)
    | 3, _ => simp only [List.getElem_cons_succ, List.getElem_cons_zero]; exact e 3 (by omega)
/-- what is got is put as it stood -/
theorem put_hd (b : List UInt8) (h : b.length = 80) : putS (hd80 b) = b := by
  unfold putS hd80
  simp only
  rw [four b 0 (by omega), four b 68 (by omega), four b 72 (by omega), four b 76 (by omega)]
  have e : ∀ n k, n + k ≤ 80 → (b.drop n).take k ++ b.drop (n + k) = b.drop n := fun n k _ => by
    rw [← List.drop_drop]; exact List.take_append_drop k (b.drop n)
  simp only [List.append_assoc]
  have e6 : (b.drop 76).take 4 = b.drop 76 := List.take_of_length_le (by simp; omega)
  rw [e6]
  have := e 72 4 (by omega); rw [this]
  have := e 68 4 (by omega); rw [this]
  have := e 36 32 (by omega); rw [this]
  have := e 4 32 (by omega); rw [this]
  have := e 0 4 (by omega); rw [this]
  rfl

/-! ### rows -/
theorem rowI_eq (l : List HdS) (i : Nat) (hi : i ≤ l.length) : rowI l i = (l.take i).flatMap putS := by
  induction i with
  | zero => simp [rowI]
  | succ i ih =>
    rw [rowI, ih (by omega), List.take_add_one, List.getElem?_eq_getElem (show i < l.length by omega), getElem!_pos l i (by omega)]
    simp only [Option.toList_some, List.flatMap_append, List.flatMap_cons, List.flatMap_nil, List.append_nil]
theorem rowS_eq (l : List HdS) : rowS l = l.flatMap putS := by
  unfold rowS; rw [rowI_eq l _ (Nat.le_refl _), List.take_length]
theorem rowS_append (a b : List HdS) : rowS (a ++ b) = rowS a ++ rowS b := by simp [rowS_eq]
theorem rowS_len (l : List HdS) (hl : allW l) : (rowS l).length = 80 * l.length := rowI_len l hl _ (Nat.le_refl _)
theorem allW.drop {l : List HdS} (h : allW l) (k : Nat) : allW (l.drop k) := fun x hx => h x (List.mem_of_mem_drop hx)
theorem allW.take {l : List HdS} (h : allW l) (k : Nat) : allW (l.take k) := fun x hx => h x (List.mem_of_mem_take hx)
theorem pc_row (l : List HdS) (hl : allW l) (k : Nat) (hk : k < l.length) : pc (rowS l) k = l[k]! := by
  unfold pc
  have e : rowS l = rowS (l.take k) ++ (putS l[k]! ++ rowS (l.drop (k + 1))) := by
    have h1 : l = l.take k ++ (l[k] :: l.drop (k + 1)) := by rw [← List.drop_eq_getElem_cons hk, List.take_append_drop]
    have h2 : rowS (l[k] :: l.drop (k + 1)) = putS l[k] ++ rowS (l.drop (k + 1)) := by rw [rowS_eq, rowS_eq, List.flatMap_cons]
    rw [getElem!_pos l k hk, ← h2, ← rowS_append, ← h1]
  have h3 : (rowS (l.take k)).length = 80 * k := by rw [rowS_len _ (hl.take k), List.length_take]; congr 1; omega
  have hw := hl.get hk
  rw [e, List.drop_left' h3, List.take_left' (putS_len _ hw)]
  exact hd_put _ hw
theorem cutI_row (l : List HdS) (hl : allW l) : cutI (rowS l) l.length = l := by
  unfold cutI
  apply List.ext_getElem (by simp)
  intro i h1 h2
  rw [List.getElem_map, List.getElem_range, pc_row l hl i h2, getElem!_pos l i h2]
theorem cutS_row (l : List HdS) (hl : allW l) (h0 : l.length ≤ 100) : cutS (rowS l) = (l, 0) := by
  unfold cutS
  rw [rowS_len l hl, if_neg (by omega), if_neg (by omega), show 80 * l.length / 80 = l.length by omega, cutI_row l hl]
theorem pc_wf (b : List UInt8) (k : Nat) (h : 80 * (k + 1) ≤ b.length) : (pc b k).wf := hd80_wf _ (by simp; omega)
theorem cutI_wf (b : List UInt8) (n : Nat) (h : 80 * n ≤ b.length) : allW (cutI b n) := by
  intro x hx
  obtain ⟨k, hk, rfl⟩ := List.mem_map.1 hx
  exact pc_wf b k (by have := List.mem_range.1 hk; omega)
theorem row_cutI (b : List UInt8) (n : Nat) (h : 80 * n ≤ b.length) : rowS (cutI b n) = b.take (80 * n) := by
  induction n with
  | zero => simp [cutI, rowS_eq]
  | succ n ih =>
    rw [← cutI_succ, rowS_append, ih (by omega)]
    have : rowS [pc b n] = (b.drop (80 * n)).take 80 := by
      rw [rowS_eq]
      simp only [List.flatMap_cons, List.flatMap_nil, List.append_nil]
      unfold pc
      exact put_hd _ (by simp; omega)
    rw [this, show 80 * (n + 1) = 80 * n + 80 by omega, List.take_add]
theorem row_cut (b : List UInt8) (h : (cutS b).2 = 0) : rowS (cutS b).1 = b := by
  unfold cutS at h ⊢
  by_cases h1 : b.length % 80 ≠ 0
  · rw [if_pos h1] at h; cases h
  · rw [if_neg h1] at h ⊢
    by_cases h2 : 100 < b.length / 80
    · rw [if_pos h2] at h; cases h
    · rw [if_neg h2]
      rw [row_cutI b _ (by omega)]
      exact List.take_of_length_le (by omega)
theorem cutS_wf (b : List UInt8) : allW (cutS b).1 := by
  unfold cutS
  split
  · intro x hx; cases hx
  · split
    · intro x hx; cases hx
    · exact cutI_wf b _ (by omega)
theorem cutS_len (b : List UInt8) : (cutS b).1.length ≤ 100 := by
  unfold cutS
  split
  · simp
  · split
    · simp
    · rw [cutI_len]; omega
end Go.Sx

namespace Go.Sx
theorem zget {b : List UInt8} {x : HdS} {n : Int} (h : getS b = (x, n)) : (D.tup [hdrD (getS b).1, .int (getS b).2]).brwR = .tup [hdrD x, .int n] := by
  rw [h]; show D.tup [_, _] = _; rw [brw_hdr]; rfl
theorem zcut {b : List UInt8} {l : List HdS} {n : Int} {e : Nat} (h : cutS b = (l, n)) : (D.tup [.sl (some e) 68 ((cutS b).1.map hdrD), .int (cutS b).2]).brwR = .tup [.sl none 68 (l.map hdrD), .int n] := by
  rw [h]; show D.tup [_, _] = _; rw [brw_hdrs]; rfl
theorem get_put (h : HdS) (hw : h.wf) : getS (putS h) = (h, 0) := by
  unfold getS
  rw [if_neg (by rw [putS_len h hw]; decide), hd_put h hw]
theorem get_bad {b : List UInt8} (h : b.length ≠ 80) : getS b = (zeroH, 5) := by unfold getS; rw [if_pos h]
theorem get_80 {b : List UInt8} (h : b.length = 80) : getS b = (hd80 b, 0) := by unfold getS; rw [if_neg (by omega)]
/-! ### the document's example -/
def wkH : HdS := ⟨1, zero32, zero32, 2, 258, 4294967295⟩
theorem wkH_wf : wkH.wf := ⟨rfl, rfl⟩
def wkB : List UInt8 := [1, 0, 0, 0] ++ zero32 ++ zero32 ++ [2, 0, 0, 0] ++ [2, 1, 0, 0] ++ [255, 255, 255, 255]
theorem wkB_eq : putS wkH = wkB := by decide +kernel
theorem wkB_row : rowS [wkH] = putS wkH := by simp [rowS_eq]
theorem wk_all : allW [wkH] := fun h hh => by rw [List.mem_singleton.1 hh]; exact wkH_wf
theorem wk_cut : cutS (putS wkH) = ([wkH], 0) := by rw [← wkB_row]; exact cutS_row _ wk_all (by decide)
theorem wk_link : linkS [wkH] = 1 := by
  refine linkS_all [wkH] (fun j hj => ?_)
  have : j = 0 := by simpa using hj
  subst this
  rfl
theorem hwk0 : ((putS wkH)[0]! != 1) = false := by rw [wkB_eq]; decide
theorem hwk4 : ((putS wkH)[4]! != 0) = false := by rw [wkB_eq]; decide
theorem hwk68 : ((putS wkH)[68]! != 2) = false := by rw [wkB_eq]; decide
theorem hwk72 : ((putS wkH)[72]! != 2) = false := by rw [wkB_eq]; decide
theorem hwk73 : ((putS wkH)[73]! != 1) = false := by rw [wkB_eq]; decide
theorem hwk79 : ((putS wkH)[79]! != 255) = false := by rw [wkB_eq]; decide

/-! ### how many headers bytes may be those of -/
theorem many_1 (n m : Nat) (h : ¬ m % 80 = 0) : cutS (List.replicate (80 * n + m % 80) 0) = ([], 5) := by
  unfold cutS; rw [List.length_replicate, if_pos (by omega)]
theorem many_2 (n m : Nat) (h : m % 80 = 0) (hn : 100 < n) : cutS (List.replicate (80 * n + m % 80) 0) = ([], 6) := by
  unfold cutS; rw [List.length_replicate, if_neg (by omega), if_pos (by omega)]
theorem many_3 (n m : Nat) (h : m % 80 = 0) (hn : ¬ 100 < n) : cutS (List.replicate (80 * n + m % 80) 0) = (cutI (List.replicate (80 * n + m % 80) 0) n, 0) := by
  unfold cutS; rw [List.length_replicate, if_neg (by omega), if_neg (by omega), show (80 * n + m % 80) / 80 = n by omega]
theorem many_T {x : UInt8} (h : ¬ x.toNat % 80 = 0) : (x % 80 != 0) = true := by
  rw [bne_iff_ne]
  intro hc
  have := congrArg UInt8.toNat hc
  rw [UInt8.toNat_mod] at this
  exact h this
theorem many_F {x : UInt8} (h : x.toNat % 80 = 0) : (x % 80 != 0) = false := by
  have : x % 80 = 0 := by
    apply UInt8.toNat_inj.1
    rw [UInt8.toNat_mod]
    exact h
  rw [this]; rfl
end Go.Sx

namespace Go.Sx

theorem put_inj (a b : HdS) (ha : a.wf) (hb : b.wf) : ((putS a == putS b) != (a == b)) = false := by
  have : (putS a == putS b) = (a == b) := by
    rw [Bool.eq_iff_iff, beq_iff_eq, beq_iff_eq]
    constructor
    · intro h
      have := congrArg hd80 h
      rwa [hd_put a ha, hd_put b hb] at this
    · rintro rfl; rfl
  rw [this]
  exact bne_self_eq_false _
theorem put_hd_ne (b : List UInt8) (h : b.length = 80) : (putS (hd80 b) != b) = false := by rw [put_hd b h]; exact bne_self_eq_false _
theorem row_cut_eq (b : List UInt8) (h : (cutS b).2 = 0) : (rowS (cutS b).1 == b) = true := by rw [row_cut b h]; exact beq_self_eq_true _
theorem joins_row (l : List HdS) (k : Nat) : (rowS l != rowS (l.take k) ++ rowS (l.drop k)) = false := by
  rw [← rowS_append, List.take_append_drop]; exact bne_self_eq_false _
theorem take_ne (l : List HdS) (k i : Nat) (h : i < k) : ((l.take k)[i]! != l[i]!) = false := by
  have : (l.take k)[i]! = l[i]! := by simp [List.getElem!_eq_getElem?_getD, List.getElem?_take, h]
  rw [this]; exact bne_self_eq_false _
theorem drop_ne (l : List HdS) (k i : Nat) (h : ¬ i < k) : ((l.drop k)[i - k]! != l[i]!) = false := by
  have : (l.drop k)[i - k]! = l[i]! := by simp [List.getElem!_eq_getElem?_getD, List.getElem?_drop, show k + (i - k) = i by omega]
  rw [this]; exact bne_self_eq_false _

/-! ### how many are linked -/
theorem linkS_spec (l : List HdS) : linkS l ≤ l.length ∧ (∀ j, j < linkS l → odd l j = false) ∧ (linkS l < l.length → odd l (linkS l) = true) := by
  unfold linkS
  cases h : (List.range l.length).find? (odd l) with
  | none =>
    rw [List.find?_eq_none] at h
    simp only [Option.getD_none]
    exact ⟨Nat.le_refl _, fun j hj => by have := h j (List.mem_range.2 hj); simpa using this, fun hc => by omega⟩
  | some i =>
    rw [List.find?_range_eq_some] at h
    obtain ⟨h1, h2, h3⟩ := h
    simp only [Option.getD_some]
    exact ⟨Nat.le_of_lt (List.mem_range.1 h2), fun j hj => by have := h3 j hj; simpa using this, fun _ => h1⟩
theorem linkS_uniq (l : List HdS) (n : Nat) (h1 : n ≤ l.length) (h2 : ∀ j, j < n → odd l j = false) (h3 : n < l.length → odd l n = true) : linkS l = n := by
  rcases Nat.lt_or_ge n l.length with h | h
  · exact linkS_at l n h h2 (h3 h)
  · obtain rfl : n = l.length := by omega
    exact linkS_all l h2
theorem odd_take (l : List HdS) (k j : Nat) (h : j < k) : odd (l.take k) j = odd l j := by
  have e : ∀ i, i < k → (l.take k)[i]! = l[i]! := fun i hi => by simp [List.getElem!_eq_getElem?_getD, List.getElem?_take, hi]
  unfold odd
  rw [e j h]
  cases j with
  | zero => rfl
  | succ j => simp only [ahd]; rw [e j (by omega)]
theorem odd_drop (l : List HdS) (k j : Nat) (h : 0 < j) : odd (l.drop k) j = odd l (k + j) := by
  have e : ∀ i, (l.drop k)[i]! = l[k + i]! := fun i => by simp [List.getElem!_eq_getElem?_getD, List.getElem?_drop]
  obtain ⟨i, rfl⟩ : ∃ i, j = i + 1 := ⟨j - 1, by omega⟩
  unfold odd
  rw [e, show k + (i + 1) = (k + i) + 1 by omega]
  simp only [ahd]
  rw [e]
  simp
theorem link_take (l : List HdS) (k : Nat) (h : k ≤ l.length) : linkS (l.take k) = min (linkS l) k := by
  obtain ⟨h1, h2, h3⟩ := linkS_spec l
  have hl : (l.take k).length = k := by simp; omega
  refine linkS_uniq _ _ (by omega) (fun j hj => ?_) (fun hc => ?_)
  · rw [odd_take l k j (by omega)]; exact h2 j (by omega)
  · rw [hl] at hc
    have hm : min (linkS l) k = linkS l := by omega
    rw [hm] at hc ⊢
    rw [odd_take l k _ hc]
    exact h3 (by omega)
theorem link_drop (l : List HdS) (k : Nat) (h : ¬ linkS l ≤ k) : linkS (l.drop k) = linkS l - k := by
  obtain ⟨h1, h2, h3⟩ := linkS_spec l
  have hl : (l.drop k).length = l.length - k := List.length_drop
  refine linkS_uniq _ _ (by omega) (fun j hj => ?_) (fun hc => ?_)
  · cases j with
    | zero => rfl
    | succ j => rw [odd_drop l k _ (by omega)]; exact h2 _ (by omega)
  · rw [odd_drop l k _ (by omega), show k + (linkS l - k) = linkS l by omega]
    exact h3 (by omega)

/-! ### chains -/
def HdS.on (h : HdS) (p : Hs) : HdS := { h with prev := p }
/-- each of the first ones is put on the one ahead -/
def chI (l : List HdS) : Nat → List HdS
  | 0 => l
  | i + 1 => (chI l i).set (i + 1) ((chI l i)[i + 1]!.on (idS (chI l i)[i]!))
theorem chI_len (l : List HdS) (i : Nat) : (chI l i).length = l.length := by
  induction i with
  | zero => rfl
  | succ i ih => simp [chI, ih]
theorem idS_len (h : HdS) : (idS h).length = 32 := by unfold idS twiceS; exact sumS_len _
theorem on_prev (h : HdS) (p : Hs) : (h.on p).prev = p := rfl
theorem on_wf (h : HdS) (p : Hs) (hw : h.wf) (hp : p.length = 32) : (h.on p).wf := ⟨hp, hw.2⟩
theorem chI_wf (l : List HdS) (hl : allW l) (i : Nat) (hi : i + 1 ≤ l.length ∨ i = 0) : allW (chI l i) := by
  induction i with
  | zero => exact hl
  | succ i ih =>
    have h0 := ih (by omega)
    intro x hx
    rcases List.mem_or_eq_of_mem_set hx with h | rfl
    · exact h0 x h
    · exact on_wf _ _ (h0.get (by rw [chI_len]; omega)) (idS_len _)
theorem chI_later (l : List HdS) (i j : Nat) (h : j ≤ i) : ∀ d, (chI l (i + d))[j]! = (chI l i)[j]! := by
  intro d
  induction d with
  | zero => rfl
  | succ d ih =>
    rw [← ih, ← Nat.add_assoc, chI]
    simp only [List.getElem!_eq_getElem?_getD, List.getElem?_set]
    rw [if_neg (by omega)]
theorem chI_odd (l : List HdS) (n j : Nat) (hj : j ≤ n) (hn : j < l.length) : odd (chI l n) j = false := by
  cases j with
  | zero => rfl
  | succ i =>
    unfold odd
    simp only [ahd]
    obtain ⟨d, rfl⟩ : ∃ d, n = (i + 1) + d := ⟨n - (i + 1), by omega⟩
    rw [chI_later l (i + 1) (i + 1) (Nat.le_refl _) d, chI_later l (i + 1) i (by omega) d]
    have e1 : (chI l (i + 1))[i + 1]! = (chI l i)[i + 1]!.on (idS (chI l i)[i]!) := by
      rw [chI, getElem!_pos _ _ (by rw [List.length_set, chI_len]; exact hn)]
      simp
    have e2 : (chI l (i + 1))[i]! = (chI l i)[i]! := chI_later l i i (Nat.le_refl _) 1
    rw [e1, e2, on_prev, bne_self_eq_false, Bool.and_false]
theorem chain_all (l : List HdS) (n : Nat) (h : l.length ≤ n + 1) : linkS (chI l n) = l.length := by
  rw [← chI_len l n]
  exact linkS_all _ (fun j hj => by rw [chI_len] at hj; exact chI_odd l n j (by omega) hj)
/-- one of them is turned -/
def turnP (l : List HdS) (k n : Nat) (y : UInt8) : List HdS := l.set k (l[k]!.on (l[k]!.prev.set n (l[k]!.prev[n]! ^^^ y)))
theorem turnP_len (l : List HdS) (k n : Nat) (y : UInt8) : (turnP l k n y).length = l.length := by simp [turnP]
theorem turnP_wf (l : List HdS) (hl : allW l) (k n : Nat) (y : UInt8) (hk : k < l.length) : allW (turnP l k n y) := by
  intro x hx
  rcases List.mem_or_eq_of_mem_set hx with h | rfl
  · exact hl x h
  · exact on_wf _ _ (hl.get hk) (by rw [List.length_set]; exact (hl.get hk).1)
theorem xor_ne (x y : UInt8) (h : y ≠ 0) : x ^^^ y ≠ x := by
  intro hc
  apply h
  have := congrArg (x ^^^ ·) hc
  simp only [← UInt8.xor_assoc, UInt8.xor_self, UInt8.zero_xor] at this
  exact this
theorem turn_odd (l : List HdS) (hl : allW l) (N k n : Nat) (y : UInt8) (hk : k < l.length) (hk0 : 0 < k) (hN : l.length ≤ N + 1) (hn : n < 32) (hy : y ≠ 0) : linkS (turnP (chI l N) k n y) = k ∧ linkS ((turnP (chI l N) k n y).take k) = k := by
  have hlen : (turnP (chI l N) k n y).length = l.length := by rw [turnP_len, chI_len]
  have hget : ∀ j, j ≠ k → (turnP (chI l N) k n y)[j]! = (chI l N)[j]! := fun j hj => by
    unfold turnP
    simp only [List.getElem!_eq_getElem?_getD, List.getElem?_set]
    rw [if_neg (fun e => hj e.symm)]
  have hw := chI_wf l hl
  have hk2 : k < (chI l N).length := by rw [chI_len]; exact hk
  have hgk : (turnP (chI l N) k n y)[k]! = (chI l N)[k]!.on ((chI l N)[k]!.prev.set n ((chI l N)[k]!.prev[n]! ^^^ y)) := by
    unfold turnP
    rw [getElem!_pos _ k (by rw [List.length_set]; exact hk2)]
    simp
  have hlow : ∀ j, j < k → odd (turnP (chI l N) k n y) j = false := fun j hj => by
    have := chI_odd l N j (by omega) (by omega)
    unfold odd at this ⊢
    rw [hget j (by omega)]
    cases j with
    | zero => rfl
    | succ j => simp only [ahd] at this ⊢; rw [hget j (by omega)]; exact this
  have hat : odd (turnP (chI l N) k n y) k = true := by
    have h0 := chI_odd l N k (by omega) hk
    obtain ⟨i, rfl⟩ : ∃ i, k = i + 1 := ⟨k - 1, by omega⟩
    unfold odd at h0 ⊢
    rw [hgk]
    rw [show ahd (turnP (chI l N) (i + 1) n y) (i + 1) = idS (turnP (chI l N) (i + 1) n y)[i]! from rfl, hget i (by omega)]
    rw [show ahd (chI l N) (i + 1) = idS (chI l N)[i]! from rfl] at h0
    rw [show decide (0 < i + 1) = true from decide_eq_true (Nat.succ_pos i), Bool.true_and] at h0
    rw [bne_eq_false_iff_eq] at h0
    rw [show decide (0 < i + 1) = true from decide_eq_true (Nat.succ_pos i), Bool.true_and, bne_iff_ne, ← h0, on_prev]
    have hpl : (chI l N)[i + 1]!.prev.length = 32 := by
      by_cases hN0 : N = 0
      · subst hN0; omega
      · have : allW (chI l N) := by
          have hw' : ∀ d, allW (chI l (l.length - 1 + d)) := by
            intro d
            induction d with
            | zero => exact hw _ (by omega)
            | succ d ih =>
              intro x hx
              rw [← Nat.add_assoc, chI] at hx
              rw [List.set_eq_of_length_le (by rw [chI_len]; omega)] at hx
              exact ih x hx
          obtain ⟨d, hd⟩ : ∃ d, N = l.length - 1 + d := ⟨N - (l.length - 1), by omega⟩
          rw [hd]; exact hw' d
        exact (this.get hk2).1
    intro hc
    have h1 := congrArg (fun z : Hs => z[n]!) hc
    rw [getElem!_pos _ n (by rw [List.length_set]; omega)] at h1
    simp only [List.getElem_set_self] at h1
    exact xor_ne _ _ hy h1
  have h1 : linkS (turnP (chI l N) k n y) = k := linkS_at _ k (by omega) hlow hat
  refine ⟨h1, ?_⟩
  rw [link_take _ k (by omega), h1]
  omega

/-! ### a byte that is turned -/
def flip (b : List UInt8) (k : Nat) (y : UInt8) : List UInt8 := b.set k (b[k]! ^^^ y)
theorem flip_len (b : List UInt8) (k : Nat) (y : UInt8) : (flip b k y).length = b.length := by simp [flip]
theorem flip_same (h : HdS) (hw : h.wf) (k : Nat) (y : UInt8) (hk : k < 80) : ((hd80 (flip (putS h) k y) == h) != (y == 0)) = false := by
  have hl := putS_len h hw
  have : (hd80 (flip (putS h) k y) == h) = (y == 0) := by
    rw [Bool.eq_iff_iff, beq_iff_eq, beq_iff_eq]
    constructor
    · intro hc
      have h1 := put_hd (flip (putS h) k y) (by rw [flip_len, hl])
      rw [hc] at h1
      have h2 := congrArg (fun z : List UInt8 => z[k]!) h1
      simp only [flip] at h2
      rw [getElem!_pos ((putS h).set k _) k (by rw [List.length_set]; omega)] at h2
      simp only [List.getElem_set_self] at h2
      apply Classical.byContradiction
      intro hy
      exact xor_ne _ _ hy h2.symm
    · rintro rfl
      have : flip (putS h) k 0 = putS h := by
        unfold flip
        rw [UInt8.xor_zero, getElem!_pos _ k (by omega), List.set_getElem_self]
      rw [this, hd_put h hw]
  rw [this]
  exact bne_self_eq_false _
theorem flip_num (b : List UInt8) (k n : Nat) (y : UInt8) (h : k < n ∨ n + 4 ≤ k) : num (flip b k y) n = num b n := by
  have e : ∀ j, j ≠ k → (flip b k y)[j]! = b[j]! := fun j hj => by
    unfold flip
    simp only [List.getElem!_eq_getElem?_getD, List.getElem?_set]
    rw [if_neg (fun e => hj e.symm)]
  rw [num_ofB, num_ofB, e n (by omega), e (n + 1) (by omega), e (n + 2) (by omega), e (n + 3) (by omega)]
theorem flip_out (b : List UInt8) (k n : Nat) (y : UInt8) (h : k < n ∨ n + 32 ≤ k) : ((flip b k y).drop n).take 32 = (b.drop n).take 32 := by
  apply List.ext_getElem?
  intro i
  simp only [List.getElem?_take, List.getElem?_drop, flip, List.getElem?_set]
  split
  · rw [if_neg (by omega)]
  · rfl
theorem flip_in (b : List UInt8) (k n : Nat) (y : UInt8) (h1 : n ≤ k) (h2 : k < n + 32) (hb : n + 32 ≤ b.length) : (((flip b k y).drop n).take 32).set (k - n) ((((flip b k y).drop n).take 32)[k - n]! ^^^ y) = (b.drop n).take 32 := by
  have e0 : (((flip b k y).drop n).take 32)[k - n]! = b[k]! ^^^ y := by
    simp only [List.getElem!_eq_getElem?_getD, List.getElem?_take, List.getElem?_drop, flip]
    rw [if_pos (by omega), show n + (k - n) = k by omega, List.getElem?_set, if_pos rfl, if_pos (by omega)]
    rfl
  rw [e0, UInt8.xor_assoc, UInt8.xor_self, UInt8.xor_zero]
  apply List.ext_getElem?
  intro i
  rw [List.getElem?_set]
  by_cases hi : k - n = i
  · rw [if_pos hi]
    subst hi
    rw [if_pos (by rw [List.length_take, List.length_drop, flip_len]; omega)]
    rw [List.getElem?_take, if_pos (by omega), List.getElem?_drop, show n + (k - n) = k by omega, List.getElem?_eq_getElem (show k < b.length by omega), getElem!_pos b k (by omega)]
  · rw [if_neg hi]
    simp only [List.getElem?_take, List.getElem?_drop, flip, List.getElem?_set]
    split
    · rw [if_neg (by omega)]
    · rfl
/-- the header of which one byte is turned, and the field that holds it as it was -/
theorem flip_back (h : HdS) (hw : h.wf) (k : Nat) (y : UInt8) (hk : k < 80) (x : HdS) (hx : x = hd80 (flip (putS h) k y)) :
    (k < 4 → { x with ver := h.ver } = h) ∧ (¬ k < 4 → k < 36 → { x with prev := x.prev.set (k - 4) (x.prev[k - 4]! ^^^ y) } = h) ∧ (¬ k < 36 → k < 68 → { x with root := x.root.set (k - 36) (x.root[k - 36]! ^^^ y) } = h) ∧
    (¬ k < 68 → k < 72 → { x with time := h.time } = h) ∧ (¬ k < 72 → k < 76 → { x with bits := h.bits } = h) ∧ (¬ k < 76 → { x with nonce := h.nonce } = h) := by
  have hl := putS_len h hw
  have h0 := hd_put h hw
  subst hx
  have g1 : num (putS h) 0 = h.ver := congrArg HdS.ver h0
  have g2 : ((putS h).drop 4).take 32 = h.prev := congrArg HdS.prev h0
  have g3 : ((putS h).drop 36).take 32 = h.root := congrArg HdS.root h0
  have g4 : num (putS h) 68 = h.time := congrArg HdS.time h0
  have g5 : num (putS h) 72 = h.bits := congrArg HdS.bits h0
  have g6 : num (putS h) 76 = h.nonce := congrArg HdS.nonce h0
  refine ⟨fun c => ?_, fun c1 c => ?_, fun c1 c => ?_, fun c1 c => ?_, fun c1 c => ?_, fun c => ?_⟩
  · unfold hd80
    simp only [flip_out (putS h) k 4 y (by omega), flip_out (putS h) k 36 y (by omega), flip_num (putS h) k 68 y (by omega), flip_num (putS h) k 72 y (by omega), flip_num (putS h) k 76 y (by omega), g2, g3, g4, g5, g6]
  · unfold hd80
    simp only [flip_num (putS h) k 0 y (by omega), flip_out (putS h) k 36 y (by omega), flip_num (putS h) k 68 y (by omega), flip_num (putS h) k 72 y (by omega), flip_num (putS h) k 76 y (by omega), g1, g3, g4, g5, g6, flip_in (putS h) k 4 y (by omega) (by omega) (by omega), g2]
  · unfold hd80
    simp only [flip_num (putS h) k 0 y (by omega), flip_out (putS h) k 4 y (by omega), flip_num (putS h) k 68 y (by omega), flip_num (putS h) k 72 y (by omega), flip_num (putS h) k 76 y (by omega), g1, g2, g4, g5, g6, flip_in (putS h) k 36 y (by omega) (by omega) (by omega), g3]
  · unfold hd80
    simp only [flip_num (putS h) k 0 y (by omega), flip_out (putS h) k 4 y (by omega), flip_out (putS h) k 36 y (by omega), flip_num (putS h) k 72 y (by omega), flip_num (putS h) k 76 y (by omega), g1, g2, g3, g5, g6]
  · unfold hd80
    simp only [flip_num (putS h) k 0 y (by omega), flip_out (putS h) k 4 y (by omega), flip_out (putS h) k 36 y (by omega), flip_num (putS h) k 68 y (by omega), flip_num (putS h) k 76 y (by omega), g1, g2, g3, g4, g6]
  · unfold hd80
    simp only [flip_num (putS h) k 0 y (by omega), flip_out (putS h) k 4 y (by omega), flip_out (putS h) k 36 y (by omega), flip_num (putS h) k 68 y (by omega), flip_num (putS h) k 72 y (by omega), g1, g2, g3, g4, g5]

theorem set_hdr (l : List HdS) (i : Nat) (x : HdS) : (l.map hdrD).set i (hdrD x) = (l.set i x).map hdrD := List.map_set.symm
theorem set_on (l : List HdS) (i : Nat) (p : Hs) : (l.map hdrD).set i (.agg [.u32 l[i]!.ver, hashD p, hashD l[i]!.root, .u32 l[i]!.time, .u32 l[i]!.bits, .u32 l[i]!.nonce]) = (l.set i (l[i]!.on p)).map hdrD := set_hdr l i (l[i]!.on p)
theorem chI_step (l : List HdS) (j : Nat) : (chI l j).set (j + 1) ((chI l j)[j + 1]!.on (idS (chI l j)[j]!)) = chI l (j + 1) := rfl
end Go.Sx
