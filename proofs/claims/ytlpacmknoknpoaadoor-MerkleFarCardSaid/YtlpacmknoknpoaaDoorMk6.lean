/- Proved: what functions of the given program compute (used by the theorem of this claim). Conditions: none but those that each theorem states. -/
import Derived.Test.YtlpacmknoknpoaaDoorMk5
import Derived.Test.YtlpacmknoknpoaaDoorMkLaw
set_option linter.unusedVariables false
set_option linter.unusedSimpArgs false
set_option linter.unnecessarySimpa false
namespace Go.Sx
open Go.Proofs
theorem partner_ok (l : List Hs) (k : Nat) (hl0 : 1 ≤ l.length) (hl1 : l.length ≤ 1000) (hk0 : k < 1000000) : Fn Tryd.prog gl 19 [.sl none 32 (l.map hashD), .int ((k : Nat) : Int)] (hashD (partS l k)) := by
  refine Fn.of (n := 14) Tryd.func19 rfl rfl rfl (Nat.le_of_ble_eq_true rfl) fun C hC hD => ?_
  have hxl := xor1_le k
  refine W.seq ?_
  refine W.line (n := 1) (by decide) (its := []) (ks := []) (kk := []) (live := [0, 1]) (env' := [(0, _), (1, _)])
    (⟨Nat.le_of_ble_eq_true rfl, rfl,
      trivial, rfl, rfl, rfl⟩)
    rfl (bx' := []) rfl (n' := 14) rfl (⟨rfl, _, R.alloc rfl (Nat.le_of_ble_eq_true rfl), ⟨[0, 1, 4], [(0, _), (1, _), (4, _)], [(4, .var _)], 14, rfl, rfl, rfl, ?_⟩⟩)
  refine W.seq ?_
  refine W.line (n := 10) (by decide) (its := [⟨5, _, true⟩, ⟨6, _, true⟩, ⟨7, _, true⟩, ⟨8, _, true⟩, ⟨9, _, true⟩, ⟨10, _, true⟩, ⟨11, _, true⟩, ⟨12, _, true⟩, ⟨13, _, true⟩]) (ks := []) (kk := []) (live := [4, 13]) (env' := [(4, _), (13, _)])
    (⟨Nat.le_of_ble_eq_true rfl, rfl,
      ⟨⟨rfl, rfl, fun _ τ hb ht hτ => R.mov (evt (hτ 0 _ rfl)) rfl ht⟩,
      ⟨⟨rfl, rfl, fun _ τ hb ht hτ => R.mov (evt (hτ 1 _ rfl)) rfl ht⟩,
      ⟨⟨rfl, rfl, fun _ τ hb ht hτ => R.binE (d := .int ((xor1 k : Nat) : Int)) (evt (hτ 6 _ rfl)) (show ev _ _ (.const (.int .i64 1)) = some (.int ((1 : Nat) : Int)) from rfl) rfl trivial (bits_xor1 k hk0) ht⟩,
      ⟨⟨rfl, rfl, fun _ τ hb ht hτ => R.mov (evt (hτ 0 _ rfl)) rfl ht⟩,
      ⟨⟨rfl, rfl, fun _ τ hb ht hτ => R.lenE (SC.sl (hτ 8 _ rfl)) (List.length_map _) ht⟩,
      ⟨⟨rfl, rfl, fun _ τ hb ht hτ => R.subN (l.length) (1) (evt (hτ 9 _ rfl)) (show ev _ _ (.const (.int .i64 1)) = some (.int ((1 : Nat) : Int)) from rfl) (by first | omega | (simp only [List.length_map, List.length_append, List.length_cons, List.length_nil, List.length_take, List.length_drop, List.length_replicate]; omega) | (simp; omega)) (by first | omega | (simp only [List.length_map, List.length_append, List.length_cons, List.length_nil, List.length_take, List.length_drop, List.length_replicate]; omega) | (simp; omega)) ht⟩,
      ⟨⟨rfl, rfl, fun _ τ hb ht hτ => R.minI (r := ((min (xor1 k) (l.length - 1) : Nat) : Int)) (evt (hτ 7 _ rfl)) (evt (hτ 10 _ rfl)) (by omega) ht⟩,
      ⟨⟨rfl, rfl, fun _ τ hb ht hτ => R.idxN (min (xor1 k) (l.length - 1)) (SC.sl (hτ 5 _ rfl)) (evoI (evt (hτ 11 _ rfl))) rfl (by first | omega | (simp only [List.length_map, List.length_append, List.length_cons, List.length_nil, List.length_take, List.length_drop, List.length_replicate]; omega) | (simp; omega)) ht (by decide)⟩,
      ⟨⟨rfl, rfl, fun _ τ hb ht hτ => R.ldE (hτ 12 _ rfl) (SC.sl (hτ 5 _ rfl)) (map_get! (l := l) (by first | omega | (simp only [List.length_map, List.length_append, List.length_cons, List.length_nil, List.length_take, List.length_drop, List.length_replicate]; omega) | (simp; omega))) rfl rfl rfl rfl ht⟩,
      trivial⟩⟩⟩⟩⟩⟩⟩⟩⟩, rfl, rfl, rfl⟩)
    rfl (bx' := [(4, .var _)]) rfl (n' := 14) rfl (⟨rfl, _, R.stZ (show Sg.get _ 4 = some _ from rfl) (show Sg.box _ 4 = some _ from rfl) rfl (evt (show Sg.get _ 13 = some _ from rfl)) (by rfl) (by rfl) (by rfl) (by rfl) rfl, ⟨[4], [(4, _)], [(4, .var _)], 14, rfl, rfl, rfl, ?_⟩⟩)
  refine W.ret ?_
  exact Ends.one' (.inr rfl) rfl (rfl) rfl rfl (show LdT _ 23 32 true from inferInstance)

theorem root_ok (l : List Hs) (hl : allH l) (hl0 : l.length ≤ 1000) : Fn Tryd.prog gl 11 [.sl none 32 (l.map hashD)] (hashD (rootS joinS l)) := by
  refine Fn.ofR (n := 11) Tryd.func11 rfl rfl rfl (Nat.le_of_ble_eq_true rfl) fun W0 G hgl => ?_
  refine V.seq ?_
  refine V.of fun C hC hD => ?_
  refine W.line (n := 1) (by decide) (its := []) (ks := []) (kk := []) (live := [0]) (env' := [(0, _)])
    (⟨Nat.le_of_ble_eq_true rfl, rfl,
      trivial, rfl, rfl, rfl⟩)
    rfl (bx' := []) rfl (n' := 11) rfl (⟨rfl, _, R.alloc rfl (Nat.le_of_ble_eq_true rfl), ⟨[0, 2], [(0, _), (2, _)], [(2, .var _)], 11, rfl, rfl, rfl, ?_⟩⟩)
  refine V.seq ?_
  refine V.seq ?_
  refine V.of fun C hC hD => ?_
  refine W.line (n := 2) (by decide) (its := [⟨4, _, true⟩, ⟨5, _, true⟩]) (ks := []) (kk := []) (live := [2, 5]) (env' := [(2, _), (5, _)])
    (⟨Nat.le_of_ble_eq_true rfl, rfl,
      ⟨⟨rfl, rfl, fun _ τ hb ht hτ => R.mov (evt (hτ 0 _ rfl)) rfl ht⟩,
      ⟨⟨rfl, rfl, fun _ τ hb ht hτ => R.callPE hC (rows_ok l) (EvP.cons (evt (hτ 4 _ rfl)) rfl rfl EvP.nil) ht⟩,
      trivial⟩⟩, rfl, rfl, rfl⟩)
    rfl (bx' := [(2, .var _)]) rfl (n' := 11) rfl (⟨[2, 5], [(2, _), (5, _)], [(2, .var _)], 11, rfl, rfl, rfl, ?_⟩)
  refine V.block ?_
  refine V.rangeE [2] (nRows l.length) (fun k => .sl none 32 ((rowA joinS l k).map hashD)) (fun k => [(2, .var (hashD (rootA joinS l k)))]) (fun _ _ => False) (fun _ => True) hgl (rows_itr l hl hl0) rfl rfl rfl rfl (rfl) rfl ⟨frs_hash' _, rfl, trivial⟩ (fun _ => ⟨rfl, rfl⟩) (trivial) (fun k hk hJ C hC hD => ?_) ?_ ?_
  · have hrl := rowA_len joinS l k
    have hle := lenA_le l.length k
    have hra := rowA_all joinS_len hl k
    have hrp := rowA_pos joinS l k hk
    show W _ _ _ _ _
    refine W.dropS (live := [2, 6]) (env' := [(2, _), (6, _)]) (bx' := [(2, .var _)]) (n' := 11) rfl rfl rfl ?_
    refine W.line (n := 1) (by decide) (its := [⟨3, _, true⟩]) (ks := []) (kk := []) (live := [2, 3]) (env' := [(2, _), (3, _)])
      (⟨Nat.le_of_ble_eq_true rfl, rfl,
        ⟨⟨rfl, rfl, fun _ τ hb ht hτ => R.asg (evt (hτ 6 _ rfl)) rfl ht⟩,
        trivial⟩, rfl, rfl, rfl⟩)
      rfl (bx' := [(2, .var _)]) rfl (n' := 11) rfl (⟨[2, 3], [(2, _), (3, _)], [(2, .var _)], 11, rfl, rfl, rfl, ?_⟩)
    refine ⟨rfl, fun C hC hD => ?_⟩
    refine W.block ?_
    refine W.line (n := 4) (by decide) (its := [⟨7, _, true⟩, ⟨8, _, true⟩, ⟨9, _, true⟩]) (ks := []) (kk := []) (live := [2, 9]) (env' := [(2, _), (9, _)])
      (⟨Nat.le_of_ble_eq_true rfl, rfl,
        ⟨⟨rfl, rfl, fun _ τ hb ht hτ => R.mov (evt (hτ 3 _ rfl)) rfl ht⟩,
        ⟨⟨rfl, rfl, fun _ τ hb ht hτ => R.idxN (0) (SC.sl (hτ 7 _ rfl)) (evoI (show ev _ _ (.const (.int .i64 0)) = some (.int ((0 : Nat) : Int)) from rfl)) rfl (by first | omega | (simp only [List.length_map, List.length_append, List.length_cons, List.length_nil, List.length_take, List.length_drop, List.length_replicate]; omega) | (simp; omega)) ht (by decide)⟩,
        ⟨⟨rfl, rfl, fun _ τ hb ht hτ => R.ldE (hτ 8 _ rfl) (SC.sl (hτ 7 _ rfl)) (map_get! (l := (rowA joinS l k)) (by first | omega | (simp only [List.length_map, List.length_append, List.length_cons, List.length_nil, List.length_take, List.length_drop, List.length_replicate]; omega) | (simp; omega))) rfl rfl rfl rfl ht⟩,
        trivial⟩⟩⟩, rfl, rfl, rfl⟩)
      rfl (bx' := [(2, .var _)]) rfl (n' := 11) rfl (⟨rfl, _, R.stZ (show Sg.get _ 2 = some _ from rfl) (show Sg.box _ 2 = some _ from rfl) rfl (evt (show Sg.get _ 9 = some _ from rfl)) (by rfl) (by rfl) (by rfl) (by rfl) rfl, ⟨[], [], [(2, .var _)], 11, rfl, rfl, rfl, ?_⟩⟩)
    exact ⟨.inl ⟨rfl, rfl, trivial⟩, ⟨frs_hash' _, rfl, trivial⟩⟩
  · intro hJ
    refine V.of fun C hC hD => ?_
    refine W.seq ?_
    refine W.line (n := 2) (by decide) (its := [⟨10, _, true⟩]) (ks := []) (kk := []) (live := [2, 10]) (env' := [(2, _), (10, _)])
      (⟨Nat.le_of_ble_eq_true rfl, rfl,
        ⟨⟨rfl, rfl, fun _ τ hb ht hτ => R.ldP (hτ 2 _ rfl) (hb 2 _ rfl) rfl rfl rfl rfl ht⟩,
        trivial⟩, rfl, rfl, rfl⟩)
      rfl (bx' := [(2, .var _)]) rfl (n' := 11) rfl (⟨rfl, _, R.stZ (show Sg.get _ 2 = some _ from rfl) (show Sg.box _ 2 = some _ from rfl) rfl (evt (show Sg.get _ 10 = some _ from rfl)) (by rfl) (by rfl) (by rfl) (by rfl) rfl, ⟨[2], [(2, _)], [(2, .var _)], 11, rfl, rfl, rfl, ?_⟩⟩)
    refine W.ret ?_
    exact Ends.one' (.inr rfl) rfl (rfl) rfl rfl (show LdT _ 23 32 true from inferInstance)
  · exact fun e bx he hs => hs.elim

theorem doubled_ok (l : List Hs) (hl : allH l) (hl0 : l.length ≤ 1000) : Fn Tryd.prog gl 12 [.sl none 32 (l.map hashD)] (.bool (dblS joinS l)) := by
  refine Fn.ofR (n := 29) Tryd.func12 rfl rfl rfl (Nat.le_of_ble_eq_true rfl) fun W0 G hgl => ?_
  refine V.seq ?_
  refine V.of fun C hC hD => ?_
  refine W.line (n := 1) (by decide) (its := []) (ks := []) (kk := []) (live := [0]) (env' := [(0, _)])
    (⟨Nat.le_of_ble_eq_true rfl, rfl,
      trivial, rfl, rfl, rfl⟩)
    rfl (bx' := []) rfl (n' := 29) rfl (⟨rfl, _, R.alloc rfl (Nat.le_of_ble_eq_true rfl), ⟨[0, 2], [(0, _), (2, _)], [(2, .var _)], 29, rfl, rfl, rfl, ?_⟩⟩)
  refine V.seq ?_
  refine V.seq ?_
  refine V.of fun C hC hD => ?_
  refine W.line (n := 2) (by decide) (its := [⟨6, _, true⟩, ⟨7, _, true⟩]) (ks := []) (kk := []) (live := [2, 7]) (env' := [(2, _), (7, _)])
    (⟨Nat.le_of_ble_eq_true rfl, rfl,
      ⟨⟨rfl, rfl, fun _ τ hb ht hτ => R.mov (evt (hτ 0 _ rfl)) rfl ht⟩,
      ⟨⟨rfl, rfl, fun _ τ hb ht hτ => R.callPE hC (rows_ok l) (EvP.cons (evt (hτ 6 _ rfl)) rfl rfl EvP.nil) ht⟩,
      trivial⟩⟩, rfl, rfl, rfl⟩)
    rfl (bx' := [(2, .var _)]) rfl (n' := 29) rfl (⟨[2, 7], [(2, _), (7, _)], [(2, .var _)], 29, rfl, rfl, rfl, ?_⟩)
  refine V.block ?_
  refine V.rangeE [2] (nRows l.length) (fun k => .sl none 32 ((rowA joinS l k).map hashD)) (fun k => [(2, .var (.bool false))]) (fun e bx => e = .ret ∧ bx = [(2, .var (.bool true))] ∧ dblS joinS l = true) (fun k => ∀ j, j < k → rowDbl (rowA joinS l j) = false) hgl (rows_itr l hl hl0) rfl rfl rfl rfl (rfl) rfl ⟨.bool _, rfl, trivial⟩ (fun _ => ⟨rfl, rfl⟩) (fun j hj => absurd hj (Nat.not_lt_zero _)) (fun k hk hJ C hC hD => ?_) ?_ ?_
  · have hrl := rowA_len joinS l k
    have hle := lenA_le l.length k
    have hra := rowA_all joinS_len hl k
    have hrp := rowA_pos joinS l k hk
    show W _ _ _ _ _
    refine W.dropS (live := [2, 8]) (env' := [(2, _), (8, _)]) (bx' := [(2, .var _)]) (n' := 29) rfl rfl rfl ?_
    refine W.line (n := 1) (by decide) (its := [⟨3, _, true⟩]) (ks := []) (kk := []) (live := [2, 3]) (env' := [(2, _), (3, _)])
      (⟨Nat.le_of_ble_eq_true rfl, rfl,
        ⟨⟨rfl, rfl, fun _ τ hb ht hτ => R.asg (evt (hτ 8 _ rfl)) rfl ht⟩,
        trivial⟩, rfl, rfl, rfl⟩)
      rfl (bx' := [(2, .var _)]) rfl (n' := 29) rfl (⟨[2, 3], [(2, _), (3, _)], [(2, .var _)], 29, rfl, rfl, rfl, ?_⟩)
    refine ⟨rfl, fun C hC hD => ?_⟩
    refine W.block ?_
    refine W.seq ?_
    refine W.line (n := 3) (by decide) (its := [⟨9, _, true⟩, ⟨10, _, true⟩, ⟨11, _, true⟩]) (ks := []) (kk := []) (live := [2, 3, 9, 10, 11]) (env' := [(2, _), (3, _), (9, _), (10, _), (11, _)])
      (⟨Nat.le_of_ble_eq_true rfl, rfl,
        ⟨⟨rfl, rfl, fun _ τ hb ht hτ => R.mov (evt (hτ 3 _ rfl)) rfl ht⟩,
        ⟨⟨rfl, rfl, fun _ τ hb ht hτ => R.lenE (SC.sl (hτ 9 _ rfl)) (List.length_map _) ht⟩,
        ⟨⟨rfl, rfl, fun _ τ hb ht hτ => R.mov (show ev _ _ (.const (.int .i64 0)) = some (.int ((0 : Nat) : Int)) from rfl) rfl ht⟩,
        trivial⟩⟩⟩, rfl, rfl, rfl⟩)
      rfl (bx' := [(2, .var _)]) rfl (n' := 29) rfl (⟨[2, 3, 9, 10, 11], [(2, _), (3, _), (9, _), (10, _), (11, _)], [(2, .var _)], 29, rfl, rfl, rfl, ?_⟩)
    refine W.block ?_
    refine W.loop (α := {q__ : Nat // q__ ≤ (rowA joinS l k).length ∧ ∀ j, 2 * j + 1 < q__ → ((rowA joinS l k)[2 * j + 1]! == (rowA joinS l k)[2 * j]!) = false}) (fun q__ => ⟨29, [(2, .ptr 2 0 []), (3, .sl none 32 ((rowA joinS l k).map hashD)), (9, .sl none 32 ((rowA joinS l k).map hashD)), (10, .int (((rowA joinS l k).length : Nat) : Int)), (11, .int ((q__.1 : Nat) : Int))], [(2, .var (.bool false))]⟩) (fun q__ => (rowA joinS l k).length - q__.1) ⟨(0), ⟨Nat.zero_le _, fun j hj => absurd hj (Nat.not_lt_zero _)⟩⟩ rfl ?_
    rintro ⟨i, hi⟩
    show W _ _ _ _ ⟨29, [(2, .ptr 2 0 []), (3, .sl none 32 ((rowA joinS l k).map hashD)), (9, .sl none 32 ((rowA joinS l k).map hashD)), (10, .int (((rowA joinS l k).length : Nat) : Int)), (11, .int ((i : Nat) : Int))], [(2, .var (.bool false))]⟩
    have hi1 : i ≤ (rowA joinS l k).length := hi.1
    refine W.seq ?_
    refine W.line (n := 1) (by decide) (its := [⟨12, _, true⟩]) (ks := []) (kk := []) (live := [2, 3, 9, 10, 11, 12]) (env' := [(2, _), (3, _), (9, _), (10, _), (11, _), (12, _)])
      (⟨Nat.le_of_ble_eq_true rfl, rfl,
        ⟨⟨rfl, rfl, fun _ τ hb ht hτ => R.lssN (i) ((rowA joinS l k).length) (evt (hτ 11 _ rfl)) (evt (hτ 10 _ rfl)) ht⟩,
        trivial⟩, rfl, rfl, rfl⟩)
      rfl (bx' := [(2, .var _)]) rfl (n' := 29) rfl (⟨[2, 3, 9, 10, 11, 12], [(2, _), (3, _), (9, _), (10, _), (11, _), (12, _)], [(2, .var _)], 29, rfl, rfl, rfl, ?_⟩)
    refine W.seq ?_
    refine W.condD rfl (fun hc12 => ?_) (fun hc12 => ?_)
    · refine W.skip ?_
      refine W.seq ?_
      refine W.block ?_
      refine W.seq ?_
      refine W.line (n := 6) (by decide) (its := [⟨13, _, true⟩, ⟨14, _, true⟩, ⟨15, _, true⟩]) (ks := []) (kk := []) (live := [2, 3, 9, 10, 11, 13, 15]) (env' := [(2, _), (3, _), (9, _), (10, _), (11, _), (13, _), (15, _)])
        (⟨Nat.le_of_ble_eq_true rfl, rfl,
          ⟨⟨rfl, rfl, fun _ τ hb ht hτ => R.mov (evt (hτ 11 _ rfl)) rfl ht⟩,
          ⟨⟨rfl, rfl, fun _ τ hb ht hτ => R.idxN (i) (SC.sl (hτ 9 _ rfl)) (evoI (evt (hτ 11 _ rfl))) rfl (by first | omega | (simp only [List.length_map, List.length_append, List.length_cons, List.length_nil, List.length_take, List.length_drop, List.length_replicate]; omega) | (simp; omega)) ht (by decide)⟩,
          ⟨⟨rfl, rfl, fun _ τ hb ht hτ => R.ldE (hτ 14 _ rfl) (SC.sl (hτ 9 _ rfl)) (map_get! (l := (rowA joinS l k)) (by first | omega | (simp only [List.length_map, List.length_append, List.length_cons, List.length_nil, List.length_take, List.length_drop, List.length_replicate]; omega) | (simp; omega))) rfl rfl rfl rfl ht⟩,
          trivial⟩⟩⟩, rfl, rfl, rfl⟩)
        rfl (bx' := [(2, .var _)]) rfl (n' := 29) rfl (⟨rfl, _, R.alloc rfl (Nat.le_of_ble_eq_true rfl), ⟨rfl, _, R.asg (evt (show Sg.get _ 13 = some _ from rfl)) rfl (Nat.le_of_ble_eq_true rfl), ⟨rfl, _, R.stZ (show Sg.get _ 5 = some _ from rfl) (show Sg.box _ 5 = some _ from rfl) rfl (evt (show Sg.get _ 15 = some _ from rfl)) (by rfl) (by rfl) (by rfl) (by rfl) rfl, ⟨[2, 3, 4, 5, 9, 10, 11], [(2, _), (3, _), (4, _), (5, _), (9, _), (10, _), (11, _)], [(5, .var _), (2, .var _)], 29, rfl, rfl, rfl, ?_⟩⟩⟩⟩)
      refine W.seq ?_
      by_cases ho : i % 2 = 1
      · refine W.draw (m := 12) (an := [0, 1, 3, 7, 15, 15, 15, 79, 239, 495, 1023, 2047]) hP (by decide) rfl (its := [⟨16, _, true⟩, ⟨17, _, true⟩, ⟨18, _, true⟩, ⟨19, _, true⟩, ⟨20, _, true⟩, ⟨21, _, true⟩, ⟨22, _, true⟩, ⟨23, _, true⟩, ⟨24, _, true⟩, ⟨25, _, true⟩, ⟨26, _, true⟩, ⟨27, _, true⟩]) (ks := []) (kk := []) (live := [2, 3, 9, 10, 11, 27]) (env' := [(2, _), (3, _), (9, _), (10, _), (11, _), (27, _)])
          (⟨Nat.le_of_ble_eq_true rfl, rfl,
            ⟨⟨rfl, rfl, fun _ τ hb ht hτ => R.mov (evt (hτ 4 _ rfl)) rfl ht⟩,
            ⟨⟨rfl, rfl, fun _ τ hb ht hτ => R.remN (i) (2) (evt (hτ 16 _ rfl)) (show ev _ _ (.const (.int .i64 2)) = some (.int ((2 : Nat) : Int)) from rfl) (by first | omega | (simp only [List.length_map, List.length_append, List.length_cons, List.length_nil, List.length_take, List.length_drop, List.length_replicate]; omega) | (simp; omega)) ht⟩,
            ⟨⟨rfl, rfl, fun _ τ hb ht hτ => R.eqlN ((i % 2)) (1) (evt (hτ 17 _ rfl)) (show ev _ _ (.const (.int .i64 1)) = some (.int ((1 : Nat) : Int)) from rfl) ht⟩,
            ⟨⟨rfl, rfl, fun _ τ hb ht hτ => R.mov (evt (hτ 18 _ rfl)) rfl ht⟩,
            ⟨⟨rfl, ⟨_, 19, rfl, rfl, .inl ⟨_, rfl, gw (v := true) (decide_eq_true ho) rfl⟩⟩, fun _ τ hb ht hτ => R.ldP (hτ 5 _ rfl) (hb 5 _ rfl) rfl rfl rfl rfl ht⟩,
            ⟨⟨rfl, ⟨_, 19, rfl, rfl, .inl ⟨_, rfl, gw (v := true) (decide_eq_true ho) rfl⟩⟩, fun _ τ hb ht hτ => R.mov (evt (hτ 3 _ rfl)) rfl ht⟩,
            ⟨⟨rfl, ⟨_, 19, rfl, rfl, .inl ⟨_, rfl, gw (v := true) (decide_eq_true ho) rfl⟩⟩, fun _ τ hb ht hτ => R.mov (evt (hτ 4 _ rfl)) rfl ht⟩,
            ⟨⟨rfl, ⟨_, 19, rfl, rfl, .inl ⟨_, rfl, gw (v := true) (decide_eq_true ho) rfl⟩⟩, fun _ τ hb ht hτ => R.subN (i) (1) (evt (hτ 22 _ rfl)) (show ev _ _ (.const (.int .i64 1)) = some (.int ((1 : Nat) : Int)) from rfl) (by first | omega | (simp only [List.length_map, List.length_append, List.length_cons, List.length_nil, List.length_take, List.length_drop, List.length_replicate]; omega) | (simp; omega)) (by first | omega | (simp only [List.length_map, List.length_append, List.length_cons, List.length_nil, List.length_take, List.length_drop, List.length_replicate]; omega) | (simp; omega)) ht⟩,
            ⟨⟨rfl, ⟨_, 19, rfl, rfl, .inl ⟨_, rfl, gw (v := true) (decide_eq_true ho) rfl⟩⟩, fun _ τ hb ht hτ => R.idxN ((i - 1)) (SC.sl (hτ 21 _ rfl)) (evoI (evt (hτ 23 _ rfl))) rfl (by first | omega | (simp only [List.length_map, List.length_append, List.length_cons, List.length_nil, List.length_take, List.length_drop, List.length_replicate]; omega) | (simp; omega)) ht (by decide)⟩,
            ⟨⟨rfl, ⟨_, 19, rfl, rfl, .inl ⟨_, rfl, gw (v := true) (decide_eq_true ho) rfl⟩⟩, fun _ τ hb ht hτ => R.ldE (hτ 24 _ rfl) (SC.sl (hτ 21 _ rfl)) (map_get! (l := (rowA joinS l k)) (by first | omega | (simp only [List.length_map, List.length_append, List.length_cons, List.length_nil, List.length_take, List.length_drop, List.length_replicate]; omega) | (simp; omega))) rfl rfl rfl rfl ht⟩,
            ⟨⟨rfl, ⟨_, 19, rfl, rfl, .inl ⟨_, rfl, gw (v := true) (decide_eq_true ho) rfl⟩⟩, fun _ τ hb ht hτ => R.eqAE (evt (hτ 20 _ rfl)) (evt (hτ 25 _ rfl)) ht⟩,
            ⟨⟨rfl, rfl, fun _ τ hb ht hτ => R.pickT (evt (hτ 19 _ rfl)) (decide_eq_true ho) (evt (hτ 26 _ rfl)) rfl ht⟩,
            trivial⟩⟩⟩⟩⟩⟩⟩⟩⟩⟩⟩⟩, rfl, rfl, rfl⟩)
          rfl (bx' := [(5, .var _), (2, .var _)]) rfl (n' := 29) rfl (⟨[2, 3, 9, 10, 11, 27], [(2, _), (3, _), (9, _), (10, _), (11, _), (27, _)], [(5, .var _), (2, .var _)], 29, rfl, rfl, rfl, ?_⟩)
        refine W.cond rfl (fun hc27 => ?_) (fun hc27 => ?_)
        · refine W.seq ?_
          refine W.dropB [2] (bx' := [(2, .var _)]) rfl rfl rfl (pin_sub hD rfl) ?_
          refine W.line (n := 1) (by decide) (its := []) (ks := []) (kk := []) (live := [2]) (env' := [(2, _)])
            (⟨Nat.le_of_ble_eq_true rfl, rfl,
              trivial, rfl, rfl, rfl⟩)
            rfl (bx' := [(2, .var _)]) rfl (n' := 29) rfl (⟨rfl, _, R.stZ (show Sg.get _ 2 = some _ from rfl) (show Sg.box _ 2 = some _ from rfl) rfl (show ev _ _ (.const (.bool true)) = some (.bool true) from rfl) (by rfl) (by rfl) (by rfl) (by rfl) rfl, ⟨[2], [(2, _)], [(2, .var _)], 29, rfl, rfl, rfl, ?_⟩⟩)
          refine W.ret ?_
          exact ⟨.inr ⟨.inl rfl, rfl, rfl, dblS_true hk (rowDbl_true ho (by omega) hc27)⟩, ⟨.bool _, rfl, trivial⟩⟩
        · refine W.skip ?_
          refine W.dropB [2] (bx' := [(2, .var _)]) rfl rfl rfl (pin_sub hD rfl) ?_
          refine W.line (n := 2) (by decide) (its := [⟨28, _, true⟩, ⟨11, _, true⟩]) (ks := []) (kk := []) (live := [2, 3, 9, 10, 11]) (env' := [(2, _), (3, _), (9, _), (10, _), (11, _)])
            (⟨Nat.le_of_ble_eq_true rfl, rfl,
              ⟨⟨rfl, rfl, fun _ τ hb ht hτ => R.addN (i) (1) (evt (hτ 11 _ rfl)) (show ev _ _ (.const (.int .i64 1)) = some (.int ((1 : Nat) : Int)) from rfl) (by first | omega | (simp only [List.length_map, List.length_append, List.length_cons, List.length_nil, List.length_take, List.length_drop, List.length_replicate]; omega) | (simp; omega)) ht⟩,
              ⟨⟨rfl, rfl, fun _ τ hb ht hτ => R.mov (evt (hτ 28 _ rfl)) rfl ht⟩,
              trivial⟩⟩, rfl, rfl, rfl⟩)
            rfl (bx' := [(2, .var _)]) rfl (n' := 29) rfl (⟨[2, 3, 9, 10, 11], [(2, _), (3, _), (9, _), (10, _), (11, _)], [(2, .var _)], 29, rfl, rfl, rfl, ?_⟩)
          exact ⟨⟨(i + 1), ⟨by omega, fun j hj => (by rcases Nat.lt_or_ge (2 * j + 1) i with h1 | h1; exact hi.2 j h1; obtain rfl : i = 2 * j + 1 := (by omega); first | exact hc27 | (exfalso; omega))⟩⟩, rfl, (by simp only []; omega)⟩
      · refine W.draw (m := 12) (an := [0, 1, 3, 7, 15, 15, 15, 79, 239, 495, 1023, 2047]) hP (by decide) rfl (its := [⟨16, _, true⟩, ⟨17, _, true⟩, ⟨18, _, true⟩, ⟨19, _, true⟩, ⟨20, .dead, false⟩, ⟨21, .dead, false⟩, ⟨22, .dead, false⟩, ⟨23, .dead, false⟩, ⟨24, .dead, false⟩, ⟨25, .dead, false⟩, ⟨26, .dead, false⟩, ⟨27, _, true⟩]) (ks := []) (kk := []) (live := [2, 3, 9, 10, 11, 27]) (env' := [(2, _), (3, _), (9, _), (10, _), (11, _), (27, _)])
          (⟨Nat.le_of_ble_eq_true rfl, rfl,
            ⟨⟨rfl, rfl, fun _ τ hb ht hτ => R.mov (evt (hτ 4 _ rfl)) rfl ht⟩,
            ⟨⟨rfl, rfl, fun _ τ hb ht hτ => R.remN (i) (2) (evt (hτ 16 _ rfl)) (show ev _ _ (.const (.int .i64 2)) = some (.int ((2 : Nat) : Int)) from rfl) (by first | omega | (simp only [List.length_map, List.length_append, List.length_cons, List.length_nil, List.length_take, List.length_drop, List.length_replicate]; omega) | (simp; omega)) ht⟩,
            ⟨⟨rfl, rfl, fun _ τ hb ht hτ => R.eqlN ((i % 2)) (1) (evt (hτ 17 _ rfl)) (show ev _ _ (.const (.int .i64 1)) = some (.int ((1 : Nat) : Int)) from rfl) ht⟩,
            ⟨⟨rfl, rfl, fun _ τ hb ht hτ => R.mov (evt (hτ 18 _ rfl)) rfl ht⟩,
            ⟨⟨rfl, ⟨_, 19, rfl, rfl, .inl ⟨_, rfl, gw (v := false) (decide_eq_false ho) rfl⟩⟩, fun h => absurd h (by decide)⟩,
            ⟨⟨rfl, ⟨_, 19, rfl, rfl, .inl ⟨_, rfl, gw (v := false) (decide_eq_false ho) rfl⟩⟩, fun h => absurd h (by decide)⟩,
            ⟨⟨rfl, ⟨_, 19, rfl, rfl, .inl ⟨_, rfl, gw (v := false) (decide_eq_false ho) rfl⟩⟩, fun h => absurd h (by decide)⟩,
            ⟨⟨rfl, ⟨_, 19, rfl, rfl, .inl ⟨_, rfl, gw (v := false) (decide_eq_false ho) rfl⟩⟩, fun h => absurd h (by decide)⟩,
            ⟨⟨rfl, ⟨_, 19, rfl, rfl, .inl ⟨_, rfl, gw (v := false) (decide_eq_false ho) rfl⟩⟩, fun h => absurd h (by decide)⟩,
            ⟨⟨rfl, ⟨_, 19, rfl, rfl, .inl ⟨_, rfl, gw (v := false) (decide_eq_false ho) rfl⟩⟩, fun h => absurd h (by decide)⟩,
            ⟨⟨rfl, ⟨_, 19, rfl, rfl, .inl ⟨_, rfl, gw (v := false) (decide_eq_false ho) rfl⟩⟩, fun h => absurd h (by decide)⟩,
            ⟨⟨rfl, rfl, fun _ τ hb ht hτ => R.pickF (evt (hτ 19 _ rfl)) (decide_eq_false ho) (show ev _ _ (.const (.bool false)) = some (.bool false) from rfl) rfl ht⟩,
            trivial⟩⟩⟩⟩⟩⟩⟩⟩⟩⟩⟩⟩, rfl, rfl, rfl⟩)
          rfl (bx' := [(5, .var _), (2, .var _)]) rfl (n' := 29) rfl (⟨[2, 3, 9, 10, 11, 27], [(2, _), (3, _), (9, _), (10, _), (11, _), (27, _)], [(5, .var _), (2, .var _)], 29, rfl, rfl, rfl, ?_⟩)
        refine W.condF rfl (rfl) ?_
        refine W.skip ?_
        refine W.dropB [2] (bx' := [(2, .var _)]) rfl rfl rfl (pin_sub hD rfl) ?_
        refine W.line (n := 2) (by decide) (its := [⟨28, _, true⟩, ⟨11, _, true⟩]) (ks := []) (kk := []) (live := [2, 3, 9, 10, 11]) (env' := [(2, _), (3, _), (9, _), (10, _), (11, _)])
          (⟨Nat.le_of_ble_eq_true rfl, rfl,
            ⟨⟨rfl, rfl, fun _ τ hb ht hτ => R.addN (i) (1) (evt (hτ 11 _ rfl)) (show ev _ _ (.const (.int .i64 1)) = some (.int ((1 : Nat) : Int)) from rfl) (by first | omega | (simp only [List.length_map, List.length_append, List.length_cons, List.length_nil, List.length_take, List.length_drop, List.length_replicate]; omega) | (simp; omega)) ht⟩,
            ⟨⟨rfl, rfl, fun _ τ hb ht hτ => R.mov (evt (hτ 28 _ rfl)) rfl ht⟩,
            trivial⟩⟩, rfl, rfl, rfl⟩)
          rfl (bx' := [(2, .var _)]) rfl (n' := 29) rfl (⟨[2, 3, 9, 10, 11], [(2, _), (3, _), (9, _), (10, _), (11, _)], [(2, .var _)], 29, rfl, rfl, rfl, ?_⟩)
        exact ⟨⟨(i + 1), ⟨by omega, fun j hj => (by rcases Nat.lt_or_ge (2 * j + 1) i with h1 | h1; exact hi.2 j h1; obtain rfl : i = 2 * j + 1 := (by omega); first | exact hc27 | (exfalso; omega))⟩⟩, rfl, (by simp only []; omega)⟩
    · obtain rfl : i = (rowA joinS l k).length := by omega
      refine W.exit ?_
      exact ⟨.inl ⟨rfl, rfl, fun j hj => (by rcases Nat.lt_or_ge j k with h1 | h1; exact hJ j h1; obtain rfl : j = k := (by omega); exact rowDbl_false (fun j hj => hi.2 j hj))⟩, ⟨.bool _, rfl, trivial⟩⟩
  · intro hJ
    have hd := dblS_false hJ
    refine V.of fun C hC hD => ?_
    refine W.seq ?_
    refine W.line (n := 1) (by decide) (its := []) (ks := []) (kk := []) (live := [2]) (env' := [(2, _)])
      (⟨Nat.le_of_ble_eq_true rfl, rfl,
        trivial, rfl, rfl, rfl⟩)
      rfl (bx' := [(2, .var _)]) rfl (n' := 29) rfl (⟨rfl, _, R.stZ (show Sg.get _ 2 = some _ from rfl) (show Sg.box _ 2 = some _ from rfl) rfl (show ev _ _ (.const (.bool false)) = some (.bool false) from rfl) (by rfl) (by rfl) (by rfl) (by rfl) rfl, ⟨[2], [(2, _)], [(2, .var _)], 29, rfl, rfl, rfl, ?_⟩⟩)
    refine W.ret ?_
    exact Ends.one' (.inr rfl) rfl (by rw [hd]) rfl rfl (show LdT _ 4 1 false from inferInstance)
  · rintro e bx he ⟨rfl, rfl, hd⟩
    exact Ends.one' (.inr rfl) rfl (by rw [hd]) rfl rfl (show LdT _ 4 1 false from inferInstance)

end Go.Sx
