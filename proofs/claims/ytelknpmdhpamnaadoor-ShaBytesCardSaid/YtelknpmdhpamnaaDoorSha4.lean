/- Proved: what functions of the given program compute (used by the theorem of this claim). Conditions: none but those that each theorem states. -/
import Derived.Test.YtelknpmdhpamnaaDoorSha3
import Derived.Test.YtelknpmdhpamnaaDoorShaLaw2
set_option linter.unusedVariables false
set_option linter.unusedSimpArgs false
set_option linter.unnecessarySimpa false
namespace Go.Sx
open Go.Proofs
theorem same_ok (a b : List UInt8) (ha : a.length ≤ 1073741824) : Fn Tryd.prog gl 14 [.sl none 1 (a.map D.u8), .sl none 1 (b.map D.u8)] (.bool (a == b)) := by
  refine Fn.of (n := 26) Tryd.func14 rfl rfl rfl (Nat.le_of_ble_eq_true rfl) fun C hC => ?_
  refine W.seq ?_
  refine W.line (n := 1) (by decide) (its := [⟨4, _, true⟩]) (ks := []) (kk := []) (live := [0, 1]) (env' := [(0, _), (1, _)])
    (⟨Nat.le_of_ble_eq_true rfl, rfl,
      ⟨⟨rfl, rfl, fun _ τ hb ht hτ => R.asg (show ev _ _ (.const (.bool false)) = some (.bool false) from rfl) rfl ht⟩,
      trivial⟩, rfl, rfl, rfl⟩)
    rfl (bx' := []) rfl (n' := 26) rfl (⟨[0, 1], [(0, _), (1, _)], [], 26, rfl, rfl, rfl, ?_⟩)
  refine W.seq ?_
  refine W.seq ?_
  refine W.line (n := 5) (by decide) (its := [⟨6, _, true⟩, ⟨7, _, true⟩, ⟨8, _, true⟩, ⟨9, _, true⟩, ⟨10, _, true⟩]) (ks := []) (kk := []) (live := [0, 1, 10]) (env' := [(0, _), (1, _), (10, _)])
    (⟨Nat.le_of_ble_eq_true rfl, rfl,
      ⟨⟨rfl, rfl, fun _ τ hb ht hτ => R.mov (evt (hτ 0 _ rfl)) rfl ht⟩,
      ⟨⟨rfl, rfl, fun _ τ hb ht hτ => R.lenE (SC.sl (hτ 6 _ rfl)) (List.length_map _) ht⟩,
      ⟨⟨rfl, rfl, fun _ τ hb ht hτ => R.mov (evt (hτ 1 _ rfl)) rfl ht⟩,
      ⟨⟨rfl, rfl, fun _ τ hb ht hτ => R.lenE (SC.sl (hτ 8 _ rfl)) (List.length_map _) ht⟩,
      ⟨⟨rfl, rfl, fun _ τ hb ht hτ => R.neqN (a.length) (b.length) (evt (hτ 7 _ rfl)) (evt (hτ 9 _ rfl)) ht⟩,
      trivial⟩⟩⟩⟩⟩, rfl, rfl, rfl⟩)
    rfl (bx' := []) rfl (n' := 26) rfl (⟨[0, 1, 10], [(0, _), (1, _), (10, _)], [], 26, rfl, rfl, rfl, ?_⟩)
  refine W.condD rfl (fun hc10 => ?_) (fun hc10 => ?_)
  · refine W.seq ?_
    refine W.line (n := 1) (by decide) (its := [⟨4, _, true⟩]) (ks := []) (kk := []) (live := [4]) (env' := [(4, _)])
      (⟨Nat.le_of_ble_eq_true rfl, rfl,
        ⟨⟨rfl, rfl, fun _ τ hb ht hτ => R.asg (show ev _ _ (.const (.bool false)) = some (.bool false) from rfl) rfl ht⟩,
        trivial⟩, rfl, rfl, rfl⟩)
      rfl (bx' := []) rfl (n' := 26) rfl (⟨[4], [(4, _)], [], 26, rfl, rfl, rfl, ?_⟩)
    refine W.ret ?_
    exact Ends.one' (.inr rfl) rfl (by have := hc10; congr 1; symm; rw [beq_eq_false_iff_ne]; rintro rfl; exact this rfl) rfl rfl trivial
  · refine W.skip ?_
    refine W.seq ?_
    refine W.seq ?_
    refine W.line (n := 1) (by decide) (its := [⟨5, _, true⟩]) (ks := []) (kk := []) (live := [0, 1, 5]) (env' := [(0, _), (1, _), (5, _)])
      (⟨Nat.le_of_ble_eq_true rfl, rfl,
        ⟨⟨rfl, rfl, fun _ τ hb ht hτ => R.asg (show ev _ _ (.const (.int .i64 0)) = some (.int ((0 : Nat) : Int)) from rfl) rfl ht⟩,
        trivial⟩, rfl, rfl, rfl⟩)
      rfl (bx' := []) rfl (n' := 26) rfl (⟨[0, 1, 5], [(0, _), (1, _), (5, _)], [], 26, rfl, rfl, rfl, ?_⟩)
    refine W.block ?_
    refine W.loop (α := {q__ : Nat // q__ ≤ a.length ∧ ∀ j, j < q__ → a[j]! = b[j]!}) (fun q__ => ⟨26, [(0, .sl none 1 (a.map D.u8)), (1, .sl none 1 (b.map D.u8)), (5, .int ((q__.1 : Nat) : Int))], []⟩) (fun q__ => a.length - q__.1) ⟨(0), ⟨Nat.zero_le _, fun j hj => absurd hj (Nat.not_lt_zero j)⟩⟩ rfl ?_
    rintro ⟨i, ⟨hi, hall⟩⟩
    show W _ _ _ _ ⟨26, [(0, .sl none 1 (a.map D.u8)), (1, .sl none 1 (b.map D.u8)), (5, .int ((i : Nat) : Int))], []⟩
    refine W.seq ?_
    refine W.seq ?_
    refine W.line (n := 4) (by decide) (its := [⟨11, _, true⟩, ⟨12, _, true⟩, ⟨13, _, true⟩, ⟨14, _, true⟩]) (ks := []) (kk := []) (live := [0, 1, 5, 14]) (env' := [(0, _), (1, _), (5, _), (14, _)])
      (⟨Nat.le_of_ble_eq_true rfl, rfl,
        ⟨⟨rfl, rfl, fun _ τ hb ht hτ => R.mov (evt (hτ 5 _ rfl)) rfl ht⟩,
        ⟨⟨rfl, rfl, fun _ τ hb ht hτ => R.mov (evt (hτ 0 _ rfl)) rfl ht⟩,
        ⟨⟨rfl, rfl, fun _ τ hb ht hτ => R.lenE (SC.sl (hτ 12 _ rfl)) (List.length_map _) ht⟩,
        ⟨⟨rfl, rfl, fun _ τ hb ht hτ => R.lssN (i) (a.length) (evt (hτ 11 _ rfl)) (evt (hτ 13 _ rfl)) ht⟩,
        trivial⟩⟩⟩⟩, rfl, rfl, rfl⟩)
      rfl (bx' := []) rfl (n' := 26) rfl (⟨[0, 1, 5, 14], [(0, _), (1, _), (5, _), (14, _)], [], 26, rfl, rfl, rfl, ?_⟩)
    refine W.condD rfl (fun hc14 => ?_) (fun hc14 => ?_)
    · refine W.skip ?_
      refine W.seq ?_
      refine W.block ?_
      refine W.seq ?_
      refine W.draw (m := 9) (an := [0, 0, 3, 7, 0, 0, 48, 112, 255]) hP (by decide) rfl (its := [⟨17, _, true⟩, ⟨18, _, true⟩, ⟨19, _, true⟩, ⟨20, _, true⟩, ⟨21, _, true⟩, ⟨22, _, true⟩, ⟨23, _, true⟩, ⟨24, _, true⟩, ⟨25, _, true⟩]) (ks := []) (kk := []) (live := [0, 1, 5, 25]) (env' := [(0, _), (1, _), (5, _), (25, _)])
        (⟨Nat.le_of_ble_eq_true rfl, rfl,
          ⟨⟨rfl, rfl, fun _ τ hb ht hτ => R.mov (evt (hτ 0 _ rfl)) rfl ht⟩,
          ⟨⟨rfl, rfl, fun _ τ hb ht hτ => R.mov (evt (hτ 5 _ rfl)) rfl ht⟩,
          ⟨⟨rfl, rfl, fun _ τ hb ht hτ => R.idxN (i) (SC.sl (hτ 17 _ rfl)) (evoI (evt (hτ 18 _ rfl))) rfl (by first | omega | (simp only [List.length_map, List.length_append, List.length_cons, List.length_nil, List.length_take, List.length_drop, List.length_replicate]; omega) | (simp; omega)) ht (by decide)⟩,
          ⟨⟨rfl, rfl, fun _ τ hb ht hτ => R.ldE (hτ 19 _ rfl) (SC.sl (hτ 17 _ rfl)) (map_get! (l := a) (by first | omega | (simp only [List.length_map, List.length_append, List.length_cons, List.length_nil, List.length_take, List.length_drop, List.length_replicate]; omega) | (simp; omega))) rfl rfl rfl rfl ht⟩,
          ⟨⟨rfl, rfl, fun _ τ hb ht hτ => R.mov (evt (hτ 1 _ rfl)) rfl ht⟩,
          ⟨⟨rfl, rfl, fun _ τ hb ht hτ => R.mov (evt (hτ 5 _ rfl)) rfl ht⟩,
          ⟨⟨rfl, rfl, fun _ τ hb ht hτ => R.idxN (i) (SC.sl (hτ 21 _ rfl)) (evoI (evt (hτ 22 _ rfl))) rfl (by first | omega | (simp only [List.length_map, List.length_append, List.length_cons, List.length_nil, List.length_take, List.length_drop, List.length_replicate]; omega) | (simp; omega)) ht (by decide)⟩,
          ⟨⟨rfl, rfl, fun _ τ hb ht hτ => R.ldE (hτ 23 _ rfl) (SC.sl (hτ 21 _ rfl)) (map_get! (l := b) (by first | omega | (simp only [List.length_map, List.length_append, List.length_cons, List.length_nil, List.length_take, List.length_drop, List.length_replicate]; omega) | (simp; omega))) rfl rfl rfl rfl ht⟩,
          ⟨⟨rfl, rfl, fun _ τ hb ht hτ => R.bin (evt (hτ 20 _ rfl)) (evt (hτ 24 _ rfl)) rfl trivial ht⟩,
          trivial⟩⟩⟩⟩⟩⟩⟩⟩⟩, rfl, rfl, rfl⟩)
        rfl (bx' := []) rfl (n' := 26) rfl (⟨[0, 1, 5, 25], [(0, _), (1, _), (5, _), (25, _)], [], 26, rfl, rfl, rfl, ?_⟩)
      refine W.cond rfl (fun hc25 => ?_) (fun hc25 => ?_)
      · refine W.seq ?_
        refine W.line (n := 1) (by decide) (its := [⟨4, _, true⟩]) (ks := []) (kk := []) (live := [4]) (env' := [(4, _)])
          (⟨Nat.le_of_ble_eq_true rfl, rfl,
            ⟨⟨rfl, rfl, fun _ τ hb ht hτ => R.asg (show ev _ _ (.const (.bool false)) = some (.bool false) from rfl) rfl ht⟩,
            trivial⟩, rfl, rfl, rfl⟩)
          rfl (bx' := []) rfl (n' := 26) rfl (⟨[4], [(4, _)], [], 26, rfl, rfl, rfl, ?_⟩)
        refine W.ret ?_
        exact Ends.one' (.inr rfl) rfl (by congr 1; symm; rw [beq_eq_false_iff_ne]; rintro rfl; simp at hc25) rfl rfl trivial
      · refine W.skip ?_
        refine W.line (n := 3) (by decide) (its := [⟨15, _, true⟩, ⟨16, _, true⟩, ⟨5, _, true⟩]) (ks := []) (kk := []) (live := [0, 1, 5]) (env' := [(0, _), (1, _), (5, _)])
          (⟨Nat.le_of_ble_eq_true rfl, rfl,
            ⟨⟨rfl, rfl, fun _ τ hb ht hτ => R.mov (evt (hτ 5 _ rfl)) rfl ht⟩,
            ⟨⟨rfl, rfl, fun _ τ hb ht hτ => R.addN (i) (1) (evt (hτ 15 _ rfl)) (show ev _ _ (.const (.int .i64 1)) = some (.int ((1 : Nat) : Int)) from rfl) (by first | omega | (simp only [List.length_map, List.length_append, List.length_cons, List.length_nil, List.length_take, List.length_drop, List.length_replicate]; omega) | (simp; omega)) ht⟩,
            ⟨⟨rfl, rfl, fun _ τ hb ht hτ => R.asg (evt (hτ 16 _ rfl)) rfl ht⟩,
            trivial⟩⟩⟩, rfl, rfl, rfl⟩)
          rfl (bx' := []) rfl (n' := 26) rfl (⟨[0, 1, 5], [(0, _), (1, _), (5, _)], [], 26, rfl, rfl, rfl, ?_⟩)
        exact ⟨⟨(i + 1), ⟨by omega, fun j hj => by rcases Nat.lt_or_ge j i with h | h; exact hall j h; obtain rfl : j = i := (by omega); simpa using hc25⟩⟩, rfl, (by simp only []; omega)⟩
    · refine W.exit ?_
      refine W.seq ?_
      refine W.line (n := 1) (by decide) (its := [⟨4, _, true⟩]) (ks := []) (kk := []) (live := [4]) (env' := [(4, _)])
        (⟨Nat.le_of_ble_eq_true rfl, rfl,
          ⟨⟨rfl, rfl, fun _ τ hb ht hτ => R.asg (show ev _ _ (.const (.bool true)) = some (.bool true) from rfl) rfl ht⟩,
          trivial⟩, rfl, rfl, rfl⟩)
        rfl (bx' := []) rfl (n' := 26) rfl (⟨[4], [(4, _)], [], 26, rfl, rfl, rfl, ?_⟩)
      refine W.ret ?_
      exact Ends.one' (.inr rfl) rfl (by congr 1; symm; rw [beq_iff_eq]; exact same_law a b (by omega) i hi (by omega) hall) rfl rfl trivial

theorem works_ok : Fn Tryd.prog gl 8 [] (.bool true) := by
  refine Fn.of (n := 58) Tryd.func8 rfl rfl rfl (Nat.le_of_ble_eq_true rfl) fun C hC => ?_
  have hl0 := sumS_len []
  have hl1 := sumS_len [97, 98, 99]
  have hl2 := sumS_len (sumS [104, 101, 108, 108, 111])
  have hl3 : (twiceS [104, 101, 108, 108, 111]).length = 32 := hl2
  refine W.seq ?_
  refine W.line (n := 1) (by decide) (its := [⟨0, _, true⟩]) (ks := []) (kk := []) (live := []) (env' := [])
    (⟨Nat.le_of_ble_eq_true rfl, rfl,
      ⟨⟨rfl, rfl, fun _ τ hb ht hτ => R.asg (show ev _ _ (.const (.bool false)) = some (.bool false) from rfl) rfl ht⟩,
      trivial⟩, rfl, rfl, rfl⟩)
    rfl (bx' := []) rfl (n' := 58) rfl (⟨[], [], [], 58, rfl, rfl, rfl, ?_⟩)
  refine W.seq ?_
  refine W.line (n := 3) (by decide) (its := [⟨5, _, true⟩]) (ks := []) (kk := []) (live := [5]) (env' := [(5, _)])
    (⟨Nat.le_of_ble_eq_true rfl, rfl,
      ⟨⟨rfl, rfl, fun _ τ hb ht hτ => R.callG hC (sum_ok [] (by decide)) (Bors.cons (Bor.nils (show ev _ _ (.const (.slice none 0 0)) = some (.nils) from rfl)) Bors.nil) (FrsR.one (frs_hash _)) ht⟩,
      trivial⟩, rfl, rfl, rfl⟩)
    rfl (bx' := []) rfl (n' := 58) rfl (⟨rfl, _, R.alloc rfl (Nat.le_of_ble_eq_true rfl), ⟨rfl, _, R.stZ (show Sg.get _ 1 = some _ from rfl) (show Sg.box _ 1 = some _ from rfl) rfl (evt (show Sg.get _ 5 = some _ from rfl)) (by rfl) (by rfl) (by rfl) (by rfl) rfl, ⟨[1], [(1, _)], [(1, .var _)], 58, rfl, rfl, rfl, ?_⟩⟩⟩)
  refine W.seq ?_
  refine W.line (n := 5) (by decide) (its := [⟨6, _, true⟩, ⟨7, _, true⟩, ⟨8, _, true⟩]) (ks := [(1, 6)]) (kk := [(1, 6)]) (live := [1, 8]) (env' := [(1, _), (8, _)])
    (⟨Nat.le_of_ble_eq_true rfl, rfl,
      ⟨⟨rfl, rfl, fun _ τ hb ht hτ => R.bslE (z := 1) (.cons (show ev _ _ (.const (.int .u8 97)) = some (.u8 97) from rfl) (.cons (show ev _ _ (.const (.int .u8 98)) = some (.u8 98) from rfl) (.cons (show ev _ _ (.const (.int .u8 99)) = some (.u8 99) from rfl) .nil))) ⟨⟨rfl, rfl, rfl⟩, ⟨⟨rfl, rfl, rfl⟩, ⟨⟨rfl, rfl, rfl⟩, trivial⟩⟩⟩ rfl ht (by decide)⟩,
      ⟨⟨rfl, rfl, fun _ τ hb ht hτ => R.cvF (hτ 6 _ rfl) (fun h => by cases h) (pur_lit rfl) ht (by decide)⟩,
      ⟨⟨rfl, rfl, fun _ τ hb ht hτ => R.callG hC (sum_ok [97, 98, 99] (by decide)) (Bors.cons (Bor.pur (evt (hτ 7 _ rfl)) rfl rfl) Bors.nil) (FrsR.one (frs_hash _)) ht⟩,
      trivial⟩⟩⟩, rfl, rfl, rfl⟩)
    rfl (bx' := [(1, .var _)]) rfl (n' := 58) rfl (⟨rfl, _, R.alloc rfl (Nat.le_of_ble_eq_true rfl), ⟨rfl, _, R.stZ (show Sg.get _ 2 = some _ from rfl) (show Sg.box _ 2 = some _ from rfl) rfl (evt (show Sg.get _ 8 = some _ from rfl)) (by rfl) (by rfl) (by rfl) (by rfl) rfl, ⟨[1, 2], [(1, _), (2, _)], [(2, .var _), (1, .var _)], 58, rfl, rfl, rfl, ?_⟩⟩⟩)
  refine W.seq ?_
  refine W.line (n := 5) (by decide) (its := [⟨9, _, true⟩, ⟨10, _, true⟩, ⟨11, _, true⟩]) (ks := [(1, 9)]) (kk := [(1, 9)]) (live := [1, 2, 11]) (env' := [(1, _), (2, _), (11, _)])
    (⟨Nat.le_of_ble_eq_true rfl, rfl,
      ⟨⟨rfl, rfl, fun _ τ hb ht hτ => R.bslE (z := 1) (.cons (show ev _ _ (.const (.int .u8 104)) = some (.u8 104) from rfl) (.cons (show ev _ _ (.const (.int .u8 101)) = some (.u8 101) from rfl) (.cons (show ev _ _ (.const (.int .u8 108)) = some (.u8 108) from rfl) (.cons (show ev _ _ (.const (.int .u8 108)) = some (.u8 108) from rfl) (.cons (show ev _ _ (.const (.int .u8 111)) = some (.u8 111) from rfl) .nil))))) ⟨⟨rfl, rfl, rfl⟩, ⟨⟨rfl, rfl, rfl⟩, ⟨⟨rfl, rfl, rfl⟩, ⟨⟨rfl, rfl, rfl⟩, ⟨⟨rfl, rfl, rfl⟩, trivial⟩⟩⟩⟩⟩ rfl ht (by decide)⟩,
      ⟨⟨rfl, rfl, fun _ τ hb ht hτ => R.cvF (hτ 9 _ rfl) (fun h => by cases h) (pur_lit rfl) ht (by decide)⟩,
      ⟨⟨rfl, rfl, fun _ τ hb ht hτ => R.callG hC (twice_ok [104, 101, 108, 108, 111] (by decide)) (Bors.cons (Bor.pur (evt (hτ 10 _ rfl)) rfl rfl) Bors.nil) (FrsR.one (frs_hash _)) ht⟩,
      trivial⟩⟩⟩, rfl, rfl, rfl⟩)
    rfl (bx' := [(2, .var _), (1, .var _)]) rfl (n' := 58) rfl (⟨rfl, _, R.alloc rfl (Nat.le_of_ble_eq_true rfl), ⟨rfl, _, R.stZ (show Sg.get _ 3 = some _ from rfl) (show Sg.box _ 3 = some _ from rfl) rfl (evt (show Sg.get _ 11 = some _ from rfl)) (by rfl) (by rfl) (by rfl) (by rfl) rfl, ⟨[1, 2, 3], [(1, _), (2, _), (3, _)], [(3, .var _), (2, .var _), (1, .var _)], 58, rfl, rfl, rfl, ?_⟩⟩⟩)
  refine W.seq ?_
  refine W.line (n := 9) (by decide) (its := [⟨12, _, true⟩, ⟨13, _, true⟩, ⟨14, _, true⟩, ⟨15, _, true⟩, ⟨16, _, true⟩, ⟨17, _, true⟩, ⟨18, _, true⟩]) (ks := [(2, 13), (5, 16)]) (kk := [(2, 13), (5, 16)]) (live := [1, 2, 3, 18]) (env' := [(1, _), (2, _), (3, _), (18, _)])
    (⟨Nat.le_of_ble_eq_true rfl, rfl,
      ⟨⟨rfl, rfl, fun _ τ hb ht hτ => R.callG hC (begin_ok) Bors.nil (FrsR.one (frs_st _)) ht⟩,
      ⟨⟨rfl, rfl, fun _ τ hb ht hτ => R.bslE (z := 1) (.cons (show ev _ _ (.const (.int .u8 97)) = some (.u8 97) from rfl) (.cons (show ev _ _ (.const (.int .u8 98)) = some (.u8 98) from rfl) .nil)) ⟨⟨rfl, rfl, rfl⟩, ⟨⟨rfl, rfl, rfl⟩, trivial⟩⟩ rfl ht (by decide)⟩,
      ⟨⟨rfl, rfl, fun _ τ hb ht hτ => R.cvF (hτ 13 _ rfl) (fun h => by cases h) (pur_lit rfl) ht (by decide)⟩,
      ⟨⟨rfl, rfl, fun _ τ hb ht hτ => R.callG hC (add_ok ShaS.start [97, 98] ShaS.start_ok (by decide)) (Bors.cons (Bor.pur (evt (hτ 12 _ rfl)) rfl rfl) (Bors.cons (Bor.pur (evt (hτ 14 _ rfl)) rfl rfl) Bors.nil)) (FrsR.one (frs_st _)) ht⟩,
      ⟨⟨rfl, rfl, fun _ τ hb ht hτ => R.bslE (z := 1) (.cons (show ev _ _ (.const (.int .u8 99)) = some (.u8 99) from rfl) .nil) ⟨⟨rfl, rfl, rfl⟩, trivial⟩ rfl ht (by decide)⟩,
      ⟨⟨rfl, rfl, fun _ τ hb ht hτ => R.cvF (hτ 16 _ rfl) (fun h => by cases h) (pur_lit rfl) ht (by decide)⟩,
      ⟨⟨rfl, rfl, fun _ τ hb ht hτ => R.callG hC (add_ok _ [99] (addS_ok _ _ ShaS.start_ok) (by decide)) (Bors.cons (Bor.pur (evt (hτ 15 _ rfl)) rfl rfl) (Bors.cons (Bor.pur (evt (hτ 17 _ rfl)) rfl rfl) Bors.nil)) (FrsR.one (frs_st _)) ht⟩,
      trivial⟩⟩⟩⟩⟩⟩⟩, rfl, rfl, rfl⟩)
    rfl (bx' := [(3, .var _), (2, .var _), (1, .var _)]) rfl (n' := 58) rfl (⟨rfl, _, R.alloc rfl (Nat.le_of_ble_eq_true rfl), ⟨rfl, _, R.stZ (show Sg.get _ 4 = some _ from rfl) (show Sg.box _ 4 = some _ from rfl) rfl (evt (show Sg.get _ 18 = some _ from rfl)) (by rfl) (by rfl) (by rfl) (by rfl) rfl, ⟨[1, 2, 3, 4], [(1, _), (2, _), (3, _), (4, _)], [(4, .var _), (3, .var _), (2, .var _), (1, .var _)], 58, rfl, rfl, rfl, ?_⟩⟩⟩)
  refine W.seq ?_
  refine W.draw (m := 40) (an := (0 :: 1 :: 3 :: 7 :: 15 :: 31 :: 63 :: 127 :: 255 :: 511 :: 1023 :: 2047 :: 4095 :: 8191 :: 16383 :: 32767 :: 65535 :: 131071 :: 262143 :: 524287 :: 1048575 :: 2097151 :: 4194303 :: 8388607 :: 16777215 :: 33554431 :: 67108863 :: 134217727 :: 268435455 :: 536870911 :: 1073741823 :: 2147483647 :: 4294967295 :: 8589934591 :: 17179869183 :: 34359738367 :: 17179869183 :: 137438953471 :: 274877906943 :: 549755813887 :: [])) hP (by decide) rfl (its := (⟨19, _, true⟩ :: ⟨20, _, true⟩ :: ⟨21, _, true⟩ :: ⟨22, _, true⟩ :: ⟨23, _, true⟩ :: ⟨24, _, true⟩ :: ⟨25, _, true⟩ :: ⟨26, _, true⟩ :: ⟨27, _, true⟩ :: ⟨28, _, true⟩ :: ⟨29, _, true⟩ :: ⟨30, _, true⟩ :: ⟨31, _, true⟩ :: ⟨32, _, true⟩ :: ⟨33, _, true⟩ :: ⟨34, _, true⟩ :: ⟨35, _, true⟩ :: ⟨36, _, true⟩ :: ⟨37, _, true⟩ :: ⟨38, _, true⟩ :: ⟨39, _, true⟩ :: ⟨40, _, true⟩ :: ⟨41, _, true⟩ :: ⟨42, _, true⟩ :: ⟨43, _, true⟩ :: ⟨44, _, true⟩ :: ⟨45, _, true⟩ :: ⟨46, _, true⟩ :: ⟨47, _, true⟩ :: ⟨48, _, true⟩ :: ⟨49, _, true⟩ :: ⟨50, _, true⟩ :: ⟨51, _, true⟩ :: ⟨52, _, true⟩ :: ⟨53, _, true⟩ :: ⟨54, _, true⟩ :: ⟨55, _, true⟩ :: ⟨56, _, true⟩ :: ⟨57, _, true⟩ :: ⟨0, _, true⟩ :: [])) (ks := []) (kk := []) (live := [0]) (env' := [(0, _)])
    (⟨Nat.le_of_ble_eq_true rfl, rfl,
      ⟨⟨rfl, rfl, fun _ τ hb ht hτ => R.idxP (0) (hτ 1 _ rfl) (evoI (show ev _ _ (.const (.int .i64 0)) = some (.int ((0 : Nat) : Int)) from rfl)) rfl (by first | omega | (simp only [List.length_map, List.length_append, List.length_cons, List.length_nil, List.length_take, List.length_drop, List.length_replicate]; omega) | (simp; omega)) ht⟩,
      ⟨⟨rfl, rfl, fun _ τ hb ht hτ => R.ldP (hτ 19 _ rfl) (hb 1 _ rfl) (loc_arr (map_get! (l := (sumS [])) (by first | omega | (simp only [List.length_map, List.length_append, List.length_cons, List.length_nil, List.length_take, List.length_drop, List.length_replicate]; omega) | (simp; omega))) loc_nil (by first | omega | (simp only [List.length_map, List.length_append, List.length_cons, List.length_nil, List.length_take, List.length_drop, List.length_replicate]; omega) | (simp; omega))) rfl rfl rfl ht⟩,
      ⟨⟨rfl, rfl, fun _ τ hb ht hτ => R.bin (evt (hτ 20 _ rfl)) (show ev _ _ (.const (.int .u8 227)) = some (.u8 227) from rfl) rfl trivial ht⟩,
      ⟨⟨rfl, rfl, fun _ τ hb ht hτ => R.mov (evt (hτ 21 _ rfl)) rfl ht⟩,
      ⟨⟨rfl, ⟨_, 22, rfl, rfl, .inl ⟨_, rfl, gw (v := true) (wk0) rfl⟩⟩, fun _ τ hb ht hτ => R.idxP (31) (hτ 1 _ rfl) (evoI (show ev _ _ (.const (.int .i64 31)) = some (.int ((31 : Nat) : Int)) from rfl)) rfl (by first | omega | (simp only [List.length_map, List.length_append, List.length_cons, List.length_nil, List.length_take, List.length_drop, List.length_replicate]; omega) | (simp; omega)) ht⟩,
      ⟨⟨rfl, ⟨_, 22, rfl, rfl, .inl ⟨_, rfl, gw (v := true) (wk0) rfl⟩⟩, fun _ τ hb ht hτ => R.ldP (hτ 23 _ rfl) (hb 1 _ rfl) (loc_arr (map_get! (l := (sumS [])) (by first | omega | (simp only [List.length_map, List.length_append, List.length_cons, List.length_nil, List.length_take, List.length_drop, List.length_replicate]; omega) | (simp; omega))) loc_nil (by first | omega | (simp only [List.length_map, List.length_append, List.length_cons, List.length_nil, List.length_take, List.length_drop, List.length_replicate]; omega) | (simp; omega))) rfl rfl rfl ht⟩,
      ⟨⟨rfl, ⟨_, 22, rfl, rfl, .inl ⟨_, rfl, gw (v := true) (wk0) rfl⟩⟩, fun _ τ hb ht hτ => R.bin (evt (hτ 24 _ rfl)) (show ev _ _ (.const (.int .u8 85)) = some (.u8 85) from rfl) rfl trivial ht⟩,
      ⟨⟨rfl, rfl, fun _ τ hb ht hτ => R.pickT (evt (hτ 22 _ rfl)) (wk0) (evt (hτ 25 _ rfl)) rfl ht⟩,
      ⟨⟨rfl, rfl, fun _ τ hb ht hτ => R.mov (evt (hτ 26 _ rfl)) rfl ht⟩,
      ⟨⟨rfl, ⟨_, 27, rfl, rfl, .inl ⟨_, rfl, gw (v := true) (wk1) rfl⟩⟩, fun _ τ hb ht hτ => R.idxP (0) (hτ 2 _ rfl) (evoI (show ev _ _ (.const (.int .i64 0)) = some (.int ((0 : Nat) : Int)) from rfl)) rfl (by first | omega | (simp only [List.length_map, List.length_append, List.length_cons, List.length_nil, List.length_take, List.length_drop, List.length_replicate]; omega) | (simp; omega)) ht⟩,
      ⟨⟨rfl, ⟨_, 27, rfl, rfl, .inl ⟨_, rfl, gw (v := true) (wk1) rfl⟩⟩, fun _ τ hb ht hτ => R.ldP (hτ 28 _ rfl) (hb 2 _ rfl) (loc_arr (map_get! (l := (sumS [97, 98, 99])) (by first | omega | (simp only [List.length_map, List.length_append, List.length_cons, List.length_nil, List.length_take, List.length_drop, List.length_replicate]; omega) | (simp; omega))) loc_nil (by first | omega | (simp only [List.length_map, List.length_append, List.length_cons, List.length_nil, List.length_take, List.length_drop, List.length_replicate]; omega) | (simp; omega))) rfl rfl rfl ht⟩,
      ⟨⟨rfl, ⟨_, 27, rfl, rfl, .inl ⟨_, rfl, gw (v := true) (wk1) rfl⟩⟩, fun _ τ hb ht hτ => R.bin (evt (hτ 29 _ rfl)) (show ev _ _ (.const (.int .u8 186)) = some (.u8 186) from rfl) rfl trivial ht⟩,
      ⟨⟨rfl, rfl, fun _ τ hb ht hτ => R.pickT (evt (hτ 27 _ rfl)) (wk1) (evt (hτ 30 _ rfl)) rfl ht⟩,
      ⟨⟨rfl, rfl, fun _ τ hb ht hτ => R.mov (evt (hτ 31 _ rfl)) rfl ht⟩,
      ⟨⟨rfl, ⟨_, 32, rfl, rfl, .inl ⟨_, rfl, gw (v := true) (wk2) rfl⟩⟩, fun _ τ hb ht hτ => R.idxP (31) (hτ 2 _ rfl) (evoI (show ev _ _ (.const (.int .i64 31)) = some (.int ((31 : Nat) : Int)) from rfl)) rfl (by first | omega | (simp only [List.length_map, List.length_append, List.length_cons, List.length_nil, List.length_take, List.length_drop, List.length_replicate]; omega) | (simp; omega)) ht⟩,
      ⟨⟨rfl, ⟨_, 32, rfl, rfl, .inl ⟨_, rfl, gw (v := true) (wk2) rfl⟩⟩, fun _ τ hb ht hτ => R.ldP (hτ 33 _ rfl) (hb 2 _ rfl) (loc_arr (map_get! (l := (sumS [97, 98, 99])) (by first | omega | (simp only [List.length_map, List.length_append, List.length_cons, List.length_nil, List.length_take, List.length_drop, List.length_replicate]; omega) | (simp; omega))) loc_nil (by first | omega | (simp only [List.length_map, List.length_append, List.length_cons, List.length_nil, List.length_take, List.length_drop, List.length_replicate]; omega) | (simp; omega))) rfl rfl rfl ht⟩,
      ⟨⟨rfl, ⟨_, 32, rfl, rfl, .inl ⟨_, rfl, gw (v := true) (wk2) rfl⟩⟩, fun _ τ hb ht hτ => R.bin (evt (hτ 34 _ rfl)) (show ev _ _ (.const (.int .u8 173)) = some (.u8 173) from rfl) rfl trivial ht⟩,
      ⟨⟨rfl, rfl, fun _ τ hb ht hτ => R.pickT (evt (hτ 32 _ rfl)) (wk2) (evt (hτ 35 _ rfl)) rfl ht⟩,
      ⟨⟨rfl, rfl, fun _ τ hb ht hτ => R.mov (evt (hτ 36 _ rfl)) rfl ht⟩,
      ⟨⟨rfl, ⟨_, 37, rfl, rfl, .inl ⟨_, rfl, gw (v := true) (wk3) rfl⟩⟩, fun _ τ hb ht hτ => R.idxP (15) (hτ 2 _ rfl) (evoI (show ev _ _ (.const (.int .i64 15)) = some (.int ((15 : Nat) : Int)) from rfl)) rfl (by first | omega | (simp only [List.length_map, List.length_append, List.length_cons, List.length_nil, List.length_take, List.length_drop, List.length_replicate]; omega) | (simp; omega)) ht⟩,
      ⟨⟨rfl, ⟨_, 37, rfl, rfl, .inl ⟨_, rfl, gw (v := true) (wk3) rfl⟩⟩, fun _ τ hb ht hτ => R.ldP (hτ 38 _ rfl) (hb 2 _ rfl) (loc_arr (map_get! (l := (sumS [97, 98, 99])) (by first | omega | (simp only [List.length_map, List.length_append, List.length_cons, List.length_nil, List.length_take, List.length_drop, List.length_replicate]; omega) | (simp; omega))) loc_nil (by first | omega | (simp only [List.length_map, List.length_append, List.length_cons, List.length_nil, List.length_take, List.length_drop, List.length_replicate]; omega) | (simp; omega))) rfl rfl rfl ht⟩,
      ⟨⟨rfl, ⟨_, 37, rfl, rfl, .inl ⟨_, rfl, gw (v := true) (wk3) rfl⟩⟩, fun _ τ hb ht hτ => R.bin (evt (hτ 39 _ rfl)) (show ev _ _ (.const (.int .u8 35)) = some (.u8 35) from rfl) rfl trivial ht⟩,
      ⟨⟨rfl, rfl, fun _ τ hb ht hτ => R.pickT (evt (hτ 37 _ rfl)) (wk3) (evt (hτ 40 _ rfl)) rfl ht⟩,
      ⟨⟨rfl, rfl, fun _ τ hb ht hτ => R.mov (evt (hτ 41 _ rfl)) rfl ht⟩,
      ⟨⟨rfl, ⟨_, 42, rfl, rfl, .inl ⟨_, rfl, gw (v := true) (wk4) rfl⟩⟩, fun _ τ hb ht hτ => R.idxP (0) (hτ 3 _ rfl) (evoI (show ev _ _ (.const (.int .i64 0)) = some (.int ((0 : Nat) : Int)) from rfl)) rfl (by first | omega | (simp only [List.length_map, List.length_append, List.length_cons, List.length_nil, List.length_take, List.length_drop, List.length_replicate]; omega) | (simp; omega)) ht⟩,
      ⟨⟨rfl, ⟨_, 42, rfl, rfl, .inl ⟨_, rfl, gw (v := true) (wk4) rfl⟩⟩, fun _ τ hb ht hτ => R.ldP (hτ 43 _ rfl) (hb 3 _ rfl) (loc_arr (map_get! (l := (twiceS [104, 101, 108, 108, 111])) (by first | omega | (simp only [List.length_map, List.length_append, List.length_cons, List.length_nil, List.length_take, List.length_drop, List.length_replicate]; omega) | (simp; omega))) loc_nil (by first | omega | (simp only [List.length_map, List.length_append, List.length_cons, List.length_nil, List.length_take, List.length_drop, List.length_replicate]; omega) | (simp; omega))) rfl rfl rfl ht⟩,
      ⟨⟨rfl, ⟨_, 42, rfl, rfl, .inl ⟨_, rfl, gw (v := true) (wk4) rfl⟩⟩, fun _ τ hb ht hτ => R.bin (evt (hτ 44 _ rfl)) (show ev _ _ (.const (.int .u8 149)) = some (.u8 149) from rfl) rfl trivial ht⟩,
      ⟨⟨rfl, rfl, fun _ τ hb ht hτ => R.pickT (evt (hτ 42 _ rfl)) (wk4) (evt (hτ 45 _ rfl)) rfl ht⟩,
      ⟨⟨rfl, rfl, fun _ τ hb ht hτ => R.mov (evt (hτ 46 _ rfl)) rfl ht⟩,
      ⟨⟨rfl, ⟨_, 47, rfl, rfl, .inl ⟨_, rfl, gw (v := true) (wk5) rfl⟩⟩, fun _ τ hb ht hτ => R.idxP (31) (hτ 3 _ rfl) (evoI (show ev _ _ (.const (.int .i64 31)) = some (.int ((31 : Nat) : Int)) from rfl)) rfl (by first | omega | (simp only [List.length_map, List.length_append, List.length_cons, List.length_nil, List.length_take, List.length_drop, List.length_replicate]; omega) | (simp; omega)) ht⟩,
      ⟨⟨rfl, ⟨_, 47, rfl, rfl, .inl ⟨_, rfl, gw (v := true) (wk5) rfl⟩⟩, fun _ τ hb ht hτ => R.ldP (hτ 48 _ rfl) (hb 3 _ rfl) (loc_arr (map_get! (l := (twiceS [104, 101, 108, 108, 111])) (by first | omega | (simp only [List.length_map, List.length_append, List.length_cons, List.length_nil, List.length_take, List.length_drop, List.length_replicate]; omega) | (simp; omega))) loc_nil (by first | omega | (simp only [List.length_map, List.length_append, List.length_cons, List.length_nil, List.length_take, List.length_drop, List.length_replicate]; omega) | (simp; omega))) rfl rfl rfl ht⟩,
      ⟨⟨rfl, ⟨_, 47, rfl, rfl, .inl ⟨_, rfl, gw (v := true) (wk5) rfl⟩⟩, fun _ τ hb ht hτ => R.bin (evt (hτ 49 _ rfl)) (show ev _ _ (.const (.int .u8 80)) = some (.u8 80) from rfl) rfl trivial ht⟩,
      ⟨⟨rfl, rfl, fun _ τ hb ht hτ => R.pickT (evt (hτ 47 _ rfl)) (wk5) (evt (hτ 50 _ rfl)) rfl ht⟩,
      ⟨⟨rfl, rfl, fun _ τ hb ht hτ => R.mov (evt (hτ 51 _ rfl)) rfl ht⟩,
      ⟨⟨rfl, ⟨_, 52, rfl, rfl, .inl ⟨_, rfl, gw (v := true) (wk6) rfl⟩⟩, fun _ τ hb ht hτ => R.ldP (hτ 4 _ rfl) (hb 4 _ rfl) rfl rfl rfl rfl ht⟩,
      ⟨⟨rfl, ⟨_, 52, rfl, rfl, .inl ⟨_, rfl, gw (v := true) (wk6) rfl⟩⟩, fun _ τ hb ht hτ => R.callG hC (end_ok abS abS_ok) (Bors.cons (Bor.pur (evt (hτ 53 _ rfl)) rfl rfl) Bors.nil) (FrsR.one (frs_hash _)) ht⟩,
      ⟨⟨rfl, ⟨_, 52, rfl, rfl, .inl ⟨_, rfl, gw (v := true) (wk6) rfl⟩⟩, fun _ τ hb ht hτ => R.ldP (hτ 2 _ rfl) (hb 2 _ rfl) rfl rfl rfl rfl ht⟩,
      ⟨⟨rfl, ⟨_, 52, rfl, rfl, .inl ⟨_, rfl, gw (v := true) (wk6) rfl⟩⟩, fun _ τ hb ht hτ => R.eqAE (evt (hτ 54 _ rfl)) (evt (hτ 55 _ rfl)) ht⟩,
      ⟨⟨rfl, rfl, fun _ τ hb ht hτ => R.pickT (evt (hτ 52 _ rfl)) (wk6) (evt (hτ 56 _ rfl)) rfl ht⟩,
      ⟨⟨rfl, rfl, fun _ τ hb ht hτ => R.asg (evt (hτ 57 _ rfl)) rfl ht⟩,
      trivial⟩⟩⟩⟩⟩⟩⟩⟩⟩⟩⟩⟩⟩⟩⟩⟩⟩⟩⟩⟩⟩⟩⟩⟩⟩⟩⟩⟩⟩⟩⟩⟩⟩⟩⟩⟩⟩⟩⟩⟩, rfl, rfl, rfl⟩)
    rfl (bx' := [(4, .var _), (3, .var _), (2, .var _), (1, .var _)]) rfl (n' := 58) rfl (⟨[0], [(0, _)], [(4, .var _), (3, .var _), (2, .var _), (1, .var _)], 58, rfl, rfl, rfl, ?_⟩)
  refine W.ret ?_
  exact Ends.one' (.inr rfl) rfl (congrArg D.bool wk7) rfl rfl trivial

theorem copied_ok (b : List UInt8) (hb0 : b.length ≤ 1000000000) : Fn Tryd.prog gl 9 [.sl none 1 (b.map D.u8)] (.sl (some 5) 1 (b.map D.u8)) := by
  refine Fn.of (n := 6) Tryd.func9 rfl rfl rfl (Nat.le_of_ble_eq_true rfl) fun C hC => ?_
  refine W.seq ?_
  refine W.line (n := 1) (by decide) (its := [⟨2, _, true⟩]) (ks := []) (kk := []) (live := [0]) (env' := [(0, _)])
    (⟨Nat.le_of_ble_eq_true rfl, rfl,
      ⟨⟨rfl, rfl, fun _ τ hb ht hτ => R.asg (show ev _ _ (.const (.slice none 0 0)) = some (.nils) from rfl) rfl ht⟩,
      trivial⟩, rfl, rfl, rfl⟩)
    rfl (bx' := []) rfl (n' := 6) rfl (⟨[0], [(0, _)], [], 6, rfl, rfl, rfl, ?_⟩)
  refine W.seq ?_
  refine W.line (n := 4) (by decide) (its := [⟨3, _, true⟩, ⟨4, _, true⟩, ⟨5, _, true⟩, ⟨2, _, true⟩]) (ks := [(2, 3), (3, 5)]) (kk := [(2, 3), (3, 5)]) (live := [2]) (env' := [(2, _)])
    (⟨Nat.le_of_ble_eq_true rfl, rfl,
      ⟨⟨rfl, rfl, fun _ τ hb ht hτ => R.bslE .nil trivial rfl ht (by decide)⟩,
      ⟨⟨rfl, rfl, fun _ τ hb ht hτ => R.mov (evt (hτ 0 _ rfl)) rfl ht⟩,
      ⟨⟨rfl, rfl, fun _ τ hb ht hτ => R.appE (Or.inl rfl) (hτ 3 _ rfl) (SrcO.sc (SC.sl (hτ 4 _ rfl)) (pur_map (fun _ => rfl))) (List.nil_append _) (by first | omega | (simp only [List.length_map, List.length_append, List.length_cons, List.length_nil, List.length_take, List.length_drop, List.length_replicate]; omega) | (simp; omega)) ht (by decide) (by decide)⟩,
      ⟨⟨rfl, rfl, fun _ τ hb ht hτ => R.asgO (hτ 5 _ rfl) rfl ht (by decide)⟩,
      trivial⟩⟩⟩⟩, rfl, rfl, rfl⟩)
    rfl (bx' := []) rfl (n' := 6) rfl (⟨[2], [(2, _)], [], 6, rfl, rfl, rfl, ?_⟩)
  refine W.ret ?_
  exact Ends.one' (.inr rfl) rfl (rfl) rfl rfl trivial

end Go.Sx
