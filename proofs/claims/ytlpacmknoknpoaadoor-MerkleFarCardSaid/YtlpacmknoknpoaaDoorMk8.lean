/- Proved: what functions of the given program compute (used by the theorem of this claim). Conditions: none but those that each theorem states. -/
import Derived.Test.YtlpacmknoknpoaaDoorMk7
import Derived.Test.YtlpacmknoknpoaaDoorMkLaw2
set_option linter.unusedVariables false
set_option linter.unusedSimpArgs false
set_option linter.unnecessarySimpa false
namespace Go.Sx
open Go.Proofs
theorem works_ok : Fn Tryd.prog gl 6 [] (.bool true) := by
  refine Fn.of (n := 137) Tryd.func6 rfl rfl rfl (Nat.le_of_ble_eq_true rfl) fun C hC hD => ?_
  have hwl : wbr.length = 2 := rfl
  refine W.seq ?_
  refine W.line (n := 1) (by decide) (its := [⟨0, _, true⟩]) (ks := []) (kk := []) (live := []) (env' := [])
    (⟨Nat.le_of_ble_eq_true rfl, rfl,
      ⟨⟨rfl, rfl, fun _ τ hb ht hτ => R.asg (show ev _ _ (.const (.bool false)) = some (.bool false) from rfl) rfl ht⟩,
      trivial⟩, rfl, rfl, rfl⟩)
    rfl (bx' := []) rfl (n' := 137) rfl (⟨[], [], [], 137, rfl, rfl, rfl, ?_⟩)
  refine W.seq ?_
  refine W.line (n := 9) (by decide) (its := [⟨15, _, true⟩, ⟨16, _, true⟩, ⟨17, _, true⟩]) (ks := []) (kk := []) (live := [15, 16, 17]) (env' := [(15, _), (16, _), (17, _)])
    (⟨Nat.le_of_ble_eq_true rfl, rfl,
      ⟨⟨rfl, rfl, fun _ τ hb ht hτ => R.bldAP (z := 1) (l2 := ((hv 1).map D.u8)) (.cons (show ev _ _ (.const (.int .u8 1)) = some (.u8 1) from rfl) (.nil rfl)) ⟨⟨_, (show ev _ _ (.const (.int .u8 1)) = some (.u8 1) from rfl), rfl, rfl, rfl, rfl⟩, trivial⟩ (rfl) ht⟩,
      ⟨⟨rfl, rfl, fun _ τ hb ht hτ => R.bldAP (z := 1) (l2 := ((hv 2).map D.u8)) (.cons (show ev _ _ (.const (.int .u8 2)) = some (.u8 2) from rfl) (.nil rfl)) ⟨⟨_, (show ev _ _ (.const (.int .u8 2)) = some (.u8 2) from rfl), rfl, rfl, rfl, rfl⟩, trivial⟩ (rfl) ht⟩,
      ⟨⟨rfl, rfl, fun _ τ hb ht hτ => R.bldAP (z := 1) (l2 := ((hv 3).map D.u8)) (.cons (show ev _ _ (.const (.int .u8 3)) = some (.u8 3) from rfl) (.nil rfl)) ⟨⟨_, (show ev _ _ (.const (.int .u8 3)) = some (.u8 3) from rfl), rfl, rfl, rfl, rfl⟩, trivial⟩ (rfl) ht⟩,
      trivial⟩⟩⟩, rfl, rfl, rfl⟩)
    rfl (bx' := []) rfl (n' := 137) rfl (⟨rfl, _, R.alloc rfl (Nat.le_of_ble_eq_true rfl), ⟨rfl, _, R.alloc rfl (Nat.le_of_ble_eq_true rfl), ⟨rfl, _, R.alloc rfl (Nat.le_of_ble_eq_true rfl), ⟨rfl, _, R.stZ (show Sg.get _ 1 = some _ from rfl) (show Sg.box _ 1 = some _ from rfl) rfl (evt (show Sg.get _ 15 = some _ from rfl)) (by rfl) (by rfl) (by rfl) (by rfl) rfl, ⟨rfl, _, R.stZ (show Sg.get _ 2 = some _ from rfl) (show Sg.box _ 2 = some _ from rfl) rfl (evt (show Sg.get _ 16 = some _ from rfl)) (by rfl) (by rfl) (by rfl) (by rfl) rfl, ⟨rfl, _, R.stZ (show Sg.get _ 3 = some _ from rfl) (show Sg.box _ 3 = some _ from rfl) rfl (evt (show Sg.get _ 17 = some _ from rfl)) (by rfl) (by rfl) (by rfl) (by rfl) rfl, ⟨[1, 2, 3], [(1, _), (2, _), (3, _)], [(3, .var _), (2, .var _), (1, .var _)], 137, rfl, rfl, rfl, ?_⟩⟩⟩⟩⟩⟩⟩)
  refine W.seq ?_
  refine W.line (n := 7) (by decide) (its := [⟨18, _, true⟩, ⟨19, _, true⟩, ⟨20, _, true⟩, ⟨21, _, true⟩, ⟨22, _, true⟩]) (ks := []) (kk := []) (live := [1, 2, 3, 22]) (env' := [(1, _), (2, _), (3, _), (22, _)])
    (⟨Nat.le_of_ble_eq_true rfl, rfl,
      ⟨⟨rfl, rfl, fun _ τ hb ht hτ => R.ldP (hτ 1 _ rfl) (hb 1 _ rfl) rfl rfl rfl rfl ht⟩,
      ⟨⟨rfl, rfl, fun _ τ hb ht hτ => R.ldP (hτ 2 _ rfl) (hb 2 _ rfl) rfl rfl rfl rfl ht⟩,
      ⟨⟨rfl, rfl, fun _ τ hb ht hτ => R.ldP (hτ 3 _ rfl) (hb 3 _ rfl) rfl rfl rfl rfl ht⟩,
      ⟨⟨rfl, rfl, fun _ τ hb ht hτ => R.bslE (z := 32) (.cons (evt (hτ 18 _ rfl)) (.cons (evt (hτ 19 _ rfl)) (.cons (evt (hτ 20 _ rfl)) .nil))) ⟨⟨rfl, rfl, rfl⟩, ⟨⟨rfl, rfl, rfl⟩, ⟨⟨rfl, rfl, rfl⟩, trivial⟩⟩⟩ rfl ht (by decide)⟩,
      ⟨⟨rfl, rfl, fun _ τ hb ht hτ => R.callG hC (root_ok abc abc_all (by decide)) (Bors.cons (Bor.sc (SC.sl (hτ 21 _ rfl)) (show List.map D.brw (abc.map hashD) = abc.map hashD from brw_map brw_hash)) Bors.nil) (FrsR.one (frs_hash _)) ht⟩,
      trivial⟩⟩⟩⟩⟩, rfl, rfl, rfl⟩)
    rfl (bx' := [(3, .var _), (2, .var _), (1, .var _)]) rfl (n' := 137) rfl (⟨rfl, _, R.alloc rfl (Nat.le_of_ble_eq_true rfl), ⟨rfl, _, R.stZ (show Sg.get _ 4 = some _ from rfl) (show Sg.box _ 4 = some _ from rfl) rfl (evt (show Sg.get _ 22 = some _ from rfl)) (by rfl) (by rfl) (by rfl) (by rfl) rfl, ⟨[1, 2, 3, 4], [(1, _), (2, _), (3, _), (4, _)], [(4, .var _), (3, .var _), (2, .var _), (1, .var _)], 137, rfl, rfl, rfl, ?_⟩⟩⟩)
  refine W.seq ?_
  refine W.line (n := 10) (by decide) (its := [⟨24, _, true⟩, ⟨25, _, true⟩, ⟨26, _, true⟩, ⟨27, _, true⟩, ⟨28, _, true⟩, ⟨23, _, true⟩, ⟨29, _, true⟩, ⟨30, _, true⟩, ⟨5, _, true⟩, ⟨6, _, true⟩]) (ks := []) (kk := []) (live := [1, 2, 3, 4, 5, 6]) (env' := [(1, _), (2, _), (3, _), (4, _), (5, _), (6, _)])
    (⟨Nat.le_of_ble_eq_true rfl, rfl,
      ⟨⟨rfl, rfl, fun _ τ hb ht hτ => R.ldP (hτ 1 _ rfl) (hb 1 _ rfl) rfl rfl rfl rfl ht⟩,
      ⟨⟨rfl, rfl, fun _ τ hb ht hτ => R.ldP (hτ 2 _ rfl) (hb 2 _ rfl) rfl rfl rfl rfl ht⟩,
      ⟨⟨rfl, rfl, fun _ τ hb ht hτ => R.ldP (hτ 3 _ rfl) (hb 3 _ rfl) rfl rfl rfl rfl ht⟩,
      ⟨⟨rfl, rfl, fun _ τ hb ht hτ => R.bslE (z := 32) (.cons (evt (hτ 24 _ rfl)) (.cons (evt (hτ 25 _ rfl)) (.cons (evt (hτ 26 _ rfl)) .nil))) ⟨⟨rfl, rfl, rfl⟩, ⟨⟨rfl, rfl, rfl⟩, ⟨⟨rfl, rfl, rfl⟩, trivial⟩⟩⟩ rfl ht (by decide)⟩,
      ⟨⟨rfl, rfl, fun _ τ hb ht hτ => R.callZ (r' := .tup [.sl none 32 (wbr.map hashD), .int 0]) (branch_ok abc abc_all 2 (by decide) (by decide)) hC (Bors.cons (Bor.sc (SC.sl (hτ 27 _ rfl)) (show List.map D.brw (abc.map hashD) = abc.map hashD from brw_map brw_hash)) (Bors.cons (Bor.pur (show ev _ _ (.const (.int .i64 2)) = some (.int ((2 : Nat) : Int)) from rfl) rfl rfl) Bors.nil)) (FrsR.two (frs_hs _ _ _) (.int _)) (by rw [wk_br]; show D.tup [_, _] = _; rw [brw_hs]; rfl) ht⟩,
      ⟨⟨rfl, rfl, fun _ τ hb ht hτ => R.movT (hτ 28 _ rfl) rfl ht⟩,
      ⟨⟨rfl, rfl, fun _ τ hb ht hτ => R.ext (hτ 23 _ rfl) rfl rfl ht⟩,
      ⟨⟨rfl, rfl, fun _ τ hb ht hτ => R.ext (hτ 23 _ rfl) rfl rfl ht⟩,
      ⟨⟨rfl, rfl, fun _ τ hb ht hτ => R.asg (evt (hτ 29 _ rfl)) rfl ht⟩,
      ⟨⟨rfl, rfl, fun _ τ hb ht hτ => R.asg (evt (hτ 30 _ rfl)) rfl ht⟩,
      trivial⟩⟩⟩⟩⟩⟩⟩⟩⟩⟩, rfl, rfl, rfl⟩)
    rfl (bx' := [(4, .var _), (3, .var _), (2, .var _), (1, .var _)]) rfl (n' := 137) rfl (⟨[1, 2, 3, 4, 5, 6], [(1, _), (2, _), (3, _), (4, _), (5, _), (6, _)], [(4, .var _), (3, .var _), (2, .var _), (1, .var _)], 137, rfl, rfl, rfl, ?_⟩)
  refine W.seq ?_
  refine W.seq ?_
  refine W.draw (m := 23) (an := [0, 1, 3, 7, 15, 31, 63, 127, 255, 511, 1023, 255, 4095, 8191, 16383, 32767, 65535, 131071, 32767, 32767, 819199, 2097151, 4194303]) hP (by decide) rfl (its := [⟨31, _, true⟩, ⟨32, _, true⟩, ⟨33, _, true⟩, ⟨34, _, true⟩, ⟨35, _, true⟩, ⟨36, _, true⟩, ⟨37, _, true⟩, ⟨38, _, true⟩, ⟨39, _, true⟩, ⟨40, _, true⟩, ⟨41, _, true⟩, ⟨42, _, true⟩, ⟨43, _, true⟩, ⟨44, _, true⟩, ⟨45, _, true⟩, ⟨46, _, true⟩, ⟨47, _, true⟩, ⟨48, _, true⟩, ⟨49, _, true⟩, ⟨50, _, true⟩, ⟨51, _, true⟩, ⟨52, _, true⟩, ⟨53, _, true⟩]) (ks := []) (kk := []) (live := [1, 2, 3, 4, 5, 53]) (env' := [(1, _), (2, _), (3, _), (4, _), (5, _), (53, _)])
    (⟨Nat.le_of_ble_eq_true rfl, rfl,
      ⟨⟨rfl, rfl, fun _ τ hb ht hτ => R.mov (evt (hτ 6 _ rfl)) rfl ht⟩,
      ⟨⟨rfl, rfl, fun _ τ hb ht hτ => R.neqN (0) (0) (evt (hτ 31 _ rfl)) (show ev _ _ (.const (.int .i64 0)) = some (.int ((0 : Nat) : Int)) from rfl) ht⟩,
      ⟨⟨rfl, rfl, fun _ τ hb ht hτ => R.mov (evt (hτ 32 _ rfl)) rfl ht⟩,
      ⟨⟨rfl, ⟨_, 33, rfl, rfl, .inl ⟨_, rfl, gw (v := false) (rfl) rfl⟩⟩, fun _ τ hb ht hτ => R.mov (evt (hτ 5 _ rfl)) rfl ht⟩,
      ⟨⟨rfl, ⟨_, 33, rfl, rfl, .inl ⟨_, rfl, gw (v := false) (rfl) rfl⟩⟩, fun _ τ hb ht hτ => R.lenE (SC.sl (hτ 34 _ rfl)) (List.length_map _) ht⟩,
      ⟨⟨rfl, ⟨_, 33, rfl, rfl, .inl ⟨_, rfl, gw (v := false) (rfl) rfl⟩⟩, fun _ τ hb ht hτ => R.neqN (wbr.length) (2) (evt (hτ 35 _ rfl)) (show ev _ _ (.const (.int .i64 2)) = some (.int ((2 : Nat) : Int)) from rfl) ht⟩,
      ⟨⟨rfl, rfl, fun _ τ hb ht hτ => R.pickF (evt (hτ 33 _ rfl)) (rfl) (evt (hτ 36 _ rfl)) rfl ht⟩,
      ⟨⟨rfl, rfl, fun _ τ hb ht hτ => R.mov (evt (hτ 37 _ rfl)) rfl ht⟩,
      ⟨⟨rfl, ⟨_, 38, rfl, rfl, .inl ⟨_, rfl, gw (v := false) (rfl) rfl⟩⟩, fun _ τ hb ht hτ => R.mov (evt (hτ 5 _ rfl)) rfl ht⟩,
      ⟨⟨rfl, ⟨_, 38, rfl, rfl, .inl ⟨_, rfl, gw (v := false) (rfl) rfl⟩⟩, fun _ τ hb ht hτ => R.idxN (0) (SC.sl (hτ 39 _ rfl)) (evoI (show ev _ _ (.const (.int .i64 0)) = some (.int ((0 : Nat) : Int)) from rfl)) rfl (by first | omega | (simp only [List.length_map, List.length_append, List.length_cons, List.length_nil, List.length_take, List.length_drop, List.length_replicate]; omega) | (simp; omega)) ht (by decide)⟩,
      ⟨⟨rfl, ⟨_, 38, rfl, rfl, .inl ⟨_, rfl, gw (v := false) (rfl) rfl⟩⟩, fun _ τ hb ht hτ => R.ldE (hτ 40 _ rfl) (SC.sl (hτ 39 _ rfl)) (map_get! (l := wbr) (by first | omega | (simp only [List.length_map, List.length_append, List.length_cons, List.length_nil, List.length_take, List.length_drop, List.length_replicate]; omega) | (simp; omega))) rfl rfl rfl rfl ht⟩,
      ⟨⟨rfl, ⟨_, 38, rfl, rfl, .inl ⟨_, rfl, gw (v := false) (rfl) rfl⟩⟩, fun _ τ hb ht hτ => R.ldP (hτ 3 _ rfl) (hb 3 _ rfl) rfl rfl rfl rfl ht⟩,
      ⟨⟨rfl, ⟨_, 38, rfl, rfl, .inl ⟨_, rfl, gw (v := false) (rfl) rfl⟩⟩, fun _ τ hb ht hτ => R.eqAX (evt (hτ 41 _ rfl)) (evt (hτ 42 _ rfl)) ht⟩,
      ⟨⟨rfl, rfl, fun _ τ hb ht hτ => R.pickF (evt (hτ 38 _ rfl)) (rfl) (evt (hτ 43 _ rfl)) rfl ht⟩,
      ⟨⟨rfl, rfl, fun _ τ hb ht hτ => R.mov (evt (hτ 44 _ rfl)) rfl ht⟩,
      ⟨⟨rfl, ⟨_, 45, rfl, rfl, .inl ⟨_, rfl, gw (v := false) (bne_self_eq_false _) rfl⟩⟩, fun _ τ hb ht hτ => R.mov (evt (hτ 5 _ rfl)) rfl ht⟩,
      ⟨⟨rfl, ⟨_, 45, rfl, rfl, .inl ⟨_, rfl, gw (v := false) (bne_self_eq_false _) rfl⟩⟩, fun _ τ hb ht hτ => R.idxN (1) (SC.sl (hτ 46 _ rfl)) (evoI (show ev _ _ (.const (.int .i64 1)) = some (.int ((1 : Nat) : Int)) from rfl)) rfl (by first | omega | (simp only [List.length_map, List.length_append, List.length_cons, List.length_nil, List.length_take, List.length_drop, List.length_replicate]; omega) | (simp; omega)) ht (by decide)⟩,
      ⟨⟨rfl, ⟨_, 45, rfl, rfl, .inl ⟨_, rfl, gw (v := false) (bne_self_eq_false _) rfl⟩⟩, fun _ τ hb ht hτ => R.ldE (hτ 47 _ rfl) (SC.sl (hτ 46 _ rfl)) (map_get! (l := wbr) (by first | omega | (simp only [List.length_map, List.length_append, List.length_cons, List.length_nil, List.length_take, List.length_drop, List.length_replicate]; omega) | (simp; omega))) rfl rfl rfl rfl ht⟩,
      ⟨⟨rfl, ⟨_, 45, rfl, rfl, .inl ⟨_, rfl, gw (v := false) (bne_self_eq_false _) rfl⟩⟩, fun _ τ hb ht hτ => R.ldP (hτ 1 _ rfl) (hb 1 _ rfl) rfl rfl rfl rfl ht⟩,
      ⟨⟨rfl, ⟨_, 45, rfl, rfl, .inl ⟨_, rfl, gw (v := false) (bne_self_eq_false _) rfl⟩⟩, fun _ τ hb ht hτ => R.ldP (hτ 2 _ rfl) (hb 2 _ rfl) rfl rfl rfl rfl ht⟩,
      ⟨⟨rfl, ⟨_, 45, rfl, rfl, .inl ⟨_, rfl, gw (v := false) (bne_self_eq_false _) rfl⟩⟩, fun _ τ hb ht hτ => R.callG hC (join_ok (hv 1) (hv 2) rfl rfl) (Bors.cons (Bor.pur (evt (hτ 49 _ rfl)) rfl rfl) (Bors.cons (Bor.pur (evt (hτ 50 _ rfl)) rfl rfl) Bors.nil)) (FrsR.one (frs_hash _)) ht⟩,
      ⟨⟨rfl, ⟨_, 45, rfl, rfl, .inl ⟨_, rfl, gw (v := false) (bne_self_eq_false _) rfl⟩⟩, fun _ τ hb ht hτ => R.eqAX (evt (hτ 48 _ rfl)) (evt (hτ 51 _ rfl)) ht⟩,
      ⟨⟨rfl, rfl, fun _ τ hb ht hτ => R.pickF (evt (hτ 45 _ rfl)) (bne_self_eq_false _) (evt (hτ 52 _ rfl)) rfl ht⟩,
      trivial⟩⟩⟩⟩⟩⟩⟩⟩⟩⟩⟩⟩⟩⟩⟩⟩⟩⟩⟩⟩⟩⟩⟩, rfl, rfl, rfl⟩)
    rfl (bx' := [(4, .var _), (3, .var _), (2, .var _), (1, .var _)]) rfl (n' := 137) rfl (⟨[1, 2, 3, 4, 5, 53], [(1, _), (2, _), (3, _), (4, _), (5, _), (53, _)], [(4, .var _), (3, .var _), (2, .var _), (1, .var _)], 137, rfl, rfl, rfl, ?_⟩)
  refine W.condF rfl (bne_self_eq_false _) ?_
  refine W.skip ?_
  refine W.seq ?_
  refine W.line (n := 9) (by decide) (its := [⟨55, _, true⟩, ⟨56, _, true⟩, ⟨57, _, true⟩, ⟨54, _, true⟩, ⟨58, _, true⟩, ⟨59, _, true⟩]) (ks := []) (kk := []) (live := [1, 2, 3, 4, 5, 58, 59]) (env' := [(1, _), (2, _), (3, _), (4, _), (5, _), (58, _), (59, _)])
    (⟨Nat.le_of_ble_eq_true rfl, rfl,
      ⟨⟨rfl, rfl, fun _ τ hb ht hτ => R.ldP (hτ 3 _ rfl) (hb 3 _ rfl) rfl rfl rfl rfl ht⟩,
      ⟨⟨rfl, rfl, fun _ τ hb ht hτ => R.mov (evt (hτ 5 _ rfl)) rfl ht⟩,
      ⟨⟨rfl, rfl, fun _ τ hb ht hτ => R.callG hC (fold_ok (hv 3) wbr 2 rfl wbr_all (by decide) (by decide)) (Bors.cons (Bor.pur (evt (hτ 55 _ rfl)) rfl rfl) (Bors.cons (Bor.pur (evt (hτ 56 _ rfl)) rfl rfl) (Bors.cons (Bor.pur (show ev _ _ (.const (.int .i64 2)) = some (.int ((2 : Nat) : Int)) from rfl) rfl rfl) Bors.nil))) (FrsR.two (frs_hash' _) (.int _)) ht⟩,
      ⟨⟨rfl, rfl, fun _ τ hb ht hτ => R.movT (hτ 57 _ rfl) rfl ht⟩,
      ⟨⟨rfl, rfl, fun _ τ hb ht hτ => R.ext (hτ 54 _ rfl) rfl rfl ht⟩,
      ⟨⟨rfl, rfl, fun _ τ hb ht hτ => R.ext (hτ 54 _ rfl) rfl rfl ht⟩,
      trivial⟩⟩⟩⟩⟩⟩, rfl, rfl, rfl⟩)
    rfl (bx' := [(4, .var _), (3, .var _), (2, .var _), (1, .var _)]) rfl (n' := 137) rfl (⟨rfl, _, R.alloc rfl (Nat.le_of_ble_eq_true rfl), ⟨rfl, _, R.stZ (show Sg.get _ 7 = some _ from rfl) (show Sg.box _ 7 = some _ from rfl) rfl (evt (show Sg.get _ 58 = some _ from rfl)) (by rfl) (by rfl) (by rfl) (by rfl) rfl, ⟨rfl, _, R.asg (evt (show Sg.get _ 59 = some _ from rfl)) rfl (Nat.le_of_ble_eq_true rfl), ⟨[1, 2, 3, 4, 5, 7, 8], [(1, _), (2, _), (3, _), (4, _), (5, _), (7, _), (8, _)], [(7, .var _), (4, .var _), (3, .var _), (2, .var _), (1, .var _)], 137, rfl, rfl, rfl, ?_⟩⟩⟩⟩)
  refine W.seq ?_
  refine W.line (n := 9) (by decide) (its := [⟨61, _, true⟩, ⟨62, _, true⟩, ⟨63, _, true⟩, ⟨60, _, true⟩, ⟨64, _, true⟩, ⟨65, _, true⟩]) (ks := []) (kk := []) (live := [1, 2, 3, 4, 5, 7, 8, 64, 65]) (env' := [(1, _), (2, _), (3, _), (4, _), (5, _), (7, _), (8, _), (64, _), (65, _)])
    (⟨Nat.le_of_ble_eq_true rfl, rfl,
      ⟨⟨rfl, rfl, fun _ τ hb ht hτ => R.ldP (hτ 3 _ rfl) (hb 3 _ rfl) rfl rfl rfl rfl ht⟩,
      ⟨⟨rfl, rfl, fun _ τ hb ht hτ => R.mov (evt (hτ 5 _ rfl)) rfl ht⟩,
      ⟨⟨rfl, rfl, fun _ τ hb ht hτ => R.callG hC (fold_ok (hv 3) wbr 3 rfl wbr_all (by decide) (by decide)) (Bors.cons (Bor.pur (evt (hτ 61 _ rfl)) rfl rfl) (Bors.cons (Bor.pur (evt (hτ 62 _ rfl)) rfl rfl) (Bors.cons (Bor.pur (show ev _ _ (.const (.int .i64 3)) = some (.int ((3 : Nat) : Int)) from rfl) rfl rfl) Bors.nil))) (FrsR.two (frs_hash' _) (.int _)) ht⟩,
      ⟨⟨rfl, rfl, fun _ τ hb ht hτ => R.movT (hτ 63 _ rfl) rfl ht⟩,
      ⟨⟨rfl, rfl, fun _ τ hb ht hτ => R.ext (hτ 60 _ rfl) rfl rfl ht⟩,
      ⟨⟨rfl, rfl, fun _ τ hb ht hτ => R.ext (hτ 60 _ rfl) rfl rfl ht⟩,
      trivial⟩⟩⟩⟩⟩⟩, rfl, rfl, rfl⟩)
    rfl (bx' := [(7, .var _), (4, .var _), (3, .var _), (2, .var _), (1, .var _)]) rfl (n' := 137) rfl (⟨rfl, _, R.alloc rfl (Nat.le_of_ble_eq_true rfl), ⟨rfl, _, R.stZ (show Sg.get _ 9 = some _ from rfl) (show Sg.box _ 9 = some _ from rfl) rfl (evt (show Sg.get _ 64 = some _ from rfl)) (by rfl) (by rfl) (by rfl) (by rfl) rfl, ⟨rfl, _, R.asg (evt (show Sg.get _ 65 = some _ from rfl)) rfl (Nat.le_of_ble_eq_true rfl), ⟨[1, 2, 3, 4, 5, 7, 8, 10], [(1, _), (2, _), (3, _), (4, _), (5, _), (7, _), (8, _), (10, _)], [(9, .var _), (7, .var _), (4, .var _), (3, .var _), (2, .var _), (1, .var _)], 137, rfl, rfl, rfl, ?_⟩⟩⟩⟩)
  refine W.seq ?_
  refine W.line (n := 9) (by decide) (its := [⟨67, _, true⟩, ⟨68, _, true⟩, ⟨69, _, true⟩, ⟨66, _, true⟩, ⟨70, _, true⟩, ⟨71, _, true⟩]) (ks := []) (kk := []) (live := [1, 2, 3, 4, 7, 8, 10, 70, 71]) (env' := [(1, _), (2, _), (3, _), (4, _), (7, _), (8, _), (10, _), (70, _), (71, _)])
    (⟨Nat.le_of_ble_eq_true rfl, rfl,
      ⟨⟨rfl, rfl, fun _ τ hb ht hτ => R.ldP (hτ 3 _ rfl) (hb 3 _ rfl) rfl rfl rfl rfl ht⟩,
      ⟨⟨rfl, rfl, fun _ τ hb ht hτ => R.mov (evt (hτ 5 _ rfl)) rfl ht⟩,
      ⟨⟨rfl, rfl, fun _ τ hb ht hτ => R.callG hC (fold_ok (hv 3) wbr 4 rfl wbr_all (by decide) (by decide)) (Bors.cons (Bor.pur (evt (hτ 67 _ rfl)) rfl rfl) (Bors.cons (Bor.pur (evt (hτ 68 _ rfl)) rfl rfl) (Bors.cons (Bor.pur (show ev _ _ (.const (.int .i64 4)) = some (.int ((4 : Nat) : Int)) from rfl) rfl rfl) Bors.nil))) (FrsR.two (frs_hash' _) (.int _)) ht⟩,
      ⟨⟨rfl, rfl, fun _ τ hb ht hτ => R.movT (hτ 69 _ rfl) rfl ht⟩,
      ⟨⟨rfl, rfl, fun _ τ hb ht hτ => R.ext (hτ 66 _ rfl) rfl rfl ht⟩,
      ⟨⟨rfl, rfl, fun _ τ hb ht hτ => R.ext (hτ 66 _ rfl) rfl rfl ht⟩,
      trivial⟩⟩⟩⟩⟩⟩, rfl, rfl, rfl⟩)
    rfl (bx' := [(9, .var _), (7, .var _), (4, .var _), (3, .var _), (2, .var _), (1, .var _)]) rfl (n' := 137) rfl (⟨rfl, _, R.alloc rfl (Nat.le_of_ble_eq_true rfl), ⟨rfl, _, R.stZ (show Sg.get _ 11 = some _ from rfl) (show Sg.box _ 11 = some _ from rfl) rfl (evt (show Sg.get _ 70 = some _ from rfl)) (by rfl) (by rfl) (by rfl) (by rfl) rfl, ⟨rfl, _, R.asg (evt (show Sg.get _ 71 = some _ from rfl)) rfl (Nat.le_of_ble_eq_true rfl), ⟨[1, 2, 3, 4, 7, 8, 10, 12], [(1, _), (2, _), (3, _), (4, _), (7, _), (8, _), (10, _), (12, _)], [(11, .var _), (9, .var _), (7, .var _), (4, .var _), (3, .var _), (2, .var _), (1, .var _)], 137, rfl, rfl, rfl, ?_⟩⟩⟩⟩)
  refine W.seq ?_
  refine W.line (n := 8) (by decide) (its := [⟨73, _, true⟩, ⟨74, _, true⟩, ⟨72, _, true⟩, ⟨75, _, true⟩, ⟨76, _, true⟩]) (ks := []) (kk := []) (live := [1, 2, 3, 4, 7, 8, 10, 12, 75, 76]) (env' := [(1, _), (2, _), (3, _), (4, _), (7, _), (8, _), (10, _), (12, _), (75, _), (76, _)])
    (⟨Nat.le_of_ble_eq_true rfl, rfl,
      ⟨⟨rfl, rfl, fun _ τ hb ht hτ => R.mk (n := 64) (show ev _ _ (.const (.int .i64 64)) = some (.int ((64 : Nat) : Int)) from rfl) (show ev _ _ (.const (.int .i64 64)) = some (.int ((64 : Nat) : Int)) from rfl) (by first | omega | (simp only [List.length_map, List.length_append, List.length_cons, List.length_nil, List.length_take, List.length_drop, List.length_replicate]; omega) | (simp; omega)) (by decide) ht⟩,
      ⟨⟨rfl, rfl, fun _ τ hb ht hτ => R.callG hC (leaf_ok (List.replicate 64 0) (by decide)) (Bors.cons (Bor.sc (SC.sl (hτ 73 _ rfl)) (show List.map D.brw ((List.replicate 64 (0 : UInt8)).map D.u8) = (List.replicate 64 0).map D.u8 from brw_map (fun _ => rfl))) Bors.nil) (FrsR.two (frs_hash' _) (.int _)) ht⟩,
      ⟨⟨rfl, rfl, fun _ τ hb ht hτ => R.movT (hτ 74 _ rfl) rfl ht⟩,
      ⟨⟨rfl, rfl, fun _ τ hb ht hτ => R.ext (hτ 72 _ rfl) rfl rfl ht⟩,
      ⟨⟨rfl, rfl, fun _ τ hb ht hτ => R.ext (hτ 72 _ rfl) rfl rfl ht⟩,
      trivial⟩⟩⟩⟩⟩, rfl, rfl, rfl⟩)
    rfl (bx' := [(11, .var _), (9, .var _), (7, .var _), (4, .var _), (3, .var _), (2, .var _), (1, .var _)]) rfl (n' := 137) rfl (⟨rfl, _, R.alloc rfl (Nat.le_of_ble_eq_true rfl), ⟨rfl, _, R.stZ (show Sg.get _ 13 = some _ from rfl) (show Sg.box _ 13 = some _ from rfl) rfl (evt (show Sg.get _ 75 = some _ from rfl)) (by rfl) (by rfl) (by rfl) (by rfl) rfl, ⟨rfl, _, R.asg (evt (show Sg.get _ 76 = some _ from rfl)) rfl (Nat.le_of_ble_eq_true rfl), ⟨[1, 2, 3, 4, 7, 8, 10, 12, 14], [(1, _), (2, _), (3, _), (4, _), (7, _), (8, _), (10, _), (12, _), (14, _)], [(13, .var _), (11, .var _), (9, .var _), (7, .var _), (4, .var _), (3, .var _), (2, .var _), (1, .var _)], 137, rfl, rfl, rfl, ?_⟩⟩⟩⟩)
  refine W.seq ?_
  refine W.draw (m := 61) (an := (0 :: 0 :: 3 :: 7 :: 15 :: 15 :: 15 :: 111 :: 15 :: 15 :: 1007 :: 2031 :: 4095 :: 8191 :: 16383 :: 32767 :: 65535 :: 131071 :: 262143 :: 524287 :: 1048575 :: 2097151 :: 4194303 :: 8388607 :: 16777215 :: 33554431 :: 67108863 :: 134217727 :: 268435455 :: 536870911 :: 1073741823 :: 2147483647 :: 4294967295 :: 8589934591 :: 2147483647 :: 34359738367 :: 68719476735 :: 137438953471 :: 274877906943 :: 274877906943 :: 1099511627775 :: 274877906943 :: 274877906943 :: 8796093022207 :: 17592186044415 :: 35184372088831 :: 70368744177663 :: 140737488355327 :: 140737488355327 :: 140737488355327 :: 1125899906842623 :: 2251799813685247 :: 4503599627370495 :: 9007199254740991 :: 18014398509481983 :: 36028797018963967 :: 36028797018963967 :: 144115188075855871 :: 288230376151711743 :: 576460752303423487 :: 1152921504606846975 :: [])) hP (by decide) rfl (its := (⟨77, _, true⟩ :: ⟨78, _, true⟩ :: ⟨79, _, true⟩ :: ⟨80, _, true⟩ :: ⟨81, _, true⟩ :: ⟨82, _, true⟩ :: ⟨83, _, true⟩ :: ⟨84, _, true⟩ :: ⟨85, _, true⟩ :: ⟨86, _, true⟩ :: ⟨87, _, true⟩ :: ⟨88, _, true⟩ :: ⟨89, _, true⟩ :: ⟨90, _, true⟩ :: ⟨91, _, true⟩ :: ⟨92, _, true⟩ :: ⟨93, _, true⟩ :: ⟨94, _, true⟩ :: ⟨95, _, true⟩ :: ⟨96, _, true⟩ :: ⟨97, _, true⟩ :: ⟨98, _, true⟩ :: ⟨99, _, true⟩ :: ⟨100, _, true⟩ :: ⟨101, _, true⟩ :: ⟨102, _, true⟩ :: ⟨103, _, true⟩ :: ⟨104, _, true⟩ :: ⟨105, _, true⟩ :: ⟨106, _, true⟩ :: ⟨107, _, true⟩ :: ⟨108, _, true⟩ :: ⟨109, _, true⟩ :: ⟨110, _, true⟩ :: ⟨111, _, true⟩ :: ⟨112, _, true⟩ :: ⟨113, _, true⟩ :: ⟨114, _, true⟩ :: ⟨115, _, true⟩ :: ⟨116, _, true⟩ :: ⟨117, _, true⟩ :: ⟨118, _, true⟩ :: ⟨119, _, true⟩ :: ⟨120, _, true⟩ :: ⟨121, _, true⟩ :: ⟨122, _, true⟩ :: ⟨123, _, true⟩ :: ⟨124, _, true⟩ :: ⟨125, _, true⟩ :: ⟨126, _, true⟩ :: ⟨127, _, true⟩ :: ⟨128, _, true⟩ :: ⟨129, _, true⟩ :: ⟨130, _, true⟩ :: ⟨131, _, true⟩ :: ⟨132, _, true⟩ :: ⟨133, _, true⟩ :: ⟨134, _, true⟩ :: ⟨135, _, true⟩ :: ⟨136, _, true⟩ :: ⟨0, _, true⟩ :: [])) (ks := []) (kk := []) (live := [0]) (env' := [(0, _)])
    (⟨Nat.le_of_ble_eq_true rfl, rfl,
      ⟨⟨rfl, rfl, fun _ τ hb ht hτ => R.ldP (hτ 7 _ rfl) (hb 7 _ rfl) rfl rfl rfl rfl ht⟩,
      ⟨⟨rfl, rfl, fun _ τ hb ht hτ => R.ldP (hτ 4 _ rfl) (hb 4 _ rfl) rfl rfl rfl rfl ht⟩,
      ⟨⟨rfl, rfl, fun _ τ hb ht hτ => R.eqAE (evt (hτ 77 _ rfl)) (evt (hτ 78 _ rfl)) ht⟩,
      ⟨⟨rfl, rfl, fun _ τ hb ht hτ => R.mov (evt (hτ 79 _ rfl)) rfl ht⟩,
      ⟨⟨rfl, ⟨_, 80, rfl, rfl, .inl ⟨_, rfl, gw (v := true) (wk_m1) rfl⟩⟩, fun _ τ hb ht hτ => R.ldP (hτ 4 _ rfl) (hb 4 _ rfl) rfl rfl rfl rfl ht⟩,
      ⟨⟨rfl, ⟨_, 80, rfl, rfl, .inl ⟨_, rfl, gw (v := true) (wk_m1) rfl⟩⟩, fun _ τ hb ht hτ => R.ldP (hτ 1 _ rfl) (hb 1 _ rfl) rfl rfl rfl rfl ht⟩,
      ⟨⟨rfl, ⟨_, 80, rfl, rfl, .inl ⟨_, rfl, gw (v := true) (wk_m1) rfl⟩⟩, fun _ τ hb ht hτ => R.ldP (hτ 2 _ rfl) (hb 2 _ rfl) rfl rfl rfl rfl ht⟩,
      ⟨⟨rfl, ⟨_, 80, rfl, rfl, .inl ⟨_, rfl, gw (v := true) (wk_m1) rfl⟩⟩, fun _ τ hb ht hτ => R.callG hC (join_ok (hv 1) (hv 2) rfl rfl) (Bors.cons (Bor.pur (evt (hτ 82 _ rfl)) rfl rfl) (Bors.cons (Bor.pur (evt (hτ 83 _ rfl)) rfl rfl) Bors.nil)) (FrsR.one (frs_hash _)) ht⟩,
      ⟨⟨rfl, ⟨_, 80, rfl, rfl, .inl ⟨_, rfl, gw (v := true) (wk_m1) rfl⟩⟩, fun _ τ hb ht hτ => R.ldP (hτ 3 _ rfl) (hb 3 _ rfl) rfl rfl rfl rfl ht⟩,
      ⟨⟨rfl, ⟨_, 80, rfl, rfl, .inl ⟨_, rfl, gw (v := true) (wk_m1) rfl⟩⟩, fun _ τ hb ht hτ => R.ldP (hτ 3 _ rfl) (hb 3 _ rfl) rfl rfl rfl rfl ht⟩,
      ⟨⟨rfl, ⟨_, 80, rfl, rfl, .inl ⟨_, rfl, gw (v := true) (wk_m1) rfl⟩⟩, fun _ τ hb ht hτ => R.callG hC (join_ok (hv 3) (hv 3) rfl rfl) (Bors.cons (Bor.pur (evt (hτ 85 _ rfl)) rfl rfl) (Bors.cons (Bor.pur (evt (hτ 86 _ rfl)) rfl rfl) Bors.nil)) (FrsR.one (frs_hash _)) ht⟩,
      ⟨⟨rfl, ⟨_, 80, rfl, rfl, .inl ⟨_, rfl, gw (v := true) (wk_m1) rfl⟩⟩, fun _ τ hb ht hτ => R.callG hC (join_ok (joinS (hv 1) (hv 2)) (joinS (hv 3) (hv 3)) (joinS_len _ _) (joinS_len _ _)) (Bors.cons (Bor.pur (evt (hτ 84 _ rfl)) rfl rfl) (Bors.cons (Bor.pur (evt (hτ 87 _ rfl)) rfl rfl) Bors.nil)) (FrsR.one (frs_hash _)) ht⟩,
      ⟨⟨rfl, ⟨_, 80, rfl, rfl, .inl ⟨_, rfl, gw (v := true) (wk_m1) rfl⟩⟩, fun _ τ hb ht hτ => R.eqAE (evt (hτ 81 _ rfl)) (evt (hτ 88 _ rfl)) ht⟩,
      ⟨⟨rfl, rfl, fun _ τ hb ht hτ => R.pickT (evt (hτ 80 _ rfl)) (wk_m1) (evt (hτ 89 _ rfl)) rfl ht⟩,
      ⟨⟨rfl, rfl, fun _ τ hb ht hτ => R.mov (evt (hτ 90 _ rfl)) rfl ht⟩,
      ⟨⟨rfl, ⟨_, 91, rfl, rfl, .inl ⟨_, rfl, gw (v := true) (wk_m2) rfl⟩⟩, fun _ τ hb ht hτ => R.mov (evt (hτ 8 _ rfl)) rfl ht⟩,
      ⟨⟨rfl, ⟨_, 91, rfl, rfl, .inl ⟨_, rfl, gw (v := true) (wk_m2) rfl⟩⟩, fun _ τ hb ht hτ => R.bin (evt (hτ 92 _ rfl)) (show ev _ _ (.const (.int .i64 0)) = some (.int ((0 : Nat) : Int)) from rfl) rfl trivial ht⟩,
      ⟨⟨rfl, rfl, fun _ τ hb ht hτ => R.pickT (evt (hτ 91 _ rfl)) (wk_m2) (evt (hτ 93 _ rfl)) rfl ht⟩,
      ⟨⟨rfl, rfl, fun _ τ hb ht hτ => R.mov (evt (hτ 94 _ rfl)) rfl ht⟩,
      ⟨⟨rfl, ⟨_, 95, rfl, rfl, .inl ⟨_, rfl, gw (v := true) (decide_eq_true wk_e2) rfl⟩⟩, fun _ τ hb ht hτ => R.mov (evt (hτ 10 _ rfl)) rfl ht⟩,
      ⟨⟨rfl, ⟨_, 95, rfl, rfl, .inl ⟨_, rfl, gw (v := true) (decide_eq_true wk_e2) rfl⟩⟩, fun _ τ hb ht hτ => R.bin (evt (hτ 96 _ rfl)) (show ev _ _ (.const (.int .i64 15)) = some (.int ((15 : Nat) : Int)) from rfl) rfl trivial ht⟩,
      ⟨⟨rfl, rfl, fun _ τ hb ht hτ => R.pickT (evt (hτ 95 _ rfl)) (decide_eq_true wk_e2) (evt (hτ 97 _ rfl)) rfl ht⟩,
      ⟨⟨rfl, rfl, fun _ τ hb ht hτ => R.mov (evt (hτ 98 _ rfl)) rfl ht⟩,
      ⟨⟨rfl, ⟨_, 99, rfl, rfl, .inl ⟨_, rfl, gw (v := true) (decide_eq_true wk_e3) rfl⟩⟩, fun _ τ hb ht hτ => R.mov (evt (hτ 12 _ rfl)) rfl ht⟩,
      ⟨⟨rfl, ⟨_, 99, rfl, rfl, .inl ⟨_, rfl, gw (v := true) (decide_eq_true wk_e3) rfl⟩⟩, fun _ τ hb ht hτ => R.bin (evt (hτ 100 _ rfl)) (show ev _ _ (.const (.int .i64 1)) = some (.int ((1 : Nat) : Int)) from rfl) rfl trivial ht⟩,
      ⟨⟨rfl, rfl, fun _ τ hb ht hτ => R.pickT (evt (hτ 99 _ rfl)) (decide_eq_true wk_e3) (evt (hτ 101 _ rfl)) rfl ht⟩,
      ⟨⟨rfl, rfl, fun _ τ hb ht hτ => R.mov (evt (hτ 102 _ rfl)) rfl ht⟩,
      ⟨⟨rfl, ⟨_, 103, rfl, rfl, .inl ⟨_, rfl, gw (v := true) (decide_eq_true wk_e4) rfl⟩⟩, fun _ τ hb ht hτ => R.mov (evt (hτ 14 _ rfl)) rfl ht⟩,
      ⟨⟨rfl, ⟨_, 103, rfl, rfl, .inl ⟨_, rfl, gw (v := true) (decide_eq_true wk_e4) rfl⟩⟩, fun _ τ hb ht hτ => R.bin (evt (hτ 104 _ rfl)) (show ev _ _ (.const (.int .i64 15)) = some (.int ((15 : Nat) : Int)) from rfl) rfl trivial ht⟩,
      ⟨⟨rfl, rfl, fun _ τ hb ht hτ => R.pickT (evt (hτ 103 _ rfl)) (decide_eq_true wk_e4) (evt (hτ 105 _ rfl)) rfl ht⟩,
      ⟨⟨rfl, rfl, fun _ τ hb ht hτ => R.mov (evt (hτ 106 _ rfl)) rfl ht⟩,
      ⟨⟨rfl, ⟨_, 107, rfl, rfl, .inl ⟨_, rfl, gw (v := true) (decide_eq_true wk_e5) rfl⟩⟩, fun _ τ hb ht hτ => R.ldP (hτ 1 _ rfl) (hb 1 _ rfl) rfl rfl rfl rfl ht⟩,
      ⟨⟨rfl, ⟨_, 107, rfl, rfl, .inl ⟨_, rfl, gw (v := true) (decide_eq_true wk_e5) rfl⟩⟩, fun _ τ hb ht hτ => R.bslE (z := 32) (.cons (evt (hτ 108 _ rfl)) .nil) ⟨⟨rfl, rfl, rfl⟩, trivial⟩ rfl ht (by decide)⟩,
      ⟨⟨rfl, ⟨_, 107, rfl, rfl, .inl ⟨_, rfl, gw (v := true) (decide_eq_true wk_e5) rfl⟩⟩, fun _ τ hb ht hτ => R.callG hC (root_ok [hv 1] (fun h hh => by rw [List.mem_singleton.1 hh]; rfl) (by decide)) (Bors.cons (Bor.sc (SC.sl (hτ 109 _ rfl)) (show List.map D.brw ([hv 1].map hashD) = [hv 1].map hashD from brw_map brw_hash)) Bors.nil) (FrsR.one (frs_hash _)) ht⟩,
      ⟨⟨rfl, ⟨_, 107, rfl, rfl, .inl ⟨_, rfl, gw (v := true) (decide_eq_true wk_e5) rfl⟩⟩, fun _ τ hb ht hτ => R.ldP (hτ 1 _ rfl) (hb 1 _ rfl) rfl rfl rfl rfl ht⟩,
      ⟨⟨rfl, ⟨_, 107, rfl, rfl, .inl ⟨_, rfl, gw (v := true) (decide_eq_true wk_e5) rfl⟩⟩, fun _ τ hb ht hτ => R.eqAE (evt (hτ 110 _ rfl)) (evt (hτ 111 _ rfl)) ht⟩,
      ⟨⟨rfl, rfl, fun _ τ hb ht hτ => R.pickT (evt (hτ 107 _ rfl)) (decide_eq_true wk_e5) (evt (hτ 112 _ rfl)) rfl ht⟩,
      ⟨⟨rfl, rfl, fun _ τ hb ht hτ => R.mov (evt (hτ 113 _ rfl)) rfl ht⟩,
      ⟨⟨rfl, ⟨_, 114, rfl, rfl, .inl ⟨_, rfl, gw (v := true) (wk_r1) rfl⟩⟩, fun _ τ hb ht hτ => R.ldP (hτ 1 _ rfl) (hb 1 _ rfl) rfl rfl rfl rfl ht⟩,
      ⟨⟨rfl, ⟨_, 114, rfl, rfl, .inl ⟨_, rfl, gw (v := true) (wk_r1) rfl⟩⟩, fun _ τ hb ht hτ => R.ldP (hτ 2 _ rfl) (hb 2 _ rfl) rfl rfl rfl rfl ht⟩,
      ⟨⟨rfl, ⟨_, 114, rfl, rfl, .inl ⟨_, rfl, gw (v := true) (wk_r1) rfl⟩⟩, fun _ τ hb ht hτ => R.callG hC (join_ok (hv 1) (hv 2) rfl rfl) (Bors.cons (Bor.pur (evt (hτ 115 _ rfl)) rfl rfl) (Bors.cons (Bor.pur (evt (hτ 116 _ rfl)) rfl rfl) Bors.nil)) (FrsR.one (frs_hash _)) ht⟩,
      ⟨⟨rfl, ⟨_, 114, rfl, rfl, .inl ⟨_, rfl, gw (v := true) (wk_r1) rfl⟩⟩, fun _ τ hb ht hτ => R.ldP (hτ 1 _ rfl) (hb 1 _ rfl) rfl rfl rfl rfl ht⟩,
      ⟨⟨rfl, ⟨_, 114, rfl, rfl, .inl ⟨_, rfl, gw (v := true) (wk_r1) rfl⟩⟩, fun _ τ hb ht hτ => R.ldP (hτ 2 _ rfl) (hb 2 _ rfl) rfl rfl rfl rfl ht⟩,
      ⟨⟨rfl, ⟨_, 114, rfl, rfl, .inl ⟨_, rfl, gw (v := true) (wk_r1) rfl⟩⟩, fun _ τ hb ht hτ => R.callG hC (rjoin_ok (hv 1) (hv 2) rfl rfl) (Bors.cons (Bor.pur (evt (hτ 118 _ rfl)) rfl rfl) (Bors.cons (Bor.pur (evt (hτ 119 _ rfl)) rfl rfl) Bors.nil)) (FrsR.one (frs_hash _)) ht⟩,
      ⟨⟨rfl, ⟨_, 114, rfl, rfl, .inl ⟨_, rfl, gw (v := true) (wk_r1) rfl⟩⟩, fun _ τ hb ht hτ => R.eqAE (evt (hτ 117 _ rfl)) (evt (hτ 120 _ rfl)) ht⟩,
      ⟨⟨rfl, rfl, fun _ τ hb ht hτ => R.pickT (evt (hτ 114 _ rfl)) (wk_r1) (evt (hτ 121 _ rfl)) rfl ht⟩,
      ⟨⟨rfl, rfl, fun _ τ hb ht hτ => R.mov (evt (hτ 122 _ rfl)) rfl ht⟩,
      ⟨⟨rfl, ⟨_, 123, rfl, rfl, .inl ⟨_, rfl, gw (v := true) (wk_j) rfl⟩⟩, fun _ τ hb ht hτ => R.ldP (hτ 1 _ rfl) (hb 1 _ rfl) rfl rfl rfl rfl ht⟩,
      ⟨⟨rfl, ⟨_, 123, rfl, rfl, .inl ⟨_, rfl, gw (v := true) (wk_j) rfl⟩⟩, fun _ τ hb ht hτ => R.ldP (hτ 2 _ rfl) (hb 2 _ rfl) rfl rfl rfl rfl ht⟩,
      ⟨⟨rfl, ⟨_, 123, rfl, rfl, .inl ⟨_, rfl, gw (v := true) (wk_j) rfl⟩⟩, fun _ τ hb ht hτ => R.ldP (hτ 3 _ rfl) (hb 3 _ rfl) rfl rfl rfl rfl ht⟩,
      ⟨⟨rfl, ⟨_, 123, rfl, rfl, .inl ⟨_, rfl, gw (v := true) (wk_j) rfl⟩⟩, fun _ τ hb ht hτ => R.bslE (z := 32) (.cons (evt (hτ 124 _ rfl)) (.cons (evt (hτ 125 _ rfl)) (.cons (evt (hτ 126 _ rfl)) .nil))) ⟨⟨rfl, rfl, rfl⟩, ⟨⟨rfl, rfl, rfl⟩, ⟨⟨rfl, rfl, rfl⟩, trivial⟩⟩⟩ rfl ht (by decide)⟩,
      ⟨⟨rfl, ⟨_, 123, rfl, rfl, .inl ⟨_, rfl, gw (v := true) (wk_j) rfl⟩⟩, fun _ τ hb ht hτ => R.callG hC (doubled_ok abc abc_all (by decide)) (Bors.cons (Bor.sc (SC.sl (hτ 127 _ rfl)) (show List.map D.brw (abc.map hashD) = abc.map hashD from brw_map brw_hash)) Bors.nil) (FrsR.one (.bool _)) ht⟩,
      ⟨⟨rfl, ⟨_, 123, rfl, rfl, .inl ⟨_, rfl, gw (v := true) (wk_j) rfl⟩⟩, fun _ τ hb ht hτ => R.un (evt (hτ 128 _ rfl)) rfl ht⟩,
      ⟨⟨rfl, rfl, fun _ τ hb ht hτ => R.pickT (evt (hτ 123 _ rfl)) (wk_j) (evt (hτ 129 _ rfl)) rfl ht⟩,
      ⟨⟨rfl, rfl, fun _ τ hb ht hτ => R.mov (evt (hτ 130 _ rfl)) rfl ht⟩,
      ⟨⟨rfl, ⟨_, 131, rfl, rfl, .inl ⟨_, rfl, gw (v := true) (by rw [wk_d1]; rfl) rfl⟩⟩, fun _ τ hb ht hτ => R.ldP (hτ 1 _ rfl) (hb 1 _ rfl) rfl rfl rfl rfl ht⟩,
      ⟨⟨rfl, ⟨_, 131, rfl, rfl, .inl ⟨_, rfl, gw (v := true) (by rw [wk_d1]; rfl) rfl⟩⟩, fun _ τ hb ht hτ => R.ldP (hτ 1 _ rfl) (hb 1 _ rfl) rfl rfl rfl rfl ht⟩,
      ⟨⟨rfl, ⟨_, 131, rfl, rfl, .inl ⟨_, rfl, gw (v := true) (by rw [wk_d1]; rfl) rfl⟩⟩, fun _ τ hb ht hτ => R.bslE (z := 32) (.cons (evt (hτ 132 _ rfl)) (.cons (evt (hτ 133 _ rfl)) .nil)) ⟨⟨rfl, rfl, rfl⟩, ⟨⟨rfl, rfl, rfl⟩, trivial⟩⟩ rfl ht (by decide)⟩,
      ⟨⟨rfl, ⟨_, 131, rfl, rfl, .inl ⟨_, rfl, gw (v := true) (by rw [wk_d1]; rfl) rfl⟩⟩, fun _ τ hb ht hτ => R.callG hC (doubled_ok [hv 1, hv 1] (fun h hh => by simp only [List.mem_cons, List.not_mem_nil, or_false, or_self] at hh; rw [hh]; rfl) (by decide)) (Bors.cons (Bor.sc (SC.sl (hτ 134 _ rfl)) (show List.map D.brw ([hv 1, hv 1].map hashD) = [hv 1, hv 1].map hashD from brw_map brw_hash)) Bors.nil) (FrsR.one (.bool _)) ht⟩,
      ⟨⟨rfl, rfl, fun _ τ hb ht hτ => R.pickT (evt (hτ 131 _ rfl)) (by rw [wk_d1]; rfl) (evt (hτ 135 _ rfl)) rfl ht⟩,
      ⟨⟨rfl, rfl, fun _ τ hb ht hτ => R.asg (evt (hτ 136 _ rfl)) rfl ht⟩,
      trivial⟩⟩⟩⟩⟩⟩⟩⟩⟩⟩⟩⟩⟩⟩⟩⟩⟩⟩⟩⟩⟩⟩⟩⟩⟩⟩⟩⟩⟩⟩⟩⟩⟩⟩⟩⟩⟩⟩⟩⟩⟩⟩⟩⟩⟩⟩⟩⟩⟩⟩⟩⟩⟩⟩⟩⟩⟩⟩⟩⟩⟩, rfl, rfl, rfl⟩)
    rfl (bx' := [(13, .var _), (11, .var _), (9, .var _), (7, .var _), (4, .var _), (3, .var _), (2, .var _), (1, .var _)]) rfl (n' := 137) rfl (⟨[0], [(0, _)], [(13, .var _), (11, .var _), (9, .var _), (7, .var _), (4, .var _), (3, .var _), (2, .var _), (1, .var _)], 137, rfl, rfl, rfl, ?_⟩)
  refine W.ret ?_
  exact Ends.one' (.inr rfl) rfl (by rw [wk_d2]) rfl rfl trivial

end Go.Sx
