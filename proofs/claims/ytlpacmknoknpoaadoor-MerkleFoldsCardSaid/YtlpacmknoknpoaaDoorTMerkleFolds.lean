/- Proved: what functions of the given program compute (used by the theorem of this claim). Conditions: none but those that each theorem states. -/
import Derived.Test.YtlpacmknoknpoaaDoorMkT
import Derived.Test.YtlpacmknoknpoaaDoorMkLaw3
set_option linter.unusedVariables false
set_option linter.unusedSimpArgs false
set_option linter.unnecessarySimpa false
namespace Go.Sx
open Go.Proofs
theorem folds_ok (id : Hs) (br : List Hs) (k : Int) (b : Hs) (hi : id.length = 32) (hbr : allH br) (hk0 : -9223372036854775808 ≤ k ∧ k ≤ 9223372036854775807) : Fn Tryd.prog gl 3 [hashD id, .sl none 32 (br.map hashD), .int k, .sl none 1 (b.map D.u8)] (.bool true) := by
  refine Fn.of (n := 71) Tryd.func3 rfl rfl rfl (Nat.le_of_ble_eq_true rfl) fun C hC hD => ?_
  refine W.seq ?_
  refine W.line (n := 2) (by decide) (its := []) (ks := []) (kk := []) (live := [0, 1, 2, 3]) (env' := [(0, _), (1, _), (2, _), (3, _)])
    (⟨Nat.le_of_ble_eq_true rfl, rfl,
      trivial, rfl, rfl, rfl⟩)
    rfl (bx' := []) rfl (n' := 71) rfl (⟨rfl, _, R.box (evt (show Sg.get _ 0 = some _ from rfl)) rfl rfl (Nat.le_of_ble_eq_true rfl), ⟨rfl, _, R.asg (show ev _ _ (.const (.bool false)) = some (.bool false) from rfl) rfl (Nat.le_of_ble_eq_true rfl), ⟨[1, 2, 3, 4], [(1, _), (2, _), (3, _), (4, _)], [(4, .var _)], 71, rfl, rfl, rfl, ?_⟩⟩⟩)
  refine W.seq ?_
  refine W.seq ?_
  by_cases h1 : 300 < br.length
  · refine W.line (n := 8) (by decide) (its := [⟨17, _, true⟩, ⟨18, _, true⟩, ⟨19, _, true⟩, ⟨20, _, true⟩, ⟨21, .dead, false⟩, ⟨22, .dead, false⟩, ⟨23, .dead, false⟩, ⟨24, _, true⟩]) (ks := []) (kk := []) (live := [1, 2, 3, 4, 24]) (env' := [(1, _), (2, _), (3, _), (4, _), (24, _)])
      (⟨Nat.le_of_ble_eq_true rfl, rfl,
        ⟨⟨rfl, rfl, fun _ τ hb ht hτ => R.mov (evt (hτ 1 _ rfl)) rfl ht⟩,
        ⟨⟨rfl, rfl, fun _ τ hb ht hτ => R.lenE (SC.sl (hτ 17 _ rfl)) (List.length_map _) ht⟩,
        ⟨⟨rfl, rfl, fun _ τ hb ht hτ => R.gtrN (br.length) (300) (evt (hτ 18 _ rfl)) (show ev _ _ (.const (.int .i64 300)) = some (.int ((300 : Nat) : Int)) from rfl) ht⟩,
        ⟨⟨rfl, rfl, fun _ τ hb ht hτ => R.mov (evt (hτ 19 _ rfl)) rfl ht⟩,
        ⟨⟨rfl, ⟨_, 20, rfl, rfl, .inl ⟨_, rfl, gw (v := true) (decide_eq_true h1) rfl⟩⟩, fun h => absurd h (by decide)⟩,
        ⟨⟨rfl, ⟨_, 20, rfl, rfl, .inl ⟨_, rfl, gw (v := true) (decide_eq_true h1) rfl⟩⟩, fun h => absurd h (by decide)⟩,
        ⟨⟨rfl, ⟨_, 20, rfl, rfl, .inl ⟨_, rfl, gw (v := true) (decide_eq_true h1) rfl⟩⟩, fun h => absurd h (by decide)⟩,
        ⟨⟨rfl, rfl, fun _ τ hb ht hτ => R.pickT (evt (hτ 20 _ rfl)) (decide_eq_true h1) (show ev _ _ (.const (.bool true)) = some (.bool true) from rfl) rfl ht⟩,
        trivial⟩⟩⟩⟩⟩⟩⟩⟩, rfl, rfl, rfl⟩)
      rfl (bx' := [(4, .var _)]) rfl (n' := 71) rfl (⟨[1, 2, 3, 4, 24], [(1, _), (2, _), (3, _), (4, _), (24, _)], [(4, .var _)], 71, rfl, rfl, rfl, ?_⟩)
    refine W.condT rfl (rfl) ?_
    refine W.seq ?_
    refine W.line (n := 2) (by decide) (its := [⟨25, _, true⟩, ⟨8, _, true⟩]) (ks := []) (kk := []) (live := [8]) (env' := [(8, _)])
      (⟨Nat.le_of_ble_eq_true rfl, rfl,
        ⟨⟨rfl, rfl, fun _ τ hb ht hτ => R.callG hC (works_ok) Bors.nil (FrsR.one (.bool _)) ht⟩,
        ⟨⟨rfl, rfl, fun _ τ hb ht hτ => R.asg (evt (hτ 25 _ rfl)) rfl ht⟩,
        trivial⟩⟩, rfl, rfl, rfl⟩)
      rfl (bx' := [(4, .var _)]) rfl (n' := 71) rfl (⟨[8], [(8, _)], [(4, .var _)], 71, rfl, rfl, rfl, ?_⟩)
    refine W.ret ?_
    exact Ends.one' (.inr rfl) rfl (rfl) rfl rfl trivial
  · by_cases h2 : 300 < b.length
    · refine W.line (n := 8) (by decide) (its := [⟨17, _, true⟩, ⟨18, _, true⟩, ⟨19, _, true⟩, ⟨20, _, true⟩, ⟨21, _, true⟩, ⟨22, _, true⟩, ⟨23, _, true⟩, ⟨24, _, true⟩]) (ks := []) (kk := []) (live := [1, 2, 3, 4, 24]) (env' := [(1, _), (2, _), (3, _), (4, _), (24, _)])
        (⟨Nat.le_of_ble_eq_true rfl, rfl,
          ⟨⟨rfl, rfl, fun _ τ hb ht hτ => R.mov (evt (hτ 1 _ rfl)) rfl ht⟩,
          ⟨⟨rfl, rfl, fun _ τ hb ht hτ => R.lenE (SC.sl (hτ 17 _ rfl)) (List.length_map _) ht⟩,
          ⟨⟨rfl, rfl, fun _ τ hb ht hτ => R.gtrN (br.length) (300) (evt (hτ 18 _ rfl)) (show ev _ _ (.const (.int .i64 300)) = some (.int ((300 : Nat) : Int)) from rfl) ht⟩,
          ⟨⟨rfl, rfl, fun _ τ hb ht hτ => R.mov (evt (hτ 19 _ rfl)) rfl ht⟩,
          ⟨⟨rfl, ⟨_, 20, rfl, rfl, .inl ⟨_, rfl, gw (v := false) (decide_eq_false h1) rfl⟩⟩, fun _ τ hb ht hτ => R.mov (evt (hτ 3 _ rfl)) rfl ht⟩,
          ⟨⟨rfl, ⟨_, 20, rfl, rfl, .inl ⟨_, rfl, gw (v := false) (decide_eq_false h1) rfl⟩⟩, fun _ τ hb ht hτ => R.lenE (SC.sl (hτ 21 _ rfl)) (List.length_map _) ht⟩,
          ⟨⟨rfl, ⟨_, 20, rfl, rfl, .inl ⟨_, rfl, gw (v := false) (decide_eq_false h1) rfl⟩⟩, fun _ τ hb ht hτ => R.gtrN (b.length) (300) (evt (hτ 22 _ rfl)) (show ev _ _ (.const (.int .i64 300)) = some (.int ((300 : Nat) : Int)) from rfl) ht⟩,
          ⟨⟨rfl, rfl, fun _ τ hb ht hτ => R.pickF (evt (hτ 20 _ rfl)) (decide_eq_false h1) (evt (hτ 23 _ rfl)) rfl ht⟩,
          trivial⟩⟩⟩⟩⟩⟩⟩⟩, rfl, rfl, rfl⟩)
        rfl (bx' := [(4, .var _)]) rfl (n' := 71) rfl (⟨[1, 2, 3, 4, 24], [(1, _), (2, _), (3, _), (4, _), (24, _)], [(4, .var _)], 71, rfl, rfl, rfl, ?_⟩)
      refine W.condT rfl (decide_eq_true h2) ?_
      refine W.seq ?_
      refine W.line (n := 2) (by decide) (its := [⟨25, _, true⟩, ⟨8, _, true⟩]) (ks := []) (kk := []) (live := [8]) (env' := [(8, _)])
        (⟨Nat.le_of_ble_eq_true rfl, rfl,
          ⟨⟨rfl, rfl, fun _ τ hb ht hτ => R.callG hC (works_ok) Bors.nil (FrsR.one (.bool _)) ht⟩,
          ⟨⟨rfl, rfl, fun _ τ hb ht hτ => R.asg (evt (hτ 25 _ rfl)) rfl ht⟩,
          trivial⟩⟩, rfl, rfl, rfl⟩)
        rfl (bx' := [(4, .var _)]) rfl (n' := 71) rfl (⟨[8], [(8, _)], [(4, .var _)], 71, rfl, rfl, rfl, ?_⟩)
      refine W.ret ?_
      exact Ends.one' (.inr rfl) rfl (rfl) rfl rfl trivial
    · refine W.line (n := 8) (by decide) (its := [⟨17, _, true⟩, ⟨18, _, true⟩, ⟨19, _, true⟩, ⟨20, _, true⟩, ⟨21, _, true⟩, ⟨22, _, true⟩, ⟨23, _, true⟩, ⟨24, _, true⟩]) (ks := []) (kk := []) (live := [1, 2, 3, 4, 24]) (env' := [(1, _), (2, _), (3, _), (4, _), (24, _)])
        (⟨Nat.le_of_ble_eq_true rfl, rfl,
          ⟨⟨rfl, rfl, fun _ τ hb ht hτ => R.mov (evt (hτ 1 _ rfl)) rfl ht⟩,
          ⟨⟨rfl, rfl, fun _ τ hb ht hτ => R.lenE (SC.sl (hτ 17 _ rfl)) (List.length_map _) ht⟩,
          ⟨⟨rfl, rfl, fun _ τ hb ht hτ => R.gtrN (br.length) (300) (evt (hτ 18 _ rfl)) (show ev _ _ (.const (.int .i64 300)) = some (.int ((300 : Nat) : Int)) from rfl) ht⟩,
          ⟨⟨rfl, rfl, fun _ τ hb ht hτ => R.mov (evt (hτ 19 _ rfl)) rfl ht⟩,
          ⟨⟨rfl, ⟨_, 20, rfl, rfl, .inl ⟨_, rfl, gw (v := false) (decide_eq_false h1) rfl⟩⟩, fun _ τ hb ht hτ => R.mov (evt (hτ 3 _ rfl)) rfl ht⟩,
          ⟨⟨rfl, ⟨_, 20, rfl, rfl, .inl ⟨_, rfl, gw (v := false) (decide_eq_false h1) rfl⟩⟩, fun _ τ hb ht hτ => R.lenE (SC.sl (hτ 21 _ rfl)) (List.length_map _) ht⟩,
          ⟨⟨rfl, ⟨_, 20, rfl, rfl, .inl ⟨_, rfl, gw (v := false) (decide_eq_false h1) rfl⟩⟩, fun _ τ hb ht hτ => R.gtrN (b.length) (300) (evt (hτ 22 _ rfl)) (show ev _ _ (.const (.int .i64 300)) = some (.int ((300 : Nat) : Int)) from rfl) ht⟩,
          ⟨⟨rfl, rfl, fun _ τ hb ht hτ => R.pickF (evt (hτ 20 _ rfl)) (decide_eq_false h1) (evt (hτ 23 _ rfl)) rfl ht⟩,
          trivial⟩⟩⟩⟩⟩⟩⟩⟩, rfl, rfl, rfl⟩)
        rfl (bx' := [(4, .var _)]) rfl (n' := 71) rfl (⟨[1, 2, 3, 4, 24], [(1, _), (2, _), (3, _), (4, _), (24, _)], [(4, .var _)], 71, rfl, rfl, rfl, ?_⟩)
      refine W.condF rfl (decide_eq_false h2) ?_
      refine W.skip ?_
      refine W.seq ?_
      refine W.line (n := 10) (by decide) (its := [⟨27, _, true⟩, ⟨28, _, true⟩, ⟨29, _, true⟩, ⟨30, _, true⟩, ⟨26, _, true⟩, ⟨31, _, true⟩, ⟨32, _, true⟩]) (ks := []) (kk := []) (live := [1, 2, 3, 4, 31, 32]) (env' := [(1, _), (2, _), (3, _), (4, _), (31, _), (32, _)])
        (⟨Nat.le_of_ble_eq_true rfl, rfl,
          ⟨⟨rfl, rfl, fun _ τ hb ht hτ => R.ldP (hτ 4 _ rfl) (hb 4 _ rfl) rfl rfl rfl rfl ht⟩,
          ⟨⟨rfl, rfl, fun _ τ hb ht hτ => R.mov (evt (hτ 1 _ rfl)) rfl ht⟩,
          ⟨⟨rfl, rfl, fun _ τ hb ht hτ => R.mov (evt (hτ 2 _ rfl)) rfl ht⟩,
          ⟨⟨rfl, rfl, fun _ τ hb ht hτ => R.callG hC (fold_ok id br k hi hbr (by omega) hk0) (Bors.cons (Bor.pur (evt (hτ 27 _ rfl)) rfl rfl) (Bors.cons (Bor.pur (evt (hτ 28 _ rfl)) rfl rfl) (Bors.cons (Bor.pur (evt (hτ 29 _ rfl)) rfl rfl) Bors.nil))) (FrsR.two (frs_hash' _) (.int _)) ht⟩,
          ⟨⟨rfl, rfl, fun _ τ hb ht hτ => R.movT (hτ 30 _ rfl) rfl ht⟩,
          ⟨⟨rfl, rfl, fun _ τ hb ht hτ => R.ext (hτ 26 _ rfl) rfl rfl ht⟩,
          ⟨⟨rfl, rfl, fun _ τ hb ht hτ => R.ext (hτ 26 _ rfl) rfl rfl ht⟩,
          trivial⟩⟩⟩⟩⟩⟩⟩, rfl, rfl, rfl⟩)
        rfl (bx' := [(4, .var _)]) rfl (n' := 71) rfl (⟨rfl, _, R.alloc rfl (Nat.le_of_ble_eq_true rfl), ⟨rfl, _, R.stZ (show Sg.get _ 9 = some _ from rfl) (show Sg.box _ 9 = some _ from rfl) rfl (evt (show Sg.get _ 31 = some _ from rfl)) (by rfl) (by rfl) (by rfl) (by rfl) rfl, ⟨rfl, _, R.asg (evt (show Sg.get _ 32 = some _ from rfl)) rfl (Nat.le_of_ble_eq_true rfl), ⟨[1, 2, 3, 4, 9, 10], [(1, _), (2, _), (3, _), (4, _), (9, _), (10, _)], [(9, .var _), (4, .var _)], 71, rfl, rfl, rfl, ?_⟩⟩⟩⟩)
      refine W.seq ?_
      refine W.line (n := 10) (by decide) (its := [⟨34, _, true⟩, ⟨35, _, true⟩, ⟨36, _, true⟩, ⟨37, _, true⟩, ⟨33, _, true⟩, ⟨38, _, true⟩, ⟨39, _, true⟩]) (ks := []) (kk := []) (live := [3, 9, 10, 38, 39]) (env' := [(3, _), (9, _), (10, _), (38, _), (39, _)])
        (⟨Nat.le_of_ble_eq_true rfl, rfl,
          ⟨⟨rfl, rfl, fun _ τ hb ht hτ => R.ldP (hτ 4 _ rfl) (hb 4 _ rfl) rfl rfl rfl rfl ht⟩,
          ⟨⟨rfl, rfl, fun _ τ hb ht hτ => R.mov (evt (hτ 1 _ rfl)) rfl ht⟩,
          ⟨⟨rfl, rfl, fun _ τ hb ht hτ => R.mov (evt (hτ 2 _ rfl)) rfl ht⟩,
          ⟨⟨rfl, rfl, fun _ τ hb ht hτ => R.callG hC (rfold_ok id br k hi hbr (by omega) hk0) (Bors.cons (Bor.pur (evt (hτ 34 _ rfl)) rfl rfl) (Bors.cons (Bor.pur (evt (hτ 35 _ rfl)) rfl rfl) (Bors.cons (Bor.pur (evt (hτ 36 _ rfl)) rfl rfl) Bors.nil))) (FrsR.two (frs_hash' _) (.int _)) ht⟩,
          ⟨⟨rfl, rfl, fun _ τ hb ht hτ => R.movT (hτ 37 _ rfl) rfl ht⟩,
          ⟨⟨rfl, rfl, fun _ τ hb ht hτ => R.ext (hτ 33 _ rfl) rfl rfl ht⟩,
          ⟨⟨rfl, rfl, fun _ τ hb ht hτ => R.ext (hτ 33 _ rfl) rfl rfl ht⟩,
          trivial⟩⟩⟩⟩⟩⟩⟩, rfl, rfl, rfl⟩)
        rfl (bx' := [(9, .var _), (4, .var _)]) rfl (n' := 71) rfl (⟨rfl, _, R.alloc rfl (Nat.le_of_ble_eq_true rfl), ⟨rfl, _, R.stZ (show Sg.get _ 11 = some _ from rfl) (show Sg.box _ 11 = some _ from rfl) rfl (evt (show Sg.get _ 38 = some _ from rfl)) (by rfl) (by rfl) (by rfl) (by rfl) rfl, ⟨rfl, _, R.asg (evt (show Sg.get _ 39 = some _ from rfl)) rfl (Nat.le_of_ble_eq_true rfl), ⟨[3, 9, 10, 11, 12], [(3, _), (9, _), (10, _), (11, _), (12, _)], [(11, .var _), (9, .var _), (4, .var _)], 71, rfl, rfl, rfl, ?_⟩⟩⟩⟩)
      refine W.seq ?_
      refine W.line (n := 8) (by decide) (its := [⟨41, _, true⟩, ⟨42, _, true⟩, ⟨40, _, true⟩, ⟨43, _, true⟩, ⟨44, _, true⟩]) (ks := []) (kk := []) (live := [3, 9, 10, 11, 12, 43, 44]) (env' := [(3, _), (9, _), (10, _), (11, _), (12, _), (43, _), (44, _)])
        (⟨Nat.le_of_ble_eq_true rfl, rfl,
          ⟨⟨rfl, rfl, fun _ τ hb ht hτ => R.mov (evt (hτ 3 _ rfl)) rfl ht⟩,
          ⟨⟨rfl, rfl, fun _ τ hb ht hτ => R.callG hC (leaf_ok b (by omega)) (Bors.cons (Bor.pur (evt (hτ 41 _ rfl)) rfl rfl) Bors.nil) (FrsR.two (frs_hash' _) (.int _)) ht⟩,
          ⟨⟨rfl, rfl, fun _ τ hb ht hτ => R.movT (hτ 42 _ rfl) rfl ht⟩,
          ⟨⟨rfl, rfl, fun _ τ hb ht hτ => R.ext (hτ 40 _ rfl) rfl rfl ht⟩,
          ⟨⟨rfl, rfl, fun _ τ hb ht hτ => R.ext (hτ 40 _ rfl) rfl rfl ht⟩,
          trivial⟩⟩⟩⟩⟩, rfl, rfl, rfl⟩)
        rfl (bx' := [(11, .var _), (9, .var _), (4, .var _)]) rfl (n' := 71) rfl (⟨rfl, _, R.alloc rfl (Nat.le_of_ble_eq_true rfl), ⟨rfl, _, R.stZ (show Sg.get _ 13 = some _ from rfl) (show Sg.box _ 13 = some _ from rfl) rfl (evt (show Sg.get _ 43 = some _ from rfl)) (by rfl) (by rfl) (by rfl) (by rfl) rfl, ⟨rfl, _, R.asg (evt (show Sg.get _ 44 = some _ from rfl)) rfl (Nat.le_of_ble_eq_true rfl), ⟨[3, 9, 10, 11, 12, 13, 14], [(3, _), (9, _), (10, _), (11, _), (12, _), (13, _), (14, _)], [(13, .var _), (11, .var _), (9, .var _), (4, .var _)], 71, rfl, rfl, rfl, ?_⟩⟩⟩⟩)
      refine W.seq ?_
      refine W.line (n := 8) (by decide) (its := [⟨46, _, true⟩, ⟨47, _, true⟩, ⟨45, _, true⟩, ⟨48, _, true⟩, ⟨49, _, true⟩]) (ks := []) (kk := []) (live := [9, 10, 11, 12, 13, 14, 48, 49]) (env' := [(9, _), (10, _), (11, _), (12, _), (13, _), (14, _), (48, _), (49, _)])
        (⟨Nat.le_of_ble_eq_true rfl, rfl,
          ⟨⟨rfl, rfl, fun _ τ hb ht hτ => R.mov (evt (hτ 3 _ rfl)) rfl ht⟩,
          ⟨⟨rfl, rfl, fun _ τ hb ht hτ => R.callG hC (rleaf_ok b (by omega)) (Bors.cons (Bor.pur (evt (hτ 46 _ rfl)) rfl rfl) Bors.nil) (FrsR.two (frs_hash' _) (.int _)) ht⟩,
          ⟨⟨rfl, rfl, fun _ τ hb ht hτ => R.movT (hτ 47 _ rfl) rfl ht⟩,
          ⟨⟨rfl, rfl, fun _ τ hb ht hτ => R.ext (hτ 45 _ rfl) rfl rfl ht⟩,
          ⟨⟨rfl, rfl, fun _ τ hb ht hτ => R.ext (hτ 45 _ rfl) rfl rfl ht⟩,
          trivial⟩⟩⟩⟩⟩, rfl, rfl, rfl⟩)
        rfl (bx' := [(13, .var _), (11, .var _), (9, .var _), (4, .var _)]) rfl (n' := 71) rfl (⟨rfl, _, R.alloc rfl (Nat.le_of_ble_eq_true rfl), ⟨rfl, _, R.stZ (show Sg.get _ 15 = some _ from rfl) (show Sg.box _ 15 = some _ from rfl) rfl (evt (show Sg.get _ 48 = some _ from rfl)) (by rfl) (by rfl) (by rfl) (by rfl) rfl, ⟨rfl, _, R.asg (evt (show Sg.get _ 49 = some _ from rfl)) rfl (Nat.le_of_ble_eq_true rfl), ⟨[9, 10, 11, 12, 13, 14, 15, 16], [(9, _), (10, _), (11, _), (12, _), (13, _), (14, _), (15, _), (16, _)], [(15, .var _), (13, .var _), (11, .var _), (9, .var _), (4, .var _)], 71, rfl, rfl, rfl, ?_⟩⟩⟩⟩)
      refine W.seq ?_
      refine W.line (n := 22) (by decide) (its := [⟨50, _, true⟩, ⟨51, _, true⟩, ⟨52, _, true⟩, ⟨53, _, true⟩, ⟨54, _, true⟩, ⟨55, _, true⟩, ⟨56, _, true⟩, ⟨57, _, true⟩, ⟨58, _, true⟩, ⟨59, _, true⟩, ⟨60, _, true⟩, ⟨61, _, true⟩, ⟨62, _, true⟩, ⟨63, _, true⟩, ⟨64, _, true⟩, ⟨65, _, true⟩, ⟨66, _, true⟩, ⟨67, _, true⟩, ⟨68, _, true⟩, ⟨69, _, true⟩, ⟨70, _, true⟩, ⟨8, _, true⟩]) (ks := []) (kk := []) (live := [8]) (env' := [(8, _)])
        (⟨Nat.le_of_ble_eq_true rfl, rfl,
          ⟨⟨rfl, rfl, fun _ τ hb ht hτ => R.ldP (hτ 9 _ rfl) (hb 9 _ rfl) rfl rfl rfl rfl ht⟩,
          ⟨⟨rfl, rfl, fun _ τ hb ht hτ => R.ldP (hτ 11 _ rfl) (hb 11 _ rfl) rfl rfl rfl rfl ht⟩,
          ⟨⟨rfl, rfl, fun _ τ hb ht hτ => R.eqAE (evt (hτ 50 _ rfl)) (evt (hτ 51 _ rfl)) ht⟩,
          ⟨⟨rfl, rfl, fun _ τ hb ht hτ => R.mov (evt (hτ 52 _ rfl)) rfl ht⟩,
          ⟨⟨rfl, ⟨_, 53, rfl, rfl, .inl ⟨_, rfl, gw (v := true) (fold_eq1 id br k) rfl⟩⟩, fun _ τ hb ht hτ => R.mov (evt (hτ 10 _ rfl)) rfl ht⟩,
          ⟨⟨rfl, ⟨_, 53, rfl, rfl, .inl ⟨_, rfl, gw (v := true) (fold_eq1 id br k) rfl⟩⟩, fun _ τ hb ht hτ => R.mov (evt (hτ 12 _ rfl)) rfl ht⟩,
          ⟨⟨rfl, ⟨_, 53, rfl, rfl, .inl ⟨_, rfl, gw (v := true) (fold_eq1 id br k) rfl⟩⟩, fun _ τ hb ht hτ => R.bin (evt (hτ 54 _ rfl)) (evt (hτ 55 _ rfl)) rfl trivial ht⟩,
          ⟨⟨rfl, rfl, fun _ τ hb ht hτ => R.pickT (evt (hτ 53 _ rfl)) (fold_eq1 id br k) (evt (hτ 56 _ rfl)) rfl ht⟩,
          ⟨⟨rfl, rfl, fun _ τ hb ht hτ => R.mov (evt (hτ 57 _ rfl)) rfl ht⟩,
          ⟨⟨rfl, ⟨_, 58, rfl, rfl, .inl ⟨_, rfl, gw (v := true) (beq_iff_eq.2 (fold_eq2 id br k)) rfl⟩⟩, fun _ τ hb ht hτ => R.ldP (hτ 13 _ rfl) (hb 13 _ rfl) rfl rfl rfl rfl ht⟩,
          ⟨⟨rfl, ⟨_, 58, rfl, rfl, .inl ⟨_, rfl, gw (v := true) (beq_iff_eq.2 (fold_eq2 id br k)) rfl⟩⟩, fun _ τ hb ht hτ => R.ldP (hτ 15 _ rfl) (hb 15 _ rfl) rfl rfl rfl rfl ht⟩,
          ⟨⟨rfl, ⟨_, 58, rfl, rfl, .inl ⟨_, rfl, gw (v := true) (beq_iff_eq.2 (fold_eq2 id br k)) rfl⟩⟩, fun _ τ hb ht hτ => R.eqAE (evt (hτ 59 _ rfl)) (evt (hτ 60 _ rfl)) ht⟩,
          ⟨⟨rfl, rfl, fun _ τ hb ht hτ => R.pickT (evt (hτ 58 _ rfl)) (beq_iff_eq.2 (fold_eq2 id br k)) (evt (hτ 61 _ rfl)) rfl ht⟩,
          ⟨⟨rfl, rfl, fun _ τ hb ht hτ => R.mov (evt (hτ 62 _ rfl)) rfl ht⟩,
          ⟨⟨rfl, ⟨_, 63, rfl, rfl, .inl ⟨_, rfl, gw (v := true) (leaf_eq1 b) rfl⟩⟩, fun _ τ hb ht hτ => R.mov (evt (hτ 14 _ rfl)) rfl ht⟩,
          ⟨⟨rfl, ⟨_, 63, rfl, rfl, .inl ⟨_, rfl, gw (v := true) (leaf_eq1 b) rfl⟩⟩, fun _ τ hb ht hτ => R.mov (evt (hτ 16 _ rfl)) rfl ht⟩,
          ⟨⟨rfl, ⟨_, 63, rfl, rfl, .inl ⟨_, rfl, gw (v := true) (leaf_eq1 b) rfl⟩⟩, fun _ τ hb ht hτ => R.bin (evt (hτ 64 _ rfl)) (evt (hτ 65 _ rfl)) rfl trivial ht⟩,
          ⟨⟨rfl, rfl, fun _ τ hb ht hτ => R.pickT (evt (hτ 63 _ rfl)) (leaf_eq1 b) (evt (hτ 66 _ rfl)) rfl ht⟩,
          ⟨⟨rfl, rfl, fun _ τ hb ht hτ => R.mov (evt (hτ 67 _ rfl)) rfl ht⟩,
          ⟨⟨rfl, ⟨_, 68, rfl, rfl, .inl ⟨_, rfl, gw (v := true) (beq_iff_eq.2 (leaf_eq2 b)) rfl⟩⟩, fun _ τ hb ht hτ => R.callG hC (works_ok) Bors.nil (FrsR.one (.bool _)) ht⟩,
          ⟨⟨rfl, rfl, fun _ τ hb ht hτ => R.pickT (evt (hτ 68 _ rfl)) (beq_iff_eq.2 (leaf_eq2 b)) (evt (hτ 69 _ rfl)) rfl ht⟩,
          ⟨⟨rfl, rfl, fun _ τ hb ht hτ => R.asg (evt (hτ 70 _ rfl)) rfl ht⟩,
          trivial⟩⟩⟩⟩⟩⟩⟩⟩⟩⟩⟩⟩⟩⟩⟩⟩⟩⟩⟩⟩⟩⟩, rfl, rfl, rfl⟩)
        rfl (bx' := [(15, .var _), (13, .var _), (11, .var _), (9, .var _), (4, .var _)]) rfl (n' := 71) rfl (⟨[8], [(8, _)], [(15, .var _), (13, .var _), (11, .var _), (9, .var _), (4, .var _)], 71, rfl, rfl, rfl, ?_⟩)
      refine W.ret ?_
      exact Ends.one' (.inr rfl) rfl (rfl) rfl rfl trivial

end Go.Sx
