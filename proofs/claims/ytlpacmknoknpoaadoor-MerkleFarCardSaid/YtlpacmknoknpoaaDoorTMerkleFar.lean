/- Proved: what functions of the given program compute (used by the theorem of this claim). Conditions: none but those that each theorem states. -/
import Derived.Test.YtlpacmknoknpoaaDoorMkT
import Derived.Test.YtlpacmknoknpoaaDoorMkLaw3
set_option linter.unusedVariables false
set_option linter.unusedSimpArgs false
set_option linter.unnecessarySimpa false
namespace Go.Sx
open Go.Proofs
theorem far_neg (over far : Int) (id p : Hs) (ho0 : -128 ≤ over ∧ over ≤ 127) (hneg : 32 + over < 0) : Fn Tryd.prog gl 5 [.ik .i8 over, hashD id, hashD p, .ik .i8 far] (.bool true) := by
  refine Fn.of (n := 84) Tryd.func5 rfl rfl rfl (Nat.le_of_ble_eq_true rfl) fun C hC hD => ?_
  refine W.seq ?_
  refine W.line (n := 3) (by decide) (its := []) (ks := []) (kk := []) (live := [0, 1, 2, 3]) (env' := [(0, _), (1, _), (2, _), (3, _)])
    (⟨Nat.le_of_ble_eq_true rfl, rfl,
      trivial, rfl, rfl, rfl⟩)
    rfl (bx' := []) rfl (n' := 84) rfl (⟨rfl, _, R.box (evt (show Sg.get _ 1 = some _ from rfl)) rfl rfl (Nat.le_of_ble_eq_true rfl), ⟨rfl, _, R.box (evt (show Sg.get _ 2 = some _ from rfl)) rfl rfl (Nat.le_of_ble_eq_true rfl), ⟨rfl, _, R.asg (show ev _ _ (.const (.bool false)) = some (.bool false) from rfl) rfl (Nat.le_of_ble_eq_true rfl), ⟨[0, 3, 5, 6], [(0, _), (3, _), (5, _), (6, _)], [(6, .var _), (5, .var _)], 84, rfl, rfl, rfl, ?_⟩⟩⟩⟩)
  refine W.seq ?_
  refine W.line (n := 4) (by decide) (its := [⟨16, _, true⟩, ⟨17, _, true⟩, ⟨18, _, true⟩, ⟨9, _, true⟩]) (ks := []) (kk := []) (live := [3, 5, 6, 9]) (env' := [(3, _), (5, _), (6, _), (9, _)])
    (⟨Nat.le_of_ble_eq_true rfl, rfl,
      ⟨⟨rfl, rfl, fun _ τ hb ht hτ => R.mov (evt (hτ 0 _ rfl)) rfl ht⟩,
      ⟨⟨rfl, rfl, fun _ τ hb ht hτ => R.convE (d := .int over) (evt (hτ 16 _ rfl)) rfl (wr_eq rfl (by omega) (by omega)) ht⟩,
      ⟨⟨rfl, rfl, fun _ τ hb ht hτ => R.binE (d := .int (32 + over)) (show ev _ _ (.const (.int .i64 32)) = some (.int ((32 : Nat) : Int)) from rfl) (evt (hτ 17 _ rfl)) rfl trivial (wr_eq rfl (by omega) (by omega)) ht⟩,
      ⟨⟨rfl, rfl, fun _ τ hb ht hτ => R.asg (evt (hτ 18 _ rfl)) rfl ht⟩,
      trivial⟩⟩⟩⟩, rfl, rfl, rfl⟩)
    rfl (bx' := [(6, .var _), (5, .var _)]) rfl (n' := 84) rfl (⟨[3, 5, 6, 9], [(3, _), (5, _), (6, _), (9, _)], [(6, .var _), (5, .var _)], 84, rfl, rfl, rfl, ?_⟩)
  refine W.seq ?_
  refine W.seq ?_
  refine W.line (n := 7) (by decide) (its := [⟨19, _, true⟩, ⟨20, _, true⟩, ⟨21, _, true⟩, ⟨22, .dead, false⟩, ⟨23, .dead, false⟩, ⟨24, .dead, false⟩, ⟨25, _, true⟩]) (ks := []) (kk := []) (live := [3, 5, 6, 9, 25]) (env' := [(3, _), (5, _), (6, _), (9, _), (25, _)])
    (⟨Nat.le_of_ble_eq_true rfl, rfl,
      ⟨⟨rfl, rfl, fun _ τ hb ht hτ => R.mov (evt (hτ 9 _ rfl)) rfl ht⟩,
      ⟨⟨rfl, rfl, fun _ τ hb ht hτ => R.bin (evt (hτ 19 _ rfl)) (show ev _ _ (.const (.int .i64 0)) = some (.int ((0 : Nat) : Int)) from rfl) rfl trivial ht⟩,
      ⟨⟨rfl, rfl, fun _ τ hb ht hτ => R.mov (evt (hτ 20 _ rfl)) rfl ht⟩,
      ⟨⟨rfl, ⟨_, 21, rfl, rfl, .inl ⟨_, rfl, gw (v := true) (decide_eq_true hneg) rfl⟩⟩, fun h => absurd h (by decide)⟩,
      ⟨⟨rfl, ⟨_, 21, rfl, rfl, .inl ⟨_, rfl, gw (v := true) (decide_eq_true hneg) rfl⟩⟩, fun h => absurd h (by decide)⟩,
      ⟨⟨rfl, ⟨_, 21, rfl, rfl, .inl ⟨_, rfl, gw (v := true) (decide_eq_true hneg) rfl⟩⟩, fun h => absurd h (by decide)⟩,
      ⟨⟨rfl, rfl, fun _ τ hb ht hτ => R.pickT (evt (hτ 21 _ rfl)) (decide_eq_true hneg) (show ev _ _ (.const (.bool true)) = some (.bool true) from rfl) rfl ht⟩,
      trivial⟩⟩⟩⟩⟩⟩⟩, rfl, rfl, rfl⟩)
    rfl (bx' := [(6, .var _), (5, .var _)]) rfl (n' := 84) rfl (⟨[3, 5, 6, 9, 25], [(3, _), (5, _), (6, _), (9, _), (25, _)], [(6, .var _), (5, .var _)], 84, rfl, rfl, rfl, ?_⟩)
  refine W.condT rfl (rfl) ?_
  refine W.seq ?_
  refine W.line (n := 2) (by decide) (its := [⟨26, _, true⟩, ⟨8, _, true⟩]) (ks := []) (kk := []) (live := [8]) (env' := [(8, _)])
    (⟨Nat.le_of_ble_eq_true rfl, rfl,
      ⟨⟨rfl, rfl, fun _ τ hb ht hτ => R.callG hC (works_ok) Bors.nil (FrsR.one (.bool _)) ht⟩,
      ⟨⟨rfl, rfl, fun _ τ hb ht hτ => R.asg (evt (hτ 26 _ rfl)) rfl ht⟩,
      trivial⟩⟩, rfl, rfl, rfl⟩)
    rfl (bx' := [(6, .var _), (5, .var _)]) rfl (n' := 84) rfl (⟨[8], [(8, _)], [(6, .var _), (5, .var _)], 84, rfl, rfl, rfl, ?_⟩)
  refine W.ret ?_
  exact Ends.one' (.inr rfl) rfl (rfl) rfl rfl trivial

theorem far_pos (n : Nat) (far : Int) (id p : Hs) (hi : id.length = 32) (hp : p.length = 32) (hn : n ≤ 159) (hf0 : -128 ≤ far ∧ far ≤ 127) : Fn Tryd.prog gl 5 [.ik .i8 ((n : Int) - 32), hashD id, hashD p, .ik .i8 far] (.bool true) := by
  refine Fn.of (n := 84) Tryd.func5 rfl rfl rfl (Nat.le_of_ble_eq_true rfl) fun C hC hD => ?_
  refine W.seq ?_
  refine W.line (n := 3) (by decide) (its := []) (ks := []) (kk := []) (live := [0, 1, 2, 3]) (env' := [(0, _), (1, _), (2, _), (3, _)])
    (⟨Nat.le_of_ble_eq_true rfl, rfl,
      trivial, rfl, rfl, rfl⟩)
    rfl (bx' := []) rfl (n' := 84) rfl (⟨rfl, _, R.box (evt (show Sg.get _ 1 = some _ from rfl)) rfl rfl (Nat.le_of_ble_eq_true rfl), ⟨rfl, _, R.box (evt (show Sg.get _ 2 = some _ from rfl)) rfl rfl (Nat.le_of_ble_eq_true rfl), ⟨rfl, _, R.asg (show ev _ _ (.const (.bool false)) = some (.bool false) from rfl) rfl (Nat.le_of_ble_eq_true rfl), ⟨[0, 3, 5, 6], [(0, _), (3, _), (5, _), (6, _)], [(6, .var _), (5, .var _)], 84, rfl, rfl, rfl, ?_⟩⟩⟩⟩)
  refine W.seq ?_
  refine W.line (n := 4) (by decide) (its := [⟨16, _, true⟩, ⟨17, _, true⟩, ⟨18, _, true⟩, ⟨9, _, true⟩]) (ks := []) (kk := []) (live := [3, 5, 6, 9]) (env' := [(3, _), (5, _), (6, _), (9, _)])
    (⟨Nat.le_of_ble_eq_true rfl, rfl,
      ⟨⟨rfl, rfl, fun _ τ hb ht hτ => R.mov (evt (hτ 0 _ rfl)) rfl ht⟩,
      ⟨⟨rfl, rfl, fun _ τ hb ht hτ => R.convE (d := .int ((n : Int) - 32)) (evt (hτ 16 _ rfl)) rfl (wr_eq rfl (by omega) (by omega)) ht⟩,
      ⟨⟨rfl, rfl, fun _ τ hb ht hτ => R.binE (d := .int ((n : Nat) : Int)) (show ev _ _ (.const (.int .i64 32)) = some (.int ((32 : Nat) : Int)) from rfl) (evt (hτ 17 _ rfl)) rfl trivial (wr_eq (by omega) (by omega) (by omega)) ht⟩,
      ⟨⟨rfl, rfl, fun _ τ hb ht hτ => R.asg (evt (hτ 18 _ rfl)) rfl ht⟩,
      trivial⟩⟩⟩⟩, rfl, rfl, rfl⟩)
    rfl (bx' := [(6, .var _), (5, .var _)]) rfl (n' := 84) rfl (⟨[3, 5, 6, 9], [(3, _), (5, _), (6, _), (9, _)], [(6, .var _), (5, .var _)], 84, rfl, rfl, rfl, ?_⟩)
  refine W.seq ?_
  refine W.seq ?_
  refine W.line (n := 7) (by decide) (its := [⟨19, _, true⟩, ⟨20, _, true⟩, ⟨21, _, true⟩, ⟨22, _, true⟩, ⟨23, _, true⟩, ⟨24, _, true⟩, ⟨25, _, true⟩]) (ks := []) (kk := []) (live := [3, 5, 6, 9, 25]) (env' := [(3, _), (5, _), (6, _), (9, _), (25, _)])
    (⟨Nat.le_of_ble_eq_true rfl, rfl,
      ⟨⟨rfl, rfl, fun _ τ hb ht hτ => R.mov (evt (hτ 9 _ rfl)) rfl ht⟩,
      ⟨⟨rfl, rfl, fun _ τ hb ht hτ => R.lssN (n) (0) (evt (hτ 19 _ rfl)) (show ev _ _ (.const (.int .i64 0)) = some (.int ((0 : Nat) : Int)) from rfl) ht⟩,
      ⟨⟨rfl, rfl, fun _ τ hb ht hτ => R.mov (evt (hτ 20 _ rfl)) rfl ht⟩,
      ⟨⟨rfl, ⟨_, 21, rfl, rfl, .inl ⟨_, rfl, gw (v := false) (decide_eq_false (Nat.not_lt_zero _)) rfl⟩⟩, fun _ τ hb ht hτ => R.ldP (hτ 5 _ rfl) (hb 5 _ rfl) rfl rfl rfl rfl ht⟩,
      ⟨⟨rfl, ⟨_, 21, rfl, rfl, .inl ⟨_, rfl, gw (v := false) (decide_eq_false (Nat.not_lt_zero _)) rfl⟩⟩, fun _ τ hb ht hτ => R.ldP (hτ 6 _ rfl) (hb 6 _ rfl) rfl rfl rfl rfl ht⟩,
      ⟨⟨rfl, ⟨_, 21, rfl, rfl, .inl ⟨_, rfl, gw (v := false) (decide_eq_false (Nat.not_lt_zero _)) rfl⟩⟩, fun _ τ hb ht hτ => R.eqAE (evt (hτ 22 _ rfl)) (evt (hτ 23 _ rfl)) ht⟩,
      ⟨⟨rfl, rfl, fun _ τ hb ht hτ => R.pickF (evt (hτ 21 _ rfl)) (decide_eq_false (Nat.not_lt_zero _)) (evt (hτ 24 _ rfl)) rfl ht⟩,
      trivial⟩⟩⟩⟩⟩⟩⟩, rfl, rfl, rfl⟩)
    rfl (bx' := [(6, .var _), (5, .var _)]) rfl (n' := 84) rfl (⟨[3, 5, 6, 9, 25], [(3, _), (5, _), (6, _), (9, _), (25, _)], [(6, .var _), (5, .var _)], 84, rfl, rfl, rfl, ?_⟩)
  refine W.cond rfl (fun hc25 => ?_) (fun hc25 => ?_)
  · refine W.seq ?_
    refine W.line (n := 2) (by decide) (its := [⟨26, _, true⟩, ⟨8, _, true⟩]) (ks := []) (kk := []) (live := [8]) (env' := [(8, _)])
      (⟨Nat.le_of_ble_eq_true rfl, rfl,
        ⟨⟨rfl, rfl, fun _ τ hb ht hτ => R.callG hC (works_ok) Bors.nil (FrsR.one (.bool _)) ht⟩,
        ⟨⟨rfl, rfl, fun _ τ hb ht hτ => R.asg (evt (hτ 26 _ rfl)) rfl ht⟩,
        trivial⟩⟩, rfl, rfl, rfl⟩)
      rfl (bx' := [(6, .var _), (5, .var _)]) rfl (n' := 84) rfl (⟨[8], [(8, _)], [(6, .var _), (5, .var _)], 84, rfl, rfl, rfl, ?_⟩)
    refine W.ret ?_
    exact Ends.one' (.inr rfl) rfl (rfl) rfl rfl trivial
  · refine W.skip ?_
    refine W.seq ?_
    refine W.line (n := 3) (by decide) (its := [⟨27, _, true⟩, ⟨28, _, true⟩, ⟨10, _, true⟩]) (ks := [(2, 28)]) (kk := [(2, 28)]) (live := [3, 5, 6, 9, 10]) (env' := [(3, _), (5, _), (6, _), (9, _), (10, _)])
      (⟨Nat.le_of_ble_eq_true rfl, rfl,
        ⟨⟨rfl, rfl, fun _ τ hb ht hτ => R.mov (evt (hτ 9 _ rfl)) rfl ht⟩,
        ⟨⟨rfl, rfl, fun _ τ hb ht hτ => R.mk (n := n) (evt (hτ 27 _ rfl)) (evt (hτ 27 _ rfl)) (by first | omega | (simp only [List.length_map, List.length_append, List.length_cons, List.length_nil, List.length_take, List.length_drop, List.length_replicate]; omega) | (simp; omega)) (by decide) ht⟩,
        ⟨⟨rfl, rfl, fun _ τ hb ht hτ => R.asgO (hτ 28 _ rfl) rfl ht (by decide)⟩,
        trivial⟩⟩⟩, rfl, rfl, rfl⟩)
      rfl (bx' := [(6, .var _), (5, .var _)]) rfl (n' := 84) rfl (⟨[3, 5, 6, 9, 10], [(3, _), (5, _), (6, _), (9, _), (10, _)], [(6, .var _), (5, .var _)], 84, rfl, rfl, rfl, ?_⟩)
    refine W.seq ?_
    refine W.seq ?_
    refine W.line (n := 1) (by decide) (its := [⟨11, _, true⟩]) (ks := []) (kk := []) (live := [3, 5, 6, 9, 10, 11]) (env' := [(3, _), (5, _), (6, _), (9, _), (10, _), (11, _)])
      (⟨Nat.le_of_ble_eq_true rfl, rfl,
        ⟨⟨rfl, rfl, fun _ τ hb ht hτ => R.asg (show ev _ _ (.const (.int .i64 0)) = some (.int ((0 : Nat) : Int)) from rfl) rfl ht⟩,
        trivial⟩, rfl, rfl, rfl⟩)
      rfl (bx' := [(6, .var _), (5, .var _)]) rfl (n' := 84) rfl (⟨[3, 5, 6, 9, 10, 11], [(3, _), (5, _), (6, _), (9, _), (10, _), (11, _)], [(6, .var _), (5, .var _)], 84, rfl, rfl, rfl, ?_⟩)
    refine W.block ?_
    refine W.loop (α := {q__ : Nat // q__ ≤ n}) (fun q__ => ⟨84, [(3, .ik .i8 far), (5, .ptr 5 0 []), (6, .ptr 6 0 []), (9, .int ((n : Nat) : Int)), (10, .sl (some 23) 32 ((farL p n q__.1).map hashD)), (11, .int ((q__.1 : Nat) : Int))], [(6, .var (hashD p)), (5, .var (hashD id))]⟩) (fun q__ => n - q__.1) ⟨(0), (by first | omega | (simp only [List.length_map, List.length_append, List.length_cons, List.length_nil, List.length_take, List.length_drop, List.length_replicate]; omega) | (simp; omega))⟩ (by simp only [farL_0, List.map_replicate, hashD, zero32]) ?_
    rintro ⟨i, hin⟩
    show W _ _ _ _ ⟨84, [(3, .ik .i8 far), (5, .ptr 5 0 []), (6, .ptr 6 0 []), (9, .int ((n : Nat) : Int)), (10, .sl (some 23) 32 ((farL p n i).map hashD)), (11, .int ((i : Nat) : Int))], [(6, .var (hashD p)), (5, .var (hashD id))]⟩
    have hin : i ≤ n := hin
    have hfl := farL_len p n i hin
    refine W.seq ?_
    refine W.seq ?_
    refine W.line (n := 3) (by decide) (its := [⟨29, _, true⟩, ⟨30, _, true⟩, ⟨31, _, true⟩]) (ks := []) (kk := []) (live := [3, 5, 6, 9, 10, 11, 31]) (env' := [(3, _), (5, _), (6, _), (9, _), (10, _), (11, _), (31, _)])
      (⟨Nat.le_of_ble_eq_true rfl, rfl,
        ⟨⟨rfl, rfl, fun _ τ hb ht hτ => R.mov (evt (hτ 11 _ rfl)) rfl ht⟩,
        ⟨⟨rfl, rfl, fun _ τ hb ht hτ => R.mov (evt (hτ 9 _ rfl)) rfl ht⟩,
        ⟨⟨rfl, rfl, fun _ τ hb ht hτ => R.lssN (i) (n) (evt (hτ 29 _ rfl)) (evt (hτ 30 _ rfl)) ht⟩,
        trivial⟩⟩⟩, rfl, rfl, rfl⟩)
      rfl (bx' := [(6, .var _), (5, .var _)]) rfl (n' := 84) rfl (⟨[3, 5, 6, 9, 10, 11, 31], [(3, _), (5, _), (6, _), (9, _), (10, _), (11, _), (31, _)], [(6, .var _), (5, .var _)], 84, rfl, rfl, rfl, ?_⟩)
    refine W.condD rfl (fun hc31 => ?_) (fun hc31 => ?_)
    · refine W.skip ?_
      refine W.seq ?_
      refine W.block ?_
      refine W.line (n := 5) (by decide) (its := [⟨34, _, true⟩, ⟨35, _, true⟩, ⟨36, _, true⟩, ⟨37, _, true⟩]) (ks := []) (kk := []) (live := [3, 5, 6, 9, 10, 11, 34, 36, 37]) (env' := [(3, _), (5, _), (6, _), (9, _), (10, _), (11, _), (34, _), (36, _), (37, _)])
        (⟨Nat.le_of_ble_eq_true rfl, rfl,
          ⟨⟨rfl, rfl, fun _ τ hb ht hτ => R.al (hτ 10 _ rfl) ht (by decide)⟩,
          ⟨⟨rfl, rfl, fun _ τ hb ht hτ => R.mov (evt (hτ 11 _ rfl)) rfl ht⟩,
          ⟨⟨rfl, rfl, fun _ τ hb ht hτ => R.ldP (hτ 6 _ rfl) (hb 6 _ rfl) rfl rfl rfl rfl ht⟩,
          ⟨⟨rfl, rfl, fun _ τ hb ht hτ => R.idxN (i) (SC.al (hτ 34 _ rfl) (hτ 10 _ rfl)) (evoI (evt (hτ 35 _ rfl))) rfl (by first | omega | (simp only [List.length_map, List.length_append, List.length_cons, List.length_nil, List.length_take, List.length_drop, List.length_replicate]; omega) | (simp; omega)) ht (by decide)⟩,
          trivial⟩⟩⟩⟩, rfl, rfl, rfl⟩)
        rfl (bx' := [(6, .var _), (5, .var _)]) rfl (n' := 84) rfl (⟨rfl, _, R.stEY (show Sg.get _ 37 = some _ from rfl) (Or.inr (show Sg.get _ 34 = some _ from rfl)) (show Sg.get _ 10 = some _ from rfl) (map_get! (l := (farL p n i)) (by first | omega | (simp only [List.length_map, List.length_append, List.length_cons, List.length_nil, List.length_take, List.length_drop, List.length_replicate]; omega) | (simp; omega))) rfl (evt (show Sg.get _ 36 = some _ from rfl)) (by rfl) (by rfl) (by rfl) (by rfl) upd_nil set_map, ⟨[3, 5, 6, 9, 10, 11], [(3, _), (5, _), (6, _), (9, _), (10, _), (11, _)], [(6, .var _), (5, .var _)], 84, rfl, rfl, rfl, ?_⟩⟩)
      refine W.line (n := 3) (by decide) (its := [⟨32, _, true⟩, ⟨33, _, true⟩, ⟨11, _, true⟩]) (ks := []) (kk := []) (live := [3, 5, 6, 9, 10, 11]) (env' := [(3, _), (5, _), (6, _), (9, _), (10, _), (11, _)])
        (⟨Nat.le_of_ble_eq_true rfl, rfl,
          ⟨⟨rfl, rfl, fun _ τ hb ht hτ => R.mov (evt (hτ 11 _ rfl)) rfl ht⟩,
          ⟨⟨rfl, rfl, fun _ τ hb ht hτ => R.addN (i) (1) (evt (hτ 32 _ rfl)) (show ev _ _ (.const (.int .i64 1)) = some (.int ((1 : Nat) : Int)) from rfl) (by first | omega | (simp only [List.length_map, List.length_append, List.length_cons, List.length_nil, List.length_take, List.length_drop, List.length_replicate]; omega) | (simp; omega)) ht⟩,
          ⟨⟨rfl, rfl, fun _ τ hb ht hτ => R.asg (evt (hτ 33 _ rfl)) rfl ht⟩,
          trivial⟩⟩⟩, rfl, rfl, rfl⟩)
        rfl (bx' := [(6, .var _), (5, .var _)]) rfl (n' := 84) rfl (⟨[3, 5, 6, 9, 10, 11], [(3, _), (5, _), (6, _), (9, _), (10, _), (11, _)], [(6, .var _), (5, .var _)], 84, rfl, rfl, rfl, ?_⟩)
      exact ⟨⟨(i + 1), (by first | omega | (simp only [List.length_map, List.length_append, List.length_cons, List.length_nil, List.length_take, List.length_drop, List.length_replicate]; omega) | (simp; omega))⟩, (by rw [← farL_set p n i hc31]), (by simp only []; omega)⟩
    · obtain rfl : n = i := by omega
      refine W.exit ?_
      refine W.seq ?_
      refine W.line (n := 9) (by decide) (its := [⟨39, _, true⟩, ⟨40, _, true⟩, ⟨41, _, true⟩, ⟨38, _, true⟩, ⟨42, _, true⟩, ⟨43, _, true⟩]) (ks := []) (kk := []) (live := [3, 5, 9, 10, 42, 43]) (env' := [(3, _), (5, _), (9, _), (10, _), (42, _), (43, _)])
        (⟨Nat.le_of_ble_eq_true rfl, rfl,
          ⟨⟨rfl, rfl, fun _ τ hb ht hτ => R.ldP (hτ 5 _ rfl) (hb 5 _ rfl) rfl rfl rfl rfl ht⟩,
          ⟨⟨rfl, rfl, fun _ τ hb ht hτ => R.al (hτ 10 _ rfl) ht (by decide)⟩,
          ⟨⟨rfl, rfl, fun _ τ hb ht hτ => R.callG hC (fold_ok id (farL p n n) ((0 : Nat) : Int) hi (farL_all p n hp) (by rw [farL_len _ _ _ (Nat.le_refl _)]; omega) (by decide)) (Bors.cons (Bor.pur (evt (hτ 39 _ rfl)) rfl rfl) (Bors.cons (Bor.sc (SC.al (hτ 40 _ rfl) (hτ 10 _ rfl)) (show List.map D.brw ((farL p n n).map hashD) = (farL p n n).map hashD from brw_map brw_hash)) (Bors.cons (Bor.pur (show ev _ _ (.const (.int .i64 0)) = some (.int ((0 : Nat) : Int)) from rfl) rfl rfl) Bors.nil))) (FrsR.two (frs_hash' _) (.int _)) ht⟩,
          ⟨⟨rfl, rfl, fun _ τ hb ht hτ => R.movT (hτ 41 _ rfl) rfl ht⟩,
          ⟨⟨rfl, rfl, fun _ τ hb ht hτ => R.ext (hτ 38 _ rfl) rfl rfl ht⟩,
          ⟨⟨rfl, rfl, fun _ τ hb ht hτ => R.ext (hτ 38 _ rfl) rfl rfl ht⟩,
          trivial⟩⟩⟩⟩⟩⟩, rfl, rfl, rfl⟩)
        rfl (bx' := [(6, .var _), (5, .var _)]) rfl (n' := 84) rfl (⟨rfl, _, R.alloc rfl (Nat.le_of_ble_eq_true rfl), ⟨rfl, _, R.stZ (show Sg.get _ 12 = some _ from rfl) (show Sg.box _ 12 = some _ from rfl) rfl (evt (show Sg.get _ 42 = some _ from rfl)) (by rfl) (by rfl) (by rfl) (by rfl) rfl, ⟨rfl, _, R.asg (evt (show Sg.get _ 43 = some _ from rfl)) rfl (Nat.le_of_ble_eq_true rfl), ⟨[3, 5, 9, 10, 13], [(3, _), (5, _), (9, _), (10, _), (13, _)], [(12, .var _), (6, .var _), (5, .var _)], 84, rfl, rfl, rfl, ?_⟩⟩⟩⟩)
      refine W.seq ?_
      refine W.seq ?_
      refine W.line (n := 2) (by decide) (its := [⟨44, _, true⟩, ⟨45, _, true⟩]) (ks := []) (kk := []) (live := [3, 5, 9, 10, 13, 45]) (env' := [(3, _), (5, _), (9, _), (10, _), (13, _), (45, _)])
        (⟨Nat.le_of_ble_eq_true rfl, rfl,
          ⟨⟨rfl, rfl, fun _ τ hb ht hτ => R.mov (evt (hτ 9 _ rfl)) rfl ht⟩,
          ⟨⟨rfl, rfl, fun _ τ hb ht hτ => R.gtrN (n) (32) (evt (hτ 44 _ rfl)) (show ev _ _ (.const (.int .i64 32)) = some (.int ((32 : Nat) : Int)) from rfl) ht⟩,
          trivial⟩⟩, rfl, rfl, rfl⟩)
        rfl (bx' := [(12, .var _), (6, .var _), (5, .var _)]) rfl (n' := 84) rfl (⟨[3, 5, 9, 10, 13, 45], [(3, _), (5, _), (9, _), (10, _), (13, _), (45, _)], [(12, .var _), (6, .var _), (5, .var _)], 84, rfl, rfl, rfl, ?_⟩)
      refine W.condD rfl (fun hc45 => ?_) (fun hc45 => ?_)
      · refine W.seq ?_
        refine W.line (n := 6) (by decide) (its := [⟨46, _, true⟩, ⟨47, _, true⟩, ⟨48, _, true⟩, ⟨49, _, true⟩, ⟨50, _, true⟩, ⟨8, _, true⟩]) (ks := []) (kk := []) (live := [8]) (env' := [(8, _)])
          (⟨Nat.le_of_ble_eq_true rfl, rfl,
            ⟨⟨rfl, rfl, fun _ τ hb ht hτ => R.mov (evt (hτ 13 _ rfl)) rfl ht⟩,
            ⟨⟨rfl, rfl, fun _ τ hb ht hτ => R.bin (evt (hτ 46 _ rfl)) (show ev _ _ (.const (.int .i64 6)) = some (.int ((6 : Nat) : Int)) from rfl) rfl trivial ht⟩,
            ⟨⟨rfl, rfl, fun _ τ hb ht hτ => R.mov (evt (hτ 47 _ rfl)) rfl ht⟩,
            ⟨⟨rfl, ⟨_, 48, rfl, rfl, .inl ⟨_, rfl, gw (v := true) (beq_iff_eq.2 (far_many joinS id p n hc45)) rfl⟩⟩, fun _ τ hb ht hτ => R.callG hC (works_ok) Bors.nil (FrsR.one (.bool _)) ht⟩,
            ⟨⟨rfl, rfl, fun _ τ hb ht hτ => R.pickT (evt (hτ 48 _ rfl)) (beq_iff_eq.2 (far_many joinS id p n hc45)) (evt (hτ 49 _ rfl)) rfl ht⟩,
            ⟨⟨rfl, rfl, fun _ τ hb ht hτ => R.asg (evt (hτ 50 _ rfl)) rfl ht⟩,
            trivial⟩⟩⟩⟩⟩⟩, rfl, rfl, rfl⟩)
          rfl (bx' := [(12, .var _), (6, .var _), (5, .var _)]) rfl (n' := 84) rfl (⟨[8], [(8, _)], [(12, .var _), (6, .var _), (5, .var _)], 84, rfl, rfl, rfl, ?_⟩)
        refine W.ret ?_
        exact Ends.one' (.inr rfl) rfl (rfl) rfl rfl trivial
      · refine W.skip ?_
        refine W.seq ?_
        have h2n : 2 ^ n ≤ 4294967296 := Nat.pow_le_pow_right (n := 2) (by decide) (show n ≤ 32 by omega)
        have h2i : (0 : Int) ≤ ((2 ^ n : Nat) : Int) ∧ ((2 ^ n : Nat) : Int) ≤ 4294967296 := ⟨Int.natCast_nonneg _, Int.ofNat_le.2 h2n⟩
        refine W.line (n := 15) (by decide) (its := [⟨52, _, true⟩, ⟨53, _, true⟩, ⟨54, _, true⟩, ⟨55, _, true⟩, ⟨56, _, true⟩, ⟨57, _, true⟩, ⟨58, _, true⟩, ⟨59, _, true⟩, ⟨60, _, true⟩, ⟨51, _, true⟩, ⟨61, _, true⟩, ⟨62, _, true⟩]) (ks := []) (kk := []) (live := [3, 9, 13, 61, 62]) (env' := [(3, _), (9, _), (13, _), (61, _), (62, _)])
          (⟨Nat.le_of_ble_eq_true rfl, rfl,
            ⟨⟨rfl, rfl, fun _ τ hb ht hτ => R.ldP (hτ 5 _ rfl) (hb 5 _ rfl) rfl rfl rfl rfl ht⟩,
            ⟨⟨rfl, rfl, fun _ τ hb ht hτ => R.al (hτ 10 _ rfl) ht (by decide)⟩,
            ⟨⟨rfl, rfl, fun _ τ hb ht hτ => R.mov (evt (hτ 9 _ rfl)) rfl ht⟩,
            ⟨⟨rfl, rfl, fun _ τ hb ht hτ => R.convE (d := .u64 (UInt64.ofNat n)) (evt (hτ 54 _ rfl)) rfl (u64_nat n) ht⟩,
            ⟨⟨rfl, rfl, fun _ τ hb ht hτ => R.binE (d := .int ((2 ^ n : Nat) : Int)) (show ev _ _ (.const (.int .i64 1)) = some (.int ((1 : Nat) : Int)) from rfl) (evt (hτ 55 _ rfl)) rfl (show (0 : Int) ≤ _ by first | omega | (simp only [List.length_map, List.length_append, List.length_cons, List.length_nil, List.length_take, List.length_drop, List.length_replicate]; omega) | (simp; omega)) (shl1 n (by omega)) ht⟩,
            ⟨⟨rfl, rfl, fun _ τ hb ht hτ => R.mov (evt (hτ 3 _ rfl)) rfl ht⟩,
            ⟨⟨rfl, rfl, fun _ τ hb ht hτ => R.convE (d := .int far) (evt (hτ 57 _ rfl)) rfl (wr_eq rfl (by omega) (by omega)) ht⟩,
            ⟨⟨rfl, rfl, fun _ τ hb ht hτ => R.binE (d := .int (((2 ^ n : Nat) : Int) + far)) (evt (hτ 56 _ rfl)) (evt (hτ 58 _ rfl)) rfl trivial (wr_eq rfl (by omega) (by omega)) ht⟩,
            ⟨⟨rfl, rfl, fun _ τ hb ht hτ => R.callG hC (fold_ok id (farL p n n) (((2 ^ n : Nat) : Int) + far) hi (farL_all p n hp) (by rw [farL_len _ _ _ (Nat.le_refl _)]; omega) (by omega)) (Bors.cons (Bor.pur (evt (hτ 52 _ rfl)) rfl rfl) (Bors.cons (Bor.sc (SC.al (hτ 53 _ rfl) (hτ 10 _ rfl)) (show List.map D.brw ((farL p n n).map hashD) = (farL p n n).map hashD from brw_map brw_hash)) (Bors.cons (Bor.pur (evt (hτ 59 _ rfl)) rfl rfl) Bors.nil))) (FrsR.two (frs_hash' _) (.int _)) ht⟩,
            ⟨⟨rfl, rfl, fun _ τ hb ht hτ => R.movT (hτ 60 _ rfl) rfl ht⟩,
            ⟨⟨rfl, rfl, fun _ τ hb ht hτ => R.ext (hτ 51 _ rfl) rfl rfl ht⟩,
            ⟨⟨rfl, rfl, fun _ τ hb ht hτ => R.ext (hτ 51 _ rfl) rfl rfl ht⟩,
            trivial⟩⟩⟩⟩⟩⟩⟩⟩⟩⟩⟩⟩, rfl, rfl, rfl⟩)
          rfl (bx' := [(12, .var _), (6, .var _), (5, .var _)]) rfl (n' := 84) rfl (⟨rfl, _, R.alloc rfl (Nat.le_of_ble_eq_true rfl), ⟨rfl, _, R.stZ (show Sg.get _ 14 = some _ from rfl) (show Sg.box _ 14 = some _ from rfl) rfl (evt (show Sg.get _ 61 = some _ from rfl)) (by rfl) (by rfl) (by rfl) (by rfl) rfl, ⟨rfl, _, R.asg (evt (show Sg.get _ 62 = some _ from rfl)) rfl (Nat.le_of_ble_eq_true rfl), ⟨[3, 9, 13, 15], [(3, _), (9, _), (13, _), (15, _)], [(14, .var _), (12, .var _), (6, .var _), (5, .var _)], 84, rfl, rfl, rfl, ?_⟩⟩⟩⟩)
        refine W.seq ?_
        by_cases hf : 0 ≤ far
        · refine W.line (n := 22) (by decide) (its := [⟨63, _, true⟩, ⟨64, _, true⟩, ⟨65, _, true⟩, ⟨66, _, true⟩, ⟨67, _, true⟩, ⟨68, _, true⟩, ⟨69, _, true⟩, ⟨70, _, true⟩, ⟨71, .dead, false⟩, ⟨72, .dead, false⟩, ⟨73, .dead, false⟩, ⟨74, .dead, false⟩, ⟨75, .dead, false⟩, ⟨76, .dead, false⟩, ⟨77, .dead, false⟩, ⟨78, _, true⟩, ⟨79, _, true⟩, ⟨80, _, true⟩, ⟨81, _, true⟩, ⟨82, _, true⟩, ⟨83, _, true⟩, ⟨8, _, true⟩]) (ks := []) (kk := []) (live := [8]) (env' := [(8, _)])
            (⟨Nat.le_of_ble_eq_true rfl, rfl,
              ⟨⟨rfl, rfl, fun _ τ hb ht hτ => R.mov (evt (hτ 13 _ rfl)) rfl ht⟩,
              ⟨⟨rfl, rfl, fun _ τ hb ht hτ => R.bin (evt (hτ 63 _ rfl)) (show ev _ _ (.const (.int .i64 0)) = some (.int ((0 : Nat) : Int)) from rfl) rfl trivial ht⟩,
              ⟨⟨rfl, rfl, fun _ τ hb ht hτ => R.mov (evt (hτ 64 _ rfl)) rfl ht⟩,
              ⟨⟨rfl, ⟨_, 65, rfl, rfl, .inl ⟨_, rfl, gw (v := true) (beq_iff_eq.2 (far_ok joinS id p n hc45)) rfl⟩⟩, fun _ τ hb ht hτ => R.mov (evt (hτ 15 _ rfl)) rfl ht⟩,
              ⟨⟨rfl, ⟨_, 65, rfl, rfl, .inl ⟨_, rfl, gw (v := true) (beq_iff_eq.2 (far_ok joinS id p n hc45)) rfl⟩⟩, fun _ τ hb ht hτ => R.bin (evt (hτ 66 _ rfl)) (show ev _ _ (.const (.int .i64 1)) = some (.int ((1 : Nat) : Int)) from rfl) rfl trivial ht⟩,
              ⟨⟨rfl, ⟨_, 65, rfl, rfl, .inl ⟨_, rfl, gw (v := true) (beq_iff_eq.2 (far_ok joinS id p n hc45)) rfl⟩⟩, fun _ τ hb ht hτ => R.mov (evt (hτ 3 _ rfl)) rfl ht⟩,
              ⟨⟨rfl, ⟨_, 65, rfl, rfl, .inl ⟨_, rfl, gw (v := true) (beq_iff_eq.2 (far_ok joinS id p n hc45)) rfl⟩⟩, fun _ τ hb ht hτ => R.bin (evt (hτ 68 _ rfl)) (show ev _ _ (.const (.int .i8 0)) = some (.ik .i8 0) from rfl) rfl rfl ht⟩,
              ⟨⟨rfl, ⟨_, 65, rfl, rfl, .inl ⟨_, rfl, gw (v := true) (beq_iff_eq.2 (far_ok joinS id p n hc45)) rfl⟩⟩, fun _ τ hb ht hτ => R.mov (evt (hτ 69 _ rfl)) rfl ht⟩,
              ⟨⟨rfl, ⟨_, 70, rfl, rfl, .inl ⟨_, rfl, gw (v := true) (decide_eq_true hf) rfl⟩⟩, fun h => absurd h (by decide)⟩,
              ⟨⟨rfl, ⟨_, 70, rfl, rfl, .inl ⟨_, rfl, gw (v := true) (decide_eq_true hf) rfl⟩⟩, fun h => absurd h (by decide)⟩,
              ⟨⟨rfl, ⟨_, 70, rfl, rfl, .inl ⟨_, rfl, gw (v := true) (decide_eq_true hf) rfl⟩⟩, fun h => absurd h (by decide)⟩,
              ⟨⟨rfl, ⟨_, 70, rfl, rfl, .inl ⟨_, rfl, gw (v := true) (decide_eq_true hf) rfl⟩⟩, fun h => absurd h (by decide)⟩,
              ⟨⟨rfl, ⟨_, 70, rfl, rfl, .inl ⟨_, rfl, gw (v := true) (decide_eq_true hf) rfl⟩⟩, fun h => absurd h (by decide)⟩,
              ⟨⟨rfl, ⟨_, 70, rfl, rfl, .inl ⟨_, rfl, gw (v := true) (decide_eq_true hf) rfl⟩⟩, fun h => absurd h (by decide)⟩,
              ⟨⟨rfl, ⟨_, 70, rfl, rfl, .inl ⟨_, rfl, gw (v := true) (decide_eq_true hf) rfl⟩⟩, fun h => absurd h (by decide)⟩,
              ⟨⟨rfl, ⟨_, 65, rfl, rfl, .inl ⟨_, rfl, gw (v := true) (beq_iff_eq.2 (far_ok joinS id p n hc45)) rfl⟩⟩, fun _ τ hb ht hτ => R.pickT (evt (hτ 70 _ rfl)) (decide_eq_true hf) (show ev _ _ (.const (.bool true)) = some (.bool true) from rfl) rfl ht⟩,
              ⟨⟨rfl, ⟨_, 65, rfl, rfl, .inl ⟨_, rfl, gw (v := true) (beq_iff_eq.2 (far_ok joinS id p n hc45)) rfl⟩⟩, fun _ τ hb ht hτ => R.eqB (evt (hτ 67 _ rfl)) (evt (hτ 78 _ rfl)) ht⟩,
              ⟨⟨rfl, rfl, fun _ τ hb ht hτ => R.pickT (evt (hτ 65 _ rfl)) (beq_iff_eq.2 (far_ok joinS id p n hc45)) (evt (hτ 79 _ rfl)) rfl ht⟩,
              ⟨⟨rfl, rfl, fun _ τ hb ht hτ => R.mov (evt (hτ 80 _ rfl)) rfl ht⟩,
              ⟨⟨rfl, ⟨_, 81, rfl, rfl, .inl ⟨_, rfl, gw (v := true) (far_T joinS id p n far hc45 hf) rfl⟩⟩, fun _ τ hb ht hτ => R.callG hC (works_ok) Bors.nil (FrsR.one (.bool _)) ht⟩,
              ⟨⟨rfl, rfl, fun _ τ hb ht hτ => R.pickT (evt (hτ 81 _ rfl)) (far_T joinS id p n far hc45 hf) (evt (hτ 82 _ rfl)) rfl ht⟩,
              ⟨⟨rfl, rfl, fun _ τ hb ht hτ => R.asg (evt (hτ 83 _ rfl)) rfl ht⟩,
              trivial⟩⟩⟩⟩⟩⟩⟩⟩⟩⟩⟩⟩⟩⟩⟩⟩⟩⟩⟩⟩⟩⟩, rfl, rfl, rfl⟩)
            rfl (bx' := [(14, .var _), (12, .var _), (6, .var _), (5, .var _)]) rfl (n' := 84) rfl (⟨[8], [(8, _)], [(14, .var _), (12, .var _), (6, .var _), (5, .var _)], 84, rfl, rfl, rfl, ?_⟩)
          refine W.ret ?_
          exact Ends.one' (.inr rfl) rfl (rfl) rfl rfl trivial
        · refine W.line (n := 22) (by decide) (its := [⟨63, _, true⟩, ⟨64, _, true⟩, ⟨65, _, true⟩, ⟨66, _, true⟩, ⟨67, _, true⟩, ⟨68, _, true⟩, ⟨69, _, true⟩, ⟨70, _, true⟩, ⟨71, _, true⟩, ⟨72, _, true⟩, ⟨73, _, true⟩, ⟨74, _, true⟩, ⟨75, _, true⟩, ⟨76, _, true⟩, ⟨77, _, true⟩, ⟨78, _, true⟩, ⟨79, _, true⟩, ⟨80, _, true⟩, ⟨81, _, true⟩, ⟨82, _, true⟩, ⟨83, _, true⟩, ⟨8, _, true⟩]) (ks := []) (kk := []) (live := [8]) (env' := [(8, _)])
            (⟨Nat.le_of_ble_eq_true rfl, rfl,
              ⟨⟨rfl, rfl, fun _ τ hb ht hτ => R.mov (evt (hτ 13 _ rfl)) rfl ht⟩,
              ⟨⟨rfl, rfl, fun _ τ hb ht hτ => R.bin (evt (hτ 63 _ rfl)) (show ev _ _ (.const (.int .i64 0)) = some (.int ((0 : Nat) : Int)) from rfl) rfl trivial ht⟩,
              ⟨⟨rfl, rfl, fun _ τ hb ht hτ => R.mov (evt (hτ 64 _ rfl)) rfl ht⟩,
              ⟨⟨rfl, ⟨_, 65, rfl, rfl, .inl ⟨_, rfl, gw (v := true) (beq_iff_eq.2 (far_ok joinS id p n hc45)) rfl⟩⟩, fun _ τ hb ht hτ => R.mov (evt (hτ 15 _ rfl)) rfl ht⟩,
              ⟨⟨rfl, ⟨_, 65, rfl, rfl, .inl ⟨_, rfl, gw (v := true) (beq_iff_eq.2 (far_ok joinS id p n hc45)) rfl⟩⟩, fun _ τ hb ht hτ => R.bin (evt (hτ 66 _ rfl)) (show ev _ _ (.const (.int .i64 1)) = some (.int ((1 : Nat) : Int)) from rfl) rfl trivial ht⟩,
              ⟨⟨rfl, ⟨_, 65, rfl, rfl, .inl ⟨_, rfl, gw (v := true) (beq_iff_eq.2 (far_ok joinS id p n hc45)) rfl⟩⟩, fun _ τ hb ht hτ => R.mov (evt (hτ 3 _ rfl)) rfl ht⟩,
              ⟨⟨rfl, ⟨_, 65, rfl, rfl, .inl ⟨_, rfl, gw (v := true) (beq_iff_eq.2 (far_ok joinS id p n hc45)) rfl⟩⟩, fun _ τ hb ht hτ => R.bin (evt (hτ 68 _ rfl)) (show ev _ _ (.const (.int .i8 0)) = some (.ik .i8 0) from rfl) rfl rfl ht⟩,
              ⟨⟨rfl, ⟨_, 65, rfl, rfl, .inl ⟨_, rfl, gw (v := true) (beq_iff_eq.2 (far_ok joinS id p n hc45)) rfl⟩⟩, fun _ τ hb ht hτ => R.mov (evt (hτ 69 _ rfl)) rfl ht⟩,
              ⟨⟨rfl, ⟨_, 70, rfl, rfl, .inl ⟨_, rfl, gw (v := false) (decide_eq_false hf) rfl⟩⟩, fun _ τ hb ht hτ => R.mov (evt (hτ 9 _ rfl)) rfl ht⟩,
              ⟨⟨rfl, ⟨_, 70, rfl, rfl, .inl ⟨_, rfl, gw (v := false) (decide_eq_false hf) rfl⟩⟩, fun _ τ hb ht hτ => R.convE (d := .u64 (UInt64.ofNat n)) (evt (hτ 71 _ rfl)) rfl (u64_nat n) ht⟩,
              ⟨⟨rfl, ⟨_, 70, rfl, rfl, .inl ⟨_, rfl, gw (v := false) (decide_eq_false hf) rfl⟩⟩, fun _ τ hb ht hτ => R.binE (d := .int ((2 ^ n : Nat) : Int)) (show ev _ _ (.const (.int .i64 1)) = some (.int ((1 : Nat) : Int)) from rfl) (evt (hτ 72 _ rfl)) rfl (show (0 : Int) ≤ _ by first | omega | (simp only [List.length_map, List.length_append, List.length_cons, List.length_nil, List.length_take, List.length_drop, List.length_replicate]; omega) | (simp; omega)) (shl1 n (by omega)) ht⟩,
              ⟨⟨rfl, ⟨_, 70, rfl, rfl, .inl ⟨_, rfl, gw (v := false) (decide_eq_false hf) rfl⟩⟩, fun _ τ hb ht hτ => R.mov (evt (hτ 3 _ rfl)) rfl ht⟩,
              ⟨⟨rfl, ⟨_, 70, rfl, rfl, .inl ⟨_, rfl, gw (v := false) (decide_eq_false hf) rfl⟩⟩, fun _ τ hb ht hτ => R.convE (d := .int far) (evt (hτ 74 _ rfl)) rfl (wr_eq rfl (by omega) (by omega)) ht⟩,
              ⟨⟨rfl, ⟨_, 70, rfl, rfl, .inl ⟨_, rfl, gw (v := false) (decide_eq_false hf) rfl⟩⟩, fun _ τ hb ht hτ => R.binE (d := .int (((2 ^ n : Nat) : Int) + far)) (evt (hτ 73 _ rfl)) (evt (hτ 75 _ rfl)) rfl trivial (wr_eq rfl (by omega) (by omega)) ht⟩,
              ⟨⟨rfl, ⟨_, 70, rfl, rfl, .inl ⟨_, rfl, gw (v := false) (decide_eq_false hf) rfl⟩⟩, fun _ τ hb ht hτ => R.bin (evt (hτ 76 _ rfl)) (show ev _ _ (.const (.int .i64 0)) = some (.int ((0 : Nat) : Int)) from rfl) rfl trivial ht⟩,
              ⟨⟨rfl, ⟨_, 65, rfl, rfl, .inl ⟨_, rfl, gw (v := true) (beq_iff_eq.2 (far_ok joinS id p n hc45)) rfl⟩⟩, fun _ τ hb ht hτ => R.pickF (evt (hτ 70 _ rfl)) (decide_eq_false hf) (evt (hτ 77 _ rfl)) rfl ht⟩,
              ⟨⟨rfl, ⟨_, 65, rfl, rfl, .inl ⟨_, rfl, gw (v := true) (beq_iff_eq.2 (far_ok joinS id p n hc45)) rfl⟩⟩, fun _ τ hb ht hτ => R.eqB (evt (hτ 67 _ rfl)) (evt (hτ 78 _ rfl)) ht⟩,
              ⟨⟨rfl, rfl, fun _ τ hb ht hτ => R.pickT (evt (hτ 65 _ rfl)) (beq_iff_eq.2 (far_ok joinS id p n hc45)) (evt (hτ 79 _ rfl)) rfl ht⟩,
              ⟨⟨rfl, rfl, fun _ τ hb ht hτ => R.mov (evt (hτ 80 _ rfl)) rfl ht⟩,
              ⟨⟨rfl, ⟨_, 81, rfl, rfl, .inl ⟨_, rfl, gw (v := true) (far_F joinS id p n far hc45 hf) rfl⟩⟩, fun _ τ hb ht hτ => R.callG hC (works_ok) Bors.nil (FrsR.one (.bool _)) ht⟩,
              ⟨⟨rfl, rfl, fun _ τ hb ht hτ => R.pickT (evt (hτ 81 _ rfl)) (far_F joinS id p n far hc45 hf) (evt (hτ 82 _ rfl)) rfl ht⟩,
              ⟨⟨rfl, rfl, fun _ τ hb ht hτ => R.asg (evt (hτ 83 _ rfl)) rfl ht⟩,
              trivial⟩⟩⟩⟩⟩⟩⟩⟩⟩⟩⟩⟩⟩⟩⟩⟩⟩⟩⟩⟩⟩⟩, rfl, rfl, rfl⟩)
            rfl (bx' := [(14, .var _), (12, .var _), (6, .var _), (5, .var _)]) rfl (n' := 84) rfl (⟨[8], [(8, _)], [(14, .var _), (12, .var _), (6, .var _), (5, .var _)], 84, rfl, rfl, rfl, ?_⟩)
          refine W.ret ?_
          exact Ends.one' (.inr rfl) rfl (rfl) rfl rfl trivial

end Go.Sx
