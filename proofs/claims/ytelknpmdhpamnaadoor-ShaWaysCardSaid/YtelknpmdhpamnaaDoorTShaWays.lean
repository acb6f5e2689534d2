/- Proved: what functions of the given program compute (used by the theorem of this claim). Conditions: none but those that each theorem states. -/
import Derived.Test.YtelknpmdhpamnaaDoorSha4
import Derived.Test.YtelknpmdhpamnaaDoorShaLaw2
set_option linter.unusedVariables false
set_option linter.unusedSimpArgs false
set_option linter.unnecessarySimpa false
namespace Go.Sx
open Go.Proofs
theorem shaways_ok (a b c : List UInt8) : Fn Tryd.prog gl 6 [.sl none 1 (a.map D.u8), .sl none 1 (b.map D.u8), .sl none 1 (c.map D.u8)] (.bool true) := by
  refine Fn.of (n := 89) Tryd.func6 rfl rfl rfl (Nat.le_of_ble_eq_true rfl) fun C hC => ?_
  refine W.seq ?_
  refine W.line (n := 1) (by decide) (its := [⟨6, _, true⟩]) (ks := []) (kk := []) (live := [0, 1, 2]) (env' := [(0, _), (1, _), (2, _)])
    (⟨Nat.le_of_ble_eq_true rfl, rfl,
      ⟨⟨rfl, rfl, fun _ τ hb ht hτ => R.asg (show ev _ _ (.const (.bool false)) = some (.bool false) from rfl) rfl ht⟩,
      trivial⟩, rfl, rfl, rfl⟩)
    rfl (bx' := []) rfl (n' := 89) rfl (⟨[0, 1, 2], [(0, _), (1, _), (2, _)], [], 89, rfl, rfl, rfl, ?_⟩)
  refine W.seq ?_
  refine W.seq ?_
  by_cases h1 : 4096 < a.length
  · refine W.line (n := 13) (by decide) (its := [⟨14, _, true⟩, ⟨15, _, true⟩, ⟨16, _, true⟩, ⟨17, _, true⟩, ⟨18, .dead, false⟩, ⟨19, .dead, false⟩, ⟨20, .dead, false⟩, ⟨21, _, true⟩, ⟨22, _, true⟩, ⟨23, .dead, false⟩, ⟨24, .dead, false⟩, ⟨25, .dead, false⟩, ⟨26, _, true⟩]) (ks := []) (kk := []) (live := [0, 1, 2, 26]) (env' := [(0, _), (1, _), (2, _), (26, _)])
      (⟨Nat.le_of_ble_eq_true rfl, rfl,
        ⟨⟨rfl, rfl, fun _ τ hb ht hτ => R.mov (evt (hτ 0 _ rfl)) rfl ht⟩,
        ⟨⟨rfl, rfl, fun _ τ hb ht hτ => R.lenE (SC.sl (hτ 14 _ rfl)) (List.length_map _) ht⟩,
        ⟨⟨rfl, rfl, fun _ τ hb ht hτ => R.gtrN (a.length) (4096) (evt (hτ 15 _ rfl)) (show ev _ _ (.const (.int .i64 4096)) = some (.int ((4096 : Nat) : Int)) from rfl) ht⟩,
        ⟨⟨rfl, rfl, fun _ τ hb ht hτ => R.mov (evt (hτ 16 _ rfl)) rfl ht⟩,
        ⟨⟨rfl, ⟨_, 17, rfl, rfl, .inl ⟨_, rfl, gw (v := true) (decide_eq_true h1) rfl⟩⟩, fun h => absurd h (by decide)⟩,
        ⟨⟨rfl, ⟨_, 17, rfl, rfl, .inl ⟨_, rfl, gw (v := true) (decide_eq_true h1) rfl⟩⟩, fun h => absurd h (by decide)⟩,
        ⟨⟨rfl, ⟨_, 17, rfl, rfl, .inl ⟨_, rfl, gw (v := true) (decide_eq_true h1) rfl⟩⟩, fun h => absurd h (by decide)⟩,
        ⟨⟨rfl, rfl, fun _ τ hb ht hτ => R.pickT (evt (hτ 17 _ rfl)) (decide_eq_true h1) (show ev _ _ (.const (.bool true)) = some (.bool true) from rfl) rfl ht⟩,
        ⟨⟨rfl, rfl, fun _ τ hb ht hτ => R.mov (evt (hτ 21 _ rfl)) rfl ht⟩,
        ⟨⟨rfl, ⟨_, 22, rfl, rfl, .inl ⟨_, rfl, gw (v := true) (rfl) rfl⟩⟩, fun h => absurd h (by decide)⟩,
        ⟨⟨rfl, ⟨_, 22, rfl, rfl, .inl ⟨_, rfl, gw (v := true) (rfl) rfl⟩⟩, fun h => absurd h (by decide)⟩,
        ⟨⟨rfl, ⟨_, 22, rfl, rfl, .inl ⟨_, rfl, gw (v := true) (rfl) rfl⟩⟩, fun h => absurd h (by decide)⟩,
        ⟨⟨rfl, rfl, fun _ τ hb ht hτ => R.pickT (evt (hτ 22 _ rfl)) (rfl) (show ev _ _ (.const (.bool true)) = some (.bool true) from rfl) rfl ht⟩,
        trivial⟩⟩⟩⟩⟩⟩⟩⟩⟩⟩⟩⟩⟩, rfl, rfl, rfl⟩)
      rfl (bx' := []) rfl (n' := 89) rfl (⟨[0, 1, 2, 26], [(0, _), (1, _), (2, _), (26, _)], [], 89, rfl, rfl, rfl, ?_⟩)
    refine W.condT rfl (rfl) ?_
    refine W.seq ?_
    refine W.line (n := 2) (by decide) (its := [⟨27, _, true⟩, ⟨6, _, true⟩]) (ks := []) (kk := []) (live := [6]) (env' := [(6, _)])
      (⟨Nat.le_of_ble_eq_true rfl, rfl,
        ⟨⟨rfl, rfl, fun _ τ hb ht hτ => R.callG hC (works_ok) Bors.nil (FrsR.one (.bool _)) ht⟩,
        ⟨⟨rfl, rfl, fun _ τ hb ht hτ => R.asg (evt (hτ 27 _ rfl)) rfl ht⟩,
        trivial⟩⟩, rfl, rfl, rfl⟩)
      rfl (bx' := []) rfl (n' := 89) rfl (⟨[6], [(6, _)], [], 89, rfl, rfl, rfl, ?_⟩)
    refine W.ret ?_
    exact Ends.one' (.inr rfl) rfl (rfl) rfl rfl trivial
  · by_cases h2 : 4096 < b.length
    · refine W.line (n := 13) (by decide) (its := [⟨14, _, true⟩, ⟨15, _, true⟩, ⟨16, _, true⟩, ⟨17, _, true⟩, ⟨18, _, true⟩, ⟨19, _, true⟩, ⟨20, _, true⟩, ⟨21, _, true⟩, ⟨22, _, true⟩, ⟨23, .dead, false⟩, ⟨24, .dead, false⟩, ⟨25, .dead, false⟩, ⟨26, _, true⟩]) (ks := []) (kk := []) (live := [0, 1, 2, 26]) (env' := [(0, _), (1, _), (2, _), (26, _)])
        (⟨Nat.le_of_ble_eq_true rfl, rfl,
          ⟨⟨rfl, rfl, fun _ τ hb ht hτ => R.mov (evt (hτ 0 _ rfl)) rfl ht⟩,
          ⟨⟨rfl, rfl, fun _ τ hb ht hτ => R.lenE (SC.sl (hτ 14 _ rfl)) (List.length_map _) ht⟩,
          ⟨⟨rfl, rfl, fun _ τ hb ht hτ => R.gtrN (a.length) (4096) (evt (hτ 15 _ rfl)) (show ev _ _ (.const (.int .i64 4096)) = some (.int ((4096 : Nat) : Int)) from rfl) ht⟩,
          ⟨⟨rfl, rfl, fun _ τ hb ht hτ => R.mov (evt (hτ 16 _ rfl)) rfl ht⟩,
          ⟨⟨rfl, ⟨_, 17, rfl, rfl, .inl ⟨_, rfl, gw (v := false) (decide_eq_false h1) rfl⟩⟩, fun _ τ hb ht hτ => R.mov (evt (hτ 1 _ rfl)) rfl ht⟩,
          ⟨⟨rfl, ⟨_, 17, rfl, rfl, .inl ⟨_, rfl, gw (v := false) (decide_eq_false h1) rfl⟩⟩, fun _ τ hb ht hτ => R.lenE (SC.sl (hτ 18 _ rfl)) (List.length_map _) ht⟩,
          ⟨⟨rfl, ⟨_, 17, rfl, rfl, .inl ⟨_, rfl, gw (v := false) (decide_eq_false h1) rfl⟩⟩, fun _ τ hb ht hτ => R.gtrN (b.length) (4096) (evt (hτ 19 _ rfl)) (show ev _ _ (.const (.int .i64 4096)) = some (.int ((4096 : Nat) : Int)) from rfl) ht⟩,
          ⟨⟨rfl, rfl, fun _ τ hb ht hτ => R.pickF (evt (hτ 17 _ rfl)) (decide_eq_false h1) (evt (hτ 20 _ rfl)) rfl ht⟩,
          ⟨⟨rfl, rfl, fun _ τ hb ht hτ => R.mov (evt (hτ 21 _ rfl)) rfl ht⟩,
          ⟨⟨rfl, ⟨_, 22, rfl, rfl, .inl ⟨_, rfl, gw (v := true) (decide_eq_true h2) rfl⟩⟩, fun h => absurd h (by decide)⟩,
          ⟨⟨rfl, ⟨_, 22, rfl, rfl, .inl ⟨_, rfl, gw (v := true) (decide_eq_true h2) rfl⟩⟩, fun h => absurd h (by decide)⟩,
          ⟨⟨rfl, ⟨_, 22, rfl, rfl, .inl ⟨_, rfl, gw (v := true) (decide_eq_true h2) rfl⟩⟩, fun h => absurd h (by decide)⟩,
          ⟨⟨rfl, rfl, fun _ τ hb ht hτ => R.pickT (evt (hτ 22 _ rfl)) (decide_eq_true h2) (show ev _ _ (.const (.bool true)) = some (.bool true) from rfl) rfl ht⟩,
          trivial⟩⟩⟩⟩⟩⟩⟩⟩⟩⟩⟩⟩⟩, rfl, rfl, rfl⟩)
        rfl (bx' := []) rfl (n' := 89) rfl (⟨[0, 1, 2, 26], [(0, _), (1, _), (2, _), (26, _)], [], 89, rfl, rfl, rfl, ?_⟩)
      refine W.condT rfl (rfl) ?_
      refine W.seq ?_
      refine W.line (n := 2) (by decide) (its := [⟨27, _, true⟩, ⟨6, _, true⟩]) (ks := []) (kk := []) (live := [6]) (env' := [(6, _)])
        (⟨Nat.le_of_ble_eq_true rfl, rfl,
          ⟨⟨rfl, rfl, fun _ τ hb ht hτ => R.callG hC (works_ok) Bors.nil (FrsR.one (.bool _)) ht⟩,
          ⟨⟨rfl, rfl, fun _ τ hb ht hτ => R.asg (evt (hτ 27 _ rfl)) rfl ht⟩,
          trivial⟩⟩, rfl, rfl, rfl⟩)
        rfl (bx' := []) rfl (n' := 89) rfl (⟨[6], [(6, _)], [], 89, rfl, rfl, rfl, ?_⟩)
      refine W.ret ?_
      exact Ends.one' (.inr rfl) rfl (rfl) rfl rfl trivial
    · by_cases h3 : 4096 < c.length
      · refine W.line (n := 13) (by decide) (its := [⟨14, _, true⟩, ⟨15, _, true⟩, ⟨16, _, true⟩, ⟨17, _, true⟩, ⟨18, _, true⟩, ⟨19, _, true⟩, ⟨20, _, true⟩, ⟨21, _, true⟩, ⟨22, _, true⟩, ⟨23, _, true⟩, ⟨24, _, true⟩, ⟨25, _, true⟩, ⟨26, _, true⟩]) (ks := []) (kk := []) (live := [0, 1, 2, 26]) (env' := [(0, _), (1, _), (2, _), (26, _)])
          (⟨Nat.le_of_ble_eq_true rfl, rfl,
            ⟨⟨rfl, rfl, fun _ τ hb ht hτ => R.mov (evt (hτ 0 _ rfl)) rfl ht⟩,
            ⟨⟨rfl, rfl, fun _ τ hb ht hτ => R.lenE (SC.sl (hτ 14 _ rfl)) (List.length_map _) ht⟩,
            ⟨⟨rfl, rfl, fun _ τ hb ht hτ => R.gtrN (a.length) (4096) (evt (hτ 15 _ rfl)) (show ev _ _ (.const (.int .i64 4096)) = some (.int ((4096 : Nat) : Int)) from rfl) ht⟩,
            ⟨⟨rfl, rfl, fun _ τ hb ht hτ => R.mov (evt (hτ 16 _ rfl)) rfl ht⟩,
            ⟨⟨rfl, ⟨_, 17, rfl, rfl, .inl ⟨_, rfl, gw (v := false) (decide_eq_false h1) rfl⟩⟩, fun _ τ hb ht hτ => R.mov (evt (hτ 1 _ rfl)) rfl ht⟩,
            ⟨⟨rfl, ⟨_, 17, rfl, rfl, .inl ⟨_, rfl, gw (v := false) (decide_eq_false h1) rfl⟩⟩, fun _ τ hb ht hτ => R.lenE (SC.sl (hτ 18 _ rfl)) (List.length_map _) ht⟩,
            ⟨⟨rfl, ⟨_, 17, rfl, rfl, .inl ⟨_, rfl, gw (v := false) (decide_eq_false h1) rfl⟩⟩, fun _ τ hb ht hτ => R.gtrN (b.length) (4096) (evt (hτ 19 _ rfl)) (show ev _ _ (.const (.int .i64 4096)) = some (.int ((4096 : Nat) : Int)) from rfl) ht⟩,
            ⟨⟨rfl, rfl, fun _ τ hb ht hτ => R.pickF (evt (hτ 17 _ rfl)) (decide_eq_false h1) (evt (hτ 20 _ rfl)) rfl ht⟩,
            ⟨⟨rfl, rfl, fun _ τ hb ht hτ => R.mov (evt (hτ 21 _ rfl)) rfl ht⟩,
            ⟨⟨rfl, ⟨_, 22, rfl, rfl, .inl ⟨_, rfl, gw (v := false) (decide_eq_false h2) rfl⟩⟩, fun _ τ hb ht hτ => R.mov (evt (hτ 2 _ rfl)) rfl ht⟩,
            ⟨⟨rfl, ⟨_, 22, rfl, rfl, .inl ⟨_, rfl, gw (v := false) (decide_eq_false h2) rfl⟩⟩, fun _ τ hb ht hτ => R.lenE (SC.sl (hτ 23 _ rfl)) (List.length_map _) ht⟩,
            ⟨⟨rfl, ⟨_, 22, rfl, rfl, .inl ⟨_, rfl, gw (v := false) (decide_eq_false h2) rfl⟩⟩, fun _ τ hb ht hτ => R.gtrN (c.length) (4096) (evt (hτ 24 _ rfl)) (show ev _ _ (.const (.int .i64 4096)) = some (.int ((4096 : Nat) : Int)) from rfl) ht⟩,
            ⟨⟨rfl, rfl, fun _ τ hb ht hτ => R.pickF (evt (hτ 22 _ rfl)) (decide_eq_false h2) (evt (hτ 25 _ rfl)) rfl ht⟩,
            trivial⟩⟩⟩⟩⟩⟩⟩⟩⟩⟩⟩⟩⟩, rfl, rfl, rfl⟩)
          rfl (bx' := []) rfl (n' := 89) rfl (⟨[0, 1, 2, 26], [(0, _), (1, _), (2, _), (26, _)], [], 89, rfl, rfl, rfl, ?_⟩)
        refine W.condT rfl (decide_eq_true h3) ?_
        refine W.seq ?_
        refine W.line (n := 2) (by decide) (its := [⟨27, _, true⟩, ⟨6, _, true⟩]) (ks := []) (kk := []) (live := [6]) (env' := [(6, _)])
          (⟨Nat.le_of_ble_eq_true rfl, rfl,
            ⟨⟨rfl, rfl, fun _ τ hb ht hτ => R.callG hC (works_ok) Bors.nil (FrsR.one (.bool _)) ht⟩,
            ⟨⟨rfl, rfl, fun _ τ hb ht hτ => R.asg (evt (hτ 27 _ rfl)) rfl ht⟩,
            trivial⟩⟩, rfl, rfl, rfl⟩)
          rfl (bx' := []) rfl (n' := 89) rfl (⟨[6], [(6, _)], [], 89, rfl, rfl, rfl, ?_⟩)
        refine W.ret ?_
        exact Ends.one' (.inr rfl) rfl (rfl) rfl rfl trivial
      · refine W.line (n := 13) (by decide) (its := [⟨14, _, true⟩, ⟨15, _, true⟩, ⟨16, _, true⟩, ⟨17, _, true⟩, ⟨18, _, true⟩, ⟨19, _, true⟩, ⟨20, _, true⟩, ⟨21, _, true⟩, ⟨22, _, true⟩, ⟨23, _, true⟩, ⟨24, _, true⟩, ⟨25, _, true⟩, ⟨26, _, true⟩]) (ks := []) (kk := []) (live := [0, 1, 2, 26]) (env' := [(0, _), (1, _), (2, _), (26, _)])
          (⟨Nat.le_of_ble_eq_true rfl, rfl,
            ⟨⟨rfl, rfl, fun _ τ hb ht hτ => R.mov (evt (hτ 0 _ rfl)) rfl ht⟩,
            ⟨⟨rfl, rfl, fun _ τ hb ht hτ => R.lenE (SC.sl (hτ 14 _ rfl)) (List.length_map _) ht⟩,
            ⟨⟨rfl, rfl, fun _ τ hb ht hτ => R.gtrN (a.length) (4096) (evt (hτ 15 _ rfl)) (show ev _ _ (.const (.int .i64 4096)) = some (.int ((4096 : Nat) : Int)) from rfl) ht⟩,
            ⟨⟨rfl, rfl, fun _ τ hb ht hτ => R.mov (evt (hτ 16 _ rfl)) rfl ht⟩,
            ⟨⟨rfl, ⟨_, 17, rfl, rfl, .inl ⟨_, rfl, gw (v := false) (decide_eq_false h1) rfl⟩⟩, fun _ τ hb ht hτ => R.mov (evt (hτ 1 _ rfl)) rfl ht⟩,
            ⟨⟨rfl, ⟨_, 17, rfl, rfl, .inl ⟨_, rfl, gw (v := false) (decide_eq_false h1) rfl⟩⟩, fun _ τ hb ht hτ => R.lenE (SC.sl (hτ 18 _ rfl)) (List.length_map _) ht⟩,
            ⟨⟨rfl, ⟨_, 17, rfl, rfl, .inl ⟨_, rfl, gw (v := false) (decide_eq_false h1) rfl⟩⟩, fun _ τ hb ht hτ => R.gtrN (b.length) (4096) (evt (hτ 19 _ rfl)) (show ev _ _ (.const (.int .i64 4096)) = some (.int ((4096 : Nat) : Int)) from rfl) ht⟩,
            ⟨⟨rfl, rfl, fun _ τ hb ht hτ => R.pickF (evt (hτ 17 _ rfl)) (decide_eq_false h1) (evt (hτ 20 _ rfl)) rfl ht⟩,
            ⟨⟨rfl, rfl, fun _ τ hb ht hτ => R.mov (evt (hτ 21 _ rfl)) rfl ht⟩,
            ⟨⟨rfl, ⟨_, 22, rfl, rfl, .inl ⟨_, rfl, gw (v := false) (decide_eq_false h2) rfl⟩⟩, fun _ τ hb ht hτ => R.mov (evt (hτ 2 _ rfl)) rfl ht⟩,
            ⟨⟨rfl, ⟨_, 22, rfl, rfl, .inl ⟨_, rfl, gw (v := false) (decide_eq_false h2) rfl⟩⟩, fun _ τ hb ht hτ => R.lenE (SC.sl (hτ 23 _ rfl)) (List.length_map _) ht⟩,
            ⟨⟨rfl, ⟨_, 22, rfl, rfl, .inl ⟨_, rfl, gw (v := false) (decide_eq_false h2) rfl⟩⟩, fun _ τ hb ht hτ => R.gtrN (c.length) (4096) (evt (hτ 24 _ rfl)) (show ev _ _ (.const (.int .i64 4096)) = some (.int ((4096 : Nat) : Int)) from rfl) ht⟩,
            ⟨⟨rfl, rfl, fun _ τ hb ht hτ => R.pickF (evt (hτ 22 _ rfl)) (decide_eq_false h2) (evt (hτ 25 _ rfl)) rfl ht⟩,
            trivial⟩⟩⟩⟩⟩⟩⟩⟩⟩⟩⟩⟩⟩, rfl, rfl, rfl⟩)
          rfl (bx' := []) rfl (n' := 89) rfl (⟨[0, 1, 2, 26], [(0, _), (1, _), (2, _), (26, _)], [], 89, rfl, rfl, rfl, ?_⟩)
        refine W.condF rfl (decide_eq_false h3) ?_
        refine W.skip ?_
        refine W.seq ?_
        refine W.line (n := 5) (by decide) (its := [⟨28, _, true⟩, ⟨29, _, true⟩, ⟨30, _, true⟩]) (ks := []) (kk := []) (live := [0, 1, 2, 30]) (env' := [(0, _), (1, _), (2, _), (30, _)])
          (⟨Nat.le_of_ble_eq_true rfl, rfl,
            ⟨⟨rfl, rfl, fun _ τ hb ht hτ => R.callG hC (begin_ok) Bors.nil (FrsR.one (frs_st _)) ht⟩,
            ⟨⟨rfl, rfl, fun _ τ hb ht hτ => R.mov (evt (hτ 0 _ rfl)) rfl ht⟩,
            ⟨⟨rfl, rfl, fun _ τ hb ht hτ => R.callG hC (add_ok (ShaS.start) a (ShaS.start_ok) (by omega)) (Bors.cons (Bor.pur (evt (hτ 28 _ rfl)) rfl rfl) (Bors.cons (Bor.pur (evt (hτ 29 _ rfl)) rfl rfl) Bors.nil)) (FrsR.one (frs_st _)) ht⟩,
            trivial⟩⟩⟩, rfl, rfl, rfl⟩)
          rfl (bx' := []) rfl (n' := 89) rfl (⟨rfl, _, R.alloc rfl (Nat.le_of_ble_eq_true rfl), ⟨rfl, _, R.stZ (show Sg.get _ 7 = some _ from rfl) (show Sg.box _ 7 = some _ from rfl) rfl (evt (show Sg.get _ 30 = some _ from rfl)) (by rfl) (by rfl) (by rfl) (by rfl) rfl, ⟨[0, 1, 2, 7], [(0, _), (1, _), (2, _), (7, _)], [(7, .var _)], 89, rfl, rfl, rfl, ?_⟩⟩⟩)
        refine W.seq ?_
        refine W.line (n := 5) (by decide) (its := [⟨31, _, true⟩, ⟨32, _, true⟩, ⟨33, _, true⟩]) (ks := []) (kk := []) (live := [0, 1, 2, 7, 33]) (env' := [(0, _), (1, _), (2, _), (7, _), (33, _)])
          (⟨Nat.le_of_ble_eq_true rfl, rfl,
            ⟨⟨rfl, rfl, fun _ τ hb ht hτ => R.ldP (hτ 7 _ rfl) (hb 7 _ rfl) rfl rfl rfl rfl ht⟩,
            ⟨⟨rfl, rfl, fun _ τ hb ht hτ => R.mov (evt (hτ 1 _ rfl)) rfl ht⟩,
            ⟨⟨rfl, rfl, fun _ τ hb ht hτ => R.callG hC (add_ok (addS ShaS.start a) b (addS_ok _ _ ShaS.start_ok) (by omega)) (Bors.cons (Bor.pur (evt (hτ 31 _ rfl)) rfl rfl) (Bors.cons (Bor.pur (evt (hτ 32 _ rfl)) rfl rfl) Bors.nil)) (FrsR.one (frs_st _)) ht⟩,
            trivial⟩⟩⟩, rfl, rfl, rfl⟩)
          rfl (bx' := [(7, .var _)]) rfl (n' := 89) rfl (⟨rfl, _, R.alloc rfl (Nat.le_of_ble_eq_true rfl), ⟨rfl, _, R.stZ (show Sg.get _ 8 = some _ from rfl) (show Sg.box _ 8 = some _ from rfl) rfl (evt (show Sg.get _ 33 = some _ from rfl)) (by rfl) (by rfl) (by rfl) (by rfl) rfl, ⟨[0, 1, 2, 7, 8], [(0, _), (1, _), (2, _), (7, _), (8, _)], [(8, .var _), (7, .var _)], 89, rfl, rfl, rfl, ?_⟩⟩⟩)
        refine W.seq ?_
        refine W.line (n := 5) (by decide) (its := [⟨34, _, true⟩, ⟨35, _, true⟩, ⟨36, _, true⟩]) (ks := []) (kk := []) (live := [0, 1, 2, 7, 8, 36]) (env' := [(0, _), (1, _), (2, _), (7, _), (8, _), (36, _)])
          (⟨Nat.le_of_ble_eq_true rfl, rfl,
            ⟨⟨rfl, rfl, fun _ τ hb ht hτ => R.ldP (hτ 7 _ rfl) (hb 7 _ rfl) rfl rfl rfl rfl ht⟩,
            ⟨⟨rfl, rfl, fun _ τ hb ht hτ => R.mov (evt (hτ 2 _ rfl)) rfl ht⟩,
            ⟨⟨rfl, rfl, fun _ τ hb ht hτ => R.callG hC (add_ok (addS ShaS.start a) c (addS_ok _ _ ShaS.start_ok) (by omega)) (Bors.cons (Bor.pur (evt (hτ 34 _ rfl)) rfl rfl) (Bors.cons (Bor.pur (evt (hτ 35 _ rfl)) rfl rfl) Bors.nil)) (FrsR.one (frs_st _)) ht⟩,
            trivial⟩⟩⟩, rfl, rfl, rfl⟩)
          rfl (bx' := [(8, .var _), (7, .var _)]) rfl (n' := 89) rfl (⟨rfl, _, R.alloc rfl (Nat.le_of_ble_eq_true rfl), ⟨rfl, _, R.stZ (show Sg.get _ 9 = some _ from rfl) (show Sg.box _ 9 = some _ from rfl) rfl (evt (show Sg.get _ 36 = some _ from rfl)) (by rfl) (by rfl) (by rfl) (by rfl) rfl, ⟨[0, 1, 2, 7, 8, 9], [(0, _), (1, _), (2, _), (7, _), (8, _), (9, _)], [(9, .var _), (8, .var _), (7, .var _)], 89, rfl, rfl, rfl, ?_⟩⟩⟩)
        refine W.seq ?_
        refine W.line (n := 5) (by decide) (its := [⟨37, _, true⟩, ⟨38, _, true⟩, ⟨39, _, true⟩]) (ks := []) (kk := []) (live := [0, 1, 2, 7, 8, 9, 39]) (env' := [(0, _), (1, _), (2, _), (7, _), (8, _), (9, _), (39, _)])
          (⟨Nat.le_of_ble_eq_true rfl, rfl,
            ⟨⟨rfl, rfl, fun _ τ hb ht hτ => R.ldP (hτ 8 _ rfl) (hb 8 _ rfl) rfl rfl rfl rfl ht⟩,
            ⟨⟨rfl, rfl, fun _ τ hb ht hτ => R.mov (evt (hτ 2 _ rfl)) rfl ht⟩,
            ⟨⟨rfl, rfl, fun _ τ hb ht hτ => R.callG hC (add_ok (addS (addS ShaS.start a) b) c (addS_ok _ _ (addS_ok _ _ ShaS.start_ok)) (by omega)) (Bors.cons (Bor.pur (evt (hτ 37 _ rfl)) rfl rfl) (Bors.cons (Bor.pur (evt (hτ 38 _ rfl)) rfl rfl) Bors.nil)) (FrsR.one (frs_st _)) ht⟩,
            trivial⟩⟩⟩, rfl, rfl, rfl⟩)
          rfl (bx' := [(9, .var _), (8, .var _), (7, .var _)]) rfl (n' := 89) rfl (⟨rfl, _, R.alloc rfl (Nat.le_of_ble_eq_true rfl), ⟨rfl, _, R.stZ (show Sg.get _ 10 = some _ from rfl) (show Sg.box _ 10 = some _ from rfl) rfl (evt (show Sg.get _ 39 = some _ from rfl)) (by rfl) (by rfl) (by rfl) (by rfl) rfl, ⟨[0, 1, 2, 7, 8, 9, 10], [(0, _), (1, _), (2, _), (7, _), (8, _), (9, _), (10, _)], [(10, .var _), (9, .var _), (8, .var _), (7, .var _)], 89, rfl, rfl, rfl, ?_⟩⟩⟩)
        refine W.seq ?_
        refine W.line (n := 7) (by decide) (its := [⟨40, _, true⟩, ⟨41, _, true⟩, ⟨42, _, true⟩, ⟨43, _, true⟩, ⟨44, _, true⟩]) (ks := [(3, 41)]) (kk := [(3, 41)]) (live := [0, 1, 2, 7, 8, 9, 10, 44]) (env' := [(0, _), (1, _), (2, _), (7, _), (8, _), (9, _), (10, _), (44, _)])
          (⟨Nat.le_of_ble_eq_true rfl, rfl,
            ⟨⟨rfl, rfl, fun _ τ hb ht hτ => R.mov (evt (hτ 0 _ rfl)) rfl ht⟩,
            ⟨⟨rfl, rfl, fun _ τ hb ht hτ => R.callG hC (copied_ok a (by omega)) (Bors.cons (Bor.pur (evt (hτ 40 _ rfl)) rfl rfl) Bors.nil) (FrsR.one (.sl _ _ _ (frs_map fun _ => .u8 _))) ht⟩,
            ⟨⟨rfl, rfl, fun _ τ hb ht hτ => R.mov (evt (hτ 1 _ rfl)) rfl ht⟩,
            ⟨⟨rfl, rfl, fun _ τ hb ht hτ => R.appE (Or.inl rfl) (hτ 41 _ rfl) (SrcO.sc (SC.sl (hτ 42 _ rfl)) (pur_map (fun _ => rfl))) (app_map) (by first | omega | (simp only [List.length_map, List.length_append, List.length_cons, List.length_nil, List.length_take, List.length_drop, List.length_replicate]; omega) | (simp; omega)) ht (by decide) (by decide)⟩,
            ⟨⟨rfl, rfl, fun _ τ hb ht hτ => R.callG hC (sum_ok (a ++ b) (by simp only [List.length_append]; omega)) (Bors.cons (Bor.sc (SC.sl (hτ 43 _ rfl)) (brw_map (fun _ => rfl))) Bors.nil) (FrsR.one (frs_hash _)) ht⟩,
            trivial⟩⟩⟩⟩⟩, rfl, rfl, rfl⟩)
          rfl (bx' := [(10, .var _), (9, .var _), (8, .var _), (7, .var _)]) rfl (n' := 89) rfl (⟨rfl, _, R.alloc rfl (Nat.le_of_ble_eq_true rfl), ⟨rfl, _, R.stZ (show Sg.get _ 11 = some _ from rfl) (show Sg.box _ 11 = some _ from rfl) rfl (evt (show Sg.get _ 44 = some _ from rfl)) (by rfl) (by rfl) (by rfl) (by rfl) rfl, ⟨[0, 1, 2, 7, 8, 9, 10, 11], [(0, _), (1, _), (2, _), (7, _), (8, _), (9, _), (10, _), (11, _)], [(11, .var _), (10, .var _), (9, .var _), (8, .var _), (7, .var _)], 89, rfl, rfl, rfl, ?_⟩⟩⟩)
        refine W.seq ?_
        refine W.line (n := 7) (by decide) (its := [⟨45, _, true⟩, ⟨46, _, true⟩, ⟨47, _, true⟩, ⟨48, _, true⟩, ⟨49, _, true⟩]) (ks := [(3, 46)]) (kk := [(3, 46)]) (live := [0, 1, 2, 7, 8, 9, 10, 11, 49]) (env' := [(0, _), (1, _), (2, _), (7, _), (8, _), (9, _), (10, _), (11, _), (49, _)])
          (⟨Nat.le_of_ble_eq_true rfl, rfl,
            ⟨⟨rfl, rfl, fun _ τ hb ht hτ => R.mov (evt (hτ 0 _ rfl)) rfl ht⟩,
            ⟨⟨rfl, rfl, fun _ τ hb ht hτ => R.callG hC (copied_ok a (by omega)) (Bors.cons (Bor.pur (evt (hτ 45 _ rfl)) rfl rfl) Bors.nil) (FrsR.one (.sl _ _ _ (frs_map fun _ => .u8 _))) ht⟩,
            ⟨⟨rfl, rfl, fun _ τ hb ht hτ => R.mov (evt (hτ 2 _ rfl)) rfl ht⟩,
            ⟨⟨rfl, rfl, fun _ τ hb ht hτ => R.appE (Or.inl rfl) (hτ 46 _ rfl) (SrcO.sc (SC.sl (hτ 47 _ rfl)) (pur_map (fun _ => rfl))) (app_map) (by first | omega | (simp only [List.length_map, List.length_append, List.length_cons, List.length_nil, List.length_take, List.length_drop, List.length_replicate]; omega) | (simp; omega)) ht (by decide) (by decide)⟩,
            ⟨⟨rfl, rfl, fun _ τ hb ht hτ => R.callG hC (sum_ok (a ++ c) (by simp only [List.length_append]; omega)) (Bors.cons (Bor.sc (SC.sl (hτ 48 _ rfl)) (brw_map (fun _ => rfl))) Bors.nil) (FrsR.one (frs_hash _)) ht⟩,
            trivial⟩⟩⟩⟩⟩, rfl, rfl, rfl⟩)
          rfl (bx' := [(11, .var _), (10, .var _), (9, .var _), (8, .var _), (7, .var _)]) rfl (n' := 89) rfl (⟨rfl, _, R.alloc rfl (Nat.le_of_ble_eq_true rfl), ⟨rfl, _, R.stZ (show Sg.get _ 12 = some _ from rfl) (show Sg.box _ 12 = some _ from rfl) rfl (evt (show Sg.get _ 49 = some _ from rfl)) (by rfl) (by rfl) (by rfl) (by rfl) rfl, ⟨[0, 1, 2, 7, 8, 9, 10, 11, 12], [(0, _), (1, _), (2, _), (7, _), (8, _), (9, _), (10, _), (11, _), (12, _)], [(12, .var _), (11, .var _), (10, .var _), (9, .var _), (8, .var _), (7, .var _)], 89, rfl, rfl, rfl, ?_⟩⟩⟩)
        refine W.seq ?_
        refine W.line (n := 9) (by decide) (its := [⟨50, _, true⟩, ⟨51, _, true⟩, ⟨52, _, true⟩, ⟨53, _, true⟩, ⟨54, _, true⟩, ⟨55, _, true⟩, ⟨56, _, true⟩]) (ks := [(3, 51), (5, 53)]) (kk := [(3, 51), (5, 53)]) (live := [0, 7, 8, 9, 10, 11, 12, 56]) (env' := [(0, _), (7, _), (8, _), (9, _), (10, _), (11, _), (12, _), (56, _)])
          (⟨Nat.le_of_ble_eq_true rfl, rfl,
            ⟨⟨rfl, rfl, fun _ τ hb ht hτ => R.mov (evt (hτ 0 _ rfl)) rfl ht⟩,
            ⟨⟨rfl, rfl, fun _ τ hb ht hτ => R.callG hC (copied_ok a (by omega)) (Bors.cons (Bor.pur (evt (hτ 50 _ rfl)) rfl rfl) Bors.nil) (FrsR.one (.sl _ _ _ (frs_map fun _ => .u8 _))) ht⟩,
            ⟨⟨rfl, rfl, fun _ τ hb ht hτ => R.mov (evt (hτ 1 _ rfl)) rfl ht⟩,
            ⟨⟨rfl, rfl, fun _ τ hb ht hτ => R.appE (Or.inl rfl) (hτ 51 _ rfl) (SrcO.sc (SC.sl (hτ 52 _ rfl)) (pur_map (fun _ => rfl))) (app_map) (by first | omega | (simp only [List.length_map, List.length_append, List.length_cons, List.length_nil, List.length_take, List.length_drop, List.length_replicate]; omega) | (simp; omega)) ht (by decide) (by decide)⟩,
            ⟨⟨rfl, rfl, fun _ τ hb ht hτ => R.mov (evt (hτ 2 _ rfl)) rfl ht⟩,
            ⟨⟨rfl, rfl, fun _ τ hb ht hτ => R.appE (Or.inl rfl) (hτ 53 _ rfl) (SrcO.sc (SC.sl (hτ 54 _ rfl)) (pur_map (fun _ => rfl))) (app_map) (by first | omega | (simp only [List.length_map, List.length_append, List.length_cons, List.length_nil, List.length_take, List.length_drop, List.length_replicate]; omega) | (simp; omega)) ht (by decide) (by decide)⟩,
            ⟨⟨rfl, rfl, fun _ τ hb ht hτ => R.callG hC (sum_ok (a ++ b ++ c) (by simp only [List.length_append]; omega)) (Bors.cons (Bor.sc (SC.sl (hτ 55 _ rfl)) (brw_map (fun _ => rfl))) Bors.nil) (FrsR.one (frs_hash _)) ht⟩,
            trivial⟩⟩⟩⟩⟩⟩⟩, rfl, rfl, rfl⟩)
          rfl (bx' := [(12, .var _), (11, .var _), (10, .var _), (9, .var _), (8, .var _), (7, .var _)]) rfl (n' := 89) rfl (⟨rfl, _, R.alloc rfl (Nat.le_of_ble_eq_true rfl), ⟨rfl, _, R.stZ (show Sg.get _ 13 = some _ from rfl) (show Sg.box _ 13 = some _ from rfl) rfl (evt (show Sg.get _ 56 = some _ from rfl)) (by rfl) (by rfl) (by rfl) (by rfl) rfl, ⟨[0, 7, 8, 9, 10, 11, 12, 13], [(0, _), (7, _), (8, _), (9, _), (10, _), (11, _), (12, _), (13, _)], [(13, .var _), (12, .var _), (11, .var _), (10, .var _), (9, .var _), (8, .var _), (7, .var _)], 89, rfl, rfl, rfl, ?_⟩⟩⟩)
        refine W.seq ?_
        refine W.draw (m := 33) (an := (0 :: 1 :: 0 :: 7 :: 15 :: 31 :: 63 :: 31 :: 255 :: 511 :: 1023 :: 2047 :: 4095 :: 2047 :: 16383 :: 32767 :: 65535 :: 131071 :: 262143 :: 131071 :: 1048575 :: 2097151 :: 4194303 :: 8388607 :: 16777215 :: 33554431 :: 16777215 :: 134217727 :: 268435455 :: 536870911 :: 1073741823 :: 2147483647 :: 4294967295 :: [])) hP (by decide) rfl (its := (⟨57, _, true⟩ :: ⟨58, _, true⟩ :: ⟨59, _, true⟩ :: ⟨60, _, true⟩ :: ⟨61, _, true⟩ :: ⟨62, _, true⟩ :: ⟨63, _, true⟩ :: ⟨64, _, true⟩ :: ⟨65, _, true⟩ :: ⟨66, _, true⟩ :: ⟨67, _, true⟩ :: ⟨68, _, true⟩ :: ⟨69, _, true⟩ :: ⟨70, _, true⟩ :: ⟨71, _, true⟩ :: ⟨72, _, true⟩ :: ⟨73, _, true⟩ :: ⟨74, _, true⟩ :: ⟨75, _, true⟩ :: ⟨76, _, true⟩ :: ⟨77, _, true⟩ :: ⟨78, _, true⟩ :: ⟨79, _, true⟩ :: ⟨80, _, true⟩ :: ⟨81, _, true⟩ :: ⟨82, _, true⟩ :: ⟨83, _, true⟩ :: ⟨84, _, true⟩ :: ⟨85, _, true⟩ :: ⟨86, _, true⟩ :: ⟨87, _, true⟩ :: ⟨88, _, true⟩ :: ⟨6, _, true⟩ :: [])) (ks := []) (kk := []) (live := [6]) (env' := [(6, _)])
          (⟨Nat.le_of_ble_eq_true rfl, rfl,
            ⟨⟨rfl, rfl, fun _ τ hb ht hτ => R.ldP (hτ 8 _ rfl) (hb 8 _ rfl) rfl rfl rfl rfl ht⟩,
            ⟨⟨rfl, rfl, fun _ τ hb ht hτ => R.callG hC (end_ok (addS (addS ShaS.start a) b) (addS_ok _ _ (addS_ok _ _ ShaS.start_ok))) (Bors.cons (Bor.pur (evt (hτ 57 _ rfl)) rfl rfl) Bors.nil) (FrsR.one (frs_hash _)) ht⟩,
            ⟨⟨rfl, rfl, fun _ τ hb ht hτ => R.ldP (hτ 11 _ rfl) (hb 11 _ rfl) rfl rfl rfl rfl ht⟩,
            ⟨⟨rfl, rfl, fun _ τ hb ht hτ => R.eqAE (evt (hτ 58 _ rfl)) (evt (hτ 59 _ rfl)) ht⟩,
            ⟨⟨rfl, rfl, fun _ τ hb ht hτ => R.mov (evt (hτ 60 _ rfl)) rfl ht⟩,
            ⟨⟨rfl, ⟨_, 61, rfl, rfl, .inl ⟨_, rfl, gw (v := true) (ways_eq a b) rfl⟩⟩, fun _ τ hb ht hτ => R.ldP (hτ 9 _ rfl) (hb 9 _ rfl) rfl rfl rfl rfl ht⟩,
            ⟨⟨rfl, ⟨_, 61, rfl, rfl, .inl ⟨_, rfl, gw (v := true) (ways_eq a b) rfl⟩⟩, fun _ τ hb ht hτ => R.callG hC (end_ok (addS (addS ShaS.start a) c) (addS_ok _ _ (addS_ok _ _ ShaS.start_ok))) (Bors.cons (Bor.pur (evt (hτ 62 _ rfl)) rfl rfl) Bors.nil) (FrsR.one (frs_hash _)) ht⟩,
            ⟨⟨rfl, ⟨_, 61, rfl, rfl, .inl ⟨_, rfl, gw (v := true) (ways_eq a b) rfl⟩⟩, fun _ τ hb ht hτ => R.ldP (hτ 12 _ rfl) (hb 12 _ rfl) rfl rfl rfl rfl ht⟩,
            ⟨⟨rfl, ⟨_, 61, rfl, rfl, .inl ⟨_, rfl, gw (v := true) (ways_eq a b) rfl⟩⟩, fun _ τ hb ht hτ => R.eqAE (evt (hτ 63 _ rfl)) (evt (hτ 64 _ rfl)) ht⟩,
            ⟨⟨rfl, rfl, fun _ τ hb ht hτ => R.pickT (evt (hτ 61 _ rfl)) (ways_eq a b) (evt (hτ 65 _ rfl)) rfl ht⟩,
            ⟨⟨rfl, rfl, fun _ τ hb ht hτ => R.mov (evt (hτ 66 _ rfl)) rfl ht⟩,
            ⟨⟨rfl, ⟨_, 67, rfl, rfl, .inl ⟨_, rfl, gw (v := true) (ways_eq a c) rfl⟩⟩, fun _ τ hb ht hτ => R.ldP (hτ 10 _ rfl) (hb 10 _ rfl) rfl rfl rfl rfl ht⟩,
            ⟨⟨rfl, ⟨_, 67, rfl, rfl, .inl ⟨_, rfl, gw (v := true) (ways_eq a c) rfl⟩⟩, fun _ τ hb ht hτ => R.callG hC (end_ok (addS (addS (addS ShaS.start a) b) c) (addS_ok _ _ (addS_ok _ _ (addS_ok _ _ ShaS.start_ok)))) (Bors.cons (Bor.pur (evt (hτ 68 _ rfl)) rfl rfl) Bors.nil) (FrsR.one (frs_hash _)) ht⟩,
            ⟨⟨rfl, ⟨_, 67, rfl, rfl, .inl ⟨_, rfl, gw (v := true) (ways_eq a c) rfl⟩⟩, fun _ τ hb ht hτ => R.ldP (hτ 13 _ rfl) (hb 13 _ rfl) rfl rfl rfl rfl ht⟩,
            ⟨⟨rfl, ⟨_, 67, rfl, rfl, .inl ⟨_, rfl, gw (v := true) (ways_eq a c) rfl⟩⟩, fun _ τ hb ht hτ => R.eqAE (evt (hτ 69 _ rfl)) (evt (hτ 70 _ rfl)) ht⟩,
            ⟨⟨rfl, rfl, fun _ τ hb ht hτ => R.pickT (evt (hτ 67 _ rfl)) (ways_eq a c) (evt (hτ 71 _ rfl)) rfl ht⟩,
            ⟨⟨rfl, rfl, fun _ τ hb ht hτ => R.mov (evt (hτ 72 _ rfl)) rfl ht⟩,
            ⟨⟨rfl, ⟨_, 73, rfl, rfl, .inl ⟨_, rfl, gw (v := true) (ways_eq3 a b c) rfl⟩⟩, fun _ τ hb ht hτ => R.ldP (hτ 7 _ rfl) (hb 7 _ rfl) rfl rfl rfl rfl ht⟩,
            ⟨⟨rfl, ⟨_, 73, rfl, rfl, .inl ⟨_, rfl, gw (v := true) (ways_eq3 a b c) rfl⟩⟩, fun _ τ hb ht hτ => R.callG hC (end_ok (addS ShaS.start a) (addS_ok _ _ ShaS.start_ok)) (Bors.cons (Bor.pur (evt (hτ 74 _ rfl)) rfl rfl) Bors.nil) (FrsR.one (frs_hash _)) ht⟩,
            ⟨⟨rfl, ⟨_, 73, rfl, rfl, .inl ⟨_, rfl, gw (v := true) (ways_eq3 a b c) rfl⟩⟩, fun _ τ hb ht hτ => R.mov (evt (hτ 0 _ rfl)) rfl ht⟩,
            ⟨⟨rfl, ⟨_, 73, rfl, rfl, .inl ⟨_, rfl, gw (v := true) (ways_eq3 a b c) rfl⟩⟩, fun _ τ hb ht hτ => R.callG hC (sum_ok a (by omega)) (Bors.cons (Bor.pur (evt (hτ 76 _ rfl)) rfl rfl) Bors.nil) (FrsR.one (frs_hash _)) ht⟩,
            ⟨⟨rfl, ⟨_, 73, rfl, rfl, .inl ⟨_, rfl, gw (v := true) (ways_eq3 a b c) rfl⟩⟩, fun _ τ hb ht hτ => R.eqAE (evt (hτ 75 _ rfl)) (evt (hτ 77 _ rfl)) ht⟩,
            ⟨⟨rfl, rfl, fun _ τ hb ht hτ => R.pickT (evt (hτ 73 _ rfl)) (ways_eq3 a b c) (evt (hτ 78 _ rfl)) rfl ht⟩,
            ⟨⟨rfl, rfl, fun _ τ hb ht hτ => R.mov (evt (hτ 79 _ rfl)) rfl ht⟩,
            ⟨⟨rfl, ⟨_, 80, rfl, rfl, .inl ⟨_, rfl, gw (v := true) (ways_eq1 a) rfl⟩⟩, fun _ τ hb ht hτ => R.ldP (hτ 8 _ rfl) (hb 8 _ rfl) rfl rfl rfl rfl ht⟩,
            ⟨⟨rfl, ⟨_, 80, rfl, rfl, .inl ⟨_, rfl, gw (v := true) (ways_eq1 a) rfl⟩⟩, fun _ τ hb ht hτ => R.callG hC (end_ok (addS (addS ShaS.start a) b) (addS_ok _ _ (addS_ok _ _ ShaS.start_ok))) (Bors.cons (Bor.pur (evt (hτ 81 _ rfl)) rfl rfl) Bors.nil) (FrsR.one (frs_hash _)) ht⟩,
            ⟨⟨rfl, ⟨_, 80, rfl, rfl, .inl ⟨_, rfl, gw (v := true) (ways_eq1 a) rfl⟩⟩, fun _ τ hb ht hτ => R.ldP (hτ 11 _ rfl) (hb 11 _ rfl) rfl rfl rfl rfl ht⟩,
            ⟨⟨rfl, ⟨_, 80, rfl, rfl, .inl ⟨_, rfl, gw (v := true) (ways_eq1 a) rfl⟩⟩, fun _ τ hb ht hτ => R.eqAE (evt (hτ 82 _ rfl)) (evt (hτ 83 _ rfl)) ht⟩,
            ⟨⟨rfl, rfl, fun _ τ hb ht hτ => R.pickT (evt (hτ 80 _ rfl)) (ways_eq1 a) (evt (hτ 84 _ rfl)) rfl ht⟩,
            ⟨⟨rfl, rfl, fun _ τ hb ht hτ => R.mov (evt (hτ 85 _ rfl)) rfl ht⟩,
            ⟨⟨rfl, ⟨_, 86, rfl, rfl, .inl ⟨_, rfl, gw (v := true) (ways_eq a b) rfl⟩⟩, fun _ τ hb ht hτ => R.callG hC (works_ok) Bors.nil (FrsR.one (.bool _)) ht⟩,
            ⟨⟨rfl, rfl, fun _ τ hb ht hτ => R.pickT (evt (hτ 86 _ rfl)) (ways_eq a b) (evt (hτ 87 _ rfl)) rfl ht⟩,
            ⟨⟨rfl, rfl, fun _ τ hb ht hτ => R.asg (evt (hτ 88 _ rfl)) rfl ht⟩,
            trivial⟩⟩⟩⟩⟩⟩⟩⟩⟩⟩⟩⟩⟩⟩⟩⟩⟩⟩⟩⟩⟩⟩⟩⟩⟩⟩⟩⟩⟩⟩⟩⟩⟩, rfl, rfl, rfl⟩)
          rfl (bx' := [(13, .var _), (12, .var _), (11, .var _), (10, .var _), (9, .var _), (8, .var _), (7, .var _)]) rfl (n' := 89) rfl (⟨[6], [(6, _)], [(13, .var _), (12, .var _), (11, .var _), (10, .var _), (9, .var _), (8, .var _), (7, .var _)], 89, rfl, rfl, rfl, ?_⟩)
        refine W.ret ?_
        exact Ends.one' (.inr rfl) rfl (rfl) rfl rfl trivial

end Go.Sx
