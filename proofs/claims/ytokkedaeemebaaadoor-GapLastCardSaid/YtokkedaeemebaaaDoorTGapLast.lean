/- Proved: what functions of the given program compute (used by the theorem of this claim). Conditions: none but those that each theorem states. -/
import Derived.Test.YtokkedaeemebaaaDoorGp6
import Derived.Test.YtokkedaeemebaaaDoorGapLaw2
set_option linter.unusedVariables false
set_option linter.unusedSimpArgs false
set_option linter.unnecessarySimpa false
namespace Go.Sx
open Go.Proofs
theorem last_ok (used : List Int) (x : UInt8) (hr0 : ∀ u ∈ used, -9223372036854775808 ≤ u ∧ u ≤ 9223372036854775807) : Fn Tryd.prog gl 4 [.sl none 1 (used.map D.int), .u8 x] (.bool true) := by
  refine Fn.of (n := 85) Tryd.func4 rfl rfl rfl (Nat.le_of_ble_eq_true rfl) fun C hC => ?_
  have hiw := watch_nat used (g := (1 + x.toNat % 50)) (by omega) (by omega)
  have hlo := hiw.lo
  have hhi := hiw.hi
  refine W.seq ?_
  refine W.line (n := 1) (by decide) (its := [⟨4, _, true⟩]) (ks := []) (kk := []) (live := [0, 1]) (env' := [(0, _), (1, _)])
    (⟨Nat.le_of_ble_eq_true rfl, rfl,
      ⟨⟨rfl, rfl, fun _ τ hb ht hτ => R.asg (show ev _ _ (.const (.bool false)) = some (.bool false) from rfl) rfl ht⟩,
      trivial⟩, rfl, rfl, rfl⟩)
    rfl (bx' := []) rfl (n' := 85) rfl (⟨[0, 1], [(0, _), (1, _)], [], 85, rfl, rfl, rfl, ?_⟩)
  refine W.seq ?_
  refine W.seq ?_
  refine W.line (n := 3) (by decide) (its := [⟨10, _, true⟩, ⟨11, _, true⟩, ⟨12, _, true⟩]) (ks := []) (kk := []) (live := [0, 1, 12]) (env' := [(0, _), (1, _), (12, _)])
    (⟨Nat.le_of_ble_eq_true rfl, rfl,
      ⟨⟨rfl, rfl, fun _ τ hb ht hτ => R.mov (evt (hτ 0 _ rfl)) rfl ht⟩,
      ⟨⟨rfl, rfl, fun _ τ hb ht hτ => R.lenE (SC.sl (hτ 10 _ rfl)) (List.length_map _) ht⟩,
      ⟨⟨rfl, rfl, fun _ τ hb ht hτ => R.gtrN (used.length) (200) (evt (hτ 11 _ rfl)) (show ev _ _ (.const (.int .i64 200)) = some (.int ((200 : Nat) : Int)) from rfl) ht⟩,
      trivial⟩⟩⟩, rfl, rfl, rfl⟩)
    rfl (bx' := []) rfl (n' := 85) rfl (⟨[0, 1, 12], [(0, _), (1, _), (12, _)], [], 85, rfl, rfl, rfl, ?_⟩)
  refine W.condD rfl (fun hc12 => ?_) (fun hc12 => ?_)
  · refine W.seq ?_
    refine W.line (n := 2) (by decide) (its := [⟨13, _, true⟩, ⟨4, _, true⟩]) (ks := []) (kk := []) (live := [4]) (env' := [(4, _)])
      (⟨Nat.le_of_ble_eq_true rfl, rfl,
        ⟨⟨rfl, rfl, fun _ τ hb ht hτ => R.callG hC (works_ok) Bors.nil (FrsR.one (.bool _)) ht⟩,
        ⟨⟨rfl, rfl, fun _ τ hb ht hτ => R.asg (evt (hτ 13 _ rfl)) rfl ht⟩,
        trivial⟩⟩, rfl, rfl, rfl⟩)
      rfl (bx' := []) rfl (n' := 85) rfl (⟨[4], [(4, _)], [], 85, rfl, rfl, rfl, ?_⟩)
    refine W.ret ?_
    exact Ends.one' (.inr rfl) rfl (rfl) rfl rfl trivial
  · refine W.skip ?_
    refine W.seq ?_
    refine W.line (n := 5) (by decide) (its := [⟨14, _, true⟩, ⟨15, _, true⟩, ⟨16, _, true⟩, ⟨17, _, true⟩, ⟨5, _, true⟩]) (ks := []) (kk := []) (live := [0, 5]) (env' := [(0, _), (5, _)])
      (⟨Nat.le_of_ble_eq_true rfl, rfl,
        ⟨⟨rfl, rfl, fun _ τ hb ht hτ => R.mov (evt (hτ 1 _ rfl)) rfl ht⟩,
        ⟨⟨rfl, rfl, fun _ τ hb ht hτ => R.conv (evt (hτ 14 _ rfl)) rfl ht⟩,
        ⟨⟨rfl, rfl, fun _ τ hb ht hτ => R.remN (x.toNat) (50) (evt (hτ 15 _ rfl)) (show ev _ _ (.const (.int .i64 50)) = some (.int ((50 : Nat) : Int)) from rfl) (by first | omega | (simp only [List.length_map, List.length_append, List.length_cons, List.length_nil, List.length_take, List.length_drop, List.length_replicate]; omega) | (simp; omega)) ht⟩,
        ⟨⟨rfl, rfl, fun _ τ hb ht hτ => R.addN (1) ((x.toNat % 50)) (show ev _ _ (.const (.int .i64 1)) = some (.int ((1 : Nat) : Int)) from rfl) (evt (hτ 16 _ rfl)) (by first | omega | (simp only [List.length_map, List.length_append, List.length_cons, List.length_nil, List.length_take, List.length_drop, List.length_replicate]; omega) | (simp; omega)) ht⟩,
        ⟨⟨rfl, rfl, fun _ τ hb ht hτ => R.asg (evt (hτ 17 _ rfl)) rfl ht⟩,
        trivial⟩⟩⟩⟩⟩, rfl, rfl, rfl⟩)
      rfl (bx' := []) rfl (n' := 85) rfl (⟨[0, 5], [(0, _), (5, _)], [], 85, rfl, rfl, rfl, ?_⟩)
    refine W.seq ?_
    refine W.line (n := 4) (by decide) (its := [⟨18, _, true⟩, ⟨19, _, true⟩, ⟨20, _, true⟩, ⟨6, _, true⟩]) (ks := []) (kk := []) (live := [0, 5, 6]) (env' := [(0, _), (5, _), (6, _)])
      (⟨Nat.le_of_ble_eq_true rfl, rfl,
        ⟨⟨rfl, rfl, fun _ τ hb ht hτ => R.mov (evt (hτ 0 _ rfl)) rfl ht⟩,
        ⟨⟨rfl, rfl, fun _ τ hb ht hτ => R.mov (evt (hτ 5 _ rfl)) rfl ht⟩,
        ⟨⟨rfl, rfl, fun _ τ hb ht hτ => R.callG hC (watch_ok used (((1 + x.toNat % 50) : Nat) : Int) (by omega) hr0 (by omega)) (Bors.cons (Bor.pur (evt (hτ 18 _ rfl)) rfl rfl) (Bors.cons (Bor.pur (evt (hτ 19 _ rfl)) rfl rfl) Bors.nil)) (FrsR.one (.int _)) ht⟩,
        ⟨⟨rfl, rfl, fun _ τ hb ht hτ => R.asg (evt (hτ 20 _ rfl)) rfl ht⟩,
        trivial⟩⟩⟩⟩, rfl, rfl, rfl⟩)
      rfl (bx' := []) rfl (n' := 85) rfl (⟨[0, 5, 6], [(0, _), (5, _), (6, _)], [], 85, rfl, rfl, rfl, ?_⟩)
    refine W.seq ?_
    refine W.seq ?_
    refine W.line (n := 7) (by decide) (its := [⟨21, _, true⟩, ⟨22, _, true⟩, ⟨23, _, true⟩, ⟨24, _, true⟩, ⟨25, _, true⟩, ⟨26, _, true⟩, ⟨27, _, true⟩]) (ks := []) (kk := []) (live := [0, 5, 6, 27]) (env' := [(0, _), (5, _), (6, _), (27, _)])
      (⟨Nat.le_of_ble_eq_true rfl, rfl,
        ⟨⟨rfl, rfl, fun _ τ hb ht hτ => R.mov (evt (hτ 6 _ rfl)) rfl ht⟩,
        ⟨⟨rfl, rfl, fun _ τ hb ht hτ => R.mov (evt (hτ 5 _ rfl)) rfl ht⟩,
        ⟨⟨rfl, rfl, fun _ τ hb ht hτ => R.lssN (watchS used (((1 + x.toNat % 50) : Nat) : Int)) ((1 + (x.toNat % 50))) (evt (hτ 21 _ rfl)) (evt (hτ 22 _ rfl)) ht⟩,
        ⟨⟨rfl, rfl, fun _ τ hb ht hτ => R.mov (evt (hτ 23 _ rfl)) rfl ht⟩,
        ⟨⟨rfl, ⟨_, 24, rfl, rfl, .inl ⟨_, rfl, gw (v := false) (decide_eq_false (by omega)) rfl⟩⟩, fun _ τ hb ht hτ => R.mov (evt (hτ 6 _ rfl)) rfl ht⟩,
        ⟨⟨rfl, ⟨_, 24, rfl, rfl, .inl ⟨_, rfl, gw (v := false) (decide_eq_false (by omega)) rfl⟩⟩, fun _ τ hb ht hτ => R.gtrN (watchS used (((1 + x.toNat % 50) : Nat) : Int)) (200) (evt (hτ 25 _ rfl)) (show ev _ _ (.const (.int .i64 200)) = some (.int ((200 : Nat) : Int)) from rfl) ht⟩,
        ⟨⟨rfl, rfl, fun _ τ hb ht hτ => R.pickF (evt (hτ 24 _ rfl)) (decide_eq_false (by omega)) (evt (hτ 26 _ rfl)) rfl ht⟩,
        trivial⟩⟩⟩⟩⟩⟩⟩, rfl, rfl, rfl⟩)
      rfl (bx' := []) rfl (n' := 85) rfl (⟨[0, 5, 6, 27], [(0, _), (5, _), (6, _), (27, _)], [], 85, rfl, rfl, rfl, ?_⟩)
    refine W.condF rfl (decide_eq_false (by omega)) ?_
    refine W.skip ?_
    refine W.seq ?_
    refine W.seq ?_
    refine W.line (n := 2) (by decide) (its := [⟨28, _, true⟩, ⟨7, _, true⟩]) (ks := []) (kk := []) (live := [0, 5, 6, 7]) (env' := [(0, _), (5, _), (6, _), (7, _)])
      (⟨Nat.le_of_ble_eq_true rfl, rfl,
        ⟨⟨rfl, rfl, fun _ τ hb ht hτ => R.mov (evt (hτ 5 _ rfl)) rfl ht⟩,
        ⟨⟨rfl, rfl, fun _ τ hb ht hτ => R.asg (evt (hτ 28 _ rfl)) rfl ht⟩,
        trivial⟩⟩, rfl, rfl, rfl⟩)
      rfl (bx' := []) rfl (n' := 85) rfl (⟨[0, 5, 6, 7], [(0, _), (5, _), (6, _), (7, _)], [], 85, rfl, rfl, rfl, ?_⟩)
    refine W.block ?_
    refine W.loop (α := {q__ : Nat // (1 + x.toNat % 50) ≤ q__ ∧ q__ ≤ (watchS used (((1 + x.toNat % 50) : Nat) : Int)) + 1}) (fun q__ => ⟨85, [(0, .sl none 1 (used.map D.int)), (5, .int (((1 + x.toNat % 50) : Nat) : Int)), (6, .int (((watchS used (((1 + x.toNat % 50) : Nat) : Int)) : Nat) : Int)), (7, .int ((q__.1 : Nat) : Int))], []⟩) (fun q__ => (watchS used (((1 + x.toNat % 50) : Nat) : Int)) + 1 - q__.1) ⟨((1 + x.toNat % 50)), ⟨Nat.le_refl _, by omega⟩⟩ rfl ?_
    rintro ⟨m, ⟨hm1, hm2⟩⟩
    show W _ _ _ _ ⟨85, [(0, .sl none 1 (used.map D.int)), (5, .int (((1 + x.toNat % 50) : Nat) : Int)), (6, .int (((watchS used (((1 + x.toNat % 50) : Nat) : Int)) : Nat) : Int)), (7, .int ((m : Nat) : Int))], []⟩
    refine W.seq ?_
    refine W.seq ?_
    refine W.line (n := 3) (by decide) (its := [⟨29, _, true⟩, ⟨30, _, true⟩, ⟨31, _, true⟩]) (ks := []) (kk := []) (live := [0, 5, 6, 7, 31]) (env' := [(0, _), (5, _), (6, _), (7, _), (31, _)])
      (⟨Nat.le_of_ble_eq_true rfl, rfl,
        ⟨⟨rfl, rfl, fun _ τ hb ht hτ => R.mov (evt (hτ 7 _ rfl)) rfl ht⟩,
        ⟨⟨rfl, rfl, fun _ τ hb ht hτ => R.mov (evt (hτ 6 _ rfl)) rfl ht⟩,
        ⟨⟨rfl, rfl, fun _ τ hb ht hτ => R.leqN (m) ((watchS used (((1 + x.toNat % 50) : Nat) : Int))) (evt (hτ 29 _ rfl)) (evt (hτ 30 _ rfl)) ht⟩,
        trivial⟩⟩⟩, rfl, rfl, rfl⟩)
      rfl (bx' := []) rfl (n' := 85) rfl (⟨[0, 5, 6, 7, 31], [(0, _), (5, _), (6, _), (7, _), (31, _)], [], 85, rfl, rfl, rfl, ?_⟩)
    refine W.condD rfl (fun hc31 => ?_) (fun hc31 => ?_)
    · refine W.skip ?_
      refine W.seq ?_
      refine W.block ?_
      refine W.seq ?_
      refine W.line (n := 1) (by decide) (its := [⟨8, _, true⟩]) (ks := []) (kk := []) (live := [0, 5, 6, 7, 8]) (env' := [(0, _), (5, _), (6, _), (7, _), (8, _)])
        (⟨Nat.le_of_ble_eq_true rfl, rfl,
          ⟨⟨rfl, rfl, fun _ τ hb ht hτ => R.asg (show ev _ _ (.const (.bool true)) = some (.bool true) from rfl) rfl ht⟩,
          trivial⟩, rfl, rfl, rfl⟩)
        rfl (bx' := []) rfl (n' := 85) rfl (⟨[0, 5, 6, 7, 8], [(0, _), (5, _), (6, _), (7, _), (8, _)], [], 85, rfl, rfl, rfl, ?_⟩)
      refine W.seq ?_
      refine W.seq ?_
      refine W.line (n := 1) (by decide) (its := [⟨9, _, true⟩]) (ks := []) (kk := []) (live := [0, 5, 6, 7, 8, 9]) (env' := [(0, _), (5, _), (6, _), (7, _), (8, _), (9, _)])
        (⟨Nat.le_of_ble_eq_true rfl, rfl,
          ⟨⟨rfl, rfl, fun _ τ hb ht hτ => R.asg (show ev _ _ (.const (.int .i64 0)) = some (.int ((0 : Nat) : Int)) from rfl) rfl ht⟩,
          trivial⟩, rfl, rfl, rfl⟩)
        rfl (bx' := []) rfl (n' := 85) rfl (⟨[0, 5, 6, 7, 8, 9], [(0, _), (5, _), (6, _), (7, _), (8, _), (9, _)], [], 85, rfl, rfl, rfl, ?_⟩)
      refine W.block ?_
      refine W.loop (α := {q__ : Nat // q__ ≤ used.length}) (fun q__ => ⟨85, [(0, .sl none 1 (used.map D.int)), (5, .int (((1 + x.toNat % 50) : Nat) : Int)), (6, .int (((watchS used (((1 + x.toNat % 50) : Nat) : Int)) : Nat) : Int)), (7, .int ((m : Nat) : Int)), (8, .bool (clC used (1 + x.toNat % 50) m q__.1)), (9, .int ((q__.1 : Nat) : Int))], []⟩) (fun q__ => used.length - q__.1) ⟨(0), (by first | omega | (simp only [List.length_map, List.length_append, List.length_cons, List.length_nil, List.length_take, List.length_drop, List.length_replicate]; omega) | (simp; omega))⟩ rfl ?_
      rintro ⟨i, hi⟩
      show W _ _ _ _ ⟨85, [(0, .sl none 1 (used.map D.int)), (5, .int (((1 + x.toNat % 50) : Nat) : Int)), (6, .int (((watchS used (((1 + x.toNat % 50) : Nat) : Int)) : Nat) : Int)), (7, .int ((m : Nat) : Int)), (8, .bool (clC used (1 + x.toNat % 50) m i)), (9, .int ((i : Nat) : Int))], []⟩
      refine W.seq ?_
      refine W.seq ?_
      refine W.line (n := 4) (by decide) (its := [⟨34, _, true⟩, ⟨35, _, true⟩, ⟨36, _, true⟩, ⟨37, _, true⟩]) (ks := []) (kk := []) (live := [0, 5, 6, 7, 8, 9, 37]) (env' := [(0, _), (5, _), (6, _), (7, _), (8, _), (9, _), (37, _)])
        (⟨Nat.le_of_ble_eq_true rfl, rfl,
          ⟨⟨rfl, rfl, fun _ τ hb ht hτ => R.mov (evt (hτ 9 _ rfl)) rfl ht⟩,
          ⟨⟨rfl, rfl, fun _ τ hb ht hτ => R.mov (evt (hτ 0 _ rfl)) rfl ht⟩,
          ⟨⟨rfl, rfl, fun _ τ hb ht hτ => R.lenE (SC.sl (hτ 35 _ rfl)) (List.length_map _) ht⟩,
          ⟨⟨rfl, rfl, fun _ τ hb ht hτ => R.lssN (i) (used.length) (evt (hτ 34 _ rfl)) (evt (hτ 36 _ rfl)) ht⟩,
          trivial⟩⟩⟩⟩, rfl, rfl, rfl⟩)
        rfl (bx' := []) rfl (n' := 85) rfl (⟨[0, 5, 6, 7, 8, 9, 37], [(0, _), (5, _), (6, _), (7, _), (8, _), (9, _), (37, _)], [], 85, rfl, rfl, rfl, ?_⟩)
      refine W.condD rfl (fun hc37 => ?_) (fun hc37 => ?_)
      · refine W.skip ?_
        refine W.seq ?_
        refine W.block ?_
        by_cases h0 : clC used (1 + x.toNat % 50) m i = true
        · by_cases h1 : used[i]! ≥ ((m - (1 + x.toNat % 50) : Nat) : Int)
          · by_cases h2 : used[i]! < (m : Int)
            · refine W.line (n := 28) (by decide) (its := (⟨40, _, true⟩ :: ⟨41, _, true⟩ :: ⟨42, _, true⟩ :: ⟨43, _, true⟩ :: ⟨44, _, true⟩ :: ⟨45, _, true⟩ :: ⟨46, _, true⟩ :: ⟨47, _, true⟩ :: ⟨48, _, true⟩ :: ⟨49, _, true⟩ :: ⟨50, _, true⟩ :: ⟨51, _, true⟩ :: ⟨52, _, true⟩ :: ⟨53, _, true⟩ :: ⟨54, _, true⟩ :: ⟨55, _, true⟩ :: ⟨56, _, true⟩ :: ⟨57, _, true⟩ :: ⟨58, _, true⟩ :: ⟨59, _, true⟩ :: ⟨60, _, true⟩ :: ⟨61, _, true⟩ :: ⟨62, _, true⟩ :: ⟨63, _, true⟩ :: ⟨64, _, true⟩ :: ⟨65, _, true⟩ :: ⟨66, _, true⟩ :: ⟨8, _, true⟩ :: [])) (ks := []) (kk := []) (live := [0, 5, 6, 7, 8, 9]) (env' := [(0, _), (5, _), (6, _), (7, _), (8, _), (9, _)])
                (⟨Nat.le_of_ble_eq_true rfl, rfl,
                  ⟨⟨rfl, rfl, fun _ τ hb ht hτ => R.mov (evt (hτ 8 _ rfl)) rfl ht⟩,
                  ⟨⟨rfl, rfl, fun _ τ hb ht hτ => R.mov (evt (hτ 40 _ rfl)) rfl ht⟩,
                  ⟨⟨rfl, ⟨_, 41, rfl, rfl, .inl ⟨_, rfl, gw (v := true) (h0) rfl⟩⟩, fun _ τ hb ht hτ => R.mov (evt (hτ 0 _ rfl)) rfl ht⟩,
                  ⟨⟨rfl, ⟨_, 41, rfl, rfl, .inl ⟨_, rfl, gw (v := true) (h0) rfl⟩⟩, fun _ τ hb ht hτ => R.mov (evt (hτ 9 _ rfl)) rfl ht⟩,
                  ⟨⟨rfl, ⟨_, 41, rfl, rfl, .inl ⟨_, rfl, gw (v := true) (h0) rfl⟩⟩, fun _ τ hb ht hτ => R.idxN (i) (SC.sl (hτ 42 _ rfl)) (evoI (evt (hτ 43 _ rfl))) rfl (by first | omega | (simp only [List.length_map, List.length_append, List.length_cons, List.length_nil, List.length_take, List.length_drop, List.length_replicate]; omega) | (simp; omega)) ht (by decide)⟩,
                  ⟨⟨rfl, ⟨_, 41, rfl, rfl, .inl ⟨_, rfl, gw (v := true) (h0) rfl⟩⟩, fun _ τ hb ht hτ => R.ldE (hτ 44 _ rfl) (SC.sl (hτ 42 _ rfl)) (map_get! (l := used) (by first | omega | (simp only [List.length_map, List.length_append, List.length_cons, List.length_nil, List.length_take, List.length_drop, List.length_replicate]; omega) | (simp; omega))) rfl rfl rfl rfl ht⟩,
                  ⟨⟨rfl, ⟨_, 41, rfl, rfl, .inl ⟨_, rfl, gw (v := true) (h0) rfl⟩⟩, fun _ τ hb ht hτ => R.mov (evt (hτ 7 _ rfl)) rfl ht⟩,
                  ⟨⟨rfl, ⟨_, 41, rfl, rfl, .inl ⟨_, rfl, gw (v := true) (h0) rfl⟩⟩, fun _ τ hb ht hτ => R.mov (evt (hτ 5 _ rfl)) rfl ht⟩,
                  ⟨⟨rfl, ⟨_, 41, rfl, rfl, .inl ⟨_, rfl, gw (v := true) (h0) rfl⟩⟩, fun _ τ hb ht hτ => R.subN (m) ((1 + x.toNat % 50)) (evt (hτ 46 _ rfl)) (evt (hτ 47 _ rfl)) (by first | omega | (simp only [List.length_map, List.length_append, List.length_cons, List.length_nil, List.length_take, List.length_drop, List.length_replicate]; omega) | (simp; omega)) (by first | omega | (simp only [List.length_map, List.length_append, List.length_cons, List.length_nil, List.length_take, List.length_drop, List.length_replicate]; omega) | (simp; omega)) ht⟩,
                  ⟨⟨rfl, ⟨_, 41, rfl, rfl, .inl ⟨_, rfl, gw (v := true) (h0) rfl⟩⟩, fun _ τ hb ht hτ => R.bin (evt (hτ 45 _ rfl)) (evt (hτ 48 _ rfl)) rfl trivial ht⟩,
                  ⟨⟨rfl, ⟨_, 41, rfl, rfl, .inl ⟨_, rfl, gw (v := true) (h0) rfl⟩⟩, fun _ τ hb ht hτ => R.mov (evt (hτ 49 _ rfl)) rfl ht⟩,
                  ⟨⟨rfl, ⟨_, 50, rfl, rfl, .inl ⟨_, rfl, gw (v := true) (decide_eq_true h1) rfl⟩⟩, fun _ τ hb ht hτ => R.mov (evt (hτ 0 _ rfl)) rfl ht⟩,
                  ⟨⟨rfl, ⟨_, 50, rfl, rfl, .inl ⟨_, rfl, gw (v := true) (decide_eq_true h1) rfl⟩⟩, fun _ τ hb ht hτ => R.mov (evt (hτ 9 _ rfl)) rfl ht⟩,
                  ⟨⟨rfl, ⟨_, 50, rfl, rfl, .inl ⟨_, rfl, gw (v := true) (decide_eq_true h1) rfl⟩⟩, fun _ τ hb ht hτ => R.idxN (i) (SC.sl (hτ 51 _ rfl)) (evoI (evt (hτ 52 _ rfl))) rfl (by first | omega | (simp only [List.length_map, List.length_append, List.length_cons, List.length_nil, List.length_take, List.length_drop, List.length_replicate]; omega) | (simp; omega)) ht (by decide)⟩,
                  ⟨⟨rfl, ⟨_, 50, rfl, rfl, .inl ⟨_, rfl, gw (v := true) (decide_eq_true h1) rfl⟩⟩, fun _ τ hb ht hτ => R.ldE (hτ 53 _ rfl) (SC.sl (hτ 51 _ rfl)) (map_get! (l := used) (by first | omega | (simp only [List.length_map, List.length_append, List.length_cons, List.length_nil, List.length_take, List.length_drop, List.length_replicate]; omega) | (simp; omega))) rfl rfl rfl rfl ht⟩,
                  ⟨⟨rfl, ⟨_, 50, rfl, rfl, .inl ⟨_, rfl, gw (v := true) (decide_eq_true h1) rfl⟩⟩, fun _ τ hb ht hτ => R.mov (evt (hτ 7 _ rfl)) rfl ht⟩,
                  ⟨⟨rfl, ⟨_, 50, rfl, rfl, .inl ⟨_, rfl, gw (v := true) (decide_eq_true h1) rfl⟩⟩, fun _ τ hb ht hτ => R.bin (evt (hτ 54 _ rfl)) (evt (hτ 55 _ rfl)) rfl trivial ht⟩,
                  ⟨⟨rfl, ⟨_, 41, rfl, rfl, .inl ⟨_, rfl, gw (v := true) (h0) rfl⟩⟩, fun _ τ hb ht hτ => R.pickT (evt (hτ 50 _ rfl)) (decide_eq_true h1) (evt (hτ 56 _ rfl)) rfl ht⟩,
                  ⟨⟨rfl, ⟨_, 41, rfl, rfl, .inl ⟨_, rfl, gw (v := true) (h0) rfl⟩⟩, fun _ τ hb ht hτ => R.mov (evt (hτ 57 _ rfl)) rfl ht⟩,
                  ⟨⟨rfl, ⟨_, 58, rfl, rfl, .inl ⟨_, rfl, gw (v := true) (decide_eq_true h2) rfl⟩⟩, fun _ τ hb ht hτ => R.mov (evt (hτ 0 _ rfl)) rfl ht⟩,
                  ⟨⟨rfl, ⟨_, 58, rfl, rfl, .inl ⟨_, rfl, gw (v := true) (decide_eq_true h2) rfl⟩⟩, fun _ τ hb ht hτ => R.mov (evt (hτ 9 _ rfl)) rfl ht⟩,
                  ⟨⟨rfl, ⟨_, 58, rfl, rfl, .inl ⟨_, rfl, gw (v := true) (decide_eq_true h2) rfl⟩⟩, fun _ τ hb ht hτ => R.idxN (i) (SC.sl (hτ 59 _ rfl)) (evoI (evt (hτ 60 _ rfl))) rfl (by first | omega | (simp only [List.length_map, List.length_append, List.length_cons, List.length_nil, List.length_take, List.length_drop, List.length_replicate]; omega) | (simp; omega)) ht (by decide)⟩,
                  ⟨⟨rfl, ⟨_, 58, rfl, rfl, .inl ⟨_, rfl, gw (v := true) (decide_eq_true h2) rfl⟩⟩, fun _ τ hb ht hτ => R.ldE (hτ 61 _ rfl) (SC.sl (hτ 59 _ rfl)) (map_get! (l := used) (by first | omega | (simp only [List.length_map, List.length_append, List.length_cons, List.length_nil, List.length_take, List.length_drop, List.length_replicate]; omega) | (simp; omega))) rfl rfl rfl rfl ht⟩,
                  ⟨⟨rfl, ⟨_, 58, rfl, rfl, .inl ⟨_, rfl, gw (v := true) (decide_eq_true h2) rfl⟩⟩, fun _ τ hb ht hτ => R.bin (evt (hτ 62 _ rfl)) (show ev _ _ (.const (.int .i64 0)) = some (.int ((0 : Nat) : Int)) from rfl) rfl trivial ht⟩,
                  ⟨⟨rfl, ⟨_, 41, rfl, rfl, .inl ⟨_, rfl, gw (v := true) (h0) rfl⟩⟩, fun _ τ hb ht hτ => R.pickT (evt (hτ 58 _ rfl)) (decide_eq_true h2) (evt (hτ 63 _ rfl)) rfl ht⟩,
                  ⟨⟨rfl, ⟨_, 41, rfl, rfl, .inl ⟨_, rfl, gw (v := true) (h0) rfl⟩⟩, fun _ τ hb ht hτ => R.un (evt (hτ 64 _ rfl)) rfl ht⟩,
                  ⟨⟨rfl, rfl, fun _ τ hb ht hτ => R.pickT (evt (hτ 41 _ rfl)) (h0) (evt (hτ 65 _ rfl)) rfl ht⟩,
                  ⟨⟨rfl, rfl, fun _ τ hb ht hτ => R.asg (evt (hτ 66 _ rfl)) rfl ht⟩,
                  trivial⟩⟩⟩⟩⟩⟩⟩⟩⟩⟩⟩⟩⟩⟩⟩⟩⟩⟩⟩⟩⟩⟩⟩⟩⟩⟩⟩⟩, rfl, rfl, rfl⟩)
                rfl (bx' := []) rfl (n' := 85) rfl (⟨[0, 5, 6, 7, 8, 9], [(0, _), (5, _), (6, _), (7, _), (8, _), (9, _)], [], 85, rfl, rfl, rfl, ?_⟩)
              refine W.line (n := 3) (by decide) (its := [⟨38, _, true⟩, ⟨39, _, true⟩, ⟨9, _, true⟩]) (ks := []) (kk := []) (live := [0, 5, 6, 7, 8, 9]) (env' := [(0, _), (5, _), (6, _), (7, _), (8, _), (9, _)])
                (⟨Nat.le_of_ble_eq_true rfl, rfl,
                  ⟨⟨rfl, rfl, fun _ τ hb ht hτ => R.mov (evt (hτ 9 _ rfl)) rfl ht⟩,
                  ⟨⟨rfl, rfl, fun _ τ hb ht hτ => R.addN (i) (1) (evt (hτ 38 _ rfl)) (show ev _ _ (.const (.int .i64 1)) = some (.int ((1 : Nat) : Int)) from rfl) (by first | omega | (simp only [List.length_map, List.length_append, List.length_cons, List.length_nil, List.length_take, List.length_drop, List.length_replicate]; omega) | (simp; omega)) ht⟩,
                  ⟨⟨rfl, rfl, fun _ τ hb ht hτ => R.asg (evt (hτ 39 _ rfl)) rfl ht⟩,
                  trivial⟩⟩⟩, rfl, rfl, rfl⟩)
                rfl (bx' := []) rfl (n' := 85) rfl (⟨[0, 5, 6, 7, 8, 9], [(0, _), (5, _), (6, _), (7, _), (8, _), (9, _)], [], 85, rfl, rfl, rfl, ?_⟩)
              exact ⟨⟨(i + 1), (by first | omega | (simp only [List.length_map, List.length_append, List.length_cons, List.length_nil, List.length_take, List.length_drop, List.length_replicate]; omega) | (simp; omega))⟩, (by rw [clC_succ used _ _ i hc37]; first | (rw [bfalse h0]; rfl) | (rw [h0, decide_eq_true h1, decide_eq_true h2]; simp; done) | (rw [h0, decide_eq_true h1, decide_eq_false h2]; rfl) | (rw [h0, decide_eq_false h1]; rfl)), (by simp only []; omega)⟩
            · refine W.line (n := 28) (by decide) (its := (⟨40, _, true⟩ :: ⟨41, _, true⟩ :: ⟨42, _, true⟩ :: ⟨43, _, true⟩ :: ⟨44, _, true⟩ :: ⟨45, _, true⟩ :: ⟨46, _, true⟩ :: ⟨47, _, true⟩ :: ⟨48, _, true⟩ :: ⟨49, _, true⟩ :: ⟨50, _, true⟩ :: ⟨51, _, true⟩ :: ⟨52, _, true⟩ :: ⟨53, _, true⟩ :: ⟨54, _, true⟩ :: ⟨55, _, true⟩ :: ⟨56, _, true⟩ :: ⟨57, _, true⟩ :: ⟨58, _, true⟩ :: ⟨59, .dead, false⟩ :: ⟨60, .dead, false⟩ :: ⟨61, .dead, false⟩ :: ⟨62, .dead, false⟩ :: ⟨63, .dead, false⟩ :: ⟨64, _, true⟩ :: ⟨65, _, true⟩ :: ⟨66, _, true⟩ :: ⟨8, _, true⟩ :: [])) (ks := []) (kk := []) (live := [0, 5, 6, 7, 8, 9]) (env' := [(0, _), (5, _), (6, _), (7, _), (8, _), (9, _)])
                (⟨Nat.le_of_ble_eq_true rfl, rfl,
                  ⟨⟨rfl, rfl, fun _ τ hb ht hτ => R.mov (evt (hτ 8 _ rfl)) rfl ht⟩,
                  ⟨⟨rfl, rfl, fun _ τ hb ht hτ => R.mov (evt (hτ 40 _ rfl)) rfl ht⟩,
                  ⟨⟨rfl, ⟨_, 41, rfl, rfl, .inl ⟨_, rfl, gw (v := true) (h0) rfl⟩⟩, fun _ τ hb ht hτ => R.mov (evt (hτ 0 _ rfl)) rfl ht⟩,
                  ⟨⟨rfl, ⟨_, 41, rfl, rfl, .inl ⟨_, rfl, gw (v := true) (h0) rfl⟩⟩, fun _ τ hb ht hτ => R.mov (evt (hτ 9 _ rfl)) rfl ht⟩,
                  ⟨⟨rfl, ⟨_, 41, rfl, rfl, .inl ⟨_, rfl, gw (v := true) (h0) rfl⟩⟩, fun _ τ hb ht hτ => R.idxN (i) (SC.sl (hτ 42 _ rfl)) (evoI (evt (hτ 43 _ rfl))) rfl (by first | omega | (simp only [List.length_map, List.length_append, List.length_cons, List.length_nil, List.length_take, List.length_drop, List.length_replicate]; omega) | (simp; omega)) ht (by decide)⟩,
                  ⟨⟨rfl, ⟨_, 41, rfl, rfl, .inl ⟨_, rfl, gw (v := true) (h0) rfl⟩⟩, fun _ τ hb ht hτ => R.ldE (hτ 44 _ rfl) (SC.sl (hτ 42 _ rfl)) (map_get! (l := used) (by first | omega | (simp only [List.length_map, List.length_append, List.length_cons, List.length_nil, List.length_take, List.length_drop, List.length_replicate]; omega) | (simp; omega))) rfl rfl rfl rfl ht⟩,
                  ⟨⟨rfl, ⟨_, 41, rfl, rfl, .inl ⟨_, rfl, gw (v := true) (h0) rfl⟩⟩, fun _ τ hb ht hτ => R.mov (evt (hτ 7 _ rfl)) rfl ht⟩,
                  ⟨⟨rfl, ⟨_, 41, rfl, rfl, .inl ⟨_, rfl, gw (v := true) (h0) rfl⟩⟩, fun _ τ hb ht hτ => R.mov (evt (hτ 5 _ rfl)) rfl ht⟩,
                  ⟨⟨rfl, ⟨_, 41, rfl, rfl, .inl ⟨_, rfl, gw (v := true) (h0) rfl⟩⟩, fun _ τ hb ht hτ => R.subN (m) ((1 + x.toNat % 50)) (evt (hτ 46 _ rfl)) (evt (hτ 47 _ rfl)) (by first | omega | (simp only [List.length_map, List.length_append, List.length_cons, List.length_nil, List.length_take, List.length_drop, List.length_replicate]; omega) | (simp; omega)) (by first | omega | (simp only [List.length_map, List.length_append, List.length_cons, List.length_nil, List.length_take, List.length_drop, List.length_replicate]; omega) | (simp; omega)) ht⟩,
                  ⟨⟨rfl, ⟨_, 41, rfl, rfl, .inl ⟨_, rfl, gw (v := true) (h0) rfl⟩⟩, fun _ τ hb ht hτ => R.bin (evt (hτ 45 _ rfl)) (evt (hτ 48 _ rfl)) rfl trivial ht⟩,
                  ⟨⟨rfl, ⟨_, 41, rfl, rfl, .inl ⟨_, rfl, gw (v := true) (h0) rfl⟩⟩, fun _ τ hb ht hτ => R.mov (evt (hτ 49 _ rfl)) rfl ht⟩,
                  ⟨⟨rfl, ⟨_, 50, rfl, rfl, .inl ⟨_, rfl, gw (v := true) (decide_eq_true h1) rfl⟩⟩, fun _ τ hb ht hτ => R.mov (evt (hτ 0 _ rfl)) rfl ht⟩,
                  ⟨⟨rfl, ⟨_, 50, rfl, rfl, .inl ⟨_, rfl, gw (v := true) (decide_eq_true h1) rfl⟩⟩, fun _ τ hb ht hτ => R.mov (evt (hτ 9 _ rfl)) rfl ht⟩,
                  ⟨⟨rfl, ⟨_, 50, rfl, rfl, .inl ⟨_, rfl, gw (v := true) (decide_eq_true h1) rfl⟩⟩, fun _ τ hb ht hτ => R.idxN (i) (SC.sl (hτ 51 _ rfl)) (evoI (evt (hτ 52 _ rfl))) rfl (by first | omega | (simp only [List.length_map, List.length_append, List.length_cons, List.length_nil, List.length_take, List.length_drop, List.length_replicate]; omega) | (simp; omega)) ht (by decide)⟩,
                  ⟨⟨rfl, ⟨_, 50, rfl, rfl, .inl ⟨_, rfl, gw (v := true) (decide_eq_true h1) rfl⟩⟩, fun _ τ hb ht hτ => R.ldE (hτ 53 _ rfl) (SC.sl (hτ 51 _ rfl)) (map_get! (l := used) (by first | omega | (simp only [List.length_map, List.length_append, List.length_cons, List.length_nil, List.length_take, List.length_drop, List.length_replicate]; omega) | (simp; omega))) rfl rfl rfl rfl ht⟩,
                  ⟨⟨rfl, ⟨_, 50, rfl, rfl, .inl ⟨_, rfl, gw (v := true) (decide_eq_true h1) rfl⟩⟩, fun _ τ hb ht hτ => R.mov (evt (hτ 7 _ rfl)) rfl ht⟩,
                  ⟨⟨rfl, ⟨_, 50, rfl, rfl, .inl ⟨_, rfl, gw (v := true) (decide_eq_true h1) rfl⟩⟩, fun _ τ hb ht hτ => R.bin (evt (hτ 54 _ rfl)) (evt (hτ 55 _ rfl)) rfl trivial ht⟩,
                  ⟨⟨rfl, ⟨_, 41, rfl, rfl, .inl ⟨_, rfl, gw (v := true) (h0) rfl⟩⟩, fun _ τ hb ht hτ => R.pickT (evt (hτ 50 _ rfl)) (decide_eq_true h1) (evt (hτ 56 _ rfl)) rfl ht⟩,
                  ⟨⟨rfl, ⟨_, 41, rfl, rfl, .inl ⟨_, rfl, gw (v := true) (h0) rfl⟩⟩, fun _ τ hb ht hτ => R.mov (evt (hτ 57 _ rfl)) rfl ht⟩,
                  ⟨⟨rfl, ⟨_, 58, rfl, rfl, .inl ⟨_, rfl, gw (v := false) (decide_eq_false h2) rfl⟩⟩, fun h => absurd h (by decide)⟩,
                  ⟨⟨rfl, ⟨_, 58, rfl, rfl, .inl ⟨_, rfl, gw (v := false) (decide_eq_false h2) rfl⟩⟩, fun h => absurd h (by decide)⟩,
                  ⟨⟨rfl, ⟨_, 58, rfl, rfl, .inl ⟨_, rfl, gw (v := false) (decide_eq_false h2) rfl⟩⟩, fun h => absurd h (by decide)⟩,
                  ⟨⟨rfl, ⟨_, 58, rfl, rfl, .inl ⟨_, rfl, gw (v := false) (decide_eq_false h2) rfl⟩⟩, fun h => absurd h (by decide)⟩,
                  ⟨⟨rfl, ⟨_, 58, rfl, rfl, .inl ⟨_, rfl, gw (v := false) (decide_eq_false h2) rfl⟩⟩, fun h => absurd h (by decide)⟩,
                  ⟨⟨rfl, ⟨_, 41, rfl, rfl, .inl ⟨_, rfl, gw (v := true) (h0) rfl⟩⟩, fun _ τ hb ht hτ => R.pickF (evt (hτ 58 _ rfl)) (decide_eq_false h2) (show ev _ _ (.const (.bool false)) = some (.bool false) from rfl) rfl ht⟩,
                  ⟨⟨rfl, ⟨_, 41, rfl, rfl, .inl ⟨_, rfl, gw (v := true) (h0) rfl⟩⟩, fun _ τ hb ht hτ => R.un (evt (hτ 64 _ rfl)) rfl ht⟩,
                  ⟨⟨rfl, rfl, fun _ τ hb ht hτ => R.pickT (evt (hτ 41 _ rfl)) (h0) (evt (hτ 65 _ rfl)) rfl ht⟩,
                  ⟨⟨rfl, rfl, fun _ τ hb ht hτ => R.asg (evt (hτ 66 _ rfl)) rfl ht⟩,
                  trivial⟩⟩⟩⟩⟩⟩⟩⟩⟩⟩⟩⟩⟩⟩⟩⟩⟩⟩⟩⟩⟩⟩⟩⟩⟩⟩⟩⟩, rfl, rfl, rfl⟩)
                rfl (bx' := []) rfl (n' := 85) rfl (⟨[0, 5, 6, 7, 8, 9], [(0, _), (5, _), (6, _), (7, _), (8, _), (9, _)], [], 85, rfl, rfl, rfl, ?_⟩)
              refine W.line (n := 3) (by decide) (its := [⟨38, _, true⟩, ⟨39, _, true⟩, ⟨9, _, true⟩]) (ks := []) (kk := []) (live := [0, 5, 6, 7, 8, 9]) (env' := [(0, _), (5, _), (6, _), (7, _), (8, _), (9, _)])
                (⟨Nat.le_of_ble_eq_true rfl, rfl,
                  ⟨⟨rfl, rfl, fun _ τ hb ht hτ => R.mov (evt (hτ 9 _ rfl)) rfl ht⟩,
                  ⟨⟨rfl, rfl, fun _ τ hb ht hτ => R.addN (i) (1) (evt (hτ 38 _ rfl)) (show ev _ _ (.const (.int .i64 1)) = some (.int ((1 : Nat) : Int)) from rfl) (by first | omega | (simp only [List.length_map, List.length_append, List.length_cons, List.length_nil, List.length_take, List.length_drop, List.length_replicate]; omega) | (simp; omega)) ht⟩,
                  ⟨⟨rfl, rfl, fun _ τ hb ht hτ => R.asg (evt (hτ 39 _ rfl)) rfl ht⟩,
                  trivial⟩⟩⟩, rfl, rfl, rfl⟩)
                rfl (bx' := []) rfl (n' := 85) rfl (⟨[0, 5, 6, 7, 8, 9], [(0, _), (5, _), (6, _), (7, _), (8, _), (9, _)], [], 85, rfl, rfl, rfl, ?_⟩)
              exact ⟨⟨(i + 1), (by first | omega | (simp only [List.length_map, List.length_append, List.length_cons, List.length_nil, List.length_take, List.length_drop, List.length_replicate]; omega) | (simp; omega))⟩, (by rw [clC_succ used _ _ i hc37]; first | (rw [bfalse h0]; rfl) | (rw [h0, decide_eq_true h1, decide_eq_true h2]; simp; done) | (rw [h0, decide_eq_true h1, decide_eq_false h2]; rfl) | (rw [h0, decide_eq_false h1]; rfl)), (by simp only []; omega)⟩
          · refine W.line (n := 28) (by decide) (its := (⟨40, _, true⟩ :: ⟨41, _, true⟩ :: ⟨42, _, true⟩ :: ⟨43, _, true⟩ :: ⟨44, _, true⟩ :: ⟨45, _, true⟩ :: ⟨46, _, true⟩ :: ⟨47, _, true⟩ :: ⟨48, _, true⟩ :: ⟨49, _, true⟩ :: ⟨50, _, true⟩ :: ⟨51, .dead, false⟩ :: ⟨52, .dead, false⟩ :: ⟨53, .dead, false⟩ :: ⟨54, .dead, false⟩ :: ⟨55, .dead, false⟩ :: ⟨56, .dead, false⟩ :: ⟨57, _, true⟩ :: ⟨58, _, true⟩ :: ⟨59, .dead, false⟩ :: ⟨60, .dead, false⟩ :: ⟨61, .dead, false⟩ :: ⟨62, .dead, false⟩ :: ⟨63, .dead, false⟩ :: ⟨64, _, true⟩ :: ⟨65, _, true⟩ :: ⟨66, _, true⟩ :: ⟨8, _, true⟩ :: [])) (ks := []) (kk := []) (live := [0, 5, 6, 7, 8, 9]) (env' := [(0, _), (5, _), (6, _), (7, _), (8, _), (9, _)])
              (⟨Nat.le_of_ble_eq_true rfl, rfl,
                ⟨⟨rfl, rfl, fun _ τ hb ht hτ => R.mov (evt (hτ 8 _ rfl)) rfl ht⟩,
                ⟨⟨rfl, rfl, fun _ τ hb ht hτ => R.mov (evt (hτ 40 _ rfl)) rfl ht⟩,
                ⟨⟨rfl, ⟨_, 41, rfl, rfl, .inl ⟨_, rfl, gw (v := true) (h0) rfl⟩⟩, fun _ τ hb ht hτ => R.mov (evt (hτ 0 _ rfl)) rfl ht⟩,
                ⟨⟨rfl, ⟨_, 41, rfl, rfl, .inl ⟨_, rfl, gw (v := true) (h0) rfl⟩⟩, fun _ τ hb ht hτ => R.mov (evt (hτ 9 _ rfl)) rfl ht⟩,
                ⟨⟨rfl, ⟨_, 41, rfl, rfl, .inl ⟨_, rfl, gw (v := true) (h0) rfl⟩⟩, fun _ τ hb ht hτ => R.idxN (i) (SC.sl (hτ 42 _ rfl)) (evoI (evt (hτ 43 _ rfl))) rfl (by first | omega | (simp only [List.length_map, List.length_append, List.length_cons, List.length_nil, List.length_take, List.length_drop, List.length_replicate]; omega) | (simp; omega)) ht (by decide)⟩,
                ⟨⟨rfl, ⟨_, 41, rfl, rfl, .inl ⟨_, rfl, gw (v := true) (h0) rfl⟩⟩, fun _ τ hb ht hτ => R.ldE (hτ 44 _ rfl) (SC.sl (hτ 42 _ rfl)) (map_get! (l := used) (by first | omega | (simp only [List.length_map, List.length_append, List.length_cons, List.length_nil, List.length_take, List.length_drop, List.length_replicate]; omega) | (simp; omega))) rfl rfl rfl rfl ht⟩,
                ⟨⟨rfl, ⟨_, 41, rfl, rfl, .inl ⟨_, rfl, gw (v := true) (h0) rfl⟩⟩, fun _ τ hb ht hτ => R.mov (evt (hτ 7 _ rfl)) rfl ht⟩,
                ⟨⟨rfl, ⟨_, 41, rfl, rfl, .inl ⟨_, rfl, gw (v := true) (h0) rfl⟩⟩, fun _ τ hb ht hτ => R.mov (evt (hτ 5 _ rfl)) rfl ht⟩,
                ⟨⟨rfl, ⟨_, 41, rfl, rfl, .inl ⟨_, rfl, gw (v := true) (h0) rfl⟩⟩, fun _ τ hb ht hτ => R.subN (m) ((1 + x.toNat % 50)) (evt (hτ 46 _ rfl)) (evt (hτ 47 _ rfl)) (by first | omega | (simp only [List.length_map, List.length_append, List.length_cons, List.length_nil, List.length_take, List.length_drop, List.length_replicate]; omega) | (simp; omega)) (by first | omega | (simp only [List.length_map, List.length_append, List.length_cons, List.length_nil, List.length_take, List.length_drop, List.length_replicate]; omega) | (simp; omega)) ht⟩,
                ⟨⟨rfl, ⟨_, 41, rfl, rfl, .inl ⟨_, rfl, gw (v := true) (h0) rfl⟩⟩, fun _ τ hb ht hτ => R.bin (evt (hτ 45 _ rfl)) (evt (hτ 48 _ rfl)) rfl trivial ht⟩,
                ⟨⟨rfl, ⟨_, 41, rfl, rfl, .inl ⟨_, rfl, gw (v := true) (h0) rfl⟩⟩, fun _ τ hb ht hτ => R.mov (evt (hτ 49 _ rfl)) rfl ht⟩,
                ⟨⟨rfl, ⟨_, 50, rfl, rfl, .inl ⟨_, rfl, gw (v := false) (decide_eq_false h1) rfl⟩⟩, fun h => absurd h (by decide)⟩,
                ⟨⟨rfl, ⟨_, 50, rfl, rfl, .inl ⟨_, rfl, gw (v := false) (decide_eq_false h1) rfl⟩⟩, fun h => absurd h (by decide)⟩,
                ⟨⟨rfl, ⟨_, 50, rfl, rfl, .inl ⟨_, rfl, gw (v := false) (decide_eq_false h1) rfl⟩⟩, fun h => absurd h (by decide)⟩,
                ⟨⟨rfl, ⟨_, 50, rfl, rfl, .inl ⟨_, rfl, gw (v := false) (decide_eq_false h1) rfl⟩⟩, fun h => absurd h (by decide)⟩,
                ⟨⟨rfl, ⟨_, 50, rfl, rfl, .inl ⟨_, rfl, gw (v := false) (decide_eq_false h1) rfl⟩⟩, fun h => absurd h (by decide)⟩,
                ⟨⟨rfl, ⟨_, 50, rfl, rfl, .inl ⟨_, rfl, gw (v := false) (decide_eq_false h1) rfl⟩⟩, fun h => absurd h (by decide)⟩,
                ⟨⟨rfl, ⟨_, 41, rfl, rfl, .inl ⟨_, rfl, gw (v := true) (h0) rfl⟩⟩, fun _ τ hb ht hτ => R.pickF (evt (hτ 50 _ rfl)) (decide_eq_false h1) (show ev _ _ (.const (.bool false)) = some (.bool false) from rfl) rfl ht⟩,
                ⟨⟨rfl, ⟨_, 41, rfl, rfl, .inl ⟨_, rfl, gw (v := true) (h0) rfl⟩⟩, fun _ τ hb ht hτ => R.mov (evt (hτ 57 _ rfl)) rfl ht⟩,
                ⟨⟨rfl, ⟨_, 58, rfl, rfl, .inl ⟨_, rfl, gw (v := false) (rfl) rfl⟩⟩, fun h => absurd h (by decide)⟩,
                ⟨⟨rfl, ⟨_, 58, rfl, rfl, .inl ⟨_, rfl, gw (v := false) (rfl) rfl⟩⟩, fun h => absurd h (by decide)⟩,
                ⟨⟨rfl, ⟨_, 58, rfl, rfl, .inl ⟨_, rfl, gw (v := false) (rfl) rfl⟩⟩, fun h => absurd h (by decide)⟩,
                ⟨⟨rfl, ⟨_, 58, rfl, rfl, .inl ⟨_, rfl, gw (v := false) (rfl) rfl⟩⟩, fun h => absurd h (by decide)⟩,
                ⟨⟨rfl, ⟨_, 58, rfl, rfl, .inl ⟨_, rfl, gw (v := false) (rfl) rfl⟩⟩, fun h => absurd h (by decide)⟩,
                ⟨⟨rfl, ⟨_, 41, rfl, rfl, .inl ⟨_, rfl, gw (v := true) (h0) rfl⟩⟩, fun _ τ hb ht hτ => R.pickF (evt (hτ 58 _ rfl)) (rfl) (show ev _ _ (.const (.bool false)) = some (.bool false) from rfl) rfl ht⟩,
                ⟨⟨rfl, ⟨_, 41, rfl, rfl, .inl ⟨_, rfl, gw (v := true) (h0) rfl⟩⟩, fun _ τ hb ht hτ => R.un (evt (hτ 64 _ rfl)) rfl ht⟩,
                ⟨⟨rfl, rfl, fun _ τ hb ht hτ => R.pickT (evt (hτ 41 _ rfl)) (h0) (evt (hτ 65 _ rfl)) rfl ht⟩,
                ⟨⟨rfl, rfl, fun _ τ hb ht hτ => R.asg (evt (hτ 66 _ rfl)) rfl ht⟩,
                trivial⟩⟩⟩⟩⟩⟩⟩⟩⟩⟩⟩⟩⟩⟩⟩⟩⟩⟩⟩⟩⟩⟩⟩⟩⟩⟩⟩⟩, rfl, rfl, rfl⟩)
              rfl (bx' := []) rfl (n' := 85) rfl (⟨[0, 5, 6, 7, 8, 9], [(0, _), (5, _), (6, _), (7, _), (8, _), (9, _)], [], 85, rfl, rfl, rfl, ?_⟩)
            refine W.line (n := 3) (by decide) (its := [⟨38, _, true⟩, ⟨39, _, true⟩, ⟨9, _, true⟩]) (ks := []) (kk := []) (live := [0, 5, 6, 7, 8, 9]) (env' := [(0, _), (5, _), (6, _), (7, _), (8, _), (9, _)])
              (⟨Nat.le_of_ble_eq_true rfl, rfl,
                ⟨⟨rfl, rfl, fun _ τ hb ht hτ => R.mov (evt (hτ 9 _ rfl)) rfl ht⟩,
                ⟨⟨rfl, rfl, fun _ τ hb ht hτ => R.addN (i) (1) (evt (hτ 38 _ rfl)) (show ev _ _ (.const (.int .i64 1)) = some (.int ((1 : Nat) : Int)) from rfl) (by first | omega | (simp only [List.length_map, List.length_append, List.length_cons, List.length_nil, List.length_take, List.length_drop, List.length_replicate]; omega) | (simp; omega)) ht⟩,
                ⟨⟨rfl, rfl, fun _ τ hb ht hτ => R.asg (evt (hτ 39 _ rfl)) rfl ht⟩,
                trivial⟩⟩⟩, rfl, rfl, rfl⟩)
              rfl (bx' := []) rfl (n' := 85) rfl (⟨[0, 5, 6, 7, 8, 9], [(0, _), (5, _), (6, _), (7, _), (8, _), (9, _)], [], 85, rfl, rfl, rfl, ?_⟩)
            exact ⟨⟨(i + 1), (by first | omega | (simp only [List.length_map, List.length_append, List.length_cons, List.length_nil, List.length_take, List.length_drop, List.length_replicate]; omega) | (simp; omega))⟩, (by rw [clC_succ used _ _ i hc37]; first | (rw [bfalse h0]; rfl) | (rw [h0, decide_eq_true h1, decide_eq_true h2]; simp; done) | (rw [h0, decide_eq_true h1, decide_eq_false h2]; rfl) | (rw [h0, decide_eq_false h1]; rfl)), (by simp only []; omega)⟩
        · refine W.line (n := 28) (by decide) (its := (⟨40, _, true⟩ :: ⟨41, _, true⟩ :: ⟨42, .dead, false⟩ :: ⟨43, .dead, false⟩ :: ⟨44, .dead, false⟩ :: ⟨45, .dead, false⟩ :: ⟨46, .dead, false⟩ :: ⟨47, .dead, false⟩ :: ⟨48, .dead, false⟩ :: ⟨49, .dead, false⟩ :: ⟨50, .dead, false⟩ :: ⟨51, .dead, false⟩ :: ⟨52, .dead, false⟩ :: ⟨53, .dead, false⟩ :: ⟨54, .dead, false⟩ :: ⟨55, .dead, false⟩ :: ⟨56, .dead, false⟩ :: ⟨57, .dead, false⟩ :: ⟨58, .dead, false⟩ :: ⟨59, .dead, false⟩ :: ⟨60, .dead, false⟩ :: ⟨61, .dead, false⟩ :: ⟨62, .dead, false⟩ :: ⟨63, .dead, false⟩ :: ⟨64, .dead, false⟩ :: ⟨65, .dead, false⟩ :: ⟨66, _, true⟩ :: ⟨8, _, true⟩ :: [])) (ks := []) (kk := []) (live := [0, 5, 6, 7, 8, 9]) (env' := [(0, _), (5, _), (6, _), (7, _), (8, _), (9, _)])
            (⟨Nat.le_of_ble_eq_true rfl, rfl,
              ⟨⟨rfl, rfl, fun _ τ hb ht hτ => R.mov (evt (hτ 8 _ rfl)) rfl ht⟩,
              ⟨⟨rfl, rfl, fun _ τ hb ht hτ => R.mov (evt (hτ 40 _ rfl)) rfl ht⟩,
              ⟨⟨rfl, ⟨_, 41, rfl, rfl, .inl ⟨_, rfl, gw (v := false) (bfalse h0) rfl⟩⟩, fun h => absurd h (by decide)⟩,
              ⟨⟨rfl, ⟨_, 41, rfl, rfl, .inl ⟨_, rfl, gw (v := false) (bfalse h0) rfl⟩⟩, fun h => absurd h (by decide)⟩,
              ⟨⟨rfl, ⟨_, 41, rfl, rfl, .inl ⟨_, rfl, gw (v := false) (bfalse h0) rfl⟩⟩, fun h => absurd h (by decide)⟩,
              ⟨⟨rfl, ⟨_, 41, rfl, rfl, .inl ⟨_, rfl, gw (v := false) (bfalse h0) rfl⟩⟩, fun h => absurd h (by decide)⟩,
              ⟨⟨rfl, ⟨_, 41, rfl, rfl, .inl ⟨_, rfl, gw (v := false) (bfalse h0) rfl⟩⟩, fun h => absurd h (by decide)⟩,
              ⟨⟨rfl, ⟨_, 41, rfl, rfl, .inl ⟨_, rfl, gw (v := false) (bfalse h0) rfl⟩⟩, fun h => absurd h (by decide)⟩,
              ⟨⟨rfl, ⟨_, 41, rfl, rfl, .inl ⟨_, rfl, gw (v := false) (bfalse h0) rfl⟩⟩, fun h => absurd h (by decide)⟩,
              ⟨⟨rfl, ⟨_, 41, rfl, rfl, .inl ⟨_, rfl, gw (v := false) (bfalse h0) rfl⟩⟩, fun h => absurd h (by decide)⟩,
              ⟨⟨rfl, ⟨_, 41, rfl, rfl, .inl ⟨_, rfl, gw (v := false) (bfalse h0) rfl⟩⟩, fun h => absurd h (by decide)⟩,
              ⟨⟨rfl, ⟨_, 50, rfl, rfl, .inr ⟨rfl, rfl⟩⟩, fun h => absurd h (by decide)⟩,
              ⟨⟨rfl, ⟨_, 50, rfl, rfl, .inr ⟨rfl, rfl⟩⟩, fun h => absurd h (by decide)⟩,
              ⟨⟨rfl, ⟨_, 50, rfl, rfl, .inr ⟨rfl, rfl⟩⟩, fun h => absurd h (by decide)⟩,
              ⟨⟨rfl, ⟨_, 50, rfl, rfl, .inr ⟨rfl, rfl⟩⟩, fun h => absurd h (by decide)⟩,
              ⟨⟨rfl, ⟨_, 50, rfl, rfl, .inr ⟨rfl, rfl⟩⟩, fun h => absurd h (by decide)⟩,
              ⟨⟨rfl, ⟨_, 50, rfl, rfl, .inr ⟨rfl, rfl⟩⟩, fun h => absurd h (by decide)⟩,
              ⟨⟨rfl, ⟨_, 41, rfl, rfl, .inl ⟨_, rfl, gw (v := false) (bfalse h0) rfl⟩⟩, fun h => absurd h (by decide)⟩,
              ⟨⟨rfl, ⟨_, 41, rfl, rfl, .inl ⟨_, rfl, gw (v := false) (bfalse h0) rfl⟩⟩, fun h => absurd h (by decide)⟩,
              ⟨⟨rfl, ⟨_, 58, rfl, rfl, .inr ⟨rfl, rfl⟩⟩, fun h => absurd h (by decide)⟩,
              ⟨⟨rfl, ⟨_, 58, rfl, rfl, .inr ⟨rfl, rfl⟩⟩, fun h => absurd h (by decide)⟩,
              ⟨⟨rfl, ⟨_, 58, rfl, rfl, .inr ⟨rfl, rfl⟩⟩, fun h => absurd h (by decide)⟩,
              ⟨⟨rfl, ⟨_, 58, rfl, rfl, .inr ⟨rfl, rfl⟩⟩, fun h => absurd h (by decide)⟩,
              ⟨⟨rfl, ⟨_, 58, rfl, rfl, .inr ⟨rfl, rfl⟩⟩, fun h => absurd h (by decide)⟩,
              ⟨⟨rfl, ⟨_, 41, rfl, rfl, .inl ⟨_, rfl, gw (v := false) (bfalse h0) rfl⟩⟩, fun h => absurd h (by decide)⟩,
              ⟨⟨rfl, ⟨_, 41, rfl, rfl, .inl ⟨_, rfl, gw (v := false) (bfalse h0) rfl⟩⟩, fun h => absurd h (by decide)⟩,
              ⟨⟨rfl, rfl, fun _ τ hb ht hτ => R.pickF (evt (hτ 41 _ rfl)) (bfalse h0) (show ev _ _ (.const (.bool false)) = some (.bool false) from rfl) rfl ht⟩,
              ⟨⟨rfl, rfl, fun _ τ hb ht hτ => R.asg (evt (hτ 66 _ rfl)) rfl ht⟩,
              trivial⟩⟩⟩⟩⟩⟩⟩⟩⟩⟩⟩⟩⟩⟩⟩⟩⟩⟩⟩⟩⟩⟩⟩⟩⟩⟩⟩⟩, rfl, rfl, rfl⟩)
            rfl (bx' := []) rfl (n' := 85) rfl (⟨[0, 5, 6, 7, 8, 9], [(0, _), (5, _), (6, _), (7, _), (8, _), (9, _)], [], 85, rfl, rfl, rfl, ?_⟩)
          refine W.line (n := 3) (by decide) (its := [⟨38, _, true⟩, ⟨39, _, true⟩, ⟨9, _, true⟩]) (ks := []) (kk := []) (live := [0, 5, 6, 7, 8, 9]) (env' := [(0, _), (5, _), (6, _), (7, _), (8, _), (9, _)])
            (⟨Nat.le_of_ble_eq_true rfl, rfl,
              ⟨⟨rfl, rfl, fun _ τ hb ht hτ => R.mov (evt (hτ 9 _ rfl)) rfl ht⟩,
              ⟨⟨rfl, rfl, fun _ τ hb ht hτ => R.addN (i) (1) (evt (hτ 38 _ rfl)) (show ev _ _ (.const (.int .i64 1)) = some (.int ((1 : Nat) : Int)) from rfl) (by first | omega | (simp only [List.length_map, List.length_append, List.length_cons, List.length_nil, List.length_take, List.length_drop, List.length_replicate]; omega) | (simp; omega)) ht⟩,
              ⟨⟨rfl, rfl, fun _ τ hb ht hτ => R.asg (evt (hτ 39 _ rfl)) rfl ht⟩,
              trivial⟩⟩⟩, rfl, rfl, rfl⟩)
            rfl (bx' := []) rfl (n' := 85) rfl (⟨[0, 5, 6, 7, 8, 9], [(0, _), (5, _), (6, _), (7, _), (8, _), (9, _)], [], 85, rfl, rfl, rfl, ?_⟩)
          exact ⟨⟨(i + 1), (by first | omega | (simp only [List.length_map, List.length_append, List.length_cons, List.length_nil, List.length_take, List.length_drop, List.length_replicate]; omega) | (simp; omega))⟩, (by rw [clC_succ used _ _ i hc37]; first | (rw [bfalse h0]; rfl) | (rw [h0, decide_eq_true h1, decide_eq_true h2]; simp; done) | (rw [h0, decide_eq_true h1, decide_eq_false h2]; rfl) | (rw [h0, decide_eq_false h1]; rfl)), (by simp only []; omega)⟩
      · obtain rfl : i = used.length := by omega
        refine W.exit ?_
        refine W.seq ?_
        by_cases hm : m = (watchS used (((1 + x.toNat % 50) : Nat) : Int))
        · by_cases hc : clC used (1 + x.toNat % 50) m used.length = true
          · refine W.line (n := 17) (by decide) (its := [⟨67, _, true⟩, ⟨68, _, true⟩, ⟨69, _, true⟩, ⟨70, _, true⟩, ⟨71, _, true⟩, ⟨72, _, true⟩, ⟨73, .dead, false⟩, ⟨74, .dead, false⟩, ⟨75, _, true⟩, ⟨76, _, true⟩, ⟨77, _, true⟩, ⟨78, _, true⟩, ⟨79, _, true⟩, ⟨80, _, true⟩, ⟨81, _, true⟩, ⟨82, _, true⟩, ⟨83, _, true⟩]) (ks := []) (kk := []) (live := [0, 5, 6, 7, 83]) (env' := [(0, _), (5, _), (6, _), (7, _), (83, _)])
              (⟨Nat.le_of_ble_eq_true rfl, rfl,
                ⟨⟨rfl, rfl, fun _ τ hb ht hτ => R.mov (evt (hτ 8 _ rfl)) rfl ht⟩,
                ⟨⟨rfl, rfl, fun _ τ hb ht hτ => R.mov (evt (hτ 7 _ rfl)) rfl ht⟩,
                ⟨⟨rfl, rfl, fun _ τ hb ht hτ => R.mov (evt (hτ 6 _ rfl)) rfl ht⟩,
                ⟨⟨rfl, rfl, fun _ τ hb ht hτ => R.eqlN (m) ((watchS used (((1 + x.toNat % 50) : Nat) : Int))) (evt (hτ 68 _ rfl)) (evt (hτ 69 _ rfl)) ht⟩,
                ⟨⟨rfl, rfl, fun _ τ hb ht hτ => R.neB (evt (hτ 67 _ rfl)) (evt (hτ 70 _ rfl)) ht⟩,
                ⟨⟨rfl, rfl, fun _ τ hb ht hτ => R.mov (evt (hτ 71 _ rfl)) rfl ht⟩,
                ⟨⟨rfl, ⟨_, 72, rfl, rfl, .inl ⟨_, rfl, gw (v := false) (show (clC used (1 + x.toNat % 50) m used.length != decide (m = (watchS used (((1 + x.toNat % 50) : Nat) : Int)))) = false by rw [hc, decide_eq_true hm]; rfl) rfl⟩⟩, fun h => absurd h (by decide)⟩,
                ⟨⟨rfl, ⟨_, 72, rfl, rfl, .inl ⟨_, rfl, gw (v := false) (show (clC used (1 + x.toNat % 50) m used.length != decide (m = (watchS used (((1 + x.toNat % 50) : Nat) : Int)))) = false by rw [hc, decide_eq_true hm]; rfl) rfl⟩⟩, fun h => absurd h (by decide)⟩,
                ⟨⟨rfl, rfl, fun _ τ hb ht hτ => R.pickF (evt (hτ 72 _ rfl)) (show (clC used (1 + x.toNat % 50) m used.length != decide (m = (watchS used (((1 + x.toNat % 50) : Nat) : Int)))) = false by rw [hc, decide_eq_true hm]; rfl) (show ev _ _ (.const (.bool false)) = some (.bool false) from rfl) rfl ht⟩,
                ⟨⟨rfl, rfl, fun _ τ hb ht hτ => R.mov (evt (hτ 75 _ rfl)) rfl ht⟩,
                ⟨⟨rfl, ⟨_, 76, rfl, rfl, .inl ⟨_, rfl, gw (v := false) (rfl) rfl⟩⟩, fun _ τ hb ht hτ => R.mov (evt (hτ 8 _ rfl)) rfl ht⟩,
                ⟨⟨rfl, ⟨_, 76, rfl, rfl, .inl ⟨_, rfl, gw (v := false) (rfl) rfl⟩⟩, fun _ τ hb ht hτ => R.mov (evt (hτ 77 _ rfl)) rfl ht⟩,
                ⟨⟨rfl, ⟨_, 78, rfl, rfl, .inl ⟨_, rfl, gw (v := true) (hc) rfl⟩⟩, fun _ τ hb ht hτ => R.mov (evt (hτ 7 _ rfl)) rfl ht⟩,
                ⟨⟨rfl, ⟨_, 78, rfl, rfl, .inl ⟨_, rfl, gw (v := true) (hc) rfl⟩⟩, fun _ τ hb ht hτ => R.mov (evt (hτ 6 _ rfl)) rfl ht⟩,
                ⟨⟨rfl, ⟨_, 78, rfl, rfl, .inl ⟨_, rfl, gw (v := true) (hc) rfl⟩⟩, fun _ τ hb ht hτ => R.lssN (m) ((watchS used (((1 + x.toNat % 50) : Nat) : Int))) (evt (hτ 79 _ rfl)) (evt (hτ 80 _ rfl)) ht⟩,
                ⟨⟨rfl, ⟨_, 76, rfl, rfl, .inl ⟨_, rfl, gw (v := false) (rfl) rfl⟩⟩, fun _ τ hb ht hτ => R.pickT (evt (hτ 78 _ rfl)) (hc) (evt (hτ 81 _ rfl)) rfl ht⟩,
                ⟨⟨rfl, rfl, fun _ τ hb ht hτ => R.pickF (evt (hτ 76 _ rfl)) (rfl) (evt (hτ 82 _ rfl)) rfl ht⟩,
                trivial⟩⟩⟩⟩⟩⟩⟩⟩⟩⟩⟩⟩⟩⟩⟩⟩⟩, rfl, rfl, rfl⟩)
              rfl (bx' := []) rfl (n' := 85) rfl (⟨[0, 5, 6, 7, 83], [(0, _), (5, _), (6, _), (7, _), (83, _)], [], 85, rfl, rfl, rfl, ?_⟩)
            refine W.condF rfl (decide_eq_false (by omega)) ?_
            refine W.skip ?_
            refine W.line (n := 3) (by decide) (its := [⟨32, _, true⟩, ⟨33, _, true⟩, ⟨7, _, true⟩]) (ks := []) (kk := []) (live := [0, 5, 6, 7]) (env' := [(0, _), (5, _), (6, _), (7, _)])
              (⟨Nat.le_of_ble_eq_true rfl, rfl,
                ⟨⟨rfl, rfl, fun _ τ hb ht hτ => R.mov (evt (hτ 7 _ rfl)) rfl ht⟩,
                ⟨⟨rfl, rfl, fun _ τ hb ht hτ => R.addN (m) (1) (evt (hτ 32 _ rfl)) (show ev _ _ (.const (.int .i64 1)) = some (.int ((1 : Nat) : Int)) from rfl) (by first | omega | (simp only [List.length_map, List.length_append, List.length_cons, List.length_nil, List.length_take, List.length_drop, List.length_replicate]; omega) | (simp; omega)) ht⟩,
                ⟨⟨rfl, rfl, fun _ τ hb ht hτ => R.asg (evt (hτ 33 _ rfl)) rfl ht⟩,
                trivial⟩⟩⟩, rfl, rfl, rfl⟩)
              rfl (bx' := []) rfl (n' := 85) rfl (⟨[0, 5, 6, 7], [(0, _), (5, _), (6, _), (7, _)], [], 85, rfl, rfl, rfl, ?_⟩)
            exact ⟨⟨(m + 1), ⟨by omega, by omega⟩⟩, rfl, (by simp only []; omega)⟩
          · refine W.line (n := 17) (by decide) (its := [⟨67, _, true⟩, ⟨68, _, true⟩, ⟨69, _, true⟩, ⟨70, _, true⟩, ⟨71, _, true⟩, ⟨72, _, true⟩, ⟨73, _, true⟩, ⟨74, _, true⟩, ⟨75, _, true⟩, ⟨76, _, true⟩, ⟨77, _, true⟩, ⟨78, _, true⟩, ⟨79, .dead, false⟩, ⟨80, .dead, false⟩, ⟨81, .dead, false⟩, ⟨82, _, true⟩, ⟨83, _, true⟩]) (ks := []) (kk := []) (live := [0, 5, 6, 7, 83]) (env' := [(0, _), (5, _), (6, _), (7, _), (83, _)])
              (⟨Nat.le_of_ble_eq_true rfl, rfl,
                ⟨⟨rfl, rfl, fun _ τ hb ht hτ => R.mov (evt (hτ 8 _ rfl)) rfl ht⟩,
                ⟨⟨rfl, rfl, fun _ τ hb ht hτ => R.mov (evt (hτ 7 _ rfl)) rfl ht⟩,
                ⟨⟨rfl, rfl, fun _ τ hb ht hτ => R.mov (evt (hτ 6 _ rfl)) rfl ht⟩,
                ⟨⟨rfl, rfl, fun _ τ hb ht hτ => R.eqlN (m) ((watchS used (((1 + x.toNat % 50) : Nat) : Int))) (evt (hτ 68 _ rfl)) (evt (hτ 69 _ rfl)) ht⟩,
                ⟨⟨rfl, rfl, fun _ τ hb ht hτ => R.neB (evt (hτ 67 _ rfl)) (evt (hτ 70 _ rfl)) ht⟩,
                ⟨⟨rfl, rfl, fun _ τ hb ht hτ => R.mov (evt (hτ 71 _ rfl)) rfl ht⟩,
                ⟨⟨rfl, ⟨_, 72, rfl, rfl, .inl ⟨_, rfl, gw (v := true) (show (clC used (1 + x.toNat % 50) m used.length != decide (m = (watchS used (((1 + x.toNat % 50) : Nat) : Int)))) = true by rw [bfalse hc, decide_eq_true hm]; rfl) rfl⟩⟩, fun _ τ hb ht hτ => R.mov (evt (hτ 6 _ rfl)) rfl ht⟩,
                ⟨⟨rfl, ⟨_, 72, rfl, rfl, .inl ⟨_, rfl, gw (v := true) (show (clC used (1 + x.toNat % 50) m used.length != decide (m = (watchS used (((1 + x.toNat % 50) : Nat) : Int)))) = true by rw [bfalse hc, decide_eq_true hm]; rfl) rfl⟩⟩, fun _ τ hb ht hτ => R.lssN ((watchS used (((1 + x.toNat % 50) : Nat) : Int))) (200) (evt (hτ 73 _ rfl)) (show ev _ _ (.const (.int .i64 200)) = some (.int ((200 : Nat) : Int)) from rfl) ht⟩,
                ⟨⟨rfl, rfl, fun _ τ hb ht hτ => R.pickT (evt (hτ 72 _ rfl)) (show (clC used (1 + x.toNat % 50) m used.length != decide (m = (watchS used (((1 + x.toNat % 50) : Nat) : Int)))) = true by rw [bfalse hc, decide_eq_true hm]; rfl) (evt (hτ 74 _ rfl)) rfl ht⟩,
                ⟨⟨rfl, rfl, fun _ τ hb ht hτ => R.mov (evt (hτ 75 _ rfl)) rfl ht⟩,
                ⟨⟨rfl, ⟨_, 76, rfl, rfl, .inl ⟨_, rfl, gw (v := false) (decide_eq_false (fun h => hc (clT hiw h hm))) rfl⟩⟩, fun _ τ hb ht hτ => R.mov (evt (hτ 8 _ rfl)) rfl ht⟩,
                ⟨⟨rfl, ⟨_, 76, rfl, rfl, .inl ⟨_, rfl, gw (v := false) (decide_eq_false (fun h => hc (clT hiw h hm))) rfl⟩⟩, fun _ τ hb ht hτ => R.mov (evt (hτ 77 _ rfl)) rfl ht⟩,
                ⟨⟨rfl, ⟨_, 78, rfl, rfl, .inl ⟨_, rfl, gw (v := false) (bfalse hc) rfl⟩⟩, fun h => absurd h (by decide)⟩,
                ⟨⟨rfl, ⟨_, 78, rfl, rfl, .inl ⟨_, rfl, gw (v := false) (bfalse hc) rfl⟩⟩, fun h => absurd h (by decide)⟩,
                ⟨⟨rfl, ⟨_, 78, rfl, rfl, .inl ⟨_, rfl, gw (v := false) (bfalse hc) rfl⟩⟩, fun h => absurd h (by decide)⟩,
                ⟨⟨rfl, ⟨_, 76, rfl, rfl, .inl ⟨_, rfl, gw (v := false) (decide_eq_false (fun h => hc (clT hiw h hm))) rfl⟩⟩, fun _ τ hb ht hτ => R.pickF (evt (hτ 78 _ rfl)) (bfalse hc) (show ev _ _ (.const (.bool false)) = some (.bool false) from rfl) rfl ht⟩,
                ⟨⟨rfl, rfl, fun _ τ hb ht hτ => R.pickF (evt (hτ 76 _ rfl)) (decide_eq_false (fun h => hc (clT hiw h hm))) (evt (hτ 82 _ rfl)) rfl ht⟩,
                trivial⟩⟩⟩⟩⟩⟩⟩⟩⟩⟩⟩⟩⟩⟩⟩⟩⟩, rfl, rfl, rfl⟩)
              rfl (bx' := []) rfl (n' := 85) rfl (⟨[0, 5, 6, 7, 83], [(0, _), (5, _), (6, _), (7, _), (83, _)], [], 85, rfl, rfl, rfl, ?_⟩)
            refine W.condF rfl (rfl) ?_
            refine W.skip ?_
            refine W.line (n := 3) (by decide) (its := [⟨32, _, true⟩, ⟨33, _, true⟩, ⟨7, _, true⟩]) (ks := []) (kk := []) (live := [0, 5, 6, 7]) (env' := [(0, _), (5, _), (6, _), (7, _)])
              (⟨Nat.le_of_ble_eq_true rfl, rfl,
                ⟨⟨rfl, rfl, fun _ τ hb ht hτ => R.mov (evt (hτ 7 _ rfl)) rfl ht⟩,
                ⟨⟨rfl, rfl, fun _ τ hb ht hτ => R.addN (m) (1) (evt (hτ 32 _ rfl)) (show ev _ _ (.const (.int .i64 1)) = some (.int ((1 : Nat) : Int)) from rfl) (by first | omega | (simp only [List.length_map, List.length_append, List.length_cons, List.length_nil, List.length_take, List.length_drop, List.length_replicate]; omega) | (simp; omega)) ht⟩,
                ⟨⟨rfl, rfl, fun _ τ hb ht hτ => R.asg (evt (hτ 33 _ rfl)) rfl ht⟩,
                trivial⟩⟩⟩, rfl, rfl, rfl⟩)
              rfl (bx' := []) rfl (n' := 85) rfl (⟨[0, 5, 6, 7], [(0, _), (5, _), (6, _), (7, _)], [], 85, rfl, rfl, rfl, ?_⟩)
            exact ⟨⟨(m + 1), ⟨by omega, by omega⟩⟩, rfl, (by simp only []; omega)⟩
        · refine W.line (n := 17) (by decide) (its := [⟨67, _, true⟩, ⟨68, _, true⟩, ⟨69, _, true⟩, ⟨70, _, true⟩, ⟨71, _, true⟩, ⟨72, _, true⟩, ⟨73, .dead, false⟩, ⟨74, .dead, false⟩, ⟨75, _, true⟩, ⟨76, _, true⟩, ⟨77, _, true⟩, ⟨78, _, true⟩, ⟨79, .dead, false⟩, ⟨80, .dead, false⟩, ⟨81, .dead, false⟩, ⟨82, _, true⟩, ⟨83, _, true⟩]) (ks := []) (kk := []) (live := [0, 5, 6, 7, 83]) (env' := [(0, _), (5, _), (6, _), (7, _), (83, _)])
            (⟨Nat.le_of_ble_eq_true rfl, rfl,
              ⟨⟨rfl, rfl, fun _ τ hb ht hτ => R.mov (evt (hτ 8 _ rfl)) rfl ht⟩,
              ⟨⟨rfl, rfl, fun _ τ hb ht hτ => R.mov (evt (hτ 7 _ rfl)) rfl ht⟩,
              ⟨⟨rfl, rfl, fun _ τ hb ht hτ => R.mov (evt (hτ 6 _ rfl)) rfl ht⟩,
              ⟨⟨rfl, rfl, fun _ τ hb ht hτ => R.eqlN (m) ((watchS used (((1 + x.toNat % 50) : Nat) : Int))) (evt (hτ 68 _ rfl)) (evt (hτ 69 _ rfl)) ht⟩,
              ⟨⟨rfl, rfl, fun _ τ hb ht hτ => R.neB (evt (hτ 67 _ rfl)) (evt (hτ 70 _ rfl)) ht⟩,
              ⟨⟨rfl, rfl, fun _ τ hb ht hτ => R.mov (evt (hτ 71 _ rfl)) rfl ht⟩,
              ⟨⟨rfl, ⟨_, 72, rfl, rfl, .inl ⟨_, rfl, gw (v := false) (show (clC used (1 + x.toNat % 50) m used.length != decide (m = (watchS used (((1 + x.toNat % 50) : Nat) : Int)))) = false by rw [clF hiw (by omega) (by omega) hm, decide_eq_false hm]; rfl) rfl⟩⟩, fun h => absurd h (by decide)⟩,
              ⟨⟨rfl, ⟨_, 72, rfl, rfl, .inl ⟨_, rfl, gw (v := false) (show (clC used (1 + x.toNat % 50) m used.length != decide (m = (watchS used (((1 + x.toNat % 50) : Nat) : Int)))) = false by rw [clF hiw (by omega) (by omega) hm, decide_eq_false hm]; rfl) rfl⟩⟩, fun h => absurd h (by decide)⟩,
              ⟨⟨rfl, rfl, fun _ τ hb ht hτ => R.pickF (evt (hτ 72 _ rfl)) (show (clC used (1 + x.toNat % 50) m used.length != decide (m = (watchS used (((1 + x.toNat % 50) : Nat) : Int)))) = false by rw [clF hiw (by omega) (by omega) hm, decide_eq_false hm]; rfl) (show ev _ _ (.const (.bool false)) = some (.bool false) from rfl) rfl ht⟩,
              ⟨⟨rfl, rfl, fun _ τ hb ht hτ => R.mov (evt (hτ 75 _ rfl)) rfl ht⟩,
              ⟨⟨rfl, ⟨_, 76, rfl, rfl, .inl ⟨_, rfl, gw (v := false) (rfl) rfl⟩⟩, fun _ τ hb ht hτ => R.mov (evt (hτ 8 _ rfl)) rfl ht⟩,
              ⟨⟨rfl, ⟨_, 76, rfl, rfl, .inl ⟨_, rfl, gw (v := false) (rfl) rfl⟩⟩, fun _ τ hb ht hτ => R.mov (evt (hτ 77 _ rfl)) rfl ht⟩,
              ⟨⟨rfl, ⟨_, 78, rfl, rfl, .inl ⟨_, rfl, gw (v := false) (clF hiw (by omega) (by omega) hm) rfl⟩⟩, fun h => absurd h (by decide)⟩,
              ⟨⟨rfl, ⟨_, 78, rfl, rfl, .inl ⟨_, rfl, gw (v := false) (clF hiw (by omega) (by omega) hm) rfl⟩⟩, fun h => absurd h (by decide)⟩,
              ⟨⟨rfl, ⟨_, 78, rfl, rfl, .inl ⟨_, rfl, gw (v := false) (clF hiw (by omega) (by omega) hm) rfl⟩⟩, fun h => absurd h (by decide)⟩,
              ⟨⟨rfl, ⟨_, 76, rfl, rfl, .inl ⟨_, rfl, gw (v := false) (rfl) rfl⟩⟩, fun _ τ hb ht hτ => R.pickF (evt (hτ 78 _ rfl)) (clF hiw (by omega) (by omega) hm) (show ev _ _ (.const (.bool false)) = some (.bool false) from rfl) rfl ht⟩,
              ⟨⟨rfl, rfl, fun _ τ hb ht hτ => R.pickF (evt (hτ 76 _ rfl)) (rfl) (evt (hτ 82 _ rfl)) rfl ht⟩,
              trivial⟩⟩⟩⟩⟩⟩⟩⟩⟩⟩⟩⟩⟩⟩⟩⟩⟩, rfl, rfl, rfl⟩)
            rfl (bx' := []) rfl (n' := 85) rfl (⟨[0, 5, 6, 7, 83], [(0, _), (5, _), (6, _), (7, _), (83, _)], [], 85, rfl, rfl, rfl, ?_⟩)
          refine W.condF rfl (rfl) ?_
          refine W.skip ?_
          refine W.line (n := 3) (by decide) (its := [⟨32, _, true⟩, ⟨33, _, true⟩, ⟨7, _, true⟩]) (ks := []) (kk := []) (live := [0, 5, 6, 7]) (env' := [(0, _), (5, _), (6, _), (7, _)])
            (⟨Nat.le_of_ble_eq_true rfl, rfl,
              ⟨⟨rfl, rfl, fun _ τ hb ht hτ => R.mov (evt (hτ 7 _ rfl)) rfl ht⟩,
              ⟨⟨rfl, rfl, fun _ τ hb ht hτ => R.addN (m) (1) (evt (hτ 32 _ rfl)) (show ev _ _ (.const (.int .i64 1)) = some (.int ((1 : Nat) : Int)) from rfl) (by first | omega | (simp only [List.length_map, List.length_append, List.length_cons, List.length_nil, List.length_take, List.length_drop, List.length_replicate]; omega) | (simp; omega)) ht⟩,
              ⟨⟨rfl, rfl, fun _ τ hb ht hτ => R.asg (evt (hτ 33 _ rfl)) rfl ht⟩,
              trivial⟩⟩⟩, rfl, rfl, rfl⟩)
            rfl (bx' := []) rfl (n' := 85) rfl (⟨[0, 5, 6, 7], [(0, _), (5, _), (6, _), (7, _)], [], 85, rfl, rfl, rfl, ?_⟩)
          exact ⟨⟨(m + 1), ⟨by omega, by omega⟩⟩, rfl, (by simp only []; omega)⟩
    · refine W.exit ?_
      refine W.seq ?_
      refine W.line (n := 2) (by decide) (its := [⟨84, _, true⟩, ⟨4, _, true⟩]) (ks := []) (kk := []) (live := [4]) (env' := [(4, _)])
        (⟨Nat.le_of_ble_eq_true rfl, rfl,
          ⟨⟨rfl, rfl, fun _ τ hb ht hτ => R.callG hC (works_ok) Bors.nil (FrsR.one (.bool _)) ht⟩,
          ⟨⟨rfl, rfl, fun _ τ hb ht hτ => R.asg (evt (hτ 84 _ rfl)) rfl ht⟩,
          trivial⟩⟩, rfl, rfl, rfl⟩)
        rfl (bx' := []) rfl (n' := 85) rfl (⟨[4], [(4, _)], [], 85, rfl, rfl, rfl, ?_⟩)
      refine W.ret ?_
      exact Ends.one' (.inr rfl) rfl (rfl) rfl rfl trivial

end Go.Sx
