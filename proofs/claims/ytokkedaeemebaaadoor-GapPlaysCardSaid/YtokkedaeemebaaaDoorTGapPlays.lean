/- Proved: what functions of the given program compute (used by the theorem of this claim). Conditions: none but those that each theorem states. -/
import Derived.Test.YtokkedaeemebaaaDoorGp6
import Derived.Test.YtokkedaeemebaaaDoorGapLaw2
set_option linter.unusedVariables false
set_option linter.unusedSimpArgs false
set_option linter.unnecessarySimpa false
namespace Go.Sx
open Go.Proofs
theorem plays_pos (seed : List UInt8) (i : Int) (used : List Int) (n : Int) (hi0 : -9223372036854775808 ≤ i ∧ i ≤ 9223372036854775807) (hr0 : ∀ u ∈ used, -9223372036854775808 ≤ u ∧ u ≤ 9223372036854775807) (hn0 : -9223372036854775808 ≤ n ∧ n ≤ 9223372036854775807) (hi : 0 ≤ i) : Fn Tryd.prog gl 3 [.sl none 1 (seed.map D.u8), .int i, .sl none 1 (used.map D.int), .int n] (.bool true) := by
  refine Fn.of (n := 81) Tryd.func3 rfl rfl rfl (Nat.le_of_ble_eq_true rfl) fun C hC => ?_
  refine W.seq ?_
  refine W.line (n := 1) (by decide) (its := [⟨8, _, true⟩]) (ks := []) (kk := []) (live := [0, 1, 2, 3]) (env' := [(0, _), (1, _), (2, _), (3, _)])
    (⟨Nat.le_of_ble_eq_true rfl, rfl,
      ⟨⟨rfl, rfl, fun _ τ hb ht hτ => R.asg (show ev _ _ (.const (.bool false)) = some (.bool false) from rfl) rfl ht⟩,
      trivial⟩, rfl, rfl, rfl⟩)
    rfl (bx' := []) rfl (n' := 81) rfl (⟨[0, 1, 2, 3], [(0, _), (1, _), (2, _), (3, _)], [], 81, rfl, rfl, rfl, ?_⟩)
  refine W.seq ?_
  refine W.seq ?_
  by_cases h1 : 200 < seed.length
  · refine W.line (n := 12) (by decide) (its := [⟨12, _, true⟩, ⟨13, _, true⟩, ⟨14, _, true⟩, ⟨15, _, true⟩, ⟨16, .dead, false⟩, ⟨17, .dead, false⟩, ⟨18, .dead, false⟩, ⟨19, _, true⟩, ⟨20, _, true⟩, ⟨21, .dead, false⟩, ⟨22, .dead, false⟩, ⟨23, _, true⟩]) (ks := []) (kk := []) (live := [0, 1, 2, 3, 23]) (env' := [(0, _), (1, _), (2, _), (3, _), (23, _)])
      (⟨Nat.le_of_ble_eq_true rfl, rfl,
        ⟨⟨rfl, rfl, fun _ τ hb ht hτ => R.mov (evt (hτ 0 _ rfl)) rfl ht⟩,
        ⟨⟨rfl, rfl, fun _ τ hb ht hτ => R.lenE (SC.sl (hτ 12 _ rfl)) (List.length_map _) ht⟩,
        ⟨⟨rfl, rfl, fun _ τ hb ht hτ => R.gtrN (seed.length) (200) (evt (hτ 13 _ rfl)) (show ev _ _ (.const (.int .i64 200)) = some (.int ((200 : Nat) : Int)) from rfl) ht⟩,
        ⟨⟨rfl, rfl, fun _ τ hb ht hτ => R.mov (evt (hτ 14 _ rfl)) rfl ht⟩,
        ⟨⟨rfl, ⟨_, 15, rfl, rfl, .inl ⟨_, rfl, gw (v := true) (decide_eq_true h1) rfl⟩⟩, fun h => absurd h (by decide)⟩,
        ⟨⟨rfl, ⟨_, 15, rfl, rfl, .inl ⟨_, rfl, gw (v := true) (decide_eq_true h1) rfl⟩⟩, fun h => absurd h (by decide)⟩,
        ⟨⟨rfl, ⟨_, 15, rfl, rfl, .inl ⟨_, rfl, gw (v := true) (decide_eq_true h1) rfl⟩⟩, fun h => absurd h (by decide)⟩,
        ⟨⟨rfl, rfl, fun _ τ hb ht hτ => R.pickT (evt (hτ 15 _ rfl)) (decide_eq_true h1) (show ev _ _ (.const (.bool true)) = some (.bool true) from rfl) rfl ht⟩,
        ⟨⟨rfl, rfl, fun _ τ hb ht hτ => R.mov (evt (hτ 19 _ rfl)) rfl ht⟩,
        ⟨⟨rfl, ⟨_, 20, rfl, rfl, .inl ⟨_, rfl, gw (v := true) (rfl) rfl⟩⟩, fun h => absurd h (by decide)⟩,
        ⟨⟨rfl, ⟨_, 20, rfl, rfl, .inl ⟨_, rfl, gw (v := true) (rfl) rfl⟩⟩, fun h => absurd h (by decide)⟩,
        ⟨⟨rfl, rfl, fun _ τ hb ht hτ => R.pickT (evt (hτ 20 _ rfl)) (rfl) (show ev _ _ (.const (.bool true)) = some (.bool true) from rfl) rfl ht⟩,
        trivial⟩⟩⟩⟩⟩⟩⟩⟩⟩⟩⟩⟩, rfl, rfl, rfl⟩)
      rfl (bx' := []) rfl (n' := 81) rfl (⟨[0, 1, 2, 3, 23], [(0, _), (1, _), (2, _), (3, _), (23, _)], [], 81, rfl, rfl, rfl, ?_⟩)
    refine W.condT rfl (rfl) ?_
    refine W.seq ?_
    refine W.line (n := 2) (by decide) (its := [⟨24, _, true⟩, ⟨8, _, true⟩]) (ks := []) (kk := []) (live := [8]) (env' := [(8, _)])
      (⟨Nat.le_of_ble_eq_true rfl, rfl,
        ⟨⟨rfl, rfl, fun _ τ hb ht hτ => R.callG hC (works_ok) Bors.nil (FrsR.one (.bool _)) ht⟩,
        ⟨⟨rfl, rfl, fun _ τ hb ht hτ => R.asg (evt (hτ 24 _ rfl)) rfl ht⟩,
        trivial⟩⟩, rfl, rfl, rfl⟩)
      rfl (bx' := []) rfl (n' := 81) rfl (⟨[8], [(8, _)], [], 81, rfl, rfl, rfl, ?_⟩)
    refine W.ret ?_
    exact Ends.one' (.inr rfl) rfl (rfl) rfl rfl trivial
  · by_cases h2 : 200 < used.length
    · refine W.line (n := 12) (by decide) (its := [⟨12, _, true⟩, ⟨13, _, true⟩, ⟨14, _, true⟩, ⟨15, _, true⟩, ⟨16, _, true⟩, ⟨17, _, true⟩, ⟨18, _, true⟩, ⟨19, _, true⟩, ⟨20, _, true⟩, ⟨21, .dead, false⟩, ⟨22, .dead, false⟩, ⟨23, _, true⟩]) (ks := []) (kk := []) (live := [0, 1, 2, 3, 23]) (env' := [(0, _), (1, _), (2, _), (3, _), (23, _)])
        (⟨Nat.le_of_ble_eq_true rfl, rfl,
          ⟨⟨rfl, rfl, fun _ τ hb ht hτ => R.mov (evt (hτ 0 _ rfl)) rfl ht⟩,
          ⟨⟨rfl, rfl, fun _ τ hb ht hτ => R.lenE (SC.sl (hτ 12 _ rfl)) (List.length_map _) ht⟩,
          ⟨⟨rfl, rfl, fun _ τ hb ht hτ => R.gtrN (seed.length) (200) (evt (hτ 13 _ rfl)) (show ev _ _ (.const (.int .i64 200)) = some (.int ((200 : Nat) : Int)) from rfl) ht⟩,
          ⟨⟨rfl, rfl, fun _ τ hb ht hτ => R.mov (evt (hτ 14 _ rfl)) rfl ht⟩,
          ⟨⟨rfl, ⟨_, 15, rfl, rfl, .inl ⟨_, rfl, gw (v := false) (decide_eq_false h1) rfl⟩⟩, fun _ τ hb ht hτ => R.mov (evt (hτ 2 _ rfl)) rfl ht⟩,
          ⟨⟨rfl, ⟨_, 15, rfl, rfl, .inl ⟨_, rfl, gw (v := false) (decide_eq_false h1) rfl⟩⟩, fun _ τ hb ht hτ => R.lenE (SC.sl (hτ 16 _ rfl)) (List.length_map _) ht⟩,
          ⟨⟨rfl, ⟨_, 15, rfl, rfl, .inl ⟨_, rfl, gw (v := false) (decide_eq_false h1) rfl⟩⟩, fun _ τ hb ht hτ => R.gtrN (used.length) (200) (evt (hτ 17 _ rfl)) (show ev _ _ (.const (.int .i64 200)) = some (.int ((200 : Nat) : Int)) from rfl) ht⟩,
          ⟨⟨rfl, rfl, fun _ τ hb ht hτ => R.pickF (evt (hτ 15 _ rfl)) (decide_eq_false h1) (evt (hτ 18 _ rfl)) rfl ht⟩,
          ⟨⟨rfl, rfl, fun _ τ hb ht hτ => R.mov (evt (hτ 19 _ rfl)) rfl ht⟩,
          ⟨⟨rfl, ⟨_, 20, rfl, rfl, .inl ⟨_, rfl, gw (v := true) (decide_eq_true h2) rfl⟩⟩, fun h => absurd h (by decide)⟩,
          ⟨⟨rfl, ⟨_, 20, rfl, rfl, .inl ⟨_, rfl, gw (v := true) (decide_eq_true h2) rfl⟩⟩, fun h => absurd h (by decide)⟩,
          ⟨⟨rfl, rfl, fun _ τ hb ht hτ => R.pickT (evt (hτ 20 _ rfl)) (decide_eq_true h2) (show ev _ _ (.const (.bool true)) = some (.bool true) from rfl) rfl ht⟩,
          trivial⟩⟩⟩⟩⟩⟩⟩⟩⟩⟩⟩⟩, rfl, rfl, rfl⟩)
        rfl (bx' := []) rfl (n' := 81) rfl (⟨[0, 1, 2, 3, 23], [(0, _), (1, _), (2, _), (3, _), (23, _)], [], 81, rfl, rfl, rfl, ?_⟩)
      refine W.condT rfl (rfl) ?_
      refine W.seq ?_
      refine W.line (n := 2) (by decide) (its := [⟨24, _, true⟩, ⟨8, _, true⟩]) (ks := []) (kk := []) (live := [8]) (env' := [(8, _)])
        (⟨Nat.le_of_ble_eq_true rfl, rfl,
          ⟨⟨rfl, rfl, fun _ τ hb ht hτ => R.callG hC (works_ok) Bors.nil (FrsR.one (.bool _)) ht⟩,
          ⟨⟨rfl, rfl, fun _ τ hb ht hτ => R.asg (evt (hτ 24 _ rfl)) rfl ht⟩,
          trivial⟩⟩, rfl, rfl, rfl⟩)
        rfl (bx' := []) rfl (n' := 81) rfl (⟨[8], [(8, _)], [], 81, rfl, rfl, rfl, ?_⟩)
      refine W.ret ?_
      exact Ends.one' (.inr rfl) rfl (rfl) rfl rfl trivial
    · refine W.line (n := 12) (by decide) (its := [⟨12, _, true⟩, ⟨13, _, true⟩, ⟨14, _, true⟩, ⟨15, _, true⟩, ⟨16, _, true⟩, ⟨17, _, true⟩, ⟨18, _, true⟩, ⟨19, _, true⟩, ⟨20, _, true⟩, ⟨21, _, true⟩, ⟨22, _, true⟩, ⟨23, _, true⟩]) (ks := []) (kk := []) (live := [0, 1, 2, 3, 23]) (env' := [(0, _), (1, _), (2, _), (3, _), (23, _)])
        (⟨Nat.le_of_ble_eq_true rfl, rfl,
          ⟨⟨rfl, rfl, fun _ τ hb ht hτ => R.mov (evt (hτ 0 _ rfl)) rfl ht⟩,
          ⟨⟨rfl, rfl, fun _ τ hb ht hτ => R.lenE (SC.sl (hτ 12 _ rfl)) (List.length_map _) ht⟩,
          ⟨⟨rfl, rfl, fun _ τ hb ht hτ => R.gtrN (seed.length) (200) (evt (hτ 13 _ rfl)) (show ev _ _ (.const (.int .i64 200)) = some (.int ((200 : Nat) : Int)) from rfl) ht⟩,
          ⟨⟨rfl, rfl, fun _ τ hb ht hτ => R.mov (evt (hτ 14 _ rfl)) rfl ht⟩,
          ⟨⟨rfl, ⟨_, 15, rfl, rfl, .inl ⟨_, rfl, gw (v := false) (decide_eq_false h1) rfl⟩⟩, fun _ τ hb ht hτ => R.mov (evt (hτ 2 _ rfl)) rfl ht⟩,
          ⟨⟨rfl, ⟨_, 15, rfl, rfl, .inl ⟨_, rfl, gw (v := false) (decide_eq_false h1) rfl⟩⟩, fun _ τ hb ht hτ => R.lenE (SC.sl (hτ 16 _ rfl)) (List.length_map _) ht⟩,
          ⟨⟨rfl, ⟨_, 15, rfl, rfl, .inl ⟨_, rfl, gw (v := false) (decide_eq_false h1) rfl⟩⟩, fun _ τ hb ht hτ => R.gtrN (used.length) (200) (evt (hτ 17 _ rfl)) (show ev _ _ (.const (.int .i64 200)) = some (.int ((200 : Nat) : Int)) from rfl) ht⟩,
          ⟨⟨rfl, rfl, fun _ τ hb ht hτ => R.pickF (evt (hτ 15 _ rfl)) (decide_eq_false h1) (evt (hτ 18 _ rfl)) rfl ht⟩,
          ⟨⟨rfl, rfl, fun _ τ hb ht hτ => R.mov (evt (hτ 19 _ rfl)) rfl ht⟩,
          ⟨⟨rfl, ⟨_, 20, rfl, rfl, .inl ⟨_, rfl, gw (v := false) (decide_eq_false h2) rfl⟩⟩, fun _ τ hb ht hτ => R.mov (evt (hτ 1 _ rfl)) rfl ht⟩,
          ⟨⟨rfl, ⟨_, 20, rfl, rfl, .inl ⟨_, rfl, gw (v := false) (decide_eq_false h2) rfl⟩⟩, fun _ τ hb ht hτ => R.bin (evt (hτ 21 _ rfl)) (show ev _ _ (.const (.int .i64 2147483648)) = some (.int ((2147483648 : Nat) : Int)) from rfl) rfl trivial ht⟩,
          ⟨⟨rfl, rfl, fun _ τ hb ht hτ => R.pickF (evt (hτ 20 _ rfl)) (decide_eq_false h2) (evt (hτ 22 _ rfl)) rfl ht⟩,
          trivial⟩⟩⟩⟩⟩⟩⟩⟩⟩⟩⟩⟩, rfl, rfl, rfl⟩)
        rfl (bx' := []) rfl (n' := 81) rfl (⟨[0, 1, 2, 3, 23], [(0, _), (1, _), (2, _), (3, _), (23, _)], [], 81, rfl, rfl, rfl, ?_⟩)
      refine W.cond rfl (fun hc23 => ?_) (fun hc23 => ?_)
      · refine W.seq ?_
        refine W.line (n := 2) (by decide) (its := [⟨24, _, true⟩, ⟨8, _, true⟩]) (ks := []) (kk := []) (live := [8]) (env' := [(8, _)])
          (⟨Nat.le_of_ble_eq_true rfl, rfl,
            ⟨⟨rfl, rfl, fun _ τ hb ht hτ => R.callG hC (works_ok) Bors.nil (FrsR.one (.bool _)) ht⟩,
            ⟨⟨rfl, rfl, fun _ τ hb ht hτ => R.asg (evt (hτ 24 _ rfl)) rfl ht⟩,
            trivial⟩⟩, rfl, rfl, rfl⟩)
          rfl (bx' := []) rfl (n' := 81) rfl (⟨[8], [(8, _)], [], 81, rfl, rfl, rfl, ?_⟩)
        refine W.ret ?_
        exact Ends.one' (.inr rfl) rfl (rfl) rfl rfl trivial
      · refine W.skip ?_
        refine W.seq ?_
        refine W.line (n := 4) (by decide) (its := [⟨25, _, true⟩, ⟨26, _, true⟩, ⟨27, _, true⟩, ⟨9, _, true⟩]) (ks := [(2, 25), (3, 27)]) (kk := [(2, 25), (3, 27)]) (live := [0, 1, 2, 3, 9]) (env' := [(0, _), (1, _), (2, _), (3, _), (9, _)])
          (⟨Nat.le_of_ble_eq_true rfl, rfl,
            ⟨⟨rfl, rfl, fun _ τ hb ht hτ => R.bslE .nil trivial rfl ht (by decide)⟩,
            ⟨⟨rfl, rfl, fun _ τ hb ht hτ => R.mov (evt (hτ 0 _ rfl)) rfl ht⟩,
            ⟨⟨rfl, rfl, fun _ τ hb ht hτ => R.appE (Or.inl rfl) (hτ 25 _ rfl) (SrcO.sc (SC.sl (hτ 26 _ rfl)) (pur_map (fun _ => rfl))) (List.nil_append _) (by first | omega | (simp only [List.length_map, List.length_append, List.length_cons, List.length_nil, List.length_take, List.length_drop, List.length_replicate]; omega) | (simp; omega)) ht (by decide) (by decide)⟩,
            ⟨⟨rfl, rfl, fun _ τ hb ht hτ => R.asgO (hτ 27 _ rfl) rfl ht (by decide)⟩,
            trivial⟩⟩⟩⟩, rfl, rfl, rfl⟩)
          rfl (bx' := []) rfl (n' := 81) rfl (⟨[0, 1, 2, 3, 9], [(0, _), (1, _), (2, _), (3, _), (9, _)], [], 81, rfl, rfl, rfl, ?_⟩)
        refine W.seq ?_
        refine W.line (n := 4) (by decide) (its := [⟨28, _, true⟩, ⟨29, _, true⟩, ⟨30, _, true⟩, ⟨10, _, true⟩]) (ks := [(2, 28), (3, 30)]) (kk := [(2, 28), (3, 30)]) (live := [0, 1, 2, 3, 9, 10]) (env' := [(0, _), (1, _), (2, _), (3, _), (9, _), (10, _)])
          (⟨Nat.le_of_ble_eq_true rfl, rfl,
            ⟨⟨rfl, rfl, fun _ τ hb ht hτ => R.bslE .nil trivial rfl ht (by decide)⟩,
            ⟨⟨rfl, rfl, fun _ τ hb ht hτ => R.mov (evt (hτ 2 _ rfl)) rfl ht⟩,
            ⟨⟨rfl, rfl, fun _ τ hb ht hτ => R.appE (Or.inl rfl) (hτ 28 _ rfl) (SrcO.sc (SC.sl (hτ 29 _ rfl)) (pur_map (fun _ => rfl))) (List.nil_append _) (by first | omega | (simp only [List.length_map, List.length_append, List.length_cons, List.length_nil, List.length_take, List.length_drop, List.length_replicate]; omega) | (simp; omega)) ht (by decide) (by decide)⟩,
            ⟨⟨rfl, rfl, fun _ τ hb ht hτ => R.asgO (hτ 30 _ rfl) rfl ht (by decide)⟩,
            trivial⟩⟩⟩⟩, rfl, rfl, rfl⟩)
          rfl (bx' := []) rfl (n' := 81) rfl (⟨[0, 1, 2, 3, 9, 10], [(0, _), (1, _), (2, _), (3, _), (9, _), (10, _)], [], 81, rfl, rfl, rfl, ?_⟩)
        refine W.seq ?_
        refine W.seq ?_
        refine W.draw (m := 34) (an := (0 :: 0 :: 3 :: 7 :: 0 :: 0 :: 55 :: 119 :: 255 :: 511 :: 1023 :: 1023 :: 4095 :: 1023 :: 1023 :: 32767 :: 65535 :: 131071 :: 262143 :: 524287 :: 524287 :: 2097151 :: 524287 :: 524287 :: 16777215 :: 33554431 :: 67108863 :: 134217727 :: 268435455 :: 536870911 :: 268435455 :: 1342177279 :: 4294967295 :: 8589934591 :: [])) hP (by decide) rfl (its := (⟨31, _, true⟩ :: ⟨32, _, true⟩ :: ⟨33, _, true⟩ :: ⟨34, _, true⟩ :: ⟨35, _, true⟩ :: ⟨36, _, true⟩ :: ⟨37, _, true⟩ :: ⟨38, _, true⟩ :: ⟨39, _, true⟩ :: ⟨40, _, true⟩ :: ⟨41, _, true⟩ :: ⟨42, _, true⟩ :: ⟨43, _, true⟩ :: ⟨44, _, true⟩ :: ⟨45, _, true⟩ :: ⟨46, _, true⟩ :: ⟨47, _, true⟩ :: ⟨48, _, true⟩ :: ⟨49, _, true⟩ :: ⟨50, _, true⟩ :: ⟨51, _, true⟩ :: ⟨52, _, true⟩ :: ⟨53, _, true⟩ :: ⟨54, _, true⟩ :: ⟨55, _, true⟩ :: ⟨56, _, true⟩ :: ⟨57, _, true⟩ :: ⟨58, _, true⟩ :: ⟨59, _, true⟩ :: ⟨60, _, true⟩ :: ⟨61, _, true⟩ :: ⟨62, _, true⟩ :: ⟨63, _, true⟩ :: ⟨64, _, true⟩ :: [])) (ks := []) (kk := []) (live := [2, 10, 64]) (env' := [(2, _), (10, _), (64, _)])
          (⟨Nat.le_of_ble_eq_true rfl, rfl,
            ⟨⟨rfl, rfl, fun _ τ hb ht hτ => R.al (hτ 9 _ rfl) ht (by decide)⟩,
            ⟨⟨rfl, rfl, fun _ τ hb ht hτ => R.mov (evt (hτ 1 _ rfl)) rfl ht⟩,
            ⟨⟨rfl, rfl, fun _ τ hb ht hτ => R.callG hC (script_ok seed i (by omega) hi0 hi) (Bors.cons (Bor.sc (SC.al (hτ 31 _ rfl) (hτ 9 _ rfl)) (brw_map (fun _ => rfl))) (Bors.cons (Bor.pur (evt (hτ 32 _ rfl)) rfl rfl) Bors.nil)) (FrsR.one (.sl _ _ _ (frs_map fun _ => .u8 _))) ht⟩,
            ⟨⟨rfl, rfl, fun _ τ hb ht hτ => R.cvS (xs := (scriptS seed i)) (SC.sl (hτ 33 _ rfl)) ht⟩,
            ⟨⟨rfl, rfl, fun _ τ hb ht hτ => R.mov (evt (hτ 0 _ rfl)) rfl ht⟩,
            ⟨⟨rfl, rfl, fun _ τ hb ht hτ => R.mov (evt (hτ 1 _ rfl)) rfl ht⟩,
            ⟨⟨rfl, rfl, fun _ τ hb ht hτ => R.callG hC (rscript_ok seed i (by omega) hi0 hi) (Bors.cons (Bor.pur (evt (hτ 35 _ rfl)) rfl rfl) (Bors.cons (Bor.pur (evt (hτ 36 _ rfl)) rfl rfl) Bors.nil)) (FrsR.one (.sl _ _ _ (frs_map fun _ => .u8 _))) ht⟩,
            ⟨⟨rfl, rfl, fun _ τ hb ht hτ => R.cvS (xs := (scriptR seed i)) (SC.sl (hτ 37 _ rfl)) ht⟩,
            ⟨⟨rfl, rfl, fun _ τ hb ht hτ => R.bin (evt (hτ 34 _ rfl)) (evt (hτ 38 _ rfl)) rfl trivial ht⟩,
            ⟨⟨rfl, rfl, fun _ τ hb ht hτ => R.mov (evt (hτ 39 _ rfl)) rfl ht⟩,
            ⟨⟨rfl, ⟨_, 40, rfl, rfl, .inl ⟨_, rfl, gw (v := false) (script_ne seed i) rfl⟩⟩, fun _ τ hb ht hτ => R.al (hτ 9 _ rfl) ht (by decide)⟩,
            ⟨⟨rfl, ⟨_, 40, rfl, rfl, .inl ⟨_, rfl, gw (v := false) (script_ne seed i) rfl⟩⟩, fun _ τ hb ht hτ => R.mov (evt (hτ 1 _ rfl)) rfl ht⟩,
            ⟨⟨rfl, ⟨_, 40, rfl, rfl, .inl ⟨_, rfl, gw (v := false) (script_ne seed i) rfl⟩⟩, fun _ τ hb ht hτ => R.callG hC (ghash_ok seed i (by omega) hi0 hi) (Bors.cons (Bor.sc (SC.al (hτ 41 _ rfl) (hτ 9 _ rfl)) (brw_map (fun _ => rfl))) (Bors.cons (Bor.pur (evt (hτ 42 _ rfl)) rfl rfl) Bors.nil)) (FrsR.one (frs_hash _)) ht⟩,
            ⟨⟨rfl, ⟨_, 40, rfl, rfl, .inl ⟨_, rfl, gw (v := false) (script_ne seed i) rfl⟩⟩, fun _ τ hb ht hτ => R.mov (evt (hτ 0 _ rfl)) rfl ht⟩,
            ⟨⟨rfl, ⟨_, 40, rfl, rfl, .inl ⟨_, rfl, gw (v := false) (script_ne seed i) rfl⟩⟩, fun _ τ hb ht hτ => R.mov (evt (hτ 1 _ rfl)) rfl ht⟩,
            ⟨⟨rfl, ⟨_, 40, rfl, rfl, .inl ⟨_, rfl, gw (v := false) (script_ne seed i) rfl⟩⟩, fun _ τ hb ht hτ => R.callG hC (rghash_ok seed i (by omega) hi0 hi) (Bors.cons (Bor.pur (evt (hτ 44 _ rfl)) rfl rfl) (Bors.cons (Bor.pur (evt (hτ 45 _ rfl)) rfl rfl) Bors.nil)) (FrsR.one (frs_hash _)) ht⟩,
            ⟨⟨rfl, ⟨_, 40, rfl, rfl, .inl ⟨_, rfl, gw (v := false) (script_ne seed i) rfl⟩⟩, fun _ τ hb ht hτ => R.eqAX (evt (hτ 43 _ rfl)) (evt (hτ 46 _ rfl)) ht⟩,
            ⟨⟨rfl, rfl, fun _ τ hb ht hτ => R.pickF (evt (hτ 40 _ rfl)) (script_ne seed i) (evt (hτ 47 _ rfl)) rfl ht⟩,
            ⟨⟨rfl, rfl, fun _ τ hb ht hτ => R.mov (evt (hτ 48 _ rfl)) rfl ht⟩,
            ⟨⟨rfl, ⟨_, 49, rfl, rfl, .inl ⟨_, rfl, gw (v := false) (hash_ne seed i) rfl⟩⟩, fun _ τ hb ht hτ => R.al (hτ 10 _ rfl) ht (by decide)⟩,
            ⟨⟨rfl, ⟨_, 49, rfl, rfl, .inl ⟨_, rfl, gw (v := false) (hash_ne seed i) rfl⟩⟩, fun _ τ hb ht hτ => R.mov (evt (hτ 3 _ rfl)) rfl ht⟩,
            ⟨⟨rfl, ⟨_, 49, rfl, rfl, .inl ⟨_, rfl, gw (v := false) (hash_ne seed i) rfl⟩⟩, fun _ τ hb ht hτ => R.callG hC (watch_ok used n (by omega) hr0 hn0) (Bors.cons (Bor.sc (SC.al (hτ 50 _ rfl) (hτ 10 _ rfl)) (brw_map (fun _ => rfl))) (Bors.cons (Bor.pur (evt (hτ 51 _ rfl)) rfl rfl) Bors.nil)) (FrsR.one (.int _)) ht⟩,
            ⟨⟨rfl, ⟨_, 49, rfl, rfl, .inl ⟨_, rfl, gw (v := false) (hash_ne seed i) rfl⟩⟩, fun _ τ hb ht hτ => R.mov (evt (hτ 2 _ rfl)) rfl ht⟩,
            ⟨⟨rfl, ⟨_, 49, rfl, rfl, .inl ⟨_, rfl, gw (v := false) (hash_ne seed i) rfl⟩⟩, fun _ τ hb ht hτ => R.mov (evt (hτ 3 _ rfl)) rfl ht⟩,
            ⟨⟨rfl, ⟨_, 49, rfl, rfl, .inl ⟨_, rfl, gw (v := false) (hash_ne seed i) rfl⟩⟩, fun _ τ hb ht hτ => R.callG hC (rwatch_ok used n (by omega) hr0 hn0) (Bors.cons (Bor.pur (evt (hτ 53 _ rfl)) rfl rfl) (Bors.cons (Bor.pur (evt (hτ 54 _ rfl)) rfl rfl) Bors.nil)) (FrsR.one (.int _)) ht⟩,
            ⟨⟨rfl, ⟨_, 49, rfl, rfl, .inl ⟨_, rfl, gw (v := false) (hash_ne seed i) rfl⟩⟩, fun _ τ hb ht hτ => R.neqN (watchS used n) (watchR used n) (evt (hτ 52 _ rfl)) (evt (hτ 55 _ rfl)) ht⟩,
            ⟨⟨rfl, rfl, fun _ τ hb ht hτ => R.pickF (evt (hτ 49 _ rfl)) (hash_ne seed i) (evt (hτ 56 _ rfl)) rfl ht⟩,
            ⟨⟨rfl, rfl, fun _ τ hb ht hτ => R.mov (evt (hτ 57 _ rfl)) rfl ht⟩,
            ⟨⟨rfl, ⟨_, 58, rfl, rfl, .inl ⟨_, rfl, gw (v := false) (decide_eq_false (fun h => h (watch_eq used n))) rfl⟩⟩, fun _ τ hb ht hτ => R.al (hτ 9 _ rfl) ht (by decide)⟩,
            ⟨⟨rfl, ⟨_, 58, rfl, rfl, .inl ⟨_, rfl, gw (v := false) (decide_eq_false (fun h => h (watch_eq used n))) rfl⟩⟩, fun _ τ hb ht hτ => R.cvS (xs := seed) (SC.al (hτ 59 _ rfl) (hτ 9 _ rfl)) ht⟩,
            ⟨⟨rfl, ⟨_, 58, rfl, rfl, .inl ⟨_, rfl, gw (v := false) (decide_eq_false (fun h => h (watch_eq used n))) rfl⟩⟩, fun _ τ hb ht hτ => R.mov (evt (hτ 0 _ rfl)) rfl ht⟩,
            ⟨⟨rfl, ⟨_, 58, rfl, rfl, .inl ⟨_, rfl, gw (v := false) (decide_eq_false (fun h => h (watch_eq used n))) rfl⟩⟩, fun _ τ hb ht hτ => R.cvS (xs := seed) (SC.sl (hτ 61 _ rfl)) ht⟩,
            ⟨⟨rfl, ⟨_, 58, rfl, rfl, .inl ⟨_, rfl, gw (v := false) (decide_eq_false (fun h => h (watch_eq used n))) rfl⟩⟩, fun _ τ hb ht hτ => R.bin (evt (hτ 60 _ rfl)) (evt (hτ 62 _ rfl)) rfl trivial ht⟩,
            ⟨⟨rfl, rfl, fun _ τ hb ht hτ => R.pickF (evt (hτ 58 _ rfl)) (decide_eq_false (fun h => h (watch_eq used n))) (evt (hτ 63 _ rfl)) rfl ht⟩,
            trivial⟩⟩⟩⟩⟩⟩⟩⟩⟩⟩⟩⟩⟩⟩⟩⟩⟩⟩⟩⟩⟩⟩⟩⟩⟩⟩⟩⟩⟩⟩⟩⟩⟩⟩, rfl, rfl, rfl⟩)
          rfl (bx' := []) rfl (n' := 81) rfl (⟨[2, 10, 64], [(2, _), (10, _), (64, _)], [], 81, rfl, rfl, rfl, ?_⟩)
        refine W.condF rfl (ne_same _) ?_
        refine W.skip ?_
        refine W.seq ?_
        refine W.seq ?_
        refine W.line (n := 1) (by decide) (its := [⟨11, _, true⟩]) (ks := []) (kk := []) (live := [2, 10, 11]) (env' := [(2, _), (10, _), (11, _)])
          (⟨Nat.le_of_ble_eq_true rfl, rfl,
            ⟨⟨rfl, rfl, fun _ τ hb ht hτ => R.asg (show ev _ _ (.const (.int .i64 0)) = some (.int ((0 : Nat) : Int)) from rfl) rfl ht⟩,
            trivial⟩, rfl, rfl, rfl⟩)
          rfl (bx' := []) rfl (n' := 81) rfl (⟨[2, 10, 11], [(2, _), (10, _), (11, _)], [], 81, rfl, rfl, rfl, ?_⟩)
        refine W.block ?_
        refine W.loop (α := {q__ : Nat // q__ ≤ used.length}) (fun q__ => ⟨81, [(2, .sl none 1 (used.map D.int)), (10, .sl (some 3) 1 (used.map D.int)), (11, .int ((q__.1 : Nat) : Int))], []⟩) (fun q__ => used.length - q__.1) ⟨(0), (by first | omega | (simp only [List.length_map, List.length_append, List.length_cons, List.length_nil, List.length_take, List.length_drop, List.length_replicate]; omega) | (simp; omega))⟩ rfl ?_
        rintro ⟨k, hk⟩
        show W _ _ _ _ ⟨81, [(2, .sl none 1 (used.map D.int)), (10, .sl (some 3) 1 (used.map D.int)), (11, .int ((k : Nat) : Int))], []⟩
        refine W.seq ?_
        refine W.seq ?_
        refine W.line (n := 4) (by decide) (its := [⟨65, _, true⟩, ⟨66, _, true⟩, ⟨67, _, true⟩, ⟨68, _, true⟩]) (ks := []) (kk := []) (live := [2, 10, 11, 68]) (env' := [(2, _), (10, _), (11, _), (68, _)])
          (⟨Nat.le_of_ble_eq_true rfl, rfl,
            ⟨⟨rfl, rfl, fun _ τ hb ht hτ => R.mov (evt (hτ 11 _ rfl)) rfl ht⟩,
            ⟨⟨rfl, rfl, fun _ τ hb ht hτ => R.mov (evt (hτ 2 _ rfl)) rfl ht⟩,
            ⟨⟨rfl, rfl, fun _ τ hb ht hτ => R.lenE (SC.sl (hτ 66 _ rfl)) (List.length_map _) ht⟩,
            ⟨⟨rfl, rfl, fun _ τ hb ht hτ => R.lssN (k) (used.length) (evt (hτ 65 _ rfl)) (evt (hτ 67 _ rfl)) ht⟩,
            trivial⟩⟩⟩⟩, rfl, rfl, rfl⟩)
          rfl (bx' := []) rfl (n' := 81) rfl (⟨[2, 10, 11, 68], [(2, _), (10, _), (11, _), (68, _)], [], 81, rfl, rfl, rfl, ?_⟩)
        refine W.condD rfl (fun hc68 => ?_) (fun hc68 => ?_)
        · refine W.skip ?_
          refine W.seq ?_
          refine W.block ?_
          refine W.seq ?_
          refine W.draw (m := 9) (an := [0, 0, 3, 7, 0, 0, 48, 112, 255]) hP (by decide) rfl (its := [⟨71, _, true⟩, ⟨72, _, true⟩, ⟨73, _, true⟩, ⟨74, _, true⟩, ⟨75, _, true⟩, ⟨76, _, true⟩, ⟨77, _, true⟩, ⟨78, _, true⟩, ⟨79, _, true⟩]) (ks := []) (kk := []) (live := [2, 10, 11, 79]) (env' := [(2, _), (10, _), (11, _), (79, _)])
            (⟨Nat.le_of_ble_eq_true rfl, rfl,
              ⟨⟨rfl, rfl, fun _ τ hb ht hτ => R.al (hτ 10 _ rfl) ht (by decide)⟩,
              ⟨⟨rfl, rfl, fun _ τ hb ht hτ => R.mov (evt (hτ 11 _ rfl)) rfl ht⟩,
              ⟨⟨rfl, rfl, fun _ τ hb ht hτ => R.idxN (k) (SC.al (hτ 71 _ rfl) (hτ 10 _ rfl)) (evoI (evt (hτ 72 _ rfl))) rfl (by first | omega | (simp only [List.length_map, List.length_append, List.length_cons, List.length_nil, List.length_take, List.length_drop, List.length_replicate]; omega) | (simp; omega)) ht (by decide)⟩,
              ⟨⟨rfl, rfl, fun _ τ hb ht hτ => R.ldE (hτ 73 _ rfl) (SC.al (hτ 71 _ rfl) (hτ 10 _ rfl)) (map_get! (l := used) (by first | omega | (simp only [List.length_map, List.length_append, List.length_cons, List.length_nil, List.length_take, List.length_drop, List.length_replicate]; omega) | (simp; omega))) rfl rfl rfl rfl ht⟩,
              ⟨⟨rfl, rfl, fun _ τ hb ht hτ => R.mov (evt (hτ 2 _ rfl)) rfl ht⟩,
              ⟨⟨rfl, rfl, fun _ τ hb ht hτ => R.mov (evt (hτ 11 _ rfl)) rfl ht⟩,
              ⟨⟨rfl, rfl, fun _ τ hb ht hτ => R.idxN (k) (SC.sl (hτ 75 _ rfl)) (evoI (evt (hτ 76 _ rfl))) rfl (by first | omega | (simp only [List.length_map, List.length_append, List.length_cons, List.length_nil, List.length_take, List.length_drop, List.length_replicate]; omega) | (simp; omega)) ht (by decide)⟩,
              ⟨⟨rfl, rfl, fun _ τ hb ht hτ => R.ldE (hτ 77 _ rfl) (SC.sl (hτ 75 _ rfl)) (map_get! (l := used) (by first | omega | (simp only [List.length_map, List.length_append, List.length_cons, List.length_nil, List.length_take, List.length_drop, List.length_replicate]; omega) | (simp; omega))) rfl rfl rfl rfl ht⟩,
              ⟨⟨rfl, rfl, fun _ τ hb ht hτ => R.bin (evt (hτ 74 _ rfl)) (evt (hτ 78 _ rfl)) rfl trivial ht⟩,
              trivial⟩⟩⟩⟩⟩⟩⟩⟩⟩, rfl, rfl, rfl⟩)
            rfl (bx' := []) rfl (n' := 81) rfl (⟨[2, 10, 11, 79], [(2, _), (10, _), (11, _), (79, _)], [], 81, rfl, rfl, rfl, ?_⟩)
          refine W.condF rfl (by simp) ?_
          refine W.skip ?_
          refine W.line (n := 3) (by decide) (its := [⟨69, _, true⟩, ⟨70, _, true⟩, ⟨11, _, true⟩]) (ks := []) (kk := []) (live := [2, 10, 11]) (env' := [(2, _), (10, _), (11, _)])
            (⟨Nat.le_of_ble_eq_true rfl, rfl,
              ⟨⟨rfl, rfl, fun _ τ hb ht hτ => R.mov (evt (hτ 11 _ rfl)) rfl ht⟩,
              ⟨⟨rfl, rfl, fun _ τ hb ht hτ => R.addN (k) (1) (evt (hτ 69 _ rfl)) (show ev _ _ (.const (.int .i64 1)) = some (.int ((1 : Nat) : Int)) from rfl) (by first | omega | (simp only [List.length_map, List.length_append, List.length_cons, List.length_nil, List.length_take, List.length_drop, List.length_replicate]; omega) | (simp; omega)) ht⟩,
              ⟨⟨rfl, rfl, fun _ τ hb ht hτ => R.asg (evt (hτ 70 _ rfl)) rfl ht⟩,
              trivial⟩⟩⟩, rfl, rfl, rfl⟩)
            rfl (bx' := []) rfl (n' := 81) rfl (⟨[2, 10, 11], [(2, _), (10, _), (11, _)], [], 81, rfl, rfl, rfl, ?_⟩)
          exact ⟨⟨(k + 1), (by first | omega | (simp only [List.length_map, List.length_append, List.length_cons, List.length_nil, List.length_take, List.length_drop, List.length_replicate]; omega) | (simp; omega))⟩, rfl, (by simp only []; omega)⟩
        · obtain rfl : k = used.length := by omega
          refine W.exit ?_
          refine W.seq ?_
          refine W.line (n := 2) (by decide) (its := [⟨80, _, true⟩, ⟨8, _, true⟩]) (ks := []) (kk := []) (live := [8]) (env' := [(8, _)])
            (⟨Nat.le_of_ble_eq_true rfl, rfl,
              ⟨⟨rfl, rfl, fun _ τ hb ht hτ => R.callG hC (works_ok) Bors.nil (FrsR.one (.bool _)) ht⟩,
              ⟨⟨rfl, rfl, fun _ τ hb ht hτ => R.asg (evt (hτ 80 _ rfl)) rfl ht⟩,
              trivial⟩⟩, rfl, rfl, rfl⟩)
            rfl (bx' := []) rfl (n' := 81) rfl (⟨[8], [(8, _)], [], 81, rfl, rfl, rfl, ?_⟩)
          refine W.ret ?_
          exact Ends.one' (.inr rfl) rfl (rfl) rfl rfl trivial

theorem plays_neg (seed : List UInt8) (i : Int) (used : List Int) (n : Int) (hi0 : -9223372036854775808 ≤ i ∧ i ≤ 9223372036854775807) (hr0 : ∀ u ∈ used, -9223372036854775808 ≤ u ∧ u ≤ 9223372036854775807) (hn0 : -9223372036854775808 ≤ n ∧ n ≤ 9223372036854775807) (hi : i < 0) : Fn Tryd.prog gl 3 [.sl none 1 (seed.map D.u8), .int i, .sl none 1 (used.map D.int), .int n] (.bool true) := by
  refine Fn.of (n := 81) Tryd.func3 rfl rfl rfl (Nat.le_of_ble_eq_true rfl) fun C hC => ?_
  refine W.seq ?_
  refine W.line (n := 1) (by decide) (its := [⟨8, _, true⟩]) (ks := []) (kk := []) (live := [0, 1, 2, 3]) (env' := [(0, _), (1, _), (2, _), (3, _)])
    (⟨Nat.le_of_ble_eq_true rfl, rfl,
      ⟨⟨rfl, rfl, fun _ τ hb ht hτ => R.asg (show ev _ _ (.const (.bool false)) = some (.bool false) from rfl) rfl ht⟩,
      trivial⟩, rfl, rfl, rfl⟩)
    rfl (bx' := []) rfl (n' := 81) rfl (⟨[0, 1, 2, 3], [(0, _), (1, _), (2, _), (3, _)], [], 81, rfl, rfl, rfl, ?_⟩)
  refine W.seq ?_
  refine W.seq ?_
  by_cases h1 : 200 < seed.length
  · refine W.line (n := 12) (by decide) (its := [⟨12, _, true⟩, ⟨13, _, true⟩, ⟨14, _, true⟩, ⟨15, _, true⟩, ⟨16, .dead, false⟩, ⟨17, .dead, false⟩, ⟨18, .dead, false⟩, ⟨19, _, true⟩, ⟨20, _, true⟩, ⟨21, .dead, false⟩, ⟨22, .dead, false⟩, ⟨23, _, true⟩]) (ks := []) (kk := []) (live := [0, 1, 2, 3, 23]) (env' := [(0, _), (1, _), (2, _), (3, _), (23, _)])
      (⟨Nat.le_of_ble_eq_true rfl, rfl,
        ⟨⟨rfl, rfl, fun _ τ hb ht hτ => R.mov (evt (hτ 0 _ rfl)) rfl ht⟩,
        ⟨⟨rfl, rfl, fun _ τ hb ht hτ => R.lenE (SC.sl (hτ 12 _ rfl)) (List.length_map _) ht⟩,
        ⟨⟨rfl, rfl, fun _ τ hb ht hτ => R.gtrN (seed.length) (200) (evt (hτ 13 _ rfl)) (show ev _ _ (.const (.int .i64 200)) = some (.int ((200 : Nat) : Int)) from rfl) ht⟩,
        ⟨⟨rfl, rfl, fun _ τ hb ht hτ => R.mov (evt (hτ 14 _ rfl)) rfl ht⟩,
        ⟨⟨rfl, ⟨_, 15, rfl, rfl, .inl ⟨_, rfl, gw (v := true) (decide_eq_true h1) rfl⟩⟩, fun h => absurd h (by decide)⟩,
        ⟨⟨rfl, ⟨_, 15, rfl, rfl, .inl ⟨_, rfl, gw (v := true) (decide_eq_true h1) rfl⟩⟩, fun h => absurd h (by decide)⟩,
        ⟨⟨rfl, ⟨_, 15, rfl, rfl, .inl ⟨_, rfl, gw (v := true) (decide_eq_true h1) rfl⟩⟩, fun h => absurd h (by decide)⟩,
        ⟨⟨rfl, rfl, fun _ τ hb ht hτ => R.pickT (evt (hτ 15 _ rfl)) (decide_eq_true h1) (show ev _ _ (.const (.bool true)) = some (.bool true) from rfl) rfl ht⟩,
        ⟨⟨rfl, rfl, fun _ τ hb ht hτ => R.mov (evt (hτ 19 _ rfl)) rfl ht⟩,
        ⟨⟨rfl, ⟨_, 20, rfl, rfl, .inl ⟨_, rfl, gw (v := true) (rfl) rfl⟩⟩, fun h => absurd h (by decide)⟩,
        ⟨⟨rfl, ⟨_, 20, rfl, rfl, .inl ⟨_, rfl, gw (v := true) (rfl) rfl⟩⟩, fun h => absurd h (by decide)⟩,
        ⟨⟨rfl, rfl, fun _ τ hb ht hτ => R.pickT (evt (hτ 20 _ rfl)) (rfl) (show ev _ _ (.const (.bool true)) = some (.bool true) from rfl) rfl ht⟩,
        trivial⟩⟩⟩⟩⟩⟩⟩⟩⟩⟩⟩⟩, rfl, rfl, rfl⟩)
      rfl (bx' := []) rfl (n' := 81) rfl (⟨[0, 1, 2, 3, 23], [(0, _), (1, _), (2, _), (3, _), (23, _)], [], 81, rfl, rfl, rfl, ?_⟩)
    refine W.condT rfl (rfl) ?_
    refine W.seq ?_
    refine W.line (n := 2) (by decide) (its := [⟨24, _, true⟩, ⟨8, _, true⟩]) (ks := []) (kk := []) (live := [8]) (env' := [(8, _)])
      (⟨Nat.le_of_ble_eq_true rfl, rfl,
        ⟨⟨rfl, rfl, fun _ τ hb ht hτ => R.callG hC (works_ok) Bors.nil (FrsR.one (.bool _)) ht⟩,
        ⟨⟨rfl, rfl, fun _ τ hb ht hτ => R.asg (evt (hτ 24 _ rfl)) rfl ht⟩,
        trivial⟩⟩, rfl, rfl, rfl⟩)
      rfl (bx' := []) rfl (n' := 81) rfl (⟨[8], [(8, _)], [], 81, rfl, rfl, rfl, ?_⟩)
    refine W.ret ?_
    exact Ends.one' (.inr rfl) rfl (rfl) rfl rfl trivial
  · by_cases h2 : 200 < used.length
    · refine W.line (n := 12) (by decide) (its := [⟨12, _, true⟩, ⟨13, _, true⟩, ⟨14, _, true⟩, ⟨15, _, true⟩, ⟨16, _, true⟩, ⟨17, _, true⟩, ⟨18, _, true⟩, ⟨19, _, true⟩, ⟨20, _, true⟩, ⟨21, .dead, false⟩, ⟨22, .dead, false⟩, ⟨23, _, true⟩]) (ks := []) (kk := []) (live := [0, 1, 2, 3, 23]) (env' := [(0, _), (1, _), (2, _), (3, _), (23, _)])
        (⟨Nat.le_of_ble_eq_true rfl, rfl,
          ⟨⟨rfl, rfl, fun _ τ hb ht hτ => R.mov (evt (hτ 0 _ rfl)) rfl ht⟩,
          ⟨⟨rfl, rfl, fun _ τ hb ht hτ => R.lenE (SC.sl (hτ 12 _ rfl)) (List.length_map _) ht⟩,
          ⟨⟨rfl, rfl, fun _ τ hb ht hτ => R.gtrN (seed.length) (200) (evt (hτ 13 _ rfl)) (show ev _ _ (.const (.int .i64 200)) = some (.int ((200 : Nat) : Int)) from rfl) ht⟩,
          ⟨⟨rfl, rfl, fun _ τ hb ht hτ => R.mov (evt (hτ 14 _ rfl)) rfl ht⟩,
          ⟨⟨rfl, ⟨_, 15, rfl, rfl, .inl ⟨_, rfl, gw (v := false) (decide_eq_false h1) rfl⟩⟩, fun _ τ hb ht hτ => R.mov (evt (hτ 2 _ rfl)) rfl ht⟩,
          ⟨⟨rfl, ⟨_, 15, rfl, rfl, .inl ⟨_, rfl, gw (v := false) (decide_eq_false h1) rfl⟩⟩, fun _ τ hb ht hτ => R.lenE (SC.sl (hτ 16 _ rfl)) (List.length_map _) ht⟩,
          ⟨⟨rfl, ⟨_, 15, rfl, rfl, .inl ⟨_, rfl, gw (v := false) (decide_eq_false h1) rfl⟩⟩, fun _ τ hb ht hτ => R.gtrN (used.length) (200) (evt (hτ 17 _ rfl)) (show ev _ _ (.const (.int .i64 200)) = some (.int ((200 : Nat) : Int)) from rfl) ht⟩,
          ⟨⟨rfl, rfl, fun _ τ hb ht hτ => R.pickF (evt (hτ 15 _ rfl)) (decide_eq_false h1) (evt (hτ 18 _ rfl)) rfl ht⟩,
          ⟨⟨rfl, rfl, fun _ τ hb ht hτ => R.mov (evt (hτ 19 _ rfl)) rfl ht⟩,
          ⟨⟨rfl, ⟨_, 20, rfl, rfl, .inl ⟨_, rfl, gw (v := true) (decide_eq_true h2) rfl⟩⟩, fun h => absurd h (by decide)⟩,
          ⟨⟨rfl, ⟨_, 20, rfl, rfl, .inl ⟨_, rfl, gw (v := true) (decide_eq_true h2) rfl⟩⟩, fun h => absurd h (by decide)⟩,
          ⟨⟨rfl, rfl, fun _ τ hb ht hτ => R.pickT (evt (hτ 20 _ rfl)) (decide_eq_true h2) (show ev _ _ (.const (.bool true)) = some (.bool true) from rfl) rfl ht⟩,
          trivial⟩⟩⟩⟩⟩⟩⟩⟩⟩⟩⟩⟩, rfl, rfl, rfl⟩)
        rfl (bx' := []) rfl (n' := 81) rfl (⟨[0, 1, 2, 3, 23], [(0, _), (1, _), (2, _), (3, _), (23, _)], [], 81, rfl, rfl, rfl, ?_⟩)
      refine W.condT rfl (rfl) ?_
      refine W.seq ?_
      refine W.line (n := 2) (by decide) (its := [⟨24, _, true⟩, ⟨8, _, true⟩]) (ks := []) (kk := []) (live := [8]) (env' := [(8, _)])
        (⟨Nat.le_of_ble_eq_true rfl, rfl,
          ⟨⟨rfl, rfl, fun _ τ hb ht hτ => R.callG hC (works_ok) Bors.nil (FrsR.one (.bool _)) ht⟩,
          ⟨⟨rfl, rfl, fun _ τ hb ht hτ => R.asg (evt (hτ 24 _ rfl)) rfl ht⟩,
          trivial⟩⟩, rfl, rfl, rfl⟩)
        rfl (bx' := []) rfl (n' := 81) rfl (⟨[8], [(8, _)], [], 81, rfl, rfl, rfl, ?_⟩)
      refine W.ret ?_
      exact Ends.one' (.inr rfl) rfl (rfl) rfl rfl trivial
    · refine W.line (n := 12) (by decide) (its := [⟨12, _, true⟩, ⟨13, _, true⟩, ⟨14, _, true⟩, ⟨15, _, true⟩, ⟨16, _, true⟩, ⟨17, _, true⟩, ⟨18, _, true⟩, ⟨19, _, true⟩, ⟨20, _, true⟩, ⟨21, _, true⟩, ⟨22, _, true⟩, ⟨23, _, true⟩]) (ks := []) (kk := []) (live := [0, 1, 2, 3, 23]) (env' := [(0, _), (1, _), (2, _), (3, _), (23, _)])
        (⟨Nat.le_of_ble_eq_true rfl, rfl,
          ⟨⟨rfl, rfl, fun _ τ hb ht hτ => R.mov (evt (hτ 0 _ rfl)) rfl ht⟩,
          ⟨⟨rfl, rfl, fun _ τ hb ht hτ => R.lenE (SC.sl (hτ 12 _ rfl)) (List.length_map _) ht⟩,
          ⟨⟨rfl, rfl, fun _ τ hb ht hτ => R.gtrN (seed.length) (200) (evt (hτ 13 _ rfl)) (show ev _ _ (.const (.int .i64 200)) = some (.int ((200 : Nat) : Int)) from rfl) ht⟩,
          ⟨⟨rfl, rfl, fun _ τ hb ht hτ => R.mov (evt (hτ 14 _ rfl)) rfl ht⟩,
          ⟨⟨rfl, ⟨_, 15, rfl, rfl, .inl ⟨_, rfl, gw (v := false) (decide_eq_false h1) rfl⟩⟩, fun _ τ hb ht hτ => R.mov (evt (hτ 2 _ rfl)) rfl ht⟩,
          ⟨⟨rfl, ⟨_, 15, rfl, rfl, .inl ⟨_, rfl, gw (v := false) (decide_eq_false h1) rfl⟩⟩, fun _ τ hb ht hτ => R.lenE (SC.sl (hτ 16 _ rfl)) (List.length_map _) ht⟩,
          ⟨⟨rfl, ⟨_, 15, rfl, rfl, .inl ⟨_, rfl, gw (v := false) (decide_eq_false h1) rfl⟩⟩, fun _ τ hb ht hτ => R.gtrN (used.length) (200) (evt (hτ 17 _ rfl)) (show ev _ _ (.const (.int .i64 200)) = some (.int ((200 : Nat) : Int)) from rfl) ht⟩,
          ⟨⟨rfl, rfl, fun _ τ hb ht hτ => R.pickF (evt (hτ 15 _ rfl)) (decide_eq_false h1) (evt (hτ 18 _ rfl)) rfl ht⟩,
          ⟨⟨rfl, rfl, fun _ τ hb ht hτ => R.mov (evt (hτ 19 _ rfl)) rfl ht⟩,
          ⟨⟨rfl, ⟨_, 20, rfl, rfl, .inl ⟨_, rfl, gw (v := false) (decide_eq_false h2) rfl⟩⟩, fun _ τ hb ht hτ => R.mov (evt (hτ 1 _ rfl)) rfl ht⟩,
          ⟨⟨rfl, ⟨_, 20, rfl, rfl, .inl ⟨_, rfl, gw (v := false) (decide_eq_false h2) rfl⟩⟩, fun _ τ hb ht hτ => R.bin (evt (hτ 21 _ rfl)) (show ev _ _ (.const (.int .i64 2147483648)) = some (.int ((2147483648 : Nat) : Int)) from rfl) rfl trivial ht⟩,
          ⟨⟨rfl, rfl, fun _ τ hb ht hτ => R.pickF (evt (hτ 20 _ rfl)) (decide_eq_false h2) (evt (hτ 22 _ rfl)) rfl ht⟩,
          trivial⟩⟩⟩⟩⟩⟩⟩⟩⟩⟩⟩⟩, rfl, rfl, rfl⟩)
        rfl (bx' := []) rfl (n' := 81) rfl (⟨[0, 1, 2, 3, 23], [(0, _), (1, _), (2, _), (3, _), (23, _)], [], 81, rfl, rfl, rfl, ?_⟩)
      refine W.cond rfl (fun hc23 => ?_) (fun hc23 => ?_)
      · refine W.seq ?_
        refine W.line (n := 2) (by decide) (its := [⟨24, _, true⟩, ⟨8, _, true⟩]) (ks := []) (kk := []) (live := [8]) (env' := [(8, _)])
          (⟨Nat.le_of_ble_eq_true rfl, rfl,
            ⟨⟨rfl, rfl, fun _ τ hb ht hτ => R.callG hC (works_ok) Bors.nil (FrsR.one (.bool _)) ht⟩,
            ⟨⟨rfl, rfl, fun _ τ hb ht hτ => R.asg (evt (hτ 24 _ rfl)) rfl ht⟩,
            trivial⟩⟩, rfl, rfl, rfl⟩)
          rfl (bx' := []) rfl (n' := 81) rfl (⟨[8], [(8, _)], [], 81, rfl, rfl, rfl, ?_⟩)
        refine W.ret ?_
        exact Ends.one' (.inr rfl) rfl (rfl) rfl rfl trivial
      · refine W.skip ?_
        refine W.seq ?_
        refine W.line (n := 4) (by decide) (its := [⟨25, _, true⟩, ⟨26, _, true⟩, ⟨27, _, true⟩, ⟨9, _, true⟩]) (ks := [(2, 25), (3, 27)]) (kk := [(2, 25), (3, 27)]) (live := [0, 1, 2, 3, 9]) (env' := [(0, _), (1, _), (2, _), (3, _), (9, _)])
          (⟨Nat.le_of_ble_eq_true rfl, rfl,
            ⟨⟨rfl, rfl, fun _ τ hb ht hτ => R.bslE .nil trivial rfl ht (by decide)⟩,
            ⟨⟨rfl, rfl, fun _ τ hb ht hτ => R.mov (evt (hτ 0 _ rfl)) rfl ht⟩,
            ⟨⟨rfl, rfl, fun _ τ hb ht hτ => R.appE (Or.inl rfl) (hτ 25 _ rfl) (SrcO.sc (SC.sl (hτ 26 _ rfl)) (pur_map (fun _ => rfl))) (List.nil_append _) (by first | omega | (simp only [List.length_map, List.length_append, List.length_cons, List.length_nil, List.length_take, List.length_drop, List.length_replicate]; omega) | (simp; omega)) ht (by decide) (by decide)⟩,
            ⟨⟨rfl, rfl, fun _ τ hb ht hτ => R.asgO (hτ 27 _ rfl) rfl ht (by decide)⟩,
            trivial⟩⟩⟩⟩, rfl, rfl, rfl⟩)
          rfl (bx' := []) rfl (n' := 81) rfl (⟨[0, 1, 2, 3, 9], [(0, _), (1, _), (2, _), (3, _), (9, _)], [], 81, rfl, rfl, rfl, ?_⟩)
        refine W.seq ?_
        refine W.line (n := 4) (by decide) (its := [⟨28, _, true⟩, ⟨29, _, true⟩, ⟨30, _, true⟩, ⟨10, _, true⟩]) (ks := [(2, 28), (3, 30)]) (kk := [(2, 28), (3, 30)]) (live := [0, 1, 2, 3, 9, 10]) (env' := [(0, _), (1, _), (2, _), (3, _), (9, _), (10, _)])
          (⟨Nat.le_of_ble_eq_true rfl, rfl,
            ⟨⟨rfl, rfl, fun _ τ hb ht hτ => R.bslE .nil trivial rfl ht (by decide)⟩,
            ⟨⟨rfl, rfl, fun _ τ hb ht hτ => R.mov (evt (hτ 2 _ rfl)) rfl ht⟩,
            ⟨⟨rfl, rfl, fun _ τ hb ht hτ => R.appE (Or.inl rfl) (hτ 28 _ rfl) (SrcO.sc (SC.sl (hτ 29 _ rfl)) (pur_map (fun _ => rfl))) (List.nil_append _) (by first | omega | (simp only [List.length_map, List.length_append, List.length_cons, List.length_nil, List.length_take, List.length_drop, List.length_replicate]; omega) | (simp; omega)) ht (by decide) (by decide)⟩,
            ⟨⟨rfl, rfl, fun _ τ hb ht hτ => R.asgO (hτ 30 _ rfl) rfl ht (by decide)⟩,
            trivial⟩⟩⟩⟩, rfl, rfl, rfl⟩)
          rfl (bx' := []) rfl (n' := 81) rfl (⟨[0, 1, 2, 3, 9, 10], [(0, _), (1, _), (2, _), (3, _), (9, _), (10, _)], [], 81, rfl, rfl, rfl, ?_⟩)
        refine W.seq ?_
        refine W.seq ?_
        refine W.draw (m := 34) (an := (0 :: 0 :: 3 :: 7 :: 0 :: 0 :: 55 :: 119 :: 255 :: 511 :: 1023 :: 1023 :: 4095 :: 1023 :: 1023 :: 32767 :: 65535 :: 131071 :: 262143 :: 524287 :: 524287 :: 2097151 :: 524287 :: 524287 :: 16777215 :: 33554431 :: 67108863 :: 134217727 :: 268435455 :: 536870911 :: 268435455 :: 1342177279 :: 4294967295 :: 8589934591 :: [])) hP (by decide) rfl (its := (⟨31, _, true⟩ :: ⟨32, _, true⟩ :: ⟨33, _, true⟩ :: ⟨34, _, true⟩ :: ⟨35, _, true⟩ :: ⟨36, _, true⟩ :: ⟨37, _, true⟩ :: ⟨38, _, true⟩ :: ⟨39, _, true⟩ :: ⟨40, _, true⟩ :: ⟨41, _, true⟩ :: ⟨42, _, true⟩ :: ⟨43, _, true⟩ :: ⟨44, _, true⟩ :: ⟨45, _, true⟩ :: ⟨46, _, true⟩ :: ⟨47, _, true⟩ :: ⟨48, _, true⟩ :: ⟨49, _, true⟩ :: ⟨50, _, true⟩ :: ⟨51, _, true⟩ :: ⟨52, _, true⟩ :: ⟨53, _, true⟩ :: ⟨54, _, true⟩ :: ⟨55, _, true⟩ :: ⟨56, _, true⟩ :: ⟨57, _, true⟩ :: ⟨58, _, true⟩ :: ⟨59, _, true⟩ :: ⟨60, _, true⟩ :: ⟨61, _, true⟩ :: ⟨62, _, true⟩ :: ⟨63, _, true⟩ :: ⟨64, _, true⟩ :: [])) (ks := []) (kk := []) (live := [2, 10, 64]) (env' := [(2, _), (10, _), (64, _)])
          (⟨Nat.le_of_ble_eq_true rfl, rfl,
            ⟨⟨rfl, rfl, fun _ τ hb ht hτ => R.al (hτ 9 _ rfl) ht (by decide)⟩,
            ⟨⟨rfl, rfl, fun _ τ hb ht hτ => R.mov (evt (hτ 1 _ rfl)) rfl ht⟩,
            ⟨⟨rfl, rfl, fun _ τ hb ht hτ => R.callG hC (script_neg seed i (by omega) hi0 hi) (Bors.cons (Bor.sc (SC.al (hτ 31 _ rfl) (hτ 9 _ rfl)) (brw_map (fun _ => rfl))) (Bors.cons (Bor.pur (evt (hτ 32 _ rfl)) rfl rfl) Bors.nil)) (FrsR.one .nils) ht⟩,
            ⟨⟨rfl, rfl, fun _ τ hb ht hτ => R.cvS (xs := []) (SC.nil (hτ 33 _ rfl)) ht⟩,
            ⟨⟨rfl, rfl, fun _ τ hb ht hτ => R.mov (evt (hτ 0 _ rfl)) rfl ht⟩,
            ⟨⟨rfl, rfl, fun _ τ hb ht hτ => R.mov (evt (hτ 1 _ rfl)) rfl ht⟩,
            ⟨⟨rfl, rfl, fun _ τ hb ht hτ => R.callG hC (rscript_neg seed i (by omega) hi0 hi) (Bors.cons (Bor.pur (evt (hτ 35 _ rfl)) rfl rfl) (Bors.cons (Bor.pur (evt (hτ 36 _ rfl)) rfl rfl) Bors.nil)) (FrsR.one .nils) ht⟩,
            ⟨⟨rfl, rfl, fun _ τ hb ht hτ => R.cvS (xs := []) (SC.nil (hτ 37 _ rfl)) ht⟩,
            ⟨⟨rfl, rfl, fun _ τ hb ht hτ => R.bin (evt (hτ 34 _ rfl)) (evt (hτ 38 _ rfl)) rfl trivial ht⟩,
            ⟨⟨rfl, rfl, fun _ τ hb ht hτ => R.mov (evt (hτ 39 _ rfl)) rfl ht⟩,
            ⟨⟨rfl, ⟨_, 40, rfl, rfl, .inl ⟨_, rfl, gw (v := false) (ne_same _) rfl⟩⟩, fun _ τ hb ht hτ => R.al (hτ 9 _ rfl) ht (by decide)⟩,
            ⟨⟨rfl, ⟨_, 40, rfl, rfl, .inl ⟨_, rfl, gw (v := false) (ne_same _) rfl⟩⟩, fun _ τ hb ht hτ => R.mov (evt (hτ 1 _ rfl)) rfl ht⟩,
            ⟨⟨rfl, ⟨_, 40, rfl, rfl, .inl ⟨_, rfl, gw (v := false) (ne_same _) rfl⟩⟩, fun _ τ hb ht hτ => R.callG hC (ghash_neg seed i (by omega) hi0 hi) (Bors.cons (Bor.sc (SC.al (hτ 41 _ rfl) (hτ 9 _ rfl)) (brw_map (fun _ => rfl))) (Bors.cons (Bor.pur (evt (hτ 42 _ rfl)) rfl rfl) Bors.nil)) (FrsR.one (frs_hash _)) ht⟩,
            ⟨⟨rfl, ⟨_, 40, rfl, rfl, .inl ⟨_, rfl, gw (v := false) (ne_same _) rfl⟩⟩, fun _ τ hb ht hτ => R.mov (evt (hτ 0 _ rfl)) rfl ht⟩,
            ⟨⟨rfl, ⟨_, 40, rfl, rfl, .inl ⟨_, rfl, gw (v := false) (ne_same _) rfl⟩⟩, fun _ τ hb ht hτ => R.mov (evt (hτ 1 _ rfl)) rfl ht⟩,
            ⟨⟨rfl, ⟨_, 40, rfl, rfl, .inl ⟨_, rfl, gw (v := false) (ne_same _) rfl⟩⟩, fun _ τ hb ht hτ => R.callG hC (rghash_neg seed i (by omega) hi0 hi) (Bors.cons (Bor.pur (evt (hτ 44 _ rfl)) rfl rfl) (Bors.cons (Bor.pur (evt (hτ 45 _ rfl)) rfl rfl) Bors.nil)) (FrsR.one (frs_hash _)) ht⟩,
            ⟨⟨rfl, ⟨_, 40, rfl, rfl, .inl ⟨_, rfl, gw (v := false) (ne_same _) rfl⟩⟩, fun _ τ hb ht hτ => R.eqAX (evt (hτ 43 _ rfl)) (evt (hτ 46 _ rfl)) ht⟩,
            ⟨⟨rfl, rfl, fun _ τ hb ht hτ => R.pickF (evt (hτ 40 _ rfl)) (ne_same _) (evt (hτ 47 _ rfl)) rfl ht⟩,
            ⟨⟨rfl, rfl, fun _ τ hb ht hτ => R.mov (evt (hτ 48 _ rfl)) rfl ht⟩,
            ⟨⟨rfl, ⟨_, 49, rfl, rfl, .inl ⟨_, rfl, gw (v := false) (ne_same _) rfl⟩⟩, fun _ τ hb ht hτ => R.al (hτ 10 _ rfl) ht (by decide)⟩,
            ⟨⟨rfl, ⟨_, 49, rfl, rfl, .inl ⟨_, rfl, gw (v := false) (ne_same _) rfl⟩⟩, fun _ τ hb ht hτ => R.mov (evt (hτ 3 _ rfl)) rfl ht⟩,
            ⟨⟨rfl, ⟨_, 49, rfl, rfl, .inl ⟨_, rfl, gw (v := false) (ne_same _) rfl⟩⟩, fun _ τ hb ht hτ => R.callG hC (watch_ok used n (by omega) hr0 hn0) (Bors.cons (Bor.sc (SC.al (hτ 50 _ rfl) (hτ 10 _ rfl)) (brw_map (fun _ => rfl))) (Bors.cons (Bor.pur (evt (hτ 51 _ rfl)) rfl rfl) Bors.nil)) (FrsR.one (.int _)) ht⟩,
            ⟨⟨rfl, ⟨_, 49, rfl, rfl, .inl ⟨_, rfl, gw (v := false) (ne_same _) rfl⟩⟩, fun _ τ hb ht hτ => R.mov (evt (hτ 2 _ rfl)) rfl ht⟩,
            ⟨⟨rfl, ⟨_, 49, rfl, rfl, .inl ⟨_, rfl, gw (v := false) (ne_same _) rfl⟩⟩, fun _ τ hb ht hτ => R.mov (evt (hτ 3 _ rfl)) rfl ht⟩,
            ⟨⟨rfl, ⟨_, 49, rfl, rfl, .inl ⟨_, rfl, gw (v := false) (ne_same _) rfl⟩⟩, fun _ τ hb ht hτ => R.callG hC (rwatch_ok used n (by omega) hr0 hn0) (Bors.cons (Bor.pur (evt (hτ 53 _ rfl)) rfl rfl) (Bors.cons (Bor.pur (evt (hτ 54 _ rfl)) rfl rfl) Bors.nil)) (FrsR.one (.int _)) ht⟩,
            ⟨⟨rfl, ⟨_, 49, rfl, rfl, .inl ⟨_, rfl, gw (v := false) (ne_same _) rfl⟩⟩, fun _ τ hb ht hτ => R.neqN (watchS used n) (watchR used n) (evt (hτ 52 _ rfl)) (evt (hτ 55 _ rfl)) ht⟩,
            ⟨⟨rfl, rfl, fun _ τ hb ht hτ => R.pickF (evt (hτ 49 _ rfl)) (ne_same _) (evt (hτ 56 _ rfl)) rfl ht⟩,
            ⟨⟨rfl, rfl, fun _ τ hb ht hτ => R.mov (evt (hτ 57 _ rfl)) rfl ht⟩,
            ⟨⟨rfl, ⟨_, 58, rfl, rfl, .inl ⟨_, rfl, gw (v := false) (decide_eq_false (fun h => h (watch_eq used n))) rfl⟩⟩, fun _ τ hb ht hτ => R.al (hτ 9 _ rfl) ht (by decide)⟩,
            ⟨⟨rfl, ⟨_, 58, rfl, rfl, .inl ⟨_, rfl, gw (v := false) (decide_eq_false (fun h => h (watch_eq used n))) rfl⟩⟩, fun _ τ hb ht hτ => R.cvS (xs := seed) (SC.al (hτ 59 _ rfl) (hτ 9 _ rfl)) ht⟩,
            ⟨⟨rfl, ⟨_, 58, rfl, rfl, .inl ⟨_, rfl, gw (v := false) (decide_eq_false (fun h => h (watch_eq used n))) rfl⟩⟩, fun _ τ hb ht hτ => R.mov (evt (hτ 0 _ rfl)) rfl ht⟩,
            ⟨⟨rfl, ⟨_, 58, rfl, rfl, .inl ⟨_, rfl, gw (v := false) (decide_eq_false (fun h => h (watch_eq used n))) rfl⟩⟩, fun _ τ hb ht hτ => R.cvS (xs := seed) (SC.sl (hτ 61 _ rfl)) ht⟩,
            ⟨⟨rfl, ⟨_, 58, rfl, rfl, .inl ⟨_, rfl, gw (v := false) (decide_eq_false (fun h => h (watch_eq used n))) rfl⟩⟩, fun _ τ hb ht hτ => R.bin (evt (hτ 60 _ rfl)) (evt (hτ 62 _ rfl)) rfl trivial ht⟩,
            ⟨⟨rfl, rfl, fun _ τ hb ht hτ => R.pickF (evt (hτ 58 _ rfl)) (decide_eq_false (fun h => h (watch_eq used n))) (evt (hτ 63 _ rfl)) rfl ht⟩,
            trivial⟩⟩⟩⟩⟩⟩⟩⟩⟩⟩⟩⟩⟩⟩⟩⟩⟩⟩⟩⟩⟩⟩⟩⟩⟩⟩⟩⟩⟩⟩⟩⟩⟩⟩, rfl, rfl, rfl⟩)
          rfl (bx' := []) rfl (n' := 81) rfl (⟨[2, 10, 64], [(2, _), (10, _), (64, _)], [], 81, rfl, rfl, rfl, ?_⟩)
        refine W.condF rfl (ne_same _) ?_
        refine W.skip ?_
        refine W.seq ?_
        refine W.seq ?_
        refine W.line (n := 1) (by decide) (its := [⟨11, _, true⟩]) (ks := []) (kk := []) (live := [2, 10, 11]) (env' := [(2, _), (10, _), (11, _)])
          (⟨Nat.le_of_ble_eq_true rfl, rfl,
            ⟨⟨rfl, rfl, fun _ τ hb ht hτ => R.asg (show ev _ _ (.const (.int .i64 0)) = some (.int ((0 : Nat) : Int)) from rfl) rfl ht⟩,
            trivial⟩, rfl, rfl, rfl⟩)
          rfl (bx' := []) rfl (n' := 81) rfl (⟨[2, 10, 11], [(2, _), (10, _), (11, _)], [], 81, rfl, rfl, rfl, ?_⟩)
        refine W.block ?_
        refine W.loop (α := {q__ : Nat // q__ ≤ used.length}) (fun q__ => ⟨81, [(2, .sl none 1 (used.map D.int)), (10, .sl (some 3) 1 (used.map D.int)), (11, .int ((q__.1 : Nat) : Int))], []⟩) (fun q__ => used.length - q__.1) ⟨(0), (by first | omega | (simp only [List.length_map, List.length_append, List.length_cons, List.length_nil, List.length_take, List.length_drop, List.length_replicate]; omega) | (simp; omega))⟩ rfl ?_
        rintro ⟨k, hk⟩
        show W _ _ _ _ ⟨81, [(2, .sl none 1 (used.map D.int)), (10, .sl (some 3) 1 (used.map D.int)), (11, .int ((k : Nat) : Int))], []⟩
        refine W.seq ?_
        refine W.seq ?_
        refine W.line (n := 4) (by decide) (its := [⟨65, _, true⟩, ⟨66, _, true⟩, ⟨67, _, true⟩, ⟨68, _, true⟩]) (ks := []) (kk := []) (live := [2, 10, 11, 68]) (env' := [(2, _), (10, _), (11, _), (68, _)])
          (⟨Nat.le_of_ble_eq_true rfl, rfl,
            ⟨⟨rfl, rfl, fun _ τ hb ht hτ => R.mov (evt (hτ 11 _ rfl)) rfl ht⟩,
            ⟨⟨rfl, rfl, fun _ τ hb ht hτ => R.mov (evt (hτ 2 _ rfl)) rfl ht⟩,
            ⟨⟨rfl, rfl, fun _ τ hb ht hτ => R.lenE (SC.sl (hτ 66 _ rfl)) (List.length_map _) ht⟩,
            ⟨⟨rfl, rfl, fun _ τ hb ht hτ => R.lssN (k) (used.length) (evt (hτ 65 _ rfl)) (evt (hτ 67 _ rfl)) ht⟩,
            trivial⟩⟩⟩⟩, rfl, rfl, rfl⟩)
          rfl (bx' := []) rfl (n' := 81) rfl (⟨[2, 10, 11, 68], [(2, _), (10, _), (11, _), (68, _)], [], 81, rfl, rfl, rfl, ?_⟩)
        refine W.condD rfl (fun hc68 => ?_) (fun hc68 => ?_)
        · refine W.skip ?_
          refine W.seq ?_
          refine W.block ?_
          refine W.seq ?_
          refine W.draw (m := 9) (an := [0, 0, 3, 7, 0, 0, 48, 112, 255]) hP (by decide) rfl (its := [⟨71, _, true⟩, ⟨72, _, true⟩, ⟨73, _, true⟩, ⟨74, _, true⟩, ⟨75, _, true⟩, ⟨76, _, true⟩, ⟨77, _, true⟩, ⟨78, _, true⟩, ⟨79, _, true⟩]) (ks := []) (kk := []) (live := [2, 10, 11, 79]) (env' := [(2, _), (10, _), (11, _), (79, _)])
            (⟨Nat.le_of_ble_eq_true rfl, rfl,
              ⟨⟨rfl, rfl, fun _ τ hb ht hτ => R.al (hτ 10 _ rfl) ht (by decide)⟩,
              ⟨⟨rfl, rfl, fun _ τ hb ht hτ => R.mov (evt (hτ 11 _ rfl)) rfl ht⟩,
              ⟨⟨rfl, rfl, fun _ τ hb ht hτ => R.idxN (k) (SC.al (hτ 71 _ rfl) (hτ 10 _ rfl)) (evoI (evt (hτ 72 _ rfl))) rfl (by first | omega | (simp only [List.length_map, List.length_append, List.length_cons, List.length_nil, List.length_take, List.length_drop, List.length_replicate]; omega) | (simp; omega)) ht (by decide)⟩,
              ⟨⟨rfl, rfl, fun _ τ hb ht hτ => R.ldE (hτ 73 _ rfl) (SC.al (hτ 71 _ rfl) (hτ 10 _ rfl)) (map_get! (l := used) (by first | omega | (simp only [List.length_map, List.length_append, List.length_cons, List.length_nil, List.length_take, List.length_drop, List.length_replicate]; omega) | (simp; omega))) rfl rfl rfl rfl ht⟩,
              ⟨⟨rfl, rfl, fun _ τ hb ht hτ => R.mov (evt (hτ 2 _ rfl)) rfl ht⟩,
              ⟨⟨rfl, rfl, fun _ τ hb ht hτ => R.mov (evt (hτ 11 _ rfl)) rfl ht⟩,
              ⟨⟨rfl, rfl, fun _ τ hb ht hτ => R.idxN (k) (SC.sl (hτ 75 _ rfl)) (evoI (evt (hτ 76 _ rfl))) rfl (by first | omega | (simp only [List.length_map, List.length_append, List.length_cons, List.length_nil, List.length_take, List.length_drop, List.length_replicate]; omega) | (simp; omega)) ht (by decide)⟩,
              ⟨⟨rfl, rfl, fun _ τ hb ht hτ => R.ldE (hτ 77 _ rfl) (SC.sl (hτ 75 _ rfl)) (map_get! (l := used) (by first | omega | (simp only [List.length_map, List.length_append, List.length_cons, List.length_nil, List.length_take, List.length_drop, List.length_replicate]; omega) | (simp; omega))) rfl rfl rfl rfl ht⟩,
              ⟨⟨rfl, rfl, fun _ τ hb ht hτ => R.bin (evt (hτ 74 _ rfl)) (evt (hτ 78 _ rfl)) rfl trivial ht⟩,
              trivial⟩⟩⟩⟩⟩⟩⟩⟩⟩, rfl, rfl, rfl⟩)
            rfl (bx' := []) rfl (n' := 81) rfl (⟨[2, 10, 11, 79], [(2, _), (10, _), (11, _), (79, _)], [], 81, rfl, rfl, rfl, ?_⟩)
          refine W.condF rfl (by simp) ?_
          refine W.skip ?_
          refine W.line (n := 3) (by decide) (its := [⟨69, _, true⟩, ⟨70, _, true⟩, ⟨11, _, true⟩]) (ks := []) (kk := []) (live := [2, 10, 11]) (env' := [(2, _), (10, _), (11, _)])
            (⟨Nat.le_of_ble_eq_true rfl, rfl,
              ⟨⟨rfl, rfl, fun _ τ hb ht hτ => R.mov (evt (hτ 11 _ rfl)) rfl ht⟩,
              ⟨⟨rfl, rfl, fun _ τ hb ht hτ => R.addN (k) (1) (evt (hτ 69 _ rfl)) (show ev _ _ (.const (.int .i64 1)) = some (.int ((1 : Nat) : Int)) from rfl) (by first | omega | (simp only [List.length_map, List.length_append, List.length_cons, List.length_nil, List.length_take, List.length_drop, List.length_replicate]; omega) | (simp; omega)) ht⟩,
              ⟨⟨rfl, rfl, fun _ τ hb ht hτ => R.asg (evt (hτ 70 _ rfl)) rfl ht⟩,
              trivial⟩⟩⟩, rfl, rfl, rfl⟩)
            rfl (bx' := []) rfl (n' := 81) rfl (⟨[2, 10, 11], [(2, _), (10, _), (11, _)], [], 81, rfl, rfl, rfl, ?_⟩)
          exact ⟨⟨(k + 1), (by first | omega | (simp only [List.length_map, List.length_append, List.length_cons, List.length_nil, List.length_take, List.length_drop, List.length_replicate]; omega) | (simp; omega))⟩, rfl, (by simp only []; omega)⟩
        · obtain rfl : k = used.length := by omega
          refine W.exit ?_
          refine W.seq ?_
          refine W.line (n := 2) (by decide) (its := [⟨80, _, true⟩, ⟨8, _, true⟩]) (ks := []) (kk := []) (live := [8]) (env' := [(8, _)])
            (⟨Nat.le_of_ble_eq_true rfl, rfl,
              ⟨⟨rfl, rfl, fun _ τ hb ht hτ => R.callG hC (works_ok) Bors.nil (FrsR.one (.bool _)) ht⟩,
              ⟨⟨rfl, rfl, fun _ τ hb ht hτ => R.asg (evt (hτ 80 _ rfl)) rfl ht⟩,
              trivial⟩⟩, rfl, rfl, rfl⟩)
            rfl (bx' := []) rfl (n' := 81) rfl (⟨[8], [(8, _)], [], 81, rfl, rfl, rfl, ?_⟩)
          refine W.ret ?_
          exact Ends.one' (.inr rfl) rfl (rfl) rfl rfl trivial

end Go.Sx
