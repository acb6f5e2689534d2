/- Proved: what functions of the given program compute (used by the theorem of this claim). Conditions: none but those that each theorem states. -/
import Derived.Test.YtlpacmknoknpoaaDoorMkT
import Derived.Test.YtlpacmknoknpoaaDoorMkLaw3
set_option linter.unusedVariables false
set_option linter.unusedSimpArgs false
set_option linter.unnecessarySimpa false
namespace Go.Sx
open Go.Proofs
theorem leads_ok (l : List Hs) (hl : allH l) : Fn Tryd.prog gl 4 [.sl none 32 (l.map hashD)] (.bool true) := by
  refine Fn.of (n := 74) Tryd.func4 rfl rfl rfl (Nat.le_of_ble_eq_true rfl) fun C hC hD => ?_
  refine W.seq ?_
  refine W.line (n := 1) (by decide) (its := [⟨2, _, true⟩]) (ks := []) (kk := []) (live := [0]) (env' := [(0, _)])
    (⟨Nat.le_of_ble_eq_true rfl, rfl,
      ⟨⟨rfl, rfl, fun _ τ hb ht hτ => R.asg (show ev _ _ (.const (.bool false)) = some (.bool false) from rfl) rfl ht⟩,
      trivial⟩, rfl, rfl, rfl⟩)
    rfl (bx' := []) rfl (n' := 74) rfl (⟨[0], [(0, _)], [], 74, rfl, rfl, rfl, ?_⟩)
  refine W.seq ?_
  refine W.seq ?_
  refine W.line (n := 3) (by decide) (its := [⟨11, _, true⟩, ⟨12, _, true⟩, ⟨13, _, true⟩]) (ks := []) (kk := []) (live := [0, 13]) (env' := [(0, _), (13, _)])
    (⟨Nat.le_of_ble_eq_true rfl, rfl,
      ⟨⟨rfl, rfl, fun _ τ hb ht hτ => R.mov (evt (hτ 0 _ rfl)) rfl ht⟩,
      ⟨⟨rfl, rfl, fun _ τ hb ht hτ => R.lenE (SC.sl (hτ 11 _ rfl)) (List.length_map _) ht⟩,
      ⟨⟨rfl, rfl, fun _ τ hb ht hτ => R.gtrN (l.length) (200) (evt (hτ 12 _ rfl)) (show ev _ _ (.const (.int .i64 200)) = some (.int ((200 : Nat) : Int)) from rfl) ht⟩,
      trivial⟩⟩⟩, rfl, rfl, rfl⟩)
    rfl (bx' := []) rfl (n' := 74) rfl (⟨[0, 13], [(0, _), (13, _)], [], 74, rfl, rfl, rfl, ?_⟩)
  refine W.condD rfl (fun hc13 => ?_) (fun hc13 => ?_)
  · refine W.seq ?_
    refine W.line (n := 2) (by decide) (its := [⟨14, _, true⟩, ⟨2, _, true⟩]) (ks := []) (kk := []) (live := [2]) (env' := [(2, _)])
      (⟨Nat.le_of_ble_eq_true rfl, rfl,
        ⟨⟨rfl, rfl, fun _ τ hb ht hτ => R.callG hC (works_ok) Bors.nil (FrsR.one (.bool _)) ht⟩,
        ⟨⟨rfl, rfl, fun _ τ hb ht hτ => R.asg (evt (hτ 14 _ rfl)) rfl ht⟩,
        trivial⟩⟩, rfl, rfl, rfl⟩)
      rfl (bx' := []) rfl (n' := 74) rfl (⟨[2], [(2, _)], [], 74, rfl, rfl, rfl, ?_⟩)
    refine W.ret ?_
    exact Ends.one' (.inr rfl) rfl (rfl) rfl rfl trivial
  · refine W.skip ?_
    refine W.seq ?_
    refine W.line (n := 4) (by decide) (its := [⟨15, _, true⟩, ⟨16, _, true⟩]) (ks := []) (kk := []) (live := [0, 16]) (env' := [(0, _), (16, _)])
      (⟨Nat.le_of_ble_eq_true rfl, rfl,
        ⟨⟨rfl, rfl, fun _ τ hb ht hτ => R.mov (evt (hτ 0 _ rfl)) rfl ht⟩,
        ⟨⟨rfl, rfl, fun _ τ hb ht hτ => R.callG hC (root_ok l hl (by omega)) (Bors.cons (Bor.pur (evt (hτ 15 _ rfl)) rfl rfl) Bors.nil) (FrsR.one (frs_hash _)) ht⟩,
        trivial⟩⟩, rfl, rfl, rfl⟩)
      rfl (bx' := []) rfl (n' := 74) rfl (⟨rfl, _, R.alloc rfl (Nat.le_of_ble_eq_true rfl), ⟨rfl, _, R.stZ (show Sg.get _ 3 = some _ from rfl) (show Sg.box _ 3 = some _ from rfl) rfl (evt (show Sg.get _ 16 = some _ from rfl)) (by rfl) (by rfl) (by rfl) (by rfl) rfl, ⟨[0, 3], [(0, _), (3, _)], [(3, .var _)], 74, rfl, rfl, rfl, ?_⟩⟩⟩)
    refine W.seq ?_
    refine W.line (n := 3) (by decide) (its := [⟨17, _, true⟩, ⟨18, _, true⟩, ⟨4, _, true⟩]) (ks := []) (kk := []) (live := [0, 3, 4]) (env' := [(0, _), (3, _), (4, _)])
      (⟨Nat.le_of_ble_eq_true rfl, rfl,
        ⟨⟨rfl, rfl, fun _ τ hb ht hτ => R.mov (evt (hτ 0 _ rfl)) rfl ht⟩,
        ⟨⟨rfl, rfl, fun _ τ hb ht hτ => R.callG hC (doubled_ok l hl (by omega)) (Bors.cons (Bor.pur (evt (hτ 17 _ rfl)) rfl rfl) Bors.nil) (FrsR.one (.bool _)) ht⟩,
        ⟨⟨rfl, rfl, fun _ τ hb ht hτ => R.asg (evt (hτ 18 _ rfl)) rfl ht⟩,
        trivial⟩⟩⟩, rfl, rfl, rfl⟩)
      rfl (bx' := [(3, .var _)]) rfl (n' := 74) rfl (⟨[0, 3, 4], [(0, _), (3, _), (4, _)], [(3, .var _)], 74, rfl, rfl, rfl, ?_⟩)
    refine W.seq ?_
    refine W.line (n := 1) (by decide) (its := [⟨5, _, true⟩]) (ks := []) (kk := []) (live := [0, 3, 4, 5]) (env' := [(0, _), (3, _), (4, _), (5, _)])
      (⟨Nat.le_of_ble_eq_true rfl, rfl,
        ⟨⟨rfl, rfl, fun _ τ hb ht hτ => R.asg (show ev _ _ (.const (.bool true)) = some (.bool true) from rfl) rfl ht⟩,
        trivial⟩, rfl, rfl, rfl⟩)
      rfl (bx' := [(3, .var _)]) rfl (n' := 74) rfl (⟨[0, 3, 4, 5], [(0, _), (3, _), (4, _), (5, _)], [(3, .var _)], 74, rfl, rfl, rfl, ?_⟩)
    refine W.seq ?_
    refine W.seq ?_
    refine W.line (n := 1) (by decide) (its := [⟨6, _, true⟩]) (ks := []) (kk := []) (live := [0, 3, 4, 5, 6]) (env' := [(0, _), (3, _), (4, _), (5, _), (6, _)])
      (⟨Nat.le_of_ble_eq_true rfl, rfl,
        ⟨⟨rfl, rfl, fun _ τ hb ht hτ => R.asg (show ev _ _ (.const (.int .i64 0)) = some (.int ((0 : Nat) : Int)) from rfl) rfl ht⟩,
        trivial⟩, rfl, rfl, rfl⟩)
      rfl (bx' := [(3, .var _)]) rfl (n' := 74) rfl (⟨[0, 3, 4, 5, 6], [(0, _), (3, _), (4, _), (5, _), (6, _)], [(3, .var _)], 74, rfl, rfl, rfl, ?_⟩)
    refine W.block ?_
    refine W.loop (α := {q__ : Nat // q__ ≤ l.length}) (fun q__ => ⟨74, [(0, .sl none 32 (l.map hashD)), (3, .ptr 3 0 []), (4, .bool (dblS joinS l)), (5, .bool (provB joinS l q__.1)), (6, .int ((q__.1 : Nat) : Int))], [(3, .var (hashD (rootS joinS l)))]⟩) (fun q__ => l.length - q__.1) ⟨(0), (by first | omega | (simp only [List.length_map, List.length_append, List.length_cons, List.length_nil, List.length_take, List.length_drop, List.length_replicate]; omega) | (simp; omega))⟩ rfl ?_
    rintro ⟨k, hk⟩
    show W _ _ _ _ ⟨74, [(0, .sl none 32 (l.map hashD)), (3, .ptr 3 0 []), (4, .bool (dblS joinS l)), (5, .bool (provB joinS l k)), (6, .int ((k : Nat) : Int))], [(3, .var (hashD (rootS joinS l)))]⟩
    have hk : k ≤ l.length := hk
    refine W.seq ?_
    refine W.seq ?_
    refine W.line (n := 4) (by decide) (its := [⟨19, _, true⟩, ⟨20, _, true⟩, ⟨21, _, true⟩, ⟨22, _, true⟩]) (ks := []) (kk := []) (live := [0, 3, 4, 5, 6, 22]) (env' := [(0, _), (3, _), (4, _), (5, _), (6, _), (22, _)])
      (⟨Nat.le_of_ble_eq_true rfl, rfl,
        ⟨⟨rfl, rfl, fun _ τ hb ht hτ => R.mov (evt (hτ 6 _ rfl)) rfl ht⟩,
        ⟨⟨rfl, rfl, fun _ τ hb ht hτ => R.mov (evt (hτ 0 _ rfl)) rfl ht⟩,
        ⟨⟨rfl, rfl, fun _ τ hb ht hτ => R.lenE (SC.sl (hτ 20 _ rfl)) (List.length_map _) ht⟩,
        ⟨⟨rfl, rfl, fun _ τ hb ht hτ => R.lssN (k) (l.length) (evt (hτ 19 _ rfl)) (evt (hτ 21 _ rfl)) ht⟩,
        trivial⟩⟩⟩⟩, rfl, rfl, rfl⟩)
      rfl (bx' := [(3, .var _)]) rfl (n' := 74) rfl (⟨[0, 3, 4, 5, 6, 22], [(0, _), (3, _), (4, _), (5, _), (6, _), (22, _)], [(3, .var _)], 74, rfl, rfl, rfl, ?_⟩)
    refine W.condD rfl (fun hc22 => ?_) (fun hc22 => ?_)
    · refine W.skip ?_
      refine W.seq ?_
      refine W.block ?_
      refine W.seq ?_
      refine W.line (n := 8) (by decide) (its := [⟨26, _, true⟩, ⟨27, _, true⟩, ⟨28, _, true⟩, ⟨25, _, true⟩, ⟨29, _, true⟩, ⟨30, _, true⟩, ⟨7, _, true⟩, ⟨8, _, true⟩]) (ks := []) (kk := []) (live := [0, 3, 4, 5, 6, 7, 8]) (env' := [(0, _), (3, _), (4, _), (5, _), (6, _), (7, _), (8, _)])
        (⟨Nat.le_of_ble_eq_true rfl, rfl,
          ⟨⟨rfl, rfl, fun _ τ hb ht hτ => R.mov (evt (hτ 0 _ rfl)) rfl ht⟩,
          ⟨⟨rfl, rfl, fun _ τ hb ht hτ => R.mov (evt (hτ 6 _ rfl)) rfl ht⟩,
          ⟨⟨rfl, rfl, fun _ τ hb ht hτ => R.callZ (r' := .tup [.sl none 32 ((brS joinS l k).map hashD), .int 0]) (branch_ok l hl k hc22 (by omega)) hC (Bors.cons (Bor.pur (evt (hτ 26 _ rfl)) rfl rfl) (Bors.cons (Bor.pur (evt (hτ 27 _ rfl)) rfl rfl) Bors.nil)) (FrsR.two (frs_hs _ _ _) (.int _)) (by show D.tup [_, _] = _; rw [brw_hs]; rfl) ht⟩,
          ⟨⟨rfl, rfl, fun _ τ hb ht hτ => R.movT (hτ 28 _ rfl) rfl ht⟩,
          ⟨⟨rfl, rfl, fun _ τ hb ht hτ => R.ext (hτ 25 _ rfl) rfl rfl ht⟩,
          ⟨⟨rfl, rfl, fun _ τ hb ht hτ => R.ext (hτ 25 _ rfl) rfl rfl ht⟩,
          ⟨⟨rfl, rfl, fun _ τ hb ht hτ => R.asg (evt (hτ 29 _ rfl)) rfl ht⟩,
          ⟨⟨rfl, rfl, fun _ τ hb ht hτ => R.asg (evt (hτ 30 _ rfl)) rfl ht⟩,
          trivial⟩⟩⟩⟩⟩⟩⟩⟩, rfl, rfl, rfl⟩)
        rfl (bx' := [(3, .var _)]) rfl (n' := 74) rfl (⟨[0, 3, 4, 5, 6, 7, 8], [(0, _), (3, _), (4, _), (5, _), (6, _), (7, _), (8, _)], [(3, .var _)], 74, rfl, rfl, rfl, ?_⟩)
      refine W.seq ?_
      refine W.seq ?_
      refine W.line (n := 7) (by decide) (its := [⟨31, _, true⟩, ⟨32, _, true⟩, ⟨33, _, true⟩, ⟨34, _, true⟩, ⟨35, _, true⟩, ⟨36, _, true⟩, ⟨37, _, true⟩]) (ks := []) (kk := []) (live := [0, 3, 4, 5, 6, 7, 37]) (env' := [(0, _), (3, _), (4, _), (5, _), (6, _), (7, _), (37, _)])
        (⟨Nat.le_of_ble_eq_true rfl, rfl,
          ⟨⟨rfl, rfl, fun _ τ hb ht hτ => R.mov (evt (hτ 8 _ rfl)) rfl ht⟩,
          ⟨⟨rfl, rfl, fun _ τ hb ht hτ => R.neqN (0) (0) (evt (hτ 31 _ rfl)) (show ev _ _ (.const (.int .i64 0)) = some (.int ((0 : Nat) : Int)) from rfl) ht⟩,
          ⟨⟨rfl, rfl, fun _ τ hb ht hτ => R.mov (evt (hτ 32 _ rfl)) rfl ht⟩,
          ⟨⟨rfl, ⟨_, 33, rfl, rfl, .inl ⟨_, rfl, gw (v := false) (rfl) rfl⟩⟩, fun _ τ hb ht hτ => R.mov (evt (hτ 7 _ rfl)) rfl ht⟩,
          ⟨⟨rfl, ⟨_, 33, rfl, rfl, .inl ⟨_, rfl, gw (v := false) (rfl) rfl⟩⟩, fun _ τ hb ht hτ => R.lenE (SC.sl (hτ 34 _ rfl)) (List.length_map _) ht⟩,
          ⟨⟨rfl, ⟨_, 33, rfl, rfl, .inl ⟨_, rfl, gw (v := false) (rfl) rfl⟩⟩, fun _ τ hb ht hτ => R.gtrN ((brS joinS l k).length) (8) (evt (hτ 35 _ rfl)) (show ev _ _ (.const (.int .i64 8)) = some (.int ((8 : Nat) : Int)) from rfl) ht⟩,
          ⟨⟨rfl, rfl, fun _ τ hb ht hτ => R.pickF (evt (hτ 33 _ rfl)) (rfl) (evt (hτ 36 _ rfl)) rfl ht⟩,
          trivial⟩⟩⟩⟩⟩⟩⟩, rfl, rfl, rfl⟩)
        rfl (bx' := [(3, .var _)]) rfl (n' := 74) rfl (⟨[0, 3, 4, 5, 6, 7, 37], [(0, _), (3, _), (4, _), (5, _), (6, _), (7, _), (37, _)], [(3, .var _)], 74, rfl, rfl, rfl, ?_⟩)
      refine W.condF rfl (decide_eq_false (by have := brS_len joinS l k (by omega) (by omega); omega)) ?_
      refine W.skip ?_
      refine W.seq ?_
      by_cases hbad : badAny joinS l k = true
      · refine W.line (n := 13) (by decide) (its := [⟨39, _, true⟩, ⟨40, _, true⟩, ⟨41, _, true⟩, ⟨42, _, true⟩, ⟨43, _, true⟩, ⟨44, _, true⟩, ⟨45, _, true⟩, ⟨38, _, true⟩, ⟨46, _, true⟩, ⟨47, _, true⟩]) (ks := []) (kk := []) (live := [0, 3, 4, 5, 6, 46, 47]) (env' := [(0, _), (3, _), (4, _), (5, _), (6, _), (46, _), (47, _)])
          (⟨Nat.le_of_ble_eq_true rfl, rfl,
            ⟨⟨rfl, rfl, fun _ τ hb ht hτ => R.mov (evt (hτ 0 _ rfl)) rfl ht⟩,
            ⟨⟨rfl, rfl, fun _ τ hb ht hτ => R.mov (evt (hτ 6 _ rfl)) rfl ht⟩,
            ⟨⟨rfl, rfl, fun _ τ hb ht hτ => R.idxN (k) (SC.sl (hτ 39 _ rfl)) (evoI (evt (hτ 40 _ rfl))) rfl (by first | omega | (simp only [List.length_map, List.length_append, List.length_cons, List.length_nil, List.length_take, List.length_drop, List.length_replicate]; omega) | (simp; omega)) ht (by decide)⟩,
            ⟨⟨rfl, rfl, fun _ τ hb ht hτ => R.ldE (hτ 41 _ rfl) (SC.sl (hτ 39 _ rfl)) (map_get! (l := l) (by first | omega | (simp only [List.length_map, List.length_append, List.length_cons, List.length_nil, List.length_take, List.length_drop, List.length_replicate]; omega) | (simp; omega))) rfl rfl rfl rfl ht⟩,
            ⟨⟨rfl, rfl, fun _ τ hb ht hτ => R.mov (evt (hτ 7 _ rfl)) rfl ht⟩,
            ⟨⟨rfl, rfl, fun _ τ hb ht hτ => R.mov (evt (hτ 6 _ rfl)) rfl ht⟩,
            ⟨⟨rfl, rfl, fun _ τ hb ht hτ => R.callG hC (foldT l k hl hc22 (by omega) hbad) (Bors.cons (Bor.pur (evt (hτ 42 _ rfl)) rfl rfl) (Bors.cons (Bor.pur (evt (hτ 43 _ rfl)) rfl rfl) (Bors.cons (Bor.pur (evt (hτ 44 _ rfl)) rfl rfl) Bors.nil))) (FrsR.two (frs_hash' _) (.int _)) ht⟩,
            ⟨⟨rfl, rfl, fun _ τ hb ht hτ => R.movT (hτ 45 _ rfl) rfl ht⟩,
            ⟨⟨rfl, rfl, fun _ τ hb ht hτ => R.ext (hτ 38 _ rfl) rfl rfl ht⟩,
            ⟨⟨rfl, rfl, fun _ τ hb ht hτ => R.ext (hτ 38 _ rfl) rfl rfl ht⟩,
            trivial⟩⟩⟩⟩⟩⟩⟩⟩⟩⟩, rfl, rfl, rfl⟩)
          rfl (bx' := [(3, .var _)]) rfl (n' := 74) rfl (⟨rfl, _, R.alloc rfl (Nat.le_of_ble_eq_true rfl), ⟨rfl, _, R.stZ (show Sg.get _ 9 = some _ from rfl) (show Sg.box _ 9 = some _ from rfl) rfl (evt (show Sg.get _ 46 = some _ from rfl)) (by rfl) (by rfl) (by rfl) (by rfl) rfl, ⟨rfl, _, R.asg (evt (show Sg.get _ 47 = some _ from rfl)) rfl (Nat.le_of_ble_eq_true rfl), ⟨[0, 3, 4, 5, 6, 9, 10], [(0, _), (3, _), (4, _), (5, _), (6, _), (9, _), (10, _)], [(9, .var _), (3, .var _)], 74, rfl, rfl, rfl, ?_⟩⟩⟩⟩)
        refine W.seq ?_
        refine W.seq ?_
        refine W.line (n := 15) (by decide) (its := [⟨48, _, true⟩, ⟨49, _, true⟩, ⟨50, _, true⟩, ⟨51, _, true⟩, ⟨52, _, true⟩, ⟨53, _, true⟩, ⟨54, _, true⟩, ⟨55, _, true⟩, ⟨56, _, true⟩, ⟨57, _, true⟩, ⟨58, .dead, false⟩, ⟨59, .dead, false⟩, ⟨60, .dead, false⟩, ⟨61, _, true⟩, ⟨62, _, true⟩]) (ks := []) (kk := []) (live := [0, 3, 4, 5, 6, 10, 62]) (env' := [(0, _), (3, _), (4, _), (5, _), (6, _), (10, _), (62, _)])
          (⟨Nat.le_of_ble_eq_true rfl, rfl,
            ⟨⟨rfl, rfl, fun _ τ hb ht hτ => R.mov (evt (hτ 10 _ rfl)) rfl ht⟩,
            ⟨⟨rfl, rfl, fun _ τ hb ht hτ => R.neqN (15) (0) (evt (hτ 48 _ rfl)) (show ev _ _ (.const (.int .i64 0)) = some (.int ((0 : Nat) : Int)) from rfl) ht⟩,
            ⟨⟨rfl, rfl, fun _ τ hb ht hτ => R.mov (evt (hτ 49 _ rfl)) rfl ht⟩,
            ⟨⟨rfl, ⟨_, 50, rfl, rfl, .inl ⟨_, rfl, gw (v := true) (rfl) rfl⟩⟩, fun _ τ hb ht hτ => R.mov (evt (hτ 10 _ rfl)) rfl ht⟩,
            ⟨⟨rfl, ⟨_, 50, rfl, rfl, .inl ⟨_, rfl, gw (v := true) (rfl) rfl⟩⟩, fun _ τ hb ht hτ => R.neqN (15) (15) (evt (hτ 51 _ rfl)) (show ev _ _ (.const (.int .i64 15)) = some (.int ((15 : Nat) : Int)) from rfl) ht⟩,
            ⟨⟨rfl, rfl, fun _ τ hb ht hτ => R.pickT (evt (hτ 50 _ rfl)) (rfl) (evt (hτ 52 _ rfl)) rfl ht⟩,
            ⟨⟨rfl, rfl, fun _ τ hb ht hτ => R.mov (evt (hτ 53 _ rfl)) rfl ht⟩,
            ⟨⟨rfl, ⟨_, 54, rfl, rfl, .inl ⟨_, rfl, gw (v := false) (rfl) rfl⟩⟩, fun _ τ hb ht hτ => R.mov (evt (hτ 10 _ rfl)) rfl ht⟩,
            ⟨⟨rfl, ⟨_, 54, rfl, rfl, .inl ⟨_, rfl, gw (v := false) (rfl) rfl⟩⟩, fun _ τ hb ht hτ => R.eqlN (15) (0) (evt (hτ 55 _ rfl)) (show ev _ _ (.const (.int .i64 0)) = some (.int ((0 : Nat) : Int)) from rfl) ht⟩,
            ⟨⟨rfl, ⟨_, 54, rfl, rfl, .inl ⟨_, rfl, gw (v := false) (rfl) rfl⟩⟩, fun _ τ hb ht hτ => R.mov (evt (hτ 56 _ rfl)) rfl ht⟩,
            ⟨⟨rfl, ⟨_, 57, rfl, rfl, .inl ⟨_, rfl, gw (v := false) (rfl) rfl⟩⟩, fun h => absurd h (by decide)⟩,
            ⟨⟨rfl, ⟨_, 57, rfl, rfl, .inl ⟨_, rfl, gw (v := false) (rfl) rfl⟩⟩, fun h => absurd h (by decide)⟩,
            ⟨⟨rfl, ⟨_, 57, rfl, rfl, .inl ⟨_, rfl, gw (v := false) (rfl) rfl⟩⟩, fun h => absurd h (by decide)⟩,
            ⟨⟨rfl, ⟨_, 54, rfl, rfl, .inl ⟨_, rfl, gw (v := false) (rfl) rfl⟩⟩, fun _ τ hb ht hτ => R.pickF (evt (hτ 57 _ rfl)) (rfl) (show ev _ _ (.const (.bool false)) = some (.bool false) from rfl) rfl ht⟩,
            ⟨⟨rfl, rfl, fun _ τ hb ht hτ => R.pickF (evt (hτ 54 _ rfl)) (rfl) (evt (hτ 61 _ rfl)) rfl ht⟩,
            trivial⟩⟩⟩⟩⟩⟩⟩⟩⟩⟩⟩⟩⟩⟩⟩, rfl, rfl, rfl⟩)
          rfl (bx' := [(9, .var _), (3, .var _)]) rfl (n' := 74) rfl (⟨[0, 3, 4, 5, 6, 10, 62], [(0, _), (3, _), (4, _), (5, _), (6, _), (10, _), (62, _)], [(9, .var _), (3, .var _)], 74, rfl, rfl, rfl, ?_⟩)
        refine W.condF rfl (rfl) ?_
        refine W.skip ?_
        by_cases hp : provB joinS l k = true
        · refine W.dropB [3] (bx' := [(3, .var _)]) rfl rfl rfl (pin_sub hD rfl) ?_
          refine W.line (n := 6) (by decide) (its := [⟨63, _, true⟩, ⟨64, _, true⟩, ⟨65, _, true⟩, ⟨66, _, true⟩, ⟨67, _, true⟩, ⟨5, _, true⟩]) (ks := []) (kk := []) (live := [0, 3, 4, 5, 6]) (env' := [(0, _), (3, _), (4, _), (5, _), (6, _)])
            (⟨Nat.le_of_ble_eq_true rfl, rfl,
              ⟨⟨rfl, rfl, fun _ τ hb ht hτ => R.mov (evt (hτ 5 _ rfl)) rfl ht⟩,
              ⟨⟨rfl, rfl, fun _ τ hb ht hτ => R.mov (evt (hτ 63 _ rfl)) rfl ht⟩,
              ⟨⟨rfl, ⟨_, 64, rfl, rfl, .inl ⟨_, rfl, gw (v := true) (hp) rfl⟩⟩, fun _ τ hb ht hτ => R.mov (evt (hτ 10 _ rfl)) rfl ht⟩,
              ⟨⟨rfl, ⟨_, 64, rfl, rfl, .inl ⟨_, rfl, gw (v := true) (hp) rfl⟩⟩, fun _ τ hb ht hτ => R.eqlN (15) (0) (evt (hτ 65 _ rfl)) (show ev _ _ (.const (.int .i64 0)) = some (.int ((0 : Nat) : Int)) from rfl) ht⟩,
              ⟨⟨rfl, rfl, fun _ τ hb ht hτ => R.pickT (evt (hτ 64 _ rfl)) (hp) (evt (hτ 66 _ rfl)) rfl ht⟩,
              ⟨⟨rfl, rfl, fun _ τ hb ht hτ => R.asg (evt (hτ 67 _ rfl)) rfl ht⟩,
              trivial⟩⟩⟩⟩⟩⟩, rfl, rfl, rfl⟩)
            rfl (bx' := [(3, .var _)]) rfl (n' := 74) rfl (⟨[0, 3, 4, 5, 6], [(0, _), (3, _), (4, _), (5, _), (6, _)], [(3, .var _)], 74, rfl, rfl, rfl, ?_⟩)
          refine W.line (n := 3) (by decide) (its := [⟨23, _, true⟩, ⟨24, _, true⟩, ⟨6, _, true⟩]) (ks := []) (kk := []) (live := [0, 3, 4, 5, 6]) (env' := [(0, _), (3, _), (4, _), (5, _), (6, _)])
            (⟨Nat.le_of_ble_eq_true rfl, rfl,
              ⟨⟨rfl, rfl, fun _ τ hb ht hτ => R.mov (evt (hτ 6 _ rfl)) rfl ht⟩,
              ⟨⟨rfl, rfl, fun _ τ hb ht hτ => R.addN (k) (1) (evt (hτ 23 _ rfl)) (show ev _ _ (.const (.int .i64 1)) = some (.int ((1 : Nat) : Int)) from rfl) (by first | omega | (simp only [List.length_map, List.length_append, List.length_cons, List.length_nil, List.length_take, List.length_drop, List.length_replicate]; omega) | (simp; omega)) ht⟩,
              ⟨⟨rfl, rfl, fun _ τ hb ht hτ => R.asg (evt (hτ 24 _ rfl)) rfl ht⟩,
              trivial⟩⟩⟩, rfl, rfl, rfl⟩)
            rfl (bx' := [(3, .var _)]) rfl (n' := 74) rfl (⟨[0, 3, 4, 5, 6], [(0, _), (3, _), (4, _), (5, _), (6, _)], [(3, .var _)], 74, rfl, rfl, rfl, ?_⟩)
          exact ⟨⟨(k + 1), (by first | omega | (simp only [List.length_map, List.length_append, List.length_cons, List.length_nil, List.length_take, List.length_drop, List.length_replicate]; omega) | (simp; omega))⟩, (by show _ = (⟨_, [_, _, _, (5, .bool (provB joinS l k && !badAny joinS l k)), _], _⟩ : Sg); first | (rw [hp, hbad]; rfl) | (rw [bfalse hp, hbad]; rfl) | (rw [hp, bfalse hbad]; rfl) | (rw [bfalse hp, bfalse hbad]; rfl)), (by simp only []; omega)⟩
        · refine W.dropB [3] (bx' := [(3, .var _)]) rfl rfl rfl (pin_sub hD rfl) ?_
          refine W.line (n := 6) (by decide) (its := [⟨63, _, true⟩, ⟨64, _, true⟩, ⟨65, .dead, false⟩, ⟨66, .dead, false⟩, ⟨67, _, true⟩, ⟨5, _, true⟩]) (ks := []) (kk := []) (live := [0, 3, 4, 5, 6]) (env' := [(0, _), (3, _), (4, _), (5, _), (6, _)])
            (⟨Nat.le_of_ble_eq_true rfl, rfl,
              ⟨⟨rfl, rfl, fun _ τ hb ht hτ => R.mov (evt (hτ 5 _ rfl)) rfl ht⟩,
              ⟨⟨rfl, rfl, fun _ τ hb ht hτ => R.mov (evt (hτ 63 _ rfl)) rfl ht⟩,
              ⟨⟨rfl, ⟨_, 64, rfl, rfl, .inl ⟨_, rfl, gw (v := false) (bfalse hp) rfl⟩⟩, fun h => absurd h (by decide)⟩,
              ⟨⟨rfl, ⟨_, 64, rfl, rfl, .inl ⟨_, rfl, gw (v := false) (bfalse hp) rfl⟩⟩, fun h => absurd h (by decide)⟩,
              ⟨⟨rfl, rfl, fun _ τ hb ht hτ => R.pickF (evt (hτ 64 _ rfl)) (bfalse hp) (show ev _ _ (.const (.bool false)) = some (.bool false) from rfl) rfl ht⟩,
              ⟨⟨rfl, rfl, fun _ τ hb ht hτ => R.asg (evt (hτ 67 _ rfl)) rfl ht⟩,
              trivial⟩⟩⟩⟩⟩⟩, rfl, rfl, rfl⟩)
            rfl (bx' := [(3, .var _)]) rfl (n' := 74) rfl (⟨[0, 3, 4, 5, 6], [(0, _), (3, _), (4, _), (5, _), (6, _)], [(3, .var _)], 74, rfl, rfl, rfl, ?_⟩)
          refine W.line (n := 3) (by decide) (its := [⟨23, _, true⟩, ⟨24, _, true⟩, ⟨6, _, true⟩]) (ks := []) (kk := []) (live := [0, 3, 4, 5, 6]) (env' := [(0, _), (3, _), (4, _), (5, _), (6, _)])
            (⟨Nat.le_of_ble_eq_true rfl, rfl,
              ⟨⟨rfl, rfl, fun _ τ hb ht hτ => R.mov (evt (hτ 6 _ rfl)) rfl ht⟩,
              ⟨⟨rfl, rfl, fun _ τ hb ht hτ => R.addN (k) (1) (evt (hτ 23 _ rfl)) (show ev _ _ (.const (.int .i64 1)) = some (.int ((1 : Nat) : Int)) from rfl) (by first | omega | (simp only [List.length_map, List.length_append, List.length_cons, List.length_nil, List.length_take, List.length_drop, List.length_replicate]; omega) | (simp; omega)) ht⟩,
              ⟨⟨rfl, rfl, fun _ τ hb ht hτ => R.asg (evt (hτ 24 _ rfl)) rfl ht⟩,
              trivial⟩⟩⟩, rfl, rfl, rfl⟩)
            rfl (bx' := [(3, .var _)]) rfl (n' := 74) rfl (⟨[0, 3, 4, 5, 6], [(0, _), (3, _), (4, _), (5, _), (6, _)], [(3, .var _)], 74, rfl, rfl, rfl, ?_⟩)
          exact ⟨⟨(k + 1), (by first | omega | (simp only [List.length_map, List.length_append, List.length_cons, List.length_nil, List.length_take, List.length_drop, List.length_replicate]; omega) | (simp; omega))⟩, (by show _ = (⟨_, [_, _, _, (5, .bool (provB joinS l k && !badAny joinS l k)), _], _⟩ : Sg); first | (rw [hp, hbad]; rfl) | (rw [bfalse hp, hbad]; rfl) | (rw [hp, bfalse hbad]; rfl) | (rw [bfalse hp, bfalse hbad]; rfl)), (by simp only []; omega)⟩
      · refine W.line (n := 13) (by decide) (its := [⟨39, _, true⟩, ⟨40, _, true⟩, ⟨41, _, true⟩, ⟨42, _, true⟩, ⟨43, _, true⟩, ⟨44, _, true⟩, ⟨45, _, true⟩, ⟨38, _, true⟩, ⟨46, _, true⟩, ⟨47, _, true⟩]) (ks := []) (kk := []) (live := [0, 3, 4, 5, 6, 46, 47]) (env' := [(0, _), (3, _), (4, _), (5, _), (6, _), (46, _), (47, _)])
          (⟨Nat.le_of_ble_eq_true rfl, rfl,
            ⟨⟨rfl, rfl, fun _ τ hb ht hτ => R.mov (evt (hτ 0 _ rfl)) rfl ht⟩,
            ⟨⟨rfl, rfl, fun _ τ hb ht hτ => R.mov (evt (hτ 6 _ rfl)) rfl ht⟩,
            ⟨⟨rfl, rfl, fun _ τ hb ht hτ => R.idxN (k) (SC.sl (hτ 39 _ rfl)) (evoI (evt (hτ 40 _ rfl))) rfl (by first | omega | (simp only [List.length_map, List.length_append, List.length_cons, List.length_nil, List.length_take, List.length_drop, List.length_replicate]; omega) | (simp; omega)) ht (by decide)⟩,
            ⟨⟨rfl, rfl, fun _ τ hb ht hτ => R.ldE (hτ 41 _ rfl) (SC.sl (hτ 39 _ rfl)) (map_get! (l := l) (by first | omega | (simp only [List.length_map, List.length_append, List.length_cons, List.length_nil, List.length_take, List.length_drop, List.length_replicate]; omega) | (simp; omega))) rfl rfl rfl rfl ht⟩,
            ⟨⟨rfl, rfl, fun _ τ hb ht hτ => R.mov (evt (hτ 7 _ rfl)) rfl ht⟩,
            ⟨⟨rfl, rfl, fun _ τ hb ht hτ => R.mov (evt (hτ 6 _ rfl)) rfl ht⟩,
            ⟨⟨rfl, rfl, fun _ τ hb ht hτ => R.callG hC (foldF l k hl hc22 (by omega) hbad) (Bors.cons (Bor.pur (evt (hτ 42 _ rfl)) rfl rfl) (Bors.cons (Bor.pur (evt (hτ 43 _ rfl)) rfl rfl) (Bors.cons (Bor.pur (evt (hτ 44 _ rfl)) rfl rfl) Bors.nil))) (FrsR.two (frs_hash' _) (.int _)) ht⟩,
            ⟨⟨rfl, rfl, fun _ τ hb ht hτ => R.movT (hτ 45 _ rfl) rfl ht⟩,
            ⟨⟨rfl, rfl, fun _ τ hb ht hτ => R.ext (hτ 38 _ rfl) rfl rfl ht⟩,
            ⟨⟨rfl, rfl, fun _ τ hb ht hτ => R.ext (hτ 38 _ rfl) rfl rfl ht⟩,
            trivial⟩⟩⟩⟩⟩⟩⟩⟩⟩⟩, rfl, rfl, rfl⟩)
          rfl (bx' := [(3, .var _)]) rfl (n' := 74) rfl (⟨rfl, _, R.alloc rfl (Nat.le_of_ble_eq_true rfl), ⟨rfl, _, R.stZ (show Sg.get _ 9 = some _ from rfl) (show Sg.box _ 9 = some _ from rfl) rfl (evt (show Sg.get _ 46 = some _ from rfl)) (by rfl) (by rfl) (by rfl) (by rfl) rfl, ⟨rfl, _, R.asg (evt (show Sg.get _ 47 = some _ from rfl)) rfl (Nat.le_of_ble_eq_true rfl), ⟨[0, 3, 4, 5, 6, 9, 10], [(0, _), (3, _), (4, _), (5, _), (6, _), (9, _), (10, _)], [(9, .var _), (3, .var _)], 74, rfl, rfl, rfl, ?_⟩⟩⟩⟩)
        refine W.seq ?_
        refine W.seq ?_
        refine W.line (n := 15) (by decide) (its := [⟨48, _, true⟩, ⟨49, _, true⟩, ⟨50, _, true⟩, ⟨51, .dead, false⟩, ⟨52, .dead, false⟩, ⟨53, _, true⟩, ⟨54, _, true⟩, ⟨55, _, true⟩, ⟨56, _, true⟩, ⟨57, _, true⟩, ⟨58, _, true⟩, ⟨59, _, true⟩, ⟨60, _, true⟩, ⟨61, _, true⟩, ⟨62, _, true⟩]) (ks := []) (kk := []) (live := [0, 3, 4, 5, 6, 10, 62]) (env' := [(0, _), (3, _), (4, _), (5, _), (6, _), (10, _), (62, _)])
          (⟨Nat.le_of_ble_eq_true rfl, rfl,
            ⟨⟨rfl, rfl, fun _ τ hb ht hτ => R.mov (evt (hτ 10 _ rfl)) rfl ht⟩,
            ⟨⟨rfl, rfl, fun _ τ hb ht hτ => R.neqN (0) (0) (evt (hτ 48 _ rfl)) (show ev _ _ (.const (.int .i64 0)) = some (.int ((0 : Nat) : Int)) from rfl) ht⟩,
            ⟨⟨rfl, rfl, fun _ τ hb ht hτ => R.mov (evt (hτ 49 _ rfl)) rfl ht⟩,
            ⟨⟨rfl, ⟨_, 50, rfl, rfl, .inl ⟨_, rfl, gw (v := false) (rfl) rfl⟩⟩, fun h => absurd h (by decide)⟩,
            ⟨⟨rfl, ⟨_, 50, rfl, rfl, .inl ⟨_, rfl, gw (v := false) (rfl) rfl⟩⟩, fun h => absurd h (by decide)⟩,
            ⟨⟨rfl, rfl, fun _ τ hb ht hτ => R.pickF (evt (hτ 50 _ rfl)) (rfl) (show ev _ _ (.const (.bool false)) = some (.bool false) from rfl) rfl ht⟩,
            ⟨⟨rfl, rfl, fun _ τ hb ht hτ => R.mov (evt (hτ 53 _ rfl)) rfl ht⟩,
            ⟨⟨rfl, ⟨_, 54, rfl, rfl, .inl ⟨_, rfl, gw (v := false) (rfl) rfl⟩⟩, fun _ τ hb ht hτ => R.mov (evt (hτ 10 _ rfl)) rfl ht⟩,
            ⟨⟨rfl, ⟨_, 54, rfl, rfl, .inl ⟨_, rfl, gw (v := false) (rfl) rfl⟩⟩, fun _ τ hb ht hτ => R.eqlN (0) (0) (evt (hτ 55 _ rfl)) (show ev _ _ (.const (.int .i64 0)) = some (.int ((0 : Nat) : Int)) from rfl) ht⟩,
            ⟨⟨rfl, ⟨_, 54, rfl, rfl, .inl ⟨_, rfl, gw (v := false) (rfl) rfl⟩⟩, fun _ τ hb ht hτ => R.mov (evt (hτ 56 _ rfl)) rfl ht⟩,
            ⟨⟨rfl, ⟨_, 57, rfl, rfl, .inl ⟨_, rfl, gw (v := true) (rfl) rfl⟩⟩, fun _ τ hb ht hτ => R.ldP (hτ 9 _ rfl) (hb 9 _ rfl) rfl rfl rfl rfl ht⟩,
            ⟨⟨rfl, ⟨_, 57, rfl, rfl, .inl ⟨_, rfl, gw (v := true) (rfl) rfl⟩⟩, fun _ τ hb ht hτ => R.ldP (hτ 3 _ rfl) (hb 3 _ rfl) rfl rfl rfl rfl ht⟩,
            ⟨⟨rfl, ⟨_, 57, rfl, rfl, .inl ⟨_, rfl, gw (v := true) (rfl) rfl⟩⟩, fun _ τ hb ht hτ => R.eqAX (evt (hτ 58 _ rfl)) (evt (hτ 59 _ rfl)) ht⟩,
            ⟨⟨rfl, ⟨_, 54, rfl, rfl, .inl ⟨_, rfl, gw (v := false) (rfl) rfl⟩⟩, fun _ τ hb ht hτ => R.pickT (evt (hτ 57 _ rfl)) (rfl) (evt (hτ 60 _ rfl)) rfl ht⟩,
            ⟨⟨rfl, rfl, fun _ τ hb ht hτ => R.pickF (evt (hτ 54 _ rfl)) (rfl) (evt (hτ 61 _ rfl)) rfl ht⟩,
            trivial⟩⟩⟩⟩⟩⟩⟩⟩⟩⟩⟩⟩⟩⟩⟩, rfl, rfl, rfl⟩)
          rfl (bx' := [(9, .var _), (3, .var _)]) rfl (n' := 74) rfl (⟨[0, 3, 4, 5, 6, 10, 62], [(0, _), (3, _), (4, _), (5, _), (6, _), (10, _), (62, _)], [(9, .var _), (3, .var _)], 74, rfl, rfl, rfl, ?_⟩)
        refine W.condF rfl (bne_self_eq_false _) ?_
        refine W.skip ?_
        by_cases hp : provB joinS l k = true
        · refine W.dropB [3] (bx' := [(3, .var _)]) rfl rfl rfl (pin_sub hD rfl) ?_
          refine W.line (n := 6) (by decide) (its := [⟨63, _, true⟩, ⟨64, _, true⟩, ⟨65, _, true⟩, ⟨66, _, true⟩, ⟨67, _, true⟩, ⟨5, _, true⟩]) (ks := []) (kk := []) (live := [0, 3, 4, 5, 6]) (env' := [(0, _), (3, _), (4, _), (5, _), (6, _)])
            (⟨Nat.le_of_ble_eq_true rfl, rfl,
              ⟨⟨rfl, rfl, fun _ τ hb ht hτ => R.mov (evt (hτ 5 _ rfl)) rfl ht⟩,
              ⟨⟨rfl, rfl, fun _ τ hb ht hτ => R.mov (evt (hτ 63 _ rfl)) rfl ht⟩,
              ⟨⟨rfl, ⟨_, 64, rfl, rfl, .inl ⟨_, rfl, gw (v := true) (hp) rfl⟩⟩, fun _ τ hb ht hτ => R.mov (evt (hτ 10 _ rfl)) rfl ht⟩,
              ⟨⟨rfl, ⟨_, 64, rfl, rfl, .inl ⟨_, rfl, gw (v := true) (hp) rfl⟩⟩, fun _ τ hb ht hτ => R.eqlN (0) (0) (evt (hτ 65 _ rfl)) (show ev _ _ (.const (.int .i64 0)) = some (.int ((0 : Nat) : Int)) from rfl) ht⟩,
              ⟨⟨rfl, rfl, fun _ τ hb ht hτ => R.pickT (evt (hτ 64 _ rfl)) (hp) (evt (hτ 66 _ rfl)) rfl ht⟩,
              ⟨⟨rfl, rfl, fun _ τ hb ht hτ => R.asg (evt (hτ 67 _ rfl)) rfl ht⟩,
              trivial⟩⟩⟩⟩⟩⟩, rfl, rfl, rfl⟩)
            rfl (bx' := [(3, .var _)]) rfl (n' := 74) rfl (⟨[0, 3, 4, 5, 6], [(0, _), (3, _), (4, _), (5, _), (6, _)], [(3, .var _)], 74, rfl, rfl, rfl, ?_⟩)
          refine W.line (n := 3) (by decide) (its := [⟨23, _, true⟩, ⟨24, _, true⟩, ⟨6, _, true⟩]) (ks := []) (kk := []) (live := [0, 3, 4, 5, 6]) (env' := [(0, _), (3, _), (4, _), (5, _), (6, _)])
            (⟨Nat.le_of_ble_eq_true rfl, rfl,
              ⟨⟨rfl, rfl, fun _ τ hb ht hτ => R.mov (evt (hτ 6 _ rfl)) rfl ht⟩,
              ⟨⟨rfl, rfl, fun _ τ hb ht hτ => R.addN (k) (1) (evt (hτ 23 _ rfl)) (show ev _ _ (.const (.int .i64 1)) = some (.int ((1 : Nat) : Int)) from rfl) (by first | omega | (simp only [List.length_map, List.length_append, List.length_cons, List.length_nil, List.length_take, List.length_drop, List.length_replicate]; omega) | (simp; omega)) ht⟩,
              ⟨⟨rfl, rfl, fun _ τ hb ht hτ => R.asg (evt (hτ 24 _ rfl)) rfl ht⟩,
              trivial⟩⟩⟩, rfl, rfl, rfl⟩)
            rfl (bx' := [(3, .var _)]) rfl (n' := 74) rfl (⟨[0, 3, 4, 5, 6], [(0, _), (3, _), (4, _), (5, _), (6, _)], [(3, .var _)], 74, rfl, rfl, rfl, ?_⟩)
          exact ⟨⟨(k + 1), (by first | omega | (simp only [List.length_map, List.length_append, List.length_cons, List.length_nil, List.length_take, List.length_drop, List.length_replicate]; omega) | (simp; omega))⟩, (by show _ = (⟨_, [_, _, _, (5, .bool (provB joinS l k && !badAny joinS l k)), _], _⟩ : Sg); first | (rw [hp, hbad]; rfl) | (rw [bfalse hp, hbad]; rfl) | (rw [hp, bfalse hbad]; rfl) | (rw [bfalse hp, bfalse hbad]; rfl)), (by simp only []; omega)⟩
        · refine W.dropB [3] (bx' := [(3, .var _)]) rfl rfl rfl (pin_sub hD rfl) ?_
          refine W.line (n := 6) (by decide) (its := [⟨63, _, true⟩, ⟨64, _, true⟩, ⟨65, .dead, false⟩, ⟨66, .dead, false⟩, ⟨67, _, true⟩, ⟨5, _, true⟩]) (ks := []) (kk := []) (live := [0, 3, 4, 5, 6]) (env' := [(0, _), (3, _), (4, _), (5, _), (6, _)])
            (⟨Nat.le_of_ble_eq_true rfl, rfl,
              ⟨⟨rfl, rfl, fun _ τ hb ht hτ => R.mov (evt (hτ 5 _ rfl)) rfl ht⟩,
              ⟨⟨rfl, rfl, fun _ τ hb ht hτ => R.mov (evt (hτ 63 _ rfl)) rfl ht⟩,
              ⟨⟨rfl, ⟨_, 64, rfl, rfl, .inl ⟨_, rfl, gw (v := false) (bfalse hp) rfl⟩⟩, fun h => absurd h (by decide)⟩,
              ⟨⟨rfl, ⟨_, 64, rfl, rfl, .inl ⟨_, rfl, gw (v := false) (bfalse hp) rfl⟩⟩, fun h => absurd h (by decide)⟩,
              ⟨⟨rfl, rfl, fun _ τ hb ht hτ => R.pickF (evt (hτ 64 _ rfl)) (bfalse hp) (show ev _ _ (.const (.bool false)) = some (.bool false) from rfl) rfl ht⟩,
              ⟨⟨rfl, rfl, fun _ τ hb ht hτ => R.asg (evt (hτ 67 _ rfl)) rfl ht⟩,
              trivial⟩⟩⟩⟩⟩⟩, rfl, rfl, rfl⟩)
            rfl (bx' := [(3, .var _)]) rfl (n' := 74) rfl (⟨[0, 3, 4, 5, 6], [(0, _), (3, _), (4, _), (5, _), (6, _)], [(3, .var _)], 74, rfl, rfl, rfl, ?_⟩)
          refine W.line (n := 3) (by decide) (its := [⟨23, _, true⟩, ⟨24, _, true⟩, ⟨6, _, true⟩]) (ks := []) (kk := []) (live := [0, 3, 4, 5, 6]) (env' := [(0, _), (3, _), (4, _), (5, _), (6, _)])
            (⟨Nat.le_of_ble_eq_true rfl, rfl,
              ⟨⟨rfl, rfl, fun _ τ hb ht hτ => R.mov (evt (hτ 6 _ rfl)) rfl ht⟩,
              ⟨⟨rfl, rfl, fun _ τ hb ht hτ => R.addN (k) (1) (evt (hτ 23 _ rfl)) (show ev _ _ (.const (.int .i64 1)) = some (.int ((1 : Nat) : Int)) from rfl) (by first | omega | (simp only [List.length_map, List.length_append, List.length_cons, List.length_nil, List.length_take, List.length_drop, List.length_replicate]; omega) | (simp; omega)) ht⟩,
              ⟨⟨rfl, rfl, fun _ τ hb ht hτ => R.asg (evt (hτ 24 _ rfl)) rfl ht⟩,
              trivial⟩⟩⟩, rfl, rfl, rfl⟩)
            rfl (bx' := [(3, .var _)]) rfl (n' := 74) rfl (⟨[0, 3, 4, 5, 6], [(0, _), (3, _), (4, _), (5, _), (6, _)], [(3, .var _)], 74, rfl, rfl, rfl, ?_⟩)
          exact ⟨⟨(k + 1), (by first | omega | (simp only [List.length_map, List.length_append, List.length_cons, List.length_nil, List.length_take, List.length_drop, List.length_replicate]; omega) | (simp; omega))⟩, (by show _ = (⟨_, [_, _, _, (5, .bool (provB joinS l k && !badAny joinS l k)), _], _⟩ : Sg); first | (rw [hp, hbad]; rfl) | (rw [bfalse hp, hbad]; rfl) | (rw [hp, bfalse hbad]; rfl) | (rw [bfalse hp, bfalse hbad]; rfl)), (by simp only []; omega)⟩
    · obtain rfl : k = l.length := by omega
      refine W.exit ?_
      refine W.seq ?_
      refine W.line (n := 7) (by decide) (its := [⟨68, _, true⟩, ⟨69, _, true⟩, ⟨70, _, true⟩, ⟨71, _, true⟩, ⟨72, _, true⟩, ⟨73, _, true⟩, ⟨2, _, true⟩]) (ks := []) (kk := []) (live := [2]) (env' := [(2, _)])
        (⟨Nat.le_of_ble_eq_true rfl, rfl,
          ⟨⟨rfl, rfl, fun _ τ hb ht hτ => R.mov (evt (hτ 5 _ rfl)) rfl ht⟩,
          ⟨⟨rfl, rfl, fun _ τ hb ht hτ => R.mov (evt (hτ 4 _ rfl)) rfl ht⟩,
          ⟨⟨rfl, rfl, fun _ τ hb ht hτ => R.neB (evt (hτ 68 _ rfl)) (evt (hτ 69 _ rfl)) ht⟩,
          ⟨⟨rfl, rfl, fun _ τ hb ht hτ => R.mov (evt (hτ 70 _ rfl)) rfl ht⟩,
          ⟨⟨rfl, ⟨_, 71, rfl, rfl, .inl ⟨_, rfl, gw (v := true) (prov_dbl joinS l) rfl⟩⟩, fun _ τ hb ht hτ => R.callG hC (works_ok) Bors.nil (FrsR.one (.bool _)) ht⟩,
          ⟨⟨rfl, rfl, fun _ τ hb ht hτ => R.pickT (evt (hτ 71 _ rfl)) (prov_dbl joinS l) (evt (hτ 72 _ rfl)) rfl ht⟩,
          ⟨⟨rfl, rfl, fun _ τ hb ht hτ => R.asg (evt (hτ 73 _ rfl)) rfl ht⟩,
          trivial⟩⟩⟩⟩⟩⟩⟩, rfl, rfl, rfl⟩)
        rfl (bx' := [(3, .var _)]) rfl (n' := 74) rfl (⟨[2], [(2, _)], [(3, .var _)], 74, rfl, rfl, rfl, ?_⟩)
      refine W.ret ?_
      exact Ends.one' (.inr rfl) rfl (rfl) rfl rfl trivial

end Go.Sx
