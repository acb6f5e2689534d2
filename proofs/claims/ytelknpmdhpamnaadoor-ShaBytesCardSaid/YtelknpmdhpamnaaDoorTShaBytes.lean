/- Proved: what functions of the given program compute (used by the theorem of this claim). Conditions: none but those that each theorem states. -/
import Derived.Test.YtelknpmdhpamnaaDoorSha4
import Derived.Test.YtelknpmdhpamnaaDoorShaLaw2
set_option linter.unusedVariables false
set_option linter.unusedSimpArgs false
set_option linter.unnecessarySimpa false
namespace Go.Sx
open Go.Proofs
theorem shabytes_ok (b : List UInt8) : Fn Tryd.prog gl 7 [.sl none 1 (b.map D.u8)] (.bool true) := by
  refine Fn.of (n := 40) Tryd.func7 rfl rfl rfl (Nat.le_of_ble_eq_true rfl) fun C hC => ?_
  refine W.seq ?_
  refine W.line (n := 1) (by decide) (its := [⟨2, _, true⟩]) (ks := []) (kk := []) (live := [0]) (env' := [(0, _)])
    (⟨Nat.le_of_ble_eq_true rfl, rfl,
      ⟨⟨rfl, rfl, fun _ τ hb ht hτ => R.asg (show ev _ _ (.const (.bool false)) = some (.bool false) from rfl) rfl ht⟩,
      trivial⟩, rfl, rfl, rfl⟩)
    rfl (bx' := []) rfl (n' := 40) rfl (⟨[0], [(0, _)], [], 40, rfl, rfl, rfl, ?_⟩)
  refine W.seq ?_
  refine W.seq ?_
  refine W.line (n := 3) (by decide) (its := [⟨5, _, true⟩, ⟨6, _, true⟩, ⟨7, _, true⟩]) (ks := []) (kk := []) (live := [0, 7]) (env' := [(0, _), (7, _)])
    (⟨Nat.le_of_ble_eq_true rfl, rfl,
      ⟨⟨rfl, rfl, fun _ τ hb ht hτ => R.mov (evt (hτ 0 _ rfl)) rfl ht⟩,
      ⟨⟨rfl, rfl, fun _ τ hb ht hτ => R.lenE (SC.sl (hτ 5 _ rfl)) (List.length_map _) ht⟩,
      ⟨⟨rfl, rfl, fun _ τ hb ht hτ => R.gtrN (b.length) (4096) (evt (hτ 6 _ rfl)) (show ev _ _ (.const (.int .i64 4096)) = some (.int ((4096 : Nat) : Int)) from rfl) ht⟩,
      trivial⟩⟩⟩, rfl, rfl, rfl⟩)
    rfl (bx' := []) rfl (n' := 40) rfl (⟨[0, 7], [(0, _), (7, _)], [], 40, rfl, rfl, rfl, ?_⟩)
  refine W.condD rfl (fun hc7 => ?_) (fun hc7 => ?_)
  · refine W.seq ?_
    refine W.line (n := 2) (by decide) (its := [⟨8, _, true⟩, ⟨2, _, true⟩]) (ks := []) (kk := []) (live := [2]) (env' := [(2, _)])
      (⟨Nat.le_of_ble_eq_true rfl, rfl,
        ⟨⟨rfl, rfl, fun _ τ hb ht hτ => R.callG hC (works_ok) Bors.nil (FrsR.one (.bool _)) ht⟩,
        ⟨⟨rfl, rfl, fun _ τ hb ht hτ => R.asg (evt (hτ 8 _ rfl)) rfl ht⟩,
        trivial⟩⟩, rfl, rfl, rfl⟩)
      rfl (bx' := []) rfl (n' := 40) rfl (⟨[2], [(2, _)], [], 40, rfl, rfl, rfl, ?_⟩)
    refine W.ret ?_
    exact Ends.one' (.inr rfl) rfl (rfl) rfl rfl trivial
  · refine W.skip ?_
    refine W.seq ?_
    refine W.line (n := 1) (by decide) (its := []) (ks := []) (kk := []) (live := [0]) (env' := [(0, _)])
      (⟨Nat.le_of_ble_eq_true rfl, rfl,
        trivial, rfl, rfl, rfl⟩)
      rfl (bx' := []) rfl (n' := 40) rfl (⟨rfl, _, R.alloc rfl (Nat.le_of_ble_eq_true rfl), ⟨[0, 3], [(0, _), (3, _)], [(3, .var _)], 40, rfl, rfl, rfl, ?_⟩⟩)
    refine W.seq ?_
    refine W.seq ?_
    refine W.line (n := 1) (by decide) (its := [⟨4, _, true⟩]) (ks := []) (kk := []) (live := [0, 3, 4]) (env' := [(0, _), (3, _), (4, _)])
      (⟨Nat.le_of_ble_eq_true rfl, rfl,
        ⟨⟨rfl, rfl, fun _ τ hb ht hτ => R.asg (show ev _ _ (.const (.int .i64 0)) = some (.int ((0 : Nat) : Int)) from rfl) rfl ht⟩,
        trivial⟩, rfl, rfl, rfl⟩)
      rfl (bx' := [(3, .var _)]) rfl (n' := 40) rfl (⟨[0, 3, 4], [(0, _), (3, _), (4, _)], [(3, .var _)], 40, rfl, rfl, rfl, ?_⟩)
    refine W.block ?_
    refine W.loop (α := {q__ : Nat // q__ ≤ b.length}) (fun q__ => ⟨40, [(0, .sl none 1 (b.map D.u8)), (3, .ptr 3 0 []), (4, .int ((q__.1 : Nat) : Int))], [(3, .var (stD (byS b q__.1)))]⟩) (fun q__ => b.length - q__.1) ⟨(0), (by first | omega | (simp only [List.length_map, List.length_append, List.length_cons, List.length_nil, List.length_take, List.length_drop, List.length_replicate]; omega) | (simp; omega))⟩ rfl ?_
    rintro ⟨i, hi⟩
    show W _ _ _ _ ⟨40, [(0, .sl none 1 (b.map D.u8)), (3, .ptr 3 0 []), (4, .int ((i : Nat) : Int))], [(3, .var (stD (byS b i)))]⟩
    refine W.seq ?_
    refine W.seq ?_
    refine W.line (n := 4) (by decide) (its := [⟨9, _, true⟩, ⟨10, _, true⟩, ⟨11, _, true⟩, ⟨12, _, true⟩]) (ks := []) (kk := []) (live := [0, 3, 4, 12]) (env' := [(0, _), (3, _), (4, _), (12, _)])
      (⟨Nat.le_of_ble_eq_true rfl, rfl,
        ⟨⟨rfl, rfl, fun _ τ hb ht hτ => R.mov (evt (hτ 4 _ rfl)) rfl ht⟩,
        ⟨⟨rfl, rfl, fun _ τ hb ht hτ => R.mov (evt (hτ 0 _ rfl)) rfl ht⟩,
        ⟨⟨rfl, rfl, fun _ τ hb ht hτ => R.lenE (SC.sl (hτ 10 _ rfl)) (List.length_map _) ht⟩,
        ⟨⟨rfl, rfl, fun _ τ hb ht hτ => R.lssN (i) (b.length) (evt (hτ 9 _ rfl)) (evt (hτ 11 _ rfl)) ht⟩,
        trivial⟩⟩⟩⟩, rfl, rfl, rfl⟩)
      rfl (bx' := [(3, .var _)]) rfl (n' := 40) rfl (⟨[0, 3, 4, 12], [(0, _), (3, _), (4, _), (12, _)], [(3, .var _)], 40, rfl, rfl, rfl, ?_⟩)
    refine W.condD rfl (fun hc12 => ?_) (fun hc12 => ?_)
    · refine W.skip ?_
      refine W.seq ?_
      refine W.block ?_
      refine W.draw (m := 8) (an := [0, 0, 0, 0, 8, 30, 63, 127, 255]) hP (by decide) rfl (its := [⟨15, _, true⟩, ⟨16, _, true⟩, ⟨17, _, true⟩, ⟨18, _, true⟩, ⟨19, _, true⟩, ⟨20, _, true⟩, ⟨21, _, true⟩, ⟨22, _, true⟩]) (ks := []) (kk := []) (live := [0, 3, 4, 22]) (env' := [(0, _), (3, _), (4, _), (22, _)])
        (⟨Nat.le_of_ble_eq_true rfl, rfl,
          ⟨⟨rfl, rfl, fun _ τ hb ht hτ => R.ldP (hτ 3 _ rfl) (hb 3 _ rfl) rfl rfl rfl rfl ht⟩,
          ⟨⟨rfl, rfl, fun _ τ hb ht hτ => R.mov (evt (hτ 0 _ rfl)) rfl ht⟩,
          ⟨⟨rfl, rfl, fun _ τ hb ht hτ => R.mov (evt (hτ 4 _ rfl)) rfl ht⟩,
          ⟨⟨rfl, rfl, fun _ τ hb ht hτ => R.mov (evt (hτ 4 _ rfl)) rfl ht⟩,
          ⟨⟨rfl, rfl, fun _ τ hb ht hτ => R.addN (i) (1) (evt (hτ 18 _ rfl)) (show ev _ _ (.const (.int .i64 1)) = some (.int ((1 : Nat) : Int)) from rfl) (by first | omega | (simp only [List.length_map, List.length_append, List.length_cons, List.length_nil, List.length_take, List.length_drop, List.length_replicate]; omega) | (simp; omega)) ht⟩,
          ⟨⟨rfl, rfl, fun _ τ hb ht hτ => R.slIN (i) ((i + 1)) (1) (evt (hτ 16 _ rfl)) (evoI (evt (hτ 17 _ rfl))) (evoI (evt (hτ 19 _ rfl))) rfl rfl (by first | omega | (simp only [List.length_map, List.length_append, List.length_cons, List.length_nil, List.length_take, List.length_drop, List.length_replicate]; omega) | (simp; omega)) (by first | omega | (simp only [List.length_map, List.length_append, List.length_cons, List.length_nil, List.length_take, List.length_drop, List.length_replicate]; omega) | (simp; omega)) (by first | omega | (simp only [List.length_map, List.length_append, List.length_cons, List.length_nil, List.length_take, List.length_drop, List.length_replicate]; omega) | (simp; omega)) (part_map) ht⟩,
          ⟨⟨rfl, rfl, fun _ τ hb ht hτ => R.callG hC (add_ok (byS b i) ((b.drop i).take 1) (byS_ok b i) (by simp only [List.length_take]; omega)) (Bors.cons (Bor.pur (evt (hτ 15 _ rfl)) rfl rfl) (Bors.cons (Bor.pur (evt (hτ 20 _ rfl)) rfl rfl) Bors.nil)) (FrsR.one (frs_st _)) ht⟩,
          ⟨⟨rfl, rfl, fun _ τ hb ht hτ => R.callG hC (add_ok (addS (byS b i) ((b.drop i).take 1)) [] (addS_ok _ _ (byS_ok b i)) (by decide)) (Bors.cons (Bor.pur (evt (hτ 21 _ rfl)) rfl rfl) (Bors.cons (Bor.nils (show ev _ _ (.const (.slice none 0 0)) = some (.nils) from rfl)) Bors.nil)) (FrsR.one (frs_st _)) ht⟩,
          trivial⟩⟩⟩⟩⟩⟩⟩⟩, rfl, rfl, rfl⟩)
        rfl (bx' := [(3, .var _)]) rfl (n' := 40) rfl (⟨rfl, _, R.stZ (show Sg.get _ 3 = some _ from rfl) (show Sg.box _ 3 = some _ from rfl) rfl (evt (show Sg.get _ 22 = some _ from rfl)) (by rfl) (by rfl) (by rfl) (by rfl) rfl, ⟨[0, 3, 4], [(0, _), (3, _), (4, _)], [(3, .var _)], 40, rfl, rfl, rfl, ?_⟩⟩)
      refine W.line (n := 3) (by decide) (its := [⟨13, _, true⟩, ⟨14, _, true⟩, ⟨4, _, true⟩]) (ks := []) (kk := []) (live := [0, 3, 4]) (env' := [(0, _), (3, _), (4, _)])
        (⟨Nat.le_of_ble_eq_true rfl, rfl,
          ⟨⟨rfl, rfl, fun _ τ hb ht hτ => R.mov (evt (hτ 4 _ rfl)) rfl ht⟩,
          ⟨⟨rfl, rfl, fun _ τ hb ht hτ => R.addN (i) (1) (evt (hτ 13 _ rfl)) (show ev _ _ (.const (.int .i64 1)) = some (.int ((1 : Nat) : Int)) from rfl) (by first | omega | (simp only [List.length_map, List.length_append, List.length_cons, List.length_nil, List.length_take, List.length_drop, List.length_replicate]; omega) | (simp; omega)) ht⟩,
          ⟨⟨rfl, rfl, fun _ τ hb ht hτ => R.asg (evt (hτ 14 _ rfl)) rfl ht⟩,
          trivial⟩⟩⟩, rfl, rfl, rfl⟩)
        rfl (bx' := [(3, .var _)]) rfl (n' := 40) rfl (⟨[0, 3, 4], [(0, _), (3, _), (4, _)], [(3, .var _)], 40, rfl, rfl, rfl, ?_⟩)
      exact ⟨⟨(i + 1), (by first | omega | (simp only [List.length_map, List.length_append, List.length_cons, List.length_nil, List.length_take, List.length_drop, List.length_replicate]; omega) | (simp; omega))⟩, rfl, (by simp only []; omega)⟩
    · obtain rfl : i = b.length := by omega
      refine W.exit ?_
      refine W.seq ?_
      refine W.draw (m := 18) (an := [0, 1, 0, 7, 15, 31, 63, 63, 255, 511, 63, 2047, 4095, 8191, 16383, 32767, 65535, 131071]) hP (by decide) rfl (its := [⟨23, _, true⟩, ⟨24, _, true⟩, ⟨25, _, true⟩, ⟨26, _, true⟩, ⟨27, _, true⟩, ⟨28, _, true⟩, ⟨29, _, true⟩, ⟨30, _, true⟩, ⟨31, _, true⟩, ⟨32, _, true⟩, ⟨33, _, true⟩, ⟨34, _, true⟩, ⟨35, _, true⟩, ⟨36, _, true⟩, ⟨37, _, true⟩, ⟨38, _, true⟩, ⟨39, _, true⟩, ⟨2, _, true⟩]) (ks := []) (kk := []) (live := [2]) (env' := [(2, _)])
        (⟨Nat.le_of_ble_eq_true rfl, rfl,
          ⟨⟨rfl, rfl, fun _ τ hb ht hτ => R.ldP (hτ 3 _ rfl) (hb 3 _ rfl) rfl rfl rfl rfl ht⟩,
          ⟨⟨rfl, rfl, fun _ τ hb ht hτ => R.callG hC (end_ok (byS b b.length) (byS_ok b _)) (Bors.cons (Bor.pur (evt (hτ 23 _ rfl)) rfl rfl) Bors.nil) (FrsR.one (frs_hash _)) ht⟩,
          ⟨⟨rfl, rfl, fun _ τ hb ht hτ => R.mov (evt (hτ 0 _ rfl)) rfl ht⟩,
          ⟨⟨rfl, rfl, fun _ τ hb ht hτ => R.callG hC (sum_ok b (by omega)) (Bors.cons (Bor.pur (evt (hτ 25 _ rfl)) rfl rfl) Bors.nil) (FrsR.one (frs_hash _)) ht⟩,
          ⟨⟨rfl, rfl, fun _ τ hb ht hτ => R.eqAE (evt (hτ 24 _ rfl)) (evt (hτ 26 _ rfl)) ht⟩,
          ⟨⟨rfl, rfl, fun _ τ hb ht hτ => R.mov (evt (hτ 27 _ rfl)) rfl ht⟩,
          ⟨⟨rfl, ⟨_, 28, rfl, rfl, .inl ⟨_, rfl, gw (v := true) (by_eq b) rfl⟩⟩, fun _ τ hb ht hτ => R.ldP (hτ 3 _ rfl) (hb 3 _ rfl) rfl rfl rfl rfl ht⟩,
          ⟨⟨rfl, ⟨_, 28, rfl, rfl, .inl ⟨_, rfl, gw (v := true) (by_eq b) rfl⟩⟩, fun _ τ hb ht hτ => R.bslE .nil trivial rfl ht (by decide)⟩,
          ⟨⟨rfl, ⟨_, 28, rfl, rfl, .inl ⟨_, rfl, gw (v := true) (by_eq b) rfl⟩⟩, fun _ τ hb ht hτ => R.callG hC (add_ok (byS b b.length) [] (byS_ok b _) (by decide)) (Bors.cons (Bor.pur (evt (hτ 29 _ rfl)) rfl rfl) (Bors.cons (Bor.sc (SC.sl (hτ 30 _ rfl)) rfl) Bors.nil)) (FrsR.one (frs_st _)) ht⟩,
          ⟨⟨rfl, ⟨_, 28, rfl, rfl, .inl ⟨_, rfl, gw (v := true) (by_eq b) rfl⟩⟩, fun _ τ hb ht hτ => R.callG hC (end_ok (addS (byS b b.length) []) (addS_ok _ _ (byS_ok b _))) (Bors.cons (Bor.pur (evt (hτ 31 _ rfl)) rfl rfl) Bors.nil) (FrsR.one (frs_hash _)) ht⟩,
          ⟨⟨rfl, ⟨_, 28, rfl, rfl, .inl ⟨_, rfl, gw (v := true) (by_eq b) rfl⟩⟩, fun _ τ hb ht hτ => R.ldP (hτ 3 _ rfl) (hb 3 _ rfl) rfl rfl rfl rfl ht⟩,
          ⟨⟨rfl, ⟨_, 28, rfl, rfl, .inl ⟨_, rfl, gw (v := true) (by_eq b) rfl⟩⟩, fun _ τ hb ht hτ => R.callG hC (end_ok (byS b b.length) (byS_ok b _)) (Bors.cons (Bor.pur (evt (hτ 33 _ rfl)) rfl rfl) Bors.nil) (FrsR.one (frs_hash _)) ht⟩,
          ⟨⟨rfl, ⟨_, 28, rfl, rfl, .inl ⟨_, rfl, gw (v := true) (by_eq b) rfl⟩⟩, fun _ τ hb ht hτ => R.eqAE (evt (hτ 32 _ rfl)) (evt (hτ 34 _ rfl)) ht⟩,
          ⟨⟨rfl, rfl, fun _ τ hb ht hτ => R.pickT (evt (hτ 28 _ rfl)) (by_eq b) (evt (hτ 35 _ rfl)) rfl ht⟩,
          ⟨⟨rfl, rfl, fun _ τ hb ht hτ => R.mov (evt (hτ 36 _ rfl)) rfl ht⟩,
          ⟨⟨rfl, ⟨_, 37, rfl, rfl, .inl ⟨_, rfl, gw (v := true) (by_nil b) rfl⟩⟩, fun _ τ hb ht hτ => R.callG hC (works_ok) Bors.nil (FrsR.one (.bool _)) ht⟩,
          ⟨⟨rfl, rfl, fun _ τ hb ht hτ => R.pickT (evt (hτ 37 _ rfl)) (by_nil b) (evt (hτ 38 _ rfl)) rfl ht⟩,
          ⟨⟨rfl, rfl, fun _ τ hb ht hτ => R.asg (evt (hτ 39 _ rfl)) rfl ht⟩,
          trivial⟩⟩⟩⟩⟩⟩⟩⟩⟩⟩⟩⟩⟩⟩⟩⟩⟩⟩, rfl, rfl, rfl⟩)
        rfl (bx' := [(3, .var _)]) rfl (n' := 40) rfl (⟨[2], [(2, _)], [(3, .var _)], 40, rfl, rfl, rfl, ?_⟩)
      refine W.ret ?_
      exact Ends.one' (.inr rfl) rfl (rfl) rfl rfl trivial

end Go.Sx
