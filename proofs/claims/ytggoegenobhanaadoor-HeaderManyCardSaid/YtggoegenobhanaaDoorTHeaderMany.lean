/- Proved: what functions of the given program compute (used by the theorem of this claim). Conditions: none but those that each theorem states. -/
import Derived.Test.YtggoegenobhanaaDoorHd12
set_option linter.unusedVariables false
set_option linter.unusedSimpArgs false
set_option linter.unnecessarySimpa false

namespace Go.Sx
open Go.Proofs
theorem many_neg (over : Int) (more : UInt8) (ho0 : -128 ≤ over ∧ over ≤ 127) (hneg : 100 + over < 0) : Fn Tryd.prog gl 6 [.ik .i8 over, .u8 more] (.bool true) := by
  refine Fn.of (n := 65) Tryd.func6 rfl rfl rfl (Nat.le_of_ble_eq_true rfl) fun C hC hD => ?_
  refine W.seq ?_
  refine W.line (n := 1) (by decide) (its := [⟨4, _, true⟩]) (ks := []) (kk := []) (live := [0, 1]) (env' := [(0, _), (1, _)])
    (⟨Nat.le_of_ble_eq_true rfl, rfl,
      ⟨⟨rfl, rfl, fun _ τ hb ht hτ => R.asg (show ev _ _ (.const (.bool false)) = some (.bool false) from rfl) rfl ht⟩,
      trivial⟩, rfl, rfl, rfl⟩)
    rfl (bx' := []) rfl (n' := 65) rfl (⟨[0, 1], [(0, _), (1, _)], [], 65, rfl, rfl, rfl, ?_⟩)
  refine W.seq ?_
  refine W.line (n := 4) (by decide) (its := [⟨9, _, true⟩, ⟨10, _, true⟩, ⟨11, _, true⟩, ⟨5, _, true⟩]) (ks := []) (kk := []) (live := [0, 1, 5]) (env' := [(0, _), (1, _), (5, _)])
    (⟨Nat.le_of_ble_eq_true rfl, rfl,
      ⟨⟨rfl, rfl, fun _ τ hb ht hτ => R.mov (evt (hτ 0 _ rfl)) rfl ht⟩,
      ⟨⟨rfl, rfl, fun _ τ hb ht hτ => R.convE (d := .int over) (evt (hτ 9 _ rfl)) rfl (wr_eq rfl (by omega) (by omega)) ht⟩,
      ⟨⟨rfl, rfl, fun _ τ hb ht hτ => R.binE (d := .int (100 + over)) (show ev _ _ (.const (.int .i64 100)) = some (.int ((100 : Nat) : Int)) from rfl) (evt (hτ 10 _ rfl)) rfl trivial (wr_eq rfl (by omega) (by omega)) ht⟩,
      ⟨⟨rfl, rfl, fun _ τ hb ht hτ => R.asg (evt (hτ 11 _ rfl)) rfl ht⟩,
      trivial⟩⟩⟩⟩, rfl, rfl, rfl⟩)
    rfl (bx' := []) rfl (n' := 65) rfl (⟨[0, 1, 5], [(0, _), (1, _), (5, _)], [], 65, rfl, rfl, rfl, ?_⟩)
  refine W.seq ?_
  refine W.seq ?_
  refine W.line (n := 2) (by decide) (its := [⟨12, _, true⟩, ⟨13, _, true⟩]) (ks := []) (kk := []) (live := [0, 1, 5, 13]) (env' := [(0, _), (1, _), (5, _), (13, _)])
    (⟨Nat.le_of_ble_eq_true rfl, rfl,
      ⟨⟨rfl, rfl, fun _ τ hb ht hτ => R.mov (evt (hτ 5 _ rfl)) rfl ht⟩,
      ⟨⟨rfl, rfl, fun _ τ hb ht hτ => R.bin (evt (hτ 12 _ rfl)) (show ev _ _ (.const (.int .i64 0)) = some (.int ((0 : Nat) : Int)) from rfl) rfl trivial ht⟩,
      trivial⟩⟩, rfl, rfl, rfl⟩)
    rfl (bx' := []) rfl (n' := 65) rfl (⟨[0, 1, 5, 13], [(0, _), (1, _), (5, _), (13, _)], [], 65, rfl, rfl, rfl, ?_⟩)
  refine W.condT rfl (decide_eq_true hneg) ?_
  refine W.seq ?_
  refine W.line (n := 2) (by decide) (its := [⟨14, _, true⟩, ⟨4, _, true⟩]) (ks := []) (kk := []) (live := [4]) (env' := [(4, _)])
    (⟨Nat.le_of_ble_eq_true rfl, rfl,
      ⟨⟨rfl, rfl, fun _ τ hb ht hτ => R.callG hC (works_ok) Bors.nil (FrsR.one (.bool _)) ht⟩,
      ⟨⟨rfl, rfl, fun _ τ hb ht hτ => R.asg (evt (hτ 14 _ rfl)) rfl ht⟩,
      trivial⟩⟩, rfl, rfl, rfl⟩)
    rfl (bx' := []) rfl (n' := 65) rfl (⟨[4], [(4, _)], [], 65, rfl, rfl, rfl, ?_⟩)
  refine W.ret ?_
  exact Ends.one' (.inr rfl) rfl (rfl) rfl rfl trivial

theorem many_pos (n : Nat) (more : UInt8) (hn : n ≤ 227) : Fn Tryd.prog gl 6 [.ik .i8 ((n : Int) - 100), .u8 more] (.bool true) := by
  refine Fn.of (n := 65) Tryd.func6 rfl rfl rfl (Nat.le_of_ble_eq_true rfl) fun C hC hD => ?_
  have hmt := more.toNat_lt
  refine W.seq ?_
  refine W.line (n := 1) (by decide) (its := [⟨4, _, true⟩]) (ks := []) (kk := []) (live := [0, 1]) (env' := [(0, _), (1, _)])
    (⟨Nat.le_of_ble_eq_true rfl, rfl,
      ⟨⟨rfl, rfl, fun _ τ hb ht hτ => R.asg (show ev _ _ (.const (.bool false)) = some (.bool false) from rfl) rfl ht⟩,
      trivial⟩, rfl, rfl, rfl⟩)
    rfl (bx' := []) rfl (n' := 65) rfl (⟨[0, 1], [(0, _), (1, _)], [], 65, rfl, rfl, rfl, ?_⟩)
  refine W.seq ?_
  refine W.line (n := 4) (by decide) (its := [⟨9, _, true⟩, ⟨10, _, true⟩, ⟨11, _, true⟩, ⟨5, _, true⟩]) (ks := []) (kk := []) (live := [0, 1, 5]) (env' := [(0, _), (1, _), (5, _)])
    (⟨Nat.le_of_ble_eq_true rfl, rfl,
      ⟨⟨rfl, rfl, fun _ τ hb ht hτ => R.mov (evt (hτ 0 _ rfl)) rfl ht⟩,
      ⟨⟨rfl, rfl, fun _ τ hb ht hτ => R.convE (d := .int ((n : Int) - 100)) (evt (hτ 9 _ rfl)) rfl (wr_eq rfl (by omega) (by omega)) ht⟩,
      ⟨⟨rfl, rfl, fun _ τ hb ht hτ => R.binE (d := .int ((n : Nat) : Int)) (show ev _ _ (.const (.int .i64 100)) = some (.int ((100 : Nat) : Int)) from rfl) (evt (hτ 10 _ rfl)) rfl trivial (wr_eq (by omega) (by omega) (by omega)) ht⟩,
      ⟨⟨rfl, rfl, fun _ τ hb ht hτ => R.asg (evt (hτ 11 _ rfl)) rfl ht⟩,
      trivial⟩⟩⟩⟩, rfl, rfl, rfl⟩)
    rfl (bx' := []) rfl (n' := 65) rfl (⟨[0, 1, 5], [(0, _), (1, _), (5, _)], [], 65, rfl, rfl, rfl, ?_⟩)
  refine W.seq ?_
  refine W.seq ?_
  refine W.line (n := 2) (by decide) (its := [⟨12, _, true⟩, ⟨13, _, true⟩]) (ks := []) (kk := []) (live := [0, 1, 5, 13]) (env' := [(0, _), (1, _), (5, _), (13, _)])
    (⟨Nat.le_of_ble_eq_true rfl, rfl,
      ⟨⟨rfl, rfl, fun _ τ hb ht hτ => R.mov (evt (hτ 5 _ rfl)) rfl ht⟩,
      ⟨⟨rfl, rfl, fun _ τ hb ht hτ => R.lssN (n) (0) (evt (hτ 12 _ rfl)) (show ev _ _ (.const (.int .i64 0)) = some (.int ((0 : Nat) : Int)) from rfl) ht⟩,
      trivial⟩⟩, rfl, rfl, rfl⟩)
    rfl (bx' := []) rfl (n' := 65) rfl (⟨[0, 1, 5, 13], [(0, _), (1, _), (5, _), (13, _)], [], 65, rfl, rfl, rfl, ?_⟩)
  refine W.condF rfl (decide_eq_false (Nat.not_lt_zero _)) ?_
  refine W.skip ?_
  refine W.seq ?_
  refine W.line (n := 8) (by decide) (its := [⟨15, _, true⟩, ⟨16, _, true⟩, ⟨17, _, true⟩, ⟨18, _, true⟩, ⟨19, _, true⟩, ⟨20, _, true⟩, ⟨21, _, true⟩, ⟨6, _, true⟩]) (ks := [(7, 21)]) (kk := [(7, 21)]) (live := [0, 1, 5, 6]) (env' := [(0, _), (1, _), (5, _), (6, _)])
    (⟨Nat.le_of_ble_eq_true rfl, rfl,
      ⟨⟨rfl, rfl, fun _ τ hb ht hτ => R.mov (evt (hτ 5 _ rfl)) rfl ht⟩,
      ⟨⟨rfl, rfl, fun _ τ hb ht hτ => R.mulN (80) (n) (show ev _ _ (.const (.int .i64 80)) = some (.int ((80 : Nat) : Int)) from rfl) (evt (hτ 15 _ rfl)) (by first | omega | (simp only [List.length_map, List.length_append, List.length_cons, List.length_nil, List.length_take, List.length_drop, List.length_replicate]; omega) | (simp; omega)) ht⟩,
      ⟨⟨rfl, rfl, fun _ τ hb ht hτ => R.mov (evt (hτ 1 _ rfl)) rfl ht⟩,
      ⟨⟨rfl, rfl, fun _ τ hb ht hτ => R.conv (evt (hτ 17 _ rfl)) rfl ht⟩,
      ⟨⟨rfl, rfl, fun _ τ hb ht hτ => R.remN (more.toNat) (80) (evt (hτ 18 _ rfl)) (show ev _ _ (.const (.int .i64 80)) = some (.int ((80 : Nat) : Int)) from rfl) (by first | omega | (simp only [List.length_map, List.length_append, List.length_cons, List.length_nil, List.length_take, List.length_drop, List.length_replicate]; omega) | (simp; omega)) ht⟩,
      ⟨⟨rfl, rfl, fun _ τ hb ht hτ => R.addN ((80 * n)) ((more.toNat % 80)) (evt (hτ 16 _ rfl)) (evt (hτ 19 _ rfl)) (by first | omega | (simp only [List.length_map, List.length_append, List.length_cons, List.length_nil, List.length_take, List.length_drop, List.length_replicate]; omega) | (simp; omega)) ht⟩,
      ⟨⟨rfl, rfl, fun _ τ hb ht hτ => R.mk (n := ((80 * n) + (more.toNat % 80))) (evt (hτ 20 _ rfl)) (evt (hτ 20 _ rfl)) (by first | omega | (simp only [List.length_map, List.length_append, List.length_cons, List.length_nil, List.length_take, List.length_drop, List.length_replicate]; omega) | (simp; omega)) (by decide) ht⟩,
      ⟨⟨rfl, rfl, fun _ τ hb ht hτ => R.asgO (hτ 21 _ rfl) rfl ht (by decide)⟩,
      trivial⟩⟩⟩⟩⟩⟩⟩⟩, rfl, rfl, rfl⟩)
    rfl (bx' := []) rfl (n' := 65) rfl (⟨[0, 1, 5, 6], [(0, _), (1, _), (5, _), (6, _)], [], 65, rfl, rfl, rfl, ?_⟩)
  refine W.seq ?_
  by_cases hm : more.toNat % 80 = 0
  · by_cases hn1 : 100 < n
    · refine W.line (n := 7) (by decide) (its := [⟨23, _, true⟩, ⟨24, _, true⟩, ⟨22, _, true⟩, ⟨25, _, true⟩, ⟨26, _, true⟩, ⟨7, _, true⟩, ⟨8, _, true⟩]) (ks := []) (kk := []) (live := [0, 1, 5, 7, 8]) (env' := [(0, _), (1, _), (5, _), (7, _), (8, _)])
        (⟨Nat.le_of_ble_eq_true rfl, rfl,
          ⟨⟨rfl, rfl, fun _ τ hb ht hτ => R.al (hτ 6 _ rfl) ht (by decide)⟩,
          ⟨⟨rfl, rfl, fun _ τ hb ht hτ => R.callZ (r' := .tup [.sl none 68 (([] : List HdS).map hdrD), .int ((6 : Nat) : Int)]) (cut_ok (List.replicate (80 * n + more.toNat % 80) 0) (by simp only [List.length_replicate]; omega)) hC (Bors.cons (Bor.sc (SC.al (hτ 23 _ rfl) (hτ 6 _ rfl)) (by simp [D.brw])) Bors.nil) (FrsR.two (frs_hdrs _ _ _) (.int _)) (zcut (many_2 n _ hm hn1)) ht⟩,
          ⟨⟨rfl, rfl, fun _ τ hb ht hτ => R.movT (hτ 24 _ rfl) rfl ht⟩,
          ⟨⟨rfl, rfl, fun _ τ hb ht hτ => R.ext (hτ 22 _ rfl) rfl rfl ht⟩,
          ⟨⟨rfl, rfl, fun _ τ hb ht hτ => R.ext (hτ 22 _ rfl) rfl rfl ht⟩,
          ⟨⟨rfl, rfl, fun _ τ hb ht hτ => R.asg (evt (hτ 25 _ rfl)) rfl ht⟩,
          ⟨⟨rfl, rfl, fun _ τ hb ht hτ => R.asg (evt (hτ 26 _ rfl)) rfl ht⟩,
          trivial⟩⟩⟩⟩⟩⟩⟩, rfl, rfl, rfl⟩)
        rfl (bx' := []) rfl (n' := 65) rfl (⟨[0, 1, 5, 7, 8], [(0, _), (1, _), (5, _), (7, _), (8, _)], [], 65, rfl, rfl, rfl, ?_⟩)
      refine W.seq ?_
      refine W.block ?_
      refine W.seq ?_
      refine W.line (n := 4) (by decide) (its := [⟨28, _, true⟩, ⟨29, _, true⟩, ⟨30, _, true⟩, ⟨27, _, true⟩]) (ks := []) (kk := []) (live := [0, 5, 7, 8, 27]) (env' := [(0, _), (5, _), (7, _), (8, _), (27, _)])
        (⟨Nat.le_of_ble_eq_true rfl, rfl,
          ⟨⟨rfl, rfl, fun _ τ hb ht hτ => R.mov (evt (hτ 1 _ rfl)) rfl ht⟩,
          ⟨⟨rfl, rfl, fun _ τ hb ht hτ => R.bin (evt (hτ 28 _ rfl)) (show ev _ _ (.const (.int .u8 80)) = some (.u8 80) from rfl) rfl (by decide) ht⟩,
          ⟨⟨rfl, rfl, fun _ τ hb ht hτ => R.bin (evt (hτ 29 _ rfl)) (show ev _ _ (.const (.int .u8 0)) = some (.u8 0) from rfl) rfl trivial ht⟩,
          ⟨⟨rfl, rfl, fun _ τ hb ht hτ => R.asg (evt (hτ 30 _ rfl)) rfl ht⟩,
          trivial⟩⟩⟩⟩, rfl, rfl, rfl⟩)
        rfl (bx' := []) rfl (n' := 65) rfl (⟨[0, 5, 7, 8, 27], [(0, _), (5, _), (7, _), (8, _), (27, _)], [], 65, rfl, rfl, rfl, ?_⟩)
      refine W.condF rfl (many_F hm) ?_
      refine W.seq ?_
      refine W.line (n := 3) (by decide) (its := [⟨42, _, true⟩, ⟨43, _, true⟩, ⟨41, _, true⟩]) (ks := []) (kk := []) (live := [5, 7, 8, 41]) (env' := [(5, _), (7, _), (8, _), (41, _)])
        (⟨Nat.le_of_ble_eq_true rfl, rfl,
          ⟨⟨rfl, rfl, fun _ τ hb ht hτ => R.mov (evt (hτ 0 _ rfl)) rfl ht⟩,
          ⟨⟨rfl, rfl, fun _ τ hb ht hτ => R.bin (evt (hτ 42 _ rfl)) (show ev _ _ (.const (.int .i8 0)) = some (.ik .i8 0) from rfl) rfl rfl ht⟩,
          ⟨⟨rfl, rfl, fun _ τ hb ht hτ => R.asg (evt (hτ 43 _ rfl)) rfl ht⟩,
          trivial⟩⟩⟩, rfl, rfl, rfl⟩)
        rfl (bx' := []) rfl (n' := 65) rfl (⟨[5, 7, 8, 41], [(5, _), (7, _), (8, _), (41, _)], [], 65, rfl, rfl, rfl, ?_⟩)
      refine W.condT rfl (decide_eq_true (by omega)) ?_
      refine W.seq ?_
      refine W.line (n := 11) (by decide) (its := [⟨44, _, true⟩, ⟨45, _, true⟩, ⟨46, _, true⟩, ⟨47, _, true⟩, ⟨48, _, true⟩, ⟨49, _, true⟩, ⟨50, _, true⟩, ⟨51, _, true⟩, ⟨52, _, true⟩, ⟨53, _, true⟩, ⟨4, _, true⟩]) (ks := []) (kk := []) (live := [4]) (env' := [(4, _)])
        (⟨Nat.le_of_ble_eq_true rfl, rfl,
          ⟨⟨rfl, rfl, fun _ τ hb ht hτ => R.mov (evt (hτ 8 _ rfl)) rfl ht⟩,
          ⟨⟨rfl, rfl, fun _ τ hb ht hτ => R.eqlN (6) (6) (evt (hτ 44 _ rfl)) (show ev _ _ (.const (.int .i64 6)) = some (.int ((6 : Nat) : Int)) from rfl) ht⟩,
          ⟨⟨rfl, rfl, fun _ τ hb ht hτ => R.mov (evt (hτ 45 _ rfl)) rfl ht⟩,
          ⟨⟨rfl, ⟨_, 46, rfl, rfl, .inl ⟨_, rfl, gw (v := true) (rfl) rfl⟩⟩, fun _ τ hb ht hτ => R.mov (evt (hτ 7 _ rfl)) rfl ht⟩,
          ⟨⟨rfl, ⟨_, 46, rfl, rfl, .inl ⟨_, rfl, gw (v := true) (rfl) rfl⟩⟩, fun _ τ hb ht hτ => R.lenE (SC.sl (hτ 47 _ rfl)) (List.length_map _) ht⟩,
          ⟨⟨rfl, ⟨_, 46, rfl, rfl, .inl ⟨_, rfl, gw (v := true) (rfl) rfl⟩⟩, fun _ τ hb ht hτ => R.eqlN (([] : List HdS).length) (0) (evt (hτ 48 _ rfl)) (show ev _ _ (.const (.int .i64 0)) = some (.int ((0 : Nat) : Int)) from rfl) ht⟩,
          ⟨⟨rfl, rfl, fun _ τ hb ht hτ => R.pickT (evt (hτ 46 _ rfl)) (rfl) (evt (hτ 49 _ rfl)) rfl ht⟩,
          ⟨⟨rfl, rfl, fun _ τ hb ht hτ => R.mov (evt (hτ 50 _ rfl)) rfl ht⟩,
          ⟨⟨rfl, ⟨_, 51, rfl, rfl, .inl ⟨_, rfl, gw (v := true) (rfl) rfl⟩⟩, fun _ τ hb ht hτ => R.callG hC (works_ok) Bors.nil (FrsR.one (.bool _)) ht⟩,
          ⟨⟨rfl, rfl, fun _ τ hb ht hτ => R.pickT (evt (hτ 51 _ rfl)) (rfl) (evt (hτ 52 _ rfl)) rfl ht⟩,
          ⟨⟨rfl, rfl, fun _ τ hb ht hτ => R.asg (evt (hτ 53 _ rfl)) rfl ht⟩,
          trivial⟩⟩⟩⟩⟩⟩⟩⟩⟩⟩⟩, rfl, rfl, rfl⟩)
        rfl (bx' := []) rfl (n' := 65) rfl (⟨[4], [(4, _)], [], 65, rfl, rfl, rfl, ?_⟩)
      refine W.ret ?_
      exact Ends.one' (.inr rfl) rfl (rfl) rfl rfl trivial
    · refine W.line (n := 7) (by decide) (its := [⟨23, _, true⟩, ⟨24, _, true⟩, ⟨22, _, true⟩, ⟨25, _, true⟩, ⟨26, _, true⟩, ⟨7, _, true⟩, ⟨8, _, true⟩]) (ks := []) (kk := []) (live := [0, 1, 5, 7, 8]) (env' := [(0, _), (1, _), (5, _), (7, _), (8, _)])
        (⟨Nat.le_of_ble_eq_true rfl, rfl,
          ⟨⟨rfl, rfl, fun _ τ hb ht hτ => R.al (hτ 6 _ rfl) ht (by decide)⟩,
          ⟨⟨rfl, rfl, fun _ τ hb ht hτ => R.callZ (r' := .tup [.sl none 68 ((cutI (List.replicate (80 * n + more.toNat % 80) 0) n).map hdrD), .int ((0 : Nat) : Int)]) (cut_ok (List.replicate (80 * n + more.toNat % 80) 0) (by simp only [List.length_replicate]; omega)) hC (Bors.cons (Bor.sc (SC.al (hτ 23 _ rfl) (hτ 6 _ rfl)) (by simp [D.brw])) Bors.nil) (FrsR.two (frs_hdrs _ _ _) (.int _)) (zcut (many_3 n _ hm hn1)) ht⟩,
          ⟨⟨rfl, rfl, fun _ τ hb ht hτ => R.movT (hτ 24 _ rfl) rfl ht⟩,
          ⟨⟨rfl, rfl, fun _ τ hb ht hτ => R.ext (hτ 22 _ rfl) rfl rfl ht⟩,
          ⟨⟨rfl, rfl, fun _ τ hb ht hτ => R.ext (hτ 22 _ rfl) rfl rfl ht⟩,
          ⟨⟨rfl, rfl, fun _ τ hb ht hτ => R.asg (evt (hτ 25 _ rfl)) rfl ht⟩,
          ⟨⟨rfl, rfl, fun _ τ hb ht hτ => R.asg (evt (hτ 26 _ rfl)) rfl ht⟩,
          trivial⟩⟩⟩⟩⟩⟩⟩, rfl, rfl, rfl⟩)
        rfl (bx' := []) rfl (n' := 65) rfl (⟨[0, 1, 5, 7, 8], [(0, _), (1, _), (5, _), (7, _), (8, _)], [], 65, rfl, rfl, rfl, ?_⟩)
      refine W.seq ?_
      refine W.block ?_
      refine W.seq ?_
      refine W.line (n := 4) (by decide) (its := [⟨28, _, true⟩, ⟨29, _, true⟩, ⟨30, _, true⟩, ⟨27, _, true⟩]) (ks := []) (kk := []) (live := [0, 5, 7, 8, 27]) (env' := [(0, _), (5, _), (7, _), (8, _), (27, _)])
        (⟨Nat.le_of_ble_eq_true rfl, rfl,
          ⟨⟨rfl, rfl, fun _ τ hb ht hτ => R.mov (evt (hτ 1 _ rfl)) rfl ht⟩,
          ⟨⟨rfl, rfl, fun _ τ hb ht hτ => R.bin (evt (hτ 28 _ rfl)) (show ev _ _ (.const (.int .u8 80)) = some (.u8 80) from rfl) rfl (by decide) ht⟩,
          ⟨⟨rfl, rfl, fun _ τ hb ht hτ => R.bin (evt (hτ 29 _ rfl)) (show ev _ _ (.const (.int .u8 0)) = some (.u8 0) from rfl) rfl trivial ht⟩,
          ⟨⟨rfl, rfl, fun _ τ hb ht hτ => R.asg (evt (hτ 30 _ rfl)) rfl ht⟩,
          trivial⟩⟩⟩⟩, rfl, rfl, rfl⟩)
        rfl (bx' := []) rfl (n' := 65) rfl (⟨[0, 5, 7, 8, 27], [(0, _), (5, _), (7, _), (8, _), (27, _)], [], 65, rfl, rfl, rfl, ?_⟩)
      refine W.condF rfl (many_F hm) ?_
      refine W.seq ?_
      refine W.line (n := 3) (by decide) (its := [⟨42, _, true⟩, ⟨43, _, true⟩, ⟨41, _, true⟩]) (ks := []) (kk := []) (live := [5, 7, 8, 41]) (env' := [(5, _), (7, _), (8, _), (41, _)])
        (⟨Nat.le_of_ble_eq_true rfl, rfl,
          ⟨⟨rfl, rfl, fun _ τ hb ht hτ => R.mov (evt (hτ 0 _ rfl)) rfl ht⟩,
          ⟨⟨rfl, rfl, fun _ τ hb ht hτ => R.bin (evt (hτ 42 _ rfl)) (show ev _ _ (.const (.int .i8 0)) = some (.ik .i8 0) from rfl) rfl rfl ht⟩,
          ⟨⟨rfl, rfl, fun _ τ hb ht hτ => R.asg (evt (hτ 43 _ rfl)) rfl ht⟩,
          trivial⟩⟩⟩, rfl, rfl, rfl⟩)
        rfl (bx' := []) rfl (n' := 65) rfl (⟨[5, 7, 8, 41], [(5, _), (7, _), (8, _), (41, _)], [], 65, rfl, rfl, rfl, ?_⟩)
      refine W.condF rfl (decide_eq_false (by omega)) ?_
      refine W.skip ?_
      refine W.seq ?_
      refine W.line (n := 12) (by decide) (its := [⟨54, _, true⟩, ⟨55, _, true⟩, ⟨56, _, true⟩, ⟨57, _, true⟩, ⟨58, _, true⟩, ⟨59, _, true⟩, ⟨60, _, true⟩, ⟨61, _, true⟩, ⟨62, _, true⟩, ⟨63, _, true⟩, ⟨64, _, true⟩, ⟨4, _, true⟩]) (ks := []) (kk := []) (live := [4]) (env' := [(4, _)])
        (⟨Nat.le_of_ble_eq_true rfl, rfl,
          ⟨⟨rfl, rfl, fun _ τ hb ht hτ => R.mov (evt (hτ 8 _ rfl)) rfl ht⟩,
          ⟨⟨rfl, rfl, fun _ τ hb ht hτ => R.eqlN (0) (0) (evt (hτ 54 _ rfl)) (show ev _ _ (.const (.int .i64 0)) = some (.int ((0 : Nat) : Int)) from rfl) ht⟩,
          ⟨⟨rfl, rfl, fun _ τ hb ht hτ => R.mov (evt (hτ 55 _ rfl)) rfl ht⟩,
          ⟨⟨rfl, ⟨_, 56, rfl, rfl, .inl ⟨_, rfl, gw (v := true) (rfl) rfl⟩⟩, fun _ τ hb ht hτ => R.mov (evt (hτ 7 _ rfl)) rfl ht⟩,
          ⟨⟨rfl, ⟨_, 56, rfl, rfl, .inl ⟨_, rfl, gw (v := true) (rfl) rfl⟩⟩, fun _ τ hb ht hτ => R.lenE (SC.sl (hτ 57 _ rfl)) (List.length_map _) ht⟩,
          ⟨⟨rfl, ⟨_, 56, rfl, rfl, .inl ⟨_, rfl, gw (v := true) (rfl) rfl⟩⟩, fun _ τ hb ht hτ => R.mov (evt (hτ 5 _ rfl)) rfl ht⟩,
          ⟨⟨rfl, ⟨_, 56, rfl, rfl, .inl ⟨_, rfl, gw (v := true) (rfl) rfl⟩⟩, fun _ τ hb ht hτ => R.eqlN ((cutI (List.replicate (80 * n + more.toNat % 80) 0) n).length) (n) (evt (hτ 58 _ rfl)) (evt (hτ 59 _ rfl)) ht⟩,
          ⟨⟨rfl, rfl, fun _ τ hb ht hτ => R.pickT (evt (hτ 56 _ rfl)) (rfl) (evt (hτ 60 _ rfl)) rfl ht⟩,
          ⟨⟨rfl, rfl, fun _ τ hb ht hτ => R.mov (evt (hτ 61 _ rfl)) rfl ht⟩,
          ⟨⟨rfl, ⟨_, 62, rfl, rfl, .inl ⟨_, rfl, gw (v := true) (decide_eq_true (cutI_len _ _)) rfl⟩⟩, fun _ τ hb ht hτ => R.callG hC (works_ok) Bors.nil (FrsR.one (.bool _)) ht⟩,
          ⟨⟨rfl, rfl, fun _ τ hb ht hτ => R.pickT (evt (hτ 62 _ rfl)) (decide_eq_true (cutI_len _ _)) (evt (hτ 63 _ rfl)) rfl ht⟩,
          ⟨⟨rfl, rfl, fun _ τ hb ht hτ => R.asg (evt (hτ 64 _ rfl)) rfl ht⟩,
          trivial⟩⟩⟩⟩⟩⟩⟩⟩⟩⟩⟩⟩, rfl, rfl, rfl⟩)
        rfl (bx' := []) rfl (n' := 65) rfl (⟨[4], [(4, _)], [], 65, rfl, rfl, rfl, ?_⟩)
      refine W.ret ?_
      exact Ends.one' (.inr rfl) rfl (rfl) rfl rfl trivial
  · refine W.line (n := 7) (by decide) (its := [⟨23, _, true⟩, ⟨24, _, true⟩, ⟨22, _, true⟩, ⟨25, _, true⟩, ⟨26, _, true⟩, ⟨7, _, true⟩, ⟨8, _, true⟩]) (ks := []) (kk := []) (live := [0, 1, 5, 7, 8]) (env' := [(0, _), (1, _), (5, _), (7, _), (8, _)])
      (⟨Nat.le_of_ble_eq_true rfl, rfl,
        ⟨⟨rfl, rfl, fun _ τ hb ht hτ => R.al (hτ 6 _ rfl) ht (by decide)⟩,
        ⟨⟨rfl, rfl, fun _ τ hb ht hτ => R.callZ (r' := .tup [.sl none 68 (([] : List HdS).map hdrD), .int ((5 : Nat) : Int)]) (cut_ok (List.replicate (80 * n + more.toNat % 80) 0) (by simp only [List.length_replicate]; omega)) hC (Bors.cons (Bor.sc (SC.al (hτ 23 _ rfl) (hτ 6 _ rfl)) (by simp [D.brw])) Bors.nil) (FrsR.two (frs_hdrs _ _ _) (.int _)) (zcut (many_1 n _ hm)) ht⟩,
        ⟨⟨rfl, rfl, fun _ τ hb ht hτ => R.movT (hτ 24 _ rfl) rfl ht⟩,
        ⟨⟨rfl, rfl, fun _ τ hb ht hτ => R.ext (hτ 22 _ rfl) rfl rfl ht⟩,
        ⟨⟨rfl, rfl, fun _ τ hb ht hτ => R.ext (hτ 22 _ rfl) rfl rfl ht⟩,
        ⟨⟨rfl, rfl, fun _ τ hb ht hτ => R.asg (evt (hτ 25 _ rfl)) rfl ht⟩,
        ⟨⟨rfl, rfl, fun _ τ hb ht hτ => R.asg (evt (hτ 26 _ rfl)) rfl ht⟩,
        trivial⟩⟩⟩⟩⟩⟩⟩, rfl, rfl, rfl⟩)
      rfl (bx' := []) rfl (n' := 65) rfl (⟨[0, 1, 5, 7, 8], [(0, _), (1, _), (5, _), (7, _), (8, _)], [], 65, rfl, rfl, rfl, ?_⟩)
    refine W.seq ?_
    refine W.block ?_
    refine W.seq ?_
    refine W.line (n := 4) (by decide) (its := [⟨28, _, true⟩, ⟨29, _, true⟩, ⟨30, _, true⟩, ⟨27, _, true⟩]) (ks := []) (kk := []) (live := [0, 5, 7, 8, 27]) (env' := [(0, _), (5, _), (7, _), (8, _), (27, _)])
      (⟨Nat.le_of_ble_eq_true rfl, rfl,
        ⟨⟨rfl, rfl, fun _ τ hb ht hτ => R.mov (evt (hτ 1 _ rfl)) rfl ht⟩,
        ⟨⟨rfl, rfl, fun _ τ hb ht hτ => R.bin (evt (hτ 28 _ rfl)) (show ev _ _ (.const (.int .u8 80)) = some (.u8 80) from rfl) rfl (by decide) ht⟩,
        ⟨⟨rfl, rfl, fun _ τ hb ht hτ => R.bin (evt (hτ 29 _ rfl)) (show ev _ _ (.const (.int .u8 0)) = some (.u8 0) from rfl) rfl trivial ht⟩,
        ⟨⟨rfl, rfl, fun _ τ hb ht hτ => R.asg (evt (hτ 30 _ rfl)) rfl ht⟩,
        trivial⟩⟩⟩⟩, rfl, rfl, rfl⟩)
      rfl (bx' := []) rfl (n' := 65) rfl (⟨[0, 5, 7, 8, 27], [(0, _), (5, _), (7, _), (8, _), (27, _)], [], 65, rfl, rfl, rfl, ?_⟩)
    refine W.condT rfl (many_T hm) ?_
    refine W.seq ?_
    refine W.line (n := 11) (by decide) (its := [⟨31, _, true⟩, ⟨32, _, true⟩, ⟨33, _, true⟩, ⟨34, _, true⟩, ⟨35, _, true⟩, ⟨36, _, true⟩, ⟨37, _, true⟩, ⟨38, _, true⟩, ⟨39, _, true⟩, ⟨40, _, true⟩, ⟨4, _, true⟩]) (ks := []) (kk := []) (live := [4]) (env' := [(4, _)])
      (⟨Nat.le_of_ble_eq_true rfl, rfl,
        ⟨⟨rfl, rfl, fun _ τ hb ht hτ => R.mov (evt (hτ 8 _ rfl)) rfl ht⟩,
        ⟨⟨rfl, rfl, fun _ τ hb ht hτ => R.eqlN (5) (5) (evt (hτ 31 _ rfl)) (show ev _ _ (.const (.int .i64 5)) = some (.int ((5 : Nat) : Int)) from rfl) ht⟩,
        ⟨⟨rfl, rfl, fun _ τ hb ht hτ => R.mov (evt (hτ 32 _ rfl)) rfl ht⟩,
        ⟨⟨rfl, ⟨_, 33, rfl, rfl, .inl ⟨_, rfl, gw (v := true) (rfl) rfl⟩⟩, fun _ τ hb ht hτ => R.mov (evt (hτ 7 _ rfl)) rfl ht⟩,
        ⟨⟨rfl, ⟨_, 33, rfl, rfl, .inl ⟨_, rfl, gw (v := true) (rfl) rfl⟩⟩, fun _ τ hb ht hτ => R.lenE (SC.sl (hτ 34 _ rfl)) (List.length_map _) ht⟩,
        ⟨⟨rfl, ⟨_, 33, rfl, rfl, .inl ⟨_, rfl, gw (v := true) (rfl) rfl⟩⟩, fun _ τ hb ht hτ => R.eqlN (([] : List HdS).length) (0) (evt (hτ 35 _ rfl)) (show ev _ _ (.const (.int .i64 0)) = some (.int ((0 : Nat) : Int)) from rfl) ht⟩,
        ⟨⟨rfl, rfl, fun _ τ hb ht hτ => R.pickT (evt (hτ 33 _ rfl)) (rfl) (evt (hτ 36 _ rfl)) rfl ht⟩,
        ⟨⟨rfl, rfl, fun _ τ hb ht hτ => R.mov (evt (hτ 37 _ rfl)) rfl ht⟩,
        ⟨⟨rfl, ⟨_, 38, rfl, rfl, .inl ⟨_, rfl, gw (v := true) (rfl) rfl⟩⟩, fun _ τ hb ht hτ => R.callG hC (works_ok) Bors.nil (FrsR.one (.bool _)) ht⟩,
        ⟨⟨rfl, rfl, fun _ τ hb ht hτ => R.pickT (evt (hτ 38 _ rfl)) (rfl) (evt (hτ 39 _ rfl)) rfl ht⟩,
        ⟨⟨rfl, rfl, fun _ τ hb ht hτ => R.asg (evt (hτ 40 _ rfl)) rfl ht⟩,
        trivial⟩⟩⟩⟩⟩⟩⟩⟩⟩⟩⟩, rfl, rfl, rfl⟩)
      rfl (bx' := []) rfl (n' := 65) rfl (⟨[4], [(4, _)], [], 65, rfl, rfl, rfl, ?_⟩)
    refine W.ret ?_
    exact Ends.one' (.inr rfl) rfl (rfl) rfl rfl trivial

end Go.Sx
