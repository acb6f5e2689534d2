/- Proved: what functions of the given program compute (used by the theorem of this claim). Conditions: none but those that each theorem states. -/
import Derived.Test.YtggoegenobhanaaDoorHd12
set_option linter.unusedVariables false
set_option linter.unusedSimpArgs false
set_option linter.unnecessarySimpa false

namespace Go.Sx
open Go.Proofs
theorem back_ok (h : HdS) (hw : h.wf) (other : HdS) (ho : other.wf) (l : List HdS) (hl : allW l) (b : List UInt8) (hl0 : l.length ≤ 140737488355328) (hb0 : b.length ≤ 140737488355328) : Fn Tryd.prog gl 8 [hdrD h, hdrD other, .sl none 68 (l.map hdrD), .sl none 1 (b.map D.u8)] (.bool true) := by
  refine Fn.of (n := 103) Tryd.func8 rfl rfl rfl (Nat.le_of_ble_eq_true rfl) fun C hC hD => ?_
  have hpl := putS_len h hw
  refine W.seq ?_
  refine W.line (n := 3) (by decide) (its := []) (ks := []) (kk := []) (live := [0, 1, 2, 3]) (env' := [(0, _), (1, _), (2, _), (3, _)])
    (⟨Nat.le_of_ble_eq_true rfl, rfl,
      trivial, rfl, rfl, rfl⟩)
    rfl (bx' := []) rfl (n' := 103) rfl (⟨rfl, _, R.box (evt (show Sg.get _ 0 = some _ from rfl)) rfl rfl (Nat.le_of_ble_eq_true rfl), ⟨rfl, _, R.box (evt (show Sg.get _ 1 = some _ from rfl)) rfl rfl (Nat.le_of_ble_eq_true rfl), ⟨rfl, _, R.asg (show ev _ _ (.const (.bool false)) = some (.bool false) from rfl) rfl (Nat.le_of_ble_eq_true rfl), ⟨[2, 3, 4, 5], [(2, _), (3, _), (4, _), (5, _)], [(5, .var _), (4, .var _)], 103, rfl, rfl, rfl, ?_⟩⟩⟩⟩)
  refine W.seq ?_
  refine W.seq ?_
  by_cases h1 : 100 < l.length
  · refine W.line (n := 8) (by decide) (its := [⟨13, _, true⟩, ⟨14, _, true⟩, ⟨15, _, true⟩, ⟨16, _, true⟩, ⟨17, .dead, false⟩, ⟨18, .dead, false⟩, ⟨19, .dead, false⟩, ⟨20, _, true⟩]) (ks := []) (kk := []) (live := [2, 3, 4, 5, 20]) (env' := [(2, _), (3, _), (4, _), (5, _), (20, _)])
      (⟨Nat.le_of_ble_eq_true rfl, rfl,
        ⟨⟨rfl, rfl, fun _ τ hb ht hτ => R.mov (evt (hτ 2 _ rfl)) rfl ht⟩,
        ⟨⟨rfl, rfl, fun _ τ hb ht hτ => R.lenE (SC.sl (hτ 13 _ rfl)) (List.length_map _) ht⟩,
        ⟨⟨rfl, rfl, fun _ τ hb ht hτ => R.gtrN (l.length) (100) (evt (hτ 14 _ rfl)) (show ev _ _ (.const (.int .i64 100)) = some (.int ((100 : Nat) : Int)) from rfl) ht⟩,
        ⟨⟨rfl, rfl, fun _ τ hb ht hτ => R.mov (evt (hτ 15 _ rfl)) rfl ht⟩,
        ⟨⟨rfl, ⟨_, 16, rfl, rfl, .inl ⟨_, rfl, gw (v := true) (decide_eq_true h1) rfl⟩⟩, fun h => absurd h (by decide)⟩,
        ⟨⟨rfl, ⟨_, 16, rfl, rfl, .inl ⟨_, rfl, gw (v := true) (decide_eq_true h1) rfl⟩⟩, fun h => absurd h (by decide)⟩,
        ⟨⟨rfl, ⟨_, 16, rfl, rfl, .inl ⟨_, rfl, gw (v := true) (decide_eq_true h1) rfl⟩⟩, fun h => absurd h (by decide)⟩,
        ⟨⟨rfl, rfl, fun _ τ hb ht hτ => R.pickT (evt (hτ 16 _ rfl)) (decide_eq_true h1) (show ev _ _ (.const (.bool true)) = some (.bool true) from rfl) rfl ht⟩,
        trivial⟩⟩⟩⟩⟩⟩⟩⟩, rfl, rfl, rfl⟩)
      rfl (bx' := [(5, .var _), (4, .var _)]) rfl (n' := 103) rfl (⟨[2, 3, 4, 5, 20], [(2, _), (3, _), (4, _), (5, _), (20, _)], [(5, .var _), (4, .var _)], 103, rfl, rfl, rfl, ?_⟩)
    refine W.condT rfl (rfl) ?_
    refine W.seq ?_
    refine W.line (n := 2) (by decide) (its := [⟨21, _, true⟩, ⟨8, _, true⟩]) (ks := []) (kk := []) (live := [8]) (env' := [(8, _)])
      (⟨Nat.le_of_ble_eq_true rfl, rfl,
        ⟨⟨rfl, rfl, fun _ τ hb ht hτ => R.callG hC (works_ok) Bors.nil (FrsR.one (.bool _)) ht⟩,
        ⟨⟨rfl, rfl, fun _ τ hb ht hτ => R.asg (evt (hτ 21 _ rfl)) rfl ht⟩,
        trivial⟩⟩, rfl, rfl, rfl⟩)
      rfl (bx' := [(5, .var _), (4, .var _)]) rfl (n' := 103) rfl (⟨[8], [(8, _)], [(5, .var _), (4, .var _)], 103, rfl, rfl, rfl, ?_⟩)
    refine W.ret ?_
    exact Ends.one' (.inr rfl) rfl (rfl) rfl rfl trivial
  · refine W.line (n := 8) (by decide) (its := [⟨13, _, true⟩, ⟨14, _, true⟩, ⟨15, _, true⟩, ⟨16, _, true⟩, ⟨17, _, true⟩, ⟨18, _, true⟩, ⟨19, _, true⟩, ⟨20, _, true⟩]) (ks := []) (kk := []) (live := [2, 3, 4, 5, 20]) (env' := [(2, _), (3, _), (4, _), (5, _), (20, _)])
      (⟨Nat.le_of_ble_eq_true rfl, rfl,
        ⟨⟨rfl, rfl, fun _ τ hb ht hτ => R.mov (evt (hτ 2 _ rfl)) rfl ht⟩,
        ⟨⟨rfl, rfl, fun _ τ hb ht hτ => R.lenE (SC.sl (hτ 13 _ rfl)) (List.length_map _) ht⟩,
        ⟨⟨rfl, rfl, fun _ τ hb ht hτ => R.gtrN (l.length) (100) (evt (hτ 14 _ rfl)) (show ev _ _ (.const (.int .i64 100)) = some (.int ((100 : Nat) : Int)) from rfl) ht⟩,
        ⟨⟨rfl, rfl, fun _ τ hb ht hτ => R.mov (evt (hτ 15 _ rfl)) rfl ht⟩,
        ⟨⟨rfl, ⟨_, 16, rfl, rfl, .inl ⟨_, rfl, gw (v := false) (decide_eq_false h1) rfl⟩⟩, fun _ τ hb ht hτ => R.mov (evt (hτ 2 _ rfl)) rfl ht⟩,
        ⟨⟨rfl, ⟨_, 16, rfl, rfl, .inl ⟨_, rfl, gw (v := false) (decide_eq_false h1) rfl⟩⟩, fun _ τ hb ht hτ => R.mov (evt (hτ 3 _ rfl)) rfl ht⟩,
        ⟨⟨rfl, ⟨_, 16, rfl, rfl, .inl ⟨_, rfl, gw (v := false) (decide_eq_false h1) rfl⟩⟩, fun _ τ hb ht hτ => R.callG hC (heavy_ok l b hl0 hb0) (Bors.cons (Bor.pur (evt (hτ 17 _ rfl)) rfl rfl) (Bors.cons (Bor.pur (evt (hτ 18 _ rfl)) rfl rfl) Bors.nil)) (FrsR.one (.bool _)) ht⟩,
        ⟨⟨rfl, rfl, fun _ τ hb ht hτ => R.pickF (evt (hτ 16 _ rfl)) (decide_eq_false h1) (evt (hτ 19 _ rfl)) rfl ht⟩,
        trivial⟩⟩⟩⟩⟩⟩⟩⟩, rfl, rfl, rfl⟩)
      rfl (bx' := [(5, .var _), (4, .var _)]) rfl (n' := 103) rfl (⟨[2, 3, 4, 5, 20], [(2, _), (3, _), (4, _), (5, _), (20, _)], [(5, .var _), (4, .var _)], 103, rfl, rfl, rfl, ?_⟩)
    refine W.cond rfl (fun hc20 => ?_) (fun hc20 => ?_)
    · refine W.seq ?_
      refine W.line (n := 2) (by decide) (its := [⟨21, _, true⟩, ⟨8, _, true⟩]) (ks := []) (kk := []) (live := [8]) (env' := [(8, _)])
        (⟨Nat.le_of_ble_eq_true rfl, rfl,
          ⟨⟨rfl, rfl, fun _ τ hb ht hτ => R.callG hC (works_ok) Bors.nil (FrsR.one (.bool _)) ht⟩,
          ⟨⟨rfl, rfl, fun _ τ hb ht hτ => R.asg (evt (hτ 21 _ rfl)) rfl ht⟩,
          trivial⟩⟩, rfl, rfl, rfl⟩)
        rfl (bx' := [(5, .var _), (4, .var _)]) rfl (n' := 103) rfl (⟨[8], [(8, _)], [(5, .var _), (4, .var _)], 103, rfl, rfl, rfl, ?_⟩)
      refine W.ret ?_
      exact Ends.one' (.inr rfl) rfl (rfl) rfl rfl trivial
    · refine W.skip ?_
      refine W.seq ?_
      have hh := heavy_l hc20
      have hll := hh.1
      have hbb := hh.2
      refine W.line (n := 9) (by decide) (its := [⟨23, _, true⟩, ⟨24, _, true⟩, ⟨25, _, true⟩, ⟨22, _, true⟩, ⟨26, _, true⟩, ⟨27, _, true⟩]) (ks := []) (kk := []) (live := [2, 3, 4, 5, 26, 27]) (env' := [(2, _), (3, _), (4, _), (5, _), (26, _), (27, _)])
        (⟨Nat.le_of_ble_eq_true rfl, rfl,
          ⟨⟨rfl, rfl, fun _ τ hb ht hτ => R.ldP (hτ 4 _ rfl) (hb 4 _ rfl) rfl rfl rfl rfl ht⟩,
          ⟨⟨rfl, rfl, fun _ τ hb ht hτ => R.callG hC (put_ok h hw) (Bors.cons (Bor.pur (evt (hτ 23 _ rfl)) rfl rfl) Bors.nil) (FrsR.one (.sl _ _ _ (frs_map fun _ => .u8 _))) ht⟩,
          ⟨⟨rfl, rfl, fun _ τ hb ht hτ => R.callZ (r' := .tup [hdrD h, .int ((0 : Nat) : Int)]) (get_ok (putS h) (by rw [hpl]; decide)) hC (Bors.cons (Bor.sc (SC.sl (hτ 24 _ rfl)) (brw_map (fun _ => rfl))) Bors.nil) (FrsR.two (frs_hdr _) (.int _)) (zget (get_put h hw)) ht⟩,
          ⟨⟨rfl, rfl, fun _ τ hb ht hτ => R.movT (hτ 25 _ rfl) rfl ht⟩,
          ⟨⟨rfl, rfl, fun _ τ hb ht hτ => R.ext (hτ 22 _ rfl) rfl rfl ht⟩,
          ⟨⟨rfl, rfl, fun _ τ hb ht hτ => R.ext (hτ 22 _ rfl) rfl rfl ht⟩,
          trivial⟩⟩⟩⟩⟩⟩, rfl, rfl, rfl⟩)
        rfl (bx' := [(5, .var _), (4, .var _)]) rfl (n' := 103) rfl (⟨rfl, _, R.alloc rfl (Nat.le_of_ble_eq_true rfl), ⟨rfl, _, R.stZ (show Sg.get _ 9 = some _ from rfl) (show Sg.box _ 9 = some _ from rfl) rfl (evt (show Sg.get _ 26 = some _ from rfl)) (by rfl) (by rfl) (by rfl) (by rfl) rfl, ⟨rfl, _, R.asg (evt (show Sg.get _ 27 = some _ from rfl)) rfl (Nat.le_of_ble_eq_true rfl), ⟨[2, 3, 4, 5, 9, 10], [(2, _), (3, _), (4, _), (5, _), (9, _), (10, _)], [(9, .var _), (5, .var _), (4, .var _)], 103, rfl, rfl, rfl, ?_⟩⟩⟩⟩)
      refine W.seq ?_
      refine W.seq ?_
      refine W.draw (m := 20) (an := [0, 0, 3, 7, 15, 31, 63, 127, 255, 511, 1023, 255, 3071, 7167, 16383, 255, 255, 98559, 262143, 524287]) hP (by decide) rfl (its := [⟨28, _, true⟩, ⟨29, _, true⟩, ⟨30, _, true⟩, ⟨31, _, true⟩, ⟨32, _, true⟩, ⟨33, _, true⟩, ⟨34, _, true⟩, ⟨35, _, true⟩, ⟨36, _, true⟩, ⟨37, _, true⟩, ⟨38, _, true⟩, ⟨39, _, true⟩, ⟨40, _, true⟩, ⟨41, _, true⟩, ⟨42, _, true⟩, ⟨43, _, true⟩, ⟨44, _, true⟩, ⟨45, _, true⟩, ⟨46, _, true⟩, ⟨47, _, true⟩]) (ks := []) (kk := []) (live := [2, 3, 47]) (env' := [(2, _), (3, _), (47, _)])
        (⟨Nat.le_of_ble_eq_true rfl, rfl,
          ⟨⟨rfl, rfl, fun _ τ hb ht hτ => R.ldP (hτ 9 _ rfl) (hb 9 _ rfl) rfl rfl rfl rfl ht⟩,
          ⟨⟨rfl, rfl, fun _ τ hb ht hτ => R.ldP (hτ 4 _ rfl) (hb 4 _ rfl) rfl rfl rfl rfl ht⟩,
          ⟨⟨rfl, rfl, fun _ τ hb ht hτ => R.eqD (neg := true) (b' := (h != h)) (eqv_hdr _ _) rfl (evt (hτ 28 _ rfl)) (evt (hτ 29 _ rfl)) rfl rfl rfl rfl (rfl) ht⟩,
          ⟨⟨rfl, rfl, fun _ τ hb ht hτ => R.mov (evt (hτ 30 _ rfl)) rfl ht⟩,
          ⟨⟨rfl, ⟨_, 31, rfl, rfl, .inl ⟨_, rfl, gw (v := false) (bne_self_eq_false _) rfl⟩⟩, fun _ τ hb ht hτ => R.mov (evt (hτ 10 _ rfl)) rfl ht⟩,
          ⟨⟨rfl, ⟨_, 31, rfl, rfl, .inl ⟨_, rfl, gw (v := false) (bne_self_eq_false _) rfl⟩⟩, fun _ τ hb ht hτ => R.neqN (0) (0) (evt (hτ 32 _ rfl)) (show ev _ _ (.const (.int .i64 0)) = some (.int ((0 : Nat) : Int)) from rfl) ht⟩,
          ⟨⟨rfl, rfl, fun _ τ hb ht hτ => R.pickF (evt (hτ 31 _ rfl)) (bne_self_eq_false _) (evt (hτ 33 _ rfl)) rfl ht⟩,
          ⟨⟨rfl, rfl, fun _ τ hb ht hτ => R.mov (evt (hτ 34 _ rfl)) rfl ht⟩,
          ⟨⟨rfl, ⟨_, 35, rfl, rfl, .inl ⟨_, rfl, gw (v := false) (rfl) rfl⟩⟩, fun _ τ hb ht hτ => R.ldP (hτ 4 _ rfl) (hb 4 _ rfl) rfl rfl rfl rfl ht⟩,
          ⟨⟨rfl, ⟨_, 35, rfl, rfl, .inl ⟨_, rfl, gw (v := false) (rfl) rfl⟩⟩, fun _ τ hb ht hτ => R.callG hC (put_ok h hw) (Bors.cons (Bor.pur (evt (hτ 36 _ rfl)) rfl rfl) Bors.nil) (FrsR.one (.sl _ _ _ (frs_map fun _ => .u8 _))) ht⟩,
          ⟨⟨rfl, ⟨_, 35, rfl, rfl, .inl ⟨_, rfl, gw (v := false) (rfl) rfl⟩⟩, fun _ τ hb ht hτ => R.cvS (xs := (putS h)) (SC.sl (hτ 37 _ rfl)) ht⟩,
          ⟨⟨rfl, ⟨_, 35, rfl, rfl, .inl ⟨_, rfl, gw (v := false) (rfl) rfl⟩⟩, fun _ τ hb ht hτ => R.ldP (hτ 5 _ rfl) (hb 5 _ rfl) rfl rfl rfl rfl ht⟩,
          ⟨⟨rfl, ⟨_, 35, rfl, rfl, .inl ⟨_, rfl, gw (v := false) (rfl) rfl⟩⟩, fun _ τ hb ht hτ => R.callG hC (put_ok other ho) (Bors.cons (Bor.pur (evt (hτ 39 _ rfl)) rfl rfl) Bors.nil) (FrsR.one (.sl _ _ _ (frs_map fun _ => .u8 _))) ht⟩,
          ⟨⟨rfl, ⟨_, 35, rfl, rfl, .inl ⟨_, rfl, gw (v := false) (rfl) rfl⟩⟩, fun _ τ hb ht hτ => R.cvS (xs := (putS other)) (SC.sl (hτ 40 _ rfl)) ht⟩,
          ⟨⟨rfl, ⟨_, 35, rfl, rfl, .inl ⟨_, rfl, gw (v := false) (rfl) rfl⟩⟩, fun _ τ hb ht hτ => R.bin (evt (hτ 38 _ rfl)) (evt (hτ 41 _ rfl)) rfl trivial ht⟩,
          ⟨⟨rfl, ⟨_, 35, rfl, rfl, .inl ⟨_, rfl, gw (v := false) (rfl) rfl⟩⟩, fun _ τ hb ht hτ => R.ldP (hτ 4 _ rfl) (hb 4 _ rfl) rfl rfl rfl rfl ht⟩,
          ⟨⟨rfl, ⟨_, 35, rfl, rfl, .inl ⟨_, rfl, gw (v := false) (rfl) rfl⟩⟩, fun _ τ hb ht hτ => R.ldP (hτ 5 _ rfl) (hb 5 _ rfl) rfl rfl rfl rfl ht⟩,
          ⟨⟨rfl, ⟨_, 35, rfl, rfl, .inl ⟨_, rfl, gw (v := false) (rfl) rfl⟩⟩, fun _ τ hb ht hτ => R.eqD (neg := false) (b' := (h == other)) (eqv_hdr _ _) rfl (evt (hτ 43 _ rfl)) (evt (hτ 44 _ rfl)) rfl rfl rfl rfl (rfl) ht⟩,
          ⟨⟨rfl, ⟨_, 35, rfl, rfl, .inl ⟨_, rfl, gw (v := false) (rfl) rfl⟩⟩, fun _ τ hb ht hτ => R.neB (evt (hτ 42 _ rfl)) (evt (hτ 45 _ rfl)) ht⟩,
          ⟨⟨rfl, rfl, fun _ τ hb ht hτ => R.pickF (evt (hτ 35 _ rfl)) (rfl) (evt (hτ 46 _ rfl)) rfl ht⟩,
          trivial⟩⟩⟩⟩⟩⟩⟩⟩⟩⟩⟩⟩⟩⟩⟩⟩⟩⟩⟩⟩, rfl, rfl, rfl⟩)
        rfl (bx' := [(9, .var _), (5, .var _), (4, .var _)]) rfl (n' := 103) rfl (⟨[2, 3, 47], [(2, _), (3, _), (47, _)], [(9, .var _), (5, .var _), (4, .var _)], 103, rfl, rfl, rfl, ?_⟩)
      refine W.condF rfl (put_inj h other hw ho) ?_
      refine W.skip ?_
      refine W.seq ?_
      by_cases h80 : b.length = 80
      · refine W.line (n := 8) (by decide) (its := [⟨49, _, true⟩, ⟨50, _, true⟩, ⟨48, _, true⟩, ⟨51, _, true⟩, ⟨52, _, true⟩]) (ks := []) (kk := []) (live := [2, 3, 51, 52]) (env' := [(2, _), (3, _), (51, _), (52, _)])
          (⟨Nat.le_of_ble_eq_true rfl, rfl,
            ⟨⟨rfl, rfl, fun _ τ hb ht hτ => R.mov (evt (hτ 3 _ rfl)) rfl ht⟩,
            ⟨⟨rfl, rfl, fun _ τ hb ht hτ => R.callZ (r' := .tup [hdrD (hd80 b), .int ((0 : Nat) : Int)]) (get_ok b (by omega)) hC (Bors.cons (Bor.pur (evt (hτ 49 _ rfl)) rfl rfl) Bors.nil) (FrsR.two (frs_hdr _) (.int _)) (zget (get_80 h80)) ht⟩,
            ⟨⟨rfl, rfl, fun _ τ hb ht hτ => R.movT (hτ 50 _ rfl) rfl ht⟩,
            ⟨⟨rfl, rfl, fun _ τ hb ht hτ => R.ext (hτ 48 _ rfl) rfl rfl ht⟩,
            ⟨⟨rfl, rfl, fun _ τ hb ht hτ => R.ext (hτ 48 _ rfl) rfl rfl ht⟩,
            trivial⟩⟩⟩⟩⟩, rfl, rfl, rfl⟩)
          rfl (bx' := [(9, .var _), (5, .var _), (4, .var _)]) rfl (n' := 103) rfl (⟨rfl, _, R.alloc rfl (Nat.le_of_ble_eq_true rfl), ⟨rfl, _, R.stZ (show Sg.get _ 11 = some _ from rfl) (show Sg.box _ 11 = some _ from rfl) rfl (evt (show Sg.get _ 51 = some _ from rfl)) (by rfl) (by rfl) (by rfl) (by rfl) rfl, ⟨rfl, _, R.asg (evt (show Sg.get _ 52 = some _ from rfl)) rfl (Nat.le_of_ble_eq_true rfl), ⟨[2, 3, 10, 11], [(2, _), (3, _), (10, _), (11, _)], [(11, .var _), (9, .var _), (5, .var _), (4, .var _)], 103, rfl, rfl, rfl, ?_⟩⟩⟩⟩)
        refine W.seq ?_
        refine W.seq ?_
        refine W.draw (m := 18) (an := [0, 1, 3, 7, 15, 31, 7, 71, 255, 511, 1023, 2047, 4095, 2047, 10239, 26623, 65535, 131071]) hP (by decide) rfl (its := [⟨53, _, true⟩, ⟨54, _, true⟩, ⟨55, _, true⟩, ⟨56, _, true⟩, ⟨57, _, true⟩, ⟨58, _, true⟩, ⟨59, _, true⟩, ⟨60, _, true⟩, ⟨61, _, true⟩, ⟨62, _, true⟩, ⟨63, _, true⟩, ⟨64, _, true⟩, ⟨65, _, true⟩, ⟨66, _, true⟩, ⟨67, _, true⟩, ⟨68, _, true⟩, ⟨69, _, true⟩, ⟨70, _, true⟩]) (ks := []) (kk := []) (live := [2, 3, 70]) (env' := [(2, _), (3, _), (70, _)])
          (⟨Nat.le_of_ble_eq_true rfl, rfl,
            ⟨⟨rfl, rfl, fun _ τ hb ht hτ => R.mov (evt (hτ 10 _ rfl)) rfl ht⟩,
            ⟨⟨rfl, rfl, fun _ τ hb ht hτ => R.eqlN (0) (0) (evt (hτ 53 _ rfl)) (show ev _ _ (.const (.int .i64 0)) = some (.int ((0 : Nat) : Int)) from rfl) ht⟩,
            ⟨⟨rfl, rfl, fun _ τ hb ht hτ => R.mov (evt (hτ 54 _ rfl)) rfl ht⟩,
            ⟨⟨rfl, ⟨_, 55, rfl, rfl, .inl ⟨_, rfl, gw (v := true) (rfl) rfl⟩⟩, fun _ τ hb ht hτ => R.ldP (hτ 11 _ rfl) (hb 11 _ rfl) rfl rfl rfl rfl ht⟩,
            ⟨⟨rfl, ⟨_, 55, rfl, rfl, .inl ⟨_, rfl, gw (v := true) (rfl) rfl⟩⟩, fun _ τ hb ht hτ => R.callG hC (put_ok (hd80 b) (hd80_wf b h80)) (Bors.cons (Bor.pur (evt (hτ 56 _ rfl)) rfl rfl) Bors.nil) (FrsR.one (.sl _ _ _ (frs_map fun _ => .u8 _))) ht⟩,
            ⟨⟨rfl, ⟨_, 55, rfl, rfl, .inl ⟨_, rfl, gw (v := true) (rfl) rfl⟩⟩, fun _ τ hb ht hτ => R.cvS (xs := (putS (hd80 b))) (SC.sl (hτ 57 _ rfl)) ht⟩,
            ⟨⟨rfl, ⟨_, 55, rfl, rfl, .inl ⟨_, rfl, gw (v := true) (rfl) rfl⟩⟩, fun _ τ hb ht hτ => R.mov (evt (hτ 3 _ rfl)) rfl ht⟩,
            ⟨⟨rfl, ⟨_, 55, rfl, rfl, .inl ⟨_, rfl, gw (v := true) (rfl) rfl⟩⟩, fun _ τ hb ht hτ => R.cvS (xs := b) (SC.sl (hτ 59 _ rfl)) ht⟩,
            ⟨⟨rfl, ⟨_, 55, rfl, rfl, .inl ⟨_, rfl, gw (v := true) (rfl) rfl⟩⟩, fun _ τ hb ht hτ => R.bin (evt (hτ 58 _ rfl)) (evt (hτ 60 _ rfl)) rfl trivial ht⟩,
            ⟨⟨rfl, rfl, fun _ τ hb ht hτ => R.pickT (evt (hτ 55 _ rfl)) (rfl) (evt (hτ 61 _ rfl)) rfl ht⟩,
            ⟨⟨rfl, rfl, fun _ τ hb ht hτ => R.mov (evt (hτ 62 _ rfl)) rfl ht⟩,
            ⟨⟨rfl, ⟨_, 63, rfl, rfl, .inl ⟨_, rfl, gw (v := false) (put_hd_ne b h80) rfl⟩⟩, fun _ τ hb ht hτ => R.mov (evt (hτ 10 _ rfl)) rfl ht⟩,
            ⟨⟨rfl, ⟨_, 63, rfl, rfl, .inl ⟨_, rfl, gw (v := false) (put_hd_ne b h80) rfl⟩⟩, fun _ τ hb ht hτ => R.eqlN (0) (0) (evt (hτ 64 _ rfl)) (show ev _ _ (.const (.int .i64 0)) = some (.int ((0 : Nat) : Int)) from rfl) ht⟩,
            ⟨⟨rfl, ⟨_, 63, rfl, rfl, .inl ⟨_, rfl, gw (v := false) (put_hd_ne b h80) rfl⟩⟩, fun _ τ hb ht hτ => R.mov (evt (hτ 3 _ rfl)) rfl ht⟩,
            ⟨⟨rfl, ⟨_, 63, rfl, rfl, .inl ⟨_, rfl, gw (v := false) (put_hd_ne b h80) rfl⟩⟩, fun _ τ hb ht hτ => R.lenE (SC.sl (hτ 66 _ rfl)) (List.length_map _) ht⟩,
            ⟨⟨rfl, ⟨_, 63, rfl, rfl, .inl ⟨_, rfl, gw (v := false) (put_hd_ne b h80) rfl⟩⟩, fun _ τ hb ht hτ => R.eqlN (b.length) (80) (evt (hτ 67 _ rfl)) (show ev _ _ (.const (.int .i64 80)) = some (.int ((80 : Nat) : Int)) from rfl) ht⟩,
            ⟨⟨rfl, ⟨_, 63, rfl, rfl, .inl ⟨_, rfl, gw (v := false) (put_hd_ne b h80) rfl⟩⟩, fun _ τ hb ht hτ => R.neB (evt (hτ 65 _ rfl)) (evt (hτ 68 _ rfl)) ht⟩,
            ⟨⟨rfl, rfl, fun _ τ hb ht hτ => R.pickF (evt (hτ 63 _ rfl)) (put_hd_ne b h80) (evt (hτ 69 _ rfl)) rfl ht⟩,
            trivial⟩⟩⟩⟩⟩⟩⟩⟩⟩⟩⟩⟩⟩⟩⟩⟩⟩⟩, rfl, rfl, rfl⟩)
          rfl (bx' := [(11, .var _), (9, .var _), (5, .var _), (4, .var _)]) rfl (n' := 103) rfl (⟨[2, 3, 70], [(2, _), (3, _), (70, _)], [(11, .var _), (9, .var _), (5, .var _), (4, .var _)], 103, rfl, rfl, rfl, ?_⟩)
        refine W.condF rfl (by rw [decide_eq_true h80]; rfl) ?_
        refine W.skip ?_
        refine W.seq ?_
        refine W.line (n := 8) (by decide) (its := [⟨72, _, true⟩, ⟨73, _, true⟩, ⟨74, _, true⟩, ⟨71, _, true⟩, ⟨75, _, true⟩, ⟨76, _, true⟩, ⟨12, _, true⟩, ⟨10, _, true⟩]) (ks := []) (kk := []) (live := [2, 3, 10, 12]) (env' := [(2, _), (3, _), (10, _), (12, _)])
          (⟨Nat.le_of_ble_eq_true rfl, rfl,
            ⟨⟨rfl, rfl, fun _ τ hb ht hτ => R.mov (evt (hτ 2 _ rfl)) rfl ht⟩,
            ⟨⟨rfl, rfl, fun _ τ hb ht hτ => R.callG hC (row_ok l hl (by omega)) (Bors.cons (Bor.pur (evt (hτ 72 _ rfl)) rfl rfl) Bors.nil) (FrsR.one (.sl _ _ _ (frs_map fun _ => .u8 _))) ht⟩,
            ⟨⟨rfl, rfl, fun _ τ hb ht hτ => R.callZ (r' := .tup [.sl none 68 (l.map hdrD), .int ((0 : Nat) : Int)]) (cut_ok (rowS l) (by rw [rowS_len l hl]; omega)) hC (Bors.cons (Bor.sc (SC.sl (hτ 73 _ rfl)) (brw_map (fun _ => rfl))) Bors.nil) (FrsR.two (frs_hdrs _ _ _) (.int _)) (zcut (cutS_row l hl (by omega))) ht⟩,
            ⟨⟨rfl, rfl, fun _ τ hb ht hτ => R.movT (hτ 74 _ rfl) rfl ht⟩,
            ⟨⟨rfl, rfl, fun _ τ hb ht hτ => R.ext (hτ 71 _ rfl) rfl rfl ht⟩,
            ⟨⟨rfl, rfl, fun _ τ hb ht hτ => R.ext (hτ 71 _ rfl) rfl rfl ht⟩,
            ⟨⟨rfl, rfl, fun _ τ hb ht hτ => R.asg (evt (hτ 75 _ rfl)) rfl ht⟩,
            ⟨⟨rfl, rfl, fun _ τ hb ht hτ => R.asg (evt (hτ 76 _ rfl)) rfl ht⟩,
            trivial⟩⟩⟩⟩⟩⟩⟩⟩, rfl, rfl, rfl⟩)
          rfl (bx' := [(11, .var _), (9, .var _), (5, .var _), (4, .var _)]) rfl (n' := 103) rfl (⟨[2, 3, 10, 12], [(2, _), (3, _), (10, _), (12, _)], [(11, .var _), (9, .var _), (5, .var _), (4, .var _)], 103, rfl, rfl, rfl, ?_⟩)
        refine W.seq ?_
        refine W.seq ?_
        refine W.line (n := 8) (by decide) (its := [⟨77, _, true⟩, ⟨78, _, true⟩, ⟨79, _, true⟩, ⟨80, _, true⟩, ⟨81, _, true⟩, ⟨82, _, true⟩, ⟨83, _, true⟩, ⟨84, _, true⟩]) (ks := []) (kk := []) (live := [3, 84]) (env' := [(3, _), (84, _)])
          (⟨Nat.le_of_ble_eq_true rfl, rfl,
            ⟨⟨rfl, rfl, fun _ τ hb ht hτ => R.mov (evt (hτ 10 _ rfl)) rfl ht⟩,
            ⟨⟨rfl, rfl, fun _ τ hb ht hτ => R.neqN (0) (0) (evt (hτ 77 _ rfl)) (show ev _ _ (.const (.int .i64 0)) = some (.int ((0 : Nat) : Int)) from rfl) ht⟩,
            ⟨⟨rfl, rfl, fun _ τ hb ht hτ => R.mov (evt (hτ 78 _ rfl)) rfl ht⟩,
            ⟨⟨rfl, ⟨_, 79, rfl, rfl, .inl ⟨_, rfl, gw (v := false) (rfl) rfl⟩⟩, fun _ τ hb ht hτ => R.mov (evt (hτ 12 _ rfl)) rfl ht⟩,
            ⟨⟨rfl, ⟨_, 79, rfl, rfl, .inl ⟨_, rfl, gw (v := false) (rfl) rfl⟩⟩, fun _ τ hb ht hτ => R.mov (evt (hτ 2 _ rfl)) rfl ht⟩,
            ⟨⟨rfl, ⟨_, 79, rfl, rfl, .inl ⟨_, rfl, gw (v := false) (rfl) rfl⟩⟩, fun _ τ hb ht hτ => R.callG hC (rsame_ok l l (by omega)) (Bors.cons (Bor.pur (evt (hτ 80 _ rfl)) rfl rfl) (Bors.cons (Bor.pur (evt (hτ 81 _ rfl)) rfl rfl) Bors.nil)) (FrsR.one (.bool _)) ht⟩,
            ⟨⟨rfl, ⟨_, 79, rfl, rfl, .inl ⟨_, rfl, gw (v := false) (rfl) rfl⟩⟩, fun _ τ hb ht hτ => R.un (evt (hτ 82 _ rfl)) rfl ht⟩,
            ⟨⟨rfl, rfl, fun _ τ hb ht hτ => R.pickF (evt (hτ 79 _ rfl)) (rfl) (evt (hτ 83 _ rfl)) rfl ht⟩,
            trivial⟩⟩⟩⟩⟩⟩⟩⟩, rfl, rfl, rfl⟩)
          rfl (bx' := [(11, .var _), (9, .var _), (5, .var _), (4, .var _)]) rfl (n' := 103) rfl (⟨[3, 84], [(3, _), (84, _)], [(11, .var _), (9, .var _), (5, .var _), (4, .var _)], 103, rfl, rfl, rfl, ?_⟩)
        refine W.condF rfl (by simp) ?_
        refine W.skip ?_
        refine W.seq ?_
        refine W.line (n := 7) (by decide) (its := [⟨86, _, true⟩, ⟨87, _, true⟩, ⟨85, _, true⟩, ⟨88, _, true⟩, ⟨89, _, true⟩, ⟨12, _, true⟩, ⟨10, _, true⟩]) (ks := []) (kk := []) (live := [3, 10, 12]) (env' := [(3, _), (10, _), (12, _)])
          (⟨Nat.le_of_ble_eq_true rfl, rfl,
            ⟨⟨rfl, rfl, fun _ τ hb ht hτ => R.mov (evt (hτ 3 _ rfl)) rfl ht⟩,
            ⟨⟨rfl, rfl, fun _ τ hb ht hτ => R.callZ (r' := .tup [.sl none 68 ((cutS b).1.map hdrD), .int (cutS b).2]) (cut_ok b (by omega)) hC (Bors.cons (Bor.pur (evt (hτ 86 _ rfl)) rfl rfl) Bors.nil) (FrsR.two (frs_hdrs _ _ _) (.int _)) (by show D.tup [_, _] = _; rw [brw_hdrs]; rfl) ht⟩,
            ⟨⟨rfl, rfl, fun _ τ hb ht hτ => R.movT (hτ 87 _ rfl) rfl ht⟩,
            ⟨⟨rfl, rfl, fun _ τ hb ht hτ => R.ext (hτ 85 _ rfl) rfl rfl ht⟩,
            ⟨⟨rfl, rfl, fun _ τ hb ht hτ => R.ext (hτ 85 _ rfl) rfl rfl ht⟩,
            ⟨⟨rfl, rfl, fun _ τ hb ht hτ => R.asg (evt (hτ 88 _ rfl)) rfl ht⟩,
            ⟨⟨rfl, rfl, fun _ τ hb ht hτ => R.asg (evt (hτ 89 _ rfl)) rfl ht⟩,
            trivial⟩⟩⟩⟩⟩⟩⟩, rfl, rfl, rfl⟩)
          rfl (bx' := [(11, .var _), (9, .var _), (5, .var _), (4, .var _)]) rfl (n' := 103) rfl (⟨[3, 10, 12], [(3, _), (10, _), (12, _)], [(11, .var _), (9, .var _), (5, .var _), (4, .var _)], 103, rfl, rfl, rfl, ?_⟩)
        refine W.seq ?_
        by_cases hz : (cutS b).2 = 0
        · refine W.draw (m := 14) (an := [0, 1, 3, 7, 15, 31, 7, 71, 255, 511, 1023, 2047, 4095, 8191]) hP (by decide) rfl (its := [⟨90, _, true⟩, ⟨91, _, true⟩, ⟨92, _, true⟩, ⟨93, _, true⟩, ⟨94, _, true⟩, ⟨95, _, true⟩, ⟨96, _, true⟩, ⟨97, _, true⟩, ⟨98, _, true⟩, ⟨99, _, true⟩, ⟨100, _, true⟩, ⟨101, _, true⟩, ⟨102, _, true⟩, ⟨8, _, true⟩]) (ks := []) (kk := []) (live := [8]) (env' := [(8, _)])
            (⟨Nat.le_of_ble_eq_true rfl, rfl,
              ⟨⟨rfl, rfl, fun _ τ hb ht hτ => R.mov (evt (hτ 10 _ rfl)) rfl ht⟩,
              ⟨⟨rfl, rfl, fun _ τ hb ht hτ => R.bin (evt (hτ 90 _ rfl)) (show ev _ _ (.const (.int .i64 0)) = some (.int ((0 : Nat) : Int)) from rfl) rfl trivial ht⟩,
              ⟨⟨rfl, rfl, fun _ τ hb ht hτ => R.mov (evt (hτ 91 _ rfl)) rfl ht⟩,
              ⟨⟨rfl, ⟨_, 92, rfl, rfl, .inl ⟨_, rfl, gw (v := false) (by rw [hz]; rfl) rfl⟩⟩, fun _ τ hb ht hτ => R.mov (evt (hτ 12 _ rfl)) rfl ht⟩,
              ⟨⟨rfl, ⟨_, 92, rfl, rfl, .inl ⟨_, rfl, gw (v := false) (by rw [hz]; rfl) rfl⟩⟩, fun _ τ hb ht hτ => R.callG hC (row_ok (cutS b).1 (cutS_wf b) (by have := cutS_len b; omega)) (Bors.cons (Bor.pur (evt (hτ 93 _ rfl)) rfl rfl) Bors.nil) (FrsR.one (.sl _ _ _ (frs_map fun _ => .u8 _))) ht⟩,
              ⟨⟨rfl, ⟨_, 92, rfl, rfl, .inl ⟨_, rfl, gw (v := false) (by rw [hz]; rfl) rfl⟩⟩, fun _ τ hb ht hτ => R.cvS (xs := (rowS (cutS b).1)) (SC.sl (hτ 94 _ rfl)) ht⟩,
              ⟨⟨rfl, ⟨_, 92, rfl, rfl, .inl ⟨_, rfl, gw (v := false) (by rw [hz]; rfl) rfl⟩⟩, fun _ τ hb ht hτ => R.mov (evt (hτ 3 _ rfl)) rfl ht⟩,
              ⟨⟨rfl, ⟨_, 92, rfl, rfl, .inl ⟨_, rfl, gw (v := false) (by rw [hz]; rfl) rfl⟩⟩, fun _ τ hb ht hτ => R.cvS (xs := b) (SC.sl (hτ 96 _ rfl)) ht⟩,
              ⟨⟨rfl, ⟨_, 92, rfl, rfl, .inl ⟨_, rfl, gw (v := false) (by rw [hz]; rfl) rfl⟩⟩, fun _ τ hb ht hτ => R.bin (evt (hτ 95 _ rfl)) (evt (hτ 97 _ rfl)) rfl trivial ht⟩,
              ⟨⟨rfl, rfl, fun _ τ hb ht hτ => R.pickF (evt (hτ 92 _ rfl)) (by rw [hz]; rfl) (evt (hτ 98 _ rfl)) rfl ht⟩,
              ⟨⟨rfl, rfl, fun _ τ hb ht hτ => R.mov (evt (hτ 99 _ rfl)) rfl ht⟩,
              ⟨⟨rfl, ⟨_, 100, rfl, rfl, .inl ⟨_, rfl, gw (v := true) (row_cut_eq b hz) rfl⟩⟩, fun _ τ hb ht hτ => R.callG hC (works_ok) Bors.nil (FrsR.one (.bool _)) ht⟩,
              ⟨⟨rfl, rfl, fun _ τ hb ht hτ => R.pickT (evt (hτ 100 _ rfl)) (row_cut_eq b hz) (evt (hτ 101 _ rfl)) rfl ht⟩,
              ⟨⟨rfl, rfl, fun _ τ hb ht hτ => R.asg (evt (hτ 102 _ rfl)) rfl ht⟩,
              trivial⟩⟩⟩⟩⟩⟩⟩⟩⟩⟩⟩⟩⟩⟩, rfl, rfl, rfl⟩)
            rfl (bx' := [(11, .var _), (9, .var _), (5, .var _), (4, .var _)]) rfl (n' := 103) rfl (⟨[8], [(8, _)], [(11, .var _), (9, .var _), (5, .var _), (4, .var _)], 103, rfl, rfl, rfl, ?_⟩)
          refine W.ret ?_
          exact Ends.one' (.inr rfl) rfl (rfl) rfl rfl trivial
        · refine W.draw (m := 14) (an := [0, 1, 3, 7, 15, 31, 7, 71, 255, 511, 1023, 2047, 4095, 8191]) hP (by decide) rfl (its := [⟨90, _, true⟩, ⟨91, _, true⟩, ⟨92, _, true⟩, ⟨93, .dead, false⟩, ⟨94, .dead, false⟩, ⟨95, .dead, false⟩, ⟨96, .dead, false⟩, ⟨97, .dead, false⟩, ⟨98, .dead, false⟩, ⟨99, _, true⟩, ⟨100, _, true⟩, ⟨101, _, true⟩, ⟨102, _, true⟩, ⟨8, _, true⟩]) (ks := []) (kk := []) (live := [8]) (env' := [(8, _)])
            (⟨Nat.le_of_ble_eq_true rfl, rfl,
              ⟨⟨rfl, rfl, fun _ τ hb ht hτ => R.mov (evt (hτ 10 _ rfl)) rfl ht⟩,
              ⟨⟨rfl, rfl, fun _ τ hb ht hτ => R.bin (evt (hτ 90 _ rfl)) (show ev _ _ (.const (.int .i64 0)) = some (.int ((0 : Nat) : Int)) from rfl) rfl trivial ht⟩,
              ⟨⟨rfl, rfl, fun _ τ hb ht hτ => R.mov (evt (hτ 91 _ rfl)) rfl ht⟩,
              ⟨⟨rfl, ⟨_, 92, rfl, rfl, .inl ⟨_, rfl, gw (v := true) (bne_iff_ne.2 hz) rfl⟩⟩, fun h => absurd h (by decide)⟩,
              ⟨⟨rfl, ⟨_, 92, rfl, rfl, .inl ⟨_, rfl, gw (v := true) (bne_iff_ne.2 hz) rfl⟩⟩, fun h => absurd h (by decide)⟩,
              ⟨⟨rfl, ⟨_, 92, rfl, rfl, .inl ⟨_, rfl, gw (v := true) (bne_iff_ne.2 hz) rfl⟩⟩, fun h => absurd h (by decide)⟩,
              ⟨⟨rfl, ⟨_, 92, rfl, rfl, .inl ⟨_, rfl, gw (v := true) (bne_iff_ne.2 hz) rfl⟩⟩, fun h => absurd h (by decide)⟩,
              ⟨⟨rfl, ⟨_, 92, rfl, rfl, .inl ⟨_, rfl, gw (v := true) (bne_iff_ne.2 hz) rfl⟩⟩, fun h => absurd h (by decide)⟩,
              ⟨⟨rfl, ⟨_, 92, rfl, rfl, .inl ⟨_, rfl, gw (v := true) (bne_iff_ne.2 hz) rfl⟩⟩, fun h => absurd h (by decide)⟩,
              ⟨⟨rfl, rfl, fun _ τ hb ht hτ => R.pickT (evt (hτ 92 _ rfl)) (bne_iff_ne.2 hz) (show ev _ _ (.const (.bool true)) = some (.bool true) from rfl) rfl ht⟩,
              ⟨⟨rfl, rfl, fun _ τ hb ht hτ => R.mov (evt (hτ 99 _ rfl)) rfl ht⟩,
              ⟨⟨rfl, ⟨_, 100, rfl, rfl, .inl ⟨_, rfl, gw (v := true) (rfl) rfl⟩⟩, fun _ τ hb ht hτ => R.callG hC (works_ok) Bors.nil (FrsR.one (.bool _)) ht⟩,
              ⟨⟨rfl, rfl, fun _ τ hb ht hτ => R.pickT (evt (hτ 100 _ rfl)) (rfl) (evt (hτ 101 _ rfl)) rfl ht⟩,
              ⟨⟨rfl, rfl, fun _ τ hb ht hτ => R.asg (evt (hτ 102 _ rfl)) rfl ht⟩,
              trivial⟩⟩⟩⟩⟩⟩⟩⟩⟩⟩⟩⟩⟩⟩, rfl, rfl, rfl⟩)
            rfl (bx' := [(11, .var _), (9, .var _), (5, .var _), (4, .var _)]) rfl (n' := 103) rfl (⟨[8], [(8, _)], [(11, .var _), (9, .var _), (5, .var _), (4, .var _)], 103, rfl, rfl, rfl, ?_⟩)
          refine W.ret ?_
          exact Ends.one' (.inr rfl) rfl (rfl) rfl rfl trivial
      · refine W.line (n := 8) (by decide) (its := [⟨49, _, true⟩, ⟨50, _, true⟩, ⟨48, _, true⟩, ⟨51, _, true⟩, ⟨52, _, true⟩]) (ks := []) (kk := []) (live := [2, 3, 51, 52]) (env' := [(2, _), (3, _), (51, _), (52, _)])
          (⟨Nat.le_of_ble_eq_true rfl, rfl,
            ⟨⟨rfl, rfl, fun _ τ hb ht hτ => R.mov (evt (hτ 3 _ rfl)) rfl ht⟩,
            ⟨⟨rfl, rfl, fun _ τ hb ht hτ => R.callZ (r' := .tup [hdrD zeroH, .int ((5 : Nat) : Int)]) (get_ok b (by omega)) hC (Bors.cons (Bor.pur (evt (hτ 49 _ rfl)) rfl rfl) Bors.nil) (FrsR.two (frs_hdr _) (.int _)) (zget (get_bad h80)) ht⟩,
            ⟨⟨rfl, rfl, fun _ τ hb ht hτ => R.movT (hτ 50 _ rfl) rfl ht⟩,
            ⟨⟨rfl, rfl, fun _ τ hb ht hτ => R.ext (hτ 48 _ rfl) rfl rfl ht⟩,
            ⟨⟨rfl, rfl, fun _ τ hb ht hτ => R.ext (hτ 48 _ rfl) rfl rfl ht⟩,
            trivial⟩⟩⟩⟩⟩, rfl, rfl, rfl⟩)
          rfl (bx' := [(9, .var _), (5, .var _), (4, .var _)]) rfl (n' := 103) rfl (⟨rfl, _, R.alloc rfl (Nat.le_of_ble_eq_true rfl), ⟨rfl, _, R.stZ (show Sg.get _ 11 = some _ from rfl) (show Sg.box _ 11 = some _ from rfl) rfl (evt (show Sg.get _ 51 = some _ from rfl)) (by rfl) (by rfl) (by rfl) (by rfl) rfl, ⟨rfl, _, R.asg (evt (show Sg.get _ 52 = some _ from rfl)) rfl (Nat.le_of_ble_eq_true rfl), ⟨[2, 3, 10, 11], [(2, _), (3, _), (10, _), (11, _)], [(11, .var _), (9, .var _), (5, .var _), (4, .var _)], 103, rfl, rfl, rfl, ?_⟩⟩⟩⟩)
        refine W.seq ?_
        refine W.seq ?_
        refine W.draw (m := 18) (an := [0, 1, 3, 7, 15, 31, 7, 71, 255, 511, 1023, 2047, 4095, 2047, 10239, 26623, 65535, 131071]) hP (by decide) rfl (its := [⟨53, _, true⟩, ⟨54, _, true⟩, ⟨55, _, true⟩, ⟨56, .dead, false⟩, ⟨57, .dead, false⟩, ⟨58, .dead, false⟩, ⟨59, .dead, false⟩, ⟨60, .dead, false⟩, ⟨61, .dead, false⟩, ⟨62, _, true⟩, ⟨63, _, true⟩, ⟨64, _, true⟩, ⟨65, _, true⟩, ⟨66, _, true⟩, ⟨67, _, true⟩, ⟨68, _, true⟩, ⟨69, _, true⟩, ⟨70, _, true⟩]) (ks := []) (kk := []) (live := [2, 3, 70]) (env' := [(2, _), (3, _), (70, _)])
          (⟨Nat.le_of_ble_eq_true rfl, rfl,
            ⟨⟨rfl, rfl, fun _ τ hb ht hτ => R.mov (evt (hτ 10 _ rfl)) rfl ht⟩,
            ⟨⟨rfl, rfl, fun _ τ hb ht hτ => R.eqlN (5) (0) (evt (hτ 53 _ rfl)) (show ev _ _ (.const (.int .i64 0)) = some (.int ((0 : Nat) : Int)) from rfl) ht⟩,
            ⟨⟨rfl, rfl, fun _ τ hb ht hτ => R.mov (evt (hτ 54 _ rfl)) rfl ht⟩,
            ⟨⟨rfl, ⟨_, 55, rfl, rfl, .inl ⟨_, rfl, gw (v := false) (rfl) rfl⟩⟩, fun h => absurd h (by decide)⟩,
            ⟨⟨rfl, ⟨_, 55, rfl, rfl, .inl ⟨_, rfl, gw (v := false) (rfl) rfl⟩⟩, fun h => absurd h (by decide)⟩,
            ⟨⟨rfl, ⟨_, 55, rfl, rfl, .inl ⟨_, rfl, gw (v := false) (rfl) rfl⟩⟩, fun h => absurd h (by decide)⟩,
            ⟨⟨rfl, ⟨_, 55, rfl, rfl, .inl ⟨_, rfl, gw (v := false) (rfl) rfl⟩⟩, fun h => absurd h (by decide)⟩,
            ⟨⟨rfl, ⟨_, 55, rfl, rfl, .inl ⟨_, rfl, gw (v := false) (rfl) rfl⟩⟩, fun h => absurd h (by decide)⟩,
            ⟨⟨rfl, ⟨_, 55, rfl, rfl, .inl ⟨_, rfl, gw (v := false) (rfl) rfl⟩⟩, fun h => absurd h (by decide)⟩,
            ⟨⟨rfl, rfl, fun _ τ hb ht hτ => R.pickF (evt (hτ 55 _ rfl)) (rfl) (show ev _ _ (.const (.bool false)) = some (.bool false) from rfl) rfl ht⟩,
            ⟨⟨rfl, rfl, fun _ τ hb ht hτ => R.mov (evt (hτ 62 _ rfl)) rfl ht⟩,
            ⟨⟨rfl, ⟨_, 63, rfl, rfl, .inl ⟨_, rfl, gw (v := false) (rfl) rfl⟩⟩, fun _ τ hb ht hτ => R.mov (evt (hτ 10 _ rfl)) rfl ht⟩,
            ⟨⟨rfl, ⟨_, 63, rfl, rfl, .inl ⟨_, rfl, gw (v := false) (rfl) rfl⟩⟩, fun _ τ hb ht hτ => R.eqlN (5) (0) (evt (hτ 64 _ rfl)) (show ev _ _ (.const (.int .i64 0)) = some (.int ((0 : Nat) : Int)) from rfl) ht⟩,
            ⟨⟨rfl, ⟨_, 63, rfl, rfl, .inl ⟨_, rfl, gw (v := false) (rfl) rfl⟩⟩, fun _ τ hb ht hτ => R.mov (evt (hτ 3 _ rfl)) rfl ht⟩,
            ⟨⟨rfl, ⟨_, 63, rfl, rfl, .inl ⟨_, rfl, gw (v := false) (rfl) rfl⟩⟩, fun _ τ hb ht hτ => R.lenE (SC.sl (hτ 66 _ rfl)) (List.length_map _) ht⟩,
            ⟨⟨rfl, ⟨_, 63, rfl, rfl, .inl ⟨_, rfl, gw (v := false) (rfl) rfl⟩⟩, fun _ τ hb ht hτ => R.eqlN (b.length) (80) (evt (hτ 67 _ rfl)) (show ev _ _ (.const (.int .i64 80)) = some (.int ((80 : Nat) : Int)) from rfl) ht⟩,
            ⟨⟨rfl, ⟨_, 63, rfl, rfl, .inl ⟨_, rfl, gw (v := false) (rfl) rfl⟩⟩, fun _ τ hb ht hτ => R.neB (evt (hτ 65 _ rfl)) (evt (hτ 68 _ rfl)) ht⟩,
            ⟨⟨rfl, rfl, fun _ τ hb ht hτ => R.pickF (evt (hτ 63 _ rfl)) (rfl) (evt (hτ 69 _ rfl)) rfl ht⟩,
            trivial⟩⟩⟩⟩⟩⟩⟩⟩⟩⟩⟩⟩⟩⟩⟩⟩⟩⟩, rfl, rfl, rfl⟩)
          rfl (bx' := [(11, .var _), (9, .var _), (5, .var _), (4, .var _)]) rfl (n' := 103) rfl (⟨[2, 3, 70], [(2, _), (3, _), (70, _)], [(11, .var _), (9, .var _), (5, .var _), (4, .var _)], 103, rfl, rfl, rfl, ?_⟩)
        refine W.condF rfl (by rw [decide_eq_false h80]; rfl) ?_
        refine W.skip ?_
        refine W.seq ?_
        refine W.line (n := 8) (by decide) (its := [⟨72, _, true⟩, ⟨73, _, true⟩, ⟨74, _, true⟩, ⟨71, _, true⟩, ⟨75, _, true⟩, ⟨76, _, true⟩, ⟨12, _, true⟩, ⟨10, _, true⟩]) (ks := []) (kk := []) (live := [2, 3, 10, 12]) (env' := [(2, _), (3, _), (10, _), (12, _)])
          (⟨Nat.le_of_ble_eq_true rfl, rfl,
            ⟨⟨rfl, rfl, fun _ τ hb ht hτ => R.mov (evt (hτ 2 _ rfl)) rfl ht⟩,
            ⟨⟨rfl, rfl, fun _ τ hb ht hτ => R.callG hC (row_ok l hl (by omega)) (Bors.cons (Bor.pur (evt (hτ 72 _ rfl)) rfl rfl) Bors.nil) (FrsR.one (.sl _ _ _ (frs_map fun _ => .u8 _))) ht⟩,
            ⟨⟨rfl, rfl, fun _ τ hb ht hτ => R.callZ (r' := .tup [.sl none 68 (l.map hdrD), .int ((0 : Nat) : Int)]) (cut_ok (rowS l) (by rw [rowS_len l hl]; omega)) hC (Bors.cons (Bor.sc (SC.sl (hτ 73 _ rfl)) (brw_map (fun _ => rfl))) Bors.nil) (FrsR.two (frs_hdrs _ _ _) (.int _)) (zcut (cutS_row l hl (by omega))) ht⟩,
            ⟨⟨rfl, rfl, fun _ τ hb ht hτ => R.movT (hτ 74 _ rfl) rfl ht⟩,
            ⟨⟨rfl, rfl, fun _ τ hb ht hτ => R.ext (hτ 71 _ rfl) rfl rfl ht⟩,
            ⟨⟨rfl, rfl, fun _ τ hb ht hτ => R.ext (hτ 71 _ rfl) rfl rfl ht⟩,
            ⟨⟨rfl, rfl, fun _ τ hb ht hτ => R.asg (evt (hτ 75 _ rfl)) rfl ht⟩,
            ⟨⟨rfl, rfl, fun _ τ hb ht hτ => R.asg (evt (hτ 76 _ rfl)) rfl ht⟩,
            trivial⟩⟩⟩⟩⟩⟩⟩⟩, rfl, rfl, rfl⟩)
          rfl (bx' := [(11, .var _), (9, .var _), (5, .var _), (4, .var _)]) rfl (n' := 103) rfl (⟨[2, 3, 10, 12], [(2, _), (3, _), (10, _), (12, _)], [(11, .var _), (9, .var _), (5, .var _), (4, .var _)], 103, rfl, rfl, rfl, ?_⟩)
        refine W.seq ?_
        refine W.seq ?_
        refine W.line (n := 8) (by decide) (its := [⟨77, _, true⟩, ⟨78, _, true⟩, ⟨79, _, true⟩, ⟨80, _, true⟩, ⟨81, _, true⟩, ⟨82, _, true⟩, ⟨83, _, true⟩, ⟨84, _, true⟩]) (ks := []) (kk := []) (live := [3, 84]) (env' := [(3, _), (84, _)])
          (⟨Nat.le_of_ble_eq_true rfl, rfl,
            ⟨⟨rfl, rfl, fun _ τ hb ht hτ => R.mov (evt (hτ 10 _ rfl)) rfl ht⟩,
            ⟨⟨rfl, rfl, fun _ τ hb ht hτ => R.neqN (0) (0) (evt (hτ 77 _ rfl)) (show ev _ _ (.const (.int .i64 0)) = some (.int ((0 : Nat) : Int)) from rfl) ht⟩,
            ⟨⟨rfl, rfl, fun _ τ hb ht hτ => R.mov (evt (hτ 78 _ rfl)) rfl ht⟩,
            ⟨⟨rfl, ⟨_, 79, rfl, rfl, .inl ⟨_, rfl, gw (v := false) (rfl) rfl⟩⟩, fun _ τ hb ht hτ => R.mov (evt (hτ 12 _ rfl)) rfl ht⟩,
            ⟨⟨rfl, ⟨_, 79, rfl, rfl, .inl ⟨_, rfl, gw (v := false) (rfl) rfl⟩⟩, fun _ τ hb ht hτ => R.mov (evt (hτ 2 _ rfl)) rfl ht⟩,
            ⟨⟨rfl, ⟨_, 79, rfl, rfl, .inl ⟨_, rfl, gw (v := false) (rfl) rfl⟩⟩, fun _ τ hb ht hτ => R.callG hC (rsame_ok l l (by omega)) (Bors.cons (Bor.pur (evt (hτ 80 _ rfl)) rfl rfl) (Bors.cons (Bor.pur (evt (hτ 81 _ rfl)) rfl rfl) Bors.nil)) (FrsR.one (.bool _)) ht⟩,
            ⟨⟨rfl, ⟨_, 79, rfl, rfl, .inl ⟨_, rfl, gw (v := false) (rfl) rfl⟩⟩, fun _ τ hb ht hτ => R.un (evt (hτ 82 _ rfl)) rfl ht⟩,
            ⟨⟨rfl, rfl, fun _ τ hb ht hτ => R.pickF (evt (hτ 79 _ rfl)) (rfl) (evt (hτ 83 _ rfl)) rfl ht⟩,
            trivial⟩⟩⟩⟩⟩⟩⟩⟩, rfl, rfl, rfl⟩)
          rfl (bx' := [(11, .var _), (9, .var _), (5, .var _), (4, .var _)]) rfl (n' := 103) rfl (⟨[3, 84], [(3, _), (84, _)], [(11, .var _), (9, .var _), (5, .var _), (4, .var _)], 103, rfl, rfl, rfl, ?_⟩)
        refine W.condF rfl (by simp) ?_
        refine W.skip ?_
        refine W.seq ?_
        refine W.line (n := 7) (by decide) (its := [⟨86, _, true⟩, ⟨87, _, true⟩, ⟨85, _, true⟩, ⟨88, _, true⟩, ⟨89, _, true⟩, ⟨12, _, true⟩, ⟨10, _, true⟩]) (ks := []) (kk := []) (live := [3, 10, 12]) (env' := [(3, _), (10, _), (12, _)])
          (⟨Nat.le_of_ble_eq_true rfl, rfl,
            ⟨⟨rfl, rfl, fun _ τ hb ht hτ => R.mov (evt (hτ 3 _ rfl)) rfl ht⟩,
            ⟨⟨rfl, rfl, fun _ τ hb ht hτ => R.callZ (r' := .tup [.sl none 68 ((cutS b).1.map hdrD), .int (cutS b).2]) (cut_ok b (by omega)) hC (Bors.cons (Bor.pur (evt (hτ 86 _ rfl)) rfl rfl) Bors.nil) (FrsR.two (frs_hdrs _ _ _) (.int _)) (by show D.tup [_, _] = _; rw [brw_hdrs]; rfl) ht⟩,
            ⟨⟨rfl, rfl, fun _ τ hb ht hτ => R.movT (hτ 87 _ rfl) rfl ht⟩,
            ⟨⟨rfl, rfl, fun _ τ hb ht hτ => R.ext (hτ 85 _ rfl) rfl rfl ht⟩,
            ⟨⟨rfl, rfl, fun _ τ hb ht hτ => R.ext (hτ 85 _ rfl) rfl rfl ht⟩,
            ⟨⟨rfl, rfl, fun _ τ hb ht hτ => R.asg (evt (hτ 88 _ rfl)) rfl ht⟩,
            ⟨⟨rfl, rfl, fun _ τ hb ht hτ => R.asg (evt (hτ 89 _ rfl)) rfl ht⟩,
            trivial⟩⟩⟩⟩⟩⟩⟩, rfl, rfl, rfl⟩)
          rfl (bx' := [(11, .var _), (9, .var _), (5, .var _), (4, .var _)]) rfl (n' := 103) rfl (⟨[3, 10, 12], [(3, _), (10, _), (12, _)], [(11, .var _), (9, .var _), (5, .var _), (4, .var _)], 103, rfl, rfl, rfl, ?_⟩)
        refine W.seq ?_
        by_cases hz : (cutS b).2 = 0
        · refine W.draw (m := 14) (an := [0, 1, 3, 7, 15, 31, 7, 71, 255, 511, 1023, 2047, 4095, 8191]) hP (by decide) rfl (its := [⟨90, _, true⟩, ⟨91, _, true⟩, ⟨92, _, true⟩, ⟨93, _, true⟩, ⟨94, _, true⟩, ⟨95, _, true⟩, ⟨96, _, true⟩, ⟨97, _, true⟩, ⟨98, _, true⟩, ⟨99, _, true⟩, ⟨100, _, true⟩, ⟨101, _, true⟩, ⟨102, _, true⟩, ⟨8, _, true⟩]) (ks := []) (kk := []) (live := [8]) (env' := [(8, _)])
            (⟨Nat.le_of_ble_eq_true rfl, rfl,
              ⟨⟨rfl, rfl, fun _ τ hb ht hτ => R.mov (evt (hτ 10 _ rfl)) rfl ht⟩,
              ⟨⟨rfl, rfl, fun _ τ hb ht hτ => R.bin (evt (hτ 90 _ rfl)) (show ev _ _ (.const (.int .i64 0)) = some (.int ((0 : Nat) : Int)) from rfl) rfl trivial ht⟩,
              ⟨⟨rfl, rfl, fun _ τ hb ht hτ => R.mov (evt (hτ 91 _ rfl)) rfl ht⟩,
              ⟨⟨rfl, ⟨_, 92, rfl, rfl, .inl ⟨_, rfl, gw (v := false) (by rw [hz]; rfl) rfl⟩⟩, fun _ τ hb ht hτ => R.mov (evt (hτ 12 _ rfl)) rfl ht⟩,
              ⟨⟨rfl, ⟨_, 92, rfl, rfl, .inl ⟨_, rfl, gw (v := false) (by rw [hz]; rfl) rfl⟩⟩, fun _ τ hb ht hτ => R.callG hC (row_ok (cutS b).1 (cutS_wf b) (by have := cutS_len b; omega)) (Bors.cons (Bor.pur (evt (hτ 93 _ rfl)) rfl rfl) Bors.nil) (FrsR.one (.sl _ _ _ (frs_map fun _ => .u8 _))) ht⟩,
              ⟨⟨rfl, ⟨_, 92, rfl, rfl, .inl ⟨_, rfl, gw (v := false) (by rw [hz]; rfl) rfl⟩⟩, fun _ τ hb ht hτ => R.cvS (xs := (rowS (cutS b).1)) (SC.sl (hτ 94 _ rfl)) ht⟩,
              ⟨⟨rfl, ⟨_, 92, rfl, rfl, .inl ⟨_, rfl, gw (v := false) (by rw [hz]; rfl) rfl⟩⟩, fun _ τ hb ht hτ => R.mov (evt (hτ 3 _ rfl)) rfl ht⟩,
              ⟨⟨rfl, ⟨_, 92, rfl, rfl, .inl ⟨_, rfl, gw (v := false) (by rw [hz]; rfl) rfl⟩⟩, fun _ τ hb ht hτ => R.cvS (xs := b) (SC.sl (hτ 96 _ rfl)) ht⟩,
              ⟨⟨rfl, ⟨_, 92, rfl, rfl, .inl ⟨_, rfl, gw (v := false) (by rw [hz]; rfl) rfl⟩⟩, fun _ τ hb ht hτ => R.bin (evt (hτ 95 _ rfl)) (evt (hτ 97 _ rfl)) rfl trivial ht⟩,
              ⟨⟨rfl, rfl, fun _ τ hb ht hτ => R.pickF (evt (hτ 92 _ rfl)) (by rw [hz]; rfl) (evt (hτ 98 _ rfl)) rfl ht⟩,
              ⟨⟨rfl, rfl, fun _ τ hb ht hτ => R.mov (evt (hτ 99 _ rfl)) rfl ht⟩,
              ⟨⟨rfl, ⟨_, 100, rfl, rfl, .inl ⟨_, rfl, gw (v := true) (row_cut_eq b hz) rfl⟩⟩, fun _ τ hb ht hτ => R.callG hC (works_ok) Bors.nil (FrsR.one (.bool _)) ht⟩,
              ⟨⟨rfl, rfl, fun _ τ hb ht hτ => R.pickT (evt (hτ 100 _ rfl)) (row_cut_eq b hz) (evt (hτ 101 _ rfl)) rfl ht⟩,
              ⟨⟨rfl, rfl, fun _ τ hb ht hτ => R.asg (evt (hτ 102 _ rfl)) rfl ht⟩,
              trivial⟩⟩⟩⟩⟩⟩⟩⟩⟩⟩⟩⟩⟩⟩, rfl, rfl, rfl⟩)
            rfl (bx' := [(11, .var _), (9, .var _), (5, .var _), (4, .var _)]) rfl (n' := 103) rfl (⟨[8], [(8, _)], [(11, .var _), (9, .var _), (5, .var _), (4, .var _)], 103, rfl, rfl, rfl, ?_⟩)
          refine W.ret ?_
          exact Ends.one' (.inr rfl) rfl (rfl) rfl rfl trivial
        · refine W.draw (m := 14) (an := [0, 1, 3, 7, 15, 31, 7, 71, 255, 511, 1023, 2047, 4095, 8191]) hP (by decide) rfl (its := [⟨90, _, true⟩, ⟨91, _, true⟩, ⟨92, _, true⟩, ⟨93, .dead, false⟩, ⟨94, .dead, false⟩, ⟨95, .dead, false⟩, ⟨96, .dead, false⟩, ⟨97, .dead, false⟩, ⟨98, .dead, false⟩, ⟨99, _, true⟩, ⟨100, _, true⟩, ⟨101, _, true⟩, ⟨102, _, true⟩, ⟨8, _, true⟩]) (ks := []) (kk := []) (live := [8]) (env' := [(8, _)])
            (⟨Nat.le_of_ble_eq_true rfl, rfl,
              ⟨⟨rfl, rfl, fun _ τ hb ht hτ => R.mov (evt (hτ 10 _ rfl)) rfl ht⟩,
              ⟨⟨rfl, rfl, fun _ τ hb ht hτ => R.bin (evt (hτ 90 _ rfl)) (show ev _ _ (.const (.int .i64 0)) = some (.int ((0 : Nat) : Int)) from rfl) rfl trivial ht⟩,
              ⟨⟨rfl, rfl, fun _ τ hb ht hτ => R.mov (evt (hτ 91 _ rfl)) rfl ht⟩,
              ⟨⟨rfl, ⟨_, 92, rfl, rfl, .inl ⟨_, rfl, gw (v := true) (bne_iff_ne.2 hz) rfl⟩⟩, fun h => absurd h (by decide)⟩,
              ⟨⟨rfl, ⟨_, 92, rfl, rfl, .inl ⟨_, rfl, gw (v := true) (bne_iff_ne.2 hz) rfl⟩⟩, fun h => absurd h (by decide)⟩,
              ⟨⟨rfl, ⟨_, 92, rfl, rfl, .inl ⟨_, rfl, gw (v := true) (bne_iff_ne.2 hz) rfl⟩⟩, fun h => absurd h (by decide)⟩,
              ⟨⟨rfl, ⟨_, 92, rfl, rfl, .inl ⟨_, rfl, gw (v := true) (bne_iff_ne.2 hz) rfl⟩⟩, fun h => absurd h (by decide)⟩,
              ⟨⟨rfl, ⟨_, 92, rfl, rfl, .inl ⟨_, rfl, gw (v := true) (bne_iff_ne.2 hz) rfl⟩⟩, fun h => absurd h (by decide)⟩,
              ⟨⟨rfl, ⟨_, 92, rfl, rfl, .inl ⟨_, rfl, gw (v := true) (bne_iff_ne.2 hz) rfl⟩⟩, fun h => absurd h (by decide)⟩,
              ⟨⟨rfl, rfl, fun _ τ hb ht hτ => R.pickT (evt (hτ 92 _ rfl)) (bne_iff_ne.2 hz) (show ev _ _ (.const (.bool true)) = some (.bool true) from rfl) rfl ht⟩,
              ⟨⟨rfl, rfl, fun _ τ hb ht hτ => R.mov (evt (hτ 99 _ rfl)) rfl ht⟩,
              ⟨⟨rfl, ⟨_, 100, rfl, rfl, .inl ⟨_, rfl, gw (v := true) (rfl) rfl⟩⟩, fun _ τ hb ht hτ => R.callG hC (works_ok) Bors.nil (FrsR.one (.bool _)) ht⟩,
              ⟨⟨rfl, rfl, fun _ τ hb ht hτ => R.pickT (evt (hτ 100 _ rfl)) (rfl) (evt (hτ 101 _ rfl)) rfl ht⟩,
              ⟨⟨rfl, rfl, fun _ τ hb ht hτ => R.asg (evt (hτ 102 _ rfl)) rfl ht⟩,
              trivial⟩⟩⟩⟩⟩⟩⟩⟩⟩⟩⟩⟩⟩⟩, rfl, rfl, rfl⟩)
            rfl (bx' := [(11, .var _), (9, .var _), (5, .var _), (4, .var _)]) rfl (n' := 103) rfl (⟨[8], [(8, _)], [(11, .var _), (9, .var _), (5, .var _), (4, .var _)], 103, rfl, rfl, rfl, ?_⟩)
          refine W.ret ?_
          exact Ends.one' (.inr rfl) rfl (rfl) rfl rfl trivial

end Go.Sx
