/- Proved: what functions of the given program compute (used by the theorem of this claim). Conditions: none but those that each theorem states. -/
import Derived.Test.YtggoegenobhanaaDoorHd12
set_option linter.unusedVariables false
set_option linter.unusedSimpArgs false
set_option linter.unnecessarySimpa false

namespace Go.Sx
open Go.Proofs
theorem puts_ok (h : HdS) (hw : h.wf) (b : List UInt8) (hb0 : b.length ≤ 140737488355328) : Fn Tryd.prog gl 3 [hdrD h, .sl none 1 (b.map D.u8)] (.bool true) := by
  refine Fn.of (n := 49) Tryd.func3 rfl rfl rfl (Nat.le_of_ble_eq_true rfl) fun C hC hD => ?_
  refine W.seq ?_
  refine W.line (n := 2) (by decide) (its := []) (ks := []) (kk := []) (live := [0, 1]) (env' := [(0, _), (1, _)])
    (⟨Nat.le_of_ble_eq_true rfl, rfl,
      trivial, rfl, rfl, rfl⟩)
    rfl (bx' := []) rfl (n' := 49) rfl (⟨rfl, _, R.box (evt (show Sg.get _ 0 = some _ from rfl)) rfl rfl (Nat.le_of_ble_eq_true rfl), ⟨rfl, _, R.asg (show ev _ _ (.const (.bool false)) = some (.bool false) from rfl) rfl (Nat.le_of_ble_eq_true rfl), ⟨[1, 2], [(1, _), (2, _)], [(2, .var _)], 49, rfl, rfl, rfl, ?_⟩⟩⟩)
  refine W.seq ?_
  refine W.seq ?_
  refine W.line (n := 2) (by decide) (its := [⟨9, _, true⟩, ⟨10, _, true⟩]) (ks := []) (kk := []) (live := [1, 2, 10]) (env' := [(1, _), (2, _), (10, _)])
    (⟨Nat.le_of_ble_eq_true rfl, rfl,
      ⟨⟨rfl, rfl, fun _ τ hb ht hτ => R.mov (evt (hτ 1 _ rfl)) rfl ht⟩,
      ⟨⟨rfl, rfl, fun _ τ hb ht hτ => R.callG hC (heavy_ok [] b (Nat.zero_le _) hb0) (Bors.cons (Bor.nils (show ev _ _ (.const (.slice none 0 0)) = some (.nils) from rfl)) (Bors.cons (Bor.pur (evt (hτ 9 _ rfl)) rfl rfl) Bors.nil)) (FrsR.one (.bool _)) ht⟩,
      trivial⟩⟩, rfl, rfl, rfl⟩)
    rfl (bx' := [(2, .var _)]) rfl (n' := 49) rfl (⟨[1, 2, 10], [(1, _), (2, _), (10, _)], [(2, .var _)], 49, rfl, rfl, rfl, ?_⟩)
  refine W.cond rfl (fun hc10 => ?_) (fun hc10 => ?_)
  · refine W.seq ?_
    refine W.line (n := 2) (by decide) (its := [⟨11, _, true⟩, ⟨4, _, true⟩]) (ks := []) (kk := []) (live := [4]) (env' := [(4, _)])
      (⟨Nat.le_of_ble_eq_true rfl, rfl,
        ⟨⟨rfl, rfl, fun _ τ hb ht hτ => R.callG hC (works_ok) Bors.nil (FrsR.one (.bool _)) ht⟩,
        ⟨⟨rfl, rfl, fun _ τ hb ht hτ => R.asg (evt (hτ 11 _ rfl)) rfl ht⟩,
        trivial⟩⟩, rfl, rfl, rfl⟩)
      rfl (bx' := [(2, .var _)]) rfl (n' := 49) rfl (⟨[4], [(4, _)], [(2, .var _)], 49, rfl, rfl, rfl, ?_⟩)
    refine W.ret ?_
    exact Ends.one' (.inr rfl) rfl (rfl) rfl rfl trivial
  · refine W.skip ?_
    refine W.seq ?_
    have hbb := (heavy_l hc10).2
    refine W.line (n := 8) (by decide) (its := [⟨13, _, true⟩, ⟨14, _, true⟩, ⟨12, _, true⟩, ⟨15, _, true⟩, ⟨16, _, true⟩]) (ks := []) (kk := []) (live := [1, 2, 15, 16]) (env' := [(1, _), (2, _), (15, _), (16, _)])
      (⟨Nat.le_of_ble_eq_true rfl, rfl,
        ⟨⟨rfl, rfl, fun _ τ hb ht hτ => R.mov (evt (hτ 1 _ rfl)) rfl ht⟩,
        ⟨⟨rfl, rfl, fun _ τ hb ht hτ => R.callG hC (get_ok b (by omega)) (Bors.cons (Bor.pur (evt (hτ 13 _ rfl)) rfl rfl) Bors.nil) (FrsR.two (frs_hdr _) (.int _)) ht⟩,
        ⟨⟨rfl, rfl, fun _ τ hb ht hτ => R.movT (hτ 14 _ rfl) rfl ht⟩,
        ⟨⟨rfl, rfl, fun _ τ hb ht hτ => R.ext (hτ 12 _ rfl) rfl rfl ht⟩,
        ⟨⟨rfl, rfl, fun _ τ hb ht hτ => R.ext (hτ 12 _ rfl) rfl rfl ht⟩,
        trivial⟩⟩⟩⟩⟩, rfl, rfl, rfl⟩)
      rfl (bx' := [(2, .var _)]) rfl (n' := 49) rfl (⟨rfl, _, R.alloc rfl (Nat.le_of_ble_eq_true rfl), ⟨rfl, _, R.stZ (show Sg.get _ 5 = some _ from rfl) (show Sg.box _ 5 = some _ from rfl) rfl (evt (show Sg.get _ 15 = some _ from rfl)) (by rfl) (by rfl) (by rfl) (by rfl) rfl, ⟨rfl, _, R.asg (evt (show Sg.get _ 16 = some _ from rfl)) rfl (Nat.le_of_ble_eq_true rfl), ⟨[1, 2, 5, 6], [(1, _), (2, _), (5, _), (6, _)], [(5, .var _), (2, .var _)], 49, rfl, rfl, rfl, ?_⟩⟩⟩⟩)
    refine W.seq ?_
    refine W.line (n := 8) (by decide) (its := [⟨18, _, true⟩, ⟨19, _, true⟩, ⟨17, _, true⟩, ⟨20, _, true⟩, ⟨21, _, true⟩]) (ks := []) (kk := []) (live := [2, 5, 6, 20, 21]) (env' := [(2, _), (5, _), (6, _), (20, _), (21, _)])
      (⟨Nat.le_of_ble_eq_true rfl, rfl,
        ⟨⟨rfl, rfl, fun _ τ hb ht hτ => R.mov (evt (hτ 1 _ rfl)) rfl ht⟩,
        ⟨⟨rfl, rfl, fun _ τ hb ht hτ => R.callG hC (rget_ok b (by omega)) (Bors.cons (Bor.pur (evt (hτ 18 _ rfl)) rfl rfl) Bors.nil) (FrsR.two (frs_hdr _) (.int _)) ht⟩,
        ⟨⟨rfl, rfl, fun _ τ hb ht hτ => R.movT (hτ 19 _ rfl) rfl ht⟩,
        ⟨⟨rfl, rfl, fun _ τ hb ht hτ => R.ext (hτ 17 _ rfl) rfl rfl ht⟩,
        ⟨⟨rfl, rfl, fun _ τ hb ht hτ => R.ext (hτ 17 _ rfl) rfl rfl ht⟩,
        trivial⟩⟩⟩⟩⟩, rfl, rfl, rfl⟩)
      rfl (bx' := [(5, .var _), (2, .var _)]) rfl (n' := 49) rfl (⟨rfl, _, R.alloc rfl (Nat.le_of_ble_eq_true rfl), ⟨rfl, _, R.stZ (show Sg.get _ 7 = some _ from rfl) (show Sg.box _ 7 = some _ from rfl) rfl (evt (show Sg.get _ 20 = some _ from rfl)) (by rfl) (by rfl) (by rfl) (by rfl) rfl, ⟨rfl, _, R.asg (evt (show Sg.get _ 21 = some _ from rfl)) rfl (Nat.le_of_ble_eq_true rfl), ⟨[2, 5, 6, 7, 8], [(2, _), (5, _), (6, _), (7, _), (8, _)], [(7, .var _), (5, .var _), (2, .var _)], 49, rfl, rfl, rfl, ?_⟩⟩⟩⟩)
    refine W.seq ?_
    refine W.draw (m := 28) (an := (0 :: 1 :: 3 :: 0 :: 11 :: 27 :: 63 :: 127 :: 255 :: 511 :: 255 :: 2047 :: 4095 :: 8191 :: 16383 :: 32767 :: 32767 :: 131071 :: 262143 :: 524287 :: 1048575 :: 1048575 :: 4194303 :: 8388607 :: 16777215 :: 33554431 :: 67108863 :: 134217727 :: [])) hP (by decide) rfl (its := (⟨22, _, true⟩ :: ⟨23, _, true⟩ :: ⟨24, _, true⟩ :: ⟨25, _, true⟩ :: ⟨26, _, true⟩ :: ⟨27, _, true⟩ :: ⟨28, _, true⟩ :: ⟨29, _, true⟩ :: ⟨30, _, true⟩ :: ⟨31, _, true⟩ :: ⟨32, _, true⟩ :: ⟨33, _, true⟩ :: ⟨34, _, true⟩ :: ⟨35, _, true⟩ :: ⟨36, _, true⟩ :: ⟨37, _, true⟩ :: ⟨38, _, true⟩ :: ⟨39, _, true⟩ :: ⟨40, _, true⟩ :: ⟨41, _, true⟩ :: ⟨42, _, true⟩ :: ⟨43, _, true⟩ :: ⟨44, _, true⟩ :: ⟨45, _, true⟩ :: ⟨46, _, true⟩ :: ⟨47, _, true⟩ :: ⟨48, _, true⟩ :: ⟨4, _, true⟩ :: [])) (ks := []) (kk := []) (live := [4]) (env' := [(4, _)])
      (⟨Nat.le_of_ble_eq_true rfl, rfl,
        ⟨⟨rfl, rfl, fun _ τ hb ht hτ => R.ldP (hτ 2 _ rfl) (hb 2 _ rfl) rfl rfl rfl rfl ht⟩,
        ⟨⟨rfl, rfl, fun _ τ hb ht hτ => R.callG hC (put_ok h hw) (Bors.cons (Bor.pur (evt (hτ 22 _ rfl)) rfl rfl) Bors.nil) (FrsR.one (.sl _ _ _ (frs_map fun _ => .u8 _))) ht⟩,
        ⟨⟨rfl, rfl, fun _ τ hb ht hτ => R.cvS (xs := (putS h)) (SC.sl (hτ 23 _ rfl)) ht⟩,
        ⟨⟨rfl, rfl, fun _ τ hb ht hτ => R.ldP (hτ 2 _ rfl) (hb 2 _ rfl) rfl rfl rfl rfl ht⟩,
        ⟨⟨rfl, rfl, fun _ τ hb ht hτ => R.callG hC (rput_ok h hw) (Bors.cons (Bor.pur (evt (hτ 25 _ rfl)) rfl rfl) Bors.nil) (FrsR.one (.sl _ _ _ (frs_map fun _ => .u8 _))) ht⟩,
        ⟨⟨rfl, rfl, fun _ τ hb ht hτ => R.cvS (xs := (putS h)) (SC.sl (hτ 26 _ rfl)) ht⟩,
        ⟨⟨rfl, rfl, fun _ τ hb ht hτ => R.bin (evt (hτ 24 _ rfl)) (evt (hτ 27 _ rfl)) rfl trivial ht⟩,
        ⟨⟨rfl, rfl, fun _ τ hb ht hτ => R.mov (evt (hτ 28 _ rfl)) rfl ht⟩,
        ⟨⟨rfl, ⟨_, 29, rfl, rfl, .inl ⟨_, rfl, gw (v := true) (beq_self_eq_true _) rfl⟩⟩, fun _ τ hb ht hτ => R.ldP (hτ 2 _ rfl) (hb 2 _ rfl) rfl rfl rfl rfl ht⟩,
        ⟨⟨rfl, ⟨_, 29, rfl, rfl, .inl ⟨_, rfl, gw (v := true) (beq_self_eq_true _) rfl⟩⟩, fun _ τ hb ht hτ => R.callG hC (id_ok h hw) (Bors.cons (Bor.pur (evt (hτ 30 _ rfl)) rfl rfl) Bors.nil) (FrsR.one (frs_hash _)) ht⟩,
        ⟨⟨rfl, ⟨_, 29, rfl, rfl, .inl ⟨_, rfl, gw (v := true) (beq_self_eq_true _) rfl⟩⟩, fun _ τ hb ht hτ => R.ldP (hτ 2 _ rfl) (hb 2 _ rfl) rfl rfl rfl rfl ht⟩,
        ⟨⟨rfl, ⟨_, 29, rfl, rfl, .inl ⟨_, rfl, gw (v := true) (beq_self_eq_true _) rfl⟩⟩, fun _ τ hb ht hτ => R.callG hC (rid2_ok h hw) (Bors.cons (Bor.pur (evt (hτ 32 _ rfl)) rfl rfl) Bors.nil) (FrsR.one (frs_hash _)) ht⟩,
        ⟨⟨rfl, ⟨_, 29, rfl, rfl, .inl ⟨_, rfl, gw (v := true) (beq_self_eq_true _) rfl⟩⟩, fun _ τ hb ht hτ => R.eqAE (evt (hτ 31 _ rfl)) (evt (hτ 33 _ rfl)) ht⟩,
        ⟨⟨rfl, rfl, fun _ τ hb ht hτ => R.pickT (evt (hτ 29 _ rfl)) (beq_self_eq_true _) (evt (hτ 34 _ rfl)) rfl ht⟩,
        ⟨⟨rfl, rfl, fun _ τ hb ht hτ => R.mov (evt (hτ 35 _ rfl)) rfl ht⟩,
        ⟨⟨rfl, ⟨_, 36, rfl, rfl, .inl ⟨_, rfl, gw (v := true) (beq_self_eq_true _) rfl⟩⟩, fun _ τ hb ht hτ => R.ldP (hτ 5 _ rfl) (hb 5 _ rfl) rfl rfl rfl rfl ht⟩,
        ⟨⟨rfl, ⟨_, 36, rfl, rfl, .inl ⟨_, rfl, gw (v := true) (beq_self_eq_true _) rfl⟩⟩, fun _ τ hb ht hτ => R.ldP (hτ 7 _ rfl) (hb 7 _ rfl) rfl rfl rfl rfl ht⟩,
        ⟨⟨rfl, ⟨_, 36, rfl, rfl, .inl ⟨_, rfl, gw (v := true) (beq_self_eq_true _) rfl⟩⟩, fun _ τ hb ht hτ => R.eqD (neg := false) (b' := ((getS b).1 == (getS b).1)) (eqv_hdr _ _) rfl (evt (hτ 37 _ rfl)) (evt (hτ 38 _ rfl)) rfl rfl rfl rfl (rfl) ht⟩,
        ⟨⟨rfl, rfl, fun _ τ hb ht hτ => R.pickT (evt (hτ 36 _ rfl)) (beq_self_eq_true _) (evt (hτ 39 _ rfl)) rfl ht⟩,
        ⟨⟨rfl, rfl, fun _ τ hb ht hτ => R.mov (evt (hτ 40 _ rfl)) rfl ht⟩,
        ⟨⟨rfl, ⟨_, 41, rfl, rfl, .inl ⟨_, rfl, gw (v := true) (beq_self_eq_true _) rfl⟩⟩, fun _ τ hb ht hτ => R.mov (evt (hτ 6 _ rfl)) rfl ht⟩,
        ⟨⟨rfl, ⟨_, 41, rfl, rfl, .inl ⟨_, rfl, gw (v := true) (beq_self_eq_true _) rfl⟩⟩, fun _ τ hb ht hτ => R.mov (evt (hτ 8 _ rfl)) rfl ht⟩,
        ⟨⟨rfl, ⟨_, 41, rfl, rfl, .inl ⟨_, rfl, gw (v := true) (beq_self_eq_true _) rfl⟩⟩, fun _ τ hb ht hτ => R.bin (evt (hτ 42 _ rfl)) (evt (hτ 43 _ rfl)) rfl trivial ht⟩,
        ⟨⟨rfl, rfl, fun _ τ hb ht hτ => R.pickT (evt (hτ 41 _ rfl)) (beq_self_eq_true _) (evt (hτ 44 _ rfl)) rfl ht⟩,
        ⟨⟨rfl, rfl, fun _ τ hb ht hτ => R.mov (evt (hτ 45 _ rfl)) rfl ht⟩,
        ⟨⟨rfl, ⟨_, 46, rfl, rfl, .inl ⟨_, rfl, gw (v := true) (beq_self_eq_true _) rfl⟩⟩, fun _ τ hb ht hτ => R.callG hC (works_ok) Bors.nil (FrsR.one (.bool _)) ht⟩,
        ⟨⟨rfl, rfl, fun _ τ hb ht hτ => R.pickT (evt (hτ 46 _ rfl)) (beq_self_eq_true _) (evt (hτ 47 _ rfl)) rfl ht⟩,
        ⟨⟨rfl, rfl, fun _ τ hb ht hτ => R.asg (evt (hτ 48 _ rfl)) rfl ht⟩,
        trivial⟩⟩⟩⟩⟩⟩⟩⟩⟩⟩⟩⟩⟩⟩⟩⟩⟩⟩⟩⟩⟩⟩⟩⟩⟩⟩⟩⟩, rfl, rfl, rfl⟩)
      rfl (bx' := [(7, .var _), (5, .var _), (2, .var _)]) rfl (n' := 49) rfl (⟨[4], [(4, _)], [(7, .var _), (5, .var _), (2, .var _)], 49, rfl, rfl, rfl, ?_⟩)
    refine W.ret ?_
    exact Ends.one' (.inr rfl) rfl (rfl) rfl rfl trivial

end Go.Sx
