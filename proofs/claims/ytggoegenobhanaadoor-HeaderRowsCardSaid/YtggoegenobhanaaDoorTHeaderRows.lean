/- Proved: what functions of the given program compute (used by the theorem of this claim). Conditions: none but those that each theorem states. -/
import Derived.Test.YtggoegenobhanaaDoorHd12
set_option linter.unusedVariables false
set_option linter.unusedSimpArgs false
set_option linter.unnecessarySimpa false

namespace Go.Sx
open Go.Proofs
theorem rows_ok (l : List HdS) (hl : allW l) (b : List UInt8) (hl0 : l.length ≤ 140737488355328) (hb0 : b.length ≤ 140737488355328) : Fn Tryd.prog gl 7 [.sl none 68 (l.map hdrD), .sl none 1 (b.map D.u8)] (.bool true) := by
  refine Fn.of (n := 50) Tryd.func7 rfl rfl rfl (Nat.le_of_ble_eq_true rfl) fun C hC hD => ?_
  refine W.seq ?_
  refine W.line (n := 1) (by decide) (its := [⟨4, _, true⟩]) (ks := []) (kk := []) (live := [0, 1]) (env' := [(0, _), (1, _)])
    (⟨Nat.le_of_ble_eq_true rfl, rfl,
      ⟨⟨rfl, rfl, fun _ τ hb ht hτ => R.asg (show ev _ _ (.const (.bool false)) = some (.bool false) from rfl) rfl ht⟩,
      trivial⟩, rfl, rfl, rfl⟩)
    rfl (bx' := []) rfl (n' := 50) rfl (⟨[0, 1], [(0, _), (1, _)], [], 50, rfl, rfl, rfl, ?_⟩)
  refine W.seq ?_
  refine W.seq ?_
  refine W.line (n := 3) (by decide) (its := [⟨9, _, true⟩, ⟨10, _, true⟩, ⟨11, _, true⟩]) (ks := []) (kk := []) (live := [0, 1, 11]) (env' := [(0, _), (1, _), (11, _)])
    (⟨Nat.le_of_ble_eq_true rfl, rfl,
      ⟨⟨rfl, rfl, fun _ τ hb ht hτ => R.mov (evt (hτ 0 _ rfl)) rfl ht⟩,
      ⟨⟨rfl, rfl, fun _ τ hb ht hτ => R.mov (evt (hτ 1 _ rfl)) rfl ht⟩,
      ⟨⟨rfl, rfl, fun _ τ hb ht hτ => R.callG hC (heavy_ok l b hl0 hb0) (Bors.cons (Bor.pur (evt (hτ 9 _ rfl)) rfl rfl) (Bors.cons (Bor.pur (evt (hτ 10 _ rfl)) rfl rfl) Bors.nil)) (FrsR.one (.bool _)) ht⟩,
      trivial⟩⟩⟩, rfl, rfl, rfl⟩)
    rfl (bx' := []) rfl (n' := 50) rfl (⟨[0, 1, 11], [(0, _), (1, _), (11, _)], [], 50, rfl, rfl, rfl, ?_⟩)
  refine W.cond rfl (fun hc11 => ?_) (fun hc11 => ?_)
  · refine W.seq ?_
    refine W.line (n := 2) (by decide) (its := [⟨12, _, true⟩, ⟨4, _, true⟩]) (ks := []) (kk := []) (live := [4]) (env' := [(4, _)])
      (⟨Nat.le_of_ble_eq_true rfl, rfl,
        ⟨⟨rfl, rfl, fun _ τ hb ht hτ => R.callG hC (works_ok) Bors.nil (FrsR.one (.bool _)) ht⟩,
        ⟨⟨rfl, rfl, fun _ τ hb ht hτ => R.asg (evt (hτ 12 _ rfl)) rfl ht⟩,
        trivial⟩⟩, rfl, rfl, rfl⟩)
      rfl (bx' := []) rfl (n' := 50) rfl (⟨[4], [(4, _)], [], 50, rfl, rfl, rfl, ?_⟩)
    refine W.ret ?_
    exact Ends.one' (.inr rfl) rfl (rfl) rfl rfl trivial
  · refine W.skip ?_
    refine W.seq ?_
    have hh := heavy_l hc11
    have hll := hh.1
    have hbb := hh.2
    refine W.line (n := 7) (by decide) (its := [⟨14, _, true⟩, ⟨15, _, true⟩, ⟨13, _, true⟩, ⟨16, _, true⟩, ⟨17, _, true⟩, ⟨5, _, true⟩, ⟨6, _, true⟩]) (ks := []) (kk := []) (live := [0, 1, 5, 6]) (env' := [(0, _), (1, _), (5, _), (6, _)])
      (⟨Nat.le_of_ble_eq_true rfl, rfl,
        ⟨⟨rfl, rfl, fun _ τ hb ht hτ => R.mov (evt (hτ 1 _ rfl)) rfl ht⟩,
        ⟨⟨rfl, rfl, fun _ τ hb ht hτ => R.callZ (r' := .tup [.sl none 68 ((cutS b).1.map hdrD), .int (cutS b).2]) (cut_ok b (by omega)) hC (Bors.cons (Bor.pur (evt (hτ 14 _ rfl)) rfl rfl) Bors.nil) (FrsR.two (frs_hdrs _ _ _) (.int _)) (by show D.tup [_, _] = _; rw [brw_hdrs]; rfl) ht⟩,
        ⟨⟨rfl, rfl, fun _ τ hb ht hτ => R.movT (hτ 15 _ rfl) rfl ht⟩,
        ⟨⟨rfl, rfl, fun _ τ hb ht hτ => R.ext (hτ 13 _ rfl) rfl rfl ht⟩,
        ⟨⟨rfl, rfl, fun _ τ hb ht hτ => R.ext (hτ 13 _ rfl) rfl rfl ht⟩,
        ⟨⟨rfl, rfl, fun _ τ hb ht hτ => R.asg (evt (hτ 16 _ rfl)) rfl ht⟩,
        ⟨⟨rfl, rfl, fun _ τ hb ht hτ => R.asg (evt (hτ 17 _ rfl)) rfl ht⟩,
        trivial⟩⟩⟩⟩⟩⟩⟩, rfl, rfl, rfl⟩)
      rfl (bx' := []) rfl (n' := 50) rfl (⟨[0, 1, 5, 6], [(0, _), (1, _), (5, _), (6, _)], [], 50, rfl, rfl, rfl, ?_⟩)
    refine W.seq ?_
    refine W.line (n := 7) (by decide) (its := [⟨19, _, true⟩, ⟨20, _, true⟩, ⟨18, _, true⟩, ⟨21, _, true⟩, ⟨22, _, true⟩, ⟨7, _, true⟩, ⟨8, _, true⟩]) (ks := []) (kk := []) (live := [0, 5, 6, 7, 8]) (env' := [(0, _), (5, _), (6, _), (7, _), (8, _)])
      (⟨Nat.le_of_ble_eq_true rfl, rfl,
        ⟨⟨rfl, rfl, fun _ τ hb ht hτ => R.mov (evt (hτ 1 _ rfl)) rfl ht⟩,
        ⟨⟨rfl, rfl, fun _ τ hb ht hτ => R.callZ (r' := .tup [.sl none 68 ((cutS b).1.map hdrD), .int (cutS b).2]) (rcut_ok b (by omega)) hC (Bors.cons (Bor.pur (evt (hτ 19 _ rfl)) rfl rfl) Bors.nil) (FrsR.two (frs_hdrs _ _ _) (.int _)) (by show D.tup [_, _] = _; rw [brw_hdrs]; rfl) ht⟩,
        ⟨⟨rfl, rfl, fun _ τ hb ht hτ => R.movT (hτ 20 _ rfl) rfl ht⟩,
        ⟨⟨rfl, rfl, fun _ τ hb ht hτ => R.ext (hτ 18 _ rfl) rfl rfl ht⟩,
        ⟨⟨rfl, rfl, fun _ τ hb ht hτ => R.ext (hτ 18 _ rfl) rfl rfl ht⟩,
        ⟨⟨rfl, rfl, fun _ τ hb ht hτ => R.asg (evt (hτ 21 _ rfl)) rfl ht⟩,
        ⟨⟨rfl, rfl, fun _ τ hb ht hτ => R.asg (evt (hτ 22 _ rfl)) rfl ht⟩,
        trivial⟩⟩⟩⟩⟩⟩⟩, rfl, rfl, rfl⟩)
      rfl (bx' := []) rfl (n' := 50) rfl (⟨[0, 5, 6, 7, 8], [(0, _), (5, _), (6, _), (7, _), (8, _)], [], 50, rfl, rfl, rfl, ?_⟩)
    refine W.seq ?_
    refine W.draw (m := 28) (an := (0 :: 1 :: 3 :: 0 :: 11 :: 27 :: 63 :: 127 :: 255 :: 255 :: 1023 :: 2047 :: 4095 :: 8191 :: 8191 :: 32767 :: 65535 :: 131071 :: 262143 :: 524287 :: 262143 :: 2097151 :: 4194303 :: 8388607 :: 16777215 :: 33554431 :: 67108863 :: 134217727 :: [])) hP (by decide) rfl (its := (⟨23, _, true⟩ :: ⟨24, _, true⟩ :: ⟨25, _, true⟩ :: ⟨26, _, true⟩ :: ⟨27, _, true⟩ :: ⟨28, _, true⟩ :: ⟨29, _, true⟩ :: ⟨30, _, true⟩ :: ⟨31, _, true⟩ :: ⟨32, _, true⟩ :: ⟨33, _, true⟩ :: ⟨34, _, true⟩ :: ⟨35, _, true⟩ :: ⟨36, _, true⟩ :: ⟨37, _, true⟩ :: ⟨38, _, true⟩ :: ⟨39, _, true⟩ :: ⟨40, _, true⟩ :: ⟨41, _, true⟩ :: ⟨42, _, true⟩ :: ⟨43, _, true⟩ :: ⟨44, _, true⟩ :: ⟨45, _, true⟩ :: ⟨46, _, true⟩ :: ⟨47, _, true⟩ :: ⟨48, _, true⟩ :: ⟨49, _, true⟩ :: ⟨4, _, true⟩ :: [])) (ks := []) (kk := []) (live := [4]) (env' := [(4, _)])
      (⟨Nat.le_of_ble_eq_true rfl, rfl,
        ⟨⟨rfl, rfl, fun _ τ hb ht hτ => R.mov (evt (hτ 0 _ rfl)) rfl ht⟩,
        ⟨⟨rfl, rfl, fun _ τ hb ht hτ => R.callG hC (row_ok l hl (by omega)) (Bors.cons (Bor.pur (evt (hτ 23 _ rfl)) rfl rfl) Bors.nil) (FrsR.one (.sl _ _ _ (frs_map fun _ => .u8 _))) ht⟩,
        ⟨⟨rfl, rfl, fun _ τ hb ht hτ => R.cvS (xs := (rowS l)) (SC.sl (hτ 24 _ rfl)) ht⟩,
        ⟨⟨rfl, rfl, fun _ τ hb ht hτ => R.mov (evt (hτ 0 _ rfl)) rfl ht⟩,
        ⟨⟨rfl, rfl, fun _ τ hb ht hτ => R.callG hC (rrow_ok l hl (by omega)) (Bors.cons (Bor.pur (evt (hτ 26 _ rfl)) rfl rfl) Bors.nil) (FrsR.one (.sl _ _ _ (frs_map fun _ => .u8 _))) ht⟩,
        ⟨⟨rfl, rfl, fun _ τ hb ht hτ => R.cvS (xs := (rowS l)) (SC.sl (hτ 27 _ rfl)) ht⟩,
        ⟨⟨rfl, rfl, fun _ τ hb ht hτ => R.bin (evt (hτ 25 _ rfl)) (evt (hτ 28 _ rfl)) rfl trivial ht⟩,
        ⟨⟨rfl, rfl, fun _ τ hb ht hτ => R.mov (evt (hτ 29 _ rfl)) rfl ht⟩,
        ⟨⟨rfl, ⟨_, 30, rfl, rfl, .inl ⟨_, rfl, gw (v := true) (beq_self_eq_true _) rfl⟩⟩, fun _ τ hb ht hτ => R.mov (evt (hτ 5 _ rfl)) rfl ht⟩,
        ⟨⟨rfl, ⟨_, 30, rfl, rfl, .inl ⟨_, rfl, gw (v := true) (beq_self_eq_true _) rfl⟩⟩, fun _ τ hb ht hτ => R.mov (evt (hτ 7 _ rfl)) rfl ht⟩,
        ⟨⟨rfl, ⟨_, 30, rfl, rfl, .inl ⟨_, rfl, gw (v := true) (beq_self_eq_true _) rfl⟩⟩, fun _ τ hb ht hτ => R.callG hC (rsame_ok (cutS b).1 (cutS b).1 (by have := cutS_len b; omega)) (Bors.cons (Bor.pur (evt (hτ 31 _ rfl)) rfl rfl) (Bors.cons (Bor.pur (evt (hτ 32 _ rfl)) rfl rfl) Bors.nil)) (FrsR.one (.bool _)) ht⟩,
        ⟨⟨rfl, rfl, fun _ τ hb ht hτ => R.pickT (evt (hτ 30 _ rfl)) (beq_self_eq_true _) (evt (hτ 33 _ rfl)) rfl ht⟩,
        ⟨⟨rfl, rfl, fun _ τ hb ht hτ => R.mov (evt (hτ 34 _ rfl)) rfl ht⟩,
        ⟨⟨rfl, ⟨_, 35, rfl, rfl, .inl ⟨_, rfl, gw (v := true) (beq_self_eq_true _) rfl⟩⟩, fun _ τ hb ht hτ => R.mov (evt (hτ 6 _ rfl)) rfl ht⟩,
        ⟨⟨rfl, ⟨_, 35, rfl, rfl, .inl ⟨_, rfl, gw (v := true) (beq_self_eq_true _) rfl⟩⟩, fun _ τ hb ht hτ => R.mov (evt (hτ 8 _ rfl)) rfl ht⟩,
        ⟨⟨rfl, ⟨_, 35, rfl, rfl, .inl ⟨_, rfl, gw (v := true) (beq_self_eq_true _) rfl⟩⟩, fun _ τ hb ht hτ => R.bin (evt (hτ 36 _ rfl)) (evt (hτ 37 _ rfl)) rfl trivial ht⟩,
        ⟨⟨rfl, rfl, fun _ τ hb ht hτ => R.pickT (evt (hτ 35 _ rfl)) (beq_self_eq_true _) (evt (hτ 38 _ rfl)) rfl ht⟩,
        ⟨⟨rfl, rfl, fun _ τ hb ht hτ => R.mov (evt (hτ 39 _ rfl)) rfl ht⟩,
        ⟨⟨rfl, ⟨_, 40, rfl, rfl, .inl ⟨_, rfl, gw (v := true) (beq_self_eq_true _) rfl⟩⟩, fun _ τ hb ht hτ => R.mov (evt (hτ 0 _ rfl)) rfl ht⟩,
        ⟨⟨rfl, ⟨_, 40, rfl, rfl, .inl ⟨_, rfl, gw (v := true) (beq_self_eq_true _) rfl⟩⟩, fun _ τ hb ht hτ => R.callG hC (linked_ok l hl (by omega)) (Bors.cons (Bor.pur (evt (hτ 41 _ rfl)) rfl rfl) Bors.nil) (FrsR.one (.int _)) ht⟩,
        ⟨⟨rfl, ⟨_, 40, rfl, rfl, .inl ⟨_, rfl, gw (v := true) (beq_self_eq_true _) rfl⟩⟩, fun _ τ hb ht hτ => R.mov (evt (hτ 0 _ rfl)) rfl ht⟩,
        ⟨⟨rfl, ⟨_, 40, rfl, rfl, .inl ⟨_, rfl, gw (v := true) (beq_self_eq_true _) rfl⟩⟩, fun _ τ hb ht hτ => R.callG hC (rlinked_ok l hl (by omega)) (Bors.cons (Bor.pur (evt (hτ 43 _ rfl)) rfl rfl) Bors.nil) (FrsR.one (.int _)) ht⟩,
        ⟨⟨rfl, ⟨_, 40, rfl, rfl, .inl ⟨_, rfl, gw (v := true) (beq_self_eq_true _) rfl⟩⟩, fun _ τ hb ht hτ => R.eqlN (linkS l) (linkS l) (evt (hτ 42 _ rfl)) (evt (hτ 44 _ rfl)) ht⟩,
        ⟨⟨rfl, rfl, fun _ τ hb ht hτ => R.pickT (evt (hτ 40 _ rfl)) (beq_self_eq_true _) (evt (hτ 45 _ rfl)) rfl ht⟩,
        ⟨⟨rfl, rfl, fun _ τ hb ht hτ => R.mov (evt (hτ 46 _ rfl)) rfl ht⟩,
        ⟨⟨rfl, ⟨_, 47, rfl, rfl, .inl ⟨_, rfl, gw (v := true) (decide_eq_true rfl) rfl⟩⟩, fun _ τ hb ht hτ => R.callG hC (works_ok) Bors.nil (FrsR.one (.bool _)) ht⟩,
        ⟨⟨rfl, rfl, fun _ τ hb ht hτ => R.pickT (evt (hτ 47 _ rfl)) (decide_eq_true rfl) (evt (hτ 48 _ rfl)) rfl ht⟩,
        ⟨⟨rfl, rfl, fun _ τ hb ht hτ => R.asg (evt (hτ 49 _ rfl)) rfl ht⟩,
        trivial⟩⟩⟩⟩⟩⟩⟩⟩⟩⟩⟩⟩⟩⟩⟩⟩⟩⟩⟩⟩⟩⟩⟩⟩⟩⟩⟩⟩, rfl, rfl, rfl⟩)
      rfl (bx' := []) rfl (n' := 50) rfl (⟨[4], [(4, _)], [], 50, rfl, rfl, rfl, ?_⟩)
    refine W.ret ?_
    exact Ends.one' (.inr rfl) rfl (rfl) rfl rfl trivial

end Go.Sx
