/- Proved: what functions of the given program compute (used by the theorem of this claim). Conditions: none but those that each theorem states. -/
import Derived.Test.YtggoegenobhanaaDoorHd12
set_option linter.unusedVariables false
set_option linter.unusedSimpArgs false
set_option linter.unnecessarySimpa false

namespace Go.Sx
open Go.Proofs
theorem byte_ok (h : HdS) (hw : h.wf) (a y : UInt8) : Fn Tryd.prog gl 4 [hdrD h, .u8 a, .u8 y] (.bool true) := by
  refine Fn.of (n := 93) Tryd.func4 rfl rfl rfl (Nat.le_of_ble_eq_true rfl) fun C hC hD => ?_
  have hpl := putS_len h hw
  have hat := a.toNat_lt
  refine W.seq ?_
  refine W.line (n := 2) (by decide) (its := []) (ks := []) (kk := []) (live := [0, 1, 2]) (env' := [(0, _), (1, _), (2, _)])
    (⟨Nat.le_of_ble_eq_true rfl, rfl,
      trivial, rfl, rfl, rfl⟩)
    rfl (bx' := []) rfl (n' := 93) rfl (⟨rfl, _, R.box (evt (show Sg.get _ 0 = some _ from rfl)) rfl rfl (Nat.le_of_ble_eq_true rfl), ⟨rfl, _, R.asg (show ev _ _ (.const (.bool false)) = some (.bool false) from rfl) rfl (Nat.le_of_ble_eq_true rfl), ⟨[1, 2, 3], [(1, _), (2, _), (3, _)], [(3, .var _)], 93, rfl, rfl, rfl, ?_⟩⟩⟩)
  refine W.seq ?_
  refine W.line (n := 4) (by decide) (its := [⟨11, _, true⟩, ⟨12, _, true⟩, ⟨13, _, true⟩, ⟨7, _, true⟩]) (ks := []) (kk := []) (live := [2, 3, 7]) (env' := [(2, _), (3, _), (7, _)])
    (⟨Nat.le_of_ble_eq_true rfl, rfl,
      ⟨⟨rfl, rfl, fun _ τ hb ht hτ => R.mov (evt (hτ 1 _ rfl)) rfl ht⟩,
      ⟨⟨rfl, rfl, fun _ τ hb ht hτ => R.conv (evt (hτ 11 _ rfl)) rfl ht⟩,
      ⟨⟨rfl, rfl, fun _ τ hb ht hτ => R.remN (a.toNat) (80) (evt (hτ 12 _ rfl)) (show ev _ _ (.const (.int .i64 80)) = some (.int ((80 : Nat) : Int)) from rfl) (by first | omega | (simp only [List.length_map, List.length_append, List.length_cons, List.length_nil, List.length_take, List.length_drop, List.length_replicate]; omega) | (simp; omega)) ht⟩,
      ⟨⟨rfl, rfl, fun _ τ hb ht hτ => R.asg (evt (hτ 13 _ rfl)) rfl ht⟩,
      trivial⟩⟩⟩⟩, rfl, rfl, rfl⟩)
    rfl (bx' := [(3, .var _)]) rfl (n' := 93) rfl (⟨[2, 3, 7], [(2, _), (3, _), (7, _)], [(3, .var _)], 93, rfl, rfl, rfl, ?_⟩)
  refine W.seq ?_
  refine W.line (n := 3) (by decide) (its := [⟨14, _, true⟩, ⟨15, _, true⟩, ⟨8, _, true⟩]) (ks := [(2, 15)]) (kk := [(2, 15)]) (live := [2, 3, 7, 8]) (env' := [(2, _), (3, _), (7, _), (8, _)])
    (⟨Nat.le_of_ble_eq_true rfl, rfl,
      ⟨⟨rfl, rfl, fun _ τ hb ht hτ => R.ldP (hτ 3 _ rfl) (hb 3 _ rfl) rfl rfl rfl rfl ht⟩,
      ⟨⟨rfl, rfl, fun _ τ hb ht hτ => R.callG hC (put_ok h hw) (Bors.cons (Bor.pur (evt (hτ 14 _ rfl)) rfl rfl) Bors.nil) (FrsR.one (.sl _ _ _ (frs_map fun _ => .u8 _))) ht⟩,
      ⟨⟨rfl, rfl, fun _ τ hb ht hτ => R.asgO (hτ 15 _ rfl) rfl ht (by decide)⟩,
      trivial⟩⟩⟩, rfl, rfl, rfl⟩)
    rfl (bx' := [(3, .var _)]) rfl (n' := 93) rfl (⟨[2, 3, 7, 8], [(2, _), (3, _), (7, _), (8, _)], [(3, .var _)], 93, rfl, rfl, rfl, ?_⟩)
  refine W.seq ?_
  refine W.seq ?_
  refine W.line (n := 3) (by decide) (its := [⟨16, _, true⟩, ⟨17, _, true⟩, ⟨18, _, true⟩]) (ks := []) (kk := []) (live := [2, 3, 7, 8, 18]) (env' := [(2, _), (3, _), (7, _), (8, _), (18, _)])
    (⟨Nat.le_of_ble_eq_true rfl, rfl,
      ⟨⟨rfl, rfl, fun _ τ hb ht hτ => R.al (hτ 8 _ rfl) ht (by decide)⟩,
      ⟨⟨rfl, rfl, fun _ τ hb ht hτ => R.lenE (SC.al (hτ 16 _ rfl) (hτ 8 _ rfl)) (List.length_map _) ht⟩,
      ⟨⟨rfl, rfl, fun _ τ hb ht hτ => R.neqN ((putS h).length) (80) (evt (hτ 17 _ rfl)) (show ev _ _ (.const (.int .i64 80)) = some (.int ((80 : Nat) : Int)) from rfl) ht⟩,
      trivial⟩⟩⟩, rfl, rfl, rfl⟩)
    rfl (bx' := [(3, .var _)]) rfl (n' := 93) rfl (⟨[2, 3, 7, 8, 18], [(2, _), (3, _), (7, _), (8, _), (18, _)], [(3, .var _)], 93, rfl, rfl, rfl, ?_⟩)
  refine W.condF rfl (decide_eq_false (fun h => h hpl)) ?_
  refine W.skip ?_
  refine W.seq ?_
  refine W.line (n := 10) (by decide) (its := [⟨19, _, true⟩, ⟨20, _, true⟩, ⟨21, _, true⟩, ⟨22, _, true⟩, ⟨23, _, true⟩, ⟨24, _, true⟩, ⟨25, _, true⟩, ⟨26, _, true⟩, ⟨27, _, true⟩]) (ks := []) (kk := []) (live := [2, 3, 7, 8, 19, 26, 27]) (env' := [(2, _), (3, _), (7, _), (8, _), (19, _), (26, _), (27, _)])
    (⟨Nat.le_of_ble_eq_true rfl, rfl,
      ⟨⟨rfl, rfl, fun _ τ hb ht hτ => R.al (hτ 8 _ rfl) ht (by decide)⟩,
      ⟨⟨rfl, rfl, fun _ τ hb ht hτ => R.mov (evt (hτ 7 _ rfl)) rfl ht⟩,
      ⟨⟨rfl, rfl, fun _ τ hb ht hτ => R.al (hτ 8 _ rfl) ht (by decide)⟩,
      ⟨⟨rfl, rfl, fun _ τ hb ht hτ => R.mov (evt (hτ 7 _ rfl)) rfl ht⟩,
      ⟨⟨rfl, rfl, fun _ τ hb ht hτ => R.idxN ((a.toNat % 80)) (SC.al (hτ 21 _ rfl) (hτ 8 _ rfl)) (evoI (evt (hτ 22 _ rfl))) rfl (by first | omega | (simp only [List.length_map, List.length_append, List.length_cons, List.length_nil, List.length_take, List.length_drop, List.length_replicate]; omega) | (simp; omega)) ht (by decide)⟩,
      ⟨⟨rfl, rfl, fun _ τ hb ht hτ => R.ldE (hτ 23 _ rfl) (SC.al (hτ 21 _ rfl) (hτ 8 _ rfl)) (map_get! (l := (putS h)) (by first | omega | (simp only [List.length_map, List.length_append, List.length_cons, List.length_nil, List.length_take, List.length_drop, List.length_replicate]; omega) | (simp; omega))) rfl rfl rfl rfl ht⟩,
      ⟨⟨rfl, rfl, fun _ τ hb ht hτ => R.mov (evt (hτ 2 _ rfl)) rfl ht⟩,
      ⟨⟨rfl, rfl, fun _ τ hb ht hτ => R.bin (evt (hτ 24 _ rfl)) (evt (hτ 25 _ rfl)) rfl trivial ht⟩,
      ⟨⟨rfl, rfl, fun _ τ hb ht hτ => R.idxN ((a.toNat % 80)) (SC.al (hτ 19 _ rfl) (hτ 8 _ rfl)) (evoI (evt (hτ 20 _ rfl))) rfl (by first | omega | (simp only [List.length_map, List.length_append, List.length_cons, List.length_nil, List.length_take, List.length_drop, List.length_replicate]; omega) | (simp; omega)) ht (by decide)⟩,
      trivial⟩⟩⟩⟩⟩⟩⟩⟩⟩, rfl, rfl, rfl⟩)
    rfl (bx' := [(3, .var _)]) rfl (n' := 93) rfl (⟨rfl, _, R.stEY (show Sg.get _ 27 = some _ from rfl) (Or.inr (show Sg.get _ 19 = some _ from rfl)) (show Sg.get _ 8 = some _ from rfl) (map_get! (l := (putS h)) (by first | omega | (simp only [List.length_map, List.length_append, List.length_cons, List.length_nil, List.length_take, List.length_drop, List.length_replicate]; omega) | (simp; omega))) rfl (evt (show Sg.get _ 26 = some _ from rfl)) (by rfl) (by rfl) (by rfl) (by rfl) upd_nil set_map, ⟨[2, 3, 7, 8], [(2, _), (3, _), (7, _), (8, _)], [(3, .var _)], 93, rfl, rfl, rfl, ?_⟩⟩)
  refine W.seq ?_
  obtain ⟨x, hx⟩ : ∃ x, x = hd80 (flip (putS h) (a.toNat % 80) y) := ⟨_, rfl⟩
  have hxw : x.wf := by rw [hx]; exact hd80_wf _ (by rw [flip_len]; exact hpl)
  have hxp := hxw.1
  have hxr := hxw.2
  have fb := flip_back h hw (a.toNat % 80) y (by omega) x hx
  refine W.line (n := 8) (by decide) (its := [⟨29, _, true⟩, ⟨30, _, true⟩, ⟨28, _, true⟩, ⟨31, _, true⟩, ⟨32, _, true⟩]) (ks := []) (kk := []) (live := [2, 3, 7, 31, 32]) (env' := [(2, _), (3, _), (7, _), (31, _), (32, _)])
    (⟨Nat.le_of_ble_eq_true rfl, rfl,
      ⟨⟨rfl, rfl, fun _ τ hb ht hτ => R.al (hτ 8 _ rfl) ht (by decide)⟩,
      ⟨⟨rfl, rfl, fun _ τ hb ht hτ => R.callZ (r' := .tup [hdrD x, .int ((0 : Nat) : Int)]) (get_ok (flip (putS h) (a.toNat % 80) y) (by rw [flip_len, hpl]; decide)) hC (Bors.cons (Bor.sc (SC.al (hτ 29 _ rfl) (hτ 8 _ rfl)) (brw_map (fun _ => rfl))) Bors.nil) (FrsR.two (frs_hdr _) (.int _)) (zget (by rw [hx]; exact get_80 (by rw [flip_len]; exact hpl))) ht⟩,
      ⟨⟨rfl, rfl, fun _ τ hb ht hτ => R.movT (hτ 30 _ rfl) rfl ht⟩,
      ⟨⟨rfl, rfl, fun _ τ hb ht hτ => R.ext (hτ 28 _ rfl) rfl rfl ht⟩,
      ⟨⟨rfl, rfl, fun _ τ hb ht hτ => R.ext (hτ 28 _ rfl) rfl rfl ht⟩,
      trivial⟩⟩⟩⟩⟩, rfl, rfl, rfl⟩)
    rfl (bx' := [(3, .var _)]) rfl (n' := 93) rfl (⟨rfl, _, R.alloc rfl (Nat.le_of_ble_eq_true rfl), ⟨rfl, _, R.stZ (show Sg.get _ 9 = some _ from rfl) (show Sg.box _ 9 = some _ from rfl) rfl (evt (show Sg.get _ 31 = some _ from rfl)) (by rfl) (by rfl) (by rfl) (by rfl) rfl, ⟨rfl, _, R.asg (evt (show Sg.get _ 32 = some _ from rfl)) rfl (Nat.le_of_ble_eq_true rfl), ⟨[2, 3, 7, 9, 10], [(2, _), (3, _), (7, _), (9, _), (10, _)], [(9, .var _), (3, .var _)], 93, rfl, rfl, rfl, ?_⟩⟩⟩⟩)
  refine W.seq ?_
  refine W.seq ?_
  refine W.line (n := 10) (by decide) (its := [⟨33, _, true⟩, ⟨34, _, true⟩, ⟨35, _, true⟩, ⟨36, _, true⟩, ⟨37, _, true⟩, ⟨38, _, true⟩, ⟨39, _, true⟩, ⟨40, _, true⟩, ⟨41, _, true⟩, ⟨42, _, true⟩]) (ks := []) (kk := []) (live := [2, 3, 7, 9, 42]) (env' := [(2, _), (3, _), (7, _), (9, _), (42, _)])
    (⟨Nat.le_of_ble_eq_true rfl, rfl,
      ⟨⟨rfl, rfl, fun _ τ hb ht hτ => R.mov (evt (hτ 10 _ rfl)) rfl ht⟩,
      ⟨⟨rfl, rfl, fun _ τ hb ht hτ => R.neqN (0) (0) (evt (hτ 33 _ rfl)) (show ev _ _ (.const (.int .i64 0)) = some (.int ((0 : Nat) : Int)) from rfl) ht⟩,
      ⟨⟨rfl, rfl, fun _ τ hb ht hτ => R.mov (evt (hτ 34 _ rfl)) rfl ht⟩,
      ⟨⟨rfl, ⟨_, 35, rfl, rfl, .inl ⟨_, rfl, gw (v := false) (rfl) rfl⟩⟩, fun _ τ hb ht hτ => R.ldP (hτ 9 _ rfl) (hb 9 _ rfl) rfl rfl rfl rfl ht⟩,
      ⟨⟨rfl, ⟨_, 35, rfl, rfl, .inl ⟨_, rfl, gw (v := false) (rfl) rfl⟩⟩, fun _ τ hb ht hτ => R.ldP (hτ 3 _ rfl) (hb 3 _ rfl) rfl rfl rfl rfl ht⟩,
      ⟨⟨rfl, ⟨_, 35, rfl, rfl, .inl ⟨_, rfl, gw (v := false) (rfl) rfl⟩⟩, fun _ τ hb ht hτ => R.eqD (neg := false) (b' := (x == h)) (eqv_hdr _ _) rfl (evt (hτ 36 _ rfl)) (evt (hτ 37 _ rfl)) rfl rfl rfl rfl (rfl) ht⟩,
      ⟨⟨rfl, ⟨_, 35, rfl, rfl, .inl ⟨_, rfl, gw (v := false) (rfl) rfl⟩⟩, fun _ τ hb ht hτ => R.mov (evt (hτ 2 _ rfl)) rfl ht⟩,
      ⟨⟨rfl, ⟨_, 35, rfl, rfl, .inl ⟨_, rfl, gw (v := false) (rfl) rfl⟩⟩, fun _ τ hb ht hτ => R.bin (evt (hτ 39 _ rfl)) (show ev _ _ (.const (.int .u8 0)) = some (.u8 0) from rfl) rfl trivial ht⟩,
      ⟨⟨rfl, ⟨_, 35, rfl, rfl, .inl ⟨_, rfl, gw (v := false) (rfl) rfl⟩⟩, fun _ τ hb ht hτ => R.neB (evt (hτ 38 _ rfl)) (evt (hτ 40 _ rfl)) ht⟩,
      ⟨⟨rfl, rfl, fun _ τ hb ht hτ => R.pickF (evt (hτ 35 _ rfl)) (rfl) (evt (hτ 41 _ rfl)) rfl ht⟩,
      trivial⟩⟩⟩⟩⟩⟩⟩⟩⟩⟩, rfl, rfl, rfl⟩)
    rfl (bx' := [(9, .var _), (3, .var _)]) rfl (n' := 93) rfl (⟨[2, 3, 7, 9, 42], [(2, _), (3, _), (7, _), (9, _), (42, _)], [(9, .var _), (3, .var _)], 93, rfl, rfl, rfl, ?_⟩)
  refine W.condF rfl (by rw [hx]; exact flip_same h hw _ y (by omega)) ?_
  refine W.skip ?_
  refine W.seq ?_
  refine W.seq ?_
  refine W.line (n := 2) (by decide) (its := [⟨43, _, true⟩, ⟨44, _, true⟩]) (ks := []) (kk := []) (live := [2, 3, 7, 9, 44]) (env' := [(2, _), (3, _), (7, _), (9, _), (44, _)])
    (⟨Nat.le_of_ble_eq_true rfl, rfl,
      ⟨⟨rfl, rfl, fun _ τ hb ht hτ => R.mov (evt (hτ 7 _ rfl)) rfl ht⟩,
      ⟨⟨rfl, rfl, fun _ τ hb ht hτ => R.lssN ((a.toNat % 80)) (4) (evt (hτ 43 _ rfl)) (show ev _ _ (.const (.int .i64 4)) = some (.int ((4 : Nat) : Int)) from rfl) ht⟩,
      trivial⟩⟩, rfl, rfl, rfl⟩)
    rfl (bx' := [(9, .var _), (3, .var _)]) rfl (n' := 93) rfl (⟨[2, 3, 7, 9, 44], [(2, _), (3, _), (7, _), (9, _), (44, _)], [(9, .var _), (3, .var _)], 93, rfl, rfl, rfl, ?_⟩)
  refine W.condD rfl (fun hc44 => ?_) (fun hc44 => ?_)
  · refine W.line (n := 4) (by decide) (its := [⟨45, _, true⟩, ⟨46, _, true⟩, ⟨47, _, true⟩]) (ks := []) (kk := []) (live := [3, 9, 46, 47]) (env' := [(3, _), (9, _), (46, _), (47, _)])
      (⟨Nat.le_of_ble_eq_true rfl, rfl,
        ⟨⟨rfl, rfl, fun _ τ hb ht hτ => R.fdP (hτ 3 _ rfl) ht⟩,
        ⟨⟨rfl, rfl, fun _ τ hb ht hτ => R.ldP (hτ 45 _ rfl) (hb 3 _ rfl) rfl rfl rfl rfl ht⟩,
        ⟨⟨rfl, rfl, fun _ τ hb ht hτ => R.fdP (hτ 9 _ rfl) ht⟩,
        trivial⟩⟩⟩, rfl, rfl, rfl⟩)
      rfl (bx' := [(9, .var _), (3, .var _)]) rfl (n' := 93) rfl (⟨rfl, _, R.stZ (show Sg.get _ 47 = some _ from rfl) (show Sg.box _ 9 = some _ from rfl) rfl (evt (show Sg.get _ 46 = some _ from rfl)) (by rfl) (by rfl) (by rfl) (by rfl) rfl, ⟨[3, 9], [(3, _), (9, _)], [(9, .var _), (3, .var _)], 93, rfl, rfl, rfl, ?_⟩⟩)
    refine W.seq ?_
    refine W.line (n := 7) (by decide) (its := [⟨87, _, true⟩, ⟨88, _, true⟩, ⟨89, _, true⟩, ⟨90, _, true⟩, ⟨91, _, true⟩, ⟨92, _, true⟩, ⟨6, _, true⟩]) (ks := []) (kk := []) (live := [6]) (env' := [(6, _)])
      (⟨Nat.le_of_ble_eq_true rfl, rfl,
        ⟨⟨rfl, rfl, fun _ τ hb ht hτ => R.ldP (hτ 9 _ rfl) (hb 9 _ rfl) rfl rfl rfl rfl ht⟩,
        ⟨⟨rfl, rfl, fun _ τ hb ht hτ => R.ldP (hτ 3 _ rfl) (hb 3 _ rfl) rfl rfl rfl rfl ht⟩,
        ⟨⟨rfl, rfl, fun _ τ hb ht hτ => R.eqD (neg := false) (b' := ({ x with ver := h.ver } == h)) (eqv_hdr { x with ver := h.ver } h) rfl (evt (hτ 87 _ rfl)) (evt (hτ 88 _ rfl)) rfl rfl rfl rfl (rfl) ht⟩,
        ⟨⟨rfl, rfl, fun _ τ hb ht hτ => R.mov (evt (hτ 89 _ rfl)) rfl ht⟩,
        ⟨⟨rfl, ⟨_, 90, rfl, rfl, .inl ⟨_, rfl, gw (v := true) (beq_iff_eq.2 (fb.1 hc44)) rfl⟩⟩, fun _ τ hb ht hτ => R.callG hC (works_ok) Bors.nil (FrsR.one (.bool _)) ht⟩,
        ⟨⟨rfl, rfl, fun _ τ hb ht hτ => R.pickT (evt (hτ 90 _ rfl)) (beq_iff_eq.2 (fb.1 hc44)) (evt (hτ 91 _ rfl)) rfl ht⟩,
        ⟨⟨rfl, rfl, fun _ τ hb ht hτ => R.asg (evt (hτ 92 _ rfl)) rfl ht⟩,
        trivial⟩⟩⟩⟩⟩⟩⟩, rfl, rfl, rfl⟩)
      rfl (bx' := [(9, .var _), (3, .var _)]) rfl (n' := 93) rfl (⟨[6], [(6, _)], [(9, .var _), (3, .var _)], 93, rfl, rfl, rfl, ?_⟩)
    refine W.ret ?_
    exact Ends.one' (.inr rfl) rfl (rfl) rfl rfl trivial
  · refine W.seq ?_
    refine W.line (n := 2) (by decide) (its := [⟨48, _, true⟩, ⟨49, _, true⟩]) (ks := []) (kk := []) (live := [2, 3, 7, 9, 49]) (env' := [(2, _), (3, _), (7, _), (9, _), (49, _)])
      (⟨Nat.le_of_ble_eq_true rfl, rfl,
        ⟨⟨rfl, rfl, fun _ τ hb ht hτ => R.mov (evt (hτ 7 _ rfl)) rfl ht⟩,
        ⟨⟨rfl, rfl, fun _ τ hb ht hτ => R.lssN ((a.toNat % 80)) (36) (evt (hτ 48 _ rfl)) (show ev _ _ (.const (.int .i64 36)) = some (.int ((36 : Nat) : Int)) from rfl) ht⟩,
        trivial⟩⟩, rfl, rfl, rfl⟩)
      rfl (bx' := [(9, .var _), (3, .var _)]) rfl (n' := 93) rfl (⟨[2, 3, 7, 9, 49], [(2, _), (3, _), (7, _), (9, _), (49, _)], [(9, .var _), (3, .var _)], 93, rfl, rfl, rfl, ?_⟩)
    refine W.condD rfl (fun hc49 => ?_) (fun hc49 => ?_)
    · refine W.line (n := 12) (by decide) (its := [⟨50, _, true⟩, ⟨51, _, true⟩, ⟨52, _, true⟩, ⟨53, _, true⟩, ⟨54, _, true⟩, ⟨55, _, true⟩, ⟨56, _, true⟩, ⟨57, _, true⟩, ⟨58, _, true⟩, ⟨59, _, true⟩, ⟨60, _, true⟩]) (ks := []) (kk := []) (live := [3, 9, 58, 60]) (env' := [(3, _), (9, _), (58, _), (60, _)])
        (⟨Nat.le_of_ble_eq_true rfl, rfl,
          ⟨⟨rfl, rfl, fun _ τ hb ht hτ => R.mov (evt (hτ 7 _ rfl)) rfl ht⟩,
          ⟨⟨rfl, rfl, fun _ τ hb ht hτ => R.subN ((a.toNat % 80)) (4) (evt (hτ 50 _ rfl)) (show ev _ _ (.const (.int .i64 4)) = some (.int ((4 : Nat) : Int)) from rfl) (by first | omega | (simp only [List.length_map, List.length_append, List.length_cons, List.length_nil, List.length_take, List.length_drop, List.length_replicate]; omega) | (simp; omega)) (by first | omega | (simp only [List.length_map, List.length_append, List.length_cons, List.length_nil, List.length_take, List.length_drop, List.length_replicate]; omega) | (simp; omega)) ht⟩,
          ⟨⟨rfl, rfl, fun _ τ hb ht hτ => R.mov (evt (hτ 7 _ rfl)) rfl ht⟩,
          ⟨⟨rfl, rfl, fun _ τ hb ht hτ => R.subN ((a.toNat % 80)) (4) (evt (hτ 52 _ rfl)) (show ev _ _ (.const (.int .i64 4)) = some (.int ((4 : Nat) : Int)) from rfl) (by first | omega | (simp only [List.length_map, List.length_append, List.length_cons, List.length_nil, List.length_take, List.length_drop, List.length_replicate]; omega) | (simp; omega)) (by first | omega | (simp only [List.length_map, List.length_append, List.length_cons, List.length_nil, List.length_take, List.length_drop, List.length_replicate]; omega) | (simp; omega)) ht⟩,
          ⟨⟨rfl, rfl, fun _ τ hb ht hτ => R.fdP (hτ 9 _ rfl) ht⟩,
          ⟨⟨rfl, rfl, fun _ τ hb ht hτ => R.idxP (((a.toNat % 80) - 4)) (hτ 54 _ rfl) (evoI (evt (hτ 53 _ rfl))) rfl (by first | omega | (simp only [List.length_map, List.length_append, List.length_cons, List.length_nil, List.length_take, List.length_drop, List.length_replicate]; omega) | (simp; omega)) ht⟩,
          ⟨⟨rfl, rfl, fun _ τ hb ht hτ => R.ldP (hτ 55 _ rfl) (hb 9 _ rfl) (loc_agg (m := 1) rfl rfl (loc_arr (map_get! (l := x.prev) (by first | omega | (simp only [List.length_map, List.length_append, List.length_cons, List.length_nil, List.length_take, List.length_drop, List.length_replicate]; omega) | (simp; omega))) loc_nil rfl) (by first | omega | (simp only [List.length_map, List.length_append, List.length_cons, List.length_nil, List.length_take, List.length_drop, List.length_replicate]; omega) | (simp; omega))) rfl rfl rfl ht⟩,
          ⟨⟨rfl, rfl, fun _ τ hb ht hτ => R.mov (evt (hτ 2 _ rfl)) rfl ht⟩,
          ⟨⟨rfl, rfl, fun _ τ hb ht hτ => R.bin (evt (hτ 56 _ rfl)) (evt (hτ 57 _ rfl)) rfl trivial ht⟩,
          ⟨⟨rfl, rfl, fun _ τ hb ht hτ => R.fdP (hτ 9 _ rfl) ht⟩,
          ⟨⟨rfl, rfl, fun _ τ hb ht hτ => R.idxP (((a.toNat % 80) - 4)) (hτ 59 _ rfl) (evoI (evt (hτ 51 _ rfl))) rfl (by first | omega | (simp only [List.length_map, List.length_append, List.length_cons, List.length_nil, List.length_take, List.length_drop, List.length_replicate]; omega) | (simp; omega)) ht⟩,
          trivial⟩⟩⟩⟩⟩⟩⟩⟩⟩⟩⟩, rfl, rfl, rfl⟩)
        rfl (bx' := [(9, .var _), (3, .var _)]) rfl (n' := 93) rfl (⟨rfl, _, R.stZ (show Sg.get _ 60 = some _ from rfl) (show Sg.box _ 9 = some _ from rfl) (loc_agg (m := 1) rfl rfl (loc_arr (map_get! (l := x.prev) (by first | omega | (simp only [List.length_map, List.length_append, List.length_cons, List.length_nil, List.length_take, List.length_drop, List.length_replicate]; omega) | (simp; omega))) loc_nil rfl) (by first | omega | (simp only [List.length_map, List.length_append, List.length_cons, List.length_nil, List.length_take, List.length_drop, List.length_replicate]; omega) | (simp; omega))) (evt (show Sg.get _ 58 = some _ from rfl)) (by rfl) (by rfl) (by rfl) (by rfl) (upd_agg rfl (upd_arr (map_get! (l := x.prev) (by first | omega | (simp only [List.length_map, List.length_append, List.length_cons, List.length_nil, List.length_take, List.length_drop, List.length_replicate]; omega) | (simp; omega))) upd_nil set_map) rfl), ⟨[3, 9], [(3, _), (9, _)], [(9, .var _), (3, .var _)], 93, rfl, rfl, rfl, ?_⟩⟩)
      refine W.seq ?_
      refine W.line (n := 7) (by decide) (its := [⟨87, _, true⟩, ⟨88, _, true⟩, ⟨89, _, true⟩, ⟨90, _, true⟩, ⟨91, _, true⟩, ⟨92, _, true⟩, ⟨6, _, true⟩]) (ks := []) (kk := []) (live := [6]) (env' := [(6, _)])
        (⟨Nat.le_of_ble_eq_true rfl, rfl,
          ⟨⟨rfl, rfl, fun _ τ hb ht hτ => R.ldP (hτ 9 _ rfl) (hb 9 _ rfl) rfl rfl rfl rfl ht⟩,
          ⟨⟨rfl, rfl, fun _ τ hb ht hτ => R.ldP (hτ 3 _ rfl) (hb 3 _ rfl) rfl rfl rfl rfl ht⟩,
          ⟨⟨rfl, rfl, fun _ τ hb ht hτ => R.eqD (neg := false) (b' := ({ x with prev := x.prev.set ((a.toNat % 80) - 4) (x.prev[(a.toNat % 80) - 4]! ^^^ y) } == h)) (eqv_hdr { x with prev := x.prev.set ((a.toNat % 80) - 4) (x.prev[(a.toNat % 80) - 4]! ^^^ y) } h) rfl (evt (hτ 87 _ rfl)) (evt (hτ 88 _ rfl)) rfl rfl rfl rfl (rfl) ht⟩,
          ⟨⟨rfl, rfl, fun _ τ hb ht hτ => R.mov (evt (hτ 89 _ rfl)) rfl ht⟩,
          ⟨⟨rfl, ⟨_, 90, rfl, rfl, .inl ⟨_, rfl, gw (v := true) (beq_iff_eq.2 (fb.2.1 hc44 hc49)) rfl⟩⟩, fun _ τ hb ht hτ => R.callG hC (works_ok) Bors.nil (FrsR.one (.bool _)) ht⟩,
          ⟨⟨rfl, rfl, fun _ τ hb ht hτ => R.pickT (evt (hτ 90 _ rfl)) (beq_iff_eq.2 (fb.2.1 hc44 hc49)) (evt (hτ 91 _ rfl)) rfl ht⟩,
          ⟨⟨rfl, rfl, fun _ τ hb ht hτ => R.asg (evt (hτ 92 _ rfl)) rfl ht⟩,
          trivial⟩⟩⟩⟩⟩⟩⟩, rfl, rfl, rfl⟩)
        rfl (bx' := [(9, .var _), (3, .var _)]) rfl (n' := 93) rfl (⟨[6], [(6, _)], [(9, .var _), (3, .var _)], 93, rfl, rfl, rfl, ?_⟩)
      refine W.ret ?_
      exact Ends.one' (.inr rfl) rfl (rfl) rfl rfl trivial
    · refine W.seq ?_
      refine W.line (n := 2) (by decide) (its := [⟨61, _, true⟩, ⟨62, _, true⟩]) (ks := []) (kk := []) (live := [2, 3, 7, 9, 62]) (env' := [(2, _), (3, _), (7, _), (9, _), (62, _)])
        (⟨Nat.le_of_ble_eq_true rfl, rfl,
          ⟨⟨rfl, rfl, fun _ τ hb ht hτ => R.mov (evt (hτ 7 _ rfl)) rfl ht⟩,
          ⟨⟨rfl, rfl, fun _ τ hb ht hτ => R.lssN ((a.toNat % 80)) (68) (evt (hτ 61 _ rfl)) (show ev _ _ (.const (.int .i64 68)) = some (.int ((68 : Nat) : Int)) from rfl) ht⟩,
          trivial⟩⟩, rfl, rfl, rfl⟩)
        rfl (bx' := [(9, .var _), (3, .var _)]) rfl (n' := 93) rfl (⟨[2, 3, 7, 9, 62], [(2, _), (3, _), (7, _), (9, _), (62, _)], [(9, .var _), (3, .var _)], 93, rfl, rfl, rfl, ?_⟩)
      refine W.condD rfl (fun hc62 => ?_) (fun hc62 => ?_)
      · refine W.line (n := 12) (by decide) (its := [⟨63, _, true⟩, ⟨64, _, true⟩, ⟨65, _, true⟩, ⟨66, _, true⟩, ⟨67, _, true⟩, ⟨68, _, true⟩, ⟨69, _, true⟩, ⟨70, _, true⟩, ⟨71, _, true⟩, ⟨72, _, true⟩, ⟨73, _, true⟩]) (ks := []) (kk := []) (live := [3, 9, 71, 73]) (env' := [(3, _), (9, _), (71, _), (73, _)])
          (⟨Nat.le_of_ble_eq_true rfl, rfl,
            ⟨⟨rfl, rfl, fun _ τ hb ht hτ => R.mov (evt (hτ 7 _ rfl)) rfl ht⟩,
            ⟨⟨rfl, rfl, fun _ τ hb ht hτ => R.subN ((a.toNat % 80)) (36) (evt (hτ 63 _ rfl)) (show ev _ _ (.const (.int .i64 36)) = some (.int ((36 : Nat) : Int)) from rfl) (by first | omega | (simp only [List.length_map, List.length_append, List.length_cons, List.length_nil, List.length_take, List.length_drop, List.length_replicate]; omega) | (simp; omega)) (by first | omega | (simp only [List.length_map, List.length_append, List.length_cons, List.length_nil, List.length_take, List.length_drop, List.length_replicate]; omega) | (simp; omega)) ht⟩,
            ⟨⟨rfl, rfl, fun _ τ hb ht hτ => R.mov (evt (hτ 7 _ rfl)) rfl ht⟩,
            ⟨⟨rfl, rfl, fun _ τ hb ht hτ => R.subN ((a.toNat % 80)) (36) (evt (hτ 65 _ rfl)) (show ev _ _ (.const (.int .i64 36)) = some (.int ((36 : Nat) : Int)) from rfl) (by first | omega | (simp only [List.length_map, List.length_append, List.length_cons, List.length_nil, List.length_take, List.length_drop, List.length_replicate]; omega) | (simp; omega)) (by first | omega | (simp only [List.length_map, List.length_append, List.length_cons, List.length_nil, List.length_take, List.length_drop, List.length_replicate]; omega) | (simp; omega)) ht⟩,
            ⟨⟨rfl, rfl, fun _ τ hb ht hτ => R.fdP (hτ 9 _ rfl) ht⟩,
            ⟨⟨rfl, rfl, fun _ τ hb ht hτ => R.idxP (((a.toNat % 80) - 36)) (hτ 67 _ rfl) (evoI (evt (hτ 66 _ rfl))) rfl (by first | omega | (simp only [List.length_map, List.length_append, List.length_cons, List.length_nil, List.length_take, List.length_drop, List.length_replicate]; omega) | (simp; omega)) ht⟩,
            ⟨⟨rfl, rfl, fun _ τ hb ht hτ => R.ldP (hτ 68 _ rfl) (hb 9 _ rfl) (loc_agg (m := 33) rfl rfl (loc_arr (map_get! (l := x.root) (by first | omega | (simp only [List.length_map, List.length_append, List.length_cons, List.length_nil, List.length_take, List.length_drop, List.length_replicate]; omega) | (simp; omega))) loc_nil rfl) (by first | omega | (simp only [List.length_map, List.length_append, List.length_cons, List.length_nil, List.length_take, List.length_drop, List.length_replicate]; omega) | (simp; omega))) rfl rfl rfl ht⟩,
            ⟨⟨rfl, rfl, fun _ τ hb ht hτ => R.mov (evt (hτ 2 _ rfl)) rfl ht⟩,
            ⟨⟨rfl, rfl, fun _ τ hb ht hτ => R.bin (evt (hτ 69 _ rfl)) (evt (hτ 70 _ rfl)) rfl trivial ht⟩,
            ⟨⟨rfl, rfl, fun _ τ hb ht hτ => R.fdP (hτ 9 _ rfl) ht⟩,
            ⟨⟨rfl, rfl, fun _ τ hb ht hτ => R.idxP (((a.toNat % 80) - 36)) (hτ 72 _ rfl) (evoI (evt (hτ 64 _ rfl))) rfl (by first | omega | (simp only [List.length_map, List.length_append, List.length_cons, List.length_nil, List.length_take, List.length_drop, List.length_replicate]; omega) | (simp; omega)) ht⟩,
            trivial⟩⟩⟩⟩⟩⟩⟩⟩⟩⟩⟩, rfl, rfl, rfl⟩)
          rfl (bx' := [(9, .var _), (3, .var _)]) rfl (n' := 93) rfl (⟨rfl, _, R.stZ (show Sg.get _ 73 = some _ from rfl) (show Sg.box _ 9 = some _ from rfl) (loc_agg (m := 33) rfl rfl (loc_arr (map_get! (l := x.root) (by first | omega | (simp only [List.length_map, List.length_append, List.length_cons, List.length_nil, List.length_take, List.length_drop, List.length_replicate]; omega) | (simp; omega))) loc_nil rfl) (by first | omega | (simp only [List.length_map, List.length_append, List.length_cons, List.length_nil, List.length_take, List.length_drop, List.length_replicate]; omega) | (simp; omega))) (evt (show Sg.get _ 71 = some _ from rfl)) (by rfl) (by rfl) (by rfl) (by rfl) (upd_agg rfl (upd_arr (map_get! (l := x.root) (by first | omega | (simp only [List.length_map, List.length_append, List.length_cons, List.length_nil, List.length_take, List.length_drop, List.length_replicate]; omega) | (simp; omega))) upd_nil set_map) rfl), ⟨[3, 9], [(3, _), (9, _)], [(9, .var _), (3, .var _)], 93, rfl, rfl, rfl, ?_⟩⟩)
        refine W.seq ?_
        refine W.line (n := 7) (by decide) (its := [⟨87, _, true⟩, ⟨88, _, true⟩, ⟨89, _, true⟩, ⟨90, _, true⟩, ⟨91, _, true⟩, ⟨92, _, true⟩, ⟨6, _, true⟩]) (ks := []) (kk := []) (live := [6]) (env' := [(6, _)])
          (⟨Nat.le_of_ble_eq_true rfl, rfl,
            ⟨⟨rfl, rfl, fun _ τ hb ht hτ => R.ldP (hτ 9 _ rfl) (hb 9 _ rfl) rfl rfl rfl rfl ht⟩,
            ⟨⟨rfl, rfl, fun _ τ hb ht hτ => R.ldP (hτ 3 _ rfl) (hb 3 _ rfl) rfl rfl rfl rfl ht⟩,
            ⟨⟨rfl, rfl, fun _ τ hb ht hτ => R.eqD (neg := false) (b' := ({ x with root := x.root.set ((a.toNat % 80) - 36) (x.root[(a.toNat % 80) - 36]! ^^^ y) } == h)) (eqv_hdr { x with root := x.root.set ((a.toNat % 80) - 36) (x.root[(a.toNat % 80) - 36]! ^^^ y) } h) rfl (evt (hτ 87 _ rfl)) (evt (hτ 88 _ rfl)) rfl rfl rfl rfl (rfl) ht⟩,
            ⟨⟨rfl, rfl, fun _ τ hb ht hτ => R.mov (evt (hτ 89 _ rfl)) rfl ht⟩,
            ⟨⟨rfl, ⟨_, 90, rfl, rfl, .inl ⟨_, rfl, gw (v := true) (beq_iff_eq.2 (fb.2.2.1 hc49 hc62)) rfl⟩⟩, fun _ τ hb ht hτ => R.callG hC (works_ok) Bors.nil (FrsR.one (.bool _)) ht⟩,
            ⟨⟨rfl, rfl, fun _ τ hb ht hτ => R.pickT (evt (hτ 90 _ rfl)) (beq_iff_eq.2 (fb.2.2.1 hc49 hc62)) (evt (hτ 91 _ rfl)) rfl ht⟩,
            ⟨⟨rfl, rfl, fun _ τ hb ht hτ => R.asg (evt (hτ 92 _ rfl)) rfl ht⟩,
            trivial⟩⟩⟩⟩⟩⟩⟩, rfl, rfl, rfl⟩)
          rfl (bx' := [(9, .var _), (3, .var _)]) rfl (n' := 93) rfl (⟨[6], [(6, _)], [(9, .var _), (3, .var _)], 93, rfl, rfl, rfl, ?_⟩)
        refine W.ret ?_
        exact Ends.one' (.inr rfl) rfl (rfl) rfl rfl trivial
      · refine W.seq ?_
        refine W.line (n := 2) (by decide) (its := [⟨74, _, true⟩, ⟨75, _, true⟩]) (ks := []) (kk := []) (live := [3, 7, 9, 75]) (env' := [(3, _), (7, _), (9, _), (75, _)])
          (⟨Nat.le_of_ble_eq_true rfl, rfl,
            ⟨⟨rfl, rfl, fun _ τ hb ht hτ => R.mov (evt (hτ 7 _ rfl)) rfl ht⟩,
            ⟨⟨rfl, rfl, fun _ τ hb ht hτ => R.lssN ((a.toNat % 80)) (72) (evt (hτ 74 _ rfl)) (show ev _ _ (.const (.int .i64 72)) = some (.int ((72 : Nat) : Int)) from rfl) ht⟩,
            trivial⟩⟩, rfl, rfl, rfl⟩)
          rfl (bx' := [(9, .var _), (3, .var _)]) rfl (n' := 93) rfl (⟨[3, 7, 9, 75], [(3, _), (7, _), (9, _), (75, _)], [(9, .var _), (3, .var _)], 93, rfl, rfl, rfl, ?_⟩)
        refine W.condD rfl (fun hc75 => ?_) (fun hc75 => ?_)
        · refine W.line (n := 4) (by decide) (its := [⟨76, _, true⟩, ⟨77, _, true⟩, ⟨78, _, true⟩]) (ks := []) (kk := []) (live := [3, 9, 77, 78]) (env' := [(3, _), (9, _), (77, _), (78, _)])
            (⟨Nat.le_of_ble_eq_true rfl, rfl,
              ⟨⟨rfl, rfl, fun _ τ hb ht hτ => R.fdP (hτ 3 _ rfl) ht⟩,
              ⟨⟨rfl, rfl, fun _ τ hb ht hτ => R.ldP (hτ 76 _ rfl) (hb 3 _ rfl) rfl rfl rfl rfl ht⟩,
              ⟨⟨rfl, rfl, fun _ τ hb ht hτ => R.fdP (hτ 9 _ rfl) ht⟩,
              trivial⟩⟩⟩, rfl, rfl, rfl⟩)
            rfl (bx' := [(9, .var _), (3, .var _)]) rfl (n' := 93) rfl (⟨rfl, _, R.stZ (show Sg.get _ 78 = some _ from rfl) (show Sg.box _ 9 = some _ from rfl) rfl (evt (show Sg.get _ 77 = some _ from rfl)) (by rfl) (by rfl) (by rfl) (by rfl) rfl, ⟨[3, 9], [(3, _), (9, _)], [(9, .var _), (3, .var _)], 93, rfl, rfl, rfl, ?_⟩⟩)
          refine W.seq ?_
          refine W.line (n := 7) (by decide) (its := [⟨87, _, true⟩, ⟨88, _, true⟩, ⟨89, _, true⟩, ⟨90, _, true⟩, ⟨91, _, true⟩, ⟨92, _, true⟩, ⟨6, _, true⟩]) (ks := []) (kk := []) (live := [6]) (env' := [(6, _)])
            (⟨Nat.le_of_ble_eq_true rfl, rfl,
              ⟨⟨rfl, rfl, fun _ τ hb ht hτ => R.ldP (hτ 9 _ rfl) (hb 9 _ rfl) rfl rfl rfl rfl ht⟩,
              ⟨⟨rfl, rfl, fun _ τ hb ht hτ => R.ldP (hτ 3 _ rfl) (hb 3 _ rfl) rfl rfl rfl rfl ht⟩,
              ⟨⟨rfl, rfl, fun _ τ hb ht hτ => R.eqD (neg := false) (b' := ({ x with time := h.time } == h)) (eqv_hdr { x with time := h.time } h) rfl (evt (hτ 87 _ rfl)) (evt (hτ 88 _ rfl)) rfl rfl rfl rfl (rfl) ht⟩,
              ⟨⟨rfl, rfl, fun _ τ hb ht hτ => R.mov (evt (hτ 89 _ rfl)) rfl ht⟩,
              ⟨⟨rfl, ⟨_, 90, rfl, rfl, .inl ⟨_, rfl, gw (v := true) (beq_iff_eq.2 (fb.2.2.2.1 hc62 hc75)) rfl⟩⟩, fun _ τ hb ht hτ => R.callG hC (works_ok) Bors.nil (FrsR.one (.bool _)) ht⟩,
              ⟨⟨rfl, rfl, fun _ τ hb ht hτ => R.pickT (evt (hτ 90 _ rfl)) (beq_iff_eq.2 (fb.2.2.2.1 hc62 hc75)) (evt (hτ 91 _ rfl)) rfl ht⟩,
              ⟨⟨rfl, rfl, fun _ τ hb ht hτ => R.asg (evt (hτ 92 _ rfl)) rfl ht⟩,
              trivial⟩⟩⟩⟩⟩⟩⟩, rfl, rfl, rfl⟩)
            rfl (bx' := [(9, .var _), (3, .var _)]) rfl (n' := 93) rfl (⟨[6], [(6, _)], [(9, .var _), (3, .var _)], 93, rfl, rfl, rfl, ?_⟩)
          refine W.ret ?_
          exact Ends.one' (.inr rfl) rfl (rfl) rfl rfl trivial
        · refine W.seq ?_
          refine W.line (n := 2) (by decide) (its := [⟨79, _, true⟩, ⟨80, _, true⟩]) (ks := []) (kk := []) (live := [3, 9, 80]) (env' := [(3, _), (9, _), (80, _)])
            (⟨Nat.le_of_ble_eq_true rfl, rfl,
              ⟨⟨rfl, rfl, fun _ τ hb ht hτ => R.mov (evt (hτ 7 _ rfl)) rfl ht⟩,
              ⟨⟨rfl, rfl, fun _ τ hb ht hτ => R.lssN ((a.toNat % 80)) (76) (evt (hτ 79 _ rfl)) (show ev _ _ (.const (.int .i64 76)) = some (.int ((76 : Nat) : Int)) from rfl) ht⟩,
              trivial⟩⟩, rfl, rfl, rfl⟩)
            rfl (bx' := [(9, .var _), (3, .var _)]) rfl (n' := 93) rfl (⟨[3, 9, 80], [(3, _), (9, _), (80, _)], [(9, .var _), (3, .var _)], 93, rfl, rfl, rfl, ?_⟩)
          refine W.condD rfl (fun hc80 => ?_) (fun hc80 => ?_)
          · refine W.line (n := 4) (by decide) (its := [⟨81, _, true⟩, ⟨82, _, true⟩, ⟨83, _, true⟩]) (ks := []) (kk := []) (live := [3, 9, 82, 83]) (env' := [(3, _), (9, _), (82, _), (83, _)])
              (⟨Nat.le_of_ble_eq_true rfl, rfl,
                ⟨⟨rfl, rfl, fun _ τ hb ht hτ => R.fdP (hτ 3 _ rfl) ht⟩,
                ⟨⟨rfl, rfl, fun _ τ hb ht hτ => R.ldP (hτ 81 _ rfl) (hb 3 _ rfl) rfl rfl rfl rfl ht⟩,
                ⟨⟨rfl, rfl, fun _ τ hb ht hτ => R.fdP (hτ 9 _ rfl) ht⟩,
                trivial⟩⟩⟩, rfl, rfl, rfl⟩)
              rfl (bx' := [(9, .var _), (3, .var _)]) rfl (n' := 93) rfl (⟨rfl, _, R.stZ (show Sg.get _ 83 = some _ from rfl) (show Sg.box _ 9 = some _ from rfl) rfl (evt (show Sg.get _ 82 = some _ from rfl)) (by rfl) (by rfl) (by rfl) (by rfl) rfl, ⟨[3, 9], [(3, _), (9, _)], [(9, .var _), (3, .var _)], 93, rfl, rfl, rfl, ?_⟩⟩)
            refine W.seq ?_
            refine W.line (n := 7) (by decide) (its := [⟨87, _, true⟩, ⟨88, _, true⟩, ⟨89, _, true⟩, ⟨90, _, true⟩, ⟨91, _, true⟩, ⟨92, _, true⟩, ⟨6, _, true⟩]) (ks := []) (kk := []) (live := [6]) (env' := [(6, _)])
              (⟨Nat.le_of_ble_eq_true rfl, rfl,
                ⟨⟨rfl, rfl, fun _ τ hb ht hτ => R.ldP (hτ 9 _ rfl) (hb 9 _ rfl) rfl rfl rfl rfl ht⟩,
                ⟨⟨rfl, rfl, fun _ τ hb ht hτ => R.ldP (hτ 3 _ rfl) (hb 3 _ rfl) rfl rfl rfl rfl ht⟩,
                ⟨⟨rfl, rfl, fun _ τ hb ht hτ => R.eqD (neg := false) (b' := ({ x with bits := h.bits } == h)) (eqv_hdr { x with bits := h.bits } h) rfl (evt (hτ 87 _ rfl)) (evt (hτ 88 _ rfl)) rfl rfl rfl rfl (rfl) ht⟩,
                ⟨⟨rfl, rfl, fun _ τ hb ht hτ => R.mov (evt (hτ 89 _ rfl)) rfl ht⟩,
                ⟨⟨rfl, ⟨_, 90, rfl, rfl, .inl ⟨_, rfl, gw (v := true) (beq_iff_eq.2 (fb.2.2.2.2.1 hc75 hc80)) rfl⟩⟩, fun _ τ hb ht hτ => R.callG hC (works_ok) Bors.nil (FrsR.one (.bool _)) ht⟩,
                ⟨⟨rfl, rfl, fun _ τ hb ht hτ => R.pickT (evt (hτ 90 _ rfl)) (beq_iff_eq.2 (fb.2.2.2.2.1 hc75 hc80)) (evt (hτ 91 _ rfl)) rfl ht⟩,
                ⟨⟨rfl, rfl, fun _ τ hb ht hτ => R.asg (evt (hτ 92 _ rfl)) rfl ht⟩,
                trivial⟩⟩⟩⟩⟩⟩⟩, rfl, rfl, rfl⟩)
              rfl (bx' := [(9, .var _), (3, .var _)]) rfl (n' := 93) rfl (⟨[6], [(6, _)], [(9, .var _), (3, .var _)], 93, rfl, rfl, rfl, ?_⟩)
            refine W.ret ?_
            exact Ends.one' (.inr rfl) rfl (rfl) rfl rfl trivial
          · refine W.line (n := 4) (by decide) (its := [⟨84, _, true⟩, ⟨85, _, true⟩, ⟨86, _, true⟩]) (ks := []) (kk := []) (live := [3, 9, 85, 86]) (env' := [(3, _), (9, _), (85, _), (86, _)])
              (⟨Nat.le_of_ble_eq_true rfl, rfl,
                ⟨⟨rfl, rfl, fun _ τ hb ht hτ => R.fdP (hτ 3 _ rfl) ht⟩,
                ⟨⟨rfl, rfl, fun _ τ hb ht hτ => R.ldP (hτ 84 _ rfl) (hb 3 _ rfl) rfl rfl rfl rfl ht⟩,
                ⟨⟨rfl, rfl, fun _ τ hb ht hτ => R.fdP (hτ 9 _ rfl) ht⟩,
                trivial⟩⟩⟩, rfl, rfl, rfl⟩)
              rfl (bx' := [(9, .var _), (3, .var _)]) rfl (n' := 93) rfl (⟨rfl, _, R.stZ (show Sg.get _ 86 = some _ from rfl) (show Sg.box _ 9 = some _ from rfl) rfl (evt (show Sg.get _ 85 = some _ from rfl)) (by rfl) (by rfl) (by rfl) (by rfl) rfl, ⟨[3, 9], [(3, _), (9, _)], [(9, .var _), (3, .var _)], 93, rfl, rfl, rfl, ?_⟩⟩)
            refine W.seq ?_
            refine W.line (n := 7) (by decide) (its := [⟨87, _, true⟩, ⟨88, _, true⟩, ⟨89, _, true⟩, ⟨90, _, true⟩, ⟨91, _, true⟩, ⟨92, _, true⟩, ⟨6, _, true⟩]) (ks := []) (kk := []) (live := [6]) (env' := [(6, _)])
              (⟨Nat.le_of_ble_eq_true rfl, rfl,
                ⟨⟨rfl, rfl, fun _ τ hb ht hτ => R.ldP (hτ 9 _ rfl) (hb 9 _ rfl) rfl rfl rfl rfl ht⟩,
                ⟨⟨rfl, rfl, fun _ τ hb ht hτ => R.ldP (hτ 3 _ rfl) (hb 3 _ rfl) rfl rfl rfl rfl ht⟩,
                ⟨⟨rfl, rfl, fun _ τ hb ht hτ => R.eqD (neg := false) (b' := ({ x with nonce := h.nonce } == h)) (eqv_hdr { x with nonce := h.nonce } h) rfl (evt (hτ 87 _ rfl)) (evt (hτ 88 _ rfl)) rfl rfl rfl rfl (rfl) ht⟩,
                ⟨⟨rfl, rfl, fun _ τ hb ht hτ => R.mov (evt (hτ 89 _ rfl)) rfl ht⟩,
                ⟨⟨rfl, ⟨_, 90, rfl, rfl, .inl ⟨_, rfl, gw (v := true) (beq_iff_eq.2 (fb.2.2.2.2.2 hc80)) rfl⟩⟩, fun _ τ hb ht hτ => R.callG hC (works_ok) Bors.nil (FrsR.one (.bool _)) ht⟩,
                ⟨⟨rfl, rfl, fun _ τ hb ht hτ => R.pickT (evt (hτ 90 _ rfl)) (beq_iff_eq.2 (fb.2.2.2.2.2 hc80)) (evt (hτ 91 _ rfl)) rfl ht⟩,
                ⟨⟨rfl, rfl, fun _ τ hb ht hτ => R.asg (evt (hτ 92 _ rfl)) rfl ht⟩,
                trivial⟩⟩⟩⟩⟩⟩⟩, rfl, rfl, rfl⟩)
              rfl (bx' := [(9, .var _), (3, .var _)]) rfl (n' := 93) rfl (⟨[6], [(6, _)], [(9, .var _), (3, .var _)], 93, rfl, rfl, rfl, ?_⟩)
            refine W.ret ?_
            exact Ends.one' (.inr rfl) rfl (rfl) rfl rfl trivial

end Go.Sx
