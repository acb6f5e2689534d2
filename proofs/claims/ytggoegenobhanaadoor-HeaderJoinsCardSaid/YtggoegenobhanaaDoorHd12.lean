/- Proved: what functions of the given program compute (used by the theorem of this claim). Conditions: none but those that each theorem states. -/
import Derived.Test.YtggoegenobhanaaDoorMHd9
set_option linter.unusedVariables false
set_option linter.unusedSimpArgs false
set_option linter.unnecessarySimpa false

namespace Go.Sx
open Go.Proofs
theorem works_ok : Fn Tryd.prog gl 11 [] (.bool true) := by
  refine Fn.of (n := 105) Tryd.func11 rfl rfl rfl (Nat.le_of_ble_eq_true rfl) fun C hC hD => ?_
  have hwl := putS_len wkH wkH_wf
  refine W.seq ?_
  refine W.line (n := 1) (by decide) (its := [⟨0, _, true⟩]) (ks := []) (kk := []) (live := []) (env' := [])
    (⟨Nat.le_of_ble_eq_true rfl, rfl,
      ⟨⟨rfl, rfl, fun _ τ hb ht hτ => R.asg (show ev _ _ (.const (.bool false)) = some (.bool false) from rfl) rfl ht⟩,
      trivial⟩, rfl, rfl, rfl⟩)
    rfl (bx' := []) rfl (n' := 105) rfl (⟨[], [], [], 105, rfl, rfl, rfl, ?_⟩)
  refine W.seq ?_
  refine W.line (n := 3) (by decide) (its := [⟨8, _, true⟩, ⟨9, _, true⟩, ⟨1, _, true⟩]) (ks := [(2, 9)]) (kk := [(2, 9)]) (live := [1]) (env' := [(1, _)])
    (⟨Nat.le_of_ble_eq_true rfl, rfl,
      ⟨⟨rfl, rfl, fun _ τ hb ht hτ => R.bldSE (l := [.u32 0, .arr 32 1 ((List.replicate 32 0).map D.u8), .arr 32 1 ((List.replicate 32 0).map D.u8), .u32 0, .u32 0, .u32 0]) (l' := [_, _, _, _, _, _]) (.cons (show ev _ _ (.const (.int .u32 1)) = some (.u32 1) from rfl) (.cons (show ev _ _ (.const (.int .u32 2)) = some (.u32 2) from rfl) (.cons (show ev _ _ (.const (.int .u32 258)) = some (.u32 258) from rfl) (.cons (show ev _ _ (.const (.int .u32 4294967295)) = some (.u32 4294967295) from rfl) (.nil rfl))))) ⟨⟨_, (show ev _ _ (.const (.int .u32 1)) = some (.u32 1) from rfl), rfl, rfl, rfl⟩, ⟨⟨_, (show ev _ _ (.const (.int .u32 2)) = some (.u32 2) from rfl), rfl, rfl, rfl⟩, ⟨⟨_, (show ev _ _ (.const (.int .u32 258)) = some (.u32 258) from rfl), rfl, rfl, rfl⟩, ⟨⟨_, (show ev _ _ (.const (.int .u32 4294967295)) = some (.u32 4294967295) from rfl), rfl, rfl, rfl⟩, trivial⟩⟩⟩⟩ ht⟩,
      ⟨⟨rfl, rfl, fun _ τ hb ht hτ => R.callG hC (put_ok wkH wkH_wf) (Bors.cons (Bor.pur (evt (hτ 8 _ rfl)) rfl rfl) Bors.nil) (FrsR.one (.sl _ _ _ (frs_map fun _ => .u8 _))) ht⟩,
      ⟨⟨rfl, rfl, fun _ τ hb ht hτ => R.asgO (hτ 9 _ rfl) rfl ht (by decide)⟩,
      trivial⟩⟩⟩, rfl, rfl, rfl⟩)
    rfl (bx' := []) rfl (n' := 105) rfl (⟨[1], [(1, _)], [], 105, rfl, rfl, rfl, ?_⟩)
  refine W.seq ?_
  refine W.seq ?_
  refine W.line (n := 39) (by decide) (its := (⟨10, _, true⟩ :: ⟨11, _, true⟩ :: ⟨12, _, true⟩ :: ⟨13, _, true⟩ :: ⟨14, _, true⟩ :: ⟨15, _, true⟩ :: ⟨16, _, true⟩ :: ⟨17, _, true⟩ :: ⟨18, _, true⟩ :: ⟨19, _, true⟩ :: ⟨20, _, true⟩ :: ⟨21, _, true⟩ :: ⟨22, _, true⟩ :: ⟨23, _, true⟩ :: ⟨24, _, true⟩ :: ⟨25, _, true⟩ :: ⟨26, _, true⟩ :: ⟨27, _, true⟩ :: ⟨28, _, true⟩ :: ⟨29, _, true⟩ :: ⟨30, _, true⟩ :: ⟨31, _, true⟩ :: ⟨32, _, true⟩ :: ⟨33, _, true⟩ :: ⟨34, _, true⟩ :: ⟨35, _, true⟩ :: ⟨36, _, true⟩ :: ⟨37, _, true⟩ :: ⟨38, _, true⟩ :: ⟨39, _, true⟩ :: ⟨40, _, true⟩ :: ⟨41, _, true⟩ :: ⟨42, _, true⟩ :: ⟨43, _, true⟩ :: ⟨44, _, true⟩ :: ⟨45, _, true⟩ :: ⟨46, _, true⟩ :: ⟨47, _, true⟩ :: ⟨48, _, true⟩ :: [])) (ks := []) (kk := []) (live := [1, 48]) (env' := [(1, _), (48, _)])
    (⟨Nat.le_of_ble_eq_true rfl, rfl,
      ⟨⟨rfl, rfl, fun _ τ hb ht hτ => R.al (hτ 1 _ rfl) ht (by decide)⟩,
      ⟨⟨rfl, rfl, fun _ τ hb ht hτ => R.lenE (SC.al (hτ 10 _ rfl) (hτ 1 _ rfl)) (List.length_map _) ht⟩,
      ⟨⟨rfl, rfl, fun _ τ hb ht hτ => R.neqN ((putS wkH).length) (80) (evt (hτ 11 _ rfl)) (show ev _ _ (.const (.int .i64 80)) = some (.int ((80 : Nat) : Int)) from rfl) ht⟩,
      ⟨⟨rfl, rfl, fun _ τ hb ht hτ => R.mov (evt (hτ 12 _ rfl)) rfl ht⟩,
      ⟨⟨rfl, ⟨_, 13, rfl, rfl, .inl ⟨_, rfl, gw (v := false) (decide_eq_false (fun h => h (putS_len wkH wkH_wf))) rfl⟩⟩, fun _ τ hb ht hτ => R.al (hτ 1 _ rfl) ht (by decide)⟩,
      ⟨⟨rfl, ⟨_, 13, rfl, rfl, .inl ⟨_, rfl, gw (v := false) (decide_eq_false (fun h => h (putS_len wkH wkH_wf))) rfl⟩⟩, fun _ τ hb ht hτ => R.idxN (0) (SC.al (hτ 14 _ rfl) (hτ 1 _ rfl)) (evoI (show ev _ _ (.const (.int .i64 0)) = some (.int ((0 : Nat) : Int)) from rfl)) rfl (by first | omega | (simp only [List.length_map, List.length_append, List.length_cons, List.length_nil, List.length_take, List.length_drop, List.length_replicate]; omega) | (simp; omega)) ht (by decide)⟩,
      ⟨⟨rfl, ⟨_, 13, rfl, rfl, .inl ⟨_, rfl, gw (v := false) (decide_eq_false (fun h => h (putS_len wkH wkH_wf))) rfl⟩⟩, fun _ τ hb ht hτ => R.ldE (hτ 15 _ rfl) (SC.al (hτ 14 _ rfl) (hτ 1 _ rfl)) (map_get! (l := (putS wkH)) (by first | omega | (simp only [List.length_map, List.length_append, List.length_cons, List.length_nil, List.length_take, List.length_drop, List.length_replicate]; omega) | (simp; omega))) rfl rfl rfl rfl ht⟩,
      ⟨⟨rfl, ⟨_, 13, rfl, rfl, .inl ⟨_, rfl, gw (v := false) (decide_eq_false (fun h => h (putS_len wkH wkH_wf))) rfl⟩⟩, fun _ τ hb ht hτ => R.bin (evt (hτ 16 _ rfl)) (show ev _ _ (.const (.int .u8 1)) = some (.u8 1) from rfl) rfl trivial ht⟩,
      ⟨⟨rfl, rfl, fun _ τ hb ht hτ => R.pickF (evt (hτ 13 _ rfl)) (decide_eq_false (fun h => h (putS_len wkH wkH_wf))) (evt (hτ 17 _ rfl)) rfl ht⟩,
      ⟨⟨rfl, rfl, fun _ τ hb ht hτ => R.mov (evt (hτ 18 _ rfl)) rfl ht⟩,
      ⟨⟨rfl, ⟨_, 19, rfl, rfl, .inl ⟨_, rfl, gw (v := false) (hwk0) rfl⟩⟩, fun _ τ hb ht hτ => R.al (hτ 1 _ rfl) ht (by decide)⟩,
      ⟨⟨rfl, ⟨_, 19, rfl, rfl, .inl ⟨_, rfl, gw (v := false) (hwk0) rfl⟩⟩, fun _ τ hb ht hτ => R.idxN (4) (SC.al (hτ 20 _ rfl) (hτ 1 _ rfl)) (evoI (show ev _ _ (.const (.int .i64 4)) = some (.int ((4 : Nat) : Int)) from rfl)) rfl (by first | omega | (simp only [List.length_map, List.length_append, List.length_cons, List.length_nil, List.length_take, List.length_drop, List.length_replicate]; omega) | (simp; omega)) ht (by decide)⟩,
      ⟨⟨rfl, ⟨_, 19, rfl, rfl, .inl ⟨_, rfl, gw (v := false) (hwk0) rfl⟩⟩, fun _ τ hb ht hτ => R.ldE (hτ 21 _ rfl) (SC.al (hτ 20 _ rfl) (hτ 1 _ rfl)) (map_get! (l := (putS wkH)) (by first | omega | (simp only [List.length_map, List.length_append, List.length_cons, List.length_nil, List.length_take, List.length_drop, List.length_replicate]; omega) | (simp; omega))) rfl rfl rfl rfl ht⟩,
      ⟨⟨rfl, ⟨_, 19, rfl, rfl, .inl ⟨_, rfl, gw (v := false) (hwk0) rfl⟩⟩, fun _ τ hb ht hτ => R.bin (evt (hτ 22 _ rfl)) (show ev _ _ (.const (.int .u8 0)) = some (.u8 0) from rfl) rfl trivial ht⟩,
      ⟨⟨rfl, rfl, fun _ τ hb ht hτ => R.pickF (evt (hτ 19 _ rfl)) (hwk0) (evt (hτ 23 _ rfl)) rfl ht⟩,
      ⟨⟨rfl, rfl, fun _ τ hb ht hτ => R.mov (evt (hτ 24 _ rfl)) rfl ht⟩,
      ⟨⟨rfl, ⟨_, 25, rfl, rfl, .inl ⟨_, rfl, gw (v := false) (hwk4) rfl⟩⟩, fun _ τ hb ht hτ => R.al (hτ 1 _ rfl) ht (by decide)⟩,
      ⟨⟨rfl, ⟨_, 25, rfl, rfl, .inl ⟨_, rfl, gw (v := false) (hwk4) rfl⟩⟩, fun _ τ hb ht hτ => R.idxN (68) (SC.al (hτ 26 _ rfl) (hτ 1 _ rfl)) (evoI (show ev _ _ (.const (.int .i64 68)) = some (.int ((68 : Nat) : Int)) from rfl)) rfl (by first | omega | (simp only [List.length_map, List.length_append, List.length_cons, List.length_nil, List.length_take, List.length_drop, List.length_replicate]; omega) | (simp; omega)) ht (by decide)⟩,
      ⟨⟨rfl, ⟨_, 25, rfl, rfl, .inl ⟨_, rfl, gw (v := false) (hwk4) rfl⟩⟩, fun _ τ hb ht hτ => R.ldE (hτ 27 _ rfl) (SC.al (hτ 26 _ rfl) (hτ 1 _ rfl)) (map_get! (l := (putS wkH)) (by first | omega | (simp only [List.length_map, List.length_append, List.length_cons, List.length_nil, List.length_take, List.length_drop, List.length_replicate]; omega) | (simp; omega))) rfl rfl rfl rfl ht⟩,
      ⟨⟨rfl, ⟨_, 25, rfl, rfl, .inl ⟨_, rfl, gw (v := false) (hwk4) rfl⟩⟩, fun _ τ hb ht hτ => R.bin (evt (hτ 28 _ rfl)) (show ev _ _ (.const (.int .u8 2)) = some (.u8 2) from rfl) rfl trivial ht⟩,
      ⟨⟨rfl, rfl, fun _ τ hb ht hτ => R.pickF (evt (hτ 25 _ rfl)) (hwk4) (evt (hτ 29 _ rfl)) rfl ht⟩,
      ⟨⟨rfl, rfl, fun _ τ hb ht hτ => R.mov (evt (hτ 30 _ rfl)) rfl ht⟩,
      ⟨⟨rfl, ⟨_, 31, rfl, rfl, .inl ⟨_, rfl, gw (v := false) (hwk68) rfl⟩⟩, fun _ τ hb ht hτ => R.al (hτ 1 _ rfl) ht (by decide)⟩,
      ⟨⟨rfl, ⟨_, 31, rfl, rfl, .inl ⟨_, rfl, gw (v := false) (hwk68) rfl⟩⟩, fun _ τ hb ht hτ => R.idxN (72) (SC.al (hτ 32 _ rfl) (hτ 1 _ rfl)) (evoI (show ev _ _ (.const (.int .i64 72)) = some (.int ((72 : Nat) : Int)) from rfl)) rfl (by first | omega | (simp only [List.length_map, List.length_append, List.length_cons, List.length_nil, List.length_take, List.length_drop, List.length_replicate]; omega) | (simp; omega)) ht (by decide)⟩,
      ⟨⟨rfl, ⟨_, 31, rfl, rfl, .inl ⟨_, rfl, gw (v := false) (hwk68) rfl⟩⟩, fun _ τ hb ht hτ => R.ldE (hτ 33 _ rfl) (SC.al (hτ 32 _ rfl) (hτ 1 _ rfl)) (map_get! (l := (putS wkH)) (by first | omega | (simp only [List.length_map, List.length_append, List.length_cons, List.length_nil, List.length_take, List.length_drop, List.length_replicate]; omega) | (simp; omega))) rfl rfl rfl rfl ht⟩,
      ⟨⟨rfl, ⟨_, 31, rfl, rfl, .inl ⟨_, rfl, gw (v := false) (hwk68) rfl⟩⟩, fun _ τ hb ht hτ => R.bin (evt (hτ 34 _ rfl)) (show ev _ _ (.const (.int .u8 2)) = some (.u8 2) from rfl) rfl trivial ht⟩,
      ⟨⟨rfl, rfl, fun _ τ hb ht hτ => R.pickF (evt (hτ 31 _ rfl)) (hwk68) (evt (hτ 35 _ rfl)) rfl ht⟩,
      ⟨⟨rfl, rfl, fun _ τ hb ht hτ => R.mov (evt (hτ 36 _ rfl)) rfl ht⟩,
      ⟨⟨rfl, ⟨_, 37, rfl, rfl, .inl ⟨_, rfl, gw (v := false) (hwk72) rfl⟩⟩, fun _ τ hb ht hτ => R.al (hτ 1 _ rfl) ht (by decide)⟩,
      ⟨⟨rfl, ⟨_, 37, rfl, rfl, .inl ⟨_, rfl, gw (v := false) (hwk72) rfl⟩⟩, fun _ τ hb ht hτ => R.idxN (73) (SC.al (hτ 38 _ rfl) (hτ 1 _ rfl)) (evoI (show ev _ _ (.const (.int .i64 73)) = some (.int ((73 : Nat) : Int)) from rfl)) rfl (by first | omega | (simp only [List.length_map, List.length_append, List.length_cons, List.length_nil, List.length_take, List.length_drop, List.length_replicate]; omega) | (simp; omega)) ht (by decide)⟩,
      ⟨⟨rfl, ⟨_, 37, rfl, rfl, .inl ⟨_, rfl, gw (v := false) (hwk72) rfl⟩⟩, fun _ τ hb ht hτ => R.ldE (hτ 39 _ rfl) (SC.al (hτ 38 _ rfl) (hτ 1 _ rfl)) (map_get! (l := (putS wkH)) (by first | omega | (simp only [List.length_map, List.length_append, List.length_cons, List.length_nil, List.length_take, List.length_drop, List.length_replicate]; omega) | (simp; omega))) rfl rfl rfl rfl ht⟩,
      ⟨⟨rfl, ⟨_, 37, rfl, rfl, .inl ⟨_, rfl, gw (v := false) (hwk72) rfl⟩⟩, fun _ τ hb ht hτ => R.bin (evt (hτ 40 _ rfl)) (show ev _ _ (.const (.int .u8 1)) = some (.u8 1) from rfl) rfl trivial ht⟩,
      ⟨⟨rfl, rfl, fun _ τ hb ht hτ => R.pickF (evt (hτ 37 _ rfl)) (hwk72) (evt (hτ 41 _ rfl)) rfl ht⟩,
      ⟨⟨rfl, rfl, fun _ τ hb ht hτ => R.mov (evt (hτ 42 _ rfl)) rfl ht⟩,
      ⟨⟨rfl, ⟨_, 43, rfl, rfl, .inl ⟨_, rfl, gw (v := false) (hwk73) rfl⟩⟩, fun _ τ hb ht hτ => R.al (hτ 1 _ rfl) ht (by decide)⟩,
      ⟨⟨rfl, ⟨_, 43, rfl, rfl, .inl ⟨_, rfl, gw (v := false) (hwk73) rfl⟩⟩, fun _ τ hb ht hτ => R.idxN (79) (SC.al (hτ 44 _ rfl) (hτ 1 _ rfl)) (evoI (show ev _ _ (.const (.int .i64 79)) = some (.int ((79 : Nat) : Int)) from rfl)) rfl (by first | omega | (simp only [List.length_map, List.length_append, List.length_cons, List.length_nil, List.length_take, List.length_drop, List.length_replicate]; omega) | (simp; omega)) ht (by decide)⟩,
      ⟨⟨rfl, ⟨_, 43, rfl, rfl, .inl ⟨_, rfl, gw (v := false) (hwk73) rfl⟩⟩, fun _ τ hb ht hτ => R.ldE (hτ 45 _ rfl) (SC.al (hτ 44 _ rfl) (hτ 1 _ rfl)) (map_get! (l := (putS wkH)) (by first | omega | (simp only [List.length_map, List.length_append, List.length_cons, List.length_nil, List.length_take, List.length_drop, List.length_replicate]; omega) | (simp; omega))) rfl rfl rfl rfl ht⟩,
      ⟨⟨rfl, ⟨_, 43, rfl, rfl, .inl ⟨_, rfl, gw (v := false) (hwk73) rfl⟩⟩, fun _ τ hb ht hτ => R.bin (evt (hτ 46 _ rfl)) (show ev _ _ (.const (.int .u8 255)) = some (.u8 255) from rfl) rfl trivial ht⟩,
      ⟨⟨rfl, rfl, fun _ τ hb ht hτ => R.pickF (evt (hτ 43 _ rfl)) (hwk73) (evt (hτ 47 _ rfl)) rfl ht⟩,
      trivial⟩⟩⟩⟩⟩⟩⟩⟩⟩⟩⟩⟩⟩⟩⟩⟩⟩⟩⟩⟩⟩⟩⟩⟩⟩⟩⟩⟩⟩⟩⟩⟩⟩⟩⟩⟩⟩⟩⟩, rfl, rfl, rfl⟩)
    rfl (bx' := []) rfl (n' := 105) rfl (⟨[1, 48], [(1, _), (48, _)], [], 105, rfl, rfl, rfl, ?_⟩)
  refine W.condF rfl (hwk79) ?_
  refine W.skip ?_
  refine W.seq ?_
  refine W.line (n := 8) (by decide) (its := [⟨50, _, true⟩, ⟨51, _, true⟩, ⟨49, _, true⟩, ⟨52, _, true⟩, ⟨53, _, true⟩]) (ks := []) (kk := []) (live := [1, 52, 53]) (env' := [(1, _), (52, _), (53, _)])
    (⟨Nat.le_of_ble_eq_true rfl, rfl,
      ⟨⟨rfl, rfl, fun _ τ hb ht hτ => R.al (hτ 1 _ rfl) ht (by decide)⟩,
      ⟨⟨rfl, rfl, fun _ τ hb ht hτ => R.callZ (r' := .tup [hdrD wkH, .int ((0 : Nat) : Int)]) (get_ok (putS wkH) (by rw [hwl]; decide)) hC (Bors.cons (Bor.sc (SC.al (hτ 50 _ rfl) (hτ 1 _ rfl)) (brw_map (fun _ => rfl))) Bors.nil) (FrsR.two (frs_hdr _) (.int _)) (zget (get_put wkH wkH_wf)) ht⟩,
      ⟨⟨rfl, rfl, fun _ τ hb ht hτ => R.movT (hτ 51 _ rfl) rfl ht⟩,
      ⟨⟨rfl, rfl, fun _ τ hb ht hτ => R.ext (hτ 49 _ rfl) rfl rfl ht⟩,
      ⟨⟨rfl, rfl, fun _ τ hb ht hτ => R.ext (hτ 49 _ rfl) rfl rfl ht⟩,
      trivial⟩⟩⟩⟩⟩, rfl, rfl, rfl⟩)
    rfl (bx' := []) rfl (n' := 105) rfl (⟨rfl, _, R.alloc rfl (Nat.le_of_ble_eq_true rfl), ⟨rfl, _, R.stZ (show Sg.get _ 2 = some _ from rfl) (show Sg.box _ 2 = some _ from rfl) rfl (evt (show Sg.get _ 52 = some _ from rfl)) (by rfl) (by rfl) (by rfl) (by rfl) rfl, ⟨rfl, _, R.asg (evt (show Sg.get _ 53 = some _ from rfl)) rfl (Nat.le_of_ble_eq_true rfl), ⟨[1, 2, 3], [(1, _), (2, _), (3, _)], [(2, .var _)], 105, rfl, rfl, rfl, ?_⟩⟩⟩⟩)
  refine W.seq ?_
  refine W.line (n := 9) (by decide) (its := [⟨55, _, true⟩, ⟨56, _, true⟩, ⟨57, _, true⟩, ⟨54, _, true⟩, ⟨58, _, true⟩, ⟨59, _, true⟩]) (ks := []) (kk := []) (live := [1, 2, 3, 58, 59]) (env' := [(1, _), (2, _), (3, _), (58, _), (59, _)])
    (⟨Nat.le_of_ble_eq_true rfl, rfl,
      ⟨⟨rfl, rfl, fun _ τ hb ht hτ => R.al (hτ 1 _ rfl) ht (by decide)⟩,
      ⟨⟨rfl, rfl, fun _ τ hb ht hτ => R.slVN (0) (79) (79) (SC.al (hτ 55 _ rfl) (hτ 1 _ rfl)) rfl (evoI (show ev _ _ (.const (.int .i64 79)) = some (.int ((79 : Nat) : Int)) from rfl)) rfl rfl (by first | omega | (simp only [List.length_map, List.length_append, List.length_cons, List.length_nil, List.length_take, List.length_drop, List.length_replicate]; omega) | (simp; omega)) (by first | omega | (simp only [List.length_map, List.length_append, List.length_cons, List.length_nil, List.length_take, List.length_drop, List.length_replicate]; omega) | (simp; omega)) rfl ht (by decide)⟩,
      ⟨⟨rfl, rfl, fun _ τ hb ht hτ => R.callZ (r' := .tup [hdrD zeroH, .int ((5 : Nat) : Int)]) (get_ok ((putS wkH).take 79) (by simp only [List.length_take]; omega)) hC (Bors.cons (Bor.sc (SC.vw (hτ 56 _ rfl) (SC.al (hτ 55 _ rfl) (hτ 1 _ rfl)) (by first | omega | (simp only [List.length_map, List.length_append, List.length_cons, List.length_nil, List.length_take, List.length_drop, List.length_replicate]; omega) | (simp; omega))) (brw_part (fun _ => rfl))) Bors.nil) (FrsR.two (frs_hdr _) (.int _)) (zget (get_bad (by simp only [List.length_take]; omega))) ht⟩,
      ⟨⟨rfl, rfl, fun _ τ hb ht hτ => R.movT (hτ 57 _ rfl) rfl ht⟩,
      ⟨⟨rfl, rfl, fun _ τ hb ht hτ => R.ext (hτ 54 _ rfl) rfl rfl ht⟩,
      ⟨⟨rfl, rfl, fun _ τ hb ht hτ => R.ext (hτ 54 _ rfl) rfl rfl ht⟩,
      trivial⟩⟩⟩⟩⟩⟩, rfl, rfl, rfl⟩)
    rfl (bx' := [(2, .var _)]) rfl (n' := 105) rfl (⟨rfl, _, R.alloc rfl (Nat.le_of_ble_eq_true rfl), ⟨rfl, _, R.stZ (show Sg.get _ 4 = some _ from rfl) (show Sg.box _ 4 = some _ from rfl) rfl (evt (show Sg.get _ 58 = some _ from rfl)) (by rfl) (by rfl) (by rfl) (by rfl) rfl, ⟨rfl, _, R.asg (evt (show Sg.get _ 59 = some _ from rfl)) rfl (Nat.le_of_ble_eq_true rfl), ⟨[1, 2, 3, 5], [(1, _), (2, _), (3, _), (5, _)], [(4, .var _), (2, .var _)], 105, rfl, rfl, rfl, ?_⟩⟩⟩⟩)
  refine W.seq ?_
  refine W.line (n := 7) (by decide) (its := [⟨61, _, true⟩, ⟨62, _, true⟩, ⟨60, _, true⟩, ⟨63, _, true⟩, ⟨64, _, true⟩, ⟨6, _, true⟩, ⟨7, _, true⟩]) (ks := []) (kk := []) (live := [2, 3, 5, 6, 7]) (env' := [(2, _), (3, _), (5, _), (6, _), (7, _)])
    (⟨Nat.le_of_ble_eq_true rfl, rfl,
      ⟨⟨rfl, rfl, fun _ τ hb ht hτ => R.al (hτ 1 _ rfl) ht (by decide)⟩,
      ⟨⟨rfl, rfl, fun _ τ hb ht hτ => R.callZ (r' := .tup [.sl none 68 ([wkH].map hdrD), .int ((0 : Nat) : Int)]) (cut_ok (putS wkH) (by rw [hwl]; decide)) hC (Bors.cons (Bor.sc (SC.al (hτ 61 _ rfl) (hτ 1 _ rfl)) (brw_map (fun _ => rfl))) Bors.nil) (FrsR.two (frs_hdrs _ _ _) (.int _)) (zcut wk_cut) ht⟩,
      ⟨⟨rfl, rfl, fun _ τ hb ht hτ => R.movT (hτ 62 _ rfl) rfl ht⟩,
      ⟨⟨rfl, rfl, fun _ τ hb ht hτ => R.ext (hτ 60 _ rfl) rfl rfl ht⟩,
      ⟨⟨rfl, rfl, fun _ τ hb ht hτ => R.ext (hτ 60 _ rfl) rfl rfl ht⟩,
      ⟨⟨rfl, rfl, fun _ τ hb ht hτ => R.asg (evt (hτ 63 _ rfl)) rfl ht⟩,
      ⟨⟨rfl, rfl, fun _ τ hb ht hτ => R.asg (evt (hτ 64 _ rfl)) rfl ht⟩,
      trivial⟩⟩⟩⟩⟩⟩⟩, rfl, rfl, rfl⟩)
    rfl (bx' := [(4, .var _), (2, .var _)]) rfl (n' := 105) rfl (⟨[2, 3, 5, 6, 7], [(2, _), (3, _), (5, _), (6, _), (7, _)], [(4, .var _), (2, .var _)], 105, rfl, rfl, rfl, ?_⟩)
  refine W.seq ?_
  refine W.draw (m := 41) (an := (0 :: 1 :: 3 :: 7 :: 15 :: 31 :: 63 :: 127 :: 255 :: 511 :: 1023 :: 2047 :: 4095 :: 8191 :: 16383 :: 32767 :: 65535 :: 131071 :: 262143 :: 524287 :: 1048575 :: 2097151 :: 4194303 :: 8388607 :: 2097151 :: 33554431 :: 67108863 :: 134217727 :: 268435455 :: 536870911 :: 1073741823 :: 2147483647 :: 4294967295 :: 8589934591 :: 17179869183 :: 34359738367 :: 17179869183 :: 137438953471 :: 274877906943 :: 549755813887 :: 1099511627775 :: [])) hP (by decide) rfl (its := (⟨65, _, true⟩ :: ⟨66, _, true⟩ :: ⟨67, _, true⟩ :: ⟨68, _, true⟩ :: ⟨69, _, true⟩ :: ⟨70, _, true⟩ :: ⟨71, _, true⟩ :: ⟨72, _, true⟩ :: ⟨73, _, true⟩ :: ⟨74, _, true⟩ :: ⟨75, _, true⟩ :: ⟨76, _, true⟩ :: ⟨77, _, true⟩ :: ⟨78, _, true⟩ :: ⟨79, _, true⟩ :: ⟨80, _, true⟩ :: ⟨81, _, true⟩ :: ⟨82, _, true⟩ :: ⟨83, _, true⟩ :: ⟨84, _, true⟩ :: ⟨85, _, true⟩ :: ⟨86, _, true⟩ :: ⟨87, _, true⟩ :: ⟨88, _, true⟩ :: ⟨89, _, true⟩ :: ⟨90, _, true⟩ :: ⟨91, _, true⟩ :: ⟨92, _, true⟩ :: ⟨93, _, true⟩ :: ⟨94, _, true⟩ :: ⟨95, _, true⟩ :: ⟨96, _, true⟩ :: ⟨97, _, true⟩ :: ⟨98, _, true⟩ :: ⟨99, _, true⟩ :: ⟨100, _, true⟩ :: ⟨101, _, true⟩ :: ⟨102, _, true⟩ :: ⟨103, _, true⟩ :: ⟨104, _, true⟩ :: ⟨0, _, true⟩ :: [])) (ks := []) (kk := []) (live := [0]) (env' := [(0, _)])
    (⟨Nat.le_of_ble_eq_true rfl, rfl,
      ⟨⟨rfl, rfl, fun _ τ hb ht hτ => R.mov (evt (hτ 3 _ rfl)) rfl ht⟩,
      ⟨⟨rfl, rfl, fun _ τ hb ht hτ => R.eqlN (0) (0) (evt (hτ 65 _ rfl)) (show ev _ _ (.const (.int .i64 0)) = some (.int ((0 : Nat) : Int)) from rfl) ht⟩,
      ⟨⟨rfl, rfl, fun _ τ hb ht hτ => R.mov (evt (hτ 66 _ rfl)) rfl ht⟩,
      ⟨⟨rfl, ⟨_, 67, rfl, rfl, .inl ⟨_, rfl, gw (v := true) (rfl) rfl⟩⟩, fun _ τ hb ht hτ => R.fdP (hτ 2 _ rfl) ht⟩,
      ⟨⟨rfl, ⟨_, 67, rfl, rfl, .inl ⟨_, rfl, gw (v := true) (rfl) rfl⟩⟩, fun _ τ hb ht hτ => R.ldP (hτ 68 _ rfl) (hb 2 _ rfl) rfl rfl rfl rfl ht⟩,
      ⟨⟨rfl, ⟨_, 67, rfl, rfl, .inl ⟨_, rfl, gw (v := true) (rfl) rfl⟩⟩, fun _ τ hb ht hτ => R.bin (evt (hτ 69 _ rfl)) (show ev _ _ (.const (.int .u32 258)) = some (.u32 258) from rfl) rfl trivial ht⟩,
      ⟨⟨rfl, rfl, fun _ τ hb ht hτ => R.pickT (evt (hτ 67 _ rfl)) (rfl) (evt (hτ 70 _ rfl)) rfl ht⟩,
      ⟨⟨rfl, rfl, fun _ τ hb ht hτ => R.mov (evt (hτ 71 _ rfl)) rfl ht⟩,
      ⟨⟨rfl, ⟨_, 72, rfl, rfl, .inl ⟨_, rfl, gw (v := true) (rfl) rfl⟩⟩, fun _ τ hb ht hτ => R.mov (evt (hτ 5 _ rfl)) rfl ht⟩,
      ⟨⟨rfl, ⟨_, 72, rfl, rfl, .inl ⟨_, rfl, gw (v := true) (rfl) rfl⟩⟩, fun _ τ hb ht hτ => R.eqlN (5) (5) (evt (hτ 73 _ rfl)) (show ev _ _ (.const (.int .i64 5)) = some (.int ((5 : Nat) : Int)) from rfl) ht⟩,
      ⟨⟨rfl, rfl, fun _ τ hb ht hτ => R.pickT (evt (hτ 72 _ rfl)) (rfl) (evt (hτ 74 _ rfl)) rfl ht⟩,
      ⟨⟨rfl, rfl, fun _ τ hb ht hτ => R.mov (evt (hτ 75 _ rfl)) rfl ht⟩,
      ⟨⟨rfl, ⟨_, 76, rfl, rfl, .inl ⟨_, rfl, gw (v := true) (rfl) rfl⟩⟩, fun _ τ hb ht hτ => R.mov (evt (hτ 7 _ rfl)) rfl ht⟩,
      ⟨⟨rfl, ⟨_, 76, rfl, rfl, .inl ⟨_, rfl, gw (v := true) (rfl) rfl⟩⟩, fun _ τ hb ht hτ => R.eqlN (0) (0) (evt (hτ 77 _ rfl)) (show ev _ _ (.const (.int .i64 0)) = some (.int ((0 : Nat) : Int)) from rfl) ht⟩,
      ⟨⟨rfl, rfl, fun _ τ hb ht hτ => R.pickT (evt (hτ 76 _ rfl)) (rfl) (evt (hτ 78 _ rfl)) rfl ht⟩,
      ⟨⟨rfl, rfl, fun _ τ hb ht hτ => R.mov (evt (hτ 79 _ rfl)) rfl ht⟩,
      ⟨⟨rfl, ⟨_, 80, rfl, rfl, .inl ⟨_, rfl, gw (v := true) (rfl) rfl⟩⟩, fun _ τ hb ht hτ => R.mov (evt (hτ 6 _ rfl)) rfl ht⟩,
      ⟨⟨rfl, ⟨_, 80, rfl, rfl, .inl ⟨_, rfl, gw (v := true) (rfl) rfl⟩⟩, fun _ τ hb ht hτ => R.lenE (SC.sl (hτ 81 _ rfl)) (List.length_map _) ht⟩,
      ⟨⟨rfl, ⟨_, 80, rfl, rfl, .inl ⟨_, rfl, gw (v := true) (rfl) rfl⟩⟩, fun _ τ hb ht hτ => R.eqlN ([wkH].length) (1) (evt (hτ 82 _ rfl)) (show ev _ _ (.const (.int .i64 1)) = some (.int ((1 : Nat) : Int)) from rfl) ht⟩,
      ⟨⟨rfl, rfl, fun _ τ hb ht hτ => R.pickT (evt (hτ 80 _ rfl)) (rfl) (evt (hτ 83 _ rfl)) rfl ht⟩,
      ⟨⟨rfl, rfl, fun _ τ hb ht hτ => R.mov (evt (hτ 84 _ rfl)) rfl ht⟩,
      ⟨⟨rfl, ⟨_, 85, rfl, rfl, .inl ⟨_, rfl, gw (v := true) (rfl) rfl⟩⟩, fun _ τ hb ht hτ => R.mov (evt (hτ 6 _ rfl)) rfl ht⟩,
      ⟨⟨rfl, ⟨_, 85, rfl, rfl, .inl ⟨_, rfl, gw (v := true) (rfl) rfl⟩⟩, fun _ τ hb ht hτ => R.idxN (0) (SC.sl (hτ 86 _ rfl)) (evoI (show ev _ _ (.const (.int .i64 0)) = some (.int ((0 : Nat) : Int)) from rfl)) rfl (by first | omega | (simp only [List.length_map, List.length_append, List.length_cons, List.length_nil, List.length_take, List.length_drop, List.length_replicate]; omega) | (simp; omega)) ht (by decide)⟩,
      ⟨⟨rfl, ⟨_, 85, rfl, rfl, .inl ⟨_, rfl, gw (v := true) (rfl) rfl⟩⟩, fun _ τ hb ht hτ => R.ldE (hτ 87 _ rfl) (SC.sl (hτ 86 _ rfl)) (map_get! (l := [wkH]) (by first | omega | (simp only [List.length_map, List.length_append, List.length_cons, List.length_nil, List.length_take, List.length_drop, List.length_replicate]; omega) | (simp; omega))) rfl rfl rfl rfl ht⟩,
      ⟨⟨rfl, ⟨_, 85, rfl, rfl, .inl ⟨_, rfl, gw (v := true) (rfl) rfl⟩⟩, fun _ τ hb ht hτ => R.ldP (hτ 2 _ rfl) (hb 2 _ rfl) rfl rfl rfl rfl ht⟩,
      ⟨⟨rfl, ⟨_, 85, rfl, rfl, .inl ⟨_, rfl, gw (v := true) (rfl) rfl⟩⟩, fun _ τ hb ht hτ => R.eqD (neg := false) (b' := ([wkH][0]! == wkH)) (eqv_hdr _ _) rfl (evt (hτ 88 _ rfl)) (evt (hτ 89 _ rfl)) rfl rfl rfl rfl (rfl) ht⟩,
      ⟨⟨rfl, rfl, fun _ τ hb ht hτ => R.pickT (evt (hτ 85 _ rfl)) (rfl) (evt (hτ 90 _ rfl)) rfl ht⟩,
      ⟨⟨rfl, rfl, fun _ τ hb ht hτ => R.mov (evt (hτ 91 _ rfl)) rfl ht⟩,
      ⟨⟨rfl, ⟨_, 92, rfl, rfl, .inl ⟨_, rfl, gw (v := true) (beq_self_eq_true _) rfl⟩⟩, fun _ τ hb ht hτ => R.ldP (hτ 2 _ rfl) (hb 2 _ rfl) rfl rfl rfl rfl ht⟩,
      ⟨⟨rfl, ⟨_, 92, rfl, rfl, .inl ⟨_, rfl, gw (v := true) (beq_self_eq_true _) rfl⟩⟩, fun _ τ hb ht hτ => R.bslE (z := 68) (.cons (evt (hτ 93 _ rfl)) .nil) ⟨⟨rfl, rfl, rfl⟩, trivial⟩ rfl ht (by decide)⟩,
      ⟨⟨rfl, ⟨_, 92, rfl, rfl, .inl ⟨_, rfl, gw (v := true) (beq_self_eq_true _) rfl⟩⟩, fun _ τ hb ht hτ => R.callG hC (linked_ok [wkH] wk_all (by decide)) (Bors.cons (Bor.sc (SC.sl (hτ 94 _ rfl)) (show List.map D.brw ([wkH].map hdrD) = [wkH].map hdrD from brw_map brw_hdr)) Bors.nil) (FrsR.one (.int _)) ht⟩,
      ⟨⟨rfl, ⟨_, 92, rfl, rfl, .inl ⟨_, rfl, gw (v := true) (beq_self_eq_true _) rfl⟩⟩, fun _ τ hb ht hτ => R.eqlN (linkS [wkH]) (1) (evt (hτ 95 _ rfl)) (show ev _ _ (.const (.int .i64 1)) = some (.int ((1 : Nat) : Int)) from rfl) ht⟩,
      ⟨⟨rfl, rfl, fun _ τ hb ht hτ => R.pickT (evt (hτ 92 _ rfl)) (beq_self_eq_true _) (evt (hτ 96 _ rfl)) rfl ht⟩,
      ⟨⟨rfl, rfl, fun _ τ hb ht hτ => R.mov (evt (hτ 97 _ rfl)) rfl ht⟩,
      ⟨⟨rfl, ⟨_, 98, rfl, rfl, .inl ⟨_, rfl, gw (v := true) (decide_eq_true wk_link) rfl⟩⟩, fun _ τ hb ht hτ => R.ldP (hτ 2 _ rfl) (hb 2 _ rfl) rfl rfl rfl rfl ht⟩,
      ⟨⟨rfl, ⟨_, 98, rfl, rfl, .inl ⟨_, rfl, gw (v := true) (decide_eq_true wk_link) rfl⟩⟩, fun _ τ hb ht hτ => R.callG hC (id_ok wkH wkH_wf) (Bors.cons (Bor.pur (evt (hτ 99 _ rfl)) rfl rfl) Bors.nil) (FrsR.one (frs_hash _)) ht⟩,
      ⟨⟨rfl, ⟨_, 98, rfl, rfl, .inl ⟨_, rfl, gw (v := true) (decide_eq_true wk_link) rfl⟩⟩, fun _ τ hb ht hτ => R.ldP (hτ 2 _ rfl) (hb 2 _ rfl) rfl rfl rfl rfl ht⟩,
      ⟨⟨rfl, ⟨_, 98, rfl, rfl, .inl ⟨_, rfl, gw (v := true) (decide_eq_true wk_link) rfl⟩⟩, fun _ τ hb ht hτ => R.callG hC (rid2_ok wkH wkH_wf) (Bors.cons (Bor.pur (evt (hτ 101 _ rfl)) rfl rfl) Bors.nil) (FrsR.one (frs_hash _)) ht⟩,
      ⟨⟨rfl, ⟨_, 98, rfl, rfl, .inl ⟨_, rfl, gw (v := true) (decide_eq_true wk_link) rfl⟩⟩, fun _ τ hb ht hτ => R.eqAE (evt (hτ 100 _ rfl)) (evt (hτ 102 _ rfl)) ht⟩,
      ⟨⟨rfl, rfl, fun _ τ hb ht hτ => R.pickT (evt (hτ 98 _ rfl)) (decide_eq_true wk_link) (evt (hτ 103 _ rfl)) rfl ht⟩,
      ⟨⟨rfl, rfl, fun _ τ hb ht hτ => R.asg (evt (hτ 104 _ rfl)) rfl ht⟩,
      trivial⟩⟩⟩⟩⟩⟩⟩⟩⟩⟩⟩⟩⟩⟩⟩⟩⟩⟩⟩⟩⟩⟩⟩⟩⟩⟩⟩⟩⟩⟩⟩⟩⟩⟩⟩⟩⟩⟩⟩⟩⟩, rfl, rfl, rfl⟩)
    rfl (bx' := [(4, .var _), (2, .var _)]) rfl (n' := 105) rfl (⟨[0], [(0, _)], [(4, .var _), (2, .var _)], 105, rfl, rfl, rfl, ?_⟩)
  refine W.ret ?_
  exact Ends.one' (.inr rfl) rfl (congrArg D.bool (beq_self_eq_true _)) rfl rfl trivial

end Go.Sx
