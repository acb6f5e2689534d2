/- Proved: what functions of the given program compute (used by the theorem of this claim). Conditions: none but those that each theorem states. -/
import Derived.Test.YtlpacmknoknpoaaDoorMk3
import Derived.Test.YtlpacmknoknpoaaDoorMkLaw
set_option linter.unusedVariables false
set_option linter.unusedSimpArgs false
set_option linter.unnecessarySimpa false
namespace Go.Sx
open Go.Proofs
theorem join_ok (a b : Hs) (hx : a.length = 32) (hy : b.length = 32) : Fn Tryd.prog gl 14 [hashD a, hashD b] (hashD (joinS a b)) := by
  refine Fn.of (n := 14) Tryd.func14 rfl rfl rfl (Nat.le_of_ble_eq_true rfl) fun C hC hD => ?_
  refine W.seq ?_
  refine W.line (n := 3) (by decide) (its := []) (ks := []) (kk := []) (live := [0, 1]) (env' := [(0, _), (1, _)])
    (⟨Nat.le_of_ble_eq_true rfl, rfl,
      trivial, rfl, rfl, rfl⟩)
    rfl (bx' := []) rfl (n' := 14) rfl (⟨rfl, _, R.box (evt (show Sg.get _ 0 = some _ from rfl)) rfl rfl (Nat.le_of_ble_eq_true rfl), ⟨rfl, _, R.box (evt (show Sg.get _ 1 = some _ from rfl)) rfl rfl (Nat.le_of_ble_eq_true rfl), ⟨rfl, _, R.alloc rfl (Nat.le_of_ble_eq_true rfl), ⟨[2, 3, 4], [(2, _), (3, _), (4, _)], [(4, .var _), (3, .var _), (2, .var _)], 14, rfl, rfl, rfl, ?_⟩⟩⟩⟩)
  refine W.seq ?_
  refine W.line (n := 1) (by decide) (its := []) (ks := []) (kk := []) (live := [2, 3, 4]) (env' := [(2, _), (3, _), (4, _)])
    (⟨Nat.le_of_ble_eq_true rfl, rfl,
      trivial, rfl, rfl, rfl⟩)
    rfl (bx' := [(4, .var _), (3, .var _), (2, .var _)]) rfl (n' := 14) rfl (⟨rfl, _, R.alloc rfl (Nat.le_of_ble_eq_true rfl), ⟨[2, 3, 4, 5], [(2, _), (3, _), (4, _), (5, _)], [(5, .var _), (4, .var _), (3, .var _), (2, .var _)], 14, rfl, rfl, rfl, ?_⟩⟩)
  refine W.seq ?_
  refine W.draw (m := 2) (an := [0, 0, 3]) hP (by decide) rfl (its := [⟨6, _, true⟩, ⟨7, _, true⟩]) (ks := []) (kk := []) (live := [3, 4, 5, 6, 7]) (env' := [(3, _), (4, _), (5, _), (6, _), (7, _)])
    (⟨Nat.le_of_ble_eq_true rfl, rfl,
      ⟨⟨rfl, rfl, fun _ τ hb ht hτ => R.slAN (0) (64) (64) (hτ 5 _ rfl) (hb 5 _ rfl) rfl rfl rfl rfl rfl (by first | omega | (simp only [List.length_map, List.length_append, List.length_cons, List.length_nil, List.length_take, List.length_drop, List.length_replicate]; omega) | (simp; omega)) (by first | omega | (simp only [List.length_map, List.length_append, List.length_cons, List.length_nil, List.length_take, List.length_drop, List.length_replicate]; omega) | (simp; omega)) rfl ht⟩,
      ⟨⟨rfl, rfl, fun _ τ hb ht hτ => R.slAN (0) (32) (32) (hτ 2 _ rfl) (hb 2 _ rfl) rfl rfl rfl rfl rfl (by first | omega | (simp only [List.length_map, List.length_append, List.length_cons, List.length_nil, List.length_take, List.length_drop, List.length_replicate]; omega) | (simp; omega)) (by first | omega | (simp only [List.length_map, List.length_append, List.length_cons, List.length_nil, List.length_take, List.length_drop, List.length_replicate]; omega) | (simp; omega)) rfl ht⟩,
      trivial⟩⟩, rfl, rfl, rfl⟩)
    rfl (bx' := [(5, .var _), (4, .var _), (3, .var _), (2, .var _)]) rfl (n' := 14) rfl (⟨rfl, _, R.cpAE (k := 32) (l2 := ((a ++ List.replicate 32 0).map D.u8)) (show Sg.get _ 6 = some _ from rfl) (show Sg.box _ 5 = some _ from rfl) rfl (by decide) (SrcO.sc (SC.va (show Sg.get _ 7 = some _ from rfl) (show Sg.box _ 2 = some _ from rfl) rfl (by decide)) (pur_part (fun _ => rfl))) (fun y q => np_map (fun _ => rfl) y (List.mem_of_mem_drop (List.mem_of_mem_take q))) (Nat.le_of_ble_eq_true rfl) (by simp [hx]) (both1 a hx) rfl, ⟨[3, 4, 5], [(3, _), (4, _), (5, _)], [(5, .var _), (4, .var _), (3, .var _), (2, .var _)], 14, rfl, rfl, rfl, ?_⟩⟩)
  refine W.seq ?_
  refine W.draw (m := 2) (an := [0, 0, 3]) hP (by decide) rfl (its := [⟨9, _, true⟩, ⟨10, _, true⟩]) (ks := []) (kk := []) (live := [4, 5, 9, 10]) (env' := [(4, _), (5, _), (9, _), (10, _)])
    (⟨Nat.le_of_ble_eq_true rfl, rfl,
      ⟨⟨rfl, rfl, fun _ τ hb ht hτ => R.slAN (32) (64) ((64 - 32)) (hτ 5 _ rfl) (hb 5 _ rfl) rfl (evoI (show ev _ _ (.const (.int .i64 32)) = some (.int ((32 : Nat) : Int)) from rfl)) rfl rfl rfl (by first | omega | (simp only [List.length_map, List.length_append, List.length_cons, List.length_nil, List.length_take, List.length_drop, List.length_replicate]; omega) | (simp; omega)) (by first | omega | (simp only [List.length_map, List.length_append, List.length_cons, List.length_nil, List.length_take, List.length_drop, List.length_replicate]; omega) | (simp; omega)) rfl ht⟩,
      ⟨⟨rfl, rfl, fun _ τ hb ht hτ => R.slAN (0) (32) (32) (hτ 3 _ rfl) (hb 3 _ rfl) rfl rfl rfl rfl rfl (by first | omega | (simp only [List.length_map, List.length_append, List.length_cons, List.length_nil, List.length_take, List.length_drop, List.length_replicate]; omega) | (simp; omega)) (by first | omega | (simp only [List.length_map, List.length_append, List.length_cons, List.length_nil, List.length_take, List.length_drop, List.length_replicate]; omega) | (simp; omega)) rfl ht⟩,
      trivial⟩⟩, rfl, rfl, rfl⟩)
    rfl (bx' := [(5, .var _), (4, .var _), (3, .var _), (2, .var _)]) rfl (n' := 14) rfl (⟨rfl, _, R.cpAE (k := 32) (l2 := ((a ++ b).map D.u8)) (show Sg.get _ 9 = some _ from rfl) (show Sg.box _ 5 = some _ from rfl) rfl (by decide) (SrcO.sc (SC.va (show Sg.get _ 10 = some _ from rfl) (show Sg.box _ 3 = some _ from rfl) rfl (by decide)) (pur_part (fun _ => rfl))) (fun y q => np_map (fun _ => rfl) y (List.mem_of_mem_drop (List.mem_of_mem_take q))) (Nat.le_of_ble_eq_true rfl) (by simp [hy]) (both2 a b hx hy) rfl, ⟨[4, 5], [(4, _), (5, _)], [(5, .var _), (4, .var _), (3, .var _), (2, .var _)], 14, rfl, rfl, rfl, ?_⟩⟩)
  refine W.seq ?_
  refine W.line (n := 3) (by decide) (its := [⟨12, _, true⟩, ⟨13, _, true⟩]) (ks := []) (kk := []) (live := [4, 13]) (env' := [(4, _), (13, _)])
    (⟨Nat.le_of_ble_eq_true rfl, rfl,
      ⟨⟨rfl, rfl, fun _ τ hb ht hτ => R.slAN (0) (64) (64) (hτ 5 _ rfl) (hb 5 _ rfl) rfl rfl rfl rfl rfl (by first | omega | (simp only [List.length_map, List.length_append, List.length_cons, List.length_nil, List.length_take, List.length_drop, List.length_replicate]; omega) | (simp; omega)) (by first | omega | (simp only [List.length_map, List.length_append, List.length_cons, List.length_nil, List.length_take, List.length_drop, List.length_replicate]; omega) | (simp; omega)) rfl ht⟩,
      ⟨⟨rfl, rfl, fun _ τ hb ht hτ => R.callG hC (twice_ok (a ++ b) (by simp only [List.length_append, hx, hy]; decide)) (Bors.cons (Bor.sc (SC.va (hτ 12 _ rfl) (hb 5 _ rfl) rfl (by decide)) (brw_all (fun _ => rfl) (by simp only [List.length_append, hx, hy]))) Bors.nil) (FrsR.one (frs_hash _)) ht⟩,
      trivial⟩⟩, rfl, rfl, rfl⟩)
    rfl (bx' := [(5, .var _), (4, .var _), (3, .var _), (2, .var _)]) rfl (n' := 14) rfl (⟨rfl, _, R.stZ (show Sg.get _ 4 = some _ from rfl) (show Sg.box _ 4 = some _ from rfl) rfl (evt (show Sg.get _ 13 = some _ from rfl)) (by rfl) (by rfl) (by rfl) (by rfl) rfl, ⟨[4], [(4, _)], [(5, .var _), (4, .var _), (3, .var _), (2, .var _)], 14, rfl, rfl, rfl, ?_⟩⟩)
  refine W.ret ?_
  exact Ends.one' (.inr rfl) rfl (rfl) rfl rfl (show LdT _ 23 32 true from inferInstance)

theorem rjoin_ok (a b : Hs) (hx : a.length = 32) (hy : b.length = 32) : Fn Tryd.prog gl 15 [hashD a, hashD b] (hashD (joinR a b)) := by
  refine Fn.of (n := 13) Tryd.func15 rfl rfl rfl (Nat.le_of_ble_eq_true rfl) fun C hC hD => ?_
  refine W.seq ?_
  refine W.line (n := 3) (by decide) (its := []) (ks := []) (kk := []) (live := [0, 1]) (env' := [(0, _), (1, _)])
    (⟨Nat.le_of_ble_eq_true rfl, rfl,
      trivial, rfl, rfl, rfl⟩)
    rfl (bx' := []) rfl (n' := 13) rfl (⟨rfl, _, R.box (evt (show Sg.get _ 0 = some _ from rfl)) rfl rfl (Nat.le_of_ble_eq_true rfl), ⟨rfl, _, R.box (evt (show Sg.get _ 1 = some _ from rfl)) rfl rfl (Nat.le_of_ble_eq_true rfl), ⟨rfl, _, R.alloc rfl (Nat.le_of_ble_eq_true rfl), ⟨[2, 3, 4], [(2, _), (3, _), (4, _)], [(4, .var _), (3, .var _), (2, .var _)], 13, rfl, rfl, rfl, ?_⟩⟩⟩⟩)
  refine W.seq ?_
  refine W.line (n := 4) (by decide) (its := [⟨6, _, true⟩, ⟨7, _, true⟩, ⟨8, _, true⟩, ⟨5, _, true⟩]) (ks := [(2, 6), (3, 8)]) (kk := [(2, 6), (3, 8)]) (live := [3, 4, 5]) (env' := [(3, _), (4, _), (5, _)])
    (⟨Nat.le_of_ble_eq_true rfl, rfl,
      ⟨⟨rfl, rfl, fun _ τ hb ht hτ => R.bslE .nil trivial rfl ht (by decide)⟩,
      ⟨⟨rfl, rfl, fun _ τ hb ht hτ => R.slAN (0) (32) (32) (hτ 2 _ rfl) (hb 2 _ rfl) rfl rfl rfl rfl rfl (by first | omega | (simp only [List.length_map, List.length_append, List.length_cons, List.length_nil, List.length_take, List.length_drop, List.length_replicate]; omega) | (simp; omega)) (by first | omega | (simp only [List.length_map, List.length_append, List.length_cons, List.length_nil, List.length_take, List.length_drop, List.length_replicate]; omega) | (simp; omega)) rfl ht⟩,
      ⟨⟨rfl, rfl, fun _ τ hb ht hτ => R.appE (Or.inl rfl) (hτ 6 _ rfl) (SrcO.sc (SC.va (hτ 7 _ rfl) (hb 2 _ rfl) rfl (by decide)) (pur_part (fun _ => rfl))) (show _ = (a.map D.u8) from ((List.nil_append _).trans (part32 a hx))) (by simp [hx]) ht (by decide) (by decide)⟩,
      ⟨⟨rfl, rfl, fun _ τ hb ht hτ => R.asgO (hτ 8 _ rfl) rfl ht (by decide)⟩,
      trivial⟩⟩⟩⟩, rfl, rfl, rfl⟩)
    rfl (bx' := [(4, .var _), (3, .var _), (2, .var _)]) rfl (n' := 13) rfl (⟨[3, 4, 5], [(3, _), (4, _), (5, _)], [(4, .var _), (3, .var _), (2, .var _)], 13, rfl, rfl, rfl, ?_⟩)
  refine W.seq ?_
  refine W.line (n := 5) (by decide) (its := [⟨9, _, true⟩, ⟨10, _, true⟩, ⟨11, _, true⟩, ⟨12, _, true⟩]) (ks := [(2, 5)]) (kk := [(2, 5)]) (live := [4, 12]) (env' := [(4, _), (12, _)])
    (⟨Nat.le_of_ble_eq_true rfl, rfl,
      ⟨⟨rfl, rfl, fun _ τ hb ht hτ => R.al (hτ 5 _ rfl) ht (by decide)⟩,
      ⟨⟨rfl, rfl, fun _ τ hb ht hτ => R.slAN (0) (32) (32) (hτ 3 _ rfl) (hb 3 _ rfl) rfl rfl rfl rfl rfl (by first | omega | (simp only [List.length_map, List.length_append, List.length_cons, List.length_nil, List.length_take, List.length_drop, List.length_replicate]; omega) | (simp; omega)) (by first | omega | (simp only [List.length_map, List.length_append, List.length_cons, List.length_nil, List.length_take, List.length_drop, List.length_replicate]; omega) | (simp; omega)) rfl ht⟩,
      ⟨⟨rfl, rfl, fun _ τ hb ht hτ => R.appE (Or.inr (hτ 9 _ rfl)) (hτ 5 _ rfl) (SrcO.sc (SC.va (hτ 10 _ rfl) (hb 3 _ rfl) rfl (by decide)) (pur_part (fun _ => rfl))) (show _ = ((a ++ b).map D.u8) from (by rw [part32 b hy, List.map_append])) (by simp [hx, hy]) ht (by decide) (by decide)⟩,
      ⟨⟨rfl, rfl, fun _ τ hb ht hτ => R.callG hC (rtwice_ok (a ++ b) (by simp only [List.length_append, hx, hy]; decide)) (Bors.cons (Bor.sc (SC.sl (hτ 11 _ rfl)) (brw_map (fun _ => rfl))) Bors.nil) (FrsR.one (frs_hash _)) ht⟩,
      trivial⟩⟩⟩⟩, rfl, rfl, rfl⟩)
    rfl (bx' := [(4, .var _), (3, .var _), (2, .var _)]) rfl (n' := 13) rfl (⟨rfl, _, R.stZ (show Sg.get _ 4 = some _ from rfl) (show Sg.box _ 4 = some _ from rfl) rfl (evt (show Sg.get _ 12 = some _ from rfl)) (by rfl) (by rfl) (by rfl) (by rfl) rfl, ⟨[4], [(4, _)], [(4, .var _), (3, .var _), (2, .var _)], 13, rfl, rfl, rfl, ?_⟩⟩)
  refine W.ret ?_
  exact Ends.one' (.inr rfl) rfl (rfl) rfl rfl (show LdT _ 23 32 true from inferInstance)

theorem leaf_ok (b : List UInt8) (hb0 : b.length ≤ 1000) : Fn Tryd.prog gl 9 [.sl none 1 (b.map D.u8)] (.tup [hashD (leafS twiceS b).1, .int (leafS twiceS b).2]) := by
  refine Fn.of (n := 10) Tryd.func9 rfl rfl rfl (Nat.le_of_ble_eq_true rfl) fun C hC hD => ?_
  refine W.seq ?_
  refine W.line (n := 2) (by decide) (its := []) (ks := []) (kk := []) (live := [0]) (env' := [(0, _)])
    (⟨Nat.le_of_ble_eq_true rfl, rfl,
      trivial, rfl, rfl, rfl⟩)
    rfl (bx' := []) rfl (n' := 10) rfl (⟨rfl, _, R.alloc rfl (Nat.le_of_ble_eq_true rfl), ⟨rfl, _, R.asg (show ev _ _ (.const (.int .i64 0)) = some (.int ((0 : Nat) : Int)) from rfl) rfl (Nat.le_of_ble_eq_true rfl), ⟨[0, 2], [(0, _), (2, _)], [(2, .var _)], 10, rfl, rfl, rfl, ?_⟩⟩⟩)
  refine W.seq ?_
  refine W.seq ?_
  refine W.line (n := 3) (by decide) (its := [⟨4, _, true⟩, ⟨5, _, true⟩, ⟨6, _, true⟩]) (ks := []) (kk := []) (live := [0, 2, 6]) (env' := [(0, _), (2, _), (6, _)])
    (⟨Nat.le_of_ble_eq_true rfl, rfl,
      ⟨⟨rfl, rfl, fun _ τ hb ht hτ => R.mov (evt (hτ 0 _ rfl)) rfl ht⟩,
      ⟨⟨rfl, rfl, fun _ τ hb ht hτ => R.lenE (SC.sl (hτ 4 _ rfl)) (List.length_map _) ht⟩,
      ⟨⟨rfl, rfl, fun _ τ hb ht hτ => R.eqlN (b.length) (64) (evt (hτ 5 _ rfl)) (show ev _ _ (.const (.int .i64 64)) = some (.int ((64 : Nat) : Int)) from rfl) ht⟩,
      trivial⟩⟩⟩, rfl, rfl, rfl⟩)
    rfl (bx' := [(2, .var _)]) rfl (n' := 10) rfl (⟨[0, 2, 6], [(0, _), (2, _), (6, _)], [(2, .var _)], 10, rfl, rfl, rfl, ?_⟩)
  refine W.condD rfl (fun hc6 => ?_) (fun hc6 => ?_)
  · refine W.seq ?_
    refine W.line (n := 3) (by decide) (its := [⟨7, _, true⟩]) (ks := []) (kk := []) (live := [2, 7]) (env' := [(2, _), (7, _)])
      (⟨Nat.le_of_ble_eq_true rfl, rfl,
        ⟨⟨rfl, rfl, fun _ τ hb ht hτ => R.bldAZ rfl ht⟩,
        trivial⟩, rfl, rfl, rfl⟩)
      rfl (bx' := [(2, .var _)]) rfl (n' := 10) rfl (⟨rfl, _, R.stZ (show Sg.get _ 2 = some _ from rfl) (show Sg.box _ 2 = some _ from rfl) rfl (evt (show Sg.get _ 7 = some _ from rfl)) (by rfl) (by rfl) (by rfl) (by rfl) rfl, ⟨rfl, _, R.asg (show ev _ _ (.const (.int .i64 15)) = some (.int ((15 : Nat) : Int)) from rfl) rfl (Nat.le_of_ble_eq_true rfl), ⟨[2, 3], [(2, _), (3, _)], [(2, .var _)], 10, rfl, rfl, rfl, ?_⟩⟩⟩)
    refine W.ret ?_
    exact Ends.many (.inr rfl) (.cons rfl rfl rfl (show LdT _ 23 32 true from inferInstance) (.cons rfl rfl rfl trivial .nil)) (by simp only [leafS, if_pos hc6]; rfl) (show [(2, false), (3, true)].Nodup by decide)
  · refine W.skip ?_
    refine W.seq ?_
    refine W.line (n := 4) (by decide) (its := [⟨8, _, true⟩, ⟨9, _, true⟩]) (ks := []) (kk := []) (live := [2, 9]) (env' := [(2, _), (9, _)])
      (⟨Nat.le_of_ble_eq_true rfl, rfl,
        ⟨⟨rfl, rfl, fun _ τ hb ht hτ => R.mov (evt (hτ 0 _ rfl)) rfl ht⟩,
        ⟨⟨rfl, rfl, fun _ τ hb ht hτ => R.callG hC (twice_ok b (by omega)) (Bors.cons (Bor.pur (evt (hτ 8 _ rfl)) rfl rfl) Bors.nil) (FrsR.one (frs_hash _)) ht⟩,
        trivial⟩⟩, rfl, rfl, rfl⟩)
      rfl (bx' := [(2, .var _)]) rfl (n' := 10) rfl (⟨rfl, _, R.stZ (show Sg.get _ 2 = some _ from rfl) (show Sg.box _ 2 = some _ from rfl) rfl (evt (show Sg.get _ 9 = some _ from rfl)) (by rfl) (by rfl) (by rfl) (by rfl) rfl, ⟨rfl, _, R.asg (show ev _ _ (.const (.int .i64 0)) = some (.int ((0 : Nat) : Int)) from rfl) rfl (Nat.le_of_ble_eq_true rfl), ⟨[2, 3], [(2, _), (3, _)], [(2, .var _)], 10, rfl, rfl, rfl, ?_⟩⟩⟩)
    refine W.ret ?_
    exact Ends.many (.inr rfl) (.cons rfl rfl rfl (show LdT _ 23 32 true from inferInstance) (.cons rfl rfl rfl trivial .nil)) (by simp only [leafS, if_neg hc6]; rfl) (show [(2, false), (3, true)].Nodup by decide)

theorem rleaf_ok (b : List UInt8) (hb0 : b.length ≤ 1000) : Fn Tryd.prog gl 10 [.sl none 1 (b.map D.u8)] (.tup [hashD (leafS twiceR b).1, .int (leafS twiceR b).2]) := by
  refine Fn.of (n := 10) Tryd.func10 rfl rfl rfl (Nat.le_of_ble_eq_true rfl) fun C hC hD => ?_
  refine W.seq ?_
  refine W.line (n := 2) (by decide) (its := []) (ks := []) (kk := []) (live := [0]) (env' := [(0, _)])
    (⟨Nat.le_of_ble_eq_true rfl, rfl,
      trivial, rfl, rfl, rfl⟩)
    rfl (bx' := []) rfl (n' := 10) rfl (⟨rfl, _, R.alloc rfl (Nat.le_of_ble_eq_true rfl), ⟨rfl, _, R.asg (show ev _ _ (.const (.int .i64 0)) = some (.int ((0 : Nat) : Int)) from rfl) rfl (Nat.le_of_ble_eq_true rfl), ⟨[0, 2], [(0, _), (2, _)], [(2, .var _)], 10, rfl, rfl, rfl, ?_⟩⟩⟩)
  refine W.seq ?_
  refine W.seq ?_
  refine W.line (n := 3) (by decide) (its := [⟨4, _, true⟩, ⟨5, _, true⟩, ⟨6, _, true⟩]) (ks := []) (kk := []) (live := [0, 2, 6]) (env' := [(0, _), (2, _), (6, _)])
    (⟨Nat.le_of_ble_eq_true rfl, rfl,
      ⟨⟨rfl, rfl, fun _ τ hb ht hτ => R.mov (evt (hτ 0 _ rfl)) rfl ht⟩,
      ⟨⟨rfl, rfl, fun _ τ hb ht hτ => R.lenE (SC.sl (hτ 4 _ rfl)) (List.length_map _) ht⟩,
      ⟨⟨rfl, rfl, fun _ τ hb ht hτ => R.eqlN (b.length) (64) (evt (hτ 5 _ rfl)) (show ev _ _ (.const (.int .i64 64)) = some (.int ((64 : Nat) : Int)) from rfl) ht⟩,
      trivial⟩⟩⟩, rfl, rfl, rfl⟩)
    rfl (bx' := [(2, .var _)]) rfl (n' := 10) rfl (⟨[0, 2, 6], [(0, _), (2, _), (6, _)], [(2, .var _)], 10, rfl, rfl, rfl, ?_⟩)
  refine W.condD rfl (fun hc6 => ?_) (fun hc6 => ?_)
  · refine W.seq ?_
    refine W.line (n := 3) (by decide) (its := [⟨7, _, true⟩]) (ks := []) (kk := []) (live := [2, 7]) (env' := [(2, _), (7, _)])
      (⟨Nat.le_of_ble_eq_true rfl, rfl,
        ⟨⟨rfl, rfl, fun _ τ hb ht hτ => R.bldAZ rfl ht⟩,
        trivial⟩, rfl, rfl, rfl⟩)
      rfl (bx' := [(2, .var _)]) rfl (n' := 10) rfl (⟨rfl, _, R.stZ (show Sg.get _ 2 = some _ from rfl) (show Sg.box _ 2 = some _ from rfl) rfl (evt (show Sg.get _ 7 = some _ from rfl)) (by rfl) (by rfl) (by rfl) (by rfl) rfl, ⟨rfl, _, R.asg (show ev _ _ (.const (.int .i64 15)) = some (.int ((15 : Nat) : Int)) from rfl) rfl (Nat.le_of_ble_eq_true rfl), ⟨[2, 3], [(2, _), (3, _)], [(2, .var _)], 10, rfl, rfl, rfl, ?_⟩⟩⟩)
    refine W.ret ?_
    exact Ends.many (.inr rfl) (.cons rfl rfl rfl (show LdT _ 23 32 true from inferInstance) (.cons rfl rfl rfl trivial .nil)) (by simp only [leafS, if_pos hc6]; rfl) (show [(2, false), (3, true)].Nodup by decide)
  · refine W.skip ?_
    refine W.seq ?_
    refine W.line (n := 4) (by decide) (its := [⟨8, _, true⟩, ⟨9, _, true⟩]) (ks := []) (kk := []) (live := [2, 9]) (env' := [(2, _), (9, _)])
      (⟨Nat.le_of_ble_eq_true rfl, rfl,
        ⟨⟨rfl, rfl, fun _ τ hb ht hτ => R.mov (evt (hτ 0 _ rfl)) rfl ht⟩,
        ⟨⟨rfl, rfl, fun _ τ hb ht hτ => R.callG hC (rtwice_ok b (by omega)) (Bors.cons (Bor.pur (evt (hτ 8 _ rfl)) rfl rfl) Bors.nil) (FrsR.one (frs_hash _)) ht⟩,
        trivial⟩⟩, rfl, rfl, rfl⟩)
      rfl (bx' := [(2, .var _)]) rfl (n' := 10) rfl (⟨rfl, _, R.stZ (show Sg.get _ 2 = some _ from rfl) (show Sg.box _ 2 = some _ from rfl) rfl (evt (show Sg.get _ 9 = some _ from rfl)) (by rfl) (by rfl) (by rfl) (by rfl) rfl, ⟨rfl, _, R.asg (show ev _ _ (.const (.int .i64 0)) = some (.int ((0 : Nat) : Int)) from rfl) rfl (Nat.le_of_ble_eq_true rfl), ⟨[2, 3], [(2, _), (3, _)], [(2, .var _)], 10, rfl, rfl, rfl, ?_⟩⟩⟩)
    refine W.ret ?_
    exact Ends.many (.inr rfl) (.cons rfl rfl rfl (show LdT _ 23 32 true from inferInstance) (.cons rfl rfl rfl trivial .nil)) (by simp only [leafS, if_neg hc6]; rfl) (show [(2, false), (3, true)].Nodup by decide)

end Go.Sx
