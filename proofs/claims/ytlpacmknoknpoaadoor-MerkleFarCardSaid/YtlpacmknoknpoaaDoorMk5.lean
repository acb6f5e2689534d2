/- Proved: what functions of the given program compute (used by the theorem of this claim). Conditions: none but those that each theorem states. -/
import Derived.Test.YtlpacmknoknpoaaDoorMk4
import Derived.Test.YtlpacmknoknpoaaDoorMkLaw
set_option linter.unusedVariables false
set_option linter.unusedSimpArgs false
set_option linter.unnecessarySimpa false
namespace Go.Sx
open Go.Proofs
theorem rows_ok (l : List Hs) : Fn Tryd.prog gl 18 [.sl none 32 (l.map hashD)] (.fn 22 [.rp (.sl none 32 (l.map hashD))]) := by
  refine Fn.of (n := 4) Tryd.func18 rfl rfl rfl (Nat.le_of_ble_eq_true rfl) fun C hC hD => ?_
  refine W.seq ?_
  refine W.line (n := 2) (by decide) (its := []) (ks := []) (kk := []) (live := [0]) (env' := [(0, _)])
    (⟨Nat.le_of_ble_eq_true rfl, rfl,
      trivial, rfl, rfl, rfl⟩)
    rfl (bx' := []) rfl (n' := 4) rfl (⟨rfl, _, R.box (evt (show Sg.get _ 0 = some _ from rfl)) rfl rfl (Nat.le_of_ble_eq_true rfl), ⟨rfl, _, R.asg (show ev _ _ (.const (.nilFunc)) = some (.nilf) from rfl) rfl (Nat.le_of_ble_eq_true rfl), ⟨[1], [(1, _)], [(1, .var _)], 4, rfl, rfl, rfl, ?_⟩⟩⟩)
  refine W.seq ?_
  refine W.frzB 1 [] (d' := .sl none 32 (l.map hashD)) (bx' := []) rfl (brw_hs _ _ _) rfl rfl rfl rfl rfl rfl (pin_sub hD rfl) ?_
  refine W.line (n := 2) (by decide) (its := [⟨3, _, true⟩, ⟨2, _, true⟩]) (ks := []) (kk := []) (live := [2]) (env' := [(2, _)])
    (⟨Nat.le_of_ble_eq_true rfl, rfl,
      ⟨⟨rfl, rfl, fun _ τ hb ht hτ => R.mkfn1 (evt (hτ 1 _ rfl)) rfl rfl ht⟩,
      ⟨⟨rfl, rfl, fun _ τ hb ht hτ => R.asg (evt (hτ 3 _ rfl)) rfl ht⟩,
      trivial⟩⟩, rfl, rfl, rfl⟩)
    rfl (bx' := []) rfl (n' := 4) rfl (⟨[2], [(2, _)], [], 4, rfl, rfl, rfl, ?_⟩)
  refine W.ret ?_
  exact Ends.one' (.inr rfl) rfl (rfl) rfl rfl trivial

theorem rows_itr (l : List Hs) (hl : allH l) (hl0 : l.length ≤ 1000) : Itr Tryd.prog gl 22 [.rp (.sl none 32 (l.map hashD))] ((List.range (nRows l.length)).map fun k => .sl none 32 ((rowA joinS l k).map hashD)) := by
  refine Itr.of (n := 43) Tryd.func22 rfl rfl rfl rfl (Nat.le_of_ble_eq_true rfl) fun G Y lo hY hyl => ?_
  refine V.scope ?_
  refine V.seq ?_
  refine V.of fun C hC hD => ?_
  refine W.line (n := 2) (by decide) (its := [⟨6, _, true⟩, ⟨3, _, true⟩]) (ks := []) (kk := []) (live := [0, 3]) (env' := [(0, _), (3, _)])
    (⟨Nat.le_of_ble_eq_true rfl, rfl,
      ⟨⟨rfl, rfl, fun _ τ hb ht hτ => R.ldR (evt (hτ 1 _ rfl)) rfl rfl rfl ht⟩,
      ⟨⟨rfl, rfl, fun _ τ hb ht hτ => R.asg (evt (hτ 6 _ rfl)) rfl ht⟩,
      trivial⟩⟩, rfl, rfl, rfl⟩)
    rfl (bx' := []) rfl (n' := 43) rfl (⟨[0, 3], [(0, _), (3, _)], [], 43, rfl, rfl, rfl, ?_⟩)
  refine V.seq ?_
  refine V.label ?_
  refine V.block ?_
  refine V.loop (α := {q__ : Nat // q__ + nRows (rowA joinS l q__).length = nRows l.length}) (fun q__ => ((q__.1, false), (⟨43, [(0, .yld lo), (3, .sl none 32 ((rowA joinS l q__.1).map hashD))], []⟩ : Sg))) (fun q__ => nRows l.length - q__.1) ⟨(0), (by show 0 + _ = _; rw [Nat.zero_add]; rfl)⟩ rfl ?_
  rintro ⟨k, hk⟩
  show V _ _ _ _ _ ((k, false), (⟨43, [(0, .yld lo), (3, .sl none 32 ((rowA joinS l k).map hashD))], []⟩ : Sg))
  have hrl := rowA_len joinS l k
  have hle := lenA_le l.length k
  have hra := rowA_all joinS_len hl k
  have hk : k + nRows (rowA joinS l k).length = nRows l.length := hk
  refine V.seq ?_
  refine V.of fun C hC hD => ?_
  refine W.seq ?_
  refine W.line (n := 3) (by decide) (its := [⟨7, _, true⟩, ⟨8, _, true⟩, ⟨9, _, true⟩]) (ks := []) (kk := []) (live := [0, 3, 9]) (env' := [(0, _), (3, _), (9, _)])
    (⟨Nat.le_of_ble_eq_true rfl, rfl,
      ⟨⟨rfl, rfl, fun _ τ hb ht hτ => R.mov (evt (hτ 3 _ rfl)) rfl ht⟩,
      ⟨⟨rfl, rfl, fun _ τ hb ht hτ => R.lenE (SC.sl (hτ 7 _ rfl)) (List.length_map _) ht⟩,
      ⟨⟨rfl, rfl, fun _ τ hb ht hτ => R.gtrN ((rowA joinS l k).length) (0) (evt (hτ 8 _ rfl)) (show ev _ _ (.const (.int .i64 0)) = some (.int ((0 : Nat) : Int)) from rfl) ht⟩,
      trivial⟩⟩⟩, rfl, rfl, rfl⟩)
    rfl (bx' := []) rfl (n' := 43) rfl (⟨[0, 3, 9], [(0, _), (3, _), (9, _)], [], 43, rfl, rfl, rfl, ?_⟩)
  refine W.condD rfl (fun hc9 => ?_) (fun hc9 => ?_)
  · refine W.skip ?_
    refine V.block ?_
    refine V.seq ?_
    refine V.seq ?_
    refine V.region ?_
    refine VL.step rfl (fun C hC => R.mov (evt (show Sg.get _ 0 = some _ from rfl)) rfl (Nat.le_of_ble_eq_true rfl)) ?_
    refine VL.step rfl (fun C hC => R.mov (evt (show Sg.get _ 3 = some _ from rfl)) rfl (Nat.le_of_ble_eq_true rfl)) ?_
    refine VL.yield hY hyl (show Sg.get _ 10 = some _ from rfl) (evt (show Sg.get _ 11 = some _ from rfl)) rfl rfl (by rw [List.length_map, List.length_range]; have := nRows_pos (n := (rowA joinS l k).length) (by omega); omega) (by rw [List.getElem_map, List.getElem_range]) (Nat.le_of_ble_eq_true rfl) (fun s__ => ?_)
    cases s__
    · refine VL.step rfl (fun C hC => R.un (evt (show Sg.get _ 12 = some _ from rfl)) rfl (Nat.le_of_ble_eq_true rfl)) ?_
      refine VL.step rfl (fun C hC => R.mov (evt (show Sg.get _ 13 = some _ from rfl)) rfl (Nat.le_of_ble_eq_true rfl)) ?_
      refine VL.stepG ⟨_, 14, rfl, rfl, .inl ⟨_, rfl, gw (v := false) (rfl) rfl⟩⟩ (fun C hC => R.mov (evt (show Sg.get _ 3 = some _ from rfl)) rfl (Nat.le_of_ble_eq_true rfl)) ?_
      refine VL.stepG ⟨_, 14, rfl, rfl, .inl ⟨_, rfl, gw (v := false) (rfl) rfl⟩⟩ (fun C hC => R.lenE (SC.sl (show Sg.get _ 15 = some _ from rfl)) (List.length_map _) (Nat.le_of_ble_eq_true rfl)) ?_
      refine VL.stepG ⟨_, 14, rfl, rfl, .inl ⟨_, rfl, gw (v := false) (rfl) rfl⟩⟩ (fun C hC => R.eqlN ((rowA joinS l k).length) (1) (evt (show Sg.get _ 16 = some _ from rfl)) (show ev _ _ (.const (.int .i64 1)) = some (.int ((1 : Nat) : Int)) from rfl) (Nat.le_of_ble_eq_true rfl)) ?_
      refine VL.step rfl (fun C hC => R.pickF (evt (show Sg.get _ 14 = some _ from rfl)) (rfl) (evt (show Sg.get _ 17 = some _ from rfl)) rfl (Nat.le_of_ble_eq_true rfl)) ?_
      refine VL.nil ?_
      refine V.dropS (live := [0, 3, 18]) (env' := [(0, _), (3, _), (18, _)]) (bx' := []) (n' := 43) rfl rfl rfl ?_
      refine V.of fun C hC hD => ?_
      refine W.condD rfl (fun hc18 => ?_) (fun hc18 => ?_)
      · refine W.exit ?_
        exact ⟨fun _ h => (by cases h), .inl rfl, .inr (by rw [List.length_map, List.length_range]; show k + 1 = _; rw [show (rowA joinS l k).length = 1 by omega, nRows_1] at hk; omega)⟩
      · refine W.skip ?_
        refine V.of fun C hC hD => ?_
        refine W.seq ?_
        refine W.line (n := 1) (by decide) (its := [⟨4, _, true⟩]) (ks := []) (kk := []) (live := [0, 3, 4]) (env' := [(0, _), (3, _), (4, _)])
          (⟨Nat.le_of_ble_eq_true rfl, rfl,
            ⟨⟨rfl, rfl, fun _ τ hb ht hτ => R.asg (show ev _ _ (.const (.slice none 0 0)) = some (.nils) from rfl) rfl ht⟩,
            trivial⟩, rfl, rfl, rfl⟩)
          rfl (bx' := []) rfl (n' := 43) rfl (⟨[0, 3, 4], [(0, _), (3, _), (4, _)], [], 43, rfl, rfl, rfl, ?_⟩)
        refine W.seq ?_
        refine W.seq ?_
        refine W.line (n := 1) (by decide) (its := [⟨5, _, true⟩]) (ks := []) (kk := []) (live := [0, 3, 4, 5]) (env' := [(0, _), (3, _), (4, _), (5, _)])
          (⟨Nat.le_of_ble_eq_true rfl, rfl,
            ⟨⟨rfl, rfl, fun _ τ hb ht hτ => R.asg (show ev _ _ (.const (.int .i64 0)) = some (.int ((0 : Nat) : Int)) from rfl) rfl ht⟩,
            trivial⟩, rfl, rfl, rfl⟩)
          rfl (bx' := []) rfl (n' := 43) rfl (⟨[0, 3, 4, 5], [(0, _), (3, _), (4, _), (5, _)], [], 43, rfl, rfl, rfl, ?_⟩)
        refine W.block ?_
        refine W.asOwn (s := 4) 23 32 rfl ?_
        refine W.loop (α := {q__ : Nat // q__ ≤ ((rowA joinS l k).length + 1) / 2}) (fun q__ => ⟨43, [(0, .yld lo), (3, .sl none 32 ((rowA joinS l k).map hashD)), (4, .sl (some 23) 32 ((upI joinS (rowA joinS l k) q__.1).map hashD)), (5, .int ((2 * q__.1 : Nat) : Int))], []⟩) (fun q__ => ((rowA joinS l k).length + 1) / 2 - q__.1) ⟨(0), (by first | omega | (simp only [List.length_map, List.length_append, List.length_cons, List.length_nil, List.length_take, List.length_drop, List.length_replicate]; omega) | (simp; omega))⟩ rfl ?_
        rintro ⟨i, hi⟩
        show W _ _ _ _ ⟨43, [(0, .yld lo), (3, .sl none 32 ((rowA joinS l k).map hashD)), (4, .sl (some 23) 32 ((upI joinS (rowA joinS l k) i).map hashD)), (5, .int ((2 * i : Nat) : Int))], []⟩
        have hul := upI_len joinS (rowA joinS l k) i
        refine W.seq ?_
        refine W.seq ?_
        refine W.line (n := 4) (by decide) (its := [⟨19, _, true⟩, ⟨20, _, true⟩, ⟨21, _, true⟩, ⟨22, _, true⟩]) (ks := []) (kk := []) (live := [0, 3, 4, 5, 22]) (env' := [(0, _), (3, _), (4, _), (5, _), (22, _)])
          (⟨Nat.le_of_ble_eq_true rfl, rfl,
            ⟨⟨rfl, rfl, fun _ τ hb ht hτ => R.mov (evt (hτ 5 _ rfl)) rfl ht⟩,
            ⟨⟨rfl, rfl, fun _ τ hb ht hτ => R.mov (evt (hτ 3 _ rfl)) rfl ht⟩,
            ⟨⟨rfl, rfl, fun _ τ hb ht hτ => R.lenE (SC.sl (hτ 20 _ rfl)) (List.length_map _) ht⟩,
            ⟨⟨rfl, rfl, fun _ τ hb ht hτ => R.lssN (2 * i) ((rowA joinS l k).length) (evt (hτ 19 _ rfl)) (evt (hτ 21 _ rfl)) ht⟩,
            trivial⟩⟩⟩⟩, rfl, rfl, rfl⟩)
          rfl (bx' := []) rfl (n' := 43) rfl (⟨[0, 3, 4, 5, 22], [(0, _), (3, _), (4, _), (5, _), (22, _)], [], 43, rfl, rfl, rfl, ?_⟩)
        refine W.condD rfl (fun hc22 => ?_) (fun hc22 => ?_)
        · refine W.skip ?_
          refine W.seq ?_
          refine W.block ?_
          refine W.draw (m := 18) (an := [0, 0, 0, 6, 14, 0, 0, 64, 0, 256, 768, 1984, 4064, 8160, 16382, 32766, 65535, 131071]) hP (by decide) rfl (its := [⟨25, _, true⟩, ⟨26, _, true⟩, ⟨27, _, true⟩, ⟨28, _, true⟩, ⟨29, _, true⟩, ⟨30, _, true⟩, ⟨31, _, true⟩, ⟨32, _, true⟩, ⟨33, _, true⟩, ⟨34, _, true⟩, ⟨35, _, true⟩, ⟨36, _, true⟩, ⟨37, _, true⟩, ⟨38, _, true⟩, ⟨39, _, true⟩, ⟨40, _, true⟩, ⟨41, _, true⟩, ⟨4, _, true⟩]) (ks := [(16, 4), (17, 41), (17, 25)]) (kk := [(16, 4), (17, 41)]) (live := [0, 3, 4, 5]) (env' := [(0, _), (3, _), (4, _), (5, _)])
            (⟨Nat.le_of_ble_eq_true rfl, rfl,
              ⟨⟨rfl, rfl, fun _ τ hb ht hτ => R.al (hτ 4 _ rfl) ht (by decide)⟩,
              ⟨⟨rfl, rfl, fun _ τ hb ht hτ => R.mov (evt (hτ 3 _ rfl)) rfl ht⟩,
              ⟨⟨rfl, rfl, fun _ τ hb ht hτ => R.mov (evt (hτ 5 _ rfl)) rfl ht⟩,
              ⟨⟨rfl, rfl, fun _ τ hb ht hτ => R.idxN (2 * i) (SC.sl (hτ 26 _ rfl)) (evoI (evt (hτ 27 _ rfl))) rfl (by first | omega | (simp only [List.length_map, List.length_append, List.length_cons, List.length_nil, List.length_take, List.length_drop, List.length_replicate]; omega) | (simp; omega)) ht (by decide)⟩,
              ⟨⟨rfl, rfl, fun _ τ hb ht hτ => R.ldE (hτ 28 _ rfl) (SC.sl (hτ 26 _ rfl)) (map_get! (l := (rowA joinS l k)) (by first | omega | (simp only [List.length_map, List.length_append, List.length_cons, List.length_nil, List.length_take, List.length_drop, List.length_replicate]; omega) | (simp; omega))) rfl rfl rfl rfl ht⟩,
              ⟨⟨rfl, rfl, fun _ τ hb ht hτ => R.mov (evt (hτ 3 _ rfl)) rfl ht⟩,
              ⟨⟨rfl, rfl, fun _ τ hb ht hτ => R.mov (evt (hτ 5 _ rfl)) rfl ht⟩,
              ⟨⟨rfl, rfl, fun _ τ hb ht hτ => R.addN (2 * i) (1) (evt (hτ 31 _ rfl)) (show ev _ _ (.const (.int .i64 1)) = some (.int ((1 : Nat) : Int)) from rfl) (by first | omega | (simp only [List.length_map, List.length_append, List.length_cons, List.length_nil, List.length_take, List.length_drop, List.length_replicate]; omega) | (simp; omega)) ht⟩,
              ⟨⟨rfl, rfl, fun _ τ hb ht hτ => R.mov (evt (hτ 3 _ rfl)) rfl ht⟩,
              ⟨⟨rfl, rfl, fun _ τ hb ht hτ => R.lenE (SC.sl (hτ 33 _ rfl)) (List.length_map _) ht⟩,
              ⟨⟨rfl, rfl, fun _ τ hb ht hτ => R.subN ((rowA joinS l k).length) (1) (evt (hτ 34 _ rfl)) (show ev _ _ (.const (.int .i64 1)) = some (.int ((1 : Nat) : Int)) from rfl) (by first | omega | (simp only [List.length_map, List.length_append, List.length_cons, List.length_nil, List.length_take, List.length_drop, List.length_replicate]; omega) | (simp; omega)) (by first | omega | (simp only [List.length_map, List.length_append, List.length_cons, List.length_nil, List.length_take, List.length_drop, List.length_replicate]; omega) | (simp; omega)) ht⟩,
              ⟨⟨rfl, rfl, fun _ τ hb ht hτ => R.minI (r := ((min (2 * i + 1) ((rowA joinS l k).length - 1) : Nat) : Int)) (evt (hτ 32 _ rfl)) (evt (hτ 35 _ rfl)) (by omega) ht⟩,
              ⟨⟨rfl, rfl, fun _ τ hb ht hτ => R.idxN (min (2 * i + 1) ((rowA joinS l k).length - 1)) (SC.sl (hτ 30 _ rfl)) (evoI (evt (hτ 36 _ rfl))) rfl (by first | omega | (simp only [List.length_map, List.length_append, List.length_cons, List.length_nil, List.length_take, List.length_drop, List.length_replicate]; omega) | (simp; omega)) ht (by decide)⟩,
              ⟨⟨rfl, rfl, fun _ τ hb ht hτ => R.ldE (hτ 37 _ rfl) (SC.sl (hτ 30 _ rfl)) (map_get! (l := (rowA joinS l k)) (by first | omega | (simp only [List.length_map, List.length_append, List.length_cons, List.length_nil, List.length_take, List.length_drop, List.length_replicate]; omega) | (simp; omega))) rfl rfl rfl rfl ht⟩,
              ⟨⟨rfl, rfl, fun _ τ hb ht hτ => R.callG hC (join_ok _ _ (hra.get (by omega)) (hra.get (by omega))) (Bors.cons (Bor.pur (evt (hτ 29 _ rfl)) rfl rfl) (Bors.cons (Bor.pur (evt (hτ 38 _ rfl)) rfl rfl) Bors.nil)) (FrsR.one (frs_hash _)) ht⟩,
              ⟨⟨rfl, rfl, fun _ τ hb ht hτ => R.bslE (z := 32) (.cons (evt (hτ 39 _ rfl)) .nil) ⟨⟨rfl, rfl, rfl⟩, trivial⟩ rfl ht (by decide)⟩,
              ⟨⟨rfl, rfl, fun _ τ hb ht hτ => R.appE (Or.inr (hτ 25 _ rfl)) (hτ 4 _ rfl) (SrcO.sc (SC.sl (hτ 40 _ rfl)) (pur_lit rfl)) (app_one) (by first | omega | (simp only [List.length_map, List.length_append, List.length_cons, List.length_nil, List.length_take, List.length_drop, List.length_replicate]; omega) | (simp; omega)) ht (by decide) (by decide)⟩,
              ⟨⟨rfl, rfl, fun _ τ hb ht hτ => R.asgO (hτ 41 _ rfl) rfl ht (by decide)⟩,
              trivial⟩⟩⟩⟩⟩⟩⟩⟩⟩⟩⟩⟩⟩⟩⟩⟩⟩⟩, rfl, rfl, rfl⟩)
            rfl (bx' := []) rfl (n' := 43) rfl (⟨[0, 3, 4, 5], [(0, _), (3, _), (4, _), (5, _)], [], 43, rfl, rfl, rfl, ?_⟩)
          refine W.line (n := 3) (by decide) (its := [⟨23, _, true⟩, ⟨24, _, true⟩, ⟨5, _, true⟩]) (ks := []) (kk := []) (live := [0, 3, 4, 5]) (env' := [(0, _), (3, _), (4, _), (5, _)])
            (⟨Nat.le_of_ble_eq_true rfl, rfl,
              ⟨⟨rfl, rfl, fun _ τ hb ht hτ => R.mov (evt (hτ 5 _ rfl)) rfl ht⟩,
              ⟨⟨rfl, rfl, fun _ τ hb ht hτ => R.addN (2 * i) (2) (evt (hτ 23 _ rfl)) (show ev _ _ (.const (.int .i64 2)) = some (.int ((2 : Nat) : Int)) from rfl) (by first | omega | (simp only [List.length_map, List.length_append, List.length_cons, List.length_nil, List.length_take, List.length_drop, List.length_replicate]; omega) | (simp; omega)) ht⟩,
              ⟨⟨rfl, rfl, fun _ τ hb ht hτ => R.asg (evt (hτ 24 _ rfl)) rfl ht⟩,
              trivial⟩⟩⟩, rfl, rfl, rfl⟩)
            rfl (bx' := []) rfl (n' := 43) rfl (⟨[0, 3, 4, 5], [(0, _), (3, _), (4, _), (5, _)], [], 43, rfl, rfl, rfl, ?_⟩)
          exact ⟨⟨(i + 1), (by first | omega | (simp only [List.length_map, List.length_append, List.length_cons, List.length_nil, List.length_take, List.length_drop, List.length_replicate]; omega) | (simp; omega))⟩, rfl, (by simp only []; omega)⟩
        · obtain rfl : i = ((rowA joinS l k).length + 1) / 2 := by omega
          refine W.exit ?_
          refine W.frzS (s := 4) (d' := .sl none 32 ((rowA joinS l (k + 1)).map hashD)) rfl rfl (brw_hs _ _ _) ?_
          refine W.line (n := 2) (by decide) (its := [⟨42, _, true⟩, ⟨3, _, true⟩]) (ks := []) (kk := []) (live := [0, 3]) (env' := [(0, _), (3, _)])
            (⟨Nat.le_of_ble_eq_true rfl, rfl,
              ⟨⟨rfl, rfl, fun _ τ hb ht hτ => R.mov (evt (hτ 4 _ rfl)) rfl ht⟩,
              ⟨⟨rfl, rfl, fun _ τ hb ht hτ => R.asg (evt (hτ 42 _ rfl)) rfl ht⟩,
              trivial⟩⟩, rfl, rfl, rfl⟩)
            rfl (bx' := []) rfl (n' := 43) rfl (⟨[0, 3], [(0, _), (3, _)], [], 43, rfl, rfl, rfl, ?_⟩)
          exact ⟨⟨(k + 1), (by have h2 := nRows_2 (n := (rowA joinS l k).length) (by omega); have h3 : (rowA joinS l (k + 1)).length = ((rowA joinS l k).length + 1) / 2 := upR_len _ _; rw [h2, ← h3] at hk; show k + 1 + _ = _; omega)⟩, rfl, (by have := nRows_pos (n := (rowA joinS l k).length) (by omega); simp only []; omega)⟩
    · refine VL.step rfl (fun C hC => R.un (evt (show Sg.get _ 12 = some _ from rfl)) rfl (Nat.le_of_ble_eq_true rfl)) ?_
      refine VL.step rfl (fun C hC => R.mov (evt (show Sg.get _ 13 = some _ from rfl)) rfl (Nat.le_of_ble_eq_true rfl)) ?_
      refine VL.stepU ⟨_, 14, rfl, rfl, .inl ⟨_, rfl, gw (v := true) (rfl) rfl⟩⟩ rfl (Nat.le_of_ble_eq_true rfl) ?_
      refine VL.stepU ⟨_, 14, rfl, rfl, .inl ⟨_, rfl, gw (v := true) (rfl) rfl⟩⟩ rfl (Nat.le_of_ble_eq_true rfl) ?_
      refine VL.stepU ⟨_, 14, rfl, rfl, .inl ⟨_, rfl, gw (v := true) (rfl) rfl⟩⟩ rfl (Nat.le_of_ble_eq_true rfl) ?_
      refine VL.step rfl (fun C hC => R.pickT (evt (show Sg.get _ 14 = some _ from rfl)) (rfl) (show ev _ _ (.const (.bool true)) = some (.bool true) from rfl) rfl (Nat.le_of_ble_eq_true rfl)) ?_
      refine VL.nil ?_
      refine V.dropS (live := [0, 3, 18]) (env' := [(0, _), (3, _), (18, _)]) (bx' := []) (n' := 43) rfl rfl rfl ?_
      refine V.of fun C hC hD => ?_
      refine W.condT rfl (rfl) ?_
      refine W.exit ?_
      exact ⟨fun _ h => (by cases h), .inl rfl, .inl rfl⟩
  · refine W.exit ?_
    exact ⟨fun _ h => (by cases h), .inl rfl, .inr (by rw [List.length_map, List.length_range]; show k = _; rw [show (rowA joinS l k).length = 0 by omega, nRows_0] at hk; omega)⟩

end Go.Sx
