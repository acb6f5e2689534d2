/- Proved: what functions of the given program compute (used by the theorem of this claim). Conditions: none but those that each theorem states. -/
import Derived.Test.YtggoegenobhanaaDoorHd12
set_option linter.unusedVariables false
set_option linter.unusedSimpArgs false
set_option linter.unnecessarySimpa false

namespace Go.Sx
open Go.Proofs
theorem chain_ok (l : List HdS) (hl : allW l) (o a y : UInt8) (hl0 : l.length ≤ 140737488355328) : Fn Tryd.prog gl 5 [.sl none 68 (l.map hdrD), .u8 o, .u8 a, .u8 y] (.bool true) := by
  refine Fn.of (n := 87) Tryd.func5 rfl rfl rfl (Nat.le_of_ble_eq_true rfl) fun C hC hD => ?_
  have hat : (a % 32).toNat < 32 := by rw [UInt8.toNat_mod]; exact Nat.mod_lt _ (by decide)
  have hot := o.toNat_lt
  refine W.seq ?_
  refine W.line (n := 1) (by decide) (its := [⟨8, _, true⟩]) (ks := []) (kk := []) (live := [0, 1, 2, 3]) (env' := [(0, _), (1, _), (2, _), (3, _)])
    (⟨Nat.le_of_ble_eq_true rfl, rfl,
      ⟨⟨rfl, rfl, fun _ τ hb ht hτ => R.asg (show ev _ _ (.const (.bool false)) = some (.bool false) from rfl) rfl ht⟩,
      trivial⟩, rfl, rfl, rfl⟩)
    rfl (bx' := []) rfl (n' := 87) rfl (⟨[0, 1, 2, 3], [(0, _), (1, _), (2, _), (3, _)], [], 87, rfl, rfl, rfl, ?_⟩)
  refine W.seq ?_
  refine W.seq ?_
  refine W.line (n := 3) (by decide) (its := [⟨12, _, true⟩, ⟨13, _, true⟩, ⟨14, _, true⟩]) (ks := []) (kk := []) (live := [0, 1, 2, 3, 14]) (env' := [(0, _), (1, _), (2, _), (3, _), (14, _)])
    (⟨Nat.le_of_ble_eq_true rfl, rfl,
      ⟨⟨rfl, rfl, fun _ τ hb ht hτ => R.mov (evt (hτ 0 _ rfl)) rfl ht⟩,
      ⟨⟨rfl, rfl, fun _ τ hb ht hτ => R.lenE (SC.sl (hτ 12 _ rfl)) (List.length_map _) ht⟩,
      ⟨⟨rfl, rfl, fun _ τ hb ht hτ => R.gtrN (l.length) (100) (evt (hτ 13 _ rfl)) (show ev _ _ (.const (.int .i64 100)) = some (.int ((100 : Nat) : Int)) from rfl) ht⟩,
      trivial⟩⟩⟩, rfl, rfl, rfl⟩)
    rfl (bx' := []) rfl (n' := 87) rfl (⟨[0, 1, 2, 3, 14], [(0, _), (1, _), (2, _), (3, _), (14, _)], [], 87, rfl, rfl, rfl, ?_⟩)
  refine W.condD rfl (fun hc14 => ?_) (fun hc14 => ?_)
  · refine W.seq ?_
    refine W.line (n := 2) (by decide) (its := [⟨15, _, true⟩, ⟨8, _, true⟩]) (ks := []) (kk := []) (live := [8]) (env' := [(8, _)])
      (⟨Nat.le_of_ble_eq_true rfl, rfl,
        ⟨⟨rfl, rfl, fun _ τ hb ht hτ => R.callG hC (works_ok) Bors.nil (FrsR.one (.bool _)) ht⟩,
        ⟨⟨rfl, rfl, fun _ τ hb ht hτ => R.asg (evt (hτ 15 _ rfl)) rfl ht⟩,
        trivial⟩⟩, rfl, rfl, rfl⟩)
      rfl (bx' := []) rfl (n' := 87) rfl (⟨[8], [(8, _)], [], 87, rfl, rfl, rfl, ?_⟩)
    refine W.ret ?_
    exact Ends.one' (.inr rfl) rfl (rfl) rfl rfl trivial
  · refine W.skip ?_
    refine W.seq ?_
    refine W.line (n := 4) (by decide) (its := [⟨16, _, true⟩, ⟨17, _, true⟩, ⟨18, _, true⟩, ⟨9, _, true⟩]) (ks := [(2, 16), (3, 18)]) (kk := [(2, 16), (3, 18)]) (live := [1, 2, 3, 9]) (env' := [(1, _), (2, _), (3, _), (9, _)])
      (⟨Nat.le_of_ble_eq_true rfl, rfl,
        ⟨⟨rfl, rfl, fun _ τ hb ht hτ => R.bslE .nil trivial rfl ht (by decide)⟩,
        ⟨⟨rfl, rfl, fun _ τ hb ht hτ => R.mov (evt (hτ 0 _ rfl)) rfl ht⟩,
        ⟨⟨rfl, rfl, fun _ τ hb ht hτ => R.appE (Or.inl rfl) (hτ 16 _ rfl) (SrcO.sc (SC.sl (hτ 17 _ rfl)) (pur_map (fun _ => rfl))) (show _ = (l.map hdrD) from (List.nil_append _)) (by first | omega | (simp only [List.length_map, List.length_append, List.length_cons, List.length_nil, List.length_take, List.length_drop, List.length_replicate]; omega) | (simp; omega)) ht (by decide) (by decide)⟩,
        ⟨⟨rfl, rfl, fun _ τ hb ht hτ => R.asgO (hτ 18 _ rfl) rfl ht (by decide)⟩,
        trivial⟩⟩⟩⟩, rfl, rfl, rfl⟩)
      rfl (bx' := []) rfl (n' := 87) rfl (⟨[1, 2, 3, 9], [(1, _), (2, _), (3, _), (9, _)], [], 87, rfl, rfl, rfl, ?_⟩)
    refine W.seq ?_
    refine W.seq ?_
    refine W.line (n := 1) (by decide) (its := [⟨10, _, true⟩]) (ks := []) (kk := []) (live := [1, 2, 3, 9, 10]) (env' := [(1, _), (2, _), (3, _), (9, _), (10, _)])
      (⟨Nat.le_of_ble_eq_true rfl, rfl,
        ⟨⟨rfl, rfl, fun _ τ hb ht hτ => R.asg (show ev _ _ (.const (.int .i64 1)) = some (.int ((1 : Nat) : Int)) from rfl) rfl ht⟩,
        trivial⟩, rfl, rfl, rfl⟩)
      rfl (bx' := []) rfl (n' := 87) rfl (⟨[1, 2, 3, 9, 10], [(1, _), (2, _), (3, _), (9, _), (10, _)], [], 87, rfl, rfl, rfl, ?_⟩)
    refine W.block ?_
    refine W.loop (α := {q__ : Nat // q__ + 1 ≤ l.length ∨ q__ = 0}) (fun q__ => ⟨87, [(1, .u8 o), (2, .u8 a), (3, .u8 y), (9, .sl (some 26) 68 ((chI l q__.1).map hdrD)), (10, .int ((q__.1 + 1 : Nat) : Int))], []⟩) (fun q__ => l.length - q__.1) ⟨(0), (.inr rfl)⟩ rfl ?_
    rintro ⟨j, hj⟩
    show W _ _ _ _ ⟨87, [(1, .u8 o), (2, .u8 a), (3, .u8 y), (9, .sl (some 26) 68 ((chI l j).map hdrD)), (10, .int ((j + 1 : Nat) : Int))], []⟩
    have hj : j + 1 ≤ l.length ∨ j = 0 := hj
    have hcl := chI_len l j
    refine W.seq ?_
    refine W.seq ?_
    refine W.line (n := 4) (by decide) (its := [⟨19, _, true⟩, ⟨20, _, true⟩, ⟨21, _, true⟩, ⟨22, _, true⟩]) (ks := []) (kk := []) (live := [1, 2, 3, 9, 10, 22]) (env' := [(1, _), (2, _), (3, _), (9, _), (10, _), (22, _)])
      (⟨Nat.le_of_ble_eq_true rfl, rfl,
        ⟨⟨rfl, rfl, fun _ τ hb ht hτ => R.mov (evt (hτ 10 _ rfl)) rfl ht⟩,
        ⟨⟨rfl, rfl, fun _ τ hb ht hτ => R.al (hτ 9 _ rfl) ht (by decide)⟩,
        ⟨⟨rfl, rfl, fun _ τ hb ht hτ => R.lenE (SC.al (hτ 20 _ rfl) (hτ 9 _ rfl)) (List.length_map _) ht⟩,
        ⟨⟨rfl, rfl, fun _ τ hb ht hτ => R.lssN (j + 1) ((chI l j).length) (evt (hτ 19 _ rfl)) (evt (hτ 21 _ rfl)) ht⟩,
        trivial⟩⟩⟩⟩, rfl, rfl, rfl⟩)
      rfl (bx' := []) rfl (n' := 87) rfl (⟨[1, 2, 3, 9, 10, 22], [(1, _), (2, _), (3, _), (9, _), (10, _), (22, _)], [], 87, rfl, rfl, rfl, ?_⟩)
    refine W.condD rfl (fun hc22 => ?_) (fun hc22 => ?_)
    · refine W.skip ?_
      refine W.seq ?_
      refine W.block ?_
      refine W.line (n := 11) (by decide) (its := [⟨25, _, true⟩, ⟨26, _, true⟩, ⟨27, _, true⟩, ⟨28, _, true⟩, ⟨29, _, true⟩, ⟨30, _, true⟩, ⟨31, _, true⟩, ⟨32, _, true⟩, ⟨33, _, true⟩, ⟨34, _, true⟩]) (ks := []) (kk := []) (live := [1, 2, 3, 9, 10, 25, 32, 34]) (env' := [(1, _), (2, _), (3, _), (9, _), (10, _), (25, _), (32, _), (34, _)])
        (⟨Nat.le_of_ble_eq_true rfl, rfl,
          ⟨⟨rfl, rfl, fun _ τ hb ht hτ => R.al (hτ 9 _ rfl) ht (by decide)⟩,
          ⟨⟨rfl, rfl, fun _ τ hb ht hτ => R.mov (evt (hτ 10 _ rfl)) rfl ht⟩,
          ⟨⟨rfl, rfl, fun _ τ hb ht hτ => R.al (hτ 9 _ rfl) ht (by decide)⟩,
          ⟨⟨rfl, rfl, fun _ τ hb ht hτ => R.mov (evt (hτ 10 _ rfl)) rfl ht⟩,
          ⟨⟨rfl, rfl, fun _ τ hb ht hτ => R.subN (j + 1) (1) (evt (hτ 28 _ rfl)) (show ev _ _ (.const (.int .i64 1)) = some (.int ((1 : Nat) : Int)) from rfl) (by first | omega | (simp only [List.length_map, List.length_append, List.length_cons, List.length_nil, List.length_take, List.length_drop, List.length_replicate]; omega) | (simp; omega)) (by first | omega | (simp only [List.length_map, List.length_append, List.length_cons, List.length_nil, List.length_take, List.length_drop, List.length_replicate]; omega) | (simp; omega)) ht⟩,
          ⟨⟨rfl, rfl, fun _ τ hb ht hτ => R.idxN (j) (SC.al (hτ 27 _ rfl) (hτ 9 _ rfl)) (evoI (evt (hτ 29 _ rfl))) (by simp) (by first | omega | (simp only [List.length_map, List.length_append, List.length_cons, List.length_nil, List.length_take, List.length_drop, List.length_replicate]; omega) | (simp; omega)) ht (by decide)⟩,
          ⟨⟨rfl, rfl, fun _ τ hb ht hτ => R.ldE (hτ 30 _ rfl) (SC.al (hτ 27 _ rfl) (hτ 9 _ rfl)) (map_get! (l := (chI l j)) (by first | omega | (simp only [List.length_map, List.length_append, List.length_cons, List.length_nil, List.length_take, List.length_drop, List.length_replicate]; omega) | (simp; omega))) rfl rfl rfl rfl ht⟩,
          ⟨⟨rfl, rfl, fun _ τ hb ht hτ => R.callG hC (id_ok (chI l j)[j]! ((chI_wf l hl j (by omega)).get (by rw [chI_len]; omega))) (Bors.cons (Bor.pur (evt (hτ 31 _ rfl)) rfl rfl) Bors.nil) (FrsR.one (frs_hash _)) ht⟩,
          ⟨⟨rfl, rfl, fun _ τ hb ht hτ => R.idxN (j + 1) (SC.al (hτ 25 _ rfl) (hτ 9 _ rfl)) (evoI (evt (hτ 26 _ rfl))) rfl (by first | omega | (simp only [List.length_map, List.length_append, List.length_cons, List.length_nil, List.length_take, List.length_drop, List.length_replicate]; omega) | (simp; omega)) ht (by decide)⟩,
          ⟨⟨rfl, rfl, fun _ τ hb ht hτ => R.fdE (hτ 33 _ rfl) ht (by decide)⟩,
          trivial⟩⟩⟩⟩⟩⟩⟩⟩⟩⟩, rfl, rfl, rfl⟩)
        rfl (bx' := []) rfl (n' := 87) rfl (⟨rfl, _, R.stEY (show Sg.get _ 34 = some _ from rfl) (Or.inr (show Sg.get _ 25 = some _ from rfl)) (show Sg.get _ 9 = some _ from rfl) (map_get! (l := (chI l j)) (by first | omega | (simp only [List.length_map, List.length_append, List.length_cons, List.length_nil, List.length_take, List.length_drop, List.length_replicate]; omega) | (simp; omega))) rfl (evt (show Sg.get _ 32 = some _ from rfl)) (by rfl) (by rfl) (by rfl) (by rfl) rfl (set_on (chI l j) (j + 1) (idS (chI l j)[j]!)), ⟨[1, 2, 3, 9, 10], [(1, _), (2, _), (3, _), (9, _), (10, _)], [], 87, rfl, rfl, rfl, ?_⟩⟩)
      refine W.line (n := 3) (by decide) (its := [⟨23, _, true⟩, ⟨24, _, true⟩, ⟨10, _, true⟩]) (ks := []) (kk := []) (live := [1, 2, 3, 9, 10]) (env' := [(1, _), (2, _), (3, _), (9, _), (10, _)])
        (⟨Nat.le_of_ble_eq_true rfl, rfl,
          ⟨⟨rfl, rfl, fun _ τ hb ht hτ => R.mov (evt (hτ 10 _ rfl)) rfl ht⟩,
          ⟨⟨rfl, rfl, fun _ τ hb ht hτ => R.addN (j + 1) (1) (evt (hτ 23 _ rfl)) (show ev _ _ (.const (.int .i64 1)) = some (.int ((1 : Nat) : Int)) from rfl) (by first | omega | (simp only [List.length_map, List.length_append, List.length_cons, List.length_nil, List.length_take, List.length_drop, List.length_replicate]; omega) | (simp; omega)) ht⟩,
          ⟨⟨rfl, rfl, fun _ τ hb ht hτ => R.asg (evt (hτ 24 _ rfl)) rfl ht⟩,
          trivial⟩⟩⟩, rfl, rfl, rfl⟩)
        rfl (bx' := []) rfl (n' := 87) rfl (⟨[1, 2, 3, 9, 10], [(1, _), (2, _), (3, _), (9, _), (10, _)], [], 87, rfl, rfl, rfl, ?_⟩)
      exact ⟨⟨(j + 1), (by show j + 1 + 1 ≤ l.length ∨ j + 1 = 0; omega)⟩, (by rw [chI_step]), (by simp only []; omega)⟩
    · refine W.exit ?_
      refine W.seq ?_
      refine W.seq ?_
      refine W.line (n := 5) (by decide) (its := [⟨35, _, true⟩, ⟨36, _, true⟩, ⟨37, _, true⟩, ⟨38, _, true⟩, ⟨39, _, true⟩]) (ks := []) (kk := []) (live := [1, 2, 3, 9, 39]) (env' := [(1, _), (2, _), (3, _), (9, _), (39, _)])
        (⟨Nat.le_of_ble_eq_true rfl, rfl,
          ⟨⟨rfl, rfl, fun _ τ hb ht hτ => R.al (hτ 9 _ rfl) ht (by decide)⟩,
          ⟨⟨rfl, rfl, fun _ τ hb ht hτ => R.callG hC (linked_ok (chI l j) (chI_wf l hl j (by omega)) (by rw [chI_len]; omega)) (Bors.cons (Bor.sc (SC.al (hτ 35 _ rfl) (hτ 9 _ rfl)) (brw_map brw_hdr)) Bors.nil) (FrsR.one (.int _)) ht⟩,
          ⟨⟨rfl, rfl, fun _ τ hb ht hτ => R.al (hτ 9 _ rfl) ht (by decide)⟩,
          ⟨⟨rfl, rfl, fun _ τ hb ht hτ => R.lenE (SC.al (hτ 37 _ rfl) (hτ 9 _ rfl)) (List.length_map _) ht⟩,
          ⟨⟨rfl, rfl, fun _ τ hb ht hτ => R.neqN (linkS (chI l j)) ((chI l j).length) (evt (hτ 36 _ rfl)) (evt (hτ 38 _ rfl)) ht⟩,
          trivial⟩⟩⟩⟩⟩, rfl, rfl, rfl⟩)
        rfl (bx' := []) rfl (n' := 87) rfl (⟨[1, 2, 3, 9, 39], [(1, _), (2, _), (3, _), (9, _), (39, _)], [], 87, rfl, rfl, rfl, ?_⟩)
      refine W.condF rfl (decide_eq_false (fun h => h ((chain_all l j (by omega)).trans (chI_len l j).symm))) ?_
      refine W.skip ?_
      refine W.seq ?_
      refine W.line (n := 3) (by decide) (its := [⟨40, _, true⟩, ⟨41, _, true⟩, ⟨11, _, true⟩]) (ks := []) (kk := []) (live := [2, 3, 9, 11]) (env' := [(2, _), (3, _), (9, _), (11, _)])
        (⟨Nat.le_of_ble_eq_true rfl, rfl,
          ⟨⟨rfl, rfl, fun _ τ hb ht hτ => R.mov (evt (hτ 1 _ rfl)) rfl ht⟩,
          ⟨⟨rfl, rfl, fun _ τ hb ht hτ => R.conv (evt (hτ 40 _ rfl)) rfl ht⟩,
          ⟨⟨rfl, rfl, fun _ τ hb ht hτ => R.asg (evt (hτ 41 _ rfl)) rfl ht⟩,
          trivial⟩⟩⟩, rfl, rfl, rfl⟩)
        rfl (bx' := []) rfl (n' := 87) rfl (⟨[2, 3, 9, 11], [(2, _), (3, _), (9, _), (11, _)], [], 87, rfl, rfl, rfl, ?_⟩)
      refine W.seq ?_
      refine W.seq ?_
      by_cases h1 : o.toNat < 1
      · refine W.line (n := 12) (by decide) (its := [⟨42, _, true⟩, ⟨43, _, true⟩, ⟨44, _, true⟩, ⟨45, .dead, false⟩, ⟨46, .dead, false⟩, ⟨47, .dead, false⟩, ⟨48, .dead, false⟩, ⟨49, _, true⟩, ⟨50, _, true⟩, ⟨51, .dead, false⟩, ⟨52, .dead, false⟩, ⟨53, _, true⟩]) (ks := []) (kk := []) (live := [2, 3, 9, 11, 53]) (env' := [(2, _), (3, _), (9, _), (11, _), (53, _)])
          (⟨Nat.le_of_ble_eq_true rfl, rfl,
            ⟨⟨rfl, rfl, fun _ τ hb ht hτ => R.mov (evt (hτ 11 _ rfl)) rfl ht⟩,
            ⟨⟨rfl, rfl, fun _ τ hb ht hτ => R.lssN (o.toNat) (1) (evt (hτ 42 _ rfl)) (show ev _ _ (.const (.int .i64 1)) = some (.int ((1 : Nat) : Int)) from rfl) ht⟩,
            ⟨⟨rfl, rfl, fun _ τ hb ht hτ => R.mov (evt (hτ 43 _ rfl)) rfl ht⟩,
            ⟨⟨rfl, ⟨_, 44, rfl, rfl, .inl ⟨_, rfl, gw (v := true) (decide_eq_true h1) rfl⟩⟩, fun h => absurd h (by decide)⟩,
            ⟨⟨rfl, ⟨_, 44, rfl, rfl, .inl ⟨_, rfl, gw (v := true) (decide_eq_true h1) rfl⟩⟩, fun h => absurd h (by decide)⟩,
            ⟨⟨rfl, ⟨_, 44, rfl, rfl, .inl ⟨_, rfl, gw (v := true) (decide_eq_true h1) rfl⟩⟩, fun h => absurd h (by decide)⟩,
            ⟨⟨rfl, ⟨_, 44, rfl, rfl, .inl ⟨_, rfl, gw (v := true) (decide_eq_true h1) rfl⟩⟩, fun h => absurd h (by decide)⟩,
            ⟨⟨rfl, rfl, fun _ τ hb ht hτ => R.pickT (evt (hτ 44 _ rfl)) (decide_eq_true h1) (show ev _ _ (.const (.bool true)) = some (.bool true) from rfl) rfl ht⟩,
            ⟨⟨rfl, rfl, fun _ τ hb ht hτ => R.mov (evt (hτ 49 _ rfl)) rfl ht⟩,
            ⟨⟨rfl, ⟨_, 50, rfl, rfl, .inl ⟨_, rfl, gw (v := true) (rfl) rfl⟩⟩, fun h => absurd h (by decide)⟩,
            ⟨⟨rfl, ⟨_, 50, rfl, rfl, .inl ⟨_, rfl, gw (v := true) (rfl) rfl⟩⟩, fun h => absurd h (by decide)⟩,
            ⟨⟨rfl, rfl, fun _ τ hb ht hτ => R.pickT (evt (hτ 50 _ rfl)) (rfl) (show ev _ _ (.const (.bool true)) = some (.bool true) from rfl) rfl ht⟩,
            trivial⟩⟩⟩⟩⟩⟩⟩⟩⟩⟩⟩⟩, rfl, rfl, rfl⟩)
          rfl (bx' := []) rfl (n' := 87) rfl (⟨[2, 3, 9, 11, 53], [(2, _), (3, _), (9, _), (11, _), (53, _)], [], 87, rfl, rfl, rfl, ?_⟩)
        refine W.condT rfl (rfl) ?_
        refine W.seq ?_
        refine W.line (n := 2) (by decide) (its := [⟨54, _, true⟩, ⟨8, _, true⟩]) (ks := []) (kk := []) (live := [8]) (env' := [(8, _)])
          (⟨Nat.le_of_ble_eq_true rfl, rfl,
            ⟨⟨rfl, rfl, fun _ τ hb ht hτ => R.callG hC (works_ok) Bors.nil (FrsR.one (.bool _)) ht⟩,
            ⟨⟨rfl, rfl, fun _ τ hb ht hτ => R.asg (evt (hτ 54 _ rfl)) rfl ht⟩,
            trivial⟩⟩, rfl, rfl, rfl⟩)
          rfl (bx' := []) rfl (n' := 87) rfl (⟨[8], [(8, _)], [], 87, rfl, rfl, rfl, ?_⟩)
        refine W.ret ?_
        exact Ends.one' (.inr rfl) rfl (rfl) rfl rfl trivial
      · by_cases h2 : (chI l j).length ≤ o.toNat
        · refine W.line (n := 12) (by decide) (its := [⟨42, _, true⟩, ⟨43, _, true⟩, ⟨44, _, true⟩, ⟨45, _, true⟩, ⟨46, _, true⟩, ⟨47, _, true⟩, ⟨48, _, true⟩, ⟨49, _, true⟩, ⟨50, _, true⟩, ⟨51, .dead, false⟩, ⟨52, .dead, false⟩, ⟨53, _, true⟩]) (ks := []) (kk := []) (live := [2, 3, 9, 11, 53]) (env' := [(2, _), (3, _), (9, _), (11, _), (53, _)])
            (⟨Nat.le_of_ble_eq_true rfl, rfl,
              ⟨⟨rfl, rfl, fun _ τ hb ht hτ => R.mov (evt (hτ 11 _ rfl)) rfl ht⟩,
              ⟨⟨rfl, rfl, fun _ τ hb ht hτ => R.lssN (o.toNat) (1) (evt (hτ 42 _ rfl)) (show ev _ _ (.const (.int .i64 1)) = some (.int ((1 : Nat) : Int)) from rfl) ht⟩,
              ⟨⟨rfl, rfl, fun _ τ hb ht hτ => R.mov (evt (hτ 43 _ rfl)) rfl ht⟩,
              ⟨⟨rfl, ⟨_, 44, rfl, rfl, .inl ⟨_, rfl, gw (v := false) (decide_eq_false h1) rfl⟩⟩, fun _ τ hb ht hτ => R.mov (evt (hτ 11 _ rfl)) rfl ht⟩,
              ⟨⟨rfl, ⟨_, 44, rfl, rfl, .inl ⟨_, rfl, gw (v := false) (decide_eq_false h1) rfl⟩⟩, fun _ τ hb ht hτ => R.al (hτ 9 _ rfl) ht (by decide)⟩,
              ⟨⟨rfl, ⟨_, 44, rfl, rfl, .inl ⟨_, rfl, gw (v := false) (decide_eq_false h1) rfl⟩⟩, fun _ τ hb ht hτ => R.lenE (SC.al (hτ 46 _ rfl) (hτ 9 _ rfl)) (List.length_map _) ht⟩,
              ⟨⟨rfl, ⟨_, 44, rfl, rfl, .inl ⟨_, rfl, gw (v := false) (decide_eq_false h1) rfl⟩⟩, fun _ τ hb ht hτ => R.geqN (o.toNat) ((chI l j).length) (evt (hτ 45 _ rfl)) (evt (hτ 47 _ rfl)) ht⟩,
              ⟨⟨rfl, rfl, fun _ τ hb ht hτ => R.pickF (evt (hτ 44 _ rfl)) (decide_eq_false h1) (evt (hτ 48 _ rfl)) rfl ht⟩,
              ⟨⟨rfl, rfl, fun _ τ hb ht hτ => R.mov (evt (hτ 49 _ rfl)) rfl ht⟩,
              ⟨⟨rfl, ⟨_, 50, rfl, rfl, .inl ⟨_, rfl, gw (v := true) (decide_eq_true h2) rfl⟩⟩, fun h => absurd h (by decide)⟩,
              ⟨⟨rfl, ⟨_, 50, rfl, rfl, .inl ⟨_, rfl, gw (v := true) (decide_eq_true h2) rfl⟩⟩, fun h => absurd h (by decide)⟩,
              ⟨⟨rfl, rfl, fun _ τ hb ht hτ => R.pickT (evt (hτ 50 _ rfl)) (decide_eq_true h2) (show ev _ _ (.const (.bool true)) = some (.bool true) from rfl) rfl ht⟩,
              trivial⟩⟩⟩⟩⟩⟩⟩⟩⟩⟩⟩⟩, rfl, rfl, rfl⟩)
            rfl (bx' := []) rfl (n' := 87) rfl (⟨[2, 3, 9, 11, 53], [(2, _), (3, _), (9, _), (11, _), (53, _)], [], 87, rfl, rfl, rfl, ?_⟩)
          refine W.condT rfl (rfl) ?_
          refine W.seq ?_
          refine W.line (n := 2) (by decide) (its := [⟨54, _, true⟩, ⟨8, _, true⟩]) (ks := []) (kk := []) (live := [8]) (env' := [(8, _)])
            (⟨Nat.le_of_ble_eq_true rfl, rfl,
              ⟨⟨rfl, rfl, fun _ τ hb ht hτ => R.callG hC (works_ok) Bors.nil (FrsR.one (.bool _)) ht⟩,
              ⟨⟨rfl, rfl, fun _ τ hb ht hτ => R.asg (evt (hτ 54 _ rfl)) rfl ht⟩,
              trivial⟩⟩, rfl, rfl, rfl⟩)
            rfl (bx' := []) rfl (n' := 87) rfl (⟨[8], [(8, _)], [], 87, rfl, rfl, rfl, ?_⟩)
          refine W.ret ?_
          exact Ends.one' (.inr rfl) rfl (rfl) rfl rfl trivial
        · by_cases h3 : y = 0
          · refine W.line (n := 12) (by decide) (its := [⟨42, _, true⟩, ⟨43, _, true⟩, ⟨44, _, true⟩, ⟨45, _, true⟩, ⟨46, _, true⟩, ⟨47, _, true⟩, ⟨48, _, true⟩, ⟨49, _, true⟩, ⟨50, _, true⟩, ⟨51, _, true⟩, ⟨52, _, true⟩, ⟨53, _, true⟩]) (ks := []) (kk := []) (live := [2, 3, 9, 11, 53]) (env' := [(2, _), (3, _), (9, _), (11, _), (53, _)])
              (⟨Nat.le_of_ble_eq_true rfl, rfl,
                ⟨⟨rfl, rfl, fun _ τ hb ht hτ => R.mov (evt (hτ 11 _ rfl)) rfl ht⟩,
                ⟨⟨rfl, rfl, fun _ τ hb ht hτ => R.lssN (o.toNat) (1) (evt (hτ 42 _ rfl)) (show ev _ _ (.const (.int .i64 1)) = some (.int ((1 : Nat) : Int)) from rfl) ht⟩,
                ⟨⟨rfl, rfl, fun _ τ hb ht hτ => R.mov (evt (hτ 43 _ rfl)) rfl ht⟩,
                ⟨⟨rfl, ⟨_, 44, rfl, rfl, .inl ⟨_, rfl, gw (v := false) (decide_eq_false h1) rfl⟩⟩, fun _ τ hb ht hτ => R.mov (evt (hτ 11 _ rfl)) rfl ht⟩,
                ⟨⟨rfl, ⟨_, 44, rfl, rfl, .inl ⟨_, rfl, gw (v := false) (decide_eq_false h1) rfl⟩⟩, fun _ τ hb ht hτ => R.al (hτ 9 _ rfl) ht (by decide)⟩,
                ⟨⟨rfl, ⟨_, 44, rfl, rfl, .inl ⟨_, rfl, gw (v := false) (decide_eq_false h1) rfl⟩⟩, fun _ τ hb ht hτ => R.lenE (SC.al (hτ 46 _ rfl) (hτ 9 _ rfl)) (List.length_map _) ht⟩,
                ⟨⟨rfl, ⟨_, 44, rfl, rfl, .inl ⟨_, rfl, gw (v := false) (decide_eq_false h1) rfl⟩⟩, fun _ τ hb ht hτ => R.geqN (o.toNat) ((chI l j).length) (evt (hτ 45 _ rfl)) (evt (hτ 47 _ rfl)) ht⟩,
                ⟨⟨rfl, rfl, fun _ τ hb ht hτ => R.pickF (evt (hτ 44 _ rfl)) (decide_eq_false h1) (evt (hτ 48 _ rfl)) rfl ht⟩,
                ⟨⟨rfl, rfl, fun _ τ hb ht hτ => R.mov (evt (hτ 49 _ rfl)) rfl ht⟩,
                ⟨⟨rfl, ⟨_, 50, rfl, rfl, .inl ⟨_, rfl, gw (v := false) (decide_eq_false h2) rfl⟩⟩, fun _ τ hb ht hτ => R.mov (evt (hτ 3 _ rfl)) rfl ht⟩,
                ⟨⟨rfl, ⟨_, 50, rfl, rfl, .inl ⟨_, rfl, gw (v := false) (decide_eq_false h2) rfl⟩⟩, fun _ τ hb ht hτ => R.bin (evt (hτ 51 _ rfl)) (show ev _ _ (.const (.int .u8 0)) = some (.u8 0) from rfl) rfl trivial ht⟩,
                ⟨⟨rfl, rfl, fun _ τ hb ht hτ => R.pickF (evt (hτ 50 _ rfl)) (decide_eq_false h2) (evt (hτ 52 _ rfl)) rfl ht⟩,
                trivial⟩⟩⟩⟩⟩⟩⟩⟩⟩⟩⟩⟩, rfl, rfl, rfl⟩)
              rfl (bx' := []) rfl (n' := 87) rfl (⟨[2, 3, 9, 11, 53], [(2, _), (3, _), (9, _), (11, _), (53, _)], [], 87, rfl, rfl, rfl, ?_⟩)
            refine W.condT rfl (beq_iff_eq.2 h3) ?_
            refine W.seq ?_
            refine W.line (n := 2) (by decide) (its := [⟨54, _, true⟩, ⟨8, _, true⟩]) (ks := []) (kk := []) (live := [8]) (env' := [(8, _)])
              (⟨Nat.le_of_ble_eq_true rfl, rfl,
                ⟨⟨rfl, rfl, fun _ τ hb ht hτ => R.callG hC (works_ok) Bors.nil (FrsR.one (.bool _)) ht⟩,
                ⟨⟨rfl, rfl, fun _ τ hb ht hτ => R.asg (evt (hτ 54 _ rfl)) rfl ht⟩,
                trivial⟩⟩, rfl, rfl, rfl⟩)
              rfl (bx' := []) rfl (n' := 87) rfl (⟨[8], [(8, _)], [], 87, rfl, rfl, rfl, ?_⟩)
            refine W.ret ?_
            exact Ends.one' (.inr rfl) rfl (rfl) rfl rfl trivial
          · refine W.line (n := 12) (by decide) (its := [⟨42, _, true⟩, ⟨43, _, true⟩, ⟨44, _, true⟩, ⟨45, _, true⟩, ⟨46, _, true⟩, ⟨47, _, true⟩, ⟨48, _, true⟩, ⟨49, _, true⟩, ⟨50, _, true⟩, ⟨51, _, true⟩, ⟨52, _, true⟩, ⟨53, _, true⟩]) (ks := []) (kk := []) (live := [2, 3, 9, 11, 53]) (env' := [(2, _), (3, _), (9, _), (11, _), (53, _)])
              (⟨Nat.le_of_ble_eq_true rfl, rfl,
                ⟨⟨rfl, rfl, fun _ τ hb ht hτ => R.mov (evt (hτ 11 _ rfl)) rfl ht⟩,
                ⟨⟨rfl, rfl, fun _ τ hb ht hτ => R.lssN (o.toNat) (1) (evt (hτ 42 _ rfl)) (show ev _ _ (.const (.int .i64 1)) = some (.int ((1 : Nat) : Int)) from rfl) ht⟩,
                ⟨⟨rfl, rfl, fun _ τ hb ht hτ => R.mov (evt (hτ 43 _ rfl)) rfl ht⟩,
                ⟨⟨rfl, ⟨_, 44, rfl, rfl, .inl ⟨_, rfl, gw (v := false) (decide_eq_false h1) rfl⟩⟩, fun _ τ hb ht hτ => R.mov (evt (hτ 11 _ rfl)) rfl ht⟩,
                ⟨⟨rfl, ⟨_, 44, rfl, rfl, .inl ⟨_, rfl, gw (v := false) (decide_eq_false h1) rfl⟩⟩, fun _ τ hb ht hτ => R.al (hτ 9 _ rfl) ht (by decide)⟩,
                ⟨⟨rfl, ⟨_, 44, rfl, rfl, .inl ⟨_, rfl, gw (v := false) (decide_eq_false h1) rfl⟩⟩, fun _ τ hb ht hτ => R.lenE (SC.al (hτ 46 _ rfl) (hτ 9 _ rfl)) (List.length_map _) ht⟩,
                ⟨⟨rfl, ⟨_, 44, rfl, rfl, .inl ⟨_, rfl, gw (v := false) (decide_eq_false h1) rfl⟩⟩, fun _ τ hb ht hτ => R.geqN (o.toNat) ((chI l j).length) (evt (hτ 45 _ rfl)) (evt (hτ 47 _ rfl)) ht⟩,
                ⟨⟨rfl, rfl, fun _ τ hb ht hτ => R.pickF (evt (hτ 44 _ rfl)) (decide_eq_false h1) (evt (hτ 48 _ rfl)) rfl ht⟩,
                ⟨⟨rfl, rfl, fun _ τ hb ht hτ => R.mov (evt (hτ 49 _ rfl)) rfl ht⟩,
                ⟨⟨rfl, ⟨_, 50, rfl, rfl, .inl ⟨_, rfl, gw (v := false) (decide_eq_false h2) rfl⟩⟩, fun _ τ hb ht hτ => R.mov (evt (hτ 3 _ rfl)) rfl ht⟩,
                ⟨⟨rfl, ⟨_, 50, rfl, rfl, .inl ⟨_, rfl, gw (v := false) (decide_eq_false h2) rfl⟩⟩, fun _ τ hb ht hτ => R.bin (evt (hτ 51 _ rfl)) (show ev _ _ (.const (.int .u8 0)) = some (.u8 0) from rfl) rfl trivial ht⟩,
                ⟨⟨rfl, rfl, fun _ τ hb ht hτ => R.pickF (evt (hτ 50 _ rfl)) (decide_eq_false h2) (evt (hτ 52 _ rfl)) rfl ht⟩,
                trivial⟩⟩⟩⟩⟩⟩⟩⟩⟩⟩⟩⟩, rfl, rfl, rfl⟩)
              rfl (bx' := []) rfl (n' := 87) rfl (⟨[2, 3, 9, 11, 53], [(2, _), (3, _), (9, _), (11, _), (53, _)], [], 87, rfl, rfl, rfl, ?_⟩)
            refine W.condF rfl (beq_eq_false_iff_ne.2 h3) ?_
            refine W.skip ?_
            refine W.seq ?_
            have hgp : (chI l j)[o.toNat]!.prev.length = 32 := ((chI_wf l hl j (by omega)).get (by rw [chI_len]; omega)).1
            refine W.draw (m := 17) (an := [0, 0, 0, 4, 0, 0, 0, 64, 48, 304, 1008, 2032, 0, 8176, 3, 16387, 65535, 131071]) hP (by decide) rfl (its := [⟨55, _, true⟩, ⟨56, _, true⟩, ⟨57, _, true⟩, ⟨58, _, true⟩, ⟨59, _, true⟩, ⟨60, _, true⟩, ⟨61, _, true⟩, ⟨62, _, true⟩, ⟨63, _, true⟩, ⟨64, _, true⟩, ⟨65, _, true⟩, ⟨66, _, true⟩, ⟨67, _, true⟩, ⟨68, _, true⟩, ⟨69, _, true⟩, ⟨70, _, true⟩, ⟨71, _, true⟩]) (ks := []) (kk := []) (live := [9, 11, 55, 68, 71]) (env' := [(9, _), (11, _), (55, _), (68, _), (71, _)])
              (⟨Nat.le_of_ble_eq_true rfl, rfl,
                ⟨⟨rfl, rfl, fun _ τ hb ht hτ => R.al (hτ 9 _ rfl) ht (by decide)⟩,
                ⟨⟨rfl, rfl, fun _ τ hb ht hτ => R.mov (evt (hτ 11 _ rfl)) rfl ht⟩,
                ⟨⟨rfl, rfl, fun _ τ hb ht hτ => R.mov (evt (hτ 2 _ rfl)) rfl ht⟩,
                ⟨⟨rfl, rfl, fun _ τ hb ht hτ => R.bin (evt (hτ 57 _ rfl)) (show ev _ _ (.const (.int .u8 32)) = some (.u8 32) from rfl) rfl (by decide) ht⟩,
                ⟨⟨rfl, rfl, fun _ τ hb ht hτ => R.al (hτ 9 _ rfl) ht (by decide)⟩,
                ⟨⟨rfl, rfl, fun _ τ hb ht hτ => R.mov (evt (hτ 11 _ rfl)) rfl ht⟩,
                ⟨⟨rfl, rfl, fun _ τ hb ht hτ => R.mov (evt (hτ 2 _ rfl)) rfl ht⟩,
                ⟨⟨rfl, rfl, fun _ τ hb ht hτ => R.bin (evt (hτ 61 _ rfl)) (show ev _ _ (.const (.int .u8 32)) = some (.u8 32) from rfl) rfl (by decide) ht⟩,
                ⟨⟨rfl, rfl, fun _ τ hb ht hτ => R.idxN (o.toNat) (SC.al (hτ 59 _ rfl) (hτ 9 _ rfl)) (evoI (evt (hτ 60 _ rfl))) rfl (by first | omega | (simp only [List.length_map, List.length_append, List.length_cons, List.length_nil, List.length_take, List.length_drop, List.length_replicate]; omega) | (simp; omega)) ht (by decide)⟩,
                ⟨⟨rfl, rfl, fun _ τ hb ht hτ => R.fdE (hτ 63 _ rfl) ht (by decide)⟩,
                ⟨⟨rfl, rfl, fun _ τ hb ht hτ => R.idxE ((a % 32).toNat) (hτ 64 _ rfl) (evo8 (evt (hτ 62 _ rfl))) rfl (by first | omega | (simp only [List.length_map, List.length_append, List.length_cons, List.length_nil, List.length_take, List.length_drop, List.length_replicate]; omega) | (simp; omega)) ht (by decide)⟩,
                ⟨⟨rfl, rfl, fun _ τ hb ht hτ => R.ldE (hτ 65 _ rfl) (SC.al (hτ 59 _ rfl) (hτ 9 _ rfl)) (map_get! (l := (chI l j)) (by first | omega | (simp only [List.length_map, List.length_append, List.length_cons, List.length_nil, List.length_take, List.length_drop, List.length_replicate]; omega) | (simp; omega))) (loc_agg (m := 1) rfl rfl (loc_arr (map_get! (l := ((chI l j))[o.toNat]!.prev) (by first | omega | (simp only [List.length_map, List.length_append, List.length_cons, List.length_nil, List.length_take, List.length_drop, List.length_replicate]; omega) | (simp; omega))) loc_nil rfl) (by first | omega | (simp only [List.length_map, List.length_append, List.length_cons, List.length_nil, List.length_take, List.length_drop, List.length_replicate]; omega) | (simp; omega))) rfl rfl rfl ht⟩,
                ⟨⟨rfl, rfl, fun _ τ hb ht hτ => R.mov (evt (hτ 3 _ rfl)) rfl ht⟩,
                ⟨⟨rfl, rfl, fun _ τ hb ht hτ => R.bin (evt (hτ 66 _ rfl)) (evt (hτ 67 _ rfl)) rfl trivial ht⟩,
                ⟨⟨rfl, rfl, fun _ τ hb ht hτ => R.idxN (o.toNat) (SC.al (hτ 55 _ rfl) (hτ 9 _ rfl)) (evoI (evt (hτ 56 _ rfl))) rfl (by first | omega | (simp only [List.length_map, List.length_append, List.length_cons, List.length_nil, List.length_take, List.length_drop, List.length_replicate]; omega) | (simp; omega)) ht (by decide)⟩,
                ⟨⟨rfl, rfl, fun _ τ hb ht hτ => R.fdE (hτ 69 _ rfl) ht (by decide)⟩,
                ⟨⟨rfl, rfl, fun _ τ hb ht hτ => R.idxE ((a % 32).toNat) (hτ 70 _ rfl) (evo8 (evt (hτ 58 _ rfl))) rfl (by first | omega | (simp only [List.length_map, List.length_append, List.length_cons, List.length_nil, List.length_take, List.length_drop, List.length_replicate]; omega) | (simp; omega)) ht (by decide)⟩,
                trivial⟩⟩⟩⟩⟩⟩⟩⟩⟩⟩⟩⟩⟩⟩⟩⟩⟩, rfl, rfl, rfl⟩)
              rfl (bx' := []) rfl (n' := 87) rfl (⟨rfl, _, R.stEY (show Sg.get _ 71 = some _ from rfl) (Or.inr (show Sg.get _ 55 = some _ from rfl)) (show Sg.get _ 9 = some _ from rfl) (map_get! (l := (chI l j)) (by first | omega | (simp only [List.length_map, List.length_append, List.length_cons, List.length_nil, List.length_take, List.length_drop, List.length_replicate]; omega) | (simp; omega))) (loc_agg (m := 1) rfl rfl (loc_arr (map_get! (l := ((chI l j))[o.toNat]!.prev) (by first | omega | (simp only [List.length_map, List.length_append, List.length_cons, List.length_nil, List.length_take, List.length_drop, List.length_replicate]; omega) | (simp; omega))) loc_nil rfl) (by first | omega | (simp only [List.length_map, List.length_append, List.length_cons, List.length_nil, List.length_take, List.length_drop, List.length_replicate]; omega) | (simp; omega))) (evt (show Sg.get _ 68 = some _ from rfl)) (by rfl) (by rfl) (by rfl) (by rfl) (upd_agg rfl (upd_arr (map_get! (l := ((chI l j))[o.toNat]!.prev) (by first | omega | (simp only [List.length_map, List.length_append, List.length_cons, List.length_nil, List.length_take, List.length_drop, List.length_replicate]; omega) | (simp; omega))) upd_nil set_map) rfl) (set_on (chI l j) o.toNat ((chI l j)[o.toNat]!.prev.set (a % 32).toNat ((chI l j)[o.toNat]!.prev[(a % 32).toNat]! ^^^ y))), ⟨[9, 11], [(9, _), (11, _)], [], 87, rfl, rfl, rfl, ?_⟩⟩)
            refine W.seq ?_
            refine W.line (n := 16) (by decide) (its := [⟨72, _, true⟩, ⟨73, _, true⟩, ⟨74, _, true⟩, ⟨75, _, true⟩, ⟨76, _, true⟩, ⟨77, _, true⟩, ⟨78, _, true⟩, ⟨79, _, true⟩, ⟨80, _, true⟩, ⟨81, _, true⟩, ⟨82, _, true⟩, ⟨83, _, true⟩, ⟨84, _, true⟩, ⟨85, _, true⟩, ⟨86, _, true⟩, ⟨8, _, true⟩]) (ks := []) (kk := []) (live := [8]) (env' := [(8, _)])
              (⟨Nat.le_of_ble_eq_true rfl, rfl,
                ⟨⟨rfl, rfl, fun _ τ hb ht hτ => R.al (hτ 9 _ rfl) ht (by decide)⟩,
                ⟨⟨rfl, rfl, fun _ τ hb ht hτ => R.callG hC (linked_ok (turnP (chI l j) o.toNat (a % 32).toNat y) (turnP_wf _ (chI_wf l hl j (by omega)) _ _ _ (by rw [chI_len]; omega)) (by rw [turnP_len, chI_len]; omega)) (Bors.cons (Bor.sc (SC.al (hτ 72 _ rfl) (hτ 9 _ rfl)) (brw_map brw_hdr)) Bors.nil) (FrsR.one (.int _)) ht⟩,
                ⟨⟨rfl, rfl, fun _ τ hb ht hτ => R.mov (evt (hτ 11 _ rfl)) rfl ht⟩,
                ⟨⟨rfl, rfl, fun _ τ hb ht hτ => R.eqlN (linkS (turnP (chI l j) o.toNat (a % 32).toNat y)) (o.toNat) (evt (hτ 73 _ rfl)) (evt (hτ 74 _ rfl)) ht⟩,
                ⟨⟨rfl, rfl, fun _ τ hb ht hτ => R.mov (evt (hτ 75 _ rfl)) rfl ht⟩,
                ⟨⟨rfl, ⟨_, 76, rfl, rfl, .inl ⟨_, rfl, gw (v := true) (decide_eq_true (turn_odd l hl j o.toNat (a % 32).toNat y (by omega) (by omega) (by omega) hat h3).1) rfl⟩⟩, fun _ τ hb ht hτ => R.al (hτ 9 _ rfl) ht (by decide)⟩,
                ⟨⟨rfl, ⟨_, 76, rfl, rfl, .inl ⟨_, rfl, gw (v := true) (decide_eq_true (turn_odd l hl j o.toNat (a % 32).toNat y (by omega) (by omega) (by omega) hat h3).1) rfl⟩⟩, fun _ τ hb ht hτ => R.mov (evt (hτ 11 _ rfl)) rfl ht⟩,
                ⟨⟨rfl, ⟨_, 76, rfl, rfl, .inl ⟨_, rfl, gw (v := true) (decide_eq_true (turn_odd l hl j o.toNat (a % 32).toNat y (by omega) (by omega) (by omega) hat h3).1) rfl⟩⟩, fun _ τ hb ht hτ => R.slVN (0) (o.toNat) (o.toNat) (SC.al (hτ 77 _ rfl) (hτ 9 _ rfl)) rfl (evoI (evt (hτ 78 _ rfl))) rfl rfl (by first | omega | (simp only [List.length_map, List.length_append, List.length_cons, List.length_nil, List.length_take, List.length_drop, List.length_replicate]; omega) | (simp; omega)) (by first | omega | (simp only [List.length_map, List.length_append, List.length_cons, List.length_nil, List.length_take, List.length_drop, List.length_replicate]; omega) | (simp; omega)) rfl ht (by decide)⟩,
                ⟨⟨rfl, ⟨_, 76, rfl, rfl, .inl ⟨_, rfl, gw (v := true) (decide_eq_true (turn_odd l hl j o.toNat (a % 32).toNat y (by omega) (by omega) (by omega) hat h3).1) rfl⟩⟩, fun _ τ hb ht hτ => R.callG hC (linked_ok ((turnP (chI l j) o.toNat (a % 32).toNat y).take o.toNat) (allW.take (turnP_wf _ (chI_wf l hl j (by omega)) _ _ _ (by rw [chI_len]; omega)) _) (by simp only [List.length_take, turnP_len, chI_len]; omega)) (Bors.cons (Bor.sc (SC.vw (hτ 79 _ rfl) (SC.al (hτ 77 _ rfl) (hτ 9 _ rfl)) (by first | omega | (simp only [List.length_map, List.length_append, List.length_cons, List.length_nil, List.length_take, List.length_drop, List.length_replicate]; omega) | (simp; omega))) (by rw [List.drop_zero, ← List.map_take]; exact brw_map brw_hdr)) Bors.nil) (FrsR.one (.int _)) ht⟩,
                ⟨⟨rfl, ⟨_, 76, rfl, rfl, .inl ⟨_, rfl, gw (v := true) (decide_eq_true (turn_odd l hl j o.toNat (a % 32).toNat y (by omega) (by omega) (by omega) hat h3).1) rfl⟩⟩, fun _ τ hb ht hτ => R.mov (evt (hτ 11 _ rfl)) rfl ht⟩,
                ⟨⟨rfl, ⟨_, 76, rfl, rfl, .inl ⟨_, rfl, gw (v := true) (decide_eq_true (turn_odd l hl j o.toNat (a % 32).toNat y (by omega) (by omega) (by omega) hat h3).1) rfl⟩⟩, fun _ τ hb ht hτ => R.eqlN (linkS ((turnP (chI l j) o.toNat (a % 32).toNat y).take o.toNat)) (o.toNat) (evt (hτ 80 _ rfl)) (evt (hτ 81 _ rfl)) ht⟩,
                ⟨⟨rfl, rfl, fun _ τ hb ht hτ => R.pickT (evt (hτ 76 _ rfl)) (decide_eq_true (turn_odd l hl j o.toNat (a % 32).toNat y (by omega) (by omega) (by omega) hat h3).1) (evt (hτ 82 _ rfl)) rfl ht⟩,
                ⟨⟨rfl, rfl, fun _ τ hb ht hτ => R.mov (evt (hτ 83 _ rfl)) rfl ht⟩,
                ⟨⟨rfl, ⟨_, 84, rfl, rfl, .inl ⟨_, rfl, gw (v := true) (decide_eq_true (turn_odd l hl j o.toNat (a % 32).toNat y (by omega) (by omega) (by omega) hat h3).2) rfl⟩⟩, fun _ τ hb ht hτ => R.callG hC (works_ok) Bors.nil (FrsR.one (.bool _)) ht⟩,
                ⟨⟨rfl, rfl, fun _ τ hb ht hτ => R.pickT (evt (hτ 84 _ rfl)) (decide_eq_true (turn_odd l hl j o.toNat (a % 32).toNat y (by omega) (by omega) (by omega) hat h3).2) (evt (hτ 85 _ rfl)) rfl ht⟩,
                ⟨⟨rfl, rfl, fun _ τ hb ht hτ => R.asg (evt (hτ 86 _ rfl)) rfl ht⟩,
                trivial⟩⟩⟩⟩⟩⟩⟩⟩⟩⟩⟩⟩⟩⟩⟩⟩, rfl, rfl, rfl⟩)
              rfl (bx' := []) rfl (n' := 87) rfl (⟨[8], [(8, _)], [], 87, rfl, rfl, rfl, ?_⟩)
            refine W.ret ?_
            exact Ends.one' (.inr rfl) rfl (rfl) rfl rfl trivial

end Go.Sx
