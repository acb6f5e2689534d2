/- Proved: what functions of the given program compute (used by the theorem of this claim). Conditions: none but those that each theorem states. -/
import Derived.Test.YtokkedaeemebaaaDoorGp6
import Derived.Test.YtokkedaeemebaaaDoorGapLaw2
set_option linter.unusedVariables false
set_option linter.unusedSimpArgs false
set_option linter.unnecessarySimpa false
namespace Go.Sx
open Go.Proofs
theorem more_ok (used : List Int) (more : Int) (x : UInt8) (hr0 : ∀ u ∈ used, -9223372036854775808 ≤ u ∧ u ≤ 9223372036854775807) (hm0 : -9223372036854775808 ≤ more ∧ more ≤ 9223372036854775807) : Fn Tryd.prog gl 5 [.sl none 1 (used.map D.int), .int more, .u8 x] (.bool true) := by
  refine Fn.of (n := 70) Tryd.func5 rfl rfl rfl (Nat.le_of_ble_eq_true rfl) fun C hC => ?_
  have hmn := more_le (used := used) more (g := (1 + x.toNat % 50)) (by omega) (by omega)
  have hbk := back_eq used (g := (1 + x.toNat % 50)) (by omega) (by omega)
  refine W.seq ?_
  refine W.line (n := 1) (by decide) (its := [⟨6, _, true⟩]) (ks := []) (kk := []) (live := [0, 1, 2]) (env' := [(0, _), (1, _), (2, _)])
    (⟨Nat.le_of_ble_eq_true rfl, rfl,
      ⟨⟨rfl, rfl, fun _ τ hb ht hτ => R.asg (show ev _ _ (.const (.bool false)) = some (.bool false) from rfl) rfl ht⟩,
      trivial⟩, rfl, rfl, rfl⟩)
    rfl (bx' := []) rfl (n' := 70) rfl (⟨[0, 1, 2], [(0, _), (1, _), (2, _)], [], 70, rfl, rfl, rfl, ?_⟩)
  refine W.seq ?_
  refine W.seq ?_
  refine W.line (n := 3) (by decide) (its := [⟨12, _, true⟩, ⟨13, _, true⟩, ⟨14, _, true⟩]) (ks := []) (kk := []) (live := [0, 1, 2, 14]) (env' := [(0, _), (1, _), (2, _), (14, _)])
    (⟨Nat.le_of_ble_eq_true rfl, rfl,
      ⟨⟨rfl, rfl, fun _ τ hb ht hτ => R.mov (evt (hτ 0 _ rfl)) rfl ht⟩,
      ⟨⟨rfl, rfl, fun _ τ hb ht hτ => R.lenE (SC.sl (hτ 12 _ rfl)) (List.length_map _) ht⟩,
      ⟨⟨rfl, rfl, fun _ τ hb ht hτ => R.gtrN (used.length) (200) (evt (hτ 13 _ rfl)) (show ev _ _ (.const (.int .i64 200)) = some (.int ((200 : Nat) : Int)) from rfl) ht⟩,
      trivial⟩⟩⟩, rfl, rfl, rfl⟩)
    rfl (bx' := []) rfl (n' := 70) rfl (⟨[0, 1, 2, 14], [(0, _), (1, _), (2, _), (14, _)], [], 70, rfl, rfl, rfl, ?_⟩)
  refine W.condD rfl (fun hc14 => ?_) (fun hc14 => ?_)
  · refine W.seq ?_
    refine W.line (n := 2) (by decide) (its := [⟨15, _, true⟩, ⟨6, _, true⟩]) (ks := []) (kk := []) (live := [6]) (env' := [(6, _)])
      (⟨Nat.le_of_ble_eq_true rfl, rfl,
        ⟨⟨rfl, rfl, fun _ τ hb ht hτ => R.callG hC (works_ok) Bors.nil (FrsR.one (.bool _)) ht⟩,
        ⟨⟨rfl, rfl, fun _ τ hb ht hτ => R.asg (evt (hτ 15 _ rfl)) rfl ht⟩,
        trivial⟩⟩, rfl, rfl, rfl⟩)
      rfl (bx' := []) rfl (n' := 70) rfl (⟨[6], [(6, _)], [], 70, rfl, rfl, rfl, ?_⟩)
    refine W.ret ?_
    exact Ends.one' (.inr rfl) rfl (rfl) rfl rfl trivial
  · refine W.skip ?_
    refine W.seq ?_
    refine W.line (n := 5) (by decide) (its := [⟨16, _, true⟩, ⟨17, _, true⟩, ⟨18, _, true⟩, ⟨19, _, true⟩, ⟨7, _, true⟩]) (ks := []) (kk := []) (live := [0, 1, 7]) (env' := [(0, _), (1, _), (7, _)])
      (⟨Nat.le_of_ble_eq_true rfl, rfl,
        ⟨⟨rfl, rfl, fun _ τ hb ht hτ => R.mov (evt (hτ 2 _ rfl)) rfl ht⟩,
        ⟨⟨rfl, rfl, fun _ τ hb ht hτ => R.conv (evt (hτ 16 _ rfl)) rfl ht⟩,
        ⟨⟨rfl, rfl, fun _ τ hb ht hτ => R.remN (x.toNat) (50) (evt (hτ 17 _ rfl)) (show ev _ _ (.const (.int .i64 50)) = some (.int ((50 : Nat) : Int)) from rfl) (by first | omega | (simp only [List.length_map, List.length_append, List.length_cons, List.length_nil, List.length_take, List.length_drop, List.length_replicate]; omega) | (simp; omega)) ht⟩,
        ⟨⟨rfl, rfl, fun _ τ hb ht hτ => R.addN (1) ((x.toNat % 50)) (show ev _ _ (.const (.int .i64 1)) = some (.int ((1 : Nat) : Int)) from rfl) (evt (hτ 18 _ rfl)) (by first | omega | (simp only [List.length_map, List.length_append, List.length_cons, List.length_nil, List.length_take, List.length_drop, List.length_replicate]; omega) | (simp; omega)) ht⟩,
        ⟨⟨rfl, rfl, fun _ τ hb ht hτ => R.asg (evt (hτ 19 _ rfl)) rfl ht⟩,
        trivial⟩⟩⟩⟩⟩, rfl, rfl, rfl⟩)
      rfl (bx' := []) rfl (n' := 70) rfl (⟨[0, 1, 7], [(0, _), (1, _), (7, _)], [], 70, rfl, rfl, rfl, ?_⟩)
    refine W.seq ?_
    refine W.line (n := 4) (by decide) (its := [⟨20, _, true⟩, ⟨21, _, true⟩, ⟨22, _, true⟩, ⟨8, _, true⟩]) (ks := []) (kk := []) (live := [0, 1, 7, 8]) (env' := [(0, _), (1, _), (7, _), (8, _)])
      (⟨Nat.le_of_ble_eq_true rfl, rfl,
        ⟨⟨rfl, rfl, fun _ τ hb ht hτ => R.mov (evt (hτ 0 _ rfl)) rfl ht⟩,
        ⟨⟨rfl, rfl, fun _ τ hb ht hτ => R.mov (evt (hτ 7 _ rfl)) rfl ht⟩,
        ⟨⟨rfl, rfl, fun _ τ hb ht hτ => R.callG hC (watch_ok used (((1 + x.toNat % 50) : Nat) : Int) (by omega) hr0 (by omega)) (Bors.cons (Bor.pur (evt (hτ 20 _ rfl)) rfl rfl) (Bors.cons (Bor.pur (evt (hτ 21 _ rfl)) rfl rfl) Bors.nil)) (FrsR.one (.int _)) ht⟩,
        ⟨⟨rfl, rfl, fun _ τ hb ht hτ => R.asg (evt (hτ 22 _ rfl)) rfl ht⟩,
        trivial⟩⟩⟩⟩, rfl, rfl, rfl⟩)
      rfl (bx' := []) rfl (n' := 70) rfl (⟨[0, 1, 7, 8], [(0, _), (1, _), (7, _), (8, _)], [], 70, rfl, rfl, rfl, ?_⟩)
    refine W.seq ?_
    refine W.line (n := 7) (by decide) (its := [⟨23, _, true⟩, ⟨24, _, true⟩, ⟨25, _, true⟩, ⟨26, _, true⟩, ⟨27, _, true⟩, ⟨28, _, true⟩, ⟨9, _, true⟩]) (ks := [(3, 24)]) (kk := [(3, 24)]) (live := [0, 1, 7, 8, 9]) (env' := [(0, _), (1, _), (7, _), (8, _), (9, _)])
      (⟨Nat.le_of_ble_eq_true rfl, rfl,
        ⟨⟨rfl, rfl, fun _ τ hb ht hτ => R.mov (evt (hτ 1 _ rfl)) rfl ht⟩,
        ⟨⟨rfl, rfl, fun _ τ hb ht hτ => R.bslE (z := 1) (.cons (evt (hτ 23 _ rfl)) .nil) ⟨⟨rfl, rfl, rfl⟩, trivial⟩ rfl ht (by decide)⟩,
        ⟨⟨rfl, rfl, fun _ τ hb ht hτ => R.mov (evt (hτ 0 _ rfl)) rfl ht⟩,
        ⟨⟨rfl, rfl, fun _ τ hb ht hτ => R.appE (Or.inl rfl) (hτ 24 _ rfl) (SrcO.sc (SC.sl (hτ 25 _ rfl)) (pur_map (fun _ => rfl))) (show _ = ((more :: used).map D.int) from (rfl)) (by first | omega | (simp only [List.length_map, List.length_append, List.length_cons, List.length_nil, List.length_take, List.length_drop, List.length_replicate]; omega) | (simp; omega)) ht (by decide) (by decide)⟩,
        ⟨⟨rfl, rfl, fun _ τ hb ht hτ => R.mov (evt (hτ 7 _ rfl)) rfl ht⟩,
        ⟨⟨rfl, rfl, fun _ τ hb ht hτ => R.callG hC (watch_ok (more :: used) (((1 + x.toNat % 50) : Nat) : Int) (by simp only [List.length_cons]; omega) (by intro u hu; rcases List.mem_cons.1 hu with h | h; rw [h]; exact hm0; exact hr0 u h) (by omega)) (Bors.cons (Bor.sc (SC.sl (hτ 26 _ rfl)) (brw_map (fun _ => rfl))) (Bors.cons (Bor.pur (evt (hτ 27 _ rfl)) rfl rfl) Bors.nil)) (FrsR.one (.int _)) ht⟩,
        ⟨⟨rfl, rfl, fun _ τ hb ht hτ => R.asg (evt (hτ 28 _ rfl)) rfl ht⟩,
        trivial⟩⟩⟩⟩⟩⟩⟩, rfl, rfl, rfl⟩)
      rfl (bx' := []) rfl (n' := 70) rfl (⟨[0, 1, 7, 8, 9], [(0, _), (1, _), (7, _), (8, _), (9, _)], [], 70, rfl, rfl, rfl, ?_⟩)
    refine W.seq ?_
    refine W.line (n := 1) (by decide) (its := [⟨10, _, true⟩]) (ks := []) (kk := []) (live := [0, 1, 7, 8, 9, 10]) (env' := [(0, _), (1, _), (7, _), (8, _), (9, _), (10, _)])
      (⟨Nat.le_of_ble_eq_true rfl, rfl,
        ⟨⟨rfl, rfl, fun _ τ hb ht hτ => R.asg (show ev _ _ (.const (.slice none 0 0)) = some (.nils) from rfl) rfl ht⟩,
        trivial⟩, rfl, rfl, rfl⟩)
      rfl (bx' := []) rfl (n' := 70) rfl (⟨[0, 1, 7, 8, 9, 10], [(0, _), (1, _), (7, _), (8, _), (9, _), (10, _)], [], 70, rfl, rfl, rfl, ?_⟩)
    refine W.seq ?_
    refine W.seq ?_
    refine W.line (n := 4) (by decide) (its := [⟨29, _, true⟩, ⟨30, _, true⟩, ⟨31, _, true⟩, ⟨11, _, true⟩]) (ks := []) (kk := []) (live := [0, 1, 7, 8, 9, 10, 11]) (env' := [(0, _), (1, _), (7, _), (8, _), (9, _), (10, _), (11, _)])
      (⟨Nat.le_of_ble_eq_true rfl, rfl,
        ⟨⟨rfl, rfl, fun _ τ hb ht hτ => R.mov (evt (hτ 0 _ rfl)) rfl ht⟩,
        ⟨⟨rfl, rfl, fun _ τ hb ht hτ => R.lenE (SC.sl (hτ 29 _ rfl)) (List.length_map _) ht⟩,
        ⟨⟨rfl, rfl, fun _ τ hb ht hτ => R.binE (d := .int ((used.length : Int) - 1)) (evt (hτ 30 _ rfl)) (show ev _ _ (.const (.int .i64 1)) = some (.int ((1 : Nat) : Int)) from rfl) rfl trivial (wr_eq rfl (by omega) (by omega)) ht⟩,
        ⟨⟨rfl, rfl, fun _ τ hb ht hτ => R.asg (evt (hτ 31 _ rfl)) rfl ht⟩,
        trivial⟩⟩⟩⟩, rfl, rfl, rfl⟩)
      rfl (bx' := []) rfl (n' := 70) rfl (⟨[0, 1, 7, 8, 9, 10, 11], [(0, _), (1, _), (7, _), (8, _), (9, _), (10, _), (11, _)], [], 70, rfl, rfl, rfl, ?_⟩)
    refine W.block ?_
    refine W.asOwn (s := 10) 3 1 rfl ?_
    refine W.loop (α := {q__ : Nat // q__ ≤ used.length}) (fun q__ => ⟨70, [(0, .sl none 1 (used.map D.int)), (1, .int more), (7, .int (((1 + x.toNat % 50) : Nat) : Int)), (8, .int (((watchS used (((1 + x.toNat % 50) : Nat) : Int)) : Nat) : Int)), (9, .int (((watchS (more :: used) (((1 + x.toNat % 50) : Nat) : Int)) : Nat) : Int)), (10, .sl (some 3) 1 ((used.drop q__.1).reverse.map D.int)), (11, .int ((q__.1 : Int) - 1))], []⟩) (fun q__ => q__.1) ⟨(used.length), (by first | omega | (simp only [List.length_map, List.length_append, List.length_cons, List.length_nil, List.length_take, List.length_drop, List.length_replicate]; omega) | (simp; omega))⟩ (by dsimp only; rw [List.drop_length]; rfl) ?_
    rintro ⟨k, hk⟩
    show W _ _ _ _ ⟨70, [(0, .sl none 1 (used.map D.int)), (1, .int more), (7, .int (((1 + x.toNat % 50) : Nat) : Int)), (8, .int (((watchS used (((1 + x.toNat % 50) : Nat) : Int)) : Nat) : Int)), (9, .int (((watchS (more :: used) (((1 + x.toNat % 50) : Nat) : Int)) : Nat) : Int)), (10, .sl (some 3) 1 ((used.drop k).reverse.map D.int)), (11, .int ((k : Int) - 1))], []⟩
    refine W.seq ?_
    refine W.seq ?_
    by_cases hk1 : 1 ≤ k
    · refine W.line (n := 2) (by decide) (its := [⟨32, _, true⟩, ⟨33, _, true⟩]) (ks := []) (kk := []) (live := [0, 1, 7, 8, 9, 10, 11, 33]) (env' := [(0, _), (1, _), (7, _), (8, _), (9, _), (10, _), (11, _), (33, _)])
        (⟨Nat.le_of_ble_eq_true rfl, rfl,
          ⟨⟨rfl, rfl, fun _ τ hb ht hτ => R.mov (evt (hτ 11 _ rfl)) rfl ht⟩,
          ⟨⟨rfl, rfl, fun _ τ hb ht hτ => R.bin (evt (hτ 32 _ rfl)) (show ev _ _ (.const (.int .i64 0)) = some (.int ((0 : Nat) : Int)) from rfl) rfl trivial ht⟩,
          trivial⟩⟩, rfl, rfl, rfl⟩)
        rfl (bx' := []) rfl (n' := 70) rfl (⟨[0, 1, 7, 8, 9, 10, 11, 33], [(0, _), (1, _), (7, _), (8, _), (9, _), (10, _), (11, _), (33, _)], [], 70, rfl, rfl, rfl, ?_⟩)
      refine W.condT rfl (decide_eq_true (by omega)) ?_
      refine W.skip ?_
      refine W.seq ?_
      refine W.block ?_
      refine W.line (n := 8) (by decide) (its := [⟨36, _, true⟩, ⟨37, _, true⟩, ⟨38, _, true⟩, ⟨39, _, true⟩, ⟨40, _, true⟩, ⟨41, _, true⟩, ⟨42, _, true⟩, ⟨10, _, true⟩]) (ks := [(6, 10), (7, 42), (7, 36)]) (kk := [(6, 10), (7, 42)]) (live := [0, 1, 7, 8, 9, 10, 11]) (env' := [(0, _), (1, _), (7, _), (8, _), (9, _), (10, _), (11, _)])
        (⟨Nat.le_of_ble_eq_true rfl, rfl,
          ⟨⟨rfl, rfl, fun _ τ hb ht hτ => R.al (hτ 10 _ rfl) ht (by decide)⟩,
          ⟨⟨rfl, rfl, fun _ τ hb ht hτ => R.mov (evt (hτ 0 _ rfl)) rfl ht⟩,
          ⟨⟨rfl, rfl, fun _ τ hb ht hτ => R.mov (evt (hτ 11 _ rfl)) rfl ht⟩,
          ⟨⟨rfl, rfl, fun _ τ hb ht hτ => R.idxN ((k - 1)) (SC.sl (hτ 37 _ rfl)) (evoI (evt (hτ 38 _ rfl))) (by omega) (by first | omega | (simp only [List.length_map, List.length_append, List.length_cons, List.length_nil, List.length_take, List.length_drop, List.length_replicate]; omega) | (simp; omega)) ht (by decide)⟩,
          ⟨⟨rfl, rfl, fun _ τ hb ht hτ => R.ldE (hτ 39 _ rfl) (SC.sl (hτ 37 _ rfl)) (map_get! (l := used) (by first | omega | (simp only [List.length_map, List.length_append, List.length_cons, List.length_nil, List.length_take, List.length_drop, List.length_replicate]; omega) | (simp; omega))) rfl rfl rfl rfl ht⟩,
          ⟨⟨rfl, rfl, fun _ τ hb ht hτ => R.bslE (z := 1) (.cons (evt (hτ 40 _ rfl)) .nil) ⟨⟨rfl, rfl, rfl⟩, trivial⟩ rfl ht (by decide)⟩,
          ⟨⟨rfl, rfl, fun _ τ hb ht hτ => R.appE (Or.inr (hτ 36 _ rfl)) (hτ 10 _ rfl) (SrcO.sc (SC.sl (hτ 41 _ rfl)) (pur_lit rfl)) (show _ = ((used.drop (k - 1)).reverse.map D.int) from (by rw [back_step used k hk1 (by omega), List.map_append]; rfl)) (by simp only [List.length_map, List.length_reverse, List.length_drop, List.length_cons, List.length_nil]; omega) ht (by decide) (by decide)⟩,
          ⟨⟨rfl, rfl, fun _ τ hb ht hτ => R.asgO (hτ 42 _ rfl) rfl ht (by decide)⟩,
          trivial⟩⟩⟩⟩⟩⟩⟩⟩, rfl, rfl, rfl⟩)
        rfl (bx' := []) rfl (n' := 70) rfl (⟨[0, 1, 7, 8, 9, 10, 11], [(0, _), (1, _), (7, _), (8, _), (9, _), (10, _), (11, _)], [], 70, rfl, rfl, rfl, ?_⟩)
      refine W.line (n := 3) (by decide) (its := [⟨34, _, true⟩, ⟨35, _, true⟩, ⟨11, _, true⟩]) (ks := []) (kk := []) (live := [0, 1, 7, 8, 9, 10, 11]) (env' := [(0, _), (1, _), (7, _), (8, _), (9, _), (10, _), (11, _)])
        (⟨Nat.le_of_ble_eq_true rfl, rfl,
          ⟨⟨rfl, rfl, fun _ τ hb ht hτ => R.mov (evt (hτ 11 _ rfl)) rfl ht⟩,
          ⟨⟨rfl, rfl, fun _ τ hb ht hτ => R.binE (d := .int (((k - 1 : Nat) : Int) - 1)) (evt (hτ 34 _ rfl)) (show ev _ _ (.const (.int .i64 1)) = some (.int ((1 : Nat) : Int)) from rfl) rfl trivial (wr_eq (by omega) (by omega) (by omega)) ht⟩,
          ⟨⟨rfl, rfl, fun _ τ hb ht hτ => R.asg (evt (hτ 35 _ rfl)) rfl ht⟩,
          trivial⟩⟩⟩, rfl, rfl, rfl⟩)
        rfl (bx' := []) rfl (n' := 70) rfl (⟨[0, 1, 7, 8, 9, 10, 11], [(0, _), (1, _), (7, _), (8, _), (9, _), (10, _), (11, _)], [], 70, rfl, rfl, rfl, ?_⟩)
      exact ⟨⟨(k - 1), (by first | omega | (simp only [List.length_map, List.length_append, List.length_cons, List.length_nil, List.length_take, List.length_drop, List.length_replicate]; omega) | (simp; omega))⟩, rfl, (by simp only []; omega)⟩
    · refine W.line (n := 2) (by decide) (its := [⟨32, _, true⟩, ⟨33, _, true⟩]) (ks := []) (kk := []) (live := [0, 1, 7, 8, 9, 10, 11, 33]) (env' := [(0, _), (1, _), (7, _), (8, _), (9, _), (10, _), (11, _), (33, _)])
        (⟨Nat.le_of_ble_eq_true rfl, rfl,
          ⟨⟨rfl, rfl, fun _ τ hb ht hτ => R.mov (evt (hτ 11 _ rfl)) rfl ht⟩,
          ⟨⟨rfl, rfl, fun _ τ hb ht hτ => R.bin (evt (hτ 32 _ rfl)) (show ev _ _ (.const (.int .i64 0)) = some (.int ((0 : Nat) : Int)) from rfl) rfl trivial ht⟩,
          trivial⟩⟩, rfl, rfl, rfl⟩)
        rfl (bx' := []) rfl (n' := 70) rfl (⟨[0, 1, 7, 8, 9, 10, 11, 33], [(0, _), (1, _), (7, _), (8, _), (9, _), (10, _), (11, _), (33, _)], [], 70, rfl, rfl, rfl, ?_⟩)
      refine W.condF rfl (decide_eq_false (by omega)) ?_
      obtain rfl : k = 0 := by omega
      refine W.exit ?_
      refine W.seq ?_
      by_cases h1 : more ≥ 0
      · by_cases h2 : more < (((watchS used (((1 + x.toNat % 50) : Nat) : Int)) : Nat) : Int)
        · refine W.line (n := 28) (by decide) (its := (⟨43, _, true⟩ :: ⟨44, _, true⟩ :: ⟨45, _, true⟩ :: ⟨46, _, true⟩ :: ⟨47, _, true⟩ :: ⟨48, _, true⟩ :: ⟨49, _, true⟩ :: ⟨50, _, true⟩ :: ⟨51, _, true⟩ :: ⟨52, _, true⟩ :: ⟨53, _, true⟩ :: ⟨54, _, true⟩ :: ⟨55, _, true⟩ :: ⟨56, _, true⟩ :: ⟨57, _, true⟩ :: ⟨58, _, true⟩ :: ⟨59, _, true⟩ :: ⟨60, _, true⟩ :: ⟨61, _, true⟩ :: ⟨62, .dead, false⟩ :: ⟨63, .dead, false⟩ :: ⟨64, .dead, false⟩ :: ⟨65, _, true⟩ :: ⟨66, _, true⟩ :: ⟨67, _, true⟩ :: ⟨68, _, true⟩ :: ⟨69, _, true⟩ :: ⟨6, _, true⟩ :: [])) (ks := []) (kk := []) (live := [6]) (env' := [(6, _)])
            (⟨Nat.le_of_ble_eq_true rfl, rfl,
              ⟨⟨rfl, rfl, fun _ τ hb ht hτ => R.mov (evt (hτ 9 _ rfl)) rfl ht⟩,
              ⟨⟨rfl, rfl, fun _ τ hb ht hτ => R.mov (evt (hτ 8 _ rfl)) rfl ht⟩,
              ⟨⟨rfl, rfl, fun _ τ hb ht hτ => R.geqN ((watchS (more :: used) (((1 + x.toNat % 50) : Nat) : Int))) ((watchS used (((1 + x.toNat % 50) : Nat) : Int))) (evt (hτ 43 _ rfl)) (evt (hτ 44 _ rfl)) ht⟩,
              ⟨⟨rfl, rfl, fun _ τ hb ht hτ => R.mov (evt (hτ 45 _ rfl)) rfl ht⟩,
              ⟨⟨rfl, ⟨_, 46, rfl, rfl, .inl ⟨_, rfl, gw (v := true) (decide_eq_true hmn) rfl⟩⟩, fun _ τ hb ht hτ => R.al (hτ 10 _ rfl) ht (by decide)⟩,
              ⟨⟨rfl, ⟨_, 46, rfl, rfl, .inl ⟨_, rfl, gw (v := true) (decide_eq_true hmn) rfl⟩⟩, fun _ τ hb ht hτ => R.mov (evt (hτ 7 _ rfl)) rfl ht⟩,
              ⟨⟨rfl, ⟨_, 46, rfl, rfl, .inl ⟨_, rfl, gw (v := true) (decide_eq_true hmn) rfl⟩⟩, fun _ τ hb ht hτ => R.callG hC (watch_ok (used.drop 0).reverse (((1 + x.toNat % 50) : Nat) : Int) (by simp only [List.length_reverse, List.length_drop]; omega) (fun u hu => hr0 u (by simpa using hu)) (by omega)) (Bors.cons (Bor.sc (SC.al (hτ 47 _ rfl) (hτ 10 _ rfl)) (brw_map (fun _ => rfl))) (Bors.cons (Bor.pur (evt (hτ 48 _ rfl)) rfl rfl) Bors.nil)) (FrsR.one (.int _)) ht⟩,
              ⟨⟨rfl, ⟨_, 46, rfl, rfl, .inl ⟨_, rfl, gw (v := true) (decide_eq_true hmn) rfl⟩⟩, fun _ τ hb ht hτ => R.mov (evt (hτ 8 _ rfl)) rfl ht⟩,
              ⟨⟨rfl, ⟨_, 46, rfl, rfl, .inl ⟨_, rfl, gw (v := true) (decide_eq_true hmn) rfl⟩⟩, fun _ τ hb ht hτ => R.eqlN (watchS (used.drop 0).reverse (((1 + x.toNat % 50) : Nat) : Int)) ((watchS used (((1 + x.toNat % 50) : Nat) : Int))) (evt (hτ 49 _ rfl)) (evt (hτ 50 _ rfl)) ht⟩,
              ⟨⟨rfl, rfl, fun _ τ hb ht hτ => R.pickT (evt (hτ 46 _ rfl)) (decide_eq_true hmn) (evt (hτ 51 _ rfl)) rfl ht⟩,
              ⟨⟨rfl, rfl, fun _ τ hb ht hτ => R.mov (evt (hτ 52 _ rfl)) rfl ht⟩,
              ⟨⟨rfl, ⟨_, 53, rfl, rfl, .inl ⟨_, rfl, gw (v := true) (decide_eq_true hbk) rfl⟩⟩, fun _ τ hb ht hτ => R.mov (evt (hτ 1 _ rfl)) rfl ht⟩,
              ⟨⟨rfl, ⟨_, 53, rfl, rfl, .inl ⟨_, rfl, gw (v := true) (decide_eq_true hbk) rfl⟩⟩, fun _ τ hb ht hτ => R.bin (evt (hτ 54 _ rfl)) (show ev _ _ (.const (.int .i64 0)) = some (.int ((0 : Nat) : Int)) from rfl) rfl trivial ht⟩,
              ⟨⟨rfl, ⟨_, 53, rfl, rfl, .inl ⟨_, rfl, gw (v := true) (decide_eq_true hbk) rfl⟩⟩, fun _ τ hb ht hτ => R.mov (evt (hτ 55 _ rfl)) rfl ht⟩,
              ⟨⟨rfl, ⟨_, 56, rfl, rfl, .inl ⟨_, rfl, gw (v := true) (decide_eq_true h1) rfl⟩⟩, fun _ τ hb ht hτ => R.mov (evt (hτ 1 _ rfl)) rfl ht⟩,
              ⟨⟨rfl, ⟨_, 56, rfl, rfl, .inl ⟨_, rfl, gw (v := true) (decide_eq_true h1) rfl⟩⟩, fun _ τ hb ht hτ => R.mov (evt (hτ 8 _ rfl)) rfl ht⟩,
              ⟨⟨rfl, ⟨_, 56, rfl, rfl, .inl ⟨_, rfl, gw (v := true) (decide_eq_true h1) rfl⟩⟩, fun _ τ hb ht hτ => R.bin (evt (hτ 57 _ rfl)) (evt (hτ 58 _ rfl)) rfl trivial ht⟩,
              ⟨⟨rfl, ⟨_, 53, rfl, rfl, .inl ⟨_, rfl, gw (v := true) (decide_eq_true hbk) rfl⟩⟩, fun _ τ hb ht hτ => R.pickT (evt (hτ 56 _ rfl)) (decide_eq_true h1) (evt (hτ 59 _ rfl)) rfl ht⟩,
              ⟨⟨rfl, ⟨_, 53, rfl, rfl, .inl ⟨_, rfl, gw (v := true) (decide_eq_true hbk) rfl⟩⟩, fun _ τ hb ht hτ => R.mov (evt (hτ 60 _ rfl)) rfl ht⟩,
              ⟨⟨rfl, ⟨_, 61, rfl, rfl, .inl ⟨_, rfl, gw (v := true) (decide_eq_true h2) rfl⟩⟩, fun h => absurd h (by decide)⟩,
              ⟨⟨rfl, ⟨_, 61, rfl, rfl, .inl ⟨_, rfl, gw (v := true) (decide_eq_true h2) rfl⟩⟩, fun h => absurd h (by decide)⟩,
              ⟨⟨rfl, ⟨_, 61, rfl, rfl, .inl ⟨_, rfl, gw (v := true) (decide_eq_true h2) rfl⟩⟩, fun h => absurd h (by decide)⟩,
              ⟨⟨rfl, ⟨_, 53, rfl, rfl, .inl ⟨_, rfl, gw (v := true) (decide_eq_true hbk) rfl⟩⟩, fun _ τ hb ht hτ => R.pickT (evt (hτ 61 _ rfl)) (decide_eq_true h2) (show ev _ _ (.const (.bool true)) = some (.bool true) from rfl) rfl ht⟩,
              ⟨⟨rfl, rfl, fun _ τ hb ht hτ => R.pickT (evt (hτ 53 _ rfl)) (decide_eq_true hbk) (evt (hτ 65 _ rfl)) rfl ht⟩,
              ⟨⟨rfl, rfl, fun _ τ hb ht hτ => R.mov (evt (hτ 66 _ rfl)) rfl ht⟩,
              ⟨⟨rfl, ⟨_, 67, rfl, rfl, .inl ⟨_, rfl, gw (v := true) (rfl) rfl⟩⟩, fun _ τ hb ht hτ => R.callG hC (works_ok) Bors.nil (FrsR.one (.bool _)) ht⟩,
              ⟨⟨rfl, rfl, fun _ τ hb ht hτ => R.pickT (evt (hτ 67 _ rfl)) (rfl) (evt (hτ 68 _ rfl)) rfl ht⟩,
              ⟨⟨rfl, rfl, fun _ τ hb ht hτ => R.asg (evt (hτ 69 _ rfl)) rfl ht⟩,
              trivial⟩⟩⟩⟩⟩⟩⟩⟩⟩⟩⟩⟩⟩⟩⟩⟩⟩⟩⟩⟩⟩⟩⟩⟩⟩⟩⟩⟩, rfl, rfl, rfl⟩)
            rfl (bx' := []) rfl (n' := 70) rfl (⟨[6], [(6, _)], [], 70, rfl, rfl, rfl, ?_⟩)
          refine W.ret ?_
          exact Ends.one' (.inr rfl) rfl (rfl) rfl rfl trivial
        · refine W.line (n := 28) (by decide) (its := (⟨43, _, true⟩ :: ⟨44, _, true⟩ :: ⟨45, _, true⟩ :: ⟨46, _, true⟩ :: ⟨47, _, true⟩ :: ⟨48, _, true⟩ :: ⟨49, _, true⟩ :: ⟨50, _, true⟩ :: ⟨51, _, true⟩ :: ⟨52, _, true⟩ :: ⟨53, _, true⟩ :: ⟨54, _, true⟩ :: ⟨55, _, true⟩ :: ⟨56, _, true⟩ :: ⟨57, _, true⟩ :: ⟨58, _, true⟩ :: ⟨59, _, true⟩ :: ⟨60, _, true⟩ :: ⟨61, _, true⟩ :: ⟨62, _, true⟩ :: ⟨63, _, true⟩ :: ⟨64, _, true⟩ :: ⟨65, _, true⟩ :: ⟨66, _, true⟩ :: ⟨67, _, true⟩ :: ⟨68, _, true⟩ :: ⟨69, _, true⟩ :: ⟨6, _, true⟩ :: [])) (ks := []) (kk := []) (live := [6]) (env' := [(6, _)])
            (⟨Nat.le_of_ble_eq_true rfl, rfl,
              ⟨⟨rfl, rfl, fun _ τ hb ht hτ => R.mov (evt (hτ 9 _ rfl)) rfl ht⟩,
              ⟨⟨rfl, rfl, fun _ τ hb ht hτ => R.mov (evt (hτ 8 _ rfl)) rfl ht⟩,
              ⟨⟨rfl, rfl, fun _ τ hb ht hτ => R.geqN ((watchS (more :: used) (((1 + x.toNat % 50) : Nat) : Int))) ((watchS used (((1 + x.toNat % 50) : Nat) : Int))) (evt (hτ 43 _ rfl)) (evt (hτ 44 _ rfl)) ht⟩,
              ⟨⟨rfl, rfl, fun _ τ hb ht hτ => R.mov (evt (hτ 45 _ rfl)) rfl ht⟩,
              ⟨⟨rfl, ⟨_, 46, rfl, rfl, .inl ⟨_, rfl, gw (v := true) (decide_eq_true hmn) rfl⟩⟩, fun _ τ hb ht hτ => R.al (hτ 10 _ rfl) ht (by decide)⟩,
              ⟨⟨rfl, ⟨_, 46, rfl, rfl, .inl ⟨_, rfl, gw (v := true) (decide_eq_true hmn) rfl⟩⟩, fun _ τ hb ht hτ => R.mov (evt (hτ 7 _ rfl)) rfl ht⟩,
              ⟨⟨rfl, ⟨_, 46, rfl, rfl, .inl ⟨_, rfl, gw (v := true) (decide_eq_true hmn) rfl⟩⟩, fun _ τ hb ht hτ => R.callG hC (watch_ok (used.drop 0).reverse (((1 + x.toNat % 50) : Nat) : Int) (by simp only [List.length_reverse, List.length_drop]; omega) (fun u hu => hr0 u (by simpa using hu)) (by omega)) (Bors.cons (Bor.sc (SC.al (hτ 47 _ rfl) (hτ 10 _ rfl)) (brw_map (fun _ => rfl))) (Bors.cons (Bor.pur (evt (hτ 48 _ rfl)) rfl rfl) Bors.nil)) (FrsR.one (.int _)) ht⟩,
              ⟨⟨rfl, ⟨_, 46, rfl, rfl, .inl ⟨_, rfl, gw (v := true) (decide_eq_true hmn) rfl⟩⟩, fun _ τ hb ht hτ => R.mov (evt (hτ 8 _ rfl)) rfl ht⟩,
              ⟨⟨rfl, ⟨_, 46, rfl, rfl, .inl ⟨_, rfl, gw (v := true) (decide_eq_true hmn) rfl⟩⟩, fun _ τ hb ht hτ => R.eqlN (watchS (used.drop 0).reverse (((1 + x.toNat % 50) : Nat) : Int)) ((watchS used (((1 + x.toNat % 50) : Nat) : Int))) (evt (hτ 49 _ rfl)) (evt (hτ 50 _ rfl)) ht⟩,
              ⟨⟨rfl, rfl, fun _ τ hb ht hτ => R.pickT (evt (hτ 46 _ rfl)) (decide_eq_true hmn) (evt (hτ 51 _ rfl)) rfl ht⟩,
              ⟨⟨rfl, rfl, fun _ τ hb ht hτ => R.mov (evt (hτ 52 _ rfl)) rfl ht⟩,
              ⟨⟨rfl, ⟨_, 53, rfl, rfl, .inl ⟨_, rfl, gw (v := true) (decide_eq_true hbk) rfl⟩⟩, fun _ τ hb ht hτ => R.mov (evt (hτ 1 _ rfl)) rfl ht⟩,
              ⟨⟨rfl, ⟨_, 53, rfl, rfl, .inl ⟨_, rfl, gw (v := true) (decide_eq_true hbk) rfl⟩⟩, fun _ τ hb ht hτ => R.bin (evt (hτ 54 _ rfl)) (show ev _ _ (.const (.int .i64 0)) = some (.int ((0 : Nat) : Int)) from rfl) rfl trivial ht⟩,
              ⟨⟨rfl, ⟨_, 53, rfl, rfl, .inl ⟨_, rfl, gw (v := true) (decide_eq_true hbk) rfl⟩⟩, fun _ τ hb ht hτ => R.mov (evt (hτ 55 _ rfl)) rfl ht⟩,
              ⟨⟨rfl, ⟨_, 56, rfl, rfl, .inl ⟨_, rfl, gw (v := true) (decide_eq_true h1) rfl⟩⟩, fun _ τ hb ht hτ => R.mov (evt (hτ 1 _ rfl)) rfl ht⟩,
              ⟨⟨rfl, ⟨_, 56, rfl, rfl, .inl ⟨_, rfl, gw (v := true) (decide_eq_true h1) rfl⟩⟩, fun _ τ hb ht hτ => R.mov (evt (hτ 8 _ rfl)) rfl ht⟩,
              ⟨⟨rfl, ⟨_, 56, rfl, rfl, .inl ⟨_, rfl, gw (v := true) (decide_eq_true h1) rfl⟩⟩, fun _ τ hb ht hτ => R.bin (evt (hτ 57 _ rfl)) (evt (hτ 58 _ rfl)) rfl trivial ht⟩,
              ⟨⟨rfl, ⟨_, 53, rfl, rfl, .inl ⟨_, rfl, gw (v := true) (decide_eq_true hbk) rfl⟩⟩, fun _ τ hb ht hτ => R.pickT (evt (hτ 56 _ rfl)) (decide_eq_true h1) (evt (hτ 59 _ rfl)) rfl ht⟩,
              ⟨⟨rfl, ⟨_, 53, rfl, rfl, .inl ⟨_, rfl, gw (v := true) (decide_eq_true hbk) rfl⟩⟩, fun _ τ hb ht hτ => R.mov (evt (hτ 60 _ rfl)) rfl ht⟩,
              ⟨⟨rfl, ⟨_, 61, rfl, rfl, .inl ⟨_, rfl, gw (v := false) (decide_eq_false h2) rfl⟩⟩, fun _ τ hb ht hτ => R.mov (evt (hτ 9 _ rfl)) rfl ht⟩,
              ⟨⟨rfl, ⟨_, 61, rfl, rfl, .inl ⟨_, rfl, gw (v := false) (decide_eq_false h2) rfl⟩⟩, fun _ τ hb ht hτ => R.mov (evt (hτ 8 _ rfl)) rfl ht⟩,
              ⟨⟨rfl, ⟨_, 61, rfl, rfl, .inl ⟨_, rfl, gw (v := false) (decide_eq_false h2) rfl⟩⟩, fun _ τ hb ht hτ => R.eqlN ((watchS (more :: used) (((1 + x.toNat % 50) : Nat) : Int))) ((watchS used (((1 + x.toNat % 50) : Nat) : Int))) (evt (hτ 62 _ rfl)) (evt (hτ 63 _ rfl)) ht⟩,
              ⟨⟨rfl, ⟨_, 53, rfl, rfl, .inl ⟨_, rfl, gw (v := true) (decide_eq_true hbk) rfl⟩⟩, fun _ τ hb ht hτ => R.pickF (evt (hτ 61 _ rfl)) (decide_eq_false h2) (evt (hτ 64 _ rfl)) rfl ht⟩,
              ⟨⟨rfl, rfl, fun _ τ hb ht hτ => R.pickT (evt (hτ 53 _ rfl)) (decide_eq_true hbk) (evt (hτ 65 _ rfl)) rfl ht⟩,
              ⟨⟨rfl, rfl, fun _ τ hb ht hτ => R.mov (evt (hτ 66 _ rfl)) rfl ht⟩,
              ⟨⟨rfl, ⟨_, 67, rfl, rfl, .inl ⟨_, rfl, gw (v := true) (decide_eq_true (more_eq (by omega) (by omega) (fun h => h2 h.2))) rfl⟩⟩, fun _ τ hb ht hτ => R.callG hC (works_ok) Bors.nil (FrsR.one (.bool _)) ht⟩,
              ⟨⟨rfl, rfl, fun _ τ hb ht hτ => R.pickT (evt (hτ 67 _ rfl)) (decide_eq_true (more_eq (by omega) (by omega) (fun h => h2 h.2))) (evt (hτ 68 _ rfl)) rfl ht⟩,
              ⟨⟨rfl, rfl, fun _ τ hb ht hτ => R.asg (evt (hτ 69 _ rfl)) rfl ht⟩,
              trivial⟩⟩⟩⟩⟩⟩⟩⟩⟩⟩⟩⟩⟩⟩⟩⟩⟩⟩⟩⟩⟩⟩⟩⟩⟩⟩⟩⟩, rfl, rfl, rfl⟩)
            rfl (bx' := []) rfl (n' := 70) rfl (⟨[6], [(6, _)], [], 70, rfl, rfl, rfl, ?_⟩)
          refine W.ret ?_
          exact Ends.one' (.inr rfl) rfl (rfl) rfl rfl trivial
      · refine W.line (n := 28) (by decide) (its := (⟨43, _, true⟩ :: ⟨44, _, true⟩ :: ⟨45, _, true⟩ :: ⟨46, _, true⟩ :: ⟨47, _, true⟩ :: ⟨48, _, true⟩ :: ⟨49, _, true⟩ :: ⟨50, _, true⟩ :: ⟨51, _, true⟩ :: ⟨52, _, true⟩ :: ⟨53, _, true⟩ :: ⟨54, _, true⟩ :: ⟨55, _, true⟩ :: ⟨56, _, true⟩ :: ⟨57, .dead, false⟩ :: ⟨58, .dead, false⟩ :: ⟨59, .dead, false⟩ :: ⟨60, _, true⟩ :: ⟨61, _, true⟩ :: ⟨62, _, true⟩ :: ⟨63, _, true⟩ :: ⟨64, _, true⟩ :: ⟨65, _, true⟩ :: ⟨66, _, true⟩ :: ⟨67, _, true⟩ :: ⟨68, _, true⟩ :: ⟨69, _, true⟩ :: ⟨6, _, true⟩ :: [])) (ks := []) (kk := []) (live := [6]) (env' := [(6, _)])
          (⟨Nat.le_of_ble_eq_true rfl, rfl,
            ⟨⟨rfl, rfl, fun _ τ hb ht hτ => R.mov (evt (hτ 9 _ rfl)) rfl ht⟩,
            ⟨⟨rfl, rfl, fun _ τ hb ht hτ => R.mov (evt (hτ 8 _ rfl)) rfl ht⟩,
            ⟨⟨rfl, rfl, fun _ τ hb ht hτ => R.geqN ((watchS (more :: used) (((1 + x.toNat % 50) : Nat) : Int))) ((watchS used (((1 + x.toNat % 50) : Nat) : Int))) (evt (hτ 43 _ rfl)) (evt (hτ 44 _ rfl)) ht⟩,
            ⟨⟨rfl, rfl, fun _ τ hb ht hτ => R.mov (evt (hτ 45 _ rfl)) rfl ht⟩,
            ⟨⟨rfl, ⟨_, 46, rfl, rfl, .inl ⟨_, rfl, gw (v := true) (decide_eq_true hmn) rfl⟩⟩, fun _ τ hb ht hτ => R.al (hτ 10 _ rfl) ht (by decide)⟩,
            ⟨⟨rfl, ⟨_, 46, rfl, rfl, .inl ⟨_, rfl, gw (v := true) (decide_eq_true hmn) rfl⟩⟩, fun _ τ hb ht hτ => R.mov (evt (hτ 7 _ rfl)) rfl ht⟩,
            ⟨⟨rfl, ⟨_, 46, rfl, rfl, .inl ⟨_, rfl, gw (v := true) (decide_eq_true hmn) rfl⟩⟩, fun _ τ hb ht hτ => R.callG hC (watch_ok (used.drop 0).reverse (((1 + x.toNat % 50) : Nat) : Int) (by simp only [List.length_reverse, List.length_drop]; omega) (fun u hu => hr0 u (by simpa using hu)) (by omega)) (Bors.cons (Bor.sc (SC.al (hτ 47 _ rfl) (hτ 10 _ rfl)) (brw_map (fun _ => rfl))) (Bors.cons (Bor.pur (evt (hτ 48 _ rfl)) rfl rfl) Bors.nil)) (FrsR.one (.int _)) ht⟩,
            ⟨⟨rfl, ⟨_, 46, rfl, rfl, .inl ⟨_, rfl, gw (v := true) (decide_eq_true hmn) rfl⟩⟩, fun _ τ hb ht hτ => R.mov (evt (hτ 8 _ rfl)) rfl ht⟩,
            ⟨⟨rfl, ⟨_, 46, rfl, rfl, .inl ⟨_, rfl, gw (v := true) (decide_eq_true hmn) rfl⟩⟩, fun _ τ hb ht hτ => R.eqlN (watchS (used.drop 0).reverse (((1 + x.toNat % 50) : Nat) : Int)) ((watchS used (((1 + x.toNat % 50) : Nat) : Int))) (evt (hτ 49 _ rfl)) (evt (hτ 50 _ rfl)) ht⟩,
            ⟨⟨rfl, rfl, fun _ τ hb ht hτ => R.pickT (evt (hτ 46 _ rfl)) (decide_eq_true hmn) (evt (hτ 51 _ rfl)) rfl ht⟩,
            ⟨⟨rfl, rfl, fun _ τ hb ht hτ => R.mov (evt (hτ 52 _ rfl)) rfl ht⟩,
            ⟨⟨rfl, ⟨_, 53, rfl, rfl, .inl ⟨_, rfl, gw (v := true) (decide_eq_true hbk) rfl⟩⟩, fun _ τ hb ht hτ => R.mov (evt (hτ 1 _ rfl)) rfl ht⟩,
            ⟨⟨rfl, ⟨_, 53, rfl, rfl, .inl ⟨_, rfl, gw (v := true) (decide_eq_true hbk) rfl⟩⟩, fun _ τ hb ht hτ => R.bin (evt (hτ 54 _ rfl)) (show ev _ _ (.const (.int .i64 0)) = some (.int ((0 : Nat) : Int)) from rfl) rfl trivial ht⟩,
            ⟨⟨rfl, ⟨_, 53, rfl, rfl, .inl ⟨_, rfl, gw (v := true) (decide_eq_true hbk) rfl⟩⟩, fun _ τ hb ht hτ => R.mov (evt (hτ 55 _ rfl)) rfl ht⟩,
            ⟨⟨rfl, ⟨_, 56, rfl, rfl, .inl ⟨_, rfl, gw (v := false) (decide_eq_false h1) rfl⟩⟩, fun h => absurd h (by decide)⟩,
            ⟨⟨rfl, ⟨_, 56, rfl, rfl, .inl ⟨_, rfl, gw (v := false) (decide_eq_false h1) rfl⟩⟩, fun h => absurd h (by decide)⟩,
            ⟨⟨rfl, ⟨_, 56, rfl, rfl, .inl ⟨_, rfl, gw (v := false) (decide_eq_false h1) rfl⟩⟩, fun h => absurd h (by decide)⟩,
            ⟨⟨rfl, ⟨_, 53, rfl, rfl, .inl ⟨_, rfl, gw (v := true) (decide_eq_true hbk) rfl⟩⟩, fun _ τ hb ht hτ => R.pickF (evt (hτ 56 _ rfl)) (decide_eq_false h1) (show ev _ _ (.const (.bool false)) = some (.bool false) from rfl) rfl ht⟩,
            ⟨⟨rfl, ⟨_, 53, rfl, rfl, .inl ⟨_, rfl, gw (v := true) (decide_eq_true hbk) rfl⟩⟩, fun _ τ hb ht hτ => R.mov (evt (hτ 60 _ rfl)) rfl ht⟩,
            ⟨⟨rfl, ⟨_, 61, rfl, rfl, .inl ⟨_, rfl, gw (v := false) (rfl) rfl⟩⟩, fun _ τ hb ht hτ => R.mov (evt (hτ 9 _ rfl)) rfl ht⟩,
            ⟨⟨rfl, ⟨_, 61, rfl, rfl, .inl ⟨_, rfl, gw (v := false) (rfl) rfl⟩⟩, fun _ τ hb ht hτ => R.mov (evt (hτ 8 _ rfl)) rfl ht⟩,
            ⟨⟨rfl, ⟨_, 61, rfl, rfl, .inl ⟨_, rfl, gw (v := false) (rfl) rfl⟩⟩, fun _ τ hb ht hτ => R.eqlN ((watchS (more :: used) (((1 + x.toNat % 50) : Nat) : Int))) ((watchS used (((1 + x.toNat % 50) : Nat) : Int))) (evt (hτ 62 _ rfl)) (evt (hτ 63 _ rfl)) ht⟩,
            ⟨⟨rfl, ⟨_, 53, rfl, rfl, .inl ⟨_, rfl, gw (v := true) (decide_eq_true hbk) rfl⟩⟩, fun _ τ hb ht hτ => R.pickF (evt (hτ 61 _ rfl)) (rfl) (evt (hτ 64 _ rfl)) rfl ht⟩,
            ⟨⟨rfl, rfl, fun _ τ hb ht hτ => R.pickT (evt (hτ 53 _ rfl)) (decide_eq_true hbk) (evt (hτ 65 _ rfl)) rfl ht⟩,
            ⟨⟨rfl, rfl, fun _ τ hb ht hτ => R.mov (evt (hτ 66 _ rfl)) rfl ht⟩,
            ⟨⟨rfl, ⟨_, 67, rfl, rfl, .inl ⟨_, rfl, gw (v := true) (decide_eq_true (more_eq (by omega) (by omega) (fun h => h1 h.1))) rfl⟩⟩, fun _ τ hb ht hτ => R.callG hC (works_ok) Bors.nil (FrsR.one (.bool _)) ht⟩,
            ⟨⟨rfl, rfl, fun _ τ hb ht hτ => R.pickT (evt (hτ 67 _ rfl)) (decide_eq_true (more_eq (by omega) (by omega) (fun h => h1 h.1))) (evt (hτ 68 _ rfl)) rfl ht⟩,
            ⟨⟨rfl, rfl, fun _ τ hb ht hτ => R.asg (evt (hτ 69 _ rfl)) rfl ht⟩,
            trivial⟩⟩⟩⟩⟩⟩⟩⟩⟩⟩⟩⟩⟩⟩⟩⟩⟩⟩⟩⟩⟩⟩⟩⟩⟩⟩⟩⟩, rfl, rfl, rfl⟩)
          rfl (bx' := []) rfl (n' := 70) rfl (⟨[6], [(6, _)], [], 70, rfl, rfl, rfl, ?_⟩)
        refine W.ret ?_
        exact Ends.one' (.inr rfl) rfl (rfl) rfl rfl trivial

end Go.Sx
