/- Proved: what functions of the given program compute (used by the theorem of this claim). Conditions: none but those that each theorem states. -/
import Derived.Test.YtggoegenobhanaaDoorHd12
set_option linter.unusedVariables false
set_option linter.unusedSimpArgs false
set_option linter.unnecessarySimpa false

namespace Go.Sx
open Go.Proofs
theorem joins_ok (l : List HdS) (hl : allW l) (a : UInt8) (hl0 : l.length ≤ 140737488355328) : Fn Tryd.prog gl 9 [.sl none 68 (l.map hdrD), .u8 a] (.bool true) := by
  refine Fn.of (n := 167) Tryd.func9 rfl rfl rfl (Nat.le_of_ble_eq_true rfl) fun C hC hD => ?_
  have hk : (a.toNat % (l.length + 1)) ≤ l.length := Nat.lt_succ_iff.1 (Nat.mod_lt _ (Nat.succ_pos _))
  have hat := a.toNat_lt
  have hln := (linkS_spec l).1
  refine W.seq ?_
  refine W.line (n := 1) (by decide) (its := [⟨4, _, true⟩]) (ks := []) (kk := []) (live := [0, 1]) (env' := [(0, _), (1, _)])
    (⟨Nat.le_of_ble_eq_true rfl, rfl,
      ⟨⟨rfl, rfl, fun _ τ hb ht hτ => R.asg (show ev _ _ (.const (.bool false)) = some (.bool false) from rfl) rfl ht⟩,
      trivial⟩, rfl, rfl, rfl⟩)
    rfl (bx' := []) rfl (n' := 167) rfl (⟨[0, 1], [(0, _), (1, _)], [], 167, rfl, rfl, rfl, ?_⟩)
  refine W.seq ?_
  refine W.seq ?_
  refine W.line (n := 3) (by decide) (its := [⟨17, _, true⟩, ⟨18, _, true⟩, ⟨19, _, true⟩]) (ks := []) (kk := []) (live := [0, 1, 19]) (env' := [(0, _), (1, _), (19, _)])
    (⟨Nat.le_of_ble_eq_true rfl, rfl,
      ⟨⟨rfl, rfl, fun _ τ hb ht hτ => R.mov (evt (hτ 0 _ rfl)) rfl ht⟩,
      ⟨⟨rfl, rfl, fun _ τ hb ht hτ => R.lenE (SC.sl (hτ 17 _ rfl)) (List.length_map _) ht⟩,
      ⟨⟨rfl, rfl, fun _ τ hb ht hτ => R.gtrN (l.length) (100) (evt (hτ 18 _ rfl)) (show ev _ _ (.const (.int .i64 100)) = some (.int ((100 : Nat) : Int)) from rfl) ht⟩,
      trivial⟩⟩⟩, rfl, rfl, rfl⟩)
    rfl (bx' := []) rfl (n' := 167) rfl (⟨[0, 1, 19], [(0, _), (1, _), (19, _)], [], 167, rfl, rfl, rfl, ?_⟩)
  refine W.condD rfl (fun hc19 => ?_) (fun hc19 => ?_)
  · refine W.seq ?_
    refine W.line (n := 2) (by decide) (its := [⟨20, _, true⟩, ⟨4, _, true⟩]) (ks := []) (kk := []) (live := [4]) (env' := [(4, _)])
      (⟨Nat.le_of_ble_eq_true rfl, rfl,
        ⟨⟨rfl, rfl, fun _ τ hb ht hτ => R.callG hC (works_ok) Bors.nil (FrsR.one (.bool _)) ht⟩,
        ⟨⟨rfl, rfl, fun _ τ hb ht hτ => R.asg (evt (hτ 20 _ rfl)) rfl ht⟩,
        trivial⟩⟩, rfl, rfl, rfl⟩)
      rfl (bx' := []) rfl (n' := 167) rfl (⟨[4], [(4, _)], [], 167, rfl, rfl, rfl, ?_⟩)
    refine W.ret ?_
    exact Ends.one' (.inr rfl) rfl (rfl) rfl rfl trivial
  · refine W.skip ?_
    refine W.seq ?_
    refine W.line (n := 7) (by decide) (its := [⟨21, _, true⟩, ⟨22, _, true⟩, ⟨23, _, true⟩, ⟨24, _, true⟩, ⟨25, _, true⟩, ⟨26, _, true⟩, ⟨5, _, true⟩]) (ks := []) (kk := []) (live := [0, 5]) (env' := [(0, _), (5, _)])
      (⟨Nat.le_of_ble_eq_true rfl, rfl,
        ⟨⟨rfl, rfl, fun _ τ hb ht hτ => R.mov (evt (hτ 1 _ rfl)) rfl ht⟩,
        ⟨⟨rfl, rfl, fun _ τ hb ht hτ => R.conv (evt (hτ 21 _ rfl)) rfl ht⟩,
        ⟨⟨rfl, rfl, fun _ τ hb ht hτ => R.mov (evt (hτ 0 _ rfl)) rfl ht⟩,
        ⟨⟨rfl, rfl, fun _ τ hb ht hτ => R.lenE (SC.sl (hτ 23 _ rfl)) (List.length_map _) ht⟩,
        ⟨⟨rfl, rfl, fun _ τ hb ht hτ => R.addN (l.length) (1) (evt (hτ 24 _ rfl)) (show ev _ _ (.const (.int .i64 1)) = some (.int ((1 : Nat) : Int)) from rfl) (by first | omega | (simp only [List.length_map, List.length_append, List.length_cons, List.length_nil, List.length_take, List.length_drop, List.length_replicate]; omega) | (simp; omega)) ht⟩,
        ⟨⟨rfl, rfl, fun _ τ hb ht hτ => R.remN (a.toNat) ((l.length + 1)) (evt (hτ 22 _ rfl)) (evt (hτ 25 _ rfl)) (by first | omega | (simp only [List.length_map, List.length_append, List.length_cons, List.length_nil, List.length_take, List.length_drop, List.length_replicate]; omega) | (simp; omega)) ht⟩,
        ⟨⟨rfl, rfl, fun _ τ hb ht hτ => R.asg (evt (hτ 26 _ rfl)) rfl ht⟩,
        trivial⟩⟩⟩⟩⟩⟩⟩, rfl, rfl, rfl⟩)
      rfl (bx' := []) rfl (n' := 167) rfl (⟨[0, 5], [(0, _), (5, _)], [], 167, rfl, rfl, rfl, ?_⟩)
    refine W.seq ?_
    refine W.line (n := 3) (by decide) (its := [⟨27, _, true⟩, ⟨28, _, true⟩, ⟨6, _, true⟩]) (ks := [(2, 28)]) (kk := [(2, 28)]) (live := [0, 5, 6]) (env' := [(0, _), (5, _), (6, _)])
      (⟨Nat.le_of_ble_eq_true rfl, rfl,
        ⟨⟨rfl, rfl, fun _ τ hb ht hτ => R.mov (evt (hτ 0 _ rfl)) rfl ht⟩,
        ⟨⟨rfl, rfl, fun _ τ hb ht hτ => R.callG hC (row_ok l hl (by omega)) (Bors.cons (Bor.pur (evt (hτ 27 _ rfl)) rfl rfl) Bors.nil) (FrsR.one (.sl _ _ _ (frs_map fun _ => .u8 _))) ht⟩,
        ⟨⟨rfl, rfl, fun _ τ hb ht hτ => R.asgO (hτ 28 _ rfl) rfl ht (by decide)⟩,
        trivial⟩⟩⟩, rfl, rfl, rfl⟩)
      rfl (bx' := []) rfl (n' := 167) rfl (⟨[0, 5, 6], [(0, _), (5, _), (6, _)], [], 167, rfl, rfl, rfl, ?_⟩)
    refine W.seq ?_
    refine W.line (n := 5) (by decide) (its := [⟨29, _, true⟩, ⟨30, _, true⟩, ⟨31, _, true⟩, ⟨32, _, true⟩, ⟨7, _, true⟩]) (ks := [(4, 32)]) (kk := [(4, 32)]) (live := [0, 5, 6, 7]) (env' := [(0, _), (5, _), (6, _), (7, _)])
      (⟨Nat.le_of_ble_eq_true rfl, rfl,
        ⟨⟨rfl, rfl, fun _ τ hb ht hτ => R.mov (evt (hτ 0 _ rfl)) rfl ht⟩,
        ⟨⟨rfl, rfl, fun _ τ hb ht hτ => R.mov (evt (hτ 5 _ rfl)) rfl ht⟩,
        ⟨⟨rfl, rfl, fun _ τ hb ht hτ => R.slIN (0) ((a.toNat % (l.length + 1))) ((a.toNat % (l.length + 1))) (evt (hτ 29 _ rfl)) rfl (evoI (evt (hτ 30 _ rfl))) rfl rfl (by first | omega | (simp only [List.length_map, List.length_append, List.length_cons, List.length_nil, List.length_take, List.length_drop, List.length_replicate]; omega) | (simp; omega)) (by first | omega | (simp only [List.length_map, List.length_append, List.length_cons, List.length_nil, List.length_take, List.length_drop, List.length_replicate]; omega) | (simp; omega)) rfl (by rw [List.drop_zero, List.map_take]) ht⟩,
        ⟨⟨rfl, rfl, fun _ τ hb ht hτ => R.callG hC (row_ok (l.take (a.toNat % (l.length + 1))) (hl.take _) (by simp only [List.length_take]; omega)) (Bors.cons (Bor.pur (evt (hτ 31 _ rfl)) rfl rfl) Bors.nil) (FrsR.one (.sl _ _ _ (frs_map fun _ => .u8 _))) ht⟩,
        ⟨⟨rfl, rfl, fun _ τ hb ht hτ => R.asgO (hτ 32 _ rfl) rfl ht (by decide)⟩,
        trivial⟩⟩⟩⟩⟩, rfl, rfl, rfl⟩)
      rfl (bx' := []) rfl (n' := 167) rfl (⟨[0, 5, 6, 7], [(0, _), (5, _), (6, _), (7, _)], [], 167, rfl, rfl, rfl, ?_⟩)
    refine W.seq ?_
    refine W.line (n := 5) (by decide) (its := [⟨33, _, true⟩, ⟨34, _, true⟩, ⟨35, _, true⟩, ⟨36, _, true⟩, ⟨8, _, true⟩]) (ks := [(4, 36)]) (kk := [(4, 36)]) (live := [0, 5, 6, 7, 8]) (env' := [(0, _), (5, _), (6, _), (7, _), (8, _)])
      (⟨Nat.le_of_ble_eq_true rfl, rfl,
        ⟨⟨rfl, rfl, fun _ τ hb ht hτ => R.mov (evt (hτ 0 _ rfl)) rfl ht⟩,
        ⟨⟨rfl, rfl, fun _ τ hb ht hτ => R.mov (evt (hτ 5 _ rfl)) rfl ht⟩,
        ⟨⟨rfl, rfl, fun _ τ hb ht hτ => R.slIN ((a.toNat % (l.length + 1))) (l.length) ((l.length - (a.toNat % (l.length + 1)))) (evt (hτ 33 _ rfl)) (evoI (evt (hτ 34 _ rfl))) rfl rfl (by simp) (by first | omega | (simp only [List.length_map, List.length_append, List.length_cons, List.length_nil, List.length_take, List.length_drop, List.length_replicate]; omega) | (simp; omega)) (by first | omega | (simp only [List.length_map, List.length_append, List.length_cons, List.length_nil, List.length_take, List.length_drop, List.length_replicate]; omega) | (simp; omega)) rfl (rest_map) ht⟩,
        ⟨⟨rfl, rfl, fun _ τ hb ht hτ => R.callG hC (row_ok (l.drop (a.toNat % (l.length + 1))) (hl.drop _) (by simp only [List.length_drop]; omega)) (Bors.cons (Bor.pur (evt (hτ 35 _ rfl)) rfl rfl) Bors.nil) (FrsR.one (.sl _ _ _ (frs_map fun _ => .u8 _))) ht⟩,
        ⟨⟨rfl, rfl, fun _ τ hb ht hτ => R.asgO (hτ 36 _ rfl) rfl ht (by decide)⟩,
        trivial⟩⟩⟩⟩⟩, rfl, rfl, rfl⟩)
      rfl (bx' := []) rfl (n' := 167) rfl (⟨[0, 5, 6, 7, 8], [(0, _), (5, _), (6, _), (7, _), (8, _)], [], 167, rfl, rfl, rfl, ?_⟩)
    refine W.seq ?_
    refine W.seq ?_
    refine W.line (n := 8) (by decide) (its := [⟨37, _, true⟩, ⟨38, _, true⟩, ⟨39, _, true⟩, ⟨40, _, true⟩, ⟨41, _, true⟩, ⟨42, _, true⟩, ⟨43, _, true⟩, ⟨44, _, true⟩]) (ks := []) (kk := []) (live := [0, 5, 6, 7, 8, 44]) (env' := [(0, _), (5, _), (6, _), (7, _), (8, _), (44, _)])
      (⟨Nat.le_of_ble_eq_true rfl, rfl,
        ⟨⟨rfl, rfl, fun _ τ hb ht hτ => R.al (hτ 6 _ rfl) ht (by decide)⟩,
        ⟨⟨rfl, rfl, fun _ τ hb ht hτ => R.cvS (xs := (rowS l)) (SC.al (hτ 37 _ rfl) (hτ 6 _ rfl)) ht⟩,
        ⟨⟨rfl, rfl, fun _ τ hb ht hτ => R.al (hτ 7 _ rfl) ht (by decide)⟩,
        ⟨⟨rfl, rfl, fun _ τ hb ht hτ => R.cvS (xs := (rowS (l.take (a.toNat % (l.length + 1))))) (SC.al (hτ 39 _ rfl) (hτ 7 _ rfl)) ht⟩,
        ⟨⟨rfl, rfl, fun _ τ hb ht hτ => R.al (hτ 8 _ rfl) ht (by decide)⟩,
        ⟨⟨rfl, rfl, fun _ τ hb ht hτ => R.cvS (xs := (rowS (l.drop (a.toNat % (l.length + 1))))) (SC.al (hτ 41 _ rfl) (hτ 8 _ rfl)) ht⟩,
        ⟨⟨rfl, rfl, fun _ τ hb ht hτ => R.bin (evt (hτ 40 _ rfl)) (evt (hτ 42 _ rfl)) rfl (by rw [rowS_len _ (hl.take _), rowS_len _ (hl.drop _)]; simp only [List.length_take, List.length_drop]; omega) ht⟩,
        ⟨⟨rfl, rfl, fun _ τ hb ht hτ => R.bin (evt (hτ 38 _ rfl)) (evt (hτ 43 _ rfl)) rfl trivial ht⟩,
        trivial⟩⟩⟩⟩⟩⟩⟩⟩, rfl, rfl, rfl⟩)
      rfl (bx' := []) rfl (n' := 167) rfl (⟨[0, 5, 6, 7, 8, 44], [(0, _), (5, _), (6, _), (7, _), (8, _), (44, _)], [], 167, rfl, rfl, rfl, ?_⟩)
    refine W.condF rfl (joins_row l _) ?_
    refine W.skip ?_
    refine W.seq ?_
    refine W.line (n := 7) (by decide) (its := [⟨46, _, true⟩, ⟨47, _, true⟩, ⟨45, _, true⟩, ⟨48, _, true⟩, ⟨49, _, true⟩, ⟨9, _, true⟩, ⟨10, _, true⟩]) (ks := []) (kk := []) (live := [0, 5, 7, 8, 9, 10]) (env' := [(0, _), (5, _), (7, _), (8, _), (9, _), (10, _)])
      (⟨Nat.le_of_ble_eq_true rfl, rfl,
        ⟨⟨rfl, rfl, fun _ τ hb ht hτ => R.al (hτ 6 _ rfl) ht (by decide)⟩,
        ⟨⟨rfl, rfl, fun _ τ hb ht hτ => R.callZ (r' := .tup [.sl none 68 (l.map hdrD), .int ((0 : Nat) : Int)]) (cut_ok (rowS l) (by rw [rowS_len l hl]; omega)) hC (Bors.cons (Bor.sc (SC.al (hτ 46 _ rfl) (hτ 6 _ rfl)) (brw_map (fun _ => rfl))) Bors.nil) (FrsR.two (frs_hdrs _ _ _) (.int _)) (zcut (cutS_row l hl (by omega))) ht⟩,
        ⟨⟨rfl, rfl, fun _ τ hb ht hτ => R.movT (hτ 47 _ rfl) rfl ht⟩,
        ⟨⟨rfl, rfl, fun _ τ hb ht hτ => R.ext (hτ 45 _ rfl) rfl rfl ht⟩,
        ⟨⟨rfl, rfl, fun _ τ hb ht hτ => R.ext (hτ 45 _ rfl) rfl rfl ht⟩,
        ⟨⟨rfl, rfl, fun _ τ hb ht hτ => R.asg (evt (hτ 48 _ rfl)) rfl ht⟩,
        ⟨⟨rfl, rfl, fun _ τ hb ht hτ => R.asg (evt (hτ 49 _ rfl)) rfl ht⟩,
        trivial⟩⟩⟩⟩⟩⟩⟩, rfl, rfl, rfl⟩)
      rfl (bx' := []) rfl (n' := 167) rfl (⟨[0, 5, 7, 8, 9, 10], [(0, _), (5, _), (7, _), (8, _), (9, _), (10, _)], [], 167, rfl, rfl, rfl, ?_⟩)
    refine W.seq ?_
    refine W.line (n := 7) (by decide) (its := [⟨51, _, true⟩, ⟨52, _, true⟩, ⟨50, _, true⟩, ⟨53, _, true⟩, ⟨54, _, true⟩, ⟨11, _, true⟩, ⟨12, _, true⟩]) (ks := []) (kk := []) (live := [0, 5, 8, 9, 10, 11, 12]) (env' := [(0, _), (5, _), (8, _), (9, _), (10, _), (11, _), (12, _)])
      (⟨Nat.le_of_ble_eq_true rfl, rfl,
        ⟨⟨rfl, rfl, fun _ τ hb ht hτ => R.al (hτ 7 _ rfl) ht (by decide)⟩,
        ⟨⟨rfl, rfl, fun _ τ hb ht hτ => R.callZ (r' := .tup [.sl none 68 ((l.take (a.toNat % (l.length + 1))).map hdrD), .int ((0 : Nat) : Int)]) (cut_ok (rowS (l.take (a.toNat % (l.length + 1)))) (by rw [rowS_len (l.take (a.toNat % (l.length + 1))) (hl.take _)]; simp only [List.length_take, List.length_drop]; omega)) hC (Bors.cons (Bor.sc (SC.al (hτ 51 _ rfl) (hτ 7 _ rfl)) (brw_map (fun _ => rfl))) Bors.nil) (FrsR.two (frs_hdrs _ _ _) (.int _)) (zcut (cutS_row (l.take (a.toNat % (l.length + 1))) (hl.take _) (by simp only [List.length_take, List.length_drop]; omega))) ht⟩,
        ⟨⟨rfl, rfl, fun _ τ hb ht hτ => R.movT (hτ 52 _ rfl) rfl ht⟩,
        ⟨⟨rfl, rfl, fun _ τ hb ht hτ => R.ext (hτ 50 _ rfl) rfl rfl ht⟩,
        ⟨⟨rfl, rfl, fun _ τ hb ht hτ => R.ext (hτ 50 _ rfl) rfl rfl ht⟩,
        ⟨⟨rfl, rfl, fun _ τ hb ht hτ => R.asg (evt (hτ 53 _ rfl)) rfl ht⟩,
        ⟨⟨rfl, rfl, fun _ τ hb ht hτ => R.asg (evt (hτ 54 _ rfl)) rfl ht⟩,
        trivial⟩⟩⟩⟩⟩⟩⟩, rfl, rfl, rfl⟩)
      rfl (bx' := []) rfl (n' := 167) rfl (⟨[0, 5, 8, 9, 10, 11, 12], [(0, _), (5, _), (8, _), (9, _), (10, _), (11, _), (12, _)], [], 167, rfl, rfl, rfl, ?_⟩)
    refine W.seq ?_
    refine W.line (n := 7) (by decide) (its := [⟨56, _, true⟩, ⟨57, _, true⟩, ⟨55, _, true⟩, ⟨58, _, true⟩, ⟨59, _, true⟩, ⟨13, _, true⟩, ⟨14, _, true⟩]) (ks := []) (kk := []) (live := [0, 5, 9, 10, 11, 12, 13, 14]) (env' := [(0, _), (5, _), (9, _), (10, _), (11, _), (12, _), (13, _), (14, _)])
      (⟨Nat.le_of_ble_eq_true rfl, rfl,
        ⟨⟨rfl, rfl, fun _ τ hb ht hτ => R.al (hτ 8 _ rfl) ht (by decide)⟩,
        ⟨⟨rfl, rfl, fun _ τ hb ht hτ => R.callZ (r' := .tup [.sl none 68 ((l.drop (a.toNat % (l.length + 1))).map hdrD), .int ((0 : Nat) : Int)]) (cut_ok (rowS (l.drop (a.toNat % (l.length + 1)))) (by rw [rowS_len (l.drop (a.toNat % (l.length + 1))) (hl.drop _)]; simp only [List.length_take, List.length_drop]; omega)) hC (Bors.cons (Bor.sc (SC.al (hτ 56 _ rfl) (hτ 8 _ rfl)) (brw_map (fun _ => rfl))) Bors.nil) (FrsR.two (frs_hdrs _ _ _) (.int _)) (zcut (cutS_row (l.drop (a.toNat % (l.length + 1))) (hl.drop _) (by simp only [List.length_take, List.length_drop]; omega))) ht⟩,
        ⟨⟨rfl, rfl, fun _ τ hb ht hτ => R.movT (hτ 57 _ rfl) rfl ht⟩,
        ⟨⟨rfl, rfl, fun _ τ hb ht hτ => R.ext (hτ 55 _ rfl) rfl rfl ht⟩,
        ⟨⟨rfl, rfl, fun _ τ hb ht hτ => R.ext (hτ 55 _ rfl) rfl rfl ht⟩,
        ⟨⟨rfl, rfl, fun _ τ hb ht hτ => R.asg (evt (hτ 58 _ rfl)) rfl ht⟩,
        ⟨⟨rfl, rfl, fun _ τ hb ht hτ => R.asg (evt (hτ 59 _ rfl)) rfl ht⟩,
        trivial⟩⟩⟩⟩⟩⟩⟩, rfl, rfl, rfl⟩)
      rfl (bx' := []) rfl (n' := 167) rfl (⟨[0, 5, 9, 10, 11, 12, 13, 14], [(0, _), (5, _), (9, _), (10, _), (11, _), (12, _), (13, _), (14, _)], [], 167, rfl, rfl, rfl, ?_⟩)
    refine W.seq ?_
    refine W.seq ?_
    refine W.line (n := 32) (by decide) (its := (⟨60, _, true⟩ :: ⟨61, _, true⟩ :: ⟨62, _, true⟩ :: ⟨63, _, true⟩ :: ⟨64, _, true⟩ :: ⟨65, _, true⟩ :: ⟨66, _, true⟩ :: ⟨67, _, true⟩ :: ⟨68, _, true⟩ :: ⟨69, _, true⟩ :: ⟨70, _, true⟩ :: ⟨71, _, true⟩ :: ⟨72, _, true⟩ :: ⟨73, _, true⟩ :: ⟨74, _, true⟩ :: ⟨75, _, true⟩ :: ⟨76, _, true⟩ :: ⟨77, _, true⟩ :: ⟨78, _, true⟩ :: ⟨79, _, true⟩ :: ⟨80, _, true⟩ :: ⟨81, _, true⟩ :: ⟨82, _, true⟩ :: ⟨83, _, true⟩ :: ⟨84, _, true⟩ :: ⟨85, _, true⟩ :: ⟨86, _, true⟩ :: ⟨87, _, true⟩ :: ⟨88, _, true⟩ :: ⟨89, _, true⟩ :: ⟨90, _, true⟩ :: ⟨91, _, true⟩ :: [])) (ks := []) (kk := []) (live := [0, 5, 9, 11, 13, 91]) (env' := [(0, _), (5, _), (9, _), (11, _), (13, _), (91, _)])
      (⟨Nat.le_of_ble_eq_true rfl, rfl,
        ⟨⟨rfl, rfl, fun _ τ hb ht hτ => R.mov (evt (hτ 10 _ rfl)) rfl ht⟩,
        ⟨⟨rfl, rfl, fun _ τ hb ht hτ => R.neqN (0) (0) (evt (hτ 60 _ rfl)) (show ev _ _ (.const (.int .i64 0)) = some (.int ((0 : Nat) : Int)) from rfl) ht⟩,
        ⟨⟨rfl, rfl, fun _ τ hb ht hτ => R.mov (evt (hτ 61 _ rfl)) rfl ht⟩,
        ⟨⟨rfl, ⟨_, 62, rfl, rfl, .inl ⟨_, rfl, gw (v := false) (rfl) rfl⟩⟩, fun _ τ hb ht hτ => R.mov (evt (hτ 12 _ rfl)) rfl ht⟩,
        ⟨⟨rfl, ⟨_, 62, rfl, rfl, .inl ⟨_, rfl, gw (v := false) (rfl) rfl⟩⟩, fun _ τ hb ht hτ => R.neqN (0) (0) (evt (hτ 63 _ rfl)) (show ev _ _ (.const (.int .i64 0)) = some (.int ((0 : Nat) : Int)) from rfl) ht⟩,
        ⟨⟨rfl, rfl, fun _ τ hb ht hτ => R.pickF (evt (hτ 62 _ rfl)) (rfl) (evt (hτ 64 _ rfl)) rfl ht⟩,
        ⟨⟨rfl, rfl, fun _ τ hb ht hτ => R.mov (evt (hτ 65 _ rfl)) rfl ht⟩,
        ⟨⟨rfl, ⟨_, 66, rfl, rfl, .inl ⟨_, rfl, gw (v := false) (rfl) rfl⟩⟩, fun _ τ hb ht hτ => R.mov (evt (hτ 14 _ rfl)) rfl ht⟩,
        ⟨⟨rfl, ⟨_, 66, rfl, rfl, .inl ⟨_, rfl, gw (v := false) (rfl) rfl⟩⟩, fun _ τ hb ht hτ => R.neqN (0) (0) (evt (hτ 67 _ rfl)) (show ev _ _ (.const (.int .i64 0)) = some (.int ((0 : Nat) : Int)) from rfl) ht⟩,
        ⟨⟨rfl, rfl, fun _ τ hb ht hτ => R.pickF (evt (hτ 66 _ rfl)) (rfl) (evt (hτ 68 _ rfl)) rfl ht⟩,
        ⟨⟨rfl, rfl, fun _ τ hb ht hτ => R.mov (evt (hτ 69 _ rfl)) rfl ht⟩,
        ⟨⟨rfl, ⟨_, 70, rfl, rfl, .inl ⟨_, rfl, gw (v := false) (rfl) rfl⟩⟩, fun _ τ hb ht hτ => R.mov (evt (hτ 9 _ rfl)) rfl ht⟩,
        ⟨⟨rfl, ⟨_, 70, rfl, rfl, .inl ⟨_, rfl, gw (v := false) (rfl) rfl⟩⟩, fun _ τ hb ht hτ => R.lenE (SC.sl (hτ 71 _ rfl)) (List.length_map _) ht⟩,
        ⟨⟨rfl, ⟨_, 70, rfl, rfl, .inl ⟨_, rfl, gw (v := false) (rfl) rfl⟩⟩, fun _ τ hb ht hτ => R.mov (evt (hτ 0 _ rfl)) rfl ht⟩,
        ⟨⟨rfl, ⟨_, 70, rfl, rfl, .inl ⟨_, rfl, gw (v := false) (rfl) rfl⟩⟩, fun _ τ hb ht hτ => R.lenE (SC.sl (hτ 73 _ rfl)) (List.length_map _) ht⟩,
        ⟨⟨rfl, ⟨_, 70, rfl, rfl, .inl ⟨_, rfl, gw (v := false) (rfl) rfl⟩⟩, fun _ τ hb ht hτ => R.neqN (l.length) (l.length) (evt (hτ 72 _ rfl)) (evt (hτ 74 _ rfl)) ht⟩,
        ⟨⟨rfl, rfl, fun _ τ hb ht hτ => R.pickF (evt (hτ 70 _ rfl)) (rfl) (evt (hτ 75 _ rfl)) rfl ht⟩,
        ⟨⟨rfl, rfl, fun _ τ hb ht hτ => R.mov (evt (hτ 76 _ rfl)) rfl ht⟩,
        ⟨⟨rfl, ⟨_, 77, rfl, rfl, .inl ⟨_, rfl, gw (v := false) (decide_eq_false (fun h => h rfl)) rfl⟩⟩, fun _ τ hb ht hτ => R.mov (evt (hτ 11 _ rfl)) rfl ht⟩,
        ⟨⟨rfl, ⟨_, 77, rfl, rfl, .inl ⟨_, rfl, gw (v := false) (decide_eq_false (fun h => h rfl)) rfl⟩⟩, fun _ τ hb ht hτ => R.lenE (SC.sl (hτ 78 _ rfl)) (List.length_map _) ht⟩,
        ⟨⟨rfl, ⟨_, 77, rfl, rfl, .inl ⟨_, rfl, gw (v := false) (decide_eq_false (fun h => h rfl)) rfl⟩⟩, fun _ τ hb ht hτ => R.mov (evt (hτ 5 _ rfl)) rfl ht⟩,
        ⟨⟨rfl, ⟨_, 77, rfl, rfl, .inl ⟨_, rfl, gw (v := false) (decide_eq_false (fun h => h rfl)) rfl⟩⟩, fun _ τ hb ht hτ => R.neqN ((l.take (a.toNat % (l.length + 1))).length) ((a.toNat % (l.length + 1))) (evt (hτ 79 _ rfl)) (evt (hτ 80 _ rfl)) ht⟩,
        ⟨⟨rfl, rfl, fun _ τ hb ht hτ => R.pickF (evt (hτ 77 _ rfl)) (decide_eq_false (fun h => h rfl)) (evt (hτ 81 _ rfl)) rfl ht⟩,
        ⟨⟨rfl, rfl, fun _ τ hb ht hτ => R.mov (evt (hτ 82 _ rfl)) rfl ht⟩,
        ⟨⟨rfl, ⟨_, 83, rfl, rfl, .inl ⟨_, rfl, gw (v := false) (decide_eq_false (fun h => h (by simp only [List.length_take]; omega))) rfl⟩⟩, fun _ τ hb ht hτ => R.mov (evt (hτ 13 _ rfl)) rfl ht⟩,
        ⟨⟨rfl, ⟨_, 83, rfl, rfl, .inl ⟨_, rfl, gw (v := false) (decide_eq_false (fun h => h (by simp only [List.length_take]; omega))) rfl⟩⟩, fun _ τ hb ht hτ => R.lenE (SC.sl (hτ 84 _ rfl)) (List.length_map _) ht⟩,
        ⟨⟨rfl, ⟨_, 83, rfl, rfl, .inl ⟨_, rfl, gw (v := false) (decide_eq_false (fun h => h (by simp only [List.length_take]; omega))) rfl⟩⟩, fun _ τ hb ht hτ => R.mov (evt (hτ 0 _ rfl)) rfl ht⟩,
        ⟨⟨rfl, ⟨_, 83, rfl, rfl, .inl ⟨_, rfl, gw (v := false) (decide_eq_false (fun h => h (by simp only [List.length_take]; omega))) rfl⟩⟩, fun _ τ hb ht hτ => R.lenE (SC.sl (hτ 86 _ rfl)) (List.length_map _) ht⟩,
        ⟨⟨rfl, ⟨_, 83, rfl, rfl, .inl ⟨_, rfl, gw (v := false) (decide_eq_false (fun h => h (by simp only [List.length_take]; omega))) rfl⟩⟩, fun _ τ hb ht hτ => R.mov (evt (hτ 5 _ rfl)) rfl ht⟩,
        ⟨⟨rfl, ⟨_, 83, rfl, rfl, .inl ⟨_, rfl, gw (v := false) (decide_eq_false (fun h => h (by simp only [List.length_take]; omega))) rfl⟩⟩, fun _ τ hb ht hτ => R.subN (l.length) ((a.toNat % (l.length + 1))) (evt (hτ 87 _ rfl)) (evt (hτ 88 _ rfl)) (by first | omega | (simp only [List.length_map, List.length_append, List.length_cons, List.length_nil, List.length_take, List.length_drop, List.length_replicate]; omega) | (simp; omega)) (by first | omega | (simp only [List.length_map, List.length_append, List.length_cons, List.length_nil, List.length_take, List.length_drop, List.length_replicate]; omega) | (simp; omega)) ht⟩,
        ⟨⟨rfl, ⟨_, 83, rfl, rfl, .inl ⟨_, rfl, gw (v := false) (decide_eq_false (fun h => h (by simp only [List.length_take]; omega))) rfl⟩⟩, fun _ τ hb ht hτ => R.neqN ((l.drop (a.toNat % (l.length + 1))).length) ((l.length - (a.toNat % (l.length + 1)))) (evt (hτ 85 _ rfl)) (evt (hτ 89 _ rfl)) ht⟩,
        ⟨⟨rfl, rfl, fun _ τ hb ht hτ => R.pickF (evt (hτ 83 _ rfl)) (decide_eq_false (fun h => h (by simp only [List.length_take]; omega))) (evt (hτ 90 _ rfl)) rfl ht⟩,
        trivial⟩⟩⟩⟩⟩⟩⟩⟩⟩⟩⟩⟩⟩⟩⟩⟩⟩⟩⟩⟩⟩⟩⟩⟩⟩⟩⟩⟩⟩⟩⟩⟩, rfl, rfl, rfl⟩)
      rfl (bx' := []) rfl (n' := 167) rfl (⟨[0, 5, 9, 11, 13, 91], [(0, _), (5, _), (9, _), (11, _), (13, _), (91, _)], [], 167, rfl, rfl, rfl, ?_⟩)
    refine W.condF rfl (decide_eq_false (fun h => h List.length_drop)) ?_
    refine W.skip ?_
    refine W.seq ?_
    refine W.seq ?_
    refine W.line (n := 1) (by decide) (its := [⟨15, _, true⟩]) (ks := []) (kk := []) (live := [0, 5, 9, 11, 13, 15]) (env' := [(0, _), (5, _), (9, _), (11, _), (13, _), (15, _)])
      (⟨Nat.le_of_ble_eq_true rfl, rfl,
        ⟨⟨rfl, rfl, fun _ τ hb ht hτ => R.asg (show ev _ _ (.const (.int .i64 0)) = some (.int ((0 : Nat) : Int)) from rfl) rfl ht⟩,
        trivial⟩, rfl, rfl, rfl⟩)
      rfl (bx' := []) rfl (n' := 167) rfl (⟨[0, 5, 9, 11, 13, 15], [(0, _), (5, _), (9, _), (11, _), (13, _), (15, _)], [], 167, rfl, rfl, rfl, ?_⟩)
    refine W.block ?_
    refine W.loop (α := {q__ : Nat // q__ ≤ l.length}) (fun q__ => ⟨167, [(0, .sl none 68 (l.map hdrD)), (5, .int (((a.toNat % (l.length + 1)) : Nat) : Int)), (9, .sl none 68 (l.map hdrD)), (11, .sl none 68 ((l.take (a.toNat % (l.length + 1))).map hdrD)), (13, .sl none 68 ((l.drop (a.toNat % (l.length + 1))).map hdrD)), (15, .int ((q__.1 : Nat) : Int))], []⟩) (fun q__ => l.length - q__.1) ⟨(0), (by first | omega | (simp only [List.length_map, List.length_append, List.length_cons, List.length_nil, List.length_take, List.length_drop, List.length_replicate]; omega) | (simp; omega))⟩ rfl ?_
    rintro ⟨i, hi⟩
    show W _ _ _ _ ⟨167, [(0, .sl none 68 (l.map hdrD)), (5, .int (((a.toNat % (l.length + 1)) : Nat) : Int)), (9, .sl none 68 (l.map hdrD)), (11, .sl none 68 ((l.take (a.toNat % (l.length + 1))).map hdrD)), (13, .sl none 68 ((l.drop (a.toNat % (l.length + 1))).map hdrD)), (15, .int ((i : Nat) : Int))], []⟩
    have hi : i ≤ l.length := hi
    refine W.seq ?_
    refine W.seq ?_
    refine W.line (n := 4) (by decide) (its := [⟨92, _, true⟩, ⟨93, _, true⟩, ⟨94, _, true⟩, ⟨95, _, true⟩]) (ks := []) (kk := []) (live := [0, 5, 9, 11, 13, 15, 95]) (env' := [(0, _), (5, _), (9, _), (11, _), (13, _), (15, _), (95, _)])
      (⟨Nat.le_of_ble_eq_true rfl, rfl,
        ⟨⟨rfl, rfl, fun _ τ hb ht hτ => R.mov (evt (hτ 15 _ rfl)) rfl ht⟩,
        ⟨⟨rfl, rfl, fun _ τ hb ht hτ => R.mov (evt (hτ 0 _ rfl)) rfl ht⟩,
        ⟨⟨rfl, rfl, fun _ τ hb ht hτ => R.lenE (SC.sl (hτ 93 _ rfl)) (List.length_map _) ht⟩,
        ⟨⟨rfl, rfl, fun _ τ hb ht hτ => R.lssN (i) (l.length) (evt (hτ 92 _ rfl)) (evt (hτ 94 _ rfl)) ht⟩,
        trivial⟩⟩⟩⟩, rfl, rfl, rfl⟩)
      rfl (bx' := []) rfl (n' := 167) rfl (⟨[0, 5, 9, 11, 13, 15, 95], [(0, _), (5, _), (9, _), (11, _), (13, _), (15, _), (95, _)], [], 167, rfl, rfl, rfl, ?_⟩)
    refine W.condD rfl (fun hc95 => ?_) (fun hc95 => ?_)
    · refine W.skip ?_
      refine W.seq ?_
      refine W.block ?_
      refine W.seq ?_
      by_cases hik : i < (a.toNat % (l.length + 1))
      · refine W.draw (m := 43) (an := (0 :: 0 :: 3 :: 7 :: 0 :: 0 :: 48 :: 112 :: 255 :: 511 :: 1023 :: 1023 :: 4095 :: 8191 :: 16383 :: 16383 :: 65535 :: 131071 :: 16383 :: 16383 :: 802815 :: 1851391 :: 4194303 :: 8388607 :: 16777215 :: 33554431 :: 67108863 :: 67108863 :: 268435455 :: 536870911 :: 1073741823 :: 1073741823 :: 1073741823 :: 7516192767 :: 17179869183 :: 34359738367 :: 1073741823 :: 1073741823 :: 207232172031 :: 482110078975 :: 1099511627775 :: 2199023255551 :: 4398046511103 :: [])) hP (by decide) rfl (its := (⟨98, _, true⟩ :: ⟨99, _, true⟩ :: ⟨100, _, true⟩ :: ⟨101, _, true⟩ :: ⟨102, _, true⟩ :: ⟨103, _, true⟩ :: ⟨104, _, true⟩ :: ⟨105, _, true⟩ :: ⟨106, _, true⟩ :: ⟨107, _, true⟩ :: ⟨108, _, true⟩ :: ⟨109, _, true⟩ :: ⟨110, _, true⟩ :: ⟨111, _, true⟩ :: ⟨112, _, true⟩ :: ⟨113, _, true⟩ :: ⟨114, _, true⟩ :: ⟨115, _, true⟩ :: ⟨116, _, true⟩ :: ⟨117, _, true⟩ :: ⟨118, _, true⟩ :: ⟨119, _, true⟩ :: ⟨120, _, true⟩ :: ⟨121, _, true⟩ :: ⟨122, _, true⟩ :: ⟨123, _, true⟩ :: ⟨124, _, true⟩ :: ⟨125, _, true⟩ :: ⟨126, _, true⟩ :: ⟨127, _, true⟩ :: ⟨128, .dead, false⟩ :: ⟨129, .dead, false⟩ :: ⟨130, .dead, false⟩ :: ⟨131, .dead, false⟩ :: ⟨132, .dead, false⟩ :: ⟨133, .dead, false⟩ :: ⟨134, .dead, false⟩ :: ⟨135, .dead, false⟩ :: ⟨136, .dead, false⟩ :: ⟨137, .dead, false⟩ :: ⟨138, .dead, false⟩ :: ⟨139, _, true⟩ :: ⟨140, _, true⟩ :: [])) (ks := []) (kk := []) (live := [0, 5, 9, 11, 13, 15, 140]) (env' := [(0, _), (5, _), (9, _), (11, _), (13, _), (15, _), (140, _)])
          (⟨Nat.le_of_ble_eq_true rfl, rfl,
            ⟨⟨rfl, rfl, fun _ τ hb ht hτ => R.mov (evt (hτ 9 _ rfl)) rfl ht⟩,
            ⟨⟨rfl, rfl, fun _ τ hb ht hτ => R.mov (evt (hτ 15 _ rfl)) rfl ht⟩,
            ⟨⟨rfl, rfl, fun _ τ hb ht hτ => R.idxN (i) (SC.sl (hτ 98 _ rfl)) (evoI (evt (hτ 99 _ rfl))) rfl (by first | omega | (simp only [List.length_map, List.length_append, List.length_cons, List.length_nil, List.length_take, List.length_drop, List.length_replicate]; omega) | (simp; omega)) ht (by decide)⟩,
            ⟨⟨rfl, rfl, fun _ τ hb ht hτ => R.ldE (hτ 100 _ rfl) (SC.sl (hτ 98 _ rfl)) (map_get! (l := l) (by first | omega | (simp only [List.length_map, List.length_append, List.length_cons, List.length_nil, List.length_take, List.length_drop, List.length_replicate]; omega) | (simp; omega))) rfl rfl rfl rfl ht⟩,
            ⟨⟨rfl, rfl, fun _ τ hb ht hτ => R.mov (evt (hτ 0 _ rfl)) rfl ht⟩,
            ⟨⟨rfl, rfl, fun _ τ hb ht hτ => R.mov (evt (hτ 15 _ rfl)) rfl ht⟩,
            ⟨⟨rfl, rfl, fun _ τ hb ht hτ => R.idxN (i) (SC.sl (hτ 102 _ rfl)) (evoI (evt (hτ 103 _ rfl))) rfl (by first | omega | (simp only [List.length_map, List.length_append, List.length_cons, List.length_nil, List.length_take, List.length_drop, List.length_replicate]; omega) | (simp; omega)) ht (by decide)⟩,
            ⟨⟨rfl, rfl, fun _ τ hb ht hτ => R.ldE (hτ 104 _ rfl) (SC.sl (hτ 102 _ rfl)) (map_get! (l := l) (by first | omega | (simp only [List.length_map, List.length_append, List.length_cons, List.length_nil, List.length_take, List.length_drop, List.length_replicate]; omega) | (simp; omega))) rfl rfl rfl rfl ht⟩,
            ⟨⟨rfl, rfl, fun _ τ hb ht hτ => R.eqD (neg := true) (b' := (l[i]! != l[i]!)) (eqv_hdr _ _) rfl (evt (hτ 101 _ rfl)) (evt (hτ 105 _ rfl)) rfl rfl rfl rfl (rfl) ht⟩,
            ⟨⟨rfl, rfl, fun _ τ hb ht hτ => R.mov (evt (hτ 106 _ rfl)) rfl ht⟩,
            ⟨⟨rfl, ⟨_, 107, rfl, rfl, .inl ⟨_, rfl, gw (v := false) (bne_self_eq_false _) rfl⟩⟩, fun _ τ hb ht hτ => R.mov (evt (hτ 15 _ rfl)) rfl ht⟩,
            ⟨⟨rfl, ⟨_, 107, rfl, rfl, .inl ⟨_, rfl, gw (v := false) (bne_self_eq_false _) rfl⟩⟩, fun _ τ hb ht hτ => R.mov (evt (hτ 5 _ rfl)) rfl ht⟩,
            ⟨⟨rfl, ⟨_, 107, rfl, rfl, .inl ⟨_, rfl, gw (v := false) (bne_self_eq_false _) rfl⟩⟩, fun _ τ hb ht hτ => R.lssN (i) ((a.toNat % (l.length + 1))) (evt (hτ 108 _ rfl)) (evt (hτ 109 _ rfl)) ht⟩,
            ⟨⟨rfl, ⟨_, 107, rfl, rfl, .inl ⟨_, rfl, gw (v := false) (bne_self_eq_false _) rfl⟩⟩, fun _ τ hb ht hτ => R.mov (evt (hτ 110 _ rfl)) rfl ht⟩,
            ⟨⟨rfl, ⟨_, 111, rfl, rfl, .inl ⟨_, rfl, gw (v := true) (decide_eq_true hik) rfl⟩⟩, fun _ τ hb ht hτ => R.mov (evt (hτ 11 _ rfl)) rfl ht⟩,
            ⟨⟨rfl, ⟨_, 111, rfl, rfl, .inl ⟨_, rfl, gw (v := true) (decide_eq_true hik) rfl⟩⟩, fun _ τ hb ht hτ => R.mov (evt (hτ 15 _ rfl)) rfl ht⟩,
            ⟨⟨rfl, ⟨_, 111, rfl, rfl, .inl ⟨_, rfl, gw (v := true) (decide_eq_true hik) rfl⟩⟩, fun _ τ hb ht hτ => R.idxN (i) (SC.sl (hτ 112 _ rfl)) (evoI (evt (hτ 113 _ rfl))) rfl (by first | omega | (simp only [List.length_map, List.length_append, List.length_cons, List.length_nil, List.length_take, List.length_drop, List.length_replicate]; omega) | (simp; omega)) ht (by decide)⟩,
            ⟨⟨rfl, ⟨_, 111, rfl, rfl, .inl ⟨_, rfl, gw (v := true) (decide_eq_true hik) rfl⟩⟩, fun _ τ hb ht hτ => R.ldE (hτ 114 _ rfl) (SC.sl (hτ 112 _ rfl)) (map_get! (l := (l.take (a.toNat % (l.length + 1)))) (by first | omega | (simp only [List.length_map, List.length_append, List.length_cons, List.length_nil, List.length_take, List.length_drop, List.length_replicate]; omega) | (simp; omega))) rfl rfl rfl rfl ht⟩,
            ⟨⟨rfl, ⟨_, 111, rfl, rfl, .inl ⟨_, rfl, gw (v := true) (decide_eq_true hik) rfl⟩⟩, fun _ τ hb ht hτ => R.mov (evt (hτ 0 _ rfl)) rfl ht⟩,
            ⟨⟨rfl, ⟨_, 111, rfl, rfl, .inl ⟨_, rfl, gw (v := true) (decide_eq_true hik) rfl⟩⟩, fun _ τ hb ht hτ => R.mov (evt (hτ 15 _ rfl)) rfl ht⟩,
            ⟨⟨rfl, ⟨_, 111, rfl, rfl, .inl ⟨_, rfl, gw (v := true) (decide_eq_true hik) rfl⟩⟩, fun _ τ hb ht hτ => R.idxN (i) (SC.sl (hτ 116 _ rfl)) (evoI (evt (hτ 117 _ rfl))) rfl (by first | omega | (simp only [List.length_map, List.length_append, List.length_cons, List.length_nil, List.length_take, List.length_drop, List.length_replicate]; omega) | (simp; omega)) ht (by decide)⟩,
            ⟨⟨rfl, ⟨_, 111, rfl, rfl, .inl ⟨_, rfl, gw (v := true) (decide_eq_true hik) rfl⟩⟩, fun _ τ hb ht hτ => R.ldE (hτ 118 _ rfl) (SC.sl (hτ 116 _ rfl)) (map_get! (l := l) (by first | omega | (simp only [List.length_map, List.length_append, List.length_cons, List.length_nil, List.length_take, List.length_drop, List.length_replicate]; omega) | (simp; omega))) rfl rfl rfl rfl ht⟩,
            ⟨⟨rfl, ⟨_, 111, rfl, rfl, .inl ⟨_, rfl, gw (v := true) (decide_eq_true hik) rfl⟩⟩, fun _ τ hb ht hτ => R.eqD (neg := true) (b' := ((l.take (a.toNat % (l.length + 1)))[i]! != l[i]!)) (eqv_hdr _ _) rfl (evt (hτ 115 _ rfl)) (evt (hτ 119 _ rfl)) rfl rfl rfl rfl (rfl) ht⟩,
            ⟨⟨rfl, ⟨_, 107, rfl, rfl, .inl ⟨_, rfl, gw (v := false) (bne_self_eq_false _) rfl⟩⟩, fun _ τ hb ht hτ => R.pickT (evt (hτ 111 _ rfl)) (decide_eq_true hik) (evt (hτ 120 _ rfl)) rfl ht⟩,
            ⟨⟨rfl, rfl, fun _ τ hb ht hτ => R.pickF (evt (hτ 107 _ rfl)) (bne_self_eq_false _) (evt (hτ 121 _ rfl)) rfl ht⟩,
            ⟨⟨rfl, rfl, fun _ τ hb ht hτ => R.mov (evt (hτ 122 _ rfl)) rfl ht⟩,
            ⟨⟨rfl, ⟨_, 123, rfl, rfl, .inl ⟨_, rfl, gw (v := false) (take_ne l _ i hik) rfl⟩⟩, fun _ τ hb ht hτ => R.mov (evt (hτ 15 _ rfl)) rfl ht⟩,
            ⟨⟨rfl, ⟨_, 123, rfl, rfl, .inl ⟨_, rfl, gw (v := false) (take_ne l _ i hik) rfl⟩⟩, fun _ τ hb ht hτ => R.mov (evt (hτ 5 _ rfl)) rfl ht⟩,
            ⟨⟨rfl, ⟨_, 123, rfl, rfl, .inl ⟨_, rfl, gw (v := false) (take_ne l _ i hik) rfl⟩⟩, fun _ τ hb ht hτ => R.geqN (i) ((a.toNat % (l.length + 1))) (evt (hτ 124 _ rfl)) (evt (hτ 125 _ rfl)) ht⟩,
            ⟨⟨rfl, ⟨_, 123, rfl, rfl, .inl ⟨_, rfl, gw (v := false) (take_ne l _ i hik) rfl⟩⟩, fun _ τ hb ht hτ => R.mov (evt (hτ 126 _ rfl)) rfl ht⟩,
            ⟨⟨rfl, ⟨_, 127, rfl, rfl, .inl ⟨_, rfl, gw (v := false) (decide_eq_false (by omega)) rfl⟩⟩, fun h => absurd h (by decide)⟩,
            ⟨⟨rfl, ⟨_, 127, rfl, rfl, .inl ⟨_, rfl, gw (v := false) (decide_eq_false (by omega)) rfl⟩⟩, fun h => absurd h (by decide)⟩,
            ⟨⟨rfl, ⟨_, 127, rfl, rfl, .inl ⟨_, rfl, gw (v := false) (decide_eq_false (by omega)) rfl⟩⟩, fun h => absurd h (by decide)⟩,
            ⟨⟨rfl, ⟨_, 127, rfl, rfl, .inl ⟨_, rfl, gw (v := false) (decide_eq_false (by omega)) rfl⟩⟩, fun h => absurd h (by decide)⟩,
            ⟨⟨rfl, ⟨_, 127, rfl, rfl, .inl ⟨_, rfl, gw (v := false) (decide_eq_false (by omega)) rfl⟩⟩, fun h => absurd h (by decide)⟩,
            ⟨⟨rfl, ⟨_, 127, rfl, rfl, .inl ⟨_, rfl, gw (v := false) (decide_eq_false (by omega)) rfl⟩⟩, fun h => absurd h (by decide)⟩,
            ⟨⟨rfl, ⟨_, 127, rfl, rfl, .inl ⟨_, rfl, gw (v := false) (decide_eq_false (by omega)) rfl⟩⟩, fun h => absurd h (by decide)⟩,
            ⟨⟨rfl, ⟨_, 127, rfl, rfl, .inl ⟨_, rfl, gw (v := false) (decide_eq_false (by omega)) rfl⟩⟩, fun h => absurd h (by decide)⟩,
            ⟨⟨rfl, ⟨_, 127, rfl, rfl, .inl ⟨_, rfl, gw (v := false) (decide_eq_false (by omega)) rfl⟩⟩, fun h => absurd h (by decide)⟩,
            ⟨⟨rfl, ⟨_, 127, rfl, rfl, .inl ⟨_, rfl, gw (v := false) (decide_eq_false (by omega)) rfl⟩⟩, fun h => absurd h (by decide)⟩,
            ⟨⟨rfl, ⟨_, 127, rfl, rfl, .inl ⟨_, rfl, gw (v := false) (decide_eq_false (by omega)) rfl⟩⟩, fun h => absurd h (by decide)⟩,
            ⟨⟨rfl, ⟨_, 123, rfl, rfl, .inl ⟨_, rfl, gw (v := false) (take_ne l _ i hik) rfl⟩⟩, fun _ τ hb ht hτ => R.pickF (evt (hτ 127 _ rfl)) (decide_eq_false (by omega)) (show ev _ _ (.const (.bool false)) = some (.bool false) from rfl) rfl ht⟩,
            ⟨⟨rfl, rfl, fun _ τ hb ht hτ => R.pickF (evt (hτ 123 _ rfl)) (take_ne l _ i hik) (evt (hτ 139 _ rfl)) rfl ht⟩,
            trivial⟩⟩⟩⟩⟩⟩⟩⟩⟩⟩⟩⟩⟩⟩⟩⟩⟩⟩⟩⟩⟩⟩⟩⟩⟩⟩⟩⟩⟩⟩⟩⟩⟩⟩⟩⟩⟩⟩⟩⟩⟩⟩⟩, rfl, rfl, rfl⟩)
          rfl (bx' := []) rfl (n' := 167) rfl (⟨[0, 5, 9, 11, 13, 15, 140], [(0, _), (5, _), (9, _), (11, _), (13, _), (15, _), (140, _)], [], 167, rfl, rfl, rfl, ?_⟩)
        refine W.condF rfl (rfl) ?_
        refine W.skip ?_
        refine W.line (n := 3) (by decide) (its := [⟨96, _, true⟩, ⟨97, _, true⟩, ⟨15, _, true⟩]) (ks := []) (kk := []) (live := [0, 5, 9, 11, 13, 15]) (env' := [(0, _), (5, _), (9, _), (11, _), (13, _), (15, _)])
          (⟨Nat.le_of_ble_eq_true rfl, rfl,
            ⟨⟨rfl, rfl, fun _ τ hb ht hτ => R.mov (evt (hτ 15 _ rfl)) rfl ht⟩,
            ⟨⟨rfl, rfl, fun _ τ hb ht hτ => R.addN (i) (1) (evt (hτ 96 _ rfl)) (show ev _ _ (.const (.int .i64 1)) = some (.int ((1 : Nat) : Int)) from rfl) (by first | omega | (simp only [List.length_map, List.length_append, List.length_cons, List.length_nil, List.length_take, List.length_drop, List.length_replicate]; omega) | (simp; omega)) ht⟩,
            ⟨⟨rfl, rfl, fun _ τ hb ht hτ => R.asg (evt (hτ 97 _ rfl)) rfl ht⟩,
            trivial⟩⟩⟩, rfl, rfl, rfl⟩)
          rfl (bx' := []) rfl (n' := 167) rfl (⟨[0, 5, 9, 11, 13, 15], [(0, _), (5, _), (9, _), (11, _), (13, _), (15, _)], [], 167, rfl, rfl, rfl, ?_⟩)
        exact ⟨⟨(i + 1), (by first | omega | (simp only [List.length_map, List.length_append, List.length_cons, List.length_nil, List.length_take, List.length_drop, List.length_replicate]; omega) | (simp; omega))⟩, rfl, (by simp only []; omega)⟩
      · refine W.draw (m := 43) (an := (0 :: 0 :: 3 :: 7 :: 0 :: 0 :: 48 :: 112 :: 255 :: 511 :: 1023 :: 1023 :: 4095 :: 8191 :: 16383 :: 16383 :: 65535 :: 131071 :: 16383 :: 16383 :: 802815 :: 1851391 :: 4194303 :: 8388607 :: 16777215 :: 33554431 :: 67108863 :: 67108863 :: 268435455 :: 536870911 :: 1073741823 :: 1073741823 :: 1073741823 :: 7516192767 :: 17179869183 :: 34359738367 :: 1073741823 :: 1073741823 :: 207232172031 :: 482110078975 :: 1099511627775 :: 2199023255551 :: 4398046511103 :: [])) hP (by decide) rfl (its := (⟨98, _, true⟩ :: ⟨99, _, true⟩ :: ⟨100, _, true⟩ :: ⟨101, _, true⟩ :: ⟨102, _, true⟩ :: ⟨103, _, true⟩ :: ⟨104, _, true⟩ :: ⟨105, _, true⟩ :: ⟨106, _, true⟩ :: ⟨107, _, true⟩ :: ⟨108, _, true⟩ :: ⟨109, _, true⟩ :: ⟨110, _, true⟩ :: ⟨111, _, true⟩ :: ⟨112, .dead, false⟩ :: ⟨113, .dead, false⟩ :: ⟨114, .dead, false⟩ :: ⟨115, .dead, false⟩ :: ⟨116, .dead, false⟩ :: ⟨117, .dead, false⟩ :: ⟨118, .dead, false⟩ :: ⟨119, .dead, false⟩ :: ⟨120, .dead, false⟩ :: ⟨121, _, true⟩ :: ⟨122, _, true⟩ :: ⟨123, _, true⟩ :: ⟨124, _, true⟩ :: ⟨125, _, true⟩ :: ⟨126, _, true⟩ :: ⟨127, _, true⟩ :: ⟨128, _, true⟩ :: ⟨129, _, true⟩ :: ⟨130, _, true⟩ :: ⟨131, _, true⟩ :: ⟨132, _, true⟩ :: ⟨133, _, true⟩ :: ⟨134, _, true⟩ :: ⟨135, _, true⟩ :: ⟨136, _, true⟩ :: ⟨137, _, true⟩ :: ⟨138, _, true⟩ :: ⟨139, _, true⟩ :: ⟨140, _, true⟩ :: [])) (ks := []) (kk := []) (live := [0, 5, 9, 11, 13, 15, 140]) (env' := [(0, _), (5, _), (9, _), (11, _), (13, _), (15, _), (140, _)])
          (⟨Nat.le_of_ble_eq_true rfl, rfl,
            ⟨⟨rfl, rfl, fun _ τ hb ht hτ => R.mov (evt (hτ 9 _ rfl)) rfl ht⟩,
            ⟨⟨rfl, rfl, fun _ τ hb ht hτ => R.mov (evt (hτ 15 _ rfl)) rfl ht⟩,
            ⟨⟨rfl, rfl, fun _ τ hb ht hτ => R.idxN (i) (SC.sl (hτ 98 _ rfl)) (evoI (evt (hτ 99 _ rfl))) rfl (by first | omega | (simp only [List.length_map, List.length_append, List.length_cons, List.length_nil, List.length_take, List.length_drop, List.length_replicate]; omega) | (simp; omega)) ht (by decide)⟩,
            ⟨⟨rfl, rfl, fun _ τ hb ht hτ => R.ldE (hτ 100 _ rfl) (SC.sl (hτ 98 _ rfl)) (map_get! (l := l) (by first | omega | (simp only [List.length_map, List.length_append, List.length_cons, List.length_nil, List.length_take, List.length_drop, List.length_replicate]; omega) | (simp; omega))) rfl rfl rfl rfl ht⟩,
            ⟨⟨rfl, rfl, fun _ τ hb ht hτ => R.mov (evt (hτ 0 _ rfl)) rfl ht⟩,
            ⟨⟨rfl, rfl, fun _ τ hb ht hτ => R.mov (evt (hτ 15 _ rfl)) rfl ht⟩,
            ⟨⟨rfl, rfl, fun _ τ hb ht hτ => R.idxN (i) (SC.sl (hτ 102 _ rfl)) (evoI (evt (hτ 103 _ rfl))) rfl (by first | omega | (simp only [List.length_map, List.length_append, List.length_cons, List.length_nil, List.length_take, List.length_drop, List.length_replicate]; omega) | (simp; omega)) ht (by decide)⟩,
            ⟨⟨rfl, rfl, fun _ τ hb ht hτ => R.ldE (hτ 104 _ rfl) (SC.sl (hτ 102 _ rfl)) (map_get! (l := l) (by first | omega | (simp only [List.length_map, List.length_append, List.length_cons, List.length_nil, List.length_take, List.length_drop, List.length_replicate]; omega) | (simp; omega))) rfl rfl rfl rfl ht⟩,
            ⟨⟨rfl, rfl, fun _ τ hb ht hτ => R.eqD (neg := true) (b' := (l[i]! != l[i]!)) (eqv_hdr _ _) rfl (evt (hτ 101 _ rfl)) (evt (hτ 105 _ rfl)) rfl rfl rfl rfl (rfl) ht⟩,
            ⟨⟨rfl, rfl, fun _ τ hb ht hτ => R.mov (evt (hτ 106 _ rfl)) rfl ht⟩,
            ⟨⟨rfl, ⟨_, 107, rfl, rfl, .inl ⟨_, rfl, gw (v := false) (bne_self_eq_false _) rfl⟩⟩, fun _ τ hb ht hτ => R.mov (evt (hτ 15 _ rfl)) rfl ht⟩,
            ⟨⟨rfl, ⟨_, 107, rfl, rfl, .inl ⟨_, rfl, gw (v := false) (bne_self_eq_false _) rfl⟩⟩, fun _ τ hb ht hτ => R.mov (evt (hτ 5 _ rfl)) rfl ht⟩,
            ⟨⟨rfl, ⟨_, 107, rfl, rfl, .inl ⟨_, rfl, gw (v := false) (bne_self_eq_false _) rfl⟩⟩, fun _ τ hb ht hτ => R.lssN (i) ((a.toNat % (l.length + 1))) (evt (hτ 108 _ rfl)) (evt (hτ 109 _ rfl)) ht⟩,
            ⟨⟨rfl, ⟨_, 107, rfl, rfl, .inl ⟨_, rfl, gw (v := false) (bne_self_eq_false _) rfl⟩⟩, fun _ τ hb ht hτ => R.mov (evt (hτ 110 _ rfl)) rfl ht⟩,
            ⟨⟨rfl, ⟨_, 111, rfl, rfl, .inl ⟨_, rfl, gw (v := false) (decide_eq_false hik) rfl⟩⟩, fun h => absurd h (by decide)⟩,
            ⟨⟨rfl, ⟨_, 111, rfl, rfl, .inl ⟨_, rfl, gw (v := false) (decide_eq_false hik) rfl⟩⟩, fun h => absurd h (by decide)⟩,
            ⟨⟨rfl, ⟨_, 111, rfl, rfl, .inl ⟨_, rfl, gw (v := false) (decide_eq_false hik) rfl⟩⟩, fun h => absurd h (by decide)⟩,
            ⟨⟨rfl, ⟨_, 111, rfl, rfl, .inl ⟨_, rfl, gw (v := false) (decide_eq_false hik) rfl⟩⟩, fun h => absurd h (by decide)⟩,
            ⟨⟨rfl, ⟨_, 111, rfl, rfl, .inl ⟨_, rfl, gw (v := false) (decide_eq_false hik) rfl⟩⟩, fun h => absurd h (by decide)⟩,
            ⟨⟨rfl, ⟨_, 111, rfl, rfl, .inl ⟨_, rfl, gw (v := false) (decide_eq_false hik) rfl⟩⟩, fun h => absurd h (by decide)⟩,
            ⟨⟨rfl, ⟨_, 111, rfl, rfl, .inl ⟨_, rfl, gw (v := false) (decide_eq_false hik) rfl⟩⟩, fun h => absurd h (by decide)⟩,
            ⟨⟨rfl, ⟨_, 111, rfl, rfl, .inl ⟨_, rfl, gw (v := false) (decide_eq_false hik) rfl⟩⟩, fun h => absurd h (by decide)⟩,
            ⟨⟨rfl, ⟨_, 111, rfl, rfl, .inl ⟨_, rfl, gw (v := false) (decide_eq_false hik) rfl⟩⟩, fun h => absurd h (by decide)⟩,
            ⟨⟨rfl, ⟨_, 107, rfl, rfl, .inl ⟨_, rfl, gw (v := false) (bne_self_eq_false _) rfl⟩⟩, fun _ τ hb ht hτ => R.pickF (evt (hτ 111 _ rfl)) (decide_eq_false hik) (show ev _ _ (.const (.bool false)) = some (.bool false) from rfl) rfl ht⟩,
            ⟨⟨rfl, rfl, fun _ τ hb ht hτ => R.pickF (evt (hτ 107 _ rfl)) (bne_self_eq_false _) (evt (hτ 121 _ rfl)) rfl ht⟩,
            ⟨⟨rfl, rfl, fun _ τ hb ht hτ => R.mov (evt (hτ 122 _ rfl)) rfl ht⟩,
            ⟨⟨rfl, ⟨_, 123, rfl, rfl, .inl ⟨_, rfl, gw (v := false) (rfl) rfl⟩⟩, fun _ τ hb ht hτ => R.mov (evt (hτ 15 _ rfl)) rfl ht⟩,
            ⟨⟨rfl, ⟨_, 123, rfl, rfl, .inl ⟨_, rfl, gw (v := false) (rfl) rfl⟩⟩, fun _ τ hb ht hτ => R.mov (evt (hτ 5 _ rfl)) rfl ht⟩,
            ⟨⟨rfl, ⟨_, 123, rfl, rfl, .inl ⟨_, rfl, gw (v := false) (rfl) rfl⟩⟩, fun _ τ hb ht hτ => R.geqN (i) ((a.toNat % (l.length + 1))) (evt (hτ 124 _ rfl)) (evt (hτ 125 _ rfl)) ht⟩,
            ⟨⟨rfl, ⟨_, 123, rfl, rfl, .inl ⟨_, rfl, gw (v := false) (rfl) rfl⟩⟩, fun _ τ hb ht hτ => R.mov (evt (hτ 126 _ rfl)) rfl ht⟩,
            ⟨⟨rfl, ⟨_, 127, rfl, rfl, .inl ⟨_, rfl, gw (v := true) (decide_eq_true (by omega)) rfl⟩⟩, fun _ τ hb ht hτ => R.mov (evt (hτ 13 _ rfl)) rfl ht⟩,
            ⟨⟨rfl, ⟨_, 127, rfl, rfl, .inl ⟨_, rfl, gw (v := true) (decide_eq_true (by omega)) rfl⟩⟩, fun _ τ hb ht hτ => R.mov (evt (hτ 15 _ rfl)) rfl ht⟩,
            ⟨⟨rfl, ⟨_, 127, rfl, rfl, .inl ⟨_, rfl, gw (v := true) (decide_eq_true (by omega)) rfl⟩⟩, fun _ τ hb ht hτ => R.mov (evt (hτ 5 _ rfl)) rfl ht⟩,
            ⟨⟨rfl, ⟨_, 127, rfl, rfl, .inl ⟨_, rfl, gw (v := true) (decide_eq_true (by omega)) rfl⟩⟩, fun _ τ hb ht hτ => R.subN (i) ((a.toNat % (l.length + 1))) (evt (hτ 129 _ rfl)) (evt (hτ 130 _ rfl)) (by first | omega | (simp only [List.length_map, List.length_append, List.length_cons, List.length_nil, List.length_take, List.length_drop, List.length_replicate]; omega) | (simp; omega)) (by first | omega | (simp only [List.length_map, List.length_append, List.length_cons, List.length_nil, List.length_take, List.length_drop, List.length_replicate]; omega) | (simp; omega)) ht⟩,
            ⟨⟨rfl, ⟨_, 127, rfl, rfl, .inl ⟨_, rfl, gw (v := true) (decide_eq_true (by omega)) rfl⟩⟩, fun _ τ hb ht hτ => R.idxN ((i - (a.toNat % (l.length + 1)))) (SC.sl (hτ 128 _ rfl)) (evoI (evt (hτ 131 _ rfl))) rfl (by first | omega | (simp only [List.length_map, List.length_append, List.length_cons, List.length_nil, List.length_take, List.length_drop, List.length_replicate]; omega) | (simp; omega)) ht (by decide)⟩,
            ⟨⟨rfl, ⟨_, 127, rfl, rfl, .inl ⟨_, rfl, gw (v := true) (decide_eq_true (by omega)) rfl⟩⟩, fun _ τ hb ht hτ => R.ldE (hτ 132 _ rfl) (SC.sl (hτ 128 _ rfl)) (map_get! (l := (l.drop (a.toNat % (l.length + 1)))) (by first | omega | (simp only [List.length_map, List.length_append, List.length_cons, List.length_nil, List.length_take, List.length_drop, List.length_replicate]; omega) | (simp; omega))) rfl rfl rfl rfl ht⟩,
            ⟨⟨rfl, ⟨_, 127, rfl, rfl, .inl ⟨_, rfl, gw (v := true) (decide_eq_true (by omega)) rfl⟩⟩, fun _ τ hb ht hτ => R.mov (evt (hτ 0 _ rfl)) rfl ht⟩,
            ⟨⟨rfl, ⟨_, 127, rfl, rfl, .inl ⟨_, rfl, gw (v := true) (decide_eq_true (by omega)) rfl⟩⟩, fun _ τ hb ht hτ => R.mov (evt (hτ 15 _ rfl)) rfl ht⟩,
            ⟨⟨rfl, ⟨_, 127, rfl, rfl, .inl ⟨_, rfl, gw (v := true) (decide_eq_true (by omega)) rfl⟩⟩, fun _ τ hb ht hτ => R.idxN (i) (SC.sl (hτ 134 _ rfl)) (evoI (evt (hτ 135 _ rfl))) rfl (by first | omega | (simp only [List.length_map, List.length_append, List.length_cons, List.length_nil, List.length_take, List.length_drop, List.length_replicate]; omega) | (simp; omega)) ht (by decide)⟩,
            ⟨⟨rfl, ⟨_, 127, rfl, rfl, .inl ⟨_, rfl, gw (v := true) (decide_eq_true (by omega)) rfl⟩⟩, fun _ τ hb ht hτ => R.ldE (hτ 136 _ rfl) (SC.sl (hτ 134 _ rfl)) (map_get! (l := l) (by first | omega | (simp only [List.length_map, List.length_append, List.length_cons, List.length_nil, List.length_take, List.length_drop, List.length_replicate]; omega) | (simp; omega))) rfl rfl rfl rfl ht⟩,
            ⟨⟨rfl, ⟨_, 127, rfl, rfl, .inl ⟨_, rfl, gw (v := true) (decide_eq_true (by omega)) rfl⟩⟩, fun _ τ hb ht hτ => R.eqD (neg := true) (b' := ((l.drop (a.toNat % (l.length + 1)))[i - (a.toNat % (l.length + 1))]! != l[i]!)) (eqv_hdr _ _) rfl (evt (hτ 133 _ rfl)) (evt (hτ 137 _ rfl)) rfl rfl rfl rfl (rfl) ht⟩,
            ⟨⟨rfl, ⟨_, 123, rfl, rfl, .inl ⟨_, rfl, gw (v := false) (rfl) rfl⟩⟩, fun _ τ hb ht hτ => R.pickT (evt (hτ 127 _ rfl)) (decide_eq_true (by omega)) (evt (hτ 138 _ rfl)) rfl ht⟩,
            ⟨⟨rfl, rfl, fun _ τ hb ht hτ => R.pickF (evt (hτ 123 _ rfl)) (rfl) (evt (hτ 139 _ rfl)) rfl ht⟩,
            trivial⟩⟩⟩⟩⟩⟩⟩⟩⟩⟩⟩⟩⟩⟩⟩⟩⟩⟩⟩⟩⟩⟩⟩⟩⟩⟩⟩⟩⟩⟩⟩⟩⟩⟩⟩⟩⟩⟩⟩⟩⟩⟩⟩, rfl, rfl, rfl⟩)
          rfl (bx' := []) rfl (n' := 167) rfl (⟨[0, 5, 9, 11, 13, 15, 140], [(0, _), (5, _), (9, _), (11, _), (13, _), (15, _), (140, _)], [], 167, rfl, rfl, rfl, ?_⟩)
        refine W.condF rfl (drop_ne l _ i hik) ?_
        refine W.skip ?_
        refine W.line (n := 3) (by decide) (its := [⟨96, _, true⟩, ⟨97, _, true⟩, ⟨15, _, true⟩]) (ks := []) (kk := []) (live := [0, 5, 9, 11, 13, 15]) (env' := [(0, _), (5, _), (9, _), (11, _), (13, _), (15, _)])
          (⟨Nat.le_of_ble_eq_true rfl, rfl,
            ⟨⟨rfl, rfl, fun _ τ hb ht hτ => R.mov (evt (hτ 15 _ rfl)) rfl ht⟩,
            ⟨⟨rfl, rfl, fun _ τ hb ht hτ => R.addN (i) (1) (evt (hτ 96 _ rfl)) (show ev _ _ (.const (.int .i64 1)) = some (.int ((1 : Nat) : Int)) from rfl) (by first | omega | (simp only [List.length_map, List.length_append, List.length_cons, List.length_nil, List.length_take, List.length_drop, List.length_replicate]; omega) | (simp; omega)) ht⟩,
            ⟨⟨rfl, rfl, fun _ τ hb ht hτ => R.asg (evt (hτ 97 _ rfl)) rfl ht⟩,
            trivial⟩⟩⟩, rfl, rfl, rfl⟩)
          rfl (bx' := []) rfl (n' := 167) rfl (⟨[0, 5, 9, 11, 13, 15], [(0, _), (5, _), (9, _), (11, _), (13, _), (15, _)], [], 167, rfl, rfl, rfl, ?_⟩)
        exact ⟨⟨(i + 1), (by first | omega | (simp only [List.length_map, List.length_append, List.length_cons, List.length_nil, List.length_take, List.length_drop, List.length_replicate]; omega) | (simp; omega))⟩, rfl, (by simp only []; omega)⟩
    · refine W.exit ?_
      refine W.seq ?_
      refine W.line (n := 3) (by decide) (its := [⟨141, _, true⟩, ⟨142, _, true⟩, ⟨16, _, true⟩]) (ks := []) (kk := []) (live := [0, 5, 16]) (env' := [(0, _), (5, _), (16, _)])
        (⟨Nat.le_of_ble_eq_true rfl, rfl,
          ⟨⟨rfl, rfl, fun _ τ hb ht hτ => R.mov (evt (hτ 0 _ rfl)) rfl ht⟩,
          ⟨⟨rfl, rfl, fun _ τ hb ht hτ => R.callG hC (linked_ok l hl (by omega)) (Bors.cons (Bor.pur (evt (hτ 141 _ rfl)) rfl rfl) Bors.nil) (FrsR.one (.int _)) ht⟩,
          ⟨⟨rfl, rfl, fun _ τ hb ht hτ => R.asg (evt (hτ 142 _ rfl)) rfl ht⟩,
          trivial⟩⟩⟩, rfl, rfl, rfl⟩)
        rfl (bx' := []) rfl (n' := 167) rfl (⟨[0, 5, 16], [(0, _), (5, _), (16, _)], [], 167, rfl, rfl, rfl, ?_⟩)
      refine W.seq ?_
      refine W.seq ?_
      refine W.line (n := 8) (by decide) (its := [⟨143, _, true⟩, ⟨144, _, true⟩, ⟨145, _, true⟩, ⟨146, _, true⟩, ⟨147, _, true⟩, ⟨148, _, true⟩, ⟨149, _, true⟩, ⟨150, _, true⟩]) (ks := []) (kk := []) (live := [0, 5, 16, 150]) (env' := [(0, _), (5, _), (16, _), (150, _)])
        (⟨Nat.le_of_ble_eq_true rfl, rfl,
          ⟨⟨rfl, rfl, fun _ τ hb ht hτ => R.mov (evt (hτ 0 _ rfl)) rfl ht⟩,
          ⟨⟨rfl, rfl, fun _ τ hb ht hτ => R.mov (evt (hτ 5 _ rfl)) rfl ht⟩,
          ⟨⟨rfl, rfl, fun _ τ hb ht hτ => R.slIN (0) ((a.toNat % (l.length + 1))) ((a.toNat % (l.length + 1))) (evt (hτ 143 _ rfl)) rfl (evoI (evt (hτ 144 _ rfl))) rfl rfl (by first | omega | (simp only [List.length_map, List.length_append, List.length_cons, List.length_nil, List.length_take, List.length_drop, List.length_replicate]; omega) | (simp; omega)) (by first | omega | (simp only [List.length_map, List.length_append, List.length_cons, List.length_nil, List.length_take, List.length_drop, List.length_replicate]; omega) | (simp; omega)) rfl (by rw [List.drop_zero, List.map_take]) ht⟩,
          ⟨⟨rfl, rfl, fun _ τ hb ht hτ => R.callG hC (linked_ok (l.take (a.toNat % (l.length + 1))) (hl.take _) (by simp only [List.length_take]; omega)) (Bors.cons (Bor.pur (evt (hτ 145 _ rfl)) rfl rfl) Bors.nil) (FrsR.one (.int _)) ht⟩,
          ⟨⟨rfl, rfl, fun _ τ hb ht hτ => R.mov (evt (hτ 16 _ rfl)) rfl ht⟩,
          ⟨⟨rfl, rfl, fun _ τ hb ht hτ => R.mov (evt (hτ 5 _ rfl)) rfl ht⟩,
          ⟨⟨rfl, rfl, fun _ τ hb ht hτ => R.minI (r := ((min (linkS l) (a.toNat % (l.length + 1)) : Nat) : Int)) (evt (hτ 147 _ rfl)) (evt (hτ 148 _ rfl)) (by omega) ht⟩,
          ⟨⟨rfl, rfl, fun _ τ hb ht hτ => R.neqN (linkS (l.take (a.toNat % (l.length + 1)))) (min (linkS l) (a.toNat % (l.length + 1))) (evt (hτ 146 _ rfl)) (evt (hτ 149 _ rfl)) ht⟩,
          trivial⟩⟩⟩⟩⟩⟩⟩⟩, rfl, rfl, rfl⟩)
        rfl (bx' := []) rfl (n' := 167) rfl (⟨[0, 5, 16, 150], [(0, _), (5, _), (16, _), (150, _)], [], 167, rfl, rfl, rfl, ?_⟩)
      refine W.condF rfl (decide_eq_false (fun h => h (link_take l _ hk))) ?_
      refine W.skip ?_
      refine W.seq ?_
      by_cases hnk : linkS l ≤ (a.toNat % (l.length + 1))
      · refine W.line (n := 17) (by decide) (its := [⟨151, _, true⟩, ⟨152, _, true⟩, ⟨153, _, true⟩, ⟨154, _, true⟩, ⟨155, .dead, false⟩, ⟨156, .dead, false⟩, ⟨157, .dead, false⟩, ⟨158, .dead, false⟩, ⟨159, .dead, false⟩, ⟨160, .dead, false⟩, ⟨161, .dead, false⟩, ⟨162, .dead, false⟩, ⟨163, _, true⟩, ⟨164, _, true⟩, ⟨165, _, true⟩, ⟨166, _, true⟩, ⟨4, _, true⟩]) (ks := []) (kk := []) (live := [4]) (env' := [(4, _)])
          (⟨Nat.le_of_ble_eq_true rfl, rfl,
            ⟨⟨rfl, rfl, fun _ τ hb ht hτ => R.mov (evt (hτ 16 _ rfl)) rfl ht⟩,
            ⟨⟨rfl, rfl, fun _ τ hb ht hτ => R.mov (evt (hτ 5 _ rfl)) rfl ht⟩,
            ⟨⟨rfl, rfl, fun _ τ hb ht hτ => R.leqN (linkS l) ((a.toNat % (l.length + 1))) (evt (hτ 151 _ rfl)) (evt (hτ 152 _ rfl)) ht⟩,
            ⟨⟨rfl, rfl, fun _ τ hb ht hτ => R.mov (evt (hτ 153 _ rfl)) rfl ht⟩,
            ⟨⟨rfl, ⟨_, 154, rfl, rfl, .inl ⟨_, rfl, gw (v := true) (decide_eq_true hnk) rfl⟩⟩, fun h => absurd h (by decide)⟩,
            ⟨⟨rfl, ⟨_, 154, rfl, rfl, .inl ⟨_, rfl, gw (v := true) (decide_eq_true hnk) rfl⟩⟩, fun h => absurd h (by decide)⟩,
            ⟨⟨rfl, ⟨_, 154, rfl, rfl, .inl ⟨_, rfl, gw (v := true) (decide_eq_true hnk) rfl⟩⟩, fun h => absurd h (by decide)⟩,
            ⟨⟨rfl, ⟨_, 154, rfl, rfl, .inl ⟨_, rfl, gw (v := true) (decide_eq_true hnk) rfl⟩⟩, fun h => absurd h (by decide)⟩,
            ⟨⟨rfl, ⟨_, 154, rfl, rfl, .inl ⟨_, rfl, gw (v := true) (decide_eq_true hnk) rfl⟩⟩, fun h => absurd h (by decide)⟩,
            ⟨⟨rfl, ⟨_, 154, rfl, rfl, .inl ⟨_, rfl, gw (v := true) (decide_eq_true hnk) rfl⟩⟩, fun h => absurd h (by decide)⟩,
            ⟨⟨rfl, ⟨_, 154, rfl, rfl, .inl ⟨_, rfl, gw (v := true) (decide_eq_true hnk) rfl⟩⟩, fun h => absurd h (by decide)⟩,
            ⟨⟨rfl, ⟨_, 154, rfl, rfl, .inl ⟨_, rfl, gw (v := true) (decide_eq_true hnk) rfl⟩⟩, fun h => absurd h (by decide)⟩,
            ⟨⟨rfl, rfl, fun _ τ hb ht hτ => R.pickT (evt (hτ 154 _ rfl)) (decide_eq_true hnk) (show ev _ _ (.const (.bool true)) = some (.bool true) from rfl) rfl ht⟩,
            ⟨⟨rfl, rfl, fun _ τ hb ht hτ => R.mov (evt (hτ 163 _ rfl)) rfl ht⟩,
            ⟨⟨rfl, ⟨_, 164, rfl, rfl, .inl ⟨_, rfl, gw (v := true) (rfl) rfl⟩⟩, fun _ τ hb ht hτ => R.callG hC (works_ok) Bors.nil (FrsR.one (.bool _)) ht⟩,
            ⟨⟨rfl, rfl, fun _ τ hb ht hτ => R.pickT (evt (hτ 164 _ rfl)) (rfl) (evt (hτ 165 _ rfl)) rfl ht⟩,
            ⟨⟨rfl, rfl, fun _ τ hb ht hτ => R.asg (evt (hτ 166 _ rfl)) rfl ht⟩,
            trivial⟩⟩⟩⟩⟩⟩⟩⟩⟩⟩⟩⟩⟩⟩⟩⟩⟩, rfl, rfl, rfl⟩)
          rfl (bx' := []) rfl (n' := 167) rfl (⟨[4], [(4, _)], [], 167, rfl, rfl, rfl, ?_⟩)
        refine W.ret ?_
        exact Ends.one' (.inr rfl) rfl (rfl) rfl rfl trivial
      · refine W.line (n := 17) (by decide) (its := [⟨151, _, true⟩, ⟨152, _, true⟩, ⟨153, _, true⟩, ⟨154, _, true⟩, ⟨155, _, true⟩, ⟨156, _, true⟩, ⟨157, _, true⟩, ⟨158, _, true⟩, ⟨159, _, true⟩, ⟨160, _, true⟩, ⟨161, _, true⟩, ⟨162, _, true⟩, ⟨163, _, true⟩, ⟨164, _, true⟩, ⟨165, _, true⟩, ⟨166, _, true⟩, ⟨4, _, true⟩]) (ks := []) (kk := []) (live := [4]) (env' := [(4, _)])
          (⟨Nat.le_of_ble_eq_true rfl, rfl,
            ⟨⟨rfl, rfl, fun _ τ hb ht hτ => R.mov (evt (hτ 16 _ rfl)) rfl ht⟩,
            ⟨⟨rfl, rfl, fun _ τ hb ht hτ => R.mov (evt (hτ 5 _ rfl)) rfl ht⟩,
            ⟨⟨rfl, rfl, fun _ τ hb ht hτ => R.leqN (linkS l) ((a.toNat % (l.length + 1))) (evt (hτ 151 _ rfl)) (evt (hτ 152 _ rfl)) ht⟩,
            ⟨⟨rfl, rfl, fun _ τ hb ht hτ => R.mov (evt (hτ 153 _ rfl)) rfl ht⟩,
            ⟨⟨rfl, ⟨_, 154, rfl, rfl, .inl ⟨_, rfl, gw (v := false) (decide_eq_false hnk) rfl⟩⟩, fun _ τ hb ht hτ => R.mov (evt (hτ 0 _ rfl)) rfl ht⟩,
            ⟨⟨rfl, ⟨_, 154, rfl, rfl, .inl ⟨_, rfl, gw (v := false) (decide_eq_false hnk) rfl⟩⟩, fun _ τ hb ht hτ => R.mov (evt (hτ 5 _ rfl)) rfl ht⟩,
            ⟨⟨rfl, ⟨_, 154, rfl, rfl, .inl ⟨_, rfl, gw (v := false) (decide_eq_false hnk) rfl⟩⟩, fun _ τ hb ht hτ => R.slIN ((a.toNat % (l.length + 1))) (l.length) ((l.length - (a.toNat % (l.length + 1)))) (evt (hτ 155 _ rfl)) (evoI (evt (hτ 156 _ rfl))) rfl rfl (by simp) (by first | omega | (simp only [List.length_map, List.length_append, List.length_cons, List.length_nil, List.length_take, List.length_drop, List.length_replicate]; omega) | (simp; omega)) (by first | omega | (simp only [List.length_map, List.length_append, List.length_cons, List.length_nil, List.length_take, List.length_drop, List.length_replicate]; omega) | (simp; omega)) rfl (rest_map) ht⟩,
            ⟨⟨rfl, ⟨_, 154, rfl, rfl, .inl ⟨_, rfl, gw (v := false) (decide_eq_false hnk) rfl⟩⟩, fun _ τ hb ht hτ => R.callG hC (linked_ok (l.drop (a.toNat % (l.length + 1))) (hl.drop _) (by simp only [List.length_drop]; omega)) (Bors.cons (Bor.pur (evt (hτ 157 _ rfl)) rfl rfl) Bors.nil) (FrsR.one (.int _)) ht⟩,
            ⟨⟨rfl, ⟨_, 154, rfl, rfl, .inl ⟨_, rfl, gw (v := false) (decide_eq_false hnk) rfl⟩⟩, fun _ τ hb ht hτ => R.mov (evt (hτ 16 _ rfl)) rfl ht⟩,
            ⟨⟨rfl, ⟨_, 154, rfl, rfl, .inl ⟨_, rfl, gw (v := false) (decide_eq_false hnk) rfl⟩⟩, fun _ τ hb ht hτ => R.mov (evt (hτ 5 _ rfl)) rfl ht⟩,
            ⟨⟨rfl, ⟨_, 154, rfl, rfl, .inl ⟨_, rfl, gw (v := false) (decide_eq_false hnk) rfl⟩⟩, fun _ τ hb ht hτ => R.subN (linkS l) ((a.toNat % (l.length + 1))) (evt (hτ 159 _ rfl)) (evt (hτ 160 _ rfl)) (by first | omega | (simp only [List.length_map, List.length_append, List.length_cons, List.length_nil, List.length_take, List.length_drop, List.length_replicate]; omega) | (simp; omega)) (by first | omega | (simp only [List.length_map, List.length_append, List.length_cons, List.length_nil, List.length_take, List.length_drop, List.length_replicate]; omega) | (simp; omega)) ht⟩,
            ⟨⟨rfl, ⟨_, 154, rfl, rfl, .inl ⟨_, rfl, gw (v := false) (decide_eq_false hnk) rfl⟩⟩, fun _ τ hb ht hτ => R.eqlN (linkS (l.drop (a.toNat % (l.length + 1)))) ((linkS l - (a.toNat % (l.length + 1)))) (evt (hτ 158 _ rfl)) (evt (hτ 161 _ rfl)) ht⟩,
            ⟨⟨rfl, rfl, fun _ τ hb ht hτ => R.pickF (evt (hτ 154 _ rfl)) (decide_eq_false hnk) (evt (hτ 162 _ rfl)) rfl ht⟩,
            ⟨⟨rfl, rfl, fun _ τ hb ht hτ => R.mov (evt (hτ 163 _ rfl)) rfl ht⟩,
            ⟨⟨rfl, ⟨_, 164, rfl, rfl, .inl ⟨_, rfl, gw (v := true) (decide_eq_true (link_drop l _ hnk)) rfl⟩⟩, fun _ τ hb ht hτ => R.callG hC (works_ok) Bors.nil (FrsR.one (.bool _)) ht⟩,
            ⟨⟨rfl, rfl, fun _ τ hb ht hτ => R.pickT (evt (hτ 164 _ rfl)) (decide_eq_true (link_drop l _ hnk)) (evt (hτ 165 _ rfl)) rfl ht⟩,
            ⟨⟨rfl, rfl, fun _ τ hb ht hτ => R.asg (evt (hτ 166 _ rfl)) rfl ht⟩,
            trivial⟩⟩⟩⟩⟩⟩⟩⟩⟩⟩⟩⟩⟩⟩⟩⟩⟩, rfl, rfl, rfl⟩)
          rfl (bx' := []) rfl (n' := 167) rfl (⟨[4], [(4, _)], [], 167, rfl, rfl, rfl, ?_⟩)
        refine W.ret ?_
        exact Ends.one' (.inr rfl) rfl (rfl) rfl rfl trivial

end Go.Sx
