/- Proved: what functions of the given program compute (used by the theorem of this claim). Conditions: none but those that each theorem states. -/
import Derived.Test.YtokkedaeemebaaaDoorGp4
import Derived.Test.YtokkedaeemebaaaDoorGapLaw
set_option linter.unusedVariables false
set_option linter.unusedSimpArgs false
set_option linter.unnecessarySimpa false
namespace Go.Sx
open Go.Proofs
theorem script_ok (seed : List UInt8) (i : Int) (hs0 : seed.length ≤ 1000) (hi0 : -9223372036854775808 ≤ i ∧ i ≤ 9223372036854775807) (hi : 0 ≤ i) : Fn Tryd.prog gl 8 [.sl none 1 (seed.map D.u8), .int i] (.sl (some 5) 1 ((scriptS seed i).map D.u8)) := by
  refine Fn.of (n := 18) Tryd.func8 rfl rfl rfl (Nat.le_of_ble_eq_true rfl) fun C hC => ?_
  have hsl := sumS_len (seed ++ leB (n32 i) 4)
  refine W.seq ?_
  refine W.line (n := 1) (by decide) (its := [⟨4, _, true⟩]) (ks := []) (kk := []) (live := [0, 1]) (env' := [(0, _), (1, _)])
    (⟨Nat.le_of_ble_eq_true rfl, rfl,
      ⟨⟨rfl, rfl, fun _ τ hb ht hτ => R.asg (show ev _ _ (.const (.slice none 0 0)) = some (.nils) from rfl) rfl ht⟩,
      trivial⟩, rfl, rfl, rfl⟩)
    rfl (bx' := []) rfl (n' := 18) rfl (⟨[0, 1], [(0, _), (1, _)], [], 18, rfl, rfl, rfl, ?_⟩)
  refine W.seq ?_
  refine W.seq ?_
  refine W.line (n := 2) (by decide) (its := [⟨6, _, true⟩, ⟨7, _, true⟩]) (ks := []) (kk := []) (live := [0, 1, 7]) (env' := [(0, _), (1, _), (7, _)])
    (⟨Nat.le_of_ble_eq_true rfl, rfl,
      ⟨⟨rfl, rfl, fun _ τ hb ht hτ => R.mov (evt (hτ 1 _ rfl)) rfl ht⟩,
      ⟨⟨rfl, rfl, fun _ τ hb ht hτ => R.bin (evt (hτ 6 _ rfl)) (show ev _ _ (.const (.int .i64 0)) = some (.int ((0 : Nat) : Int)) from rfl) rfl trivial ht⟩,
      trivial⟩⟩, rfl, rfl, rfl⟩)
    rfl (bx' := []) rfl (n' := 18) rfl (⟨[0, 1, 7], [(0, _), (1, _), (7, _)], [], 18, rfl, rfl, rfl, ?_⟩)
  refine W.condF rfl (decide_eq_false (by omega)) ?_
  refine W.skip ?_
  refine W.seq ?_
  refine W.line (n := 9) (by decide) (its := [⟨8, _, true⟩, ⟨9, _, true⟩, ⟨10, _, true⟩, ⟨11, _, true⟩, ⟨12, _, true⟩, ⟨13, _, true⟩, ⟨14, _, true⟩]) (ks := []) (kk := []) (live := [14]) (env' := [(14, _)])
    (⟨Nat.le_of_ble_eq_true rfl, rfl,
      ⟨⟨rfl, rfl, fun _ τ hb ht hτ => R.mov (evt (hτ 0 _ rfl)) rfl ht⟩,
      ⟨⟨rfl, rfl, fun _ τ hb ht hτ => R.callG hC (bclone_ok seed (by omega)) (Bors.cons (Bor.pur (evt (hτ 8 _ rfl)) rfl rfl) Bors.nil) (FrsR.one (.sl _ _ _ (frs_map fun _ => .u8 _))) ht⟩,
      ⟨⟨rfl, rfl, fun _ τ hb ht hτ => R.mov (evt (hτ 1 _ rfl)) rfl ht⟩,
      ⟨⟨rfl, rfl, fun _ τ hb ht hτ => R.conv (evt (hτ 10 _ rfl)) rfl ht⟩,
      ⟨⟨rfl, rfl, fun _ τ hb ht hτ => R.conv (evt (hτ 11 _ rfl)) rfl ht⟩,
      ⟨⟨rfl, rfl, fun _ τ hb ht hτ => R.callG hC (put_ok seed (n32 i) (by omega)) (Bors.cons (Bor.sc (SC.sl (hτ 9 _ rfl)) (brw_map (fun _ => rfl))) (Bors.cons (Bor.pur (evt (hτ 12 _ rfl)) rfl rfl) (Bors.cons (Bor.pur (show ev _ _ (.const (.int .i64 4)) = some (.int ((4 : Nat) : Int)) from rfl) rfl rfl) Bors.nil))) (FrsR.one (.sl _ _ _ (frs_map fun _ => .u8 _))) ht⟩,
      ⟨⟨rfl, rfl, fun _ τ hb ht hτ => R.callG hC (sum_ok (seed ++ leB (n32 i) 4) (by have := leB_len (n32 i) 4; simp only [List.length_append]; omega)) (Bors.cons (Bor.sc (SC.sl (hτ 13 _ rfl)) (brw_map (fun _ => rfl))) Bors.nil) (FrsR.one (frs_hash _)) ht⟩,
      trivial⟩⟩⟩⟩⟩⟩⟩, rfl, rfl, rfl⟩)
    rfl (bx' := []) rfl (n' := 18) rfl (⟨rfl, _, R.alloc rfl (Nat.le_of_ble_eq_true rfl), ⟨rfl, _, R.stZ (show Sg.get _ 5 = some _ from rfl) (show Sg.box _ 5 = some _ from rfl) rfl (evt (show Sg.get _ 14 = some _ from rfl)) (by rfl) (by rfl) (by rfl) (by rfl) rfl, ⟨[5], [(5, _)], [(5, .var _)], 18, rfl, rfl, rfl, ?_⟩⟩⟩)
  refine W.seq ?_
  refine W.line (n := 4) (by decide) (its := [⟨15, _, true⟩, ⟨16, _, true⟩, ⟨17, _, true⟩, ⟨4, _, true⟩]) (ks := [(2, 15), (3, 17)]) (kk := [(2, 15), (3, 17)]) (live := [4]) (env' := [(4, _)])
    (⟨Nat.le_of_ble_eq_true rfl, rfl,
      ⟨⟨rfl, rfl, fun _ τ hb ht hτ => R.bslE (z := 1) (.cons (show ev _ _ (.const (.int .u8 0)) = some (.u8 0) from rfl) (.cons (show ev _ _ (.const (.int .u8 20)) = some (.u8 20) from rfl) .nil)) ⟨⟨rfl, rfl, rfl⟩, ⟨⟨rfl, rfl, rfl⟩, trivial⟩⟩ rfl ht (by decide)⟩,
      ⟨⟨rfl, rfl, fun _ τ hb ht hτ => R.slAN (0) (20) (20) (hτ 5 _ rfl) (hb 5 _ rfl) rfl rfl (evoI (show ev _ _ (.const (.int .i64 20)) = some (.int ((20 : Nat) : Int)) from rfl)) rfl rfl (by first | omega | (simp only [List.length_map, List.length_append, List.length_cons, List.length_nil, List.length_take, List.length_drop, List.length_replicate]; omega) | (simp; omega)) (by first | omega | (simp only [List.length_map, List.length_append, List.length_cons, List.length_nil, List.length_take, List.length_drop, List.length_replicate]; omega) | (simp; omega)) rfl ht⟩,
      ⟨⟨rfl, rfl, fun _ τ hb ht hτ => R.appE (Or.inl rfl) (hτ 15 _ rfl) (SrcO.sc (SC.va (hτ 16 _ rfl) (hb 5 _ rfl) rfl (by first | omega | (simp only [List.length_map, List.length_append, List.length_cons, List.length_nil, List.length_take, List.length_drop, List.length_replicate]; omega) | (simp; omega))) (pur_part (fun _ => rfl))) (show _ = (scriptS seed i).map D.u8 by simp only [scriptS, List.map_append, List.map_take, List.drop_zero]; rfl) (by have := sumS_len (seed ++ leB (n32 i) 4); simp only [List.length_map, List.length_take, List.length_drop, List.length_cons, List.length_nil]; omega) ht (by decide) (by decide)⟩,
      ⟨⟨rfl, rfl, fun _ τ hb ht hτ => R.asgO (hτ 17 _ rfl) rfl ht (by decide)⟩,
      trivial⟩⟩⟩⟩, rfl, rfl, rfl⟩)
    rfl (bx' := [(5, .var _)]) rfl (n' := 18) rfl (⟨[4], [(4, _)], [(5, .var _)], 18, rfl, rfl, rfl, ?_⟩)
  refine W.ret ?_
  exact Ends.one' (.inr rfl) rfl (rfl) rfl rfl trivial

theorem script_neg (seed : List UInt8) (i : Int) (hs0 : seed.length ≤ 1000) (hi0 : -9223372036854775808 ≤ i ∧ i ≤ 9223372036854775807) (hi : i < 0) : Fn Tryd.prog gl 8 [.sl none 1 (seed.map D.u8), .int i] (.nils) := by
  refine Fn.of (n := 18) Tryd.func8 rfl rfl rfl (Nat.le_of_ble_eq_true rfl) fun C hC => ?_
  refine W.seq ?_
  refine W.line (n := 1) (by decide) (its := [⟨4, _, true⟩]) (ks := []) (kk := []) (live := [0, 1]) (env' := [(0, _), (1, _)])
    (⟨Nat.le_of_ble_eq_true rfl, rfl,
      ⟨⟨rfl, rfl, fun _ τ hb ht hτ => R.asg (show ev _ _ (.const (.slice none 0 0)) = some (.nils) from rfl) rfl ht⟩,
      trivial⟩, rfl, rfl, rfl⟩)
    rfl (bx' := []) rfl (n' := 18) rfl (⟨[0, 1], [(0, _), (1, _)], [], 18, rfl, rfl, rfl, ?_⟩)
  refine W.seq ?_
  refine W.seq ?_
  refine W.line (n := 2) (by decide) (its := [⟨6, _, true⟩, ⟨7, _, true⟩]) (ks := []) (kk := []) (live := [0, 1, 7]) (env' := [(0, _), (1, _), (7, _)])
    (⟨Nat.le_of_ble_eq_true rfl, rfl,
      ⟨⟨rfl, rfl, fun _ τ hb ht hτ => R.mov (evt (hτ 1 _ rfl)) rfl ht⟩,
      ⟨⟨rfl, rfl, fun _ τ hb ht hτ => R.bin (evt (hτ 6 _ rfl)) (show ev _ _ (.const (.int .i64 0)) = some (.int ((0 : Nat) : Int)) from rfl) rfl trivial ht⟩,
      trivial⟩⟩, rfl, rfl, rfl⟩)
    rfl (bx' := []) rfl (n' := 18) rfl (⟨[0, 1, 7], [(0, _), (1, _), (7, _)], [], 18, rfl, rfl, rfl, ?_⟩)
  refine W.condT rfl (decide_eq_true (by omega)) ?_
  refine W.seq ?_
  refine W.line (n := 1) (by decide) (its := [⟨4, _, true⟩]) (ks := []) (kk := []) (live := [4]) (env' := [(4, _)])
    (⟨Nat.le_of_ble_eq_true rfl, rfl,
      ⟨⟨rfl, rfl, fun _ τ hb ht hτ => R.asg (show ev _ _ (.const (.slice none 0 0)) = some (.nils) from rfl) rfl ht⟩,
      trivial⟩, rfl, rfl, rfl⟩)
    rfl (bx' := []) rfl (n' := 18) rfl (⟨[4], [(4, _)], [], 18, rfl, rfl, rfl, ?_⟩)
  refine W.ret ?_
  exact Ends.one' (.inr rfl) rfl (rfl) rfl rfl trivial

theorem rscript_ok (seed : List UInt8) (i : Int) (hs0 : seed.length ≤ 1000) (hi0 : -9223372036854775808 ≤ i ∧ i ≤ 9223372036854775807) (hi : 0 ≤ i) : Fn Tryd.prog gl 9 [.sl none 1 (seed.map D.u8), .int i] (.sl (some 5) 1 ((scriptR seed i).map D.u8)) := by
  refine Fn.of (n := 21) Tryd.func9 rfl rfl rfl (Nat.le_of_ble_eq_true rfl) fun C hC => ?_
  have hsl := sumR_len (seed ++ lowB (n32 i) 4)
  refine W.seq ?_
  refine W.line (n := 1) (by decide) (its := [⟨4, _, true⟩]) (ks := []) (kk := []) (live := [0, 1]) (env' := [(0, _), (1, _)])
    (⟨Nat.le_of_ble_eq_true rfl, rfl,
      ⟨⟨rfl, rfl, fun _ τ hb ht hτ => R.asg (show ev _ _ (.const (.slice none 0 0)) = some (.nils) from rfl) rfl ht⟩,
      trivial⟩, rfl, rfl, rfl⟩)
    rfl (bx' := []) rfl (n' := 21) rfl (⟨[0, 1], [(0, _), (1, _)], [], 21, rfl, rfl, rfl, ?_⟩)
  refine W.seq ?_
  refine W.seq ?_
  refine W.line (n := 2) (by decide) (its := [⟨7, _, true⟩, ⟨8, _, true⟩]) (ks := []) (kk := []) (live := [0, 1, 8]) (env' := [(0, _), (1, _), (8, _)])
    (⟨Nat.le_of_ble_eq_true rfl, rfl,
      ⟨⟨rfl, rfl, fun _ τ hb ht hτ => R.mov (evt (hτ 1 _ rfl)) rfl ht⟩,
      ⟨⟨rfl, rfl, fun _ τ hb ht hτ => R.bin (evt (hτ 7 _ rfl)) (show ev _ _ (.const (.int .i64 0)) = some (.int ((0 : Nat) : Int)) from rfl) rfl trivial ht⟩,
      trivial⟩⟩, rfl, rfl, rfl⟩)
    rfl (bx' := []) rfl (n' := 21) rfl (⟨[0, 1, 8], [(0, _), (1, _), (8, _)], [], 21, rfl, rfl, rfl, ?_⟩)
  refine W.condF rfl (decide_eq_false (by omega)) ?_
  refine W.skip ?_
  refine W.seq ?_
  refine W.line (n := 1) (by decide) (its := [⟨5, _, true⟩]) (ks := []) (kk := []) (live := [0, 1, 5]) (env' := [(0, _), (1, _), (5, _)])
    (⟨Nat.le_of_ble_eq_true rfl, rfl,
      ⟨⟨rfl, rfl, fun _ τ hb ht hτ => R.asg (show ev _ _ (.const (.slice none 0 0)) = some (.nils) from rfl) rfl ht⟩,
      trivial⟩, rfl, rfl, rfl⟩)
    rfl (bx' := []) rfl (n' := 21) rfl (⟨[0, 1, 5], [(0, _), (1, _), (5, _)], [], 21, rfl, rfl, rfl, ?_⟩)
  refine W.seq ?_
  refine W.line (n := 4) (by decide) (its := [⟨9, _, true⟩, ⟨10, _, true⟩, ⟨11, _, true⟩, ⟨5, _, true⟩]) (ks := [(3, 11)]) (kk := [(3, 11)]) (live := [1, 5]) (env' := [(1, _), (5, _)])
    (⟨Nat.le_of_ble_eq_true rfl, rfl,
      ⟨⟨rfl, rfl, fun _ τ hb ht hτ => R.mov (evt (hτ 5 _ rfl)) rfl ht⟩,
      ⟨⟨rfl, rfl, fun _ τ hb ht hτ => R.mov (evt (hτ 0 _ rfl)) rfl ht⟩,
      ⟨⟨rfl, rfl, fun _ τ hb ht hτ => R.appN (evt (hτ 9 _ rfl)) (SrcO.sc (SC.sl (hτ 10 _ rfl)) (pur_map (fun _ => rfl))) (by first | omega | (simp only [List.length_map, List.length_append, List.length_cons, List.length_nil, List.length_take, List.length_drop, List.length_replicate]; omega) | (simp; omega)) ht (by decide)⟩,
      ⟨⟨rfl, rfl, fun _ τ hb ht hτ => R.asgO (hτ 11 _ rfl) rfl ht (by decide)⟩,
      trivial⟩⟩⟩⟩, rfl, rfl, rfl⟩)
    rfl (bx' := []) rfl (n' := 21) rfl (⟨[1, 5], [(1, _), (5, _)], [], 21, rfl, rfl, rfl, ?_⟩)
  refine W.seq ?_
  refine W.line (n := 8) (by decide) (its := [⟨12, _, true⟩, ⟨13, _, true⟩, ⟨14, _, true⟩, ⟨15, _, true⟩, ⟨16, _, true⟩, ⟨17, _, true⟩]) (ks := []) (kk := []) (live := [17]) (env' := [(17, _)])
    (⟨Nat.le_of_ble_eq_true rfl, rfl,
      ⟨⟨rfl, rfl, fun _ τ hb ht hτ => R.al (hτ 5 _ rfl) ht (by decide)⟩,
      ⟨⟨rfl, rfl, fun _ τ hb ht hτ => R.mov (evt (hτ 1 _ rfl)) rfl ht⟩,
      ⟨⟨rfl, rfl, fun _ τ hb ht hτ => R.conv (evt (hτ 13 _ rfl)) rfl ht⟩,
      ⟨⟨rfl, rfl, fun _ τ hb ht hτ => R.conv (evt (hτ 14 _ rfl)) rfl ht⟩,
      ⟨⟨rfl, rfl, fun _ τ hb ht hτ => R.callG hC (rput_ok seed (n32 i) (by omega)) (Bors.cons (Bor.sc (SC.al (hτ 12 _ rfl) (hτ 5 _ rfl)) (brw_map (fun _ => rfl))) (Bors.cons (Bor.pur (evt (hτ 15 _ rfl)) rfl rfl) (Bors.cons (Bor.pur (show ev _ _ (.const (.int .i64 4)) = some (.int ((4 : Nat) : Int)) from rfl) rfl rfl) Bors.nil))) (FrsR.one (.sl _ _ _ (frs_map fun _ => .u8 _))) ht⟩,
      ⟨⟨rfl, rfl, fun _ τ hb ht hτ => R.callG hC (rsum_ok (seed ++ lowB (n32 i) 4) (by have : (lowB (n32 i) 4).length = 4 := by { rw [lowB_eq, leB_len] }; simp only [List.length_append]; omega)) (Bors.cons (Bor.sc (SC.sl (hτ 16 _ rfl)) (brw_map (fun _ => rfl))) Bors.nil) (FrsR.one (frs_hash _)) ht⟩,
      trivial⟩⟩⟩⟩⟩⟩, rfl, rfl, rfl⟩)
    rfl (bx' := []) rfl (n' := 21) rfl (⟨rfl, _, R.alloc rfl (Nat.le_of_ble_eq_true rfl), ⟨rfl, _, R.stZ (show Sg.get _ 6 = some _ from rfl) (show Sg.box _ 6 = some _ from rfl) rfl (evt (show Sg.get _ 17 = some _ from rfl)) (by rfl) (by rfl) (by rfl) (by rfl) rfl, ⟨[6], [(6, _)], [(6, .var _)], 21, rfl, rfl, rfl, ?_⟩⟩⟩)
  refine W.seq ?_
  refine W.line (n := 4) (by decide) (its := [⟨18, _, true⟩, ⟨19, _, true⟩, ⟨20, _, true⟩, ⟨4, _, true⟩]) (ks := [(2, 18), (3, 20)]) (kk := [(2, 18), (3, 20)]) (live := [4]) (env' := [(4, _)])
    (⟨Nat.le_of_ble_eq_true rfl, rfl,
      ⟨⟨rfl, rfl, fun _ τ hb ht hτ => R.bslE (z := 1) (.cons (show ev _ _ (.const (.int .u8 0)) = some (.u8 0) from rfl) (.cons (show ev _ _ (.const (.int .u8 20)) = some (.u8 20) from rfl) .nil)) ⟨⟨rfl, rfl, rfl⟩, ⟨⟨rfl, rfl, rfl⟩, trivial⟩⟩ rfl ht (by decide)⟩,
      ⟨⟨rfl, rfl, fun _ τ hb ht hτ => R.slAN (0) (20) (20) (hτ 6 _ rfl) (hb 6 _ rfl) rfl rfl (evoI (show ev _ _ (.const (.int .i64 20)) = some (.int ((20 : Nat) : Int)) from rfl)) rfl rfl (by first | omega | (simp only [List.length_map, List.length_append, List.length_cons, List.length_nil, List.length_take, List.length_drop, List.length_replicate]; omega) | (simp; omega)) (by first | omega | (simp only [List.length_map, List.length_append, List.length_cons, List.length_nil, List.length_take, List.length_drop, List.length_replicate]; omega) | (simp; omega)) rfl ht⟩,
      ⟨⟨rfl, rfl, fun _ τ hb ht hτ => R.appE (Or.inl rfl) (hτ 18 _ rfl) (SrcO.sc (SC.va (hτ 19 _ rfl) (hb 6 _ rfl) rfl (by first | omega | (simp only [List.length_map, List.length_append, List.length_cons, List.length_nil, List.length_take, List.length_drop, List.length_replicate]; omega) | (simp; omega))) (pur_part (fun _ => rfl))) (show _ = (scriptR seed i).map D.u8 by simp only [scriptR, List.map_append, List.map_take, List.drop_zero]; rfl) (by have := sumR_len (seed ++ lowB (n32 i) 4); simp only [List.length_map, List.length_take, List.length_drop, List.length_cons, List.length_nil]; omega) ht (by decide) (by decide)⟩,
      ⟨⟨rfl, rfl, fun _ τ hb ht hτ => R.asgO (hτ 20 _ rfl) rfl ht (by decide)⟩,
      trivial⟩⟩⟩⟩, rfl, rfl, rfl⟩)
    rfl (bx' := [(6, .var _)]) rfl (n' := 21) rfl (⟨[4], [(4, _)], [(6, .var _)], 21, rfl, rfl, rfl, ?_⟩)
  refine W.ret ?_
  exact Ends.one' (.inr rfl) rfl (rfl) rfl rfl trivial

theorem rscript_neg (seed : List UInt8) (i : Int) (hs0 : seed.length ≤ 1000) (hi0 : -9223372036854775808 ≤ i ∧ i ≤ 9223372036854775807) (hi : i < 0) : Fn Tryd.prog gl 9 [.sl none 1 (seed.map D.u8), .int i] (.nils) := by
  refine Fn.of (n := 21) Tryd.func9 rfl rfl rfl (Nat.le_of_ble_eq_true rfl) fun C hC => ?_
  refine W.seq ?_
  refine W.line (n := 1) (by decide) (its := [⟨4, _, true⟩]) (ks := []) (kk := []) (live := [0, 1]) (env' := [(0, _), (1, _)])
    (⟨Nat.le_of_ble_eq_true rfl, rfl,
      ⟨⟨rfl, rfl, fun _ τ hb ht hτ => R.asg (show ev _ _ (.const (.slice none 0 0)) = some (.nils) from rfl) rfl ht⟩,
      trivial⟩, rfl, rfl, rfl⟩)
    rfl (bx' := []) rfl (n' := 21) rfl (⟨[0, 1], [(0, _), (1, _)], [], 21, rfl, rfl, rfl, ?_⟩)
  refine W.seq ?_
  refine W.seq ?_
  refine W.line (n := 2) (by decide) (its := [⟨7, _, true⟩, ⟨8, _, true⟩]) (ks := []) (kk := []) (live := [0, 1, 8]) (env' := [(0, _), (1, _), (8, _)])
    (⟨Nat.le_of_ble_eq_true rfl, rfl,
      ⟨⟨rfl, rfl, fun _ τ hb ht hτ => R.mov (evt (hτ 1 _ rfl)) rfl ht⟩,
      ⟨⟨rfl, rfl, fun _ τ hb ht hτ => R.bin (evt (hτ 7 _ rfl)) (show ev _ _ (.const (.int .i64 0)) = some (.int ((0 : Nat) : Int)) from rfl) rfl trivial ht⟩,
      trivial⟩⟩, rfl, rfl, rfl⟩)
    rfl (bx' := []) rfl (n' := 21) rfl (⟨[0, 1, 8], [(0, _), (1, _), (8, _)], [], 21, rfl, rfl, rfl, ?_⟩)
  refine W.condT rfl (decide_eq_true (by omega)) ?_
  refine W.seq ?_
  refine W.line (n := 1) (by decide) (its := [⟨4, _, true⟩]) (ks := []) (kk := []) (live := [4]) (env' := [(4, _)])
    (⟨Nat.le_of_ble_eq_true rfl, rfl,
      ⟨⟨rfl, rfl, fun _ τ hb ht hτ => R.asg (show ev _ _ (.const (.slice none 0 0)) = some (.nils) from rfl) rfl ht⟩,
      trivial⟩, rfl, rfl, rfl⟩)
    rfl (bx' := []) rfl (n' := 21) rfl (⟨[4], [(4, _)], [], 21, rfl, rfl, rfl, ?_⟩)
  refine W.ret ?_
  exact Ends.one' (.inr rfl) rfl (rfl) rfl rfl trivial

theorem ghash_ok (seed : List UInt8) (i : Int) (hs0 : seed.length ≤ 1000) (hi0 : -9223372036854775808 ≤ i ∧ i ≤ 9223372036854775807) (hi : 0 ≤ i) : Fn Tryd.prog gl 10 [.sl none 1 (seed.map D.u8), .int i] (hashD (sumS (scriptS seed i))) := by
  refine Fn.of (n := 14) Tryd.func10 rfl rfl rfl (Nat.le_of_ble_eq_true rfl) fun C hC => ?_
  refine W.seq ?_
  refine W.line (n := 1) (by decide) (its := []) (ks := []) (kk := []) (live := [0, 1]) (env' := [(0, _), (1, _)])
    (⟨Nat.le_of_ble_eq_true rfl, rfl,
      trivial, rfl, rfl, rfl⟩)
    rfl (bx' := []) rfl (n' := 14) rfl (⟨rfl, _, R.alloc rfl (Nat.le_of_ble_eq_true rfl), ⟨[0, 1, 4], [(0, _), (1, _), (4, _)], [(4, .var _)], 14, rfl, rfl, rfl, ?_⟩⟩)
  refine W.seq ?_
  refine W.line (n := 4) (by decide) (its := [⟨6, _, true⟩, ⟨7, _, true⟩, ⟨8, _, true⟩, ⟨5, _, true⟩]) (ks := [(3, 8)]) (kk := [(3, 8)]) (live := [4, 5]) (env' := [(4, _), (5, _)])
    (⟨Nat.le_of_ble_eq_true rfl, rfl,
      ⟨⟨rfl, rfl, fun _ τ hb ht hτ => R.mov (evt (hτ 0 _ rfl)) rfl ht⟩,
      ⟨⟨rfl, rfl, fun _ τ hb ht hτ => R.mov (evt (hτ 1 _ rfl)) rfl ht⟩,
      ⟨⟨rfl, rfl, fun _ τ hb ht hτ => R.callG hC (script_ok seed i hs0 hi0 hi) (Bors.cons (Bor.pur (evt (hτ 6 _ rfl)) rfl rfl) (Bors.cons (Bor.pur (evt (hτ 7 _ rfl)) rfl rfl) Bors.nil)) (FrsR.one (.sl _ _ _ (frs_map fun _ => .u8 _))) ht⟩,
      ⟨⟨rfl, rfl, fun _ τ hb ht hτ => R.asgO (hτ 8 _ rfl) rfl ht (by decide)⟩,
      trivial⟩⟩⟩⟩, rfl, rfl, rfl⟩)
    rfl (bx' := [(4, .var _)]) rfl (n' := 14) rfl (⟨[4, 5], [(4, _), (5, _)], [(4, .var _)], 14, rfl, rfl, rfl, ?_⟩)
  refine W.seq ?_
  refine W.seq ?_
  refine W.line (n := 2) (by decide) (its := [⟨9, _, true⟩, ⟨10, _, true⟩]) (ks := []) (kk := []) (live := [4, 5, 10]) (env' := [(4, _), (5, _), (10, _)])
    (⟨Nat.le_of_ble_eq_true rfl, rfl,
      ⟨⟨rfl, rfl, fun _ τ hb ht hτ => R.al (hτ 5 _ rfl) ht (by decide)⟩,
      ⟨⟨rfl, rfl, fun _ τ hb ht hτ => R.eqNilF (SC.al (hτ 9 _ rfl) (hτ 5 _ rfl)) (fun h => by have hz := congrArg List.length h; rw [List.length_map, scriptS_len] at hz; cases hz) ht⟩,
      trivial⟩⟩, rfl, rfl, rfl⟩)
    rfl (bx' := [(4, .var _)]) rfl (n' := 14) rfl (⟨[4, 5, 10], [(4, _), (5, _), (10, _)], [(4, .var _)], 14, rfl, rfl, rfl, ?_⟩)
  refine W.condF rfl (rfl) ?_
  refine W.skip ?_
  refine W.seq ?_
  refine W.line (n := 3) (by decide) (its := [⟨12, _, true⟩, ⟨13, _, true⟩]) (ks := []) (kk := []) (live := [4, 13]) (env' := [(4, _), (13, _)])
    (⟨Nat.le_of_ble_eq_true rfl, rfl,
      ⟨⟨rfl, rfl, fun _ τ hb ht hτ => R.al (hτ 5 _ rfl) ht (by decide)⟩,
      ⟨⟨rfl, rfl, fun _ τ hb ht hτ => R.callG hC (sum_ok (scriptS seed i) (by rw [scriptS_len]; decide)) (Bors.cons (Bor.sc (SC.al (hτ 12 _ rfl) (hτ 5 _ rfl)) (brw_map (fun _ => rfl))) Bors.nil) (FrsR.one (frs_hash _)) ht⟩,
      trivial⟩⟩, rfl, rfl, rfl⟩)
    rfl (bx' := [(4, .var _)]) rfl (n' := 14) rfl (⟨rfl, _, R.stZ (show Sg.get _ 4 = some _ from rfl) (show Sg.box _ 4 = some _ from rfl) rfl (evt (show Sg.get _ 13 = some _ from rfl)) (by rfl) (by rfl) (by rfl) (by rfl) rfl, ⟨[4], [(4, _)], [(4, .var _)], 14, rfl, rfl, rfl, ?_⟩⟩)
  refine W.ret ?_
  exact Ends.one' (.inr rfl) rfl (rfl) rfl rfl (show LdT _ 27 32 true from inferInstance)

theorem ghash_neg (seed : List UInt8) (i : Int) (hs0 : seed.length ≤ 1000) (hi0 : -9223372036854775808 ≤ i ∧ i ≤ 9223372036854775807) (hi : i < 0) : Fn Tryd.prog gl 10 [.sl none 1 (seed.map D.u8), .int i] (hashD (List.replicate 32 0)) := by
  refine Fn.of (n := 14) Tryd.func10 rfl rfl rfl (Nat.le_of_ble_eq_true rfl) fun C hC => ?_
  refine W.seq ?_
  refine W.line (n := 1) (by decide) (its := []) (ks := []) (kk := []) (live := [0, 1]) (env' := [(0, _), (1, _)])
    (⟨Nat.le_of_ble_eq_true rfl, rfl,
      trivial, rfl, rfl, rfl⟩)
    rfl (bx' := []) rfl (n' := 14) rfl (⟨rfl, _, R.alloc rfl (Nat.le_of_ble_eq_true rfl), ⟨[0, 1, 4], [(0, _), (1, _), (4, _)], [(4, .var _)], 14, rfl, rfl, rfl, ?_⟩⟩)
  refine W.seq ?_
  refine W.line (n := 4) (by decide) (its := [⟨6, _, true⟩, ⟨7, _, true⟩, ⟨8, _, true⟩, ⟨5, _, true⟩]) (ks := []) (kk := []) (live := [4, 5]) (env' := [(4, _), (5, _)])
    (⟨Nat.le_of_ble_eq_true rfl, rfl,
      ⟨⟨rfl, rfl, fun _ τ hb ht hτ => R.mov (evt (hτ 0 _ rfl)) rfl ht⟩,
      ⟨⟨rfl, rfl, fun _ τ hb ht hτ => R.mov (evt (hτ 1 _ rfl)) rfl ht⟩,
      ⟨⟨rfl, rfl, fun _ τ hb ht hτ => R.callG hC (script_neg seed i hs0 hi0 hi) (Bors.cons (Bor.pur (evt (hτ 6 _ rfl)) rfl rfl) (Bors.cons (Bor.pur (evt (hτ 7 _ rfl)) rfl rfl) Bors.nil)) (FrsR.one .nils) ht⟩,
      ⟨⟨rfl, rfl, fun _ τ hb ht hτ => R.asg (evt (hτ 8 _ rfl)) rfl ht⟩,
      trivial⟩⟩⟩⟩, rfl, rfl, rfl⟩)
    rfl (bx' := [(4, .var _)]) rfl (n' := 14) rfl (⟨[4, 5], [(4, _), (5, _)], [(4, .var _)], 14, rfl, rfl, rfl, ?_⟩)
  refine W.seq ?_
  refine W.seq ?_
  refine W.line (n := 2) (by decide) (its := [⟨9, _, true⟩, ⟨10, _, true⟩]) (ks := []) (kk := []) (live := [4, 5, 10]) (env' := [(4, _), (5, _), (10, _)])
    (⟨Nat.le_of_ble_eq_true rfl, rfl,
      ⟨⟨rfl, rfl, fun _ τ hb ht hτ => R.mov (evt (hτ 5 _ rfl)) rfl ht⟩,
      ⟨⟨rfl, rfl, fun _ τ hb ht hτ => R.eqNilT (evt (hτ 9 _ rfl)) ht⟩,
      trivial⟩⟩, rfl, rfl, rfl⟩)
    rfl (bx' := [(4, .var _)]) rfl (n' := 14) rfl (⟨[4, 5, 10], [(4, _), (5, _), (10, _)], [(4, .var _)], 14, rfl, rfl, rfl, ?_⟩)
  refine W.condT rfl (rfl) ?_
  refine W.seq ?_
  refine W.line (n := 2) (by decide) (its := [⟨11, _, true⟩]) (ks := []) (kk := []) (live := [4, 11]) (env' := [(4, _), (11, _)])
    (⟨Nat.le_of_ble_eq_true rfl, rfl,
      ⟨⟨rfl, rfl, fun _ τ hb ht hτ => R.bldAZ rfl ht⟩,
      trivial⟩, rfl, rfl, rfl⟩)
    rfl (bx' := [(4, .var _)]) rfl (n' := 14) rfl (⟨rfl, _, R.stZ (show Sg.get _ 4 = some _ from rfl) (show Sg.box _ 4 = some _ from rfl) rfl (evt (show Sg.get _ 11 = some _ from rfl)) (by rfl) (by rfl) (by rfl) (by rfl) rfl, ⟨[4], [(4, _)], [(4, .var _)], 14, rfl, rfl, rfl, ?_⟩⟩)
  refine W.ret ?_
  exact Ends.one' (.inr rfl) rfl (rfl) rfl rfl (show LdT _ 27 32 true from inferInstance)

theorem rghash_ok (seed : List UInt8) (i : Int) (hs0 : seed.length ≤ 1000) (hi0 : -9223372036854775808 ≤ i ∧ i ≤ 9223372036854775807) (hi : 0 ≤ i) : Fn Tryd.prog gl 11 [.sl none 1 (seed.map D.u8), .int i] (hashD (sumR (scriptR seed i))) := by
  refine Fn.of (n := 12) Tryd.func11 rfl rfl rfl (Nat.le_of_ble_eq_true rfl) fun C hC => ?_
  refine W.seq ?_
  refine W.line (n := 1) (by decide) (its := []) (ks := []) (kk := []) (live := [0, 1]) (env' := [(0, _), (1, _)])
    (⟨Nat.le_of_ble_eq_true rfl, rfl,
      trivial, rfl, rfl, rfl⟩)
    rfl (bx' := []) rfl (n' := 12) rfl (⟨rfl, _, R.alloc rfl (Nat.le_of_ble_eq_true rfl), ⟨[0, 1, 4], [(0, _), (1, _), (4, _)], [(4, .var _)], 12, rfl, rfl, rfl, ?_⟩⟩)
  refine W.seq ?_
  refine W.seq ?_
  refine W.line (n := 2) (by decide) (its := [⟨5, _, true⟩, ⟨6, _, true⟩]) (ks := []) (kk := []) (live := [0, 1, 4, 6]) (env' := [(0, _), (1, _), (4, _), (6, _)])
    (⟨Nat.le_of_ble_eq_true rfl, rfl,
      ⟨⟨rfl, rfl, fun _ τ hb ht hτ => R.mov (evt (hτ 1 _ rfl)) rfl ht⟩,
      ⟨⟨rfl, rfl, fun _ τ hb ht hτ => R.bin (evt (hτ 5 _ rfl)) (show ev _ _ (.const (.int .i64 0)) = some (.int ((0 : Nat) : Int)) from rfl) rfl trivial ht⟩,
      trivial⟩⟩, rfl, rfl, rfl⟩)
    rfl (bx' := [(4, .var _)]) rfl (n' := 12) rfl (⟨[0, 1, 4, 6], [(0, _), (1, _), (4, _), (6, _)], [(4, .var _)], 12, rfl, rfl, rfl, ?_⟩)
  refine W.condF rfl (decide_eq_false (by omega)) ?_
  refine W.skip ?_
  refine W.seq ?_
  refine W.line (n := 5) (by decide) (its := [⟨8, _, true⟩, ⟨9, _, true⟩, ⟨10, _, true⟩, ⟨11, _, true⟩]) (ks := []) (kk := []) (live := [4, 11]) (env' := [(4, _), (11, _)])
    (⟨Nat.le_of_ble_eq_true rfl, rfl,
      ⟨⟨rfl, rfl, fun _ τ hb ht hτ => R.mov (evt (hτ 0 _ rfl)) rfl ht⟩,
      ⟨⟨rfl, rfl, fun _ τ hb ht hτ => R.mov (evt (hτ 1 _ rfl)) rfl ht⟩,
      ⟨⟨rfl, rfl, fun _ τ hb ht hτ => R.callG hC (rscript_ok seed i hs0 hi0 hi) (Bors.cons (Bor.pur (evt (hτ 8 _ rfl)) rfl rfl) (Bors.cons (Bor.pur (evt (hτ 9 _ rfl)) rfl rfl) Bors.nil)) (FrsR.one (.sl _ _ _ (frs_map fun _ => .u8 _))) ht⟩,
      ⟨⟨rfl, rfl, fun _ τ hb ht hτ => R.callG hC (rsum_ok (scriptR seed i) (by rw [scriptR_len]; decide)) (Bors.cons (Bor.sc (SC.sl (hτ 10 _ rfl)) (brw_map (fun _ => rfl))) Bors.nil) (FrsR.one (frs_hash _)) ht⟩,
      trivial⟩⟩⟩⟩, rfl, rfl, rfl⟩)
    rfl (bx' := [(4, .var _)]) rfl (n' := 12) rfl (⟨rfl, _, R.stZ (show Sg.get _ 4 = some _ from rfl) (show Sg.box _ 4 = some _ from rfl) rfl (evt (show Sg.get _ 11 = some _ from rfl)) (by rfl) (by rfl) (by rfl) (by rfl) rfl, ⟨[4], [(4, _)], [(4, .var _)], 12, rfl, rfl, rfl, ?_⟩⟩)
  refine W.ret ?_
  exact Ends.one' (.inr rfl) rfl (rfl) rfl rfl (show LdT _ 27 32 true from inferInstance)

theorem rghash_neg (seed : List UInt8) (i : Int) (hs0 : seed.length ≤ 1000) (hi0 : -9223372036854775808 ≤ i ∧ i ≤ 9223372036854775807) (hi : i < 0) : Fn Tryd.prog gl 11 [.sl none 1 (seed.map D.u8), .int i] (hashD (List.replicate 32 0)) := by
  refine Fn.of (n := 12) Tryd.func11 rfl rfl rfl (Nat.le_of_ble_eq_true rfl) fun C hC => ?_
  refine W.seq ?_
  refine W.line (n := 1) (by decide) (its := []) (ks := []) (kk := []) (live := [0, 1]) (env' := [(0, _), (1, _)])
    (⟨Nat.le_of_ble_eq_true rfl, rfl,
      trivial, rfl, rfl, rfl⟩)
    rfl (bx' := []) rfl (n' := 12) rfl (⟨rfl, _, R.alloc rfl (Nat.le_of_ble_eq_true rfl), ⟨[0, 1, 4], [(0, _), (1, _), (4, _)], [(4, .var _)], 12, rfl, rfl, rfl, ?_⟩⟩)
  refine W.seq ?_
  refine W.seq ?_
  refine W.line (n := 2) (by decide) (its := [⟨5, _, true⟩, ⟨6, _, true⟩]) (ks := []) (kk := []) (live := [0, 1, 4, 6]) (env' := [(0, _), (1, _), (4, _), (6, _)])
    (⟨Nat.le_of_ble_eq_true rfl, rfl,
      ⟨⟨rfl, rfl, fun _ τ hb ht hτ => R.mov (evt (hτ 1 _ rfl)) rfl ht⟩,
      ⟨⟨rfl, rfl, fun _ τ hb ht hτ => R.bin (evt (hτ 5 _ rfl)) (show ev _ _ (.const (.int .i64 0)) = some (.int ((0 : Nat) : Int)) from rfl) rfl trivial ht⟩,
      trivial⟩⟩, rfl, rfl, rfl⟩)
    rfl (bx' := [(4, .var _)]) rfl (n' := 12) rfl (⟨[0, 1, 4, 6], [(0, _), (1, _), (4, _), (6, _)], [(4, .var _)], 12, rfl, rfl, rfl, ?_⟩)
  refine W.condT rfl (decide_eq_true (by omega)) ?_
  refine W.seq ?_
  refine W.line (n := 2) (by decide) (its := [⟨7, _, true⟩]) (ks := []) (kk := []) (live := [4, 7]) (env' := [(4, _), (7, _)])
    (⟨Nat.le_of_ble_eq_true rfl, rfl,
      ⟨⟨rfl, rfl, fun _ τ hb ht hτ => R.bldAZ rfl ht⟩,
      trivial⟩, rfl, rfl, rfl⟩)
    rfl (bx' := [(4, .var _)]) rfl (n' := 12) rfl (⟨rfl, _, R.stZ (show Sg.get _ 4 = some _ from rfl) (show Sg.box _ 4 = some _ from rfl) rfl (evt (show Sg.get _ 7 = some _ from rfl)) (by rfl) (by rfl) (by rfl) (by rfl) rfl, ⟨[4], [(4, _)], [(4, .var _)], 12, rfl, rfl, rfl, ?_⟩⟩)
  refine W.ret ?_
  exact Ends.one' (.inr rfl) rfl (rfl) rfl rfl (show LdT _ 27 32 true from inferInstance)

theorem watch_ok (used : List Int) (gap : Int) (hu0 : used.length ≤ 1000) (hr0 : ∀ u ∈ used, -9223372036854775808 ≤ u ∧ u ≤ 9223372036854775807) (hg0 : -9223372036854775808 ≤ gap ∧ gap ≤ 9223372036854775807) : Fn Tryd.prog gl 12 [.sl none 1 (used.map D.int), .int gap] (.int ((watchS used gap : Nat) : Int)) := by
  refine Fn.of (n := 45) Tryd.func12 rfl rfl rfl (Nat.le_of_ble_eq_true rfl) fun C hC => ?_
  refine W.seq ?_
  refine W.line (n := 1) (by decide) (its := [⟨4, _, true⟩]) (ks := []) (kk := []) (live := [0, 1]) (env' := [(0, _), (1, _)])
    (⟨Nat.le_of_ble_eq_true rfl, rfl,
      ⟨⟨rfl, rfl, fun _ τ hb ht hτ => R.asg (show ev _ _ (.const (.int .i64 0)) = some (.int ((0 : Nat) : Int)) from rfl) rfl ht⟩,
      trivial⟩, rfl, rfl, rfl⟩)
    rfl (bx' := []) rfl (n' := 45) rfl (⟨[0, 1], [(0, _), (1, _)], [], 45, rfl, rfl, rfl, ?_⟩)
  refine W.seq ?_
  refine W.line (n := 2) (by decide) (its := []) (ks := []) (kk := []) (live := [0, 1]) (env' := [(0, _), (1, _)])
    (⟨Nat.le_of_ble_eq_true rfl, rfl,
      trivial, rfl, rfl, rfl⟩)
    rfl (bx' := []) rfl (n' := 45) rfl (⟨rfl, _, R.mkmapI D.int rfl (Nat.le_of_ble_eq_true rfl), ⟨rfl, _, R.asg (evt (show Sg.get _ 10 = some _ from rfl)) rfl (Nat.le_of_ble_eq_true rfl), ⟨[0, 1, 5], [(0, _), (1, _), (5, _)], [(10, mpI D.int _)], 45, rfl, rfl, rfl, ?_⟩⟩⟩)
  refine W.seq ?_
  refine W.seq ?_
  refine W.line (n := 3) (by decide) (its := [⟨11, _, true⟩, ⟨12, _, true⟩, ⟨13, _, true⟩]) (ks := []) (kk := []) (live := [1, 5, 11, 12, 13]) (env' := [(1, _), (5, _), (11, _), (12, _), (13, _)])
    (⟨Nat.le_of_ble_eq_true rfl, rfl,
      ⟨⟨rfl, rfl, fun _ τ hb ht hτ => R.mov (evt (hτ 0 _ rfl)) rfl ht⟩,
      ⟨⟨rfl, rfl, fun _ τ hb ht hτ => R.lenE (SC.sl (hτ 11 _ rfl)) (List.length_map _) ht⟩,
      ⟨⟨rfl, rfl, fun _ τ hb ht hτ => R.mov (show ev _ _ (.const (.int .i64 0)) = some (.int ((0 : Nat) : Int)) from rfl) rfl ht⟩,
      trivial⟩⟩⟩, rfl, rfl, rfl⟩)
    rfl (bx' := [(10, mpI D.int _)]) rfl (n' := 45) rfl (⟨[1, 5, 11, 12, 13], [(1, _), (5, _), (11, _), (12, _), (13, _)], [(10, mpI D.int _)], 45, rfl, rfl, rfl, ?_⟩)
  refine W.block ?_
  refine W.loop (α := {q__ : Nat // q__ ≤ used.length}) (fun q__ => ⟨45, [(1, .int gap), (5, .map 10), (11, .sl none 1 (used.map D.int)), (12, .int ((used.length : Nat) : Int)), (13, .int ((q__.1 : Nat) : Int))], [(10, mpI D.int (cM used q__.1))]⟩) (fun q__ => used.length - q__.1) ⟨(0), (by first | omega | (simp only [List.length_map, List.length_append, List.length_cons, List.length_nil, List.length_take, List.length_drop, List.length_replicate]; omega) | (simp; omega))⟩ rfl ?_
  rintro ⟨j, hj⟩
  show W _ _ _ _ ⟨45, [(1, .int gap), (5, .map 10), (11, .sl none 1 (used.map D.int)), (12, .int ((used.length : Nat) : Int)), (13, .int ((j : Nat) : Int))], [(10, mpI D.int (cM used j))]⟩
  refine W.seq ?_
  refine W.line (n := 1) (by decide) (its := [⟨14, _, true⟩]) (ks := []) (kk := []) (live := [1, 5, 11, 12, 13, 14]) (env' := [(1, _), (5, _), (11, _), (12, _), (13, _), (14, _)])
    (⟨Nat.le_of_ble_eq_true rfl, rfl,
      ⟨⟨rfl, rfl, fun _ τ hb ht hτ => R.lssN (j) (used.length) (evt (hτ 13 _ rfl)) (evt (hτ 12 _ rfl)) ht⟩,
      trivial⟩, rfl, rfl, rfl⟩)
    rfl (bx' := [(10, mpI D.int _)]) rfl (n' := 45) rfl (⟨[1, 5, 11, 12, 13, 14], [(1, _), (5, _), (11, _), (12, _), (13, _), (14, _)], [(10, mpI D.int _)], 45, rfl, rfl, rfl, ?_⟩)
  refine W.seq ?_
  refine W.condD rfl (fun hc14 => ?_) (fun hc14 => ?_)
  · refine W.skip ?_
    refine W.seq ?_
    refine W.block ?_
    refine W.seq ?_
    refine W.line (n := 3) (by decide) (its := [⟨15, _, true⟩, ⟨16, _, true⟩, ⟨7, _, true⟩]) (ks := []) (kk := []) (live := [1, 5, 7, 11, 12, 13]) (env' := [(1, _), (5, _), (7, _), (11, _), (12, _), (13, _)])
      (⟨Nat.le_of_ble_eq_true rfl, rfl,
        ⟨⟨rfl, rfl, fun _ τ hb ht hτ => R.idxN (j) (SC.sl (hτ 11 _ rfl)) (evoI (evt (hτ 13 _ rfl))) rfl (by first | omega | (simp only [List.length_map, List.length_append, List.length_cons, List.length_nil, List.length_take, List.length_drop, List.length_replicate]; omega) | (simp; omega)) ht (by decide)⟩,
        ⟨⟨rfl, rfl, fun _ τ hb ht hτ => R.ldE (hτ 15 _ rfl) (SC.sl (hτ 11 _ rfl)) (map_get! (l := used) (by first | omega | (simp only [List.length_map, List.length_append, List.length_cons, List.length_nil, List.length_take, List.length_drop, List.length_replicate]; omega) | (simp; omega))) rfl rfl rfl rfl ht⟩,
        ⟨⟨rfl, rfl, fun _ τ hb ht hτ => R.asg (evt (hτ 16 _ rfl)) rfl ht⟩,
        trivial⟩⟩⟩, rfl, rfl, rfl⟩)
      rfl (bx' := [(10, mpI D.int _)]) rfl (n' := 45) rfl (⟨[1, 5, 7, 11, 12, 13], [(1, _), (5, _), (7, _), (11, _), (12, _), (13, _)], [(10, mpI D.int _)], 45, rfl, rfl, rfl, ?_⟩)
    refine W.line (n := 5) (by decide) (its := [⟨17, _, true⟩, ⟨18, _, true⟩, ⟨19, _, true⟩, ⟨20, _, true⟩]) (ks := []) (kk := []) (live := [1, 5, 11, 12, 13, 17, 18, 20]) (env' := [(1, _), (5, _), (11, _), (12, _), (13, _), (17, _), (18, _), (20, _)])
      (⟨Nat.le_of_ble_eq_true rfl, rfl,
        ⟨⟨rfl, rfl, fun _ τ hb ht hτ => R.mov (evt (hτ 5 _ rfl)) rfl ht⟩,
        ⟨⟨rfl, rfl, fun _ τ hb ht hτ => R.mov (evt (hτ 7 _ rfl)) rfl ht⟩,
        ⟨⟨rfl, rfl, fun _ τ hb ht hτ => R.lookI (z := 0) (hτ 17 _ rfl) (hb 10 _ rfl) (evt (hτ 18 _ rfl)) rfl (fun _ => rfl) ht⟩,
        ⟨⟨rfl, rfl, fun _ τ hb ht hτ => R.binE (d := .int (mGet 0 (cM used j) used[j]! + 1)) (evt (hτ 19 _ rfl)) (show ev _ _ (.const (.int .i64 1)) = some (.int ((1 : Nat) : Int)) from rfl) rfl trivial (wr_eq rfl (by have := cM_le used j (by omega) used[j]!; omega) (by have := cM_le used j (by omega) used[j]!; omega)) ht⟩,
        trivial⟩⟩⟩⟩, rfl, rfl, rfl⟩)
      rfl (bx' := [(10, mpI D.int _)]) rfl (n' := 45) rfl (⟨rfl, _, R.mupd (z := 0) (show Sg.get _ 17 = some _ from rfl) (show Sg.box _ 10 = some _ from rfl) (evt (show Sg.get _ 18 = some _ from rfl)) (evt (show Sg.get _ 20 = some _ from rfl)) rfl rfl, ⟨[1, 5, 11, 12, 13], [(1, _), (5, _), (11, _), (12, _), (13, _)], [(10, mpI D.int _)], 45, rfl, rfl, rfl, ?_⟩⟩)
    refine W.line (n := 2) (by decide) (its := [⟨21, _, true⟩, ⟨13, _, true⟩]) (ks := []) (kk := []) (live := [1, 5, 11, 12, 13]) (env' := [(1, _), (5, _), (11, _), (12, _), (13, _)])
      (⟨Nat.le_of_ble_eq_true rfl, rfl,
        ⟨⟨rfl, rfl, fun _ τ hb ht hτ => R.addN (j) (1) (evt (hτ 13 _ rfl)) (show ev _ _ (.const (.int .i64 1)) = some (.int ((1 : Nat) : Int)) from rfl) (by first | omega | (simp only [List.length_map, List.length_append, List.length_cons, List.length_nil, List.length_take, List.length_drop, List.length_replicate]; omega) | (simp; omega)) ht⟩,
        ⟨⟨rfl, rfl, fun _ τ hb ht hτ => R.mov (evt (hτ 21 _ rfl)) rfl ht⟩,
        trivial⟩⟩, rfl, rfl, rfl⟩)
      rfl (bx' := [(10, mpI D.int _)]) rfl (n' := 45) rfl (⟨[1, 5, 11, 12, 13], [(1, _), (5, _), (11, _), (12, _), (13, _)], [(10, mpI D.int _)], 45, rfl, rfl, rfl, ?_⟩)
    exact ⟨⟨(j + 1), (by first | omega | (simp only [List.length_map, List.length_append, List.length_cons, List.length_nil, List.length_take, List.length_drop, List.length_replicate]; omega) | (simp; omega))⟩, rfl, (by simp only []; omega)⟩
  · obtain rfl : j = used.length := by omega
    refine W.exit ?_
    refine W.seq ?_
    refine W.line (n := 4) (by decide) (its := [⟨22, _, true⟩, ⟨23, _, true⟩, ⟨24, _, true⟩, ⟨1, _, true⟩]) (ks := []) (kk := []) (live := [1, 5]) (env' := [(1, _), (5, _)])
      (⟨Nat.le_of_ble_eq_true rfl, rfl,
        ⟨⟨rfl, rfl, fun _ τ hb ht hτ => R.mov (evt (hτ 1 _ rfl)) rfl ht⟩,
        ⟨⟨rfl, rfl, fun _ τ hb ht hτ => R.maxI (r := max gap 1) (evt (hτ 22 _ rfl)) (show ev _ _ (.const (.int .i64 1)) = some (.int ((1 : Nat) : Int)) from rfl) (rfl) ht⟩,
        ⟨⟨rfl, rfl, fun _ τ hb ht hτ => R.minI (r := ((gapN gap : Nat) : Int)) (evt (hτ 23 _ rfl)) (show ev _ _ (.const (.int .i64 200)) = some (.int ((200 : Nat) : Int)) from rfl) (by unfold gapN; omega) ht⟩,
        ⟨⟨rfl, rfl, fun _ τ hb ht hτ => R.asg (evt (hτ 24 _ rfl)) rfl ht⟩,
        trivial⟩⟩⟩⟩, rfl, rfl, rfl⟩)
      rfl (bx' := [(10, mpI D.int _)]) rfl (n' := 45) rfl (⟨[1, 5], [(1, _), (5, _)], [(10, mpI D.int _)], 45, rfl, rfl, rfl, ?_⟩)
    refine W.seq ?_
    refine W.line (n := 2) (by decide) (its := [⟨25, _, true⟩, ⟨8, _, true⟩]) (ks := []) (kk := []) (live := [1, 5, 8]) (env' := [(1, _), (5, _), (8, _)])
      (⟨Nat.le_of_ble_eq_true rfl, rfl,
        ⟨⟨rfl, rfl, fun _ τ hb ht hτ => R.mov (evt (hτ 1 _ rfl)) rfl ht⟩,
        ⟨⟨rfl, rfl, fun _ τ hb ht hτ => R.asg (evt (hτ 25 _ rfl)) rfl ht⟩,
        trivial⟩⟩, rfl, rfl, rfl⟩)
      rfl (bx' := [(10, mpI D.int _)]) rfl (n' := 45) rfl (⟨[1, 5, 8], [(1, _), (5, _), (8, _)], [(10, mpI D.int _)], 45, rfl, rfl, rfl, ?_⟩)
    refine W.seq ?_
    refine W.seq ?_
    refine W.line (n := 1) (by decide) (its := [⟨9, _, true⟩]) (ks := []) (kk := []) (live := [1, 5, 8, 9]) (env' := [(1, _), (5, _), (8, _), (9, _)])
      (⟨Nat.le_of_ble_eq_true rfl, rfl,
        ⟨⟨rfl, rfl, fun _ τ hb ht hτ => R.asg (show ev _ _ (.const (.int .i64 0)) = some (.int ((0 : Nat) : Int)) from rfl) rfl ht⟩,
        trivial⟩, rfl, rfl, rfl⟩)
      rfl (bx' := [(10, mpI D.int _)]) rfl (n' := 45) rfl (⟨[1, 5, 8, 9], [(1, _), (5, _), (8, _), (9, _)], [(10, mpI D.int _)], 45, rfl, rfl, rfl, ?_⟩)
    refine W.block ?_
    refine W.loop (α := {q__ : Nat × Nat // q__.1 ≤ 200 ∧ q__.2 ≤ 200 ∧ wLoop used (gapN gap) (200 - q__.1) q__.1 q__.2 = watchS used gap}) (fun q__ => ⟨45, [(1, .int ((gapN gap : Nat) : Int)), (5, .map 10), (8, .int ((q__.1.2 : Nat) : Int)), (9, .int ((q__.1.1 : Nat) : Int))], [(10, mpI D.int (cM used used.length))]⟩) (fun q__ => 200 - q__.1.1) ⟨(0, gapN gap), ⟨Nat.zero_le _, (gapN_le gap).2, rfl⟩⟩ rfl ?_
    rintro ⟨⟨i, n⟩, ⟨hi, hn, hw⟩⟩
    show W _ _ _ _ ⟨45, [(1, .int ((gapN gap : Nat) : Int)), (5, .map 10), (8, .int ((n : Nat) : Int)), (9, .int ((i : Nat) : Int))], [(10, mpI D.int (cM used used.length))]⟩
    have hgl := gapN_le gap
    have hcp := cM_pos used (i : Int)
    have hi : i ≤ 200 := hi
    have hn : n ≤ 200 := hn
    have hw : wLoop used (gapN gap) (200 - i) i n = watchS used gap := hw
    refine W.seq ?_
    refine W.seq ?_
    by_cases h1 : i < n
    · refine W.line (n := 7) (by decide) (its := [⟨26, _, true⟩, ⟨27, _, true⟩, ⟨28, _, true⟩, ⟨29, _, true⟩, ⟨30, _, true⟩, ⟨31, _, true⟩, ⟨32, _, true⟩]) (ks := []) (kk := []) (live := [1, 5, 8, 9, 32]) (env' := [(1, _), (5, _), (8, _), (9, _), (32, _)])
        (⟨Nat.le_of_ble_eq_true rfl, rfl,
          ⟨⟨rfl, rfl, fun _ τ hb ht hτ => R.mov (evt (hτ 9 _ rfl)) rfl ht⟩,
          ⟨⟨rfl, rfl, fun _ τ hb ht hτ => R.mov (evt (hτ 8 _ rfl)) rfl ht⟩,
          ⟨⟨rfl, rfl, fun _ τ hb ht hτ => R.lssN (i) (n) (evt (hτ 26 _ rfl)) (evt (hτ 27 _ rfl)) ht⟩,
          ⟨⟨rfl, rfl, fun _ τ hb ht hτ => R.mov (evt (hτ 28 _ rfl)) rfl ht⟩,
          ⟨⟨rfl, ⟨_, 29, rfl, rfl, .inl ⟨_, rfl, gw (v := true) (decide_eq_true h1) rfl⟩⟩, fun _ τ hb ht hτ => R.mov (evt (hτ 8 _ rfl)) rfl ht⟩,
          ⟨⟨rfl, ⟨_, 29, rfl, rfl, .inl ⟨_, rfl, gw (v := true) (decide_eq_true h1) rfl⟩⟩, fun _ τ hb ht hτ => R.lssN (n) (200) (evt (hτ 30 _ rfl)) (show ev _ _ (.const (.int .i64 200)) = some (.int ((200 : Nat) : Int)) from rfl) ht⟩,
          ⟨⟨rfl, rfl, fun _ τ hb ht hτ => R.pickT (evt (hτ 29 _ rfl)) (decide_eq_true h1) (evt (hτ 31 _ rfl)) rfl ht⟩,
          trivial⟩⟩⟩⟩⟩⟩⟩, rfl, rfl, rfl⟩)
        rfl (bx' := [(10, mpI D.int _)]) rfl (n' := 45) rfl (⟨[1, 5, 8, 9, 32], [(1, _), (5, _), (8, _), (9, _), (32, _)], [(10, mpI D.int _)], 45, rfl, rfl, rfl, ?_⟩)
      refine W.condD rfl (fun hc32 => ?_) (fun hc32 => ?_)
      · refine W.skip ?_
        refine W.seq ?_
        refine W.block ?_
        refine W.seq ?_
        refine W.line (n := 4) (by decide) (its := [⟨35, _, true⟩, ⟨36, _, true⟩, ⟨37, _, true⟩, ⟨38, _, true⟩]) (ks := []) (kk := []) (live := [1, 5, 8, 9, 38]) (env' := [(1, _), (5, _), (8, _), (9, _), (38, _)])
          (⟨Nat.le_of_ble_eq_true rfl, rfl,
            ⟨⟨rfl, rfl, fun _ τ hb ht hτ => R.mov (evt (hτ 5 _ rfl)) rfl ht⟩,
            ⟨⟨rfl, rfl, fun _ τ hb ht hτ => R.mov (evt (hτ 9 _ rfl)) rfl ht⟩,
            ⟨⟨rfl, rfl, fun _ τ hb ht hτ => R.lookI (z := 0) (hτ 35 _ rfl) (hb 10 _ rfl) (evt (hτ 36 _ rfl)) rfl (fun _ => rfl) ht⟩,
            ⟨⟨rfl, rfl, fun _ τ hb ht hτ => R.bin (evt (hτ 37 _ rfl)) (show ev _ _ (.const (.int .i64 0)) = some (.int ((0 : Nat) : Int)) from rfl) rfl trivial ht⟩,
            trivial⟩⟩⟩⟩, rfl, rfl, rfl⟩)
          rfl (bx' := [(10, mpI D.int _)]) rfl (n' := 45) rfl (⟨[1, 5, 8, 9, 38], [(1, _), (5, _), (8, _), (9, _), (38, _)], [(10, mpI D.int _)], 45, rfl, rfl, rfl, ?_⟩)
        refine W.cond rfl (fun hc38 => ?_) (fun hc38 => ?_)
        · refine W.line (n := 6) (by decide) (its := [⟨39, _, true⟩, ⟨40, _, true⟩, ⟨41, _, true⟩, ⟨42, _, true⟩, ⟨43, _, true⟩, ⟨8, _, true⟩]) (ks := []) (kk := []) (live := [1, 5, 8, 9]) (env' := [(1, _), (5, _), (8, _), (9, _)])
            (⟨Nat.le_of_ble_eq_true rfl, rfl,
              ⟨⟨rfl, rfl, fun _ τ hb ht hτ => R.mov (evt (hτ 9 _ rfl)) rfl ht⟩,
              ⟨⟨rfl, rfl, fun _ τ hb ht hτ => R.addN (i) (1) (evt (hτ 39 _ rfl)) (show ev _ _ (.const (.int .i64 1)) = some (.int ((1 : Nat) : Int)) from rfl) (by first | omega | (simp only [List.length_map, List.length_append, List.length_cons, List.length_nil, List.length_take, List.length_drop, List.length_replicate]; omega) | (simp; omega)) ht⟩,
              ⟨⟨rfl, rfl, fun _ τ hb ht hτ => R.mov (evt (hτ 1 _ rfl)) rfl ht⟩,
              ⟨⟨rfl, rfl, fun _ τ hb ht hτ => R.addN ((i + 1)) (gapN gap) (evt (hτ 40 _ rfl)) (evt (hτ 41 _ rfl)) (by first | omega | (simp only [List.length_map, List.length_append, List.length_cons, List.length_nil, List.length_take, List.length_drop, List.length_replicate]; omega) | (simp; omega)) ht⟩,
              ⟨⟨rfl, rfl, fun _ τ hb ht hτ => R.minI (r := ((min (i + 1 + gapN gap) 200 : Nat) : Int)) (evt (hτ 42 _ rfl)) (show ev _ _ (.const (.int .i64 200)) = some (.int ((200 : Nat) : Int)) from rfl) (by omega) ht⟩,
              ⟨⟨rfl, rfl, fun _ τ hb ht hτ => R.asg (evt (hτ 43 _ rfl)) rfl ht⟩,
              trivial⟩⟩⟩⟩⟩⟩, rfl, rfl, rfl⟩)
            rfl (bx' := [(10, mpI D.int _)]) rfl (n' := 45) rfl (⟨[1, 5, 8, 9], [(1, _), (5, _), (8, _), (9, _)], [(10, mpI D.int _)], 45, rfl, rfl, rfl, ?_⟩)
          refine W.line (n := 3) (by decide) (its := [⟨33, _, true⟩, ⟨34, _, true⟩, ⟨9, _, true⟩]) (ks := []) (kk := []) (live := [1, 5, 8, 9]) (env' := [(1, _), (5, _), (8, _), (9, _)])
            (⟨Nat.le_of_ble_eq_true rfl, rfl,
              ⟨⟨rfl, rfl, fun _ τ hb ht hτ => R.mov (evt (hτ 9 _ rfl)) rfl ht⟩,
              ⟨⟨rfl, rfl, fun _ τ hb ht hτ => R.addN (i) (1) (evt (hτ 33 _ rfl)) (show ev _ _ (.const (.int .i64 1)) = some (.int ((1 : Nat) : Int)) from rfl) (by first | omega | (simp only [List.length_map, List.length_append, List.length_cons, List.length_nil, List.length_take, List.length_drop, List.length_replicate]; omega) | (simp; omega)) ht⟩,
              ⟨⟨rfl, rfl, fun _ τ hb ht hτ => R.asg (evt (hτ 34 _ rfl)) rfl ht⟩,
              trivial⟩⟩⟩, rfl, rfl, rfl⟩)
            rfl (bx' := [(10, mpI D.int _)]) rfl (n' := 45) rfl (⟨[1, 5, 8, 9], [(1, _), (5, _), (8, _), (9, _)], [(10, mpI D.int _)], 45, rfl, rfl, rfl, ?_⟩)
          exact ⟨⟨(i + 1, (if used.contains (i : Int) then min (i + 1 + gapN gap) 200 else n)), ⟨by dsimp only; omega, by dsimp only; split <;> omega, by rw [← hw]; exact (wLoop_step h1 hc32).symm⟩⟩, (by dsimp only; first | rw [if_pos (hcp.symm.trans hc38)] | rw [if_neg (by rw [hcp.symm.trans hc38]; decide)]), (by simp only []; omega)⟩
        · refine W.skip ?_
          refine W.line (n := 3) (by decide) (its := [⟨33, _, true⟩, ⟨34, _, true⟩, ⟨9, _, true⟩]) (ks := []) (kk := []) (live := [1, 5, 8, 9]) (env' := [(1, _), (5, _), (8, _), (9, _)])
            (⟨Nat.le_of_ble_eq_true rfl, rfl,
              ⟨⟨rfl, rfl, fun _ τ hb ht hτ => R.mov (evt (hτ 9 _ rfl)) rfl ht⟩,
              ⟨⟨rfl, rfl, fun _ τ hb ht hτ => R.addN (i) (1) (evt (hτ 33 _ rfl)) (show ev _ _ (.const (.int .i64 1)) = some (.int ((1 : Nat) : Int)) from rfl) (by first | omega | (simp only [List.length_map, List.length_append, List.length_cons, List.length_nil, List.length_take, List.length_drop, List.length_replicate]; omega) | (simp; omega)) ht⟩,
              ⟨⟨rfl, rfl, fun _ τ hb ht hτ => R.asg (evt (hτ 34 _ rfl)) rfl ht⟩,
              trivial⟩⟩⟩, rfl, rfl, rfl⟩)
            rfl (bx' := [(10, mpI D.int _)]) rfl (n' := 45) rfl (⟨[1, 5, 8, 9], [(1, _), (5, _), (8, _), (9, _)], [(10, mpI D.int _)], 45, rfl, rfl, rfl, ?_⟩)
          exact ⟨⟨(i + 1, (if used.contains (i : Int) then min (i + 1 + gapN gap) 200 else n)), ⟨by dsimp only; omega, by dsimp only; split <;> omega, by rw [← hw]; exact (wLoop_step h1 hc32).symm⟩⟩, (by dsimp only; first | rw [if_pos (hcp.symm.trans hc38)] | rw [if_neg (by rw [hcp.symm.trans hc38]; decide)]), (by simp only []; omega)⟩
      · refine W.exit ?_
        refine W.seq ?_
        refine W.line (n := 2) (by decide) (its := [⟨44, _, true⟩, ⟨4, _, true⟩]) (ks := []) (kk := []) (live := [4]) (env' := [(4, _)])
          (⟨Nat.le_of_ble_eq_true rfl, rfl,
            ⟨⟨rfl, rfl, fun _ τ hb ht hτ => R.mov (evt (hτ 8 _ rfl)) rfl ht⟩,
            ⟨⟨rfl, rfl, fun _ τ hb ht hτ => R.asg (evt (hτ 44 _ rfl)) rfl ht⟩,
            trivial⟩⟩, rfl, rfl, rfl⟩)
          rfl (bx' := [(10, mpI D.int _)]) rfl (n' := 45) rfl (⟨[4], [(4, _)], [(10, mpI D.int _)], 45, rfl, rfl, rfl, ?_⟩)
        refine W.ret ?_
        exact Ends.one' (.inr rfl) rfl (congrArg (fun n : Nat => D.int (n : Int)) ((wLoop_stop (by omega)).symm.trans hw)) rfl rfl trivial
    · refine W.line (n := 7) (by decide) (its := [⟨26, _, true⟩, ⟨27, _, true⟩, ⟨28, _, true⟩, ⟨29, _, true⟩, ⟨30, .dead, false⟩, ⟨31, .dead, false⟩, ⟨32, _, true⟩]) (ks := []) (kk := []) (live := [1, 5, 8, 9, 32]) (env' := [(1, _), (5, _), (8, _), (9, _), (32, _)])
        (⟨Nat.le_of_ble_eq_true rfl, rfl,
          ⟨⟨rfl, rfl, fun _ τ hb ht hτ => R.mov (evt (hτ 9 _ rfl)) rfl ht⟩,
          ⟨⟨rfl, rfl, fun _ τ hb ht hτ => R.mov (evt (hτ 8 _ rfl)) rfl ht⟩,
          ⟨⟨rfl, rfl, fun _ τ hb ht hτ => R.lssN (i) (n) (evt (hτ 26 _ rfl)) (evt (hτ 27 _ rfl)) ht⟩,
          ⟨⟨rfl, rfl, fun _ τ hb ht hτ => R.mov (evt (hτ 28 _ rfl)) rfl ht⟩,
          ⟨⟨rfl, ⟨_, 29, rfl, rfl, .inl ⟨_, rfl, gw (v := false) (decide_eq_false h1) rfl⟩⟩, fun h => absurd h (by decide)⟩,
          ⟨⟨rfl, ⟨_, 29, rfl, rfl, .inl ⟨_, rfl, gw (v := false) (decide_eq_false h1) rfl⟩⟩, fun h => absurd h (by decide)⟩,
          ⟨⟨rfl, rfl, fun _ τ hb ht hτ => R.pickF (evt (hτ 29 _ rfl)) (decide_eq_false h1) (show ev _ _ (.const (.bool false)) = some (.bool false) from rfl) rfl ht⟩,
          trivial⟩⟩⟩⟩⟩⟩⟩, rfl, rfl, rfl⟩)
        rfl (bx' := [(10, mpI D.int _)]) rfl (n' := 45) rfl (⟨[1, 5, 8, 9, 32], [(1, _), (5, _), (8, _), (9, _), (32, _)], [(10, mpI D.int _)], 45, rfl, rfl, rfl, ?_⟩)
      refine W.condF rfl (rfl) ?_
      refine W.exit ?_
      refine W.seq ?_
      refine W.line (n := 2) (by decide) (its := [⟨44, _, true⟩, ⟨4, _, true⟩]) (ks := []) (kk := []) (live := [4]) (env' := [(4, _)])
        (⟨Nat.le_of_ble_eq_true rfl, rfl,
          ⟨⟨rfl, rfl, fun _ τ hb ht hτ => R.mov (evt (hτ 8 _ rfl)) rfl ht⟩,
          ⟨⟨rfl, rfl, fun _ τ hb ht hτ => R.asg (evt (hτ 44 _ rfl)) rfl ht⟩,
          trivial⟩⟩, rfl, rfl, rfl⟩)
        rfl (bx' := [(10, mpI D.int _)]) rfl (n' := 45) rfl (⟨[4], [(4, _)], [(10, mpI D.int _)], 45, rfl, rfl, rfl, ?_⟩)
      refine W.ret ?_
      exact Ends.one' (.inr rfl) rfl (congrArg (fun n : Nat => D.int (n : Int)) ((wLoop_stop (by omega)).symm.trans hw)) rfl rfl trivial

theorem rwatch_ok (used : List Int) (gap : Int) (hu0 : used.length ≤ 1000) (hr0 : ∀ u ∈ used, -9223372036854775808 ≤ u ∧ u ≤ 9223372036854775807) (hg0 : -9223372036854775808 ≤ gap ∧ gap ≤ 9223372036854775807) : Fn Tryd.prog gl 13 [.sl none 1 (used.map D.int), .int gap] (.int ((watchR used gap : Nat) : Int)) := by
  refine Fn.of (n := 46) Tryd.func13 rfl rfl rfl (Nat.le_of_ble_eq_true rfl) fun C hC => ?_
  refine W.seq ?_
  refine W.line (n := 1) (by decide) (its := [⟨4, _, true⟩]) (ks := []) (kk := []) (live := [0, 1]) (env' := [(0, _), (1, _)])
    (⟨Nat.le_of_ble_eq_true rfl, rfl,
      ⟨⟨rfl, rfl, fun _ τ hb ht hτ => R.asg (show ev _ _ (.const (.int .i64 0)) = some (.int ((0 : Nat) : Int)) from rfl) rfl ht⟩,
      trivial⟩, rfl, rfl, rfl⟩)
    rfl (bx' := []) rfl (n' := 46) rfl (⟨[0, 1], [(0, _), (1, _)], [], 46, rfl, rfl, rfl, ?_⟩)
  refine W.seq ?_
  refine W.line (n := 3) (by decide) (its := [⟨8, _, true⟩, ⟨9, _, true⟩, ⟨1, _, true⟩]) (ks := []) (kk := []) (live := [0, 1]) (env' := [(0, _), (1, _)])
    (⟨Nat.le_of_ble_eq_true rfl, rfl,
      ⟨⟨rfl, rfl, fun _ τ hb ht hτ => R.mov (evt (hτ 1 _ rfl)) rfl ht⟩,
      ⟨⟨rfl, rfl, fun _ τ hb ht hτ => R.maxI (r := max gap 1) (evt (hτ 8 _ rfl)) (show ev _ _ (.const (.int .i64 1)) = some (.int ((1 : Nat) : Int)) from rfl) (rfl) ht⟩,
      ⟨⟨rfl, rfl, fun _ τ hb ht hτ => R.asg (evt (hτ 9 _ rfl)) rfl ht⟩,
      trivial⟩⟩⟩, rfl, rfl, rfl⟩)
    rfl (bx' := []) rfl (n' := 46) rfl (⟨[0, 1], [(0, _), (1, _)], [], 46, rfl, rfl, rfl, ?_⟩)
  refine W.seq ?_
  refine W.seq ?_
  refine W.line (n := 2) (by decide) (its := [⟨10, _, true⟩, ⟨5, _, true⟩]) (ks := []) (kk := []) (live := [0, 1, 5]) (env' := [(0, _), (1, _), (5, _)])
    (⟨Nat.le_of_ble_eq_true rfl, rfl,
      ⟨⟨rfl, rfl, fun _ τ hb ht hτ => R.mov (evt (hτ 1 _ rfl)) rfl ht⟩,
      ⟨⟨rfl, rfl, fun _ τ hb ht hτ => R.asg (evt (hτ 10 _ rfl)) rfl ht⟩,
      trivial⟩⟩, rfl, rfl, rfl⟩)
    rfl (bx' := []) rfl (n' := 46) rfl (⟨[0, 1, 5], [(0, _), (1, _), (5, _)], [], 46, rfl, rfl, rfl, ?_⟩)
  refine W.block ?_
  refine W.loop (α := {q__ : Nat // rLoop used (max gap 1) (200 - q__) q__ = watchR used gap ∧ (max gap 1) ≤ q__}) (fun q__ => ⟨46, [(0, .sl none 1 (used.map D.int)), (1, .int (max gap 1)), (5, .int ((q__.1 : Nat) : Int))], []⟩) (fun q__ => 200 - q__.1) ⟨((max gap 1).toNat), ⟨rfl, by omega⟩⟩ (by rw [show (((max gap 1).toNat : Nat) : Int) = max gap 1 by omega]) ?_
  rintro ⟨n, ⟨hw, hgn⟩⟩
  show W _ _ _ _ ⟨46, [(0, .sl none 1 (used.map D.int)), (1, .int (max gap 1)), (5, .int ((n : Nat) : Int))], []⟩
  have hw : rLoop used (max gap 1) (200 - n) n = watchR used gap := hw
  have hgn : max gap 1 ≤ (n : Int) := hgn
  refine W.seq ?_
  refine W.seq ?_
  refine W.line (n := 2) (by decide) (its := [⟨11, _, true⟩, ⟨12, _, true⟩]) (ks := []) (kk := []) (live := [0, 1, 5, 12]) (env' := [(0, _), (1, _), (5, _), (12, _)])
    (⟨Nat.le_of_ble_eq_true rfl, rfl,
      ⟨⟨rfl, rfl, fun _ τ hb ht hτ => R.mov (evt (hτ 5 _ rfl)) rfl ht⟩,
      ⟨⟨rfl, rfl, fun _ τ hb ht hτ => R.lssN (n) (200) (evt (hτ 11 _ rfl)) (show ev _ _ (.const (.int .i64 200)) = some (.int ((200 : Nat) : Int)) from rfl) ht⟩,
      trivial⟩⟩, rfl, rfl, rfl⟩)
    rfl (bx' := []) rfl (n' := 46) rfl (⟨[0, 1, 5, 12], [(0, _), (1, _), (5, _), (12, _)], [], 46, rfl, rfl, rfl, ?_⟩)
  refine W.condD rfl (fun hc12 => ?_) (fun hc12 => ?_)
  · refine W.skip ?_
    refine W.seq ?_
    refine W.block ?_
    refine W.seq ?_
    refine W.line (n := 1) (by decide) (its := [⟨6, _, true⟩]) (ks := []) (kk := []) (live := [0, 1, 5, 6]) (env' := [(0, _), (1, _), (5, _), (6, _)])
      (⟨Nat.le_of_ble_eq_true rfl, rfl,
        ⟨⟨rfl, rfl, fun _ τ hb ht hτ => R.asg (show ev _ _ (.const (.bool true)) = some (.bool true) from rfl) rfl ht⟩,
        trivial⟩, rfl, rfl, rfl⟩)
      rfl (bx' := []) rfl (n' := 46) rfl (⟨[0, 1, 5, 6], [(0, _), (1, _), (5, _), (6, _)], [], 46, rfl, rfl, rfl, ?_⟩)
    refine W.seq ?_
    refine W.seq ?_
    refine W.line (n := 1) (by decide) (its := [⟨7, _, true⟩]) (ks := []) (kk := []) (live := [0, 1, 5, 6, 7]) (env' := [(0, _), (1, _), (5, _), (6, _), (7, _)])
      (⟨Nat.le_of_ble_eq_true rfl, rfl,
        ⟨⟨rfl, rfl, fun _ τ hb ht hτ => R.asg (show ev _ _ (.const (.int .i64 0)) = some (.int ((0 : Nat) : Int)) from rfl) rfl ht⟩,
        trivial⟩, rfl, rfl, rfl⟩)
      rfl (bx' := []) rfl (n' := 46) rfl (⟨[0, 1, 5, 6, 7], [(0, _), (1, _), (5, _), (6, _), (7, _)], [], 46, rfl, rfl, rfl, ?_⟩)
    refine W.block ?_
    refine W.loop (α := {q__ : Nat // q__ ≤ used.length}) (fun q__ => ⟨46, [(0, .sl none 1 (used.map D.int)), (1, .int (max gap 1)), (5, .int ((n : Nat) : Int)), (6, .bool (cleanB (used.take q__.1) (max gap 1) n)), (7, .int ((q__.1 : Nat) : Int))], []⟩) (fun q__ => used.length - q__.1) ⟨(0), (by first | omega | (simp only [List.length_map, List.length_append, List.length_cons, List.length_nil, List.length_take, List.length_drop, List.length_replicate]; omega) | (simp; omega))⟩ rfl ?_
    rintro ⟨i, hi⟩
    show W _ _ _ _ ⟨46, [(0, .sl none 1 (used.map D.int)), (1, .int (max gap 1)), (5, .int ((n : Nat) : Int)), (6, .bool (cleanB (used.take i) (max gap 1) n)), (7, .int ((i : Nat) : Int))], []⟩
    refine W.seq ?_
    refine W.seq ?_
    refine W.line (n := 4) (by decide) (its := [⟨15, _, true⟩, ⟨16, _, true⟩, ⟨17, _, true⟩, ⟨18, _, true⟩]) (ks := []) (kk := []) (live := [0, 1, 5, 6, 7, 18]) (env' := [(0, _), (1, _), (5, _), (6, _), (7, _), (18, _)])
      (⟨Nat.le_of_ble_eq_true rfl, rfl,
        ⟨⟨rfl, rfl, fun _ τ hb ht hτ => R.mov (evt (hτ 7 _ rfl)) rfl ht⟩,
        ⟨⟨rfl, rfl, fun _ τ hb ht hτ => R.mov (evt (hτ 0 _ rfl)) rfl ht⟩,
        ⟨⟨rfl, rfl, fun _ τ hb ht hτ => R.lenE (SC.sl (hτ 16 _ rfl)) (List.length_map _) ht⟩,
        ⟨⟨rfl, rfl, fun _ τ hb ht hτ => R.lssN (i) (used.length) (evt (hτ 15 _ rfl)) (evt (hτ 17 _ rfl)) ht⟩,
        trivial⟩⟩⟩⟩, rfl, rfl, rfl⟩)
      rfl (bx' := []) rfl (n' := 46) rfl (⟨[0, 1, 5, 6, 7, 18], [(0, _), (1, _), (5, _), (6, _), (7, _), (18, _)], [], 46, rfl, rfl, rfl, ?_⟩)
    refine W.condD rfl (fun hc18 => ?_) (fun hc18 => ?_)
    · refine W.skip ?_
      refine W.seq ?_
      refine W.block ?_
      refine W.seq ?_
      by_cases h1 : used[i]! ≥ 0
      · by_cases h2 : used[i]! < n
        · refine W.line (n := 23) (by decide) (its := [⟨21, _, true⟩, ⟨22, _, true⟩, ⟨23, _, true⟩, ⟨24, _, true⟩, ⟨25, _, true⟩, ⟨26, _, true⟩, ⟨27, _, true⟩, ⟨28, _, true⟩, ⟨29, _, true⟩, ⟨30, _, true⟩, ⟨31, _, true⟩, ⟨32, _, true⟩, ⟨33, _, true⟩, ⟨34, _, true⟩, ⟨35, _, true⟩, ⟨36, _, true⟩, ⟨37, _, true⟩, ⟨38, _, true⟩, ⟨39, _, true⟩, ⟨40, _, true⟩, ⟨41, _, true⟩, ⟨42, _, true⟩, ⟨43, _, true⟩]) (ks := []) (kk := []) (live := [0, 1, 5, 6, 7, 43]) (env' := [(0, _), (1, _), (5, _), (6, _), (7, _), (43, _)])
            (⟨Nat.le_of_ble_eq_true rfl, rfl,
              ⟨⟨rfl, rfl, fun _ τ hb ht hτ => R.mov (evt (hτ 0 _ rfl)) rfl ht⟩,
              ⟨⟨rfl, rfl, fun _ τ hb ht hτ => R.mov (evt (hτ 7 _ rfl)) rfl ht⟩,
              ⟨⟨rfl, rfl, fun _ τ hb ht hτ => R.idxN (i) (SC.sl (hτ 21 _ rfl)) (evoI (evt (hτ 22 _ rfl))) rfl (by first | omega | (simp only [List.length_map, List.length_append, List.length_cons, List.length_nil, List.length_take, List.length_drop, List.length_replicate]; omega) | (simp; omega)) ht (by decide)⟩,
              ⟨⟨rfl, rfl, fun _ τ hb ht hτ => R.ldE (hτ 23 _ rfl) (SC.sl (hτ 21 _ rfl)) (map_get! (l := used) (by first | omega | (simp only [List.length_map, List.length_append, List.length_cons, List.length_nil, List.length_take, List.length_drop, List.length_replicate]; omega) | (simp; omega))) rfl rfl rfl rfl ht⟩,
              ⟨⟨rfl, rfl, fun _ τ hb ht hτ => R.bin (evt (hτ 24 _ rfl)) (show ev _ _ (.const (.int .i64 0)) = some (.int ((0 : Nat) : Int)) from rfl) rfl trivial ht⟩,
              ⟨⟨rfl, rfl, fun _ τ hb ht hτ => R.mov (evt (hτ 25 _ rfl)) rfl ht⟩,
              ⟨⟨rfl, ⟨_, 26, rfl, rfl, .inl ⟨_, rfl, gw (v := true) (decide_eq_true h1) rfl⟩⟩, fun _ τ hb ht hτ => R.mov (evt (hτ 0 _ rfl)) rfl ht⟩,
              ⟨⟨rfl, ⟨_, 26, rfl, rfl, .inl ⟨_, rfl, gw (v := true) (decide_eq_true h1) rfl⟩⟩, fun _ τ hb ht hτ => R.mov (evt (hτ 7 _ rfl)) rfl ht⟩,
              ⟨⟨rfl, ⟨_, 26, rfl, rfl, .inl ⟨_, rfl, gw (v := true) (decide_eq_true h1) rfl⟩⟩, fun _ τ hb ht hτ => R.idxN (i) (SC.sl (hτ 27 _ rfl)) (evoI (evt (hτ 28 _ rfl))) rfl (by first | omega | (simp only [List.length_map, List.length_append, List.length_cons, List.length_nil, List.length_take, List.length_drop, List.length_replicate]; omega) | (simp; omega)) ht (by decide)⟩,
              ⟨⟨rfl, ⟨_, 26, rfl, rfl, .inl ⟨_, rfl, gw (v := true) (decide_eq_true h1) rfl⟩⟩, fun _ τ hb ht hτ => R.ldE (hτ 29 _ rfl) (SC.sl (hτ 27 _ rfl)) (map_get! (l := used) (by first | omega | (simp only [List.length_map, List.length_append, List.length_cons, List.length_nil, List.length_take, List.length_drop, List.length_replicate]; omega) | (simp; omega))) rfl rfl rfl rfl ht⟩,
              ⟨⟨rfl, ⟨_, 26, rfl, rfl, .inl ⟨_, rfl, gw (v := true) (decide_eq_true h1) rfl⟩⟩, fun _ τ hb ht hτ => R.mov (evt (hτ 5 _ rfl)) rfl ht⟩,
              ⟨⟨rfl, ⟨_, 26, rfl, rfl, .inl ⟨_, rfl, gw (v := true) (decide_eq_true h1) rfl⟩⟩, fun _ τ hb ht hτ => R.bin (evt (hτ 30 _ rfl)) (evt (hτ 31 _ rfl)) rfl trivial ht⟩,
              ⟨⟨rfl, rfl, fun _ τ hb ht hτ => R.pickT (evt (hτ 26 _ rfl)) (decide_eq_true h1) (evt (hτ 32 _ rfl)) rfl ht⟩,
              ⟨⟨rfl, rfl, fun _ τ hb ht hτ => R.mov (evt (hτ 33 _ rfl)) rfl ht⟩,
              ⟨⟨rfl, ⟨_, 34, rfl, rfl, .inl ⟨_, rfl, gw (v := true) (decide_eq_true h2) rfl⟩⟩, fun _ τ hb ht hτ => R.mov (evt (hτ 0 _ rfl)) rfl ht⟩,
              ⟨⟨rfl, ⟨_, 34, rfl, rfl, .inl ⟨_, rfl, gw (v := true) (decide_eq_true h2) rfl⟩⟩, fun _ τ hb ht hτ => R.mov (evt (hτ 7 _ rfl)) rfl ht⟩,
              ⟨⟨rfl, ⟨_, 34, rfl, rfl, .inl ⟨_, rfl, gw (v := true) (decide_eq_true h2) rfl⟩⟩, fun _ τ hb ht hτ => R.idxN (i) (SC.sl (hτ 35 _ rfl)) (evoI (evt (hτ 36 _ rfl))) rfl (by first | omega | (simp only [List.length_map, List.length_append, List.length_cons, List.length_nil, List.length_take, List.length_drop, List.length_replicate]; omega) | (simp; omega)) ht (by decide)⟩,
              ⟨⟨rfl, ⟨_, 34, rfl, rfl, .inl ⟨_, rfl, gw (v := true) (decide_eq_true h2) rfl⟩⟩, fun _ τ hb ht hτ => R.ldE (hτ 37 _ rfl) (SC.sl (hτ 35 _ rfl)) (map_get! (l := used) (by first | omega | (simp only [List.length_map, List.length_append, List.length_cons, List.length_nil, List.length_take, List.length_drop, List.length_replicate]; omega) | (simp; omega))) rfl rfl rfl rfl ht⟩,
              ⟨⟨rfl, ⟨_, 34, rfl, rfl, .inl ⟨_, rfl, gw (v := true) (decide_eq_true h2) rfl⟩⟩, fun _ τ hb ht hτ => R.mov (evt (hτ 5 _ rfl)) rfl ht⟩,
              ⟨⟨rfl, ⟨_, 34, rfl, rfl, .inl ⟨_, rfl, gw (v := true) (decide_eq_true h2) rfl⟩⟩, fun _ τ hb ht hτ => R.mov (evt (hτ 1 _ rfl)) rfl ht⟩,
              ⟨⟨rfl, ⟨_, 34, rfl, rfl, .inl ⟨_, rfl, gw (v := true) (decide_eq_true h2) rfl⟩⟩, fun _ τ hb ht hτ => R.binE (d := .int ((n : Int) - max gap 1)) (evt (hτ 39 _ rfl)) (evt (hτ 40 _ rfl)) rfl trivial (wr_eq rfl (by omega) (by omega)) ht⟩,
              ⟨⟨rfl, ⟨_, 34, rfl, rfl, .inl ⟨_, rfl, gw (v := true) (decide_eq_true h2) rfl⟩⟩, fun _ τ hb ht hτ => R.bin (evt (hτ 38 _ rfl)) (evt (hτ 41 _ rfl)) rfl trivial ht⟩,
              ⟨⟨rfl, rfl, fun _ τ hb ht hτ => R.pickT (evt (hτ 34 _ rfl)) (decide_eq_true h2) (evt (hτ 42 _ rfl)) rfl ht⟩,
              trivial⟩⟩⟩⟩⟩⟩⟩⟩⟩⟩⟩⟩⟩⟩⟩⟩⟩⟩⟩⟩⟩⟩⟩, rfl, rfl, rfl⟩)
            rfl (bx' := []) rfl (n' := 46) rfl (⟨[0, 1, 5, 6, 7, 43], [(0, _), (1, _), (5, _), (6, _), (7, _), (43, _)], [], 46, rfl, rfl, rfl, ?_⟩)
          refine W.cond rfl (fun hc43 => ?_) (fun hc43 => ?_)
          · refine W.line (n := 1) (by decide) (its := [⟨6, _, true⟩]) (ks := []) (kk := []) (live := [0, 1, 5, 6, 7]) (env' := [(0, _), (1, _), (5, _), (6, _), (7, _)])
              (⟨Nat.le_of_ble_eq_true rfl, rfl,
                ⟨⟨rfl, rfl, fun _ τ hb ht hτ => R.asg (show ev _ _ (.const (.bool false)) = some (.bool false) from rfl) rfl ht⟩,
                trivial⟩, rfl, rfl, rfl⟩)
              rfl (bx' := []) rfl (n' := 46) rfl (⟨[0, 1, 5, 6, 7], [(0, _), (1, _), (5, _), (6, _), (7, _)], [], 46, rfl, rfl, rfl, ?_⟩)
            refine W.line (n := 3) (by decide) (its := [⟨19, _, true⟩, ⟨20, _, true⟩, ⟨7, _, true⟩]) (ks := []) (kk := []) (live := [0, 1, 5, 6, 7]) (env' := [(0, _), (1, _), (5, _), (6, _), (7, _)])
              (⟨Nat.le_of_ble_eq_true rfl, rfl,
                ⟨⟨rfl, rfl, fun _ τ hb ht hτ => R.mov (evt (hτ 7 _ rfl)) rfl ht⟩,
                ⟨⟨rfl, rfl, fun _ τ hb ht hτ => R.addN (i) (1) (evt (hτ 19 _ rfl)) (show ev _ _ (.const (.int .i64 1)) = some (.int ((1 : Nat) : Int)) from rfl) (by first | omega | (simp only [List.length_map, List.length_append, List.length_cons, List.length_nil, List.length_take, List.length_drop, List.length_replicate]; omega) | (simp; omega)) ht⟩,
                ⟨⟨rfl, rfl, fun _ τ hb ht hτ => R.asg (evt (hτ 20 _ rfl)) rfl ht⟩,
                trivial⟩⟩⟩, rfl, rfl, rfl⟩)
              rfl (bx' := []) rfl (n' := 46) rfl (⟨[0, 1, 5, 6, 7], [(0, _), (1, _), (5, _), (6, _), (7, _)], [], 46, rfl, rfl, rfl, ?_⟩)
            exact ⟨⟨(i + 1), (by first | omega | (simp only [List.length_map, List.length_append, List.length_cons, List.length_nil, List.length_take, List.length_drop, List.length_replicate]; omega) | (simp; omega))⟩, (by rw [cleanB_take used _ _ i hc18]; first | (rw [decide_eq_true h1, decide_eq_true h2, hc43, Bool.true_and, Bool.true_and]; simp; done) | (rw [decide_eq_true h1, decide_eq_false h2]; simp) | (rw [decide_eq_false h1]; simp)), (by simp only []; omega)⟩
          · refine W.skip ?_
            refine W.line (n := 3) (by decide) (its := [⟨19, _, true⟩, ⟨20, _, true⟩, ⟨7, _, true⟩]) (ks := []) (kk := []) (live := [0, 1, 5, 6, 7]) (env' := [(0, _), (1, _), (5, _), (6, _), (7, _)])
              (⟨Nat.le_of_ble_eq_true rfl, rfl,
                ⟨⟨rfl, rfl, fun _ τ hb ht hτ => R.mov (evt (hτ 7 _ rfl)) rfl ht⟩,
                ⟨⟨rfl, rfl, fun _ τ hb ht hτ => R.addN (i) (1) (evt (hτ 19 _ rfl)) (show ev _ _ (.const (.int .i64 1)) = some (.int ((1 : Nat) : Int)) from rfl) (by first | omega | (simp only [List.length_map, List.length_append, List.length_cons, List.length_nil, List.length_take, List.length_drop, List.length_replicate]; omega) | (simp; omega)) ht⟩,
                ⟨⟨rfl, rfl, fun _ τ hb ht hτ => R.asg (evt (hτ 20 _ rfl)) rfl ht⟩,
                trivial⟩⟩⟩, rfl, rfl, rfl⟩)
              rfl (bx' := []) rfl (n' := 46) rfl (⟨[0, 1, 5, 6, 7], [(0, _), (1, _), (5, _), (6, _), (7, _)], [], 46, rfl, rfl, rfl, ?_⟩)
            exact ⟨⟨(i + 1), (by first | omega | (simp only [List.length_map, List.length_append, List.length_cons, List.length_nil, List.length_take, List.length_drop, List.length_replicate]; omega) | (simp; omega))⟩, (by rw [cleanB_take used _ _ i hc18]; first | (rw [decide_eq_true h1, decide_eq_true h2, hc43, Bool.true_and, Bool.true_and]; simp; done) | (rw [decide_eq_true h1, decide_eq_false h2]; simp) | (rw [decide_eq_false h1]; simp)), (by simp only []; omega)⟩
        · refine W.line (n := 23) (by decide) (its := [⟨21, _, true⟩, ⟨22, _, true⟩, ⟨23, _, true⟩, ⟨24, _, true⟩, ⟨25, _, true⟩, ⟨26, _, true⟩, ⟨27, _, true⟩, ⟨28, _, true⟩, ⟨29, _, true⟩, ⟨30, _, true⟩, ⟨31, _, true⟩, ⟨32, _, true⟩, ⟨33, _, true⟩, ⟨34, _, true⟩, ⟨35, .dead, false⟩, ⟨36, .dead, false⟩, ⟨37, .dead, false⟩, ⟨38, .dead, false⟩, ⟨39, .dead, false⟩, ⟨40, .dead, false⟩, ⟨41, .dead, false⟩, ⟨42, .dead, false⟩, ⟨43, _, true⟩]) (ks := []) (kk := []) (live := [0, 1, 5, 6, 7, 43]) (env' := [(0, _), (1, _), (5, _), (6, _), (7, _), (43, _)])
            (⟨Nat.le_of_ble_eq_true rfl, rfl,
              ⟨⟨rfl, rfl, fun _ τ hb ht hτ => R.mov (evt (hτ 0 _ rfl)) rfl ht⟩,
              ⟨⟨rfl, rfl, fun _ τ hb ht hτ => R.mov (evt (hτ 7 _ rfl)) rfl ht⟩,
              ⟨⟨rfl, rfl, fun _ τ hb ht hτ => R.idxN (i) (SC.sl (hτ 21 _ rfl)) (evoI (evt (hτ 22 _ rfl))) rfl (by first | omega | (simp only [List.length_map, List.length_append, List.length_cons, List.length_nil, List.length_take, List.length_drop, List.length_replicate]; omega) | (simp; omega)) ht (by decide)⟩,
              ⟨⟨rfl, rfl, fun _ τ hb ht hτ => R.ldE (hτ 23 _ rfl) (SC.sl (hτ 21 _ rfl)) (map_get! (l := used) (by first | omega | (simp only [List.length_map, List.length_append, List.length_cons, List.length_nil, List.length_take, List.length_drop, List.length_replicate]; omega) | (simp; omega))) rfl rfl rfl rfl ht⟩,
              ⟨⟨rfl, rfl, fun _ τ hb ht hτ => R.bin (evt (hτ 24 _ rfl)) (show ev _ _ (.const (.int .i64 0)) = some (.int ((0 : Nat) : Int)) from rfl) rfl trivial ht⟩,
              ⟨⟨rfl, rfl, fun _ τ hb ht hτ => R.mov (evt (hτ 25 _ rfl)) rfl ht⟩,
              ⟨⟨rfl, ⟨_, 26, rfl, rfl, .inl ⟨_, rfl, gw (v := true) (decide_eq_true h1) rfl⟩⟩, fun _ τ hb ht hτ => R.mov (evt (hτ 0 _ rfl)) rfl ht⟩,
              ⟨⟨rfl, ⟨_, 26, rfl, rfl, .inl ⟨_, rfl, gw (v := true) (decide_eq_true h1) rfl⟩⟩, fun _ τ hb ht hτ => R.mov (evt (hτ 7 _ rfl)) rfl ht⟩,
              ⟨⟨rfl, ⟨_, 26, rfl, rfl, .inl ⟨_, rfl, gw (v := true) (decide_eq_true h1) rfl⟩⟩, fun _ τ hb ht hτ => R.idxN (i) (SC.sl (hτ 27 _ rfl)) (evoI (evt (hτ 28 _ rfl))) rfl (by first | omega | (simp only [List.length_map, List.length_append, List.length_cons, List.length_nil, List.length_take, List.length_drop, List.length_replicate]; omega) | (simp; omega)) ht (by decide)⟩,
              ⟨⟨rfl, ⟨_, 26, rfl, rfl, .inl ⟨_, rfl, gw (v := true) (decide_eq_true h1) rfl⟩⟩, fun _ τ hb ht hτ => R.ldE (hτ 29 _ rfl) (SC.sl (hτ 27 _ rfl)) (map_get! (l := used) (by first | omega | (simp only [List.length_map, List.length_append, List.length_cons, List.length_nil, List.length_take, List.length_drop, List.length_replicate]; omega) | (simp; omega))) rfl rfl rfl rfl ht⟩,
              ⟨⟨rfl, ⟨_, 26, rfl, rfl, .inl ⟨_, rfl, gw (v := true) (decide_eq_true h1) rfl⟩⟩, fun _ τ hb ht hτ => R.mov (evt (hτ 5 _ rfl)) rfl ht⟩,
              ⟨⟨rfl, ⟨_, 26, rfl, rfl, .inl ⟨_, rfl, gw (v := true) (decide_eq_true h1) rfl⟩⟩, fun _ τ hb ht hτ => R.bin (evt (hτ 30 _ rfl)) (evt (hτ 31 _ rfl)) rfl trivial ht⟩,
              ⟨⟨rfl, rfl, fun _ τ hb ht hτ => R.pickT (evt (hτ 26 _ rfl)) (decide_eq_true h1) (evt (hτ 32 _ rfl)) rfl ht⟩,
              ⟨⟨rfl, rfl, fun _ τ hb ht hτ => R.mov (evt (hτ 33 _ rfl)) rfl ht⟩,
              ⟨⟨rfl, ⟨_, 34, rfl, rfl, .inl ⟨_, rfl, gw (v := false) (decide_eq_false h2) rfl⟩⟩, fun h => absurd h (by decide)⟩,
              ⟨⟨rfl, ⟨_, 34, rfl, rfl, .inl ⟨_, rfl, gw (v := false) (decide_eq_false h2) rfl⟩⟩, fun h => absurd h (by decide)⟩,
              ⟨⟨rfl, ⟨_, 34, rfl, rfl, .inl ⟨_, rfl, gw (v := false) (decide_eq_false h2) rfl⟩⟩, fun h => absurd h (by decide)⟩,
              ⟨⟨rfl, ⟨_, 34, rfl, rfl, .inl ⟨_, rfl, gw (v := false) (decide_eq_false h2) rfl⟩⟩, fun h => absurd h (by decide)⟩,
              ⟨⟨rfl, ⟨_, 34, rfl, rfl, .inl ⟨_, rfl, gw (v := false) (decide_eq_false h2) rfl⟩⟩, fun h => absurd h (by decide)⟩,
              ⟨⟨rfl, ⟨_, 34, rfl, rfl, .inl ⟨_, rfl, gw (v := false) (decide_eq_false h2) rfl⟩⟩, fun h => absurd h (by decide)⟩,
              ⟨⟨rfl, ⟨_, 34, rfl, rfl, .inl ⟨_, rfl, gw (v := false) (decide_eq_false h2) rfl⟩⟩, fun h => absurd h (by decide)⟩,
              ⟨⟨rfl, ⟨_, 34, rfl, rfl, .inl ⟨_, rfl, gw (v := false) (decide_eq_false h2) rfl⟩⟩, fun h => absurd h (by decide)⟩,
              ⟨⟨rfl, rfl, fun _ τ hb ht hτ => R.pickF (evt (hτ 34 _ rfl)) (decide_eq_false h2) (show ev _ _ (.const (.bool false)) = some (.bool false) from rfl) rfl ht⟩,
              trivial⟩⟩⟩⟩⟩⟩⟩⟩⟩⟩⟩⟩⟩⟩⟩⟩⟩⟩⟩⟩⟩⟩⟩, rfl, rfl, rfl⟩)
            rfl (bx' := []) rfl (n' := 46) rfl (⟨[0, 1, 5, 6, 7, 43], [(0, _), (1, _), (5, _), (6, _), (7, _), (43, _)], [], 46, rfl, rfl, rfl, ?_⟩)
          refine W.condF rfl (rfl) ?_
          refine W.skip ?_
          refine W.line (n := 3) (by decide) (its := [⟨19, _, true⟩, ⟨20, _, true⟩, ⟨7, _, true⟩]) (ks := []) (kk := []) (live := [0, 1, 5, 6, 7]) (env' := [(0, _), (1, _), (5, _), (6, _), (7, _)])
            (⟨Nat.le_of_ble_eq_true rfl, rfl,
              ⟨⟨rfl, rfl, fun _ τ hb ht hτ => R.mov (evt (hτ 7 _ rfl)) rfl ht⟩,
              ⟨⟨rfl, rfl, fun _ τ hb ht hτ => R.addN (i) (1) (evt (hτ 19 _ rfl)) (show ev _ _ (.const (.int .i64 1)) = some (.int ((1 : Nat) : Int)) from rfl) (by first | omega | (simp only [List.length_map, List.length_append, List.length_cons, List.length_nil, List.length_take, List.length_drop, List.length_replicate]; omega) | (simp; omega)) ht⟩,
              ⟨⟨rfl, rfl, fun _ τ hb ht hτ => R.asg (evt (hτ 20 _ rfl)) rfl ht⟩,
              trivial⟩⟩⟩, rfl, rfl, rfl⟩)
            rfl (bx' := []) rfl (n' := 46) rfl (⟨[0, 1, 5, 6, 7], [(0, _), (1, _), (5, _), (6, _), (7, _)], [], 46, rfl, rfl, rfl, ?_⟩)
          exact ⟨⟨(i + 1), (by first | omega | (simp only [List.length_map, List.length_append, List.length_cons, List.length_nil, List.length_take, List.length_drop, List.length_replicate]; omega) | (simp; omega))⟩, (by rw [cleanB_take used _ _ i hc18]; first | (rw [decide_eq_true h1, decide_eq_true h2, hc43, Bool.true_and, Bool.true_and]; simp; done) | (rw [decide_eq_true h1, decide_eq_false h2]; simp) | (rw [decide_eq_false h1]; simp)), (by simp only []; omega)⟩
      · refine W.line (n := 23) (by decide) (its := [⟨21, _, true⟩, ⟨22, _, true⟩, ⟨23, _, true⟩, ⟨24, _, true⟩, ⟨25, _, true⟩, ⟨26, _, true⟩, ⟨27, .dead, false⟩, ⟨28, .dead, false⟩, ⟨29, .dead, false⟩, ⟨30, .dead, false⟩, ⟨31, .dead, false⟩, ⟨32, .dead, false⟩, ⟨33, _, true⟩, ⟨34, _, true⟩, ⟨35, .dead, false⟩, ⟨36, .dead, false⟩, ⟨37, .dead, false⟩, ⟨38, .dead, false⟩, ⟨39, .dead, false⟩, ⟨40, .dead, false⟩, ⟨41, .dead, false⟩, ⟨42, .dead, false⟩, ⟨43, _, true⟩]) (ks := []) (kk := []) (live := [0, 1, 5, 6, 7, 43]) (env' := [(0, _), (1, _), (5, _), (6, _), (7, _), (43, _)])
          (⟨Nat.le_of_ble_eq_true rfl, rfl,
            ⟨⟨rfl, rfl, fun _ τ hb ht hτ => R.mov (evt (hτ 0 _ rfl)) rfl ht⟩,
            ⟨⟨rfl, rfl, fun _ τ hb ht hτ => R.mov (evt (hτ 7 _ rfl)) rfl ht⟩,
            ⟨⟨rfl, rfl, fun _ τ hb ht hτ => R.idxN (i) (SC.sl (hτ 21 _ rfl)) (evoI (evt (hτ 22 _ rfl))) rfl (by first | omega | (simp only [List.length_map, List.length_append, List.length_cons, List.length_nil, List.length_take, List.length_drop, List.length_replicate]; omega) | (simp; omega)) ht (by decide)⟩,
            ⟨⟨rfl, rfl, fun _ τ hb ht hτ => R.ldE (hτ 23 _ rfl) (SC.sl (hτ 21 _ rfl)) (map_get! (l := used) (by first | omega | (simp only [List.length_map, List.length_append, List.length_cons, List.length_nil, List.length_take, List.length_drop, List.length_replicate]; omega) | (simp; omega))) rfl rfl rfl rfl ht⟩,
            ⟨⟨rfl, rfl, fun _ τ hb ht hτ => R.bin (evt (hτ 24 _ rfl)) (show ev _ _ (.const (.int .i64 0)) = some (.int ((0 : Nat) : Int)) from rfl) rfl trivial ht⟩,
            ⟨⟨rfl, rfl, fun _ τ hb ht hτ => R.mov (evt (hτ 25 _ rfl)) rfl ht⟩,
            ⟨⟨rfl, ⟨_, 26, rfl, rfl, .inl ⟨_, rfl, gw (v := false) (decide_eq_false h1) rfl⟩⟩, fun h => absurd h (by decide)⟩,
            ⟨⟨rfl, ⟨_, 26, rfl, rfl, .inl ⟨_, rfl, gw (v := false) (decide_eq_false h1) rfl⟩⟩, fun h => absurd h (by decide)⟩,
            ⟨⟨rfl, ⟨_, 26, rfl, rfl, .inl ⟨_, rfl, gw (v := false) (decide_eq_false h1) rfl⟩⟩, fun h => absurd h (by decide)⟩,
            ⟨⟨rfl, ⟨_, 26, rfl, rfl, .inl ⟨_, rfl, gw (v := false) (decide_eq_false h1) rfl⟩⟩, fun h => absurd h (by decide)⟩,
            ⟨⟨rfl, ⟨_, 26, rfl, rfl, .inl ⟨_, rfl, gw (v := false) (decide_eq_false h1) rfl⟩⟩, fun h => absurd h (by decide)⟩,
            ⟨⟨rfl, ⟨_, 26, rfl, rfl, .inl ⟨_, rfl, gw (v := false) (decide_eq_false h1) rfl⟩⟩, fun h => absurd h (by decide)⟩,
            ⟨⟨rfl, rfl, fun _ τ hb ht hτ => R.pickF (evt (hτ 26 _ rfl)) (decide_eq_false h1) (show ev _ _ (.const (.bool false)) = some (.bool false) from rfl) rfl ht⟩,
            ⟨⟨rfl, rfl, fun _ τ hb ht hτ => R.mov (evt (hτ 33 _ rfl)) rfl ht⟩,
            ⟨⟨rfl, ⟨_, 34, rfl, rfl, .inl ⟨_, rfl, gw (v := false) (rfl) rfl⟩⟩, fun h => absurd h (by decide)⟩,
            ⟨⟨rfl, ⟨_, 34, rfl, rfl, .inl ⟨_, rfl, gw (v := false) (rfl) rfl⟩⟩, fun h => absurd h (by decide)⟩,
            ⟨⟨rfl, ⟨_, 34, rfl, rfl, .inl ⟨_, rfl, gw (v := false) (rfl) rfl⟩⟩, fun h => absurd h (by decide)⟩,
            ⟨⟨rfl, ⟨_, 34, rfl, rfl, .inl ⟨_, rfl, gw (v := false) (rfl) rfl⟩⟩, fun h => absurd h (by decide)⟩,
            ⟨⟨rfl, ⟨_, 34, rfl, rfl, .inl ⟨_, rfl, gw (v := false) (rfl) rfl⟩⟩, fun h => absurd h (by decide)⟩,
            ⟨⟨rfl, ⟨_, 34, rfl, rfl, .inl ⟨_, rfl, gw (v := false) (rfl) rfl⟩⟩, fun h => absurd h (by decide)⟩,
            ⟨⟨rfl, ⟨_, 34, rfl, rfl, .inl ⟨_, rfl, gw (v := false) (rfl) rfl⟩⟩, fun h => absurd h (by decide)⟩,
            ⟨⟨rfl, ⟨_, 34, rfl, rfl, .inl ⟨_, rfl, gw (v := false) (rfl) rfl⟩⟩, fun h => absurd h (by decide)⟩,
            ⟨⟨rfl, rfl, fun _ τ hb ht hτ => R.pickF (evt (hτ 34 _ rfl)) (rfl) (show ev _ _ (.const (.bool false)) = some (.bool false) from rfl) rfl ht⟩,
            trivial⟩⟩⟩⟩⟩⟩⟩⟩⟩⟩⟩⟩⟩⟩⟩⟩⟩⟩⟩⟩⟩⟩⟩, rfl, rfl, rfl⟩)
          rfl (bx' := []) rfl (n' := 46) rfl (⟨[0, 1, 5, 6, 7, 43], [(0, _), (1, _), (5, _), (6, _), (7, _), (43, _)], [], 46, rfl, rfl, rfl, ?_⟩)
        refine W.condF rfl (rfl) ?_
        refine W.skip ?_
        refine W.line (n := 3) (by decide) (its := [⟨19, _, true⟩, ⟨20, _, true⟩, ⟨7, _, true⟩]) (ks := []) (kk := []) (live := [0, 1, 5, 6, 7]) (env' := [(0, _), (1, _), (5, _), (6, _), (7, _)])
          (⟨Nat.le_of_ble_eq_true rfl, rfl,
            ⟨⟨rfl, rfl, fun _ τ hb ht hτ => R.mov (evt (hτ 7 _ rfl)) rfl ht⟩,
            ⟨⟨rfl, rfl, fun _ τ hb ht hτ => R.addN (i) (1) (evt (hτ 19 _ rfl)) (show ev _ _ (.const (.int .i64 1)) = some (.int ((1 : Nat) : Int)) from rfl) (by first | omega | (simp only [List.length_map, List.length_append, List.length_cons, List.length_nil, List.length_take, List.length_drop, List.length_replicate]; omega) | (simp; omega)) ht⟩,
            ⟨⟨rfl, rfl, fun _ τ hb ht hτ => R.asg (evt (hτ 20 _ rfl)) rfl ht⟩,
            trivial⟩⟩⟩, rfl, rfl, rfl⟩)
          rfl (bx' := []) rfl (n' := 46) rfl (⟨[0, 1, 5, 6, 7], [(0, _), (1, _), (5, _), (6, _), (7, _)], [], 46, rfl, rfl, rfl, ?_⟩)
        exact ⟨⟨(i + 1), (by first | omega | (simp only [List.length_map, List.length_append, List.length_cons, List.length_nil, List.length_take, List.length_drop, List.length_replicate]; omega) | (simp; omega))⟩, (by rw [cleanB_take used _ _ i hc18]; first | (rw [decide_eq_true h1, decide_eq_true h2, hc43, Bool.true_and, Bool.true_and]; simp; done) | (rw [decide_eq_true h1, decide_eq_false h2]; simp) | (rw [decide_eq_false h1]; simp)), (by simp only []; omega)⟩
    · obtain rfl : i = used.length := by omega
      refine W.exit ?_
      refine W.seq ?_
      refine W.line (n := 1) (by decide) (its := [⟨44, _, true⟩]) (ks := []) (kk := []) (live := [0, 1, 5, 44]) (env' := [(0, _), (1, _), (5, _), (44, _)])
        (⟨Nat.le_of_ble_eq_true rfl, rfl,
          ⟨⟨rfl, rfl, fun _ τ hb ht hτ => R.mov (evt (hτ 6 _ rfl)) rfl ht⟩,
          trivial⟩, rfl, rfl, rfl⟩)
        rfl (bx' := []) rfl (n' := 46) rfl (⟨[0, 1, 5, 44], [(0, _), (1, _), (5, _), (44, _)], [], 46, rfl, rfl, rfl, ?_⟩)
      refine W.cond rfl (fun hc44 => ?_) (fun hc44 => ?_)
      · refine W.seq ?_
        refine W.line (n := 2) (by decide) (its := [⟨45, _, true⟩, ⟨4, _, true⟩]) (ks := []) (kk := []) (live := [4]) (env' := [(4, _)])
          (⟨Nat.le_of_ble_eq_true rfl, rfl,
            ⟨⟨rfl, rfl, fun _ τ hb ht hτ => R.mov (evt (hτ 5 _ rfl)) rfl ht⟩,
            ⟨⟨rfl, rfl, fun _ τ hb ht hτ => R.asg (evt (hτ 45 _ rfl)) rfl ht⟩,
            trivial⟩⟩, rfl, rfl, rfl⟩)
          rfl (bx' := []) rfl (n' := 46) rfl (⟨[4], [(4, _)], [], 46, rfl, rfl, rfl, ?_⟩)
        refine W.ret ?_
        exact Ends.one' (.inr rfl) rfl (congrArg (fun n : Nat => D.int (n : Int)) (by rw [← hw, rLoop_step hc12]; rw [if_pos (by rw [List.take_length] at hc44; exact hc44)])) rfl rfl trivial
      · refine W.skip ?_
        refine W.line (n := 3) (by decide) (its := [⟨13, _, true⟩, ⟨14, _, true⟩, ⟨5, _, true⟩]) (ks := []) (kk := []) (live := [0, 1, 5]) (env' := [(0, _), (1, _), (5, _)])
          (⟨Nat.le_of_ble_eq_true rfl, rfl,
            ⟨⟨rfl, rfl, fun _ τ hb ht hτ => R.mov (evt (hτ 5 _ rfl)) rfl ht⟩,
            ⟨⟨rfl, rfl, fun _ τ hb ht hτ => R.addN (n) (1) (evt (hτ 13 _ rfl)) (show ev _ _ (.const (.int .i64 1)) = some (.int ((1 : Nat) : Int)) from rfl) (by first | omega | (simp only [List.length_map, List.length_append, List.length_cons, List.length_nil, List.length_take, List.length_drop, List.length_replicate]; omega) | (simp; omega)) ht⟩,
            ⟨⟨rfl, rfl, fun _ τ hb ht hτ => R.asg (evt (hτ 14 _ rfl)) rfl ht⟩,
            trivial⟩⟩⟩, rfl, rfl, rfl⟩)
          rfl (bx' := []) rfl (n' := 46) rfl (⟨[0, 1, 5], [(0, _), (1, _), (5, _)], [], 46, rfl, rfl, rfl, ?_⟩)
        exact ⟨⟨(n + 1), ⟨by rw [← hw, rLoop_step hc12]; rw [if_neg (by rw [List.take_length] at hc44; rw [hc44]; decide)], by omega⟩⟩, rfl, (by simp only []; omega)⟩
  · refine W.exit ?_
    refine W.seq ?_
    refine W.line (n := 1) (by decide) (its := [⟨4, _, true⟩]) (ks := []) (kk := []) (live := [4]) (env' := [(4, _)])
      (⟨Nat.le_of_ble_eq_true rfl, rfl,
        ⟨⟨rfl, rfl, fun _ τ hb ht hτ => R.asg (show ev _ _ (.const (.int .i64 200)) = some (.int ((200 : Nat) : Int)) from rfl) rfl ht⟩,
        trivial⟩, rfl, rfl, rfl⟩)
      rfl (bx' := []) rfl (n' := 46) rfl (⟨[4], [(4, _)], [], 46, rfl, rfl, rfl, ?_⟩)
    refine W.ret ?_
    exact Ends.one' (.inr rfl) rfl (congrArg (fun n : Nat => D.int (n : Int)) (by rw [← hw, show 200 - n = 0 by omega]; rfl)) rfl rfl trivial

end Go.Sx
