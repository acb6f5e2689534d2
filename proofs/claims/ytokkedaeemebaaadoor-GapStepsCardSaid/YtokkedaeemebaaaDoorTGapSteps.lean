/- Proved: what functions of the given program compute (used by the theorem of this claim). Conditions: none but those that each theorem states. -/
import Derived.Test.YtokkedaeemebaaaDoorGp6
import Derived.Test.YtokkedaeemebaaaDoorGapLaw2
set_option linter.unusedVariables false
set_option linter.unusedSimpArgs false
set_option linter.unnecessarySimpa false
namespace Go.Sx
open Go.Proofs
theorem steps_ok (many wide within : UInt8) (beyond : UInt16) : Fn Tryd.prog gl 6 [.u8 many, .u8 wide, .u8 within, .u16 beyond] (.bool true) := by
  refine Fn.of (n := 124) Tryd.func6 rfl rfl rfl (Nat.le_of_ble_eq_true rfl) fun C hC => ?_
  have hbz : beyond.toNat < 65536 := beyond.toNat_lt
  have hsl := scriptS_len [115] (((many.toNat % 60) : Nat) : Int)
  have hW : (watchS (rg (many.toNat % 60)) (((1 + wide.toNat % 30) : Nat) : Int)) = (many.toNat % 60) + (1 + wide.toNat % 30) := st0 (by omega) (by omega) (by omega)
  refine W.seq ?_
  refine W.line (n := 1) (by decide) (its := [⟨8, _, true⟩]) (ks := []) (kk := []) (live := [0, 1, 2, 3]) (env' := [(0, _), (1, _), (2, _), (3, _)])
    (⟨Nat.le_of_ble_eq_true rfl, rfl,
      ⟨⟨rfl, rfl, fun _ τ hb ht hτ => R.asg (show ev _ _ (.const (.bool false)) = some (.bool false) from rfl) rfl ht⟩,
      trivial⟩, rfl, rfl, rfl⟩)
    rfl (bx' := []) rfl (n' := 124) rfl (⟨[0, 1, 2, 3], [(0, _), (1, _), (2, _), (3, _)], [], 124, rfl, rfl, rfl, ?_⟩)
  refine W.seq ?_
  refine W.line (n := 4) (by decide) (its := [⟨18, _, true⟩, ⟨19, _, true⟩, ⟨20, _, true⟩, ⟨9, _, true⟩]) (ks := []) (kk := []) (live := [1, 2, 3, 9]) (env' := [(1, _), (2, _), (3, _), (9, _)])
    (⟨Nat.le_of_ble_eq_true rfl, rfl,
      ⟨⟨rfl, rfl, fun _ τ hb ht hτ => R.mov (evt (hτ 0 _ rfl)) rfl ht⟩,
      ⟨⟨rfl, rfl, fun _ τ hb ht hτ => R.conv (evt (hτ 18 _ rfl)) rfl ht⟩,
      ⟨⟨rfl, rfl, fun _ τ hb ht hτ => R.remN (many.toNat) (60) (evt (hτ 19 _ rfl)) (show ev _ _ (.const (.int .i64 60)) = some (.int ((60 : Nat) : Int)) from rfl) (by first | omega | (simp only [List.length_map, List.length_append, List.length_cons, List.length_nil, List.length_take, List.length_drop, List.length_replicate]; omega) | (simp; omega)) ht⟩,
      ⟨⟨rfl, rfl, fun _ τ hb ht hτ => R.asg (evt (hτ 20 _ rfl)) rfl ht⟩,
      trivial⟩⟩⟩⟩, rfl, rfl, rfl⟩)
    rfl (bx' := []) rfl (n' := 124) rfl (⟨[1, 2, 3, 9], [(1, _), (2, _), (3, _), (9, _)], [], 124, rfl, rfl, rfl, ?_⟩)
  refine W.seq ?_
  refine W.line (n := 5) (by decide) (its := [⟨21, _, true⟩, ⟨22, _, true⟩, ⟨23, _, true⟩, ⟨24, _, true⟩, ⟨10, _, true⟩]) (ks := []) (kk := []) (live := [2, 3, 9, 10]) (env' := [(2, _), (3, _), (9, _), (10, _)])
    (⟨Nat.le_of_ble_eq_true rfl, rfl,
      ⟨⟨rfl, rfl, fun _ τ hb ht hτ => R.mov (evt (hτ 1 _ rfl)) rfl ht⟩,
      ⟨⟨rfl, rfl, fun _ τ hb ht hτ => R.conv (evt (hτ 21 _ rfl)) rfl ht⟩,
      ⟨⟨rfl, rfl, fun _ τ hb ht hτ => R.remN (wide.toNat) (30) (evt (hτ 22 _ rfl)) (show ev _ _ (.const (.int .i64 30)) = some (.int ((30 : Nat) : Int)) from rfl) (by first | omega | (simp only [List.length_map, List.length_append, List.length_cons, List.length_nil, List.length_take, List.length_drop, List.length_replicate]; omega) | (simp; omega)) ht⟩,
      ⟨⟨rfl, rfl, fun _ τ hb ht hτ => R.addN (1) ((wide.toNat % 30)) (show ev _ _ (.const (.int .i64 1)) = some (.int ((1 : Nat) : Int)) from rfl) (evt (hτ 23 _ rfl)) (by first | omega | (simp only [List.length_map, List.length_append, List.length_cons, List.length_nil, List.length_take, List.length_drop, List.length_replicate]; omega) | (simp; omega)) ht⟩,
      ⟨⟨rfl, rfl, fun _ τ hb ht hτ => R.asg (evt (hτ 24 _ rfl)) rfl ht⟩,
      trivial⟩⟩⟩⟩⟩, rfl, rfl, rfl⟩)
    rfl (bx' := []) rfl (n' := 124) rfl (⟨[2, 3, 9, 10], [(2, _), (3, _), (9, _), (10, _)], [], 124, rfl, rfl, rfl, ?_⟩)
  refine W.seq ?_
  refine W.line (n := 1) (by decide) (its := [⟨11, _, true⟩]) (ks := []) (kk := []) (live := [2, 3, 9, 10, 11]) (env' := [(2, _), (3, _), (9, _), (10, _), (11, _)])
    (⟨Nat.le_of_ble_eq_true rfl, rfl,
      ⟨⟨rfl, rfl, fun _ τ hb ht hτ => R.asg (show ev _ _ (.const (.slice none 0 0)) = some (.nils) from rfl) rfl ht⟩,
      trivial⟩, rfl, rfl, rfl⟩)
    rfl (bx' := []) rfl (n' := 124) rfl (⟨[2, 3, 9, 10, 11], [(2, _), (3, _), (9, _), (10, _), (11, _)], [], 124, rfl, rfl, rfl, ?_⟩)
  refine W.seq ?_
  refine W.seq ?_
  refine W.line (n := 1) (by decide) (its := [⟨12, _, true⟩]) (ks := []) (kk := []) (live := [2, 3, 9, 10, 11, 12]) (env' := [(2, _), (3, _), (9, _), (10, _), (11, _), (12, _)])
    (⟨Nat.le_of_ble_eq_true rfl, rfl,
      ⟨⟨rfl, rfl, fun _ τ hb ht hτ => R.asg (show ev _ _ (.const (.int .i64 0)) = some (.int ((0 : Nat) : Int)) from rfl) rfl ht⟩,
      trivial⟩, rfl, rfl, rfl⟩)
    rfl (bx' := []) rfl (n' := 124) rfl (⟨[2, 3, 9, 10, 11, 12], [(2, _), (3, _), (9, _), (10, _), (11, _), (12, _)], [], 124, rfl, rfl, rfl, ?_⟩)
  refine W.block ?_
  refine W.asOwn (s := 11) 3 1 rfl ?_
  refine W.loop (α := {q__ : Nat // q__ ≤ (many.toNat % 60)}) (fun q__ => ⟨124, [(2, .u8 within), (3, .u16 beyond), (9, .int (((many.toNat % 60) : Nat) : Int)), (10, .int (((1 + wide.toNat % 30) : Nat) : Int)), (11, .sl (some 3) 1 ((rg q__.1).map D.int)), (12, .int ((q__.1 : Nat) : Int))], []⟩) (fun q__ => (many.toNat % 60) - q__.1) ⟨(0), (by first | omega | (simp only [List.length_map, List.length_append, List.length_cons, List.length_nil, List.length_take, List.length_drop, List.length_replicate]; omega) | (simp; omega))⟩ rfl ?_
  rintro ⟨i, hi⟩
  show W _ _ _ _ ⟨124, [(2, .u8 within), (3, .u16 beyond), (9, .int (((many.toNat % 60) : Nat) : Int)), (10, .int (((1 + wide.toNat % 30) : Nat) : Int)), (11, .sl (some 3) 1 ((rg i).map D.int)), (12, .int ((i : Nat) : Int))], []⟩
  refine W.seq ?_
  refine W.seq ?_
  refine W.line (n := 3) (by decide) (its := [⟨25, _, true⟩, ⟨26, _, true⟩, ⟨27, _, true⟩]) (ks := []) (kk := []) (live := [2, 3, 9, 10, 11, 12, 27]) (env' := [(2, _), (3, _), (9, _), (10, _), (11, _), (12, _), (27, _)])
    (⟨Nat.le_of_ble_eq_true rfl, rfl,
      ⟨⟨rfl, rfl, fun _ τ hb ht hτ => R.mov (evt (hτ 12 _ rfl)) rfl ht⟩,
      ⟨⟨rfl, rfl, fun _ τ hb ht hτ => R.mov (evt (hτ 9 _ rfl)) rfl ht⟩,
      ⟨⟨rfl, rfl, fun _ τ hb ht hτ => R.lssN (i) ((many.toNat % 60)) (evt (hτ 25 _ rfl)) (evt (hτ 26 _ rfl)) ht⟩,
      trivial⟩⟩⟩, rfl, rfl, rfl⟩)
    rfl (bx' := []) rfl (n' := 124) rfl (⟨[2, 3, 9, 10, 11, 12, 27], [(2, _), (3, _), (9, _), (10, _), (11, _), (12, _), (27, _)], [], 124, rfl, rfl, rfl, ?_⟩)
  refine W.condD rfl (fun hc27 => ?_) (fun hc27 => ?_)
  · refine W.skip ?_
    refine W.seq ?_
    refine W.block ?_
    refine W.seq ?_
    refine W.line (n := 5) (by decide) (its := [⟨30, _, true⟩, ⟨31, _, true⟩, ⟨32, _, true⟩, ⟨33, _, true⟩, ⟨11, _, true⟩]) (ks := [(3, 11), (4, 33), (4, 30)]) (kk := [(3, 11), (4, 33)]) (live := [2, 3, 9, 10, 11, 12]) (env' := [(2, _), (3, _), (9, _), (10, _), (11, _), (12, _)])
      (⟨Nat.le_of_ble_eq_true rfl, rfl,
        ⟨⟨rfl, rfl, fun _ τ hb ht hτ => R.al (hτ 11 _ rfl) ht (by decide)⟩,
        ⟨⟨rfl, rfl, fun _ τ hb ht hτ => R.mov (evt (hτ 12 _ rfl)) rfl ht⟩,
        ⟨⟨rfl, rfl, fun _ τ hb ht hτ => R.bslE (z := 1) (.cons (evt (hτ 31 _ rfl)) .nil) ⟨⟨rfl, rfl, rfl⟩, trivial⟩ rfl ht (by decide)⟩,
        ⟨⟨rfl, rfl, fun _ τ hb ht hτ => R.appE (Or.inr (hτ 30 _ rfl)) (hτ 11 _ rfl) (SrcO.sc (SC.sl (hτ 32 _ rfl)) (pur_lit rfl)) (show _ = ((rg (i + 1)).map D.int) from (by rw [rg_succ, List.map_append]; rfl)) (by have := rg_len i; simp only [List.length_map, List.length_cons, List.length_nil]; omega) ht (by decide) (by decide)⟩,
        ⟨⟨rfl, rfl, fun _ τ hb ht hτ => R.asgO (hτ 33 _ rfl) rfl ht (by decide)⟩,
        trivial⟩⟩⟩⟩⟩, rfl, rfl, rfl⟩)
      rfl (bx' := []) rfl (n' := 124) rfl (⟨[2, 3, 9, 10, 11, 12], [(2, _), (3, _), (9, _), (10, _), (11, _), (12, _)], [], 124, rfl, rfl, rfl, ?_⟩)
    refine W.seq ?_
    refine W.line (n := 8) (by decide) (its := [⟨34, _, true⟩, ⟨35, _, true⟩, ⟨36, _, true⟩, ⟨37, _, true⟩, ⟨38, _, true⟩, ⟨39, _, true⟩, ⟨40, _, true⟩, ⟨41, _, true⟩]) (ks := []) (kk := []) (live := [2, 3, 9, 10, 11, 12, 41]) (env' := [(2, _), (3, _), (9, _), (10, _), (11, _), (12, _), (41, _)])
      (⟨Nat.le_of_ble_eq_true rfl, rfl,
        ⟨⟨rfl, rfl, fun _ τ hb ht hτ => R.al (hτ 11 _ rfl) ht (by decide)⟩,
        ⟨⟨rfl, rfl, fun _ τ hb ht hτ => R.mov (evt (hτ 10 _ rfl)) rfl ht⟩,
        ⟨⟨rfl, rfl, fun _ τ hb ht hτ => R.callG hC (watch_ok (rg (i + 1)) (((1 + wide.toNat % 30) : Nat) : Int) (by rw [rg_len]; omega) (rg_bd _ (by omega)) (by omega)) (Bors.cons (Bor.sc (SC.al (hτ 34 _ rfl) (hτ 11 _ rfl)) (brw_map (fun _ => rfl))) (Bors.cons (Bor.pur (evt (hτ 35 _ rfl)) rfl rfl) Bors.nil)) (FrsR.one (.int _)) ht⟩,
        ⟨⟨rfl, rfl, fun _ τ hb ht hτ => R.mov (evt (hτ 12 _ rfl)) rfl ht⟩,
        ⟨⟨rfl, rfl, fun _ τ hb ht hτ => R.addN (i) (1) (evt (hτ 37 _ rfl)) (show ev _ _ (.const (.int .i64 1)) = some (.int ((1 : Nat) : Int)) from rfl) (by first | omega | (simp only [List.length_map, List.length_append, List.length_cons, List.length_nil, List.length_take, List.length_drop, List.length_replicate]; omega) | (simp; omega)) ht⟩,
        ⟨⟨rfl, rfl, fun _ τ hb ht hτ => R.mov (evt (hτ 10 _ rfl)) rfl ht⟩,
        ⟨⟨rfl, rfl, fun _ τ hb ht hτ => R.addN ((i + 1)) ((1 + wide.toNat % 30)) (evt (hτ 38 _ rfl)) (evt (hτ 39 _ rfl)) (by first | omega | (simp only [List.length_map, List.length_append, List.length_cons, List.length_nil, List.length_take, List.length_drop, List.length_replicate]; omega) | (simp; omega)) ht⟩,
        ⟨⟨rfl, rfl, fun _ τ hb ht hτ => R.neqN (watchS (rg (i + 1)) (((1 + wide.toNat % 30) : Nat) : Int)) (((i + 1) + (1 + wide.toNat % 30))) (evt (hτ 36 _ rfl)) (evt (hτ 40 _ rfl)) ht⟩,
        trivial⟩⟩⟩⟩⟩⟩⟩⟩, rfl, rfl, rfl⟩)
      rfl (bx' := []) rfl (n' := 124) rfl (⟨[2, 3, 9, 10, 11, 12, 41], [(2, _), (3, _), (9, _), (10, _), (11, _), (12, _), (41, _)], [], 124, rfl, rfl, rfl, ?_⟩)
    refine W.condF rfl (decide_eq_false (fun h => h (st0 (by omega) (by omega) (by omega)))) ?_
    refine W.skip ?_
    refine W.line (n := 3) (by decide) (its := [⟨28, _, true⟩, ⟨29, _, true⟩, ⟨12, _, true⟩]) (ks := []) (kk := []) (live := [2, 3, 9, 10, 11, 12]) (env' := [(2, _), (3, _), (9, _), (10, _), (11, _), (12, _)])
      (⟨Nat.le_of_ble_eq_true rfl, rfl,
        ⟨⟨rfl, rfl, fun _ τ hb ht hτ => R.mov (evt (hτ 12 _ rfl)) rfl ht⟩,
        ⟨⟨rfl, rfl, fun _ τ hb ht hτ => R.addN (i) (1) (evt (hτ 28 _ rfl)) (show ev _ _ (.const (.int .i64 1)) = some (.int ((1 : Nat) : Int)) from rfl) (by first | omega | (simp only [List.length_map, List.length_append, List.length_cons, List.length_nil, List.length_take, List.length_drop, List.length_replicate]; omega) | (simp; omega)) ht⟩,
        ⟨⟨rfl, rfl, fun _ τ hb ht hτ => R.asg (evt (hτ 29 _ rfl)) rfl ht⟩,
        trivial⟩⟩⟩, rfl, rfl, rfl⟩)
      rfl (bx' := []) rfl (n' := 124) rfl (⟨[2, 3, 9, 10, 11, 12], [(2, _), (3, _), (9, _), (10, _), (11, _), (12, _)], [], 124, rfl, rfl, rfl, ?_⟩)
    exact ⟨⟨(i + 1), (by first | omega | (simp only [List.length_map, List.length_append, List.length_cons, List.length_nil, List.length_take, List.length_drop, List.length_replicate]; omega) | (simp; omega))⟩, rfl, (by simp only []; omega)⟩
  · obtain rfl : i = (many.toNat % 60) := by omega
    refine W.exit ?_
    refine W.seq ?_
    refine W.line (n := 4) (by decide) (its := [⟨42, _, true⟩, ⟨43, _, true⟩, ⟨44, _, true⟩, ⟨13, _, true⟩]) (ks := []) (kk := []) (live := [2, 3, 9, 10, 11, 13]) (env' := [(2, _), (3, _), (9, _), (10, _), (11, _), (13, _)])
      (⟨Nat.le_of_ble_eq_true rfl, rfl,
        ⟨⟨rfl, rfl, fun _ τ hb ht hτ => R.al (hτ 11 _ rfl) ht (by decide)⟩,
        ⟨⟨rfl, rfl, fun _ τ hb ht hτ => R.mov (evt (hτ 10 _ rfl)) rfl ht⟩,
        ⟨⟨rfl, rfl, fun _ τ hb ht hτ => R.callG hC (watch_ok (rg (many.toNat % 60)) (((1 + wide.toNat % 30) : Nat) : Int) (by rw [rg_len]; omega) (rg_bd _ (by omega)) (by omega)) (Bors.cons (Bor.sc (SC.al (hτ 42 _ rfl) (hτ 11 _ rfl)) (brw_map (fun _ => rfl))) (Bors.cons (Bor.pur (evt (hτ 43 _ rfl)) rfl rfl) Bors.nil)) (FrsR.one (.int _)) ht⟩,
        ⟨⟨rfl, rfl, fun _ τ hb ht hτ => R.asg (evt (hτ 44 _ rfl)) rfl ht⟩,
        trivial⟩⟩⟩⟩, rfl, rfl, rfl⟩)
      rfl (bx' := []) rfl (n' := 124) rfl (⟨[2, 3, 9, 10, 11, 13], [(2, _), (3, _), (9, _), (10, _), (11, _), (13, _)], [], 124, rfl, rfl, rfl, ?_⟩)
    refine W.seq ?_
    refine W.seq ?_
    refine W.line (n := 5) (by decide) (its := [⟨45, _, true⟩, ⟨46, _, true⟩, ⟨47, _, true⟩, ⟨48, _, true⟩, ⟨49, _, true⟩]) (ks := []) (kk := []) (live := [2, 3, 9, 10, 11, 13, 49]) (env' := [(2, _), (3, _), (9, _), (10, _), (11, _), (13, _), (49, _)])
      (⟨Nat.le_of_ble_eq_true rfl, rfl,
        ⟨⟨rfl, rfl, fun _ τ hb ht hτ => R.mov (evt (hτ 13 _ rfl)) rfl ht⟩,
        ⟨⟨rfl, rfl, fun _ τ hb ht hτ => R.mov (evt (hτ 9 _ rfl)) rfl ht⟩,
        ⟨⟨rfl, rfl, fun _ τ hb ht hτ => R.mov (evt (hτ 10 _ rfl)) rfl ht⟩,
        ⟨⟨rfl, rfl, fun _ τ hb ht hτ => R.addN ((many.toNat % 60)) ((1 + wide.toNat % 30)) (evt (hτ 46 _ rfl)) (evt (hτ 47 _ rfl)) (by first | omega | (simp only [List.length_map, List.length_append, List.length_cons, List.length_nil, List.length_take, List.length_drop, List.length_replicate]; omega) | (simp; omega)) ht⟩,
        ⟨⟨rfl, rfl, fun _ τ hb ht hτ => R.neqN (watchS (rg (many.toNat % 60)) (((1 + wide.toNat % 30) : Nat) : Int)) (((many.toNat % 60) + (1 + wide.toNat % 30))) (evt (hτ 45 _ rfl)) (evt (hτ 48 _ rfl)) ht⟩,
        trivial⟩⟩⟩⟩⟩, rfl, rfl, rfl⟩)
      rfl (bx' := []) rfl (n' := 124) rfl (⟨[2, 3, 9, 10, 11, 13, 49], [(2, _), (3, _), (9, _), (10, _), (11, _), (13, _), (49, _)], [], 124, rfl, rfl, rfl, ?_⟩)
    refine W.condF rfl (decide_eq_false (fun h => h hW)) ?_
    refine W.skip ?_
    refine W.seq ?_
    refine W.seq ?_
    by_cases hn : 0 < (many.toNat % 60)
    · refine W.draw (m := 17) (an := [0, 1, 3, 7, 7, 31, 7, 71, 7, 455, 967, 2047, 7, 8191, 7, 32767, 65535]) hP (by decide) rfl (its := [⟨50, _, true⟩, ⟨51, _, true⟩, ⟨52, _, true⟩, ⟨53, _, true⟩, ⟨54, _, true⟩, ⟨55, _, true⟩, ⟨56, _, true⟩, ⟨57, _, true⟩, ⟨58, _, true⟩, ⟨59, _, true⟩, ⟨60, _, true⟩, ⟨61, _, true⟩, ⟨62, _, true⟩, ⟨63, _, true⟩, ⟨64, _, true⟩, ⟨65, _, true⟩, ⟨66, _, true⟩]) (ks := [(5, 53), (11, 55)]) (kk := [(5, 53), (11, 55)]) (live := [3, 9, 10, 11, 13, 66]) (env' := [(3, _), (9, _), (10, _), (11, _), (13, _), (66, _)])
        (⟨Nat.le_of_ble_eq_true rfl, rfl,
          ⟨⟨rfl, rfl, fun _ τ hb ht hτ => R.mov (evt (hτ 9 _ rfl)) rfl ht⟩,
          ⟨⟨rfl, rfl, fun _ τ hb ht hτ => R.gtrN ((many.toNat % 60)) (0) (evt (hτ 50 _ rfl)) (show ev _ _ (.const (.int .i64 0)) = some (.int ((0 : Nat) : Int)) from rfl) ht⟩,
          ⟨⟨rfl, rfl, fun _ τ hb ht hτ => R.mov (evt (hτ 51 _ rfl)) rfl ht⟩,
          ⟨⟨rfl, ⟨_, 52, rfl, rfl, .inl ⟨_, rfl, gw (v := true) (decide_eq_true hn) rfl⟩⟩, fun _ τ hb ht hτ => R.bslE .nil trivial rfl ht (by decide)⟩,
          ⟨⟨rfl, ⟨_, 52, rfl, rfl, .inl ⟨_, rfl, gw (v := true) (decide_eq_true hn) rfl⟩⟩, fun _ τ hb ht hτ => R.al (hτ 11 _ rfl) ht (by decide)⟩,
          ⟨⟨rfl, ⟨_, 52, rfl, rfl, .inl ⟨_, rfl, gw (v := true) (decide_eq_true hn) rfl⟩⟩, fun _ τ hb ht hτ => R.appE (Or.inl rfl) (hτ 53 _ rfl) (SrcO.sc (SC.al (hτ 54 _ rfl) (hτ 11 _ rfl)) (pur_map (fun _ => rfl))) (show _ = ((rg (many.toNat % 60)).map D.int) from (List.nil_append _)) (by have := rg_len (many.toNat % 60); simp only [List.length_map, List.length_nil]; omega) ht (by decide) (by decide)⟩,
          ⟨⟨rfl, ⟨_, 52, rfl, rfl, .inl ⟨_, rfl, gw (v := true) (decide_eq_true hn) rfl⟩⟩, fun _ τ hb ht hτ => R.mov (evt (hτ 2 _ rfl)) rfl ht⟩,
          ⟨⟨rfl, ⟨_, 52, rfl, rfl, .inl ⟨_, rfl, gw (v := true) (decide_eq_true hn) rfl⟩⟩, fun _ τ hb ht hτ => R.conv (evt (hτ 56 _ rfl)) rfl ht⟩,
          ⟨⟨rfl, ⟨_, 52, rfl, rfl, .inl ⟨_, rfl, gw (v := true) (decide_eq_true hn) rfl⟩⟩, fun _ τ hb ht hτ => R.mov (evt (hτ 9 _ rfl)) rfl ht⟩,
          ⟨⟨rfl, ⟨_, 52, rfl, rfl, .inl ⟨_, rfl, gw (v := true) (decide_eq_true hn) rfl⟩⟩, fun _ τ hb ht hτ => R.remN (within.toNat) ((many.toNat % 60)) (evt (hτ 57 _ rfl)) (evt (hτ 58 _ rfl)) (by first | omega | (simp only [List.length_map, List.length_append, List.length_cons, List.length_nil, List.length_take, List.length_drop, List.length_replicate]; omega) | (simp; omega)) ht⟩,
          ⟨⟨rfl, ⟨_, 52, rfl, rfl, .inl ⟨_, rfl, gw (v := true) (decide_eq_true hn) rfl⟩⟩, fun _ τ hb ht hτ => R.bslE (z := 1) (.cons (evt (hτ 59 _ rfl)) .nil) ⟨⟨rfl, rfl, rfl⟩, trivial⟩ rfl ht (by decide)⟩,
          ⟨⟨rfl, ⟨_, 52, rfl, rfl, .inl ⟨_, rfl, gw (v := true) (decide_eq_true hn) rfl⟩⟩, fun _ τ hb ht hτ => R.appE (Or.inl rfl) (hτ 55 _ rfl) (SrcO.sc (SC.sl (hτ 60 _ rfl)) (pur_lit rfl)) (show _ = ((rg (many.toNat % 60) ++ [((within.toNat % (many.toNat % 60) : Nat) : Int)]).map D.int) from (by rw [List.map_append]; rfl)) (by have := rg_len (many.toNat % 60); simp only [List.length_map, List.length_cons, List.length_nil]; omega) ht (by decide) (by decide)⟩,
          ⟨⟨rfl, ⟨_, 52, rfl, rfl, .inl ⟨_, rfl, gw (v := true) (decide_eq_true hn) rfl⟩⟩, fun _ τ hb ht hτ => R.mov (evt (hτ 10 _ rfl)) rfl ht⟩,
          ⟨⟨rfl, ⟨_, 52, rfl, rfl, .inl ⟨_, rfl, gw (v := true) (decide_eq_true hn) rfl⟩⟩, fun _ τ hb ht hτ => R.callG hC (watch_ok (rg (many.toNat % 60) ++ [((within.toNat % (many.toNat % 60) : Nat) : Int)]) (((1 + wide.toNat % 30) : Nat) : Int) (by have := rg_len (many.toNat % 60); simp only [List.length_append, List.length_cons, List.length_nil]; omega) (rg_bd1 _ (by omega) _ (by have := Nat.mod_lt within.toNat hn; omega)) (by omega)) (Bors.cons (Bor.sc (SC.sl (hτ 61 _ rfl)) (brw_map (fun _ => rfl))) (Bors.cons (Bor.pur (evt (hτ 62 _ rfl)) rfl rfl) Bors.nil)) (FrsR.one (.int _)) ht⟩,
          ⟨⟨rfl, ⟨_, 52, rfl, rfl, .inl ⟨_, rfl, gw (v := true) (decide_eq_true hn) rfl⟩⟩, fun _ τ hb ht hτ => R.mov (evt (hτ 13 _ rfl)) rfl ht⟩,
          ⟨⟨rfl, ⟨_, 52, rfl, rfl, .inl ⟨_, rfl, gw (v := true) (decide_eq_true hn) rfl⟩⟩, fun _ τ hb ht hτ => R.neqN (watchS (rg (many.toNat % 60) ++ [((within.toNat % (many.toNat % 60) : Nat) : Int)]) (((1 + wide.toNat % 30) : Nat) : Int)) (watchS (rg (many.toNat % 60)) (((1 + wide.toNat % 30) : Nat) : Int)) (evt (hτ 63 _ rfl)) (evt (hτ 64 _ rfl)) ht⟩,
          ⟨⟨rfl, rfl, fun _ τ hb ht hτ => R.pickT (evt (hτ 52 _ rfl)) (decide_eq_true hn) (evt (hτ 65 _ rfl)) rfl ht⟩,
          trivial⟩⟩⟩⟩⟩⟩⟩⟩⟩⟩⟩⟩⟩⟩⟩⟩⟩, rfl, rfl, rfl⟩)
        rfl (bx' := []) rfl (n' := 124) rfl (⟨[3, 9, 10, 11, 13, 66], [(3, _), (9, _), (10, _), (11, _), (13, _), (66, _)], [], 124, rfl, rfl, rfl, ?_⟩)
      refine W.condF rfl (decide_eq_false (fun h => h (st2 (by omega) (by omega) (by omega) hW (Nat.mod_lt _ hn)))) ?_
      refine W.skip ?_
      refine W.seq ?_
      refine W.line (n := 10) (by decide) (its := [⟨67, _, true⟩, ⟨68, _, true⟩, ⟨69, _, true⟩, ⟨70, _, true⟩, ⟨71, _, true⟩, ⟨72, _, true⟩, ⟨73, _, true⟩, ⟨74, _, true⟩, ⟨75, _, true⟩, ⟨14, _, true⟩]) (ks := [(2, 67), (8, 69), (9, 75)]) (kk := [(2, 67), (8, 69), (9, 75)]) (live := [3, 9, 10, 11, 13, 14]) (env' := [(3, _), (9, _), (10, _), (11, _), (13, _), (14, _)])
        (⟨Nat.le_of_ble_eq_true rfl, rfl,
          ⟨⟨rfl, rfl, fun _ τ hb ht hτ => R.bslE .nil trivial rfl ht (by decide)⟩,
          ⟨⟨rfl, rfl, fun _ τ hb ht hτ => R.al (hτ 11 _ rfl) ht (by decide)⟩,
          ⟨⟨rfl, rfl, fun _ τ hb ht hτ => R.appE (Or.inl rfl) (hτ 67 _ rfl) (SrcO.sc (SC.al (hτ 68 _ rfl) (hτ 11 _ rfl)) (pur_map (fun _ => rfl))) (show _ = ((rg (many.toNat % 60)).map D.int) from (List.nil_append _)) (by have := rg_len (many.toNat % 60); simp only [List.length_map, List.length_nil]; omega) ht (by decide) (by decide)⟩,
          ⟨⟨rfl, rfl, fun _ τ hb ht hτ => R.mov (evt (hτ 13 _ rfl)) rfl ht⟩,
          ⟨⟨rfl, rfl, fun _ τ hb ht hτ => R.mov (evt (hτ 3 _ rfl)) rfl ht⟩,
          ⟨⟨rfl, rfl, fun _ τ hb ht hτ => R.conv (evt (hτ 71 _ rfl)) rfl ht⟩,
          ⟨⟨rfl, rfl, fun _ τ hb ht hτ => R.addN (watchS (rg (many.toNat % 60)) (((1 + wide.toNat % 30) : Nat) : Int)) (beyond.toNat) (evt (hτ 70 _ rfl)) (evt (hτ 72 _ rfl)) (by first | omega | (simp only [List.length_map, List.length_append, List.length_cons, List.length_nil, List.length_take, List.length_drop, List.length_replicate]; omega) | (simp; omega)) ht⟩,
          ⟨⟨rfl, rfl, fun _ τ hb ht hτ => R.bslE (z := 1) (.cons (evt (hτ 73 _ rfl)) .nil) ⟨⟨rfl, rfl, rfl⟩, trivial⟩ rfl ht (by decide)⟩,
          ⟨⟨rfl, rfl, fun _ τ hb ht hτ => R.appE (Or.inl rfl) (hτ 69 _ rfl) (SrcO.sc (SC.sl (hτ 74 _ rfl)) (pur_lit rfl)) (show _ = ((rg (many.toNat % 60) ++ [(((watchS (rg (many.toNat % 60)) (((1 + wide.toNat % 30) : Nat) : Int)) + beyond.toNat : Nat) : Int)]).map D.int) from (by rw [List.map_append]; rfl)) (by have := rg_len (many.toNat % 60); simp only [List.length_map, List.length_cons, List.length_nil]; omega) ht (by decide) (by decide)⟩,
          ⟨⟨rfl, rfl, fun _ τ hb ht hτ => R.asgO (hτ 75 _ rfl) rfl ht (by decide)⟩,
          trivial⟩⟩⟩⟩⟩⟩⟩⟩⟩⟩, rfl, rfl, rfl⟩)
        rfl (bx' := []) rfl (n' := 124) rfl (⟨[3, 9, 10, 11, 13, 14], [(3, _), (9, _), (10, _), (11, _), (13, _), (14, _)], [], 124, rfl, rfl, rfl, ?_⟩)
      refine W.seq ?_
      refine W.line (n := 9) (by decide) (its := [⟨76, _, true⟩, ⟨77, _, true⟩, ⟨78, _, true⟩, ⟨79, _, true⟩, ⟨80, _, true⟩, ⟨81, _, true⟩, ⟨82, _, true⟩, ⟨83, _, true⟩, ⟨15, _, true⟩]) (ks := [(2, 76), (7, 78), (8, 83)]) (kk := [(2, 76), (7, 78), (8, 83)]) (live := [9, 10, 11, 13, 14, 15]) (env' := [(9, _), (10, _), (11, _), (13, _), (14, _), (15, _)])
        (⟨Nat.le_of_ble_eq_true rfl, rfl,
          ⟨⟨rfl, rfl, fun _ τ hb ht hτ => R.bslE .nil trivial rfl ht (by decide)⟩,
          ⟨⟨rfl, rfl, fun _ τ hb ht hτ => R.al (hτ 11 _ rfl) ht (by decide)⟩,
          ⟨⟨rfl, rfl, fun _ τ hb ht hτ => R.appE (Or.inl rfl) (hτ 76 _ rfl) (SrcO.sc (SC.al (hτ 77 _ rfl) (hτ 11 _ rfl)) (pur_map (fun _ => rfl))) (show _ = ((rg (many.toNat % 60)).map D.int) from (List.nil_append _)) (by have := rg_len (many.toNat % 60); simp only [List.length_map, List.length_nil]; omega) ht (by decide) (by decide)⟩,
          ⟨⟨rfl, rfl, fun _ τ hb ht hτ => R.mov (evt (hτ 3 _ rfl)) rfl ht⟩,
          ⟨⟨rfl, rfl, fun _ τ hb ht hτ => R.conv (evt (hτ 79 _ rfl)) rfl ht⟩,
          ⟨⟨rfl, rfl, fun _ τ hb ht hτ => R.binE (d := .int (-1 - ((beyond.toNat : Nat) : Int))) (show ev _ _ (.const (.int .i64 (-1))) = some (.int (-1)) from rfl) (evt (hτ 80 _ rfl)) rfl trivial (wr_eq rfl (by omega) (by omega)) ht⟩,
          ⟨⟨rfl, rfl, fun _ τ hb ht hτ => R.bslE (z := 1) (.cons (evt (hτ 81 _ rfl)) .nil) ⟨⟨rfl, rfl, rfl⟩, trivial⟩ rfl ht (by decide)⟩,
          ⟨⟨rfl, rfl, fun _ τ hb ht hτ => R.appE (Or.inl rfl) (hτ 78 _ rfl) (SrcO.sc (SC.sl (hτ 82 _ rfl)) (pur_lit rfl)) (show _ = ((rg (many.toNat % 60) ++ [(-1 - ((beyond.toNat : Nat) : Int))]).map D.int) from (by rw [List.map_append]; rfl)) (by have := rg_len (many.toNat % 60); simp only [List.length_map, List.length_cons, List.length_nil]; omega) ht (by decide) (by decide)⟩,
          ⟨⟨rfl, rfl, fun _ τ hb ht hτ => R.asgO (hτ 83 _ rfl) rfl ht (by decide)⟩,
          trivial⟩⟩⟩⟩⟩⟩⟩⟩⟩, rfl, rfl, rfl⟩)
        rfl (bx' := []) rfl (n' := 124) rfl (⟨[9, 10, 11, 13, 14, 15], [(9, _), (10, _), (11, _), (13, _), (14, _), (15, _)], [], 124, rfl, rfl, rfl, ?_⟩)
      refine W.seq ?_
      refine W.seq ?_
      refine W.line (n := 12) (by decide) (its := [⟨84, _, true⟩, ⟨85, _, true⟩, ⟨86, _, true⟩, ⟨87, _, true⟩, ⟨88, _, true⟩, ⟨89, _, true⟩, ⟨90, _, true⟩, ⟨91, _, true⟩, ⟨92, _, true⟩, ⟨93, _, true⟩, ⟨94, _, true⟩, ⟨95, _, true⟩]) (ks := []) (kk := []) (live := [9, 10, 11, 13, 95]) (env' := [(9, _), (10, _), (11, _), (13, _), (95, _)])
        (⟨Nat.le_of_ble_eq_true rfl, rfl,
          ⟨⟨rfl, rfl, fun _ τ hb ht hτ => R.al (hτ 14 _ rfl) ht (by decide)⟩,
          ⟨⟨rfl, rfl, fun _ τ hb ht hτ => R.mov (evt (hτ 10 _ rfl)) rfl ht⟩,
          ⟨⟨rfl, rfl, fun _ τ hb ht hτ => R.callG hC (watch_ok (rg (many.toNat % 60) ++ [(((watchS (rg (many.toNat % 60)) (((1 + wide.toNat % 30) : Nat) : Int)) + beyond.toNat : Nat) : Int)]) (((1 + wide.toNat % 30) : Nat) : Int) (by have := rg_len (many.toNat % 60); simp only [List.length_append, List.length_cons, List.length_nil]; omega) (rg_bd1 _ (by omega) _ (by omega)) (by omega)) (Bors.cons (Bor.sc (SC.al (hτ 84 _ rfl) (hτ 14 _ rfl)) (brw_map (fun _ => rfl))) (Bors.cons (Bor.pur (evt (hτ 85 _ rfl)) rfl rfl) Bors.nil)) (FrsR.one (.int _)) ht⟩,
          ⟨⟨rfl, rfl, fun _ τ hb ht hτ => R.mov (evt (hτ 13 _ rfl)) rfl ht⟩,
          ⟨⟨rfl, rfl, fun _ τ hb ht hτ => R.neqN (watchS (rg (many.toNat % 60) ++ [(((watchS (rg (many.toNat % 60)) (((1 + wide.toNat % 30) : Nat) : Int)) + beyond.toNat : Nat) : Int)]) (((1 + wide.toNat % 30) : Nat) : Int)) (watchS (rg (many.toNat % 60)) (((1 + wide.toNat % 30) : Nat) : Int)) (evt (hτ 86 _ rfl)) (evt (hτ 87 _ rfl)) ht⟩,
          ⟨⟨rfl, rfl, fun _ τ hb ht hτ => R.mov (evt (hτ 88 _ rfl)) rfl ht⟩,
          ⟨⟨rfl, ⟨_, 89, rfl, rfl, .inl ⟨_, rfl, gw (v := false) (decide_eq_false (fun h => h (st3 (by omega) (by omega) (by omega) hW))) rfl⟩⟩, fun _ τ hb ht hτ => R.al (hτ 15 _ rfl) ht (by decide)⟩,
          ⟨⟨rfl, ⟨_, 89, rfl, rfl, .inl ⟨_, rfl, gw (v := false) (decide_eq_false (fun h => h (st3 (by omega) (by omega) (by omega) hW))) rfl⟩⟩, fun _ τ hb ht hτ => R.mov (evt (hτ 10 _ rfl)) rfl ht⟩,
          ⟨⟨rfl, ⟨_, 89, rfl, rfl, .inl ⟨_, rfl, gw (v := false) (decide_eq_false (fun h => h (st3 (by omega) (by omega) (by omega) hW))) rfl⟩⟩, fun _ τ hb ht hτ => R.callG hC (watch_ok (rg (many.toNat % 60) ++ [(-1 - ((beyond.toNat : Nat) : Int))]) (((1 + wide.toNat % 30) : Nat) : Int) (by have := rg_len (many.toNat % 60); simp only [List.length_append, List.length_cons, List.length_nil]; omega) (rg_bd1 _ (by omega) _ (by omega)) (by omega)) (Bors.cons (Bor.sc (SC.al (hτ 90 _ rfl) (hτ 15 _ rfl)) (brw_map (fun _ => rfl))) (Bors.cons (Bor.pur (evt (hτ 91 _ rfl)) rfl rfl) Bors.nil)) (FrsR.one (.int _)) ht⟩,
          ⟨⟨rfl, ⟨_, 89, rfl, rfl, .inl ⟨_, rfl, gw (v := false) (decide_eq_false (fun h => h (st3 (by omega) (by omega) (by omega) hW))) rfl⟩⟩, fun _ τ hb ht hτ => R.mov (evt (hτ 13 _ rfl)) rfl ht⟩,
          ⟨⟨rfl, ⟨_, 89, rfl, rfl, .inl ⟨_, rfl, gw (v := false) (decide_eq_false (fun h => h (st3 (by omega) (by omega) (by omega) hW))) rfl⟩⟩, fun _ τ hb ht hτ => R.neqN (watchS (rg (many.toNat % 60) ++ [(-1 - ((beyond.toNat : Nat) : Int))]) (((1 + wide.toNat % 30) : Nat) : Int)) (watchS (rg (many.toNat % 60)) (((1 + wide.toNat % 30) : Nat) : Int)) (evt (hτ 92 _ rfl)) (evt (hτ 93 _ rfl)) ht⟩,
          ⟨⟨rfl, rfl, fun _ τ hb ht hτ => R.pickF (evt (hτ 89 _ rfl)) (decide_eq_false (fun h => h (st3 (by omega) (by omega) (by omega) hW))) (evt (hτ 94 _ rfl)) rfl ht⟩,
          trivial⟩⟩⟩⟩⟩⟩⟩⟩⟩⟩⟩⟩, rfl, rfl, rfl⟩)
        rfl (bx' := []) rfl (n' := 124) rfl (⟨[9, 10, 11, 13, 95], [(9, _), (10, _), (11, _), (13, _), (95, _)], [], 124, rfl, rfl, rfl, ?_⟩)
      refine W.condF rfl (decide_eq_false (fun h => h (st4 (by omega) (by omega) (by omega) hW (by omega)))) ?_
      refine W.skip ?_
      refine W.seq ?_
      refine W.line (n := 8) (by decide) (its := [⟨96, _, true⟩, ⟨97, _, true⟩, ⟨98, _, true⟩, ⟨99, _, true⟩, ⟨100, _, true⟩, ⟨101, _, true⟩, ⟨102, _, true⟩, ⟨16, _, true⟩]) (ks := [(2, 96), (6, 98), (7, 102)]) (kk := [(2, 96), (6, 98), (7, 102)]) (live := [9, 10, 13, 16]) (env' := [(9, _), (10, _), (13, _), (16, _)])
        (⟨Nat.le_of_ble_eq_true rfl, rfl,
          ⟨⟨rfl, rfl, fun _ τ hb ht hτ => R.bslE .nil trivial rfl ht (by decide)⟩,
          ⟨⟨rfl, rfl, fun _ τ hb ht hτ => R.al (hτ 11 _ rfl) ht (by decide)⟩,
          ⟨⟨rfl, rfl, fun _ τ hb ht hτ => R.appE (Or.inl rfl) (hτ 96 _ rfl) (SrcO.sc (SC.al (hτ 97 _ rfl) (hτ 11 _ rfl)) (pur_map (fun _ => rfl))) (show _ = ((rg (many.toNat % 60)).map D.int) from (List.nil_append _)) (by have := rg_len (many.toNat % 60); simp only [List.length_map, List.length_nil]; omega) ht (by decide) (by decide)⟩,
          ⟨⟨rfl, rfl, fun _ τ hb ht hτ => R.mov (evt (hτ 13 _ rfl)) rfl ht⟩,
          ⟨⟨rfl, rfl, fun _ τ hb ht hτ => R.subN (watchS (rg (many.toNat % 60)) (((1 + wide.toNat % 30) : Nat) : Int)) (1) (evt (hτ 99 _ rfl)) (show ev _ _ (.const (.int .i64 1)) = some (.int ((1 : Nat) : Int)) from rfl) (by first | omega | (simp only [List.length_map, List.length_append, List.length_cons, List.length_nil, List.length_take, List.length_drop, List.length_replicate]; omega) | (simp; omega)) (by first | omega | (simp only [List.length_map, List.length_append, List.length_cons, List.length_nil, List.length_take, List.length_drop, List.length_replicate]; omega) | (simp; omega)) ht⟩,
          ⟨⟨rfl, rfl, fun _ τ hb ht hτ => R.bslE (z := 1) (.cons (evt (hτ 100 _ rfl)) .nil) ⟨⟨rfl, rfl, rfl⟩, trivial⟩ rfl ht (by decide)⟩,
          ⟨⟨rfl, rfl, fun _ τ hb ht hτ => R.appE (Or.inl rfl) (hτ 98 _ rfl) (SrcO.sc (SC.sl (hτ 101 _ rfl)) (pur_lit rfl)) (show _ = ((rg (many.toNat % 60) ++ [(((watchS (rg (many.toNat % 60)) (((1 + wide.toNat % 30) : Nat) : Int)) - 1 : Nat) : Int)]).map D.int) from (by rw [List.map_append]; rfl)) (by have := rg_len (many.toNat % 60); simp only [List.length_map, List.length_cons, List.length_nil]; omega) ht (by decide) (by decide)⟩,
          ⟨⟨rfl, rfl, fun _ τ hb ht hτ => R.asgO (hτ 102 _ rfl) rfl ht (by decide)⟩,
          trivial⟩⟩⟩⟩⟩⟩⟩⟩, rfl, rfl, rfl⟩)
        rfl (bx' := []) rfl (n' := 124) rfl (⟨[9, 10, 13, 16], [(9, _), (10, _), (13, _), (16, _)], [], 124, rfl, rfl, rfl, ?_⟩)
      refine W.seq ?_
      refine W.line (n := 5) (by decide) (its := [⟨103, _, true⟩, ⟨104, _, true⟩, ⟨105, _, true⟩]) (ks := []) (kk := []) (live := [9, 10, 13, 16, 105]) (env' := [(9, _), (10, _), (13, _), (16, _), (105, _)])
        (⟨Nat.le_of_ble_eq_true rfl, rfl,
          ⟨⟨rfl, rfl, fun _ τ hb ht hτ => R.bslE (z := 1) (.cons (show ev _ _ (.const (.int .u8 115)) = some (.u8 115) from rfl) .nil) ⟨⟨rfl, rfl, rfl⟩, trivial⟩ rfl ht (by decide)⟩,
          ⟨⟨rfl, rfl, fun _ τ hb ht hτ => R.mov (evt (hτ 9 _ rfl)) rfl ht⟩,
          ⟨⟨rfl, rfl, fun _ τ hb ht hτ => R.callG hC (ghash_ok [115] (((many.toNat % 60) : Nat) : Int) (by decide) (by omega) (by omega)) (Bors.cons (Bor.sc (SC.sl (hτ 103 _ rfl)) rfl) (Bors.cons (Bor.pur (evt (hτ 104 _ rfl)) rfl rfl) Bors.nil)) (FrsR.one (frs_hash _)) ht⟩,
          trivial⟩⟩⟩, rfl, rfl, rfl⟩)
        rfl (bx' := []) rfl (n' := 124) rfl (⟨rfl, _, R.alloc rfl (Nat.le_of_ble_eq_true rfl), ⟨rfl, _, R.stZ (show Sg.get _ 17 = some _ from rfl) (show Sg.box _ 17 = some _ from rfl) rfl (evt (show Sg.get _ 105 = some _ from rfl)) (by rfl) (by rfl) (by rfl) (by rfl) rfl, ⟨[9, 10, 13, 16, 17], [(9, _), (10, _), (13, _), (16, _), (17, _)], [(17, .var _)], 124, rfl, rfl, rfl, ?_⟩⟩⟩)
      refine W.seq ?_
      refine W.draw (m := 19) (an := [0, 0, 3, 0, 0, 24, 63, 127, 255, 255, 255, 1791, 3839, 8191, 16383, 32767, 65535, 131071, 262143]) hP (by decide) rfl (its := [⟨106, _, true⟩, ⟨107, _, true⟩, ⟨108, _, true⟩, ⟨109, _, true⟩, ⟨110, _, true⟩, ⟨111, _, true⟩, ⟨112, _, true⟩, ⟨113, _, true⟩, ⟨114, _, true⟩, ⟨115, _, true⟩, ⟨116, _, true⟩, ⟨117, _, true⟩, ⟨118, _, true⟩, ⟨119, _, true⟩, ⟨120, _, true⟩, ⟨121, _, true⟩, ⟨122, _, true⟩, ⟨123, _, true⟩, ⟨8, _, true⟩]) (ks := []) (kk := []) (live := [8]) (env' := [(8, _)])
        (⟨Nat.le_of_ble_eq_true rfl, rfl,
          ⟨⟨rfl, rfl, fun _ τ hb ht hτ => R.al (hτ 16 _ rfl) ht (by decide)⟩,
          ⟨⟨rfl, rfl, fun _ τ hb ht hτ => R.mov (evt (hτ 10 _ rfl)) rfl ht⟩,
          ⟨⟨rfl, rfl, fun _ τ hb ht hτ => R.callG hC (watch_ok (rg (many.toNat % 60) ++ [(((watchS (rg (many.toNat % 60)) (((1 + wide.toNat % 30) : Nat) : Int)) - 1 : Nat) : Int)]) (((1 + wide.toNat % 30) : Nat) : Int) (by have := rg_len (many.toNat % 60); simp only [List.length_append, List.length_cons, List.length_nil]; omega) (rg_bd1 _ (by omega) _ (by omega)) (by omega)) (Bors.cons (Bor.sc (SC.al (hτ 106 _ rfl) (hτ 16 _ rfl)) (brw_map (fun _ => rfl))) (Bors.cons (Bor.pur (evt (hτ 107 _ rfl)) rfl rfl) Bors.nil)) (FrsR.one (.int _)) ht⟩,
          ⟨⟨rfl, rfl, fun _ τ hb ht hτ => R.mov (evt (hτ 13 _ rfl)) rfl ht⟩,
          ⟨⟨rfl, rfl, fun _ τ hb ht hτ => R.mov (evt (hτ 10 _ rfl)) rfl ht⟩,
          ⟨⟨rfl, rfl, fun _ τ hb ht hτ => R.addN (watchS (rg (many.toNat % 60)) (((1 + wide.toNat % 30) : Nat) : Int)) ((1 + wide.toNat % 30)) (evt (hτ 109 _ rfl)) (evt (hτ 110 _ rfl)) (by first | omega | (simp only [List.length_map, List.length_append, List.length_cons, List.length_nil, List.length_take, List.length_drop, List.length_replicate]; omega) | (simp; omega)) ht⟩,
          ⟨⟨rfl, rfl, fun _ τ hb ht hτ => R.eqlN (watchS (rg (many.toNat % 60) ++ [(((watchS (rg (many.toNat % 60)) (((1 + wide.toNat % 30) : Nat) : Int)) - 1 : Nat) : Int)]) (((1 + wide.toNat % 30) : Nat) : Int)) ((watchS (rg (many.toNat % 60)) (((1 + wide.toNat % 30) : Nat) : Int) + (1 + wide.toNat % 30))) (evt (hτ 108 _ rfl)) (evt (hτ 111 _ rfl)) ht⟩,
          ⟨⟨rfl, rfl, fun _ τ hb ht hτ => R.mov (evt (hτ 112 _ rfl)) rfl ht⟩,
          ⟨⟨rfl, ⟨_, 113, rfl, rfl, .inl ⟨_, rfl, gw (v := true) (decide_eq_true (st5 (by omega) (by omega) (by omega) hW)) rfl⟩⟩, fun _ τ hb ht hτ => R.ldP (hτ 17 _ rfl) (hb 17 _ rfl) rfl rfl rfl rfl ht⟩,
          ⟨⟨rfl, ⟨_, 113, rfl, rfl, .inl ⟨_, rfl, gw (v := true) (decide_eq_true (st5 (by omega) (by omega) (by omega) hW)) rfl⟩⟩, fun _ τ hb ht hτ => R.bslE (z := 1) (.cons (show ev _ _ (.const (.int .u8 115)) = some (.u8 115) from rfl) .nil) ⟨⟨rfl, rfl, rfl⟩, trivial⟩ rfl ht (by decide)⟩,
          ⟨⟨rfl, ⟨_, 113, rfl, rfl, .inl ⟨_, rfl, gw (v := true) (decide_eq_true (st5 (by omega) (by omega) (by omega) hW)) rfl⟩⟩, fun _ τ hb ht hτ => R.mov (evt (hτ 9 _ rfl)) rfl ht⟩,
          ⟨⟨rfl, ⟨_, 113, rfl, rfl, .inl ⟨_, rfl, gw (v := true) (decide_eq_true (st5 (by omega) (by omega) (by omega) hW)) rfl⟩⟩, fun _ τ hb ht hτ => R.callG hC (script_ok [115] (((many.toNat % 60) : Nat) : Int) (by decide) (by omega) (by omega)) (Bors.cons (Bor.sc (SC.sl (hτ 115 _ rfl)) rfl) (Bors.cons (Bor.pur (evt (hτ 116 _ rfl)) rfl rfl) Bors.nil)) (FrsR.one (.sl _ _ _ (frs_map fun _ => .u8 _))) ht⟩,
          ⟨⟨rfl, ⟨_, 113, rfl, rfl, .inl ⟨_, rfl, gw (v := true) (decide_eq_true (st5 (by omega) (by omega) (by omega) hW)) rfl⟩⟩, fun _ τ hb ht hτ => R.callG hC (rsum_ok (scriptS [115] (((many.toNat % 60) : Nat) : Int)) (by rw [scriptS_len]; decide)) (Bors.cons (Bor.sc (SC.sl (hτ 117 _ rfl)) (brw_map (fun _ => rfl))) Bors.nil) (FrsR.one (frs_hash _)) ht⟩,
          ⟨⟨rfl, ⟨_, 113, rfl, rfl, .inl ⟨_, rfl, gw (v := true) (decide_eq_true (st5 (by omega) (by omega) (by omega) hW)) rfl⟩⟩, fun _ τ hb ht hτ => R.eqAE (evt (hτ 114 _ rfl)) (evt (hτ 118 _ rfl)) ht⟩,
          ⟨⟨rfl, rfl, fun _ τ hb ht hτ => R.pickT (evt (hτ 113 _ rfl)) (decide_eq_true (st5 (by omega) (by omega) (by omega) hW)) (evt (hτ 119 _ rfl)) rfl ht⟩,
          ⟨⟨rfl, rfl, fun _ τ hb ht hτ => R.mov (evt (hτ 120 _ rfl)) rfl ht⟩,
          ⟨⟨rfl, ⟨_, 121, rfl, rfl, .inl ⟨_, rfl, gw (v := true) (sum_eq _) rfl⟩⟩, fun _ τ hb ht hτ => R.callG hC (works_ok) Bors.nil (FrsR.one (.bool _)) ht⟩,
          ⟨⟨rfl, rfl, fun _ τ hb ht hτ => R.pickT (evt (hτ 121 _ rfl)) (sum_eq _) (evt (hτ 122 _ rfl)) rfl ht⟩,
          ⟨⟨rfl, rfl, fun _ τ hb ht hτ => R.asg (evt (hτ 123 _ rfl)) rfl ht⟩,
          trivial⟩⟩⟩⟩⟩⟩⟩⟩⟩⟩⟩⟩⟩⟩⟩⟩⟩⟩⟩, rfl, rfl, rfl⟩)
        rfl (bx' := [(17, .var _)]) rfl (n' := 124) rfl (⟨[8], [(8, _)], [(17, .var _)], 124, rfl, rfl, rfl, ?_⟩)
      refine W.ret ?_
      exact Ends.one' (.inr rfl) rfl (rfl) rfl rfl trivial
    · refine W.draw (m := 17) (an := [0, 1, 3, 7, 7, 31, 7, 71, 7, 455, 967, 2047, 7, 8191, 7, 32767, 65535]) hP (by decide) rfl (its := [⟨50, _, true⟩, ⟨51, _, true⟩, ⟨52, _, true⟩, ⟨53, .dead, false⟩, ⟨54, .dead, false⟩, ⟨55, .dead, false⟩, ⟨56, .dead, false⟩, ⟨57, .dead, false⟩, ⟨58, .dead, false⟩, ⟨59, .dead, false⟩, ⟨60, .dead, false⟩, ⟨61, .dead, false⟩, ⟨62, .dead, false⟩, ⟨63, .dead, false⟩, ⟨64, .dead, false⟩, ⟨65, .dead, false⟩, ⟨66, _, true⟩]) (ks := []) (kk := []) (live := [3, 9, 10, 11, 13, 66]) (env' := [(3, _), (9, _), (10, _), (11, _), (13, _), (66, _)])
        (⟨Nat.le_of_ble_eq_true rfl, rfl,
          ⟨⟨rfl, rfl, fun _ τ hb ht hτ => R.mov (evt (hτ 9 _ rfl)) rfl ht⟩,
          ⟨⟨rfl, rfl, fun _ τ hb ht hτ => R.gtrN ((many.toNat % 60)) (0) (evt (hτ 50 _ rfl)) (show ev _ _ (.const (.int .i64 0)) = some (.int ((0 : Nat) : Int)) from rfl) ht⟩,
          ⟨⟨rfl, rfl, fun _ τ hb ht hτ => R.mov (evt (hτ 51 _ rfl)) rfl ht⟩,
          ⟨⟨rfl, ⟨_, 52, rfl, rfl, .inl ⟨_, rfl, gw (v := false) (decide_eq_false hn) rfl⟩⟩, fun h => absurd h (by decide)⟩,
          ⟨⟨rfl, ⟨_, 52, rfl, rfl, .inl ⟨_, rfl, gw (v := false) (decide_eq_false hn) rfl⟩⟩, fun h => absurd h (by decide)⟩,
          ⟨⟨rfl, ⟨_, 52, rfl, rfl, .inl ⟨_, rfl, gw (v := false) (decide_eq_false hn) rfl⟩⟩, fun h => absurd h (by decide)⟩,
          ⟨⟨rfl, ⟨_, 52, rfl, rfl, .inl ⟨_, rfl, gw (v := false) (decide_eq_false hn) rfl⟩⟩, fun h => absurd h (by decide)⟩,
          ⟨⟨rfl, ⟨_, 52, rfl, rfl, .inl ⟨_, rfl, gw (v := false) (decide_eq_false hn) rfl⟩⟩, fun h => absurd h (by decide)⟩,
          ⟨⟨rfl, ⟨_, 52, rfl, rfl, .inl ⟨_, rfl, gw (v := false) (decide_eq_false hn) rfl⟩⟩, fun h => absurd h (by decide)⟩,
          ⟨⟨rfl, ⟨_, 52, rfl, rfl, .inl ⟨_, rfl, gw (v := false) (decide_eq_false hn) rfl⟩⟩, fun h => absurd h (by decide)⟩,
          ⟨⟨rfl, ⟨_, 52, rfl, rfl, .inl ⟨_, rfl, gw (v := false) (decide_eq_false hn) rfl⟩⟩, fun h => absurd h (by decide)⟩,
          ⟨⟨rfl, ⟨_, 52, rfl, rfl, .inl ⟨_, rfl, gw (v := false) (decide_eq_false hn) rfl⟩⟩, fun h => absurd h (by decide)⟩,
          ⟨⟨rfl, ⟨_, 52, rfl, rfl, .inl ⟨_, rfl, gw (v := false) (decide_eq_false hn) rfl⟩⟩, fun h => absurd h (by decide)⟩,
          ⟨⟨rfl, ⟨_, 52, rfl, rfl, .inl ⟨_, rfl, gw (v := false) (decide_eq_false hn) rfl⟩⟩, fun h => absurd h (by decide)⟩,
          ⟨⟨rfl, ⟨_, 52, rfl, rfl, .inl ⟨_, rfl, gw (v := false) (decide_eq_false hn) rfl⟩⟩, fun h => absurd h (by decide)⟩,
          ⟨⟨rfl, ⟨_, 52, rfl, rfl, .inl ⟨_, rfl, gw (v := false) (decide_eq_false hn) rfl⟩⟩, fun h => absurd h (by decide)⟩,
          ⟨⟨rfl, rfl, fun _ τ hb ht hτ => R.pickF (evt (hτ 52 _ rfl)) (decide_eq_false hn) (show ev _ _ (.const (.bool false)) = some (.bool false) from rfl) rfl ht⟩,
          trivial⟩⟩⟩⟩⟩⟩⟩⟩⟩⟩⟩⟩⟩⟩⟩⟩⟩, rfl, rfl, rfl⟩)
        rfl (bx' := []) rfl (n' := 124) rfl (⟨[3, 9, 10, 11, 13, 66], [(3, _), (9, _), (10, _), (11, _), (13, _), (66, _)], [], 124, rfl, rfl, rfl, ?_⟩)
      refine W.condF rfl (rfl) ?_
      refine W.skip ?_
      refine W.seq ?_
      refine W.line (n := 10) (by decide) (its := [⟨67, _, true⟩, ⟨68, _, true⟩, ⟨69, _, true⟩, ⟨70, _, true⟩, ⟨71, _, true⟩, ⟨72, _, true⟩, ⟨73, _, true⟩, ⟨74, _, true⟩, ⟨75, _, true⟩, ⟨14, _, true⟩]) (ks := [(2, 67), (8, 69), (9, 75)]) (kk := [(2, 67), (8, 69), (9, 75)]) (live := [3, 9, 10, 11, 13, 14]) (env' := [(3, _), (9, _), (10, _), (11, _), (13, _), (14, _)])
        (⟨Nat.le_of_ble_eq_true rfl, rfl,
          ⟨⟨rfl, rfl, fun _ τ hb ht hτ => R.bslE .nil trivial rfl ht (by decide)⟩,
          ⟨⟨rfl, rfl, fun _ τ hb ht hτ => R.al (hτ 11 _ rfl) ht (by decide)⟩,
          ⟨⟨rfl, rfl, fun _ τ hb ht hτ => R.appE (Or.inl rfl) (hτ 67 _ rfl) (SrcO.sc (SC.al (hτ 68 _ rfl) (hτ 11 _ rfl)) (pur_map (fun _ => rfl))) (show _ = ((rg (many.toNat % 60)).map D.int) from (List.nil_append _)) (by have := rg_len (many.toNat % 60); simp only [List.length_map, List.length_nil]; omega) ht (by decide) (by decide)⟩,
          ⟨⟨rfl, rfl, fun _ τ hb ht hτ => R.mov (evt (hτ 13 _ rfl)) rfl ht⟩,
          ⟨⟨rfl, rfl, fun _ τ hb ht hτ => R.mov (evt (hτ 3 _ rfl)) rfl ht⟩,
          ⟨⟨rfl, rfl, fun _ τ hb ht hτ => R.conv (evt (hτ 71 _ rfl)) rfl ht⟩,
          ⟨⟨rfl, rfl, fun _ τ hb ht hτ => R.addN (watchS (rg (many.toNat % 60)) (((1 + wide.toNat % 30) : Nat) : Int)) (beyond.toNat) (evt (hτ 70 _ rfl)) (evt (hτ 72 _ rfl)) (by first | omega | (simp only [List.length_map, List.length_append, List.length_cons, List.length_nil, List.length_take, List.length_drop, List.length_replicate]; omega) | (simp; omega)) ht⟩,
          ⟨⟨rfl, rfl, fun _ τ hb ht hτ => R.bslE (z := 1) (.cons (evt (hτ 73 _ rfl)) .nil) ⟨⟨rfl, rfl, rfl⟩, trivial⟩ rfl ht (by decide)⟩,
          ⟨⟨rfl, rfl, fun _ τ hb ht hτ => R.appE (Or.inl rfl) (hτ 69 _ rfl) (SrcO.sc (SC.sl (hτ 74 _ rfl)) (pur_lit rfl)) (show _ = ((rg (many.toNat % 60) ++ [(((watchS (rg (many.toNat % 60)) (((1 + wide.toNat % 30) : Nat) : Int)) + beyond.toNat : Nat) : Int)]).map D.int) from (by rw [List.map_append]; rfl)) (by have := rg_len (many.toNat % 60); simp only [List.length_map, List.length_cons, List.length_nil]; omega) ht (by decide) (by decide)⟩,
          ⟨⟨rfl, rfl, fun _ τ hb ht hτ => R.asgO (hτ 75 _ rfl) rfl ht (by decide)⟩,
          trivial⟩⟩⟩⟩⟩⟩⟩⟩⟩⟩, rfl, rfl, rfl⟩)
        rfl (bx' := []) rfl (n' := 124) rfl (⟨[3, 9, 10, 11, 13, 14], [(3, _), (9, _), (10, _), (11, _), (13, _), (14, _)], [], 124, rfl, rfl, rfl, ?_⟩)
      refine W.seq ?_
      refine W.line (n := 9) (by decide) (its := [⟨76, _, true⟩, ⟨77, _, true⟩, ⟨78, _, true⟩, ⟨79, _, true⟩, ⟨80, _, true⟩, ⟨81, _, true⟩, ⟨82, _, true⟩, ⟨83, _, true⟩, ⟨15, _, true⟩]) (ks := [(2, 76), (7, 78), (8, 83)]) (kk := [(2, 76), (7, 78), (8, 83)]) (live := [9, 10, 11, 13, 14, 15]) (env' := [(9, _), (10, _), (11, _), (13, _), (14, _), (15, _)])
        (⟨Nat.le_of_ble_eq_true rfl, rfl,
          ⟨⟨rfl, rfl, fun _ τ hb ht hτ => R.bslE .nil trivial rfl ht (by decide)⟩,
          ⟨⟨rfl, rfl, fun _ τ hb ht hτ => R.al (hτ 11 _ rfl) ht (by decide)⟩,
          ⟨⟨rfl, rfl, fun _ τ hb ht hτ => R.appE (Or.inl rfl) (hτ 76 _ rfl) (SrcO.sc (SC.al (hτ 77 _ rfl) (hτ 11 _ rfl)) (pur_map (fun _ => rfl))) (show _ = ((rg (many.toNat % 60)).map D.int) from (List.nil_append _)) (by have := rg_len (many.toNat % 60); simp only [List.length_map, List.length_nil]; omega) ht (by decide) (by decide)⟩,
          ⟨⟨rfl, rfl, fun _ τ hb ht hτ => R.mov (evt (hτ 3 _ rfl)) rfl ht⟩,
          ⟨⟨rfl, rfl, fun _ τ hb ht hτ => R.conv (evt (hτ 79 _ rfl)) rfl ht⟩,
          ⟨⟨rfl, rfl, fun _ τ hb ht hτ => R.binE (d := .int (-1 - ((beyond.toNat : Nat) : Int))) (show ev _ _ (.const (.int .i64 (-1))) = some (.int (-1)) from rfl) (evt (hτ 80 _ rfl)) rfl trivial (wr_eq rfl (by omega) (by omega)) ht⟩,
          ⟨⟨rfl, rfl, fun _ τ hb ht hτ => R.bslE (z := 1) (.cons (evt (hτ 81 _ rfl)) .nil) ⟨⟨rfl, rfl, rfl⟩, trivial⟩ rfl ht (by decide)⟩,
          ⟨⟨rfl, rfl, fun _ τ hb ht hτ => R.appE (Or.inl rfl) (hτ 78 _ rfl) (SrcO.sc (SC.sl (hτ 82 _ rfl)) (pur_lit rfl)) (show _ = ((rg (many.toNat % 60) ++ [(-1 - ((beyond.toNat : Nat) : Int))]).map D.int) from (by rw [List.map_append]; rfl)) (by have := rg_len (many.toNat % 60); simp only [List.length_map, List.length_cons, List.length_nil]; omega) ht (by decide) (by decide)⟩,
          ⟨⟨rfl, rfl, fun _ τ hb ht hτ => R.asgO (hτ 83 _ rfl) rfl ht (by decide)⟩,
          trivial⟩⟩⟩⟩⟩⟩⟩⟩⟩, rfl, rfl, rfl⟩)
        rfl (bx' := []) rfl (n' := 124) rfl (⟨[9, 10, 11, 13, 14, 15], [(9, _), (10, _), (11, _), (13, _), (14, _), (15, _)], [], 124, rfl, rfl, rfl, ?_⟩)
      refine W.seq ?_
      refine W.seq ?_
      refine W.line (n := 12) (by decide) (its := [⟨84, _, true⟩, ⟨85, _, true⟩, ⟨86, _, true⟩, ⟨87, _, true⟩, ⟨88, _, true⟩, ⟨89, _, true⟩, ⟨90, _, true⟩, ⟨91, _, true⟩, ⟨92, _, true⟩, ⟨93, _, true⟩, ⟨94, _, true⟩, ⟨95, _, true⟩]) (ks := []) (kk := []) (live := [9, 10, 11, 13, 95]) (env' := [(9, _), (10, _), (11, _), (13, _), (95, _)])
        (⟨Nat.le_of_ble_eq_true rfl, rfl,
          ⟨⟨rfl, rfl, fun _ τ hb ht hτ => R.al (hτ 14 _ rfl) ht (by decide)⟩,
          ⟨⟨rfl, rfl, fun _ τ hb ht hτ => R.mov (evt (hτ 10 _ rfl)) rfl ht⟩,
          ⟨⟨rfl, rfl, fun _ τ hb ht hτ => R.callG hC (watch_ok (rg (many.toNat % 60) ++ [(((watchS (rg (many.toNat % 60)) (((1 + wide.toNat % 30) : Nat) : Int)) + beyond.toNat : Nat) : Int)]) (((1 + wide.toNat % 30) : Nat) : Int) (by have := rg_len (many.toNat % 60); simp only [List.length_append, List.length_cons, List.length_nil]; omega) (rg_bd1 _ (by omega) _ (by omega)) (by omega)) (Bors.cons (Bor.sc (SC.al (hτ 84 _ rfl) (hτ 14 _ rfl)) (brw_map (fun _ => rfl))) (Bors.cons (Bor.pur (evt (hτ 85 _ rfl)) rfl rfl) Bors.nil)) (FrsR.one (.int _)) ht⟩,
          ⟨⟨rfl, rfl, fun _ τ hb ht hτ => R.mov (evt (hτ 13 _ rfl)) rfl ht⟩,
          ⟨⟨rfl, rfl, fun _ τ hb ht hτ => R.neqN (watchS (rg (many.toNat % 60) ++ [(((watchS (rg (many.toNat % 60)) (((1 + wide.toNat % 30) : Nat) : Int)) + beyond.toNat : Nat) : Int)]) (((1 + wide.toNat % 30) : Nat) : Int)) (watchS (rg (many.toNat % 60)) (((1 + wide.toNat % 30) : Nat) : Int)) (evt (hτ 86 _ rfl)) (evt (hτ 87 _ rfl)) ht⟩,
          ⟨⟨rfl, rfl, fun _ τ hb ht hτ => R.mov (evt (hτ 88 _ rfl)) rfl ht⟩,
          ⟨⟨rfl, ⟨_, 89, rfl, rfl, .inl ⟨_, rfl, gw (v := false) (decide_eq_false (fun h => h (st3 (by omega) (by omega) (by omega) hW))) rfl⟩⟩, fun _ τ hb ht hτ => R.al (hτ 15 _ rfl) ht (by decide)⟩,
          ⟨⟨rfl, ⟨_, 89, rfl, rfl, .inl ⟨_, rfl, gw (v := false) (decide_eq_false (fun h => h (st3 (by omega) (by omega) (by omega) hW))) rfl⟩⟩, fun _ τ hb ht hτ => R.mov (evt (hτ 10 _ rfl)) rfl ht⟩,
          ⟨⟨rfl, ⟨_, 89, rfl, rfl, .inl ⟨_, rfl, gw (v := false) (decide_eq_false (fun h => h (st3 (by omega) (by omega) (by omega) hW))) rfl⟩⟩, fun _ τ hb ht hτ => R.callG hC (watch_ok (rg (many.toNat % 60) ++ [(-1 - ((beyond.toNat : Nat) : Int))]) (((1 + wide.toNat % 30) : Nat) : Int) (by have := rg_len (many.toNat % 60); simp only [List.length_append, List.length_cons, List.length_nil]; omega) (rg_bd1 _ (by omega) _ (by omega)) (by omega)) (Bors.cons (Bor.sc (SC.al (hτ 90 _ rfl) (hτ 15 _ rfl)) (brw_map (fun _ => rfl))) (Bors.cons (Bor.pur (evt (hτ 91 _ rfl)) rfl rfl) Bors.nil)) (FrsR.one (.int _)) ht⟩,
          ⟨⟨rfl, ⟨_, 89, rfl, rfl, .inl ⟨_, rfl, gw (v := false) (decide_eq_false (fun h => h (st3 (by omega) (by omega) (by omega) hW))) rfl⟩⟩, fun _ τ hb ht hτ => R.mov (evt (hτ 13 _ rfl)) rfl ht⟩,
          ⟨⟨rfl, ⟨_, 89, rfl, rfl, .inl ⟨_, rfl, gw (v := false) (decide_eq_false (fun h => h (st3 (by omega) (by omega) (by omega) hW))) rfl⟩⟩, fun _ τ hb ht hτ => R.neqN (watchS (rg (many.toNat % 60) ++ [(-1 - ((beyond.toNat : Nat) : Int))]) (((1 + wide.toNat % 30) : Nat) : Int)) (watchS (rg (many.toNat % 60)) (((1 + wide.toNat % 30) : Nat) : Int)) (evt (hτ 92 _ rfl)) (evt (hτ 93 _ rfl)) ht⟩,
          ⟨⟨rfl, rfl, fun _ τ hb ht hτ => R.pickF (evt (hτ 89 _ rfl)) (decide_eq_false (fun h => h (st3 (by omega) (by omega) (by omega) hW))) (evt (hτ 94 _ rfl)) rfl ht⟩,
          trivial⟩⟩⟩⟩⟩⟩⟩⟩⟩⟩⟩⟩, rfl, rfl, rfl⟩)
        rfl (bx' := []) rfl (n' := 124) rfl (⟨[9, 10, 11, 13, 95], [(9, _), (10, _), (11, _), (13, _), (95, _)], [], 124, rfl, rfl, rfl, ?_⟩)
      refine W.condF rfl (decide_eq_false (fun h => h (st4 (by omega) (by omega) (by omega) hW (by omega)))) ?_
      refine W.skip ?_
      refine W.seq ?_
      refine W.line (n := 8) (by decide) (its := [⟨96, _, true⟩, ⟨97, _, true⟩, ⟨98, _, true⟩, ⟨99, _, true⟩, ⟨100, _, true⟩, ⟨101, _, true⟩, ⟨102, _, true⟩, ⟨16, _, true⟩]) (ks := [(2, 96), (6, 98), (7, 102)]) (kk := [(2, 96), (6, 98), (7, 102)]) (live := [9, 10, 13, 16]) (env' := [(9, _), (10, _), (13, _), (16, _)])
        (⟨Nat.le_of_ble_eq_true rfl, rfl,
          ⟨⟨rfl, rfl, fun _ τ hb ht hτ => R.bslE .nil trivial rfl ht (by decide)⟩,
          ⟨⟨rfl, rfl, fun _ τ hb ht hτ => R.al (hτ 11 _ rfl) ht (by decide)⟩,
          ⟨⟨rfl, rfl, fun _ τ hb ht hτ => R.appE (Or.inl rfl) (hτ 96 _ rfl) (SrcO.sc (SC.al (hτ 97 _ rfl) (hτ 11 _ rfl)) (pur_map (fun _ => rfl))) (show _ = ((rg (many.toNat % 60)).map D.int) from (List.nil_append _)) (by have := rg_len (many.toNat % 60); simp only [List.length_map, List.length_nil]; omega) ht (by decide) (by decide)⟩,
          ⟨⟨rfl, rfl, fun _ τ hb ht hτ => R.mov (evt (hτ 13 _ rfl)) rfl ht⟩,
          ⟨⟨rfl, rfl, fun _ τ hb ht hτ => R.subN (watchS (rg (many.toNat % 60)) (((1 + wide.toNat % 30) : Nat) : Int)) (1) (evt (hτ 99 _ rfl)) (show ev _ _ (.const (.int .i64 1)) = some (.int ((1 : Nat) : Int)) from rfl) (by first | omega | (simp only [List.length_map, List.length_append, List.length_cons, List.length_nil, List.length_take, List.length_drop, List.length_replicate]; omega) | (simp; omega)) (by first | omega | (simp only [List.length_map, List.length_append, List.length_cons, List.length_nil, List.length_take, List.length_drop, List.length_replicate]; omega) | (simp; omega)) ht⟩,
          ⟨⟨rfl, rfl, fun _ τ hb ht hτ => R.bslE (z := 1) (.cons (evt (hτ 100 _ rfl)) .nil) ⟨⟨rfl, rfl, rfl⟩, trivial⟩ rfl ht (by decide)⟩,
          ⟨⟨rfl, rfl, fun _ τ hb ht hτ => R.appE (Or.inl rfl) (hτ 98 _ rfl) (SrcO.sc (SC.sl (hτ 101 _ rfl)) (pur_lit rfl)) (show _ = ((rg (many.toNat % 60) ++ [(((watchS (rg (many.toNat % 60)) (((1 + wide.toNat % 30) : Nat) : Int)) - 1 : Nat) : Int)]).map D.int) from (by rw [List.map_append]; rfl)) (by have := rg_len (many.toNat % 60); simp only [List.length_map, List.length_cons, List.length_nil]; omega) ht (by decide) (by decide)⟩,
          ⟨⟨rfl, rfl, fun _ τ hb ht hτ => R.asgO (hτ 102 _ rfl) rfl ht (by decide)⟩,
          trivial⟩⟩⟩⟩⟩⟩⟩⟩, rfl, rfl, rfl⟩)
        rfl (bx' := []) rfl (n' := 124) rfl (⟨[9, 10, 13, 16], [(9, _), (10, _), (13, _), (16, _)], [], 124, rfl, rfl, rfl, ?_⟩)
      refine W.seq ?_
      refine W.line (n := 5) (by decide) (its := [⟨103, _, true⟩, ⟨104, _, true⟩, ⟨105, _, true⟩]) (ks := []) (kk := []) (live := [9, 10, 13, 16, 105]) (env' := [(9, _), (10, _), (13, _), (16, _), (105, _)])
        (⟨Nat.le_of_ble_eq_true rfl, rfl,
          ⟨⟨rfl, rfl, fun _ τ hb ht hτ => R.bslE (z := 1) (.cons (show ev _ _ (.const (.int .u8 115)) = some (.u8 115) from rfl) .nil) ⟨⟨rfl, rfl, rfl⟩, trivial⟩ rfl ht (by decide)⟩,
          ⟨⟨rfl, rfl, fun _ τ hb ht hτ => R.mov (evt (hτ 9 _ rfl)) rfl ht⟩,
          ⟨⟨rfl, rfl, fun _ τ hb ht hτ => R.callG hC (ghash_ok [115] (((many.toNat % 60) : Nat) : Int) (by decide) (by omega) (by omega)) (Bors.cons (Bor.sc (SC.sl (hτ 103 _ rfl)) rfl) (Bors.cons (Bor.pur (evt (hτ 104 _ rfl)) rfl rfl) Bors.nil)) (FrsR.one (frs_hash _)) ht⟩,
          trivial⟩⟩⟩, rfl, rfl, rfl⟩)
        rfl (bx' := []) rfl (n' := 124) rfl (⟨rfl, _, R.alloc rfl (Nat.le_of_ble_eq_true rfl), ⟨rfl, _, R.stZ (show Sg.get _ 17 = some _ from rfl) (show Sg.box _ 17 = some _ from rfl) rfl (evt (show Sg.get _ 105 = some _ from rfl)) (by rfl) (by rfl) (by rfl) (by rfl) rfl, ⟨[9, 10, 13, 16, 17], [(9, _), (10, _), (13, _), (16, _), (17, _)], [(17, .var _)], 124, rfl, rfl, rfl, ?_⟩⟩⟩)
      refine W.seq ?_
      refine W.draw (m := 19) (an := [0, 0, 3, 0, 0, 24, 63, 127, 255, 255, 255, 1791, 3839, 8191, 16383, 32767, 65535, 131071, 262143]) hP (by decide) rfl (its := [⟨106, _, true⟩, ⟨107, _, true⟩, ⟨108, _, true⟩, ⟨109, _, true⟩, ⟨110, _, true⟩, ⟨111, _, true⟩, ⟨112, _, true⟩, ⟨113, _, true⟩, ⟨114, _, true⟩, ⟨115, _, true⟩, ⟨116, _, true⟩, ⟨117, _, true⟩, ⟨118, _, true⟩, ⟨119, _, true⟩, ⟨120, _, true⟩, ⟨121, _, true⟩, ⟨122, _, true⟩, ⟨123, _, true⟩, ⟨8, _, true⟩]) (ks := []) (kk := []) (live := [8]) (env' := [(8, _)])
        (⟨Nat.le_of_ble_eq_true rfl, rfl,
          ⟨⟨rfl, rfl, fun _ τ hb ht hτ => R.al (hτ 16 _ rfl) ht (by decide)⟩,
          ⟨⟨rfl, rfl, fun _ τ hb ht hτ => R.mov (evt (hτ 10 _ rfl)) rfl ht⟩,
          ⟨⟨rfl, rfl, fun _ τ hb ht hτ => R.callG hC (watch_ok (rg (many.toNat % 60) ++ [(((watchS (rg (many.toNat % 60)) (((1 + wide.toNat % 30) : Nat) : Int)) - 1 : Nat) : Int)]) (((1 + wide.toNat % 30) : Nat) : Int) (by have := rg_len (many.toNat % 60); simp only [List.length_append, List.length_cons, List.length_nil]; omega) (rg_bd1 _ (by omega) _ (by omega)) (by omega)) (Bors.cons (Bor.sc (SC.al (hτ 106 _ rfl) (hτ 16 _ rfl)) (brw_map (fun _ => rfl))) (Bors.cons (Bor.pur (evt (hτ 107 _ rfl)) rfl rfl) Bors.nil)) (FrsR.one (.int _)) ht⟩,
          ⟨⟨rfl, rfl, fun _ τ hb ht hτ => R.mov (evt (hτ 13 _ rfl)) rfl ht⟩,
          ⟨⟨rfl, rfl, fun _ τ hb ht hτ => R.mov (evt (hτ 10 _ rfl)) rfl ht⟩,
          ⟨⟨rfl, rfl, fun _ τ hb ht hτ => R.addN (watchS (rg (many.toNat % 60)) (((1 + wide.toNat % 30) : Nat) : Int)) ((1 + wide.toNat % 30)) (evt (hτ 109 _ rfl)) (evt (hτ 110 _ rfl)) (by first | omega | (simp only [List.length_map, List.length_append, List.length_cons, List.length_nil, List.length_take, List.length_drop, List.length_replicate]; omega) | (simp; omega)) ht⟩,
          ⟨⟨rfl, rfl, fun _ τ hb ht hτ => R.eqlN (watchS (rg (many.toNat % 60) ++ [(((watchS (rg (many.toNat % 60)) (((1 + wide.toNat % 30) : Nat) : Int)) - 1 : Nat) : Int)]) (((1 + wide.toNat % 30) : Nat) : Int)) ((watchS (rg (many.toNat % 60)) (((1 + wide.toNat % 30) : Nat) : Int) + (1 + wide.toNat % 30))) (evt (hτ 108 _ rfl)) (evt (hτ 111 _ rfl)) ht⟩,
          ⟨⟨rfl, rfl, fun _ τ hb ht hτ => R.mov (evt (hτ 112 _ rfl)) rfl ht⟩,
          ⟨⟨rfl, ⟨_, 113, rfl, rfl, .inl ⟨_, rfl, gw (v := true) (decide_eq_true (st5 (by omega) (by omega) (by omega) hW)) rfl⟩⟩, fun _ τ hb ht hτ => R.ldP (hτ 17 _ rfl) (hb 17 _ rfl) rfl rfl rfl rfl ht⟩,
          ⟨⟨rfl, ⟨_, 113, rfl, rfl, .inl ⟨_, rfl, gw (v := true) (decide_eq_true (st5 (by omega) (by omega) (by omega) hW)) rfl⟩⟩, fun _ τ hb ht hτ => R.bslE (z := 1) (.cons (show ev _ _ (.const (.int .u8 115)) = some (.u8 115) from rfl) .nil) ⟨⟨rfl, rfl, rfl⟩, trivial⟩ rfl ht (by decide)⟩,
          ⟨⟨rfl, ⟨_, 113, rfl, rfl, .inl ⟨_, rfl, gw (v := true) (decide_eq_true (st5 (by omega) (by omega) (by omega) hW)) rfl⟩⟩, fun _ τ hb ht hτ => R.mov (evt (hτ 9 _ rfl)) rfl ht⟩,
          ⟨⟨rfl, ⟨_, 113, rfl, rfl, .inl ⟨_, rfl, gw (v := true) (decide_eq_true (st5 (by omega) (by omega) (by omega) hW)) rfl⟩⟩, fun _ τ hb ht hτ => R.callG hC (script_ok [115] (((many.toNat % 60) : Nat) : Int) (by decide) (by omega) (by omega)) (Bors.cons (Bor.sc (SC.sl (hτ 115 _ rfl)) rfl) (Bors.cons (Bor.pur (evt (hτ 116 _ rfl)) rfl rfl) Bors.nil)) (FrsR.one (.sl _ _ _ (frs_map fun _ => .u8 _))) ht⟩,
          ⟨⟨rfl, ⟨_, 113, rfl, rfl, .inl ⟨_, rfl, gw (v := true) (decide_eq_true (st5 (by omega) (by omega) (by omega) hW)) rfl⟩⟩, fun _ τ hb ht hτ => R.callG hC (rsum_ok (scriptS [115] (((many.toNat % 60) : Nat) : Int)) (by rw [scriptS_len]; decide)) (Bors.cons (Bor.sc (SC.sl (hτ 117 _ rfl)) (brw_map (fun _ => rfl))) Bors.nil) (FrsR.one (frs_hash _)) ht⟩,
          ⟨⟨rfl, ⟨_, 113, rfl, rfl, .inl ⟨_, rfl, gw (v := true) (decide_eq_true (st5 (by omega) (by omega) (by omega) hW)) rfl⟩⟩, fun _ τ hb ht hτ => R.eqAE (evt (hτ 114 _ rfl)) (evt (hτ 118 _ rfl)) ht⟩,
          ⟨⟨rfl, rfl, fun _ τ hb ht hτ => R.pickT (evt (hτ 113 _ rfl)) (decide_eq_true (st5 (by omega) (by omega) (by omega) hW)) (evt (hτ 119 _ rfl)) rfl ht⟩,
          ⟨⟨rfl, rfl, fun _ τ hb ht hτ => R.mov (evt (hτ 120 _ rfl)) rfl ht⟩,
          ⟨⟨rfl, ⟨_, 121, rfl, rfl, .inl ⟨_, rfl, gw (v := true) (sum_eq _) rfl⟩⟩, fun _ τ hb ht hτ => R.callG hC (works_ok) Bors.nil (FrsR.one (.bool _)) ht⟩,
          ⟨⟨rfl, rfl, fun _ τ hb ht hτ => R.pickT (evt (hτ 121 _ rfl)) (sum_eq _) (evt (hτ 122 _ rfl)) rfl ht⟩,
          ⟨⟨rfl, rfl, fun _ τ hb ht hτ => R.asg (evt (hτ 123 _ rfl)) rfl ht⟩,
          trivial⟩⟩⟩⟩⟩⟩⟩⟩⟩⟩⟩⟩⟩⟩⟩⟩⟩⟩⟩, rfl, rfl, rfl⟩)
        rfl (bx' := [(17, .var _)]) rfl (n' := 124) rfl (⟨[8], [(8, _)], [(17, .var _)], 124, rfl, rfl, rfl, ?_⟩)
      refine W.ret ?_
      exact Ends.one' (.inr rfl) rfl (rfl) rfl rfl trivial

end Go.Sx
