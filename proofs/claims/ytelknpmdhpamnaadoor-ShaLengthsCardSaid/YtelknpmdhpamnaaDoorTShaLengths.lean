/- Proved: what functions of the given program compute (used by the theorem of this claim). Conditions: none but those that each theorem states. -/
import Derived.Test.YtelknpmdhpamnaaDoorSha4
import Derived.Test.YtelknpmdhpamnaaDoorShaLaw2
set_option linter.unusedVariables false
set_option linter.unusedSimpArgs false
set_option linter.unnecessarySimpa false
namespace Go.Sx
open Go.Proofs
theorem shalengths_ok (n : UInt16) (x : UInt8) : Fn Tryd.prog gl 4 [.u16 n, .u8 x] (.bool true) := by
  refine Fn.of (n := 30) Tryd.func4 rfl rfl rfl (Nat.le_of_ble_eq_true rfl) fun C hC => ?_
  refine W.seq ?_
  refine W.line (n := 1) (by decide) (its := [⟨4, _, true⟩]) (ks := []) (kk := []) (live := [0, 1]) (env' := [(0, _), (1, _)])
    (⟨Nat.le_of_ble_eq_true rfl, rfl,
      ⟨⟨rfl, rfl, fun _ τ hb ht hτ => R.asg (show ev _ _ (.const (.bool false)) = some (.bool false) from rfl) rfl ht⟩,
      trivial⟩, rfl, rfl, rfl⟩)
    rfl (bx' := []) rfl (n' := 30) rfl (⟨[0, 1], [(0, _), (1, _)], [], 30, rfl, rfl, rfl, ?_⟩)
  refine W.seq ?_
  refine W.line (n := 4) (by decide) (its := [⟨8, _, true⟩, ⟨9, _, true⟩, ⟨10, _, true⟩, ⟨5, _, true⟩]) (ks := []) (kk := []) (live := [1, 5]) (env' := [(1, _), (5, _)])
    (⟨Nat.le_of_ble_eq_true rfl, rfl,
      ⟨⟨rfl, rfl, fun _ τ hb ht hτ => R.mov (evt (hτ 0 _ rfl)) rfl ht⟩,
      ⟨⟨rfl, rfl, fun _ τ hb ht hτ => R.conv (evt (hτ 8 _ rfl)) rfl ht⟩,
      ⟨⟨rfl, rfl, fun _ τ hb ht hτ => R.remN (n.toNat) (400) (evt (hτ 9 _ rfl)) (show ev _ _ (.const (.int .i64 400)) = some (.int ((400 : Nat) : Int)) from rfl) (by first | omega | (simp only [List.length_map, List.length_append, List.length_cons, List.length_nil, List.length_take, List.length_drop, List.length_replicate]; omega) | (simp; omega)) ht⟩,
      ⟨⟨rfl, rfl, fun _ τ hb ht hτ => R.asg (evt (hτ 10 _ rfl)) rfl ht⟩,
      trivial⟩⟩⟩⟩, rfl, rfl, rfl⟩)
    rfl (bx' := []) rfl (n' := 30) rfl (⟨[1, 5], [(1, _), (5, _)], [], 30, rfl, rfl, rfl, ?_⟩)
  refine W.seq ?_
  refine W.line (n := 3) (by decide) (its := [⟨11, _, true⟩, ⟨12, _, true⟩, ⟨6, _, true⟩]) (ks := [(2, 12)]) (kk := [(2, 12)]) (live := [1, 5, 6]) (env' := [(1, _), (5, _), (6, _)])
    (⟨Nat.le_of_ble_eq_true rfl, rfl,
      ⟨⟨rfl, rfl, fun _ τ hb ht hτ => R.mov (evt (hτ 5 _ rfl)) rfl ht⟩,
      ⟨⟨rfl, rfl, fun _ τ hb ht hτ => R.mk (n := (n.toNat % 400)) (evt (hτ 11 _ rfl)) (evt (hτ 11 _ rfl)) (by first | omega | (simp only [List.length_map, List.length_append, List.length_cons, List.length_nil, List.length_take, List.length_drop, List.length_replicate]; omega) | (simp; omega)) (by decide) ht⟩,
      ⟨⟨rfl, rfl, fun _ τ hb ht hτ => R.asgO (hτ 12 _ rfl) rfl ht (by decide)⟩,
      trivial⟩⟩⟩, rfl, rfl, rfl⟩)
    rfl (bx' := []) rfl (n' := 30) rfl (⟨[1, 5, 6], [(1, _), (5, _), (6, _)], [], 30, rfl, rfl, rfl, ?_⟩)
  refine W.seq ?_
  refine W.seq ?_
  refine W.line (n := 1) (by decide) (its := [⟨7, _, true⟩]) (ks := []) (kk := []) (live := [1, 5, 6, 7]) (env' := [(1, _), (5, _), (6, _), (7, _)])
    (⟨Nat.le_of_ble_eq_true rfl, rfl,
      ⟨⟨rfl, rfl, fun _ τ hb ht hτ => R.asg (show ev _ _ (.const (.int .i64 0)) = some (.int ((0 : Nat) : Int)) from rfl) rfl ht⟩,
      trivial⟩, rfl, rfl, rfl⟩)
    rfl (bx' := []) rfl (n' := 30) rfl (⟨[1, 5, 6, 7], [(1, _), (5, _), (6, _), (7, _)], [], 30, rfl, rfl, rfl, ?_⟩)
  refine W.block ?_
  refine W.loop (α := {q__ : Nat // q__ ≤ n.toNat % 400}) (fun q__ => ⟨30, [(1, .u8 x), (5, .int ((n.toNat % 400 : Nat) : Int)), (6, .sl (some 5) 1 ((fillB x (n.toNat % 400) q__.1).map D.u8)), (7, .int ((q__.1 : Nat) : Int))], []⟩) (fun q__ => n.toNat % 400 - q__.1) ⟨(0), (by first | omega | (simp only [List.length_map, List.length_append, List.length_cons, List.length_nil, List.length_take, List.length_drop, List.length_replicate]; omega) | (simp; omega))⟩ (by simp [fillB]) ?_
  rintro ⟨i, hi⟩
  show W _ _ _ _ ⟨30, [(1, .u8 x), (5, .int ((n.toNat % 400 : Nat) : Int)), (6, .sl (some 5) 1 ((fillB x (n.toNat % 400) i).map D.u8)), (7, .int ((i : Nat) : Int))], []⟩
  have hfl := fillB_len x (n.toNat % 400) i
  refine W.seq ?_
  refine W.seq ?_
  refine W.line (n := 3) (by decide) (its := [⟨13, _, true⟩, ⟨14, _, true⟩, ⟨15, _, true⟩]) (ks := []) (kk := []) (live := [1, 5, 6, 7, 15]) (env' := [(1, _), (5, _), (6, _), (7, _), (15, _)])
    (⟨Nat.le_of_ble_eq_true rfl, rfl,
      ⟨⟨rfl, rfl, fun _ τ hb ht hτ => R.mov (evt (hτ 7 _ rfl)) rfl ht⟩,
      ⟨⟨rfl, rfl, fun _ τ hb ht hτ => R.mov (evt (hτ 5 _ rfl)) rfl ht⟩,
      ⟨⟨rfl, rfl, fun _ τ hb ht hτ => R.lssN (i) (n.toNat % 400) (evt (hτ 13 _ rfl)) (evt (hτ 14 _ rfl)) ht⟩,
      trivial⟩⟩⟩, rfl, rfl, rfl⟩)
    rfl (bx' := []) rfl (n' := 30) rfl (⟨[1, 5, 6, 7, 15], [(1, _), (5, _), (6, _), (7, _), (15, _)], [], 30, rfl, rfl, rfl, ?_⟩)
  refine W.condD rfl (fun hc15 => ?_) (fun hc15 => ?_)
  · refine W.skip ?_
    refine W.seq ?_
    refine W.block ?_
    refine W.line (n := 5) (by decide) (its := [⟨18, _, true⟩, ⟨19, _, true⟩, ⟨20, _, true⟩, ⟨21, _, true⟩]) (ks := []) (kk := []) (live := [1, 5, 6, 7, 18, 20, 21]) (env' := [(1, _), (5, _), (6, _), (7, _), (18, _), (20, _), (21, _)])
      (⟨Nat.le_of_ble_eq_true rfl, rfl,
        ⟨⟨rfl, rfl, fun _ τ hb ht hτ => R.al (hτ 6 _ rfl) ht (by decide)⟩,
        ⟨⟨rfl, rfl, fun _ τ hb ht hτ => R.mov (evt (hτ 7 _ rfl)) rfl ht⟩,
        ⟨⟨rfl, rfl, fun _ τ hb ht hτ => R.mov (evt (hτ 1 _ rfl)) rfl ht⟩,
        ⟨⟨rfl, rfl, fun _ τ hb ht hτ => R.idxN (i) (SC.al (hτ 18 _ rfl) (hτ 6 _ rfl)) (evoI (evt (hτ 19 _ rfl))) rfl (by first | omega | (simp only [List.length_map, List.length_append, List.length_cons, List.length_nil, List.length_take, List.length_drop, List.length_replicate]; omega) | (simp; omega)) ht (by decide)⟩,
        trivial⟩⟩⟩⟩, rfl, rfl, rfl⟩)
      rfl (bx' := []) rfl (n' := 30) rfl (⟨rfl, _, R.stEY (show Sg.get _ 21 = some _ from rfl) (Or.inr (show Sg.get _ 18 = some _ from rfl)) (show Sg.get _ 6 = some _ from rfl) (map_get! (l := (fillB x (n.toNat % 400) i)) (by first | omega | (simp only [List.length_map, List.length_append, List.length_cons, List.length_nil, List.length_take, List.length_drop, List.length_replicate]; omega) | (simp; omega))) rfl (evt (show Sg.get _ 20 = some _ from rfl)) (by rfl) (by rfl) (by rfl) (by rfl) upd_nil set_map, ⟨[1, 5, 6, 7], [(1, _), (5, _), (6, _), (7, _)], [], 30, rfl, rfl, rfl, ?_⟩⟩)
    refine W.line (n := 3) (by decide) (its := [⟨16, _, true⟩, ⟨17, _, true⟩, ⟨7, _, true⟩]) (ks := []) (kk := []) (live := [1, 5, 6, 7]) (env' := [(1, _), (5, _), (6, _), (7, _)])
      (⟨Nat.le_of_ble_eq_true rfl, rfl,
        ⟨⟨rfl, rfl, fun _ τ hb ht hτ => R.mov (evt (hτ 7 _ rfl)) rfl ht⟩,
        ⟨⟨rfl, rfl, fun _ τ hb ht hτ => R.addN (i) (1) (evt (hτ 16 _ rfl)) (show ev _ _ (.const (.int .i64 1)) = some (.int ((1 : Nat) : Int)) from rfl) (by first | omega | (simp only [List.length_map, List.length_append, List.length_cons, List.length_nil, List.length_take, List.length_drop, List.length_replicate]; omega) | (simp; omega)) ht⟩,
        ⟨⟨rfl, rfl, fun _ τ hb ht hτ => R.asg (evt (hτ 17 _ rfl)) rfl ht⟩,
        trivial⟩⟩⟩, rfl, rfl, rfl⟩)
      rfl (bx' := []) rfl (n' := 30) rfl (⟨[1, 5, 6, 7], [(1, _), (5, _), (6, _), (7, _)], [], 30, rfl, rfl, rfl, ?_⟩)
    exact ⟨⟨(i + 1), (by first | omega | (simp only [List.length_map, List.length_append, List.length_cons, List.length_nil, List.length_take, List.length_drop, List.length_replicate]; omega) | (simp; omega))⟩, rfl, (by simp only []; omega)⟩
  · obtain rfl : i = n.toNat % 400 := by omega
    refine W.exit ?_
    refine W.seq ?_
    refine W.line (n := 9) (by decide) (its := [⟨22, _, true⟩, ⟨23, _, true⟩, ⟨24, _, true⟩, ⟨25, _, true⟩, ⟨26, _, true⟩, ⟨27, _, true⟩, ⟨28, _, true⟩, ⟨29, _, true⟩, ⟨4, _, true⟩]) (ks := []) (kk := []) (live := [4]) (env' := [(4, _)])
      (⟨Nat.le_of_ble_eq_true rfl, rfl,
        ⟨⟨rfl, rfl, fun _ τ hb ht hτ => R.al (hτ 6 _ rfl) ht (by decide)⟩,
        ⟨⟨rfl, rfl, fun _ τ hb ht hτ => R.callG hC (sum_ok (fillB x (n.toNat % 400) (n.toNat % 400)) (by rw [fillB_len]; omega)) (Bors.cons (Bor.sc (SC.al (hτ 22 _ rfl) (hτ 6 _ rfl)) (brw_map (fun _ => rfl))) Bors.nil) (FrsR.one (frs_hash _)) ht⟩,
        ⟨⟨rfl, rfl, fun _ τ hb ht hτ => R.al (hτ 6 _ rfl) ht (by decide)⟩,
        ⟨⟨rfl, rfl, fun _ τ hb ht hτ => R.callG hC (rsum_ok (fillB x (n.toNat % 400) (n.toNat % 400)) (by rw [fillB_len]; omega)) (Bors.cons (Bor.sc (SC.al (hτ 24 _ rfl) (hτ 6 _ rfl)) (brw_map (fun _ => rfl))) Bors.nil) (FrsR.one (frs_hash _)) ht⟩,
        ⟨⟨rfl, rfl, fun _ τ hb ht hτ => R.eqAE (evt (hτ 23 _ rfl)) (evt (hτ 25 _ rfl)) ht⟩,
        ⟨⟨rfl, rfl, fun _ τ hb ht hτ => R.mov (evt (hτ 26 _ rfl)) rfl ht⟩,
        ⟨⟨rfl, ⟨_, 27, rfl, rfl, .inl ⟨_, rfl, gw (v := true) (sum_eq _) rfl⟩⟩, fun _ τ hb ht hτ => R.callG hC (works_ok) Bors.nil (FrsR.one (.bool _)) ht⟩,
        ⟨⟨rfl, rfl, fun _ τ hb ht hτ => R.pickT (evt (hτ 27 _ rfl)) (sum_eq _) (evt (hτ 28 _ rfl)) rfl ht⟩,
        ⟨⟨rfl, rfl, fun _ τ hb ht hτ => R.asg (evt (hτ 29 _ rfl)) rfl ht⟩,
        trivial⟩⟩⟩⟩⟩⟩⟩⟩⟩, rfl, rfl, rfl⟩)
      rfl (bx' := []) rfl (n' := 30) rfl (⟨[4], [(4, _)], [], 30, rfl, rfl, rfl, ?_⟩)
    refine W.ret ?_
    exact Ends.one' (.inr rfl) rfl (rfl) rfl rfl trivial

end Go.Sx
