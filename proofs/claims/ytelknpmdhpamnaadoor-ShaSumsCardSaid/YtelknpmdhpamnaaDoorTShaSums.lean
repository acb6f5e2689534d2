/- Proved: what functions of the given program compute (used by the theorem of this claim). Conditions: none but those that each theorem states. -/
import Derived.Test.YtelknpmdhpamnaaDoorSha4
import Derived.Test.YtelknpmdhpamnaaDoorShaLaw2
set_option linter.unusedVariables false
set_option linter.unusedSimpArgs false
set_option linter.unnecessarySimpa false
namespace Go.Sx
open Go.Proofs
theorem shasums_ok (b : List UInt8) : Fn Tryd.prog gl 3 [.sl none 1 (b.map D.u8)] (.bool true) := by
  refine Fn.of (n := 30) Tryd.func3 rfl rfl rfl (Nat.le_of_ble_eq_true rfl) fun C hC => ?_
  refine W.seq ?_
  refine W.line (n := 1) (by decide) (its := [⟨2, _, true⟩]) (ks := []) (kk := []) (live := [0]) (env' := [(0, _)])
    (⟨Nat.le_of_ble_eq_true rfl, rfl,
      ⟨⟨rfl, rfl, fun _ τ hb ht hτ => R.asg (show ev _ _ (.const (.bool false)) = some (.bool false) from rfl) rfl ht⟩,
      trivial⟩, rfl, rfl, rfl⟩)
    rfl (bx' := []) rfl (n' := 30) rfl (⟨[0], [(0, _)], [], 30, rfl, rfl, rfl, ?_⟩)
  refine W.seq ?_
  refine W.seq ?_
  refine W.line (n := 3) (by decide) (its := [⟨4, _, true⟩, ⟨5, _, true⟩, ⟨6, _, true⟩]) (ks := []) (kk := []) (live := [0, 6]) (env' := [(0, _), (6, _)])
    (⟨Nat.le_of_ble_eq_true rfl, rfl,
      ⟨⟨rfl, rfl, fun _ τ hb ht hτ => R.mov (evt (hτ 0 _ rfl)) rfl ht⟩,
      ⟨⟨rfl, rfl, fun _ τ hb ht hτ => R.lenE (SC.sl (hτ 4 _ rfl)) (List.length_map _) ht⟩,
      ⟨⟨rfl, rfl, fun _ τ hb ht hτ => R.gtrN (b.length) (4096) (evt (hτ 5 _ rfl)) (show ev _ _ (.const (.int .i64 4096)) = some (.int ((4096 : Nat) : Int)) from rfl) ht⟩,
      trivial⟩⟩⟩, rfl, rfl, rfl⟩)
    rfl (bx' := []) rfl (n' := 30) rfl (⟨[0, 6], [(0, _), (6, _)], [], 30, rfl, rfl, rfl, ?_⟩)
  refine W.condD rfl (fun hc6 => ?_) (fun hc6 => ?_)
  · refine W.seq ?_
    refine W.line (n := 2) (by decide) (its := [⟨7, _, true⟩, ⟨2, _, true⟩]) (ks := []) (kk := []) (live := [2]) (env' := [(2, _)])
      (⟨Nat.le_of_ble_eq_true rfl, rfl,
        ⟨⟨rfl, rfl, fun _ τ hb ht hτ => R.callG hC (works_ok) Bors.nil (FrsR.one (.bool _)) ht⟩,
        ⟨⟨rfl, rfl, fun _ τ hb ht hτ => R.asg (evt (hτ 7 _ rfl)) rfl ht⟩,
        trivial⟩⟩, rfl, rfl, rfl⟩)
      rfl (bx' := []) rfl (n' := 30) rfl (⟨[2], [(2, _)], [], 30, rfl, rfl, rfl, ?_⟩)
    refine W.ret ?_
    exact Ends.one' (.inr rfl) rfl (rfl) rfl rfl trivial
  · refine W.skip ?_
    refine W.seq ?_
    refine W.line (n := 3) (by decide) (its := [⟨8, _, true⟩, ⟨9, _, true⟩, ⟨3, _, true⟩]) (ks := [(2, 9)]) (kk := [(2, 9)]) (live := [0, 3]) (env' := [(0, _), (3, _)])
      (⟨Nat.le_of_ble_eq_true rfl, rfl,
        ⟨⟨rfl, rfl, fun _ τ hb ht hτ => R.mov (evt (hτ 0 _ rfl)) rfl ht⟩,
        ⟨⟨rfl, rfl, fun _ τ hb ht hτ => R.callG hC (copied_ok b (by omega)) (Bors.cons (Bor.pur (evt (hτ 8 _ rfl)) rfl rfl) Bors.nil) (FrsR.one (.sl _ _ _ (frs_map fun _ => .u8 _))) ht⟩,
        ⟨⟨rfl, rfl, fun _ τ hb ht hτ => R.asgO (hτ 9 _ rfl) rfl ht (by decide)⟩,
        trivial⟩⟩⟩, rfl, rfl, rfl⟩)
      rfl (bx' := []) rfl (n' := 30) rfl (⟨[0, 3], [(0, _), (3, _)], [], 30, rfl, rfl, rfl, ?_⟩)
    refine W.seq ?_
    refine W.line (n := 21) (by decide) (its := [⟨10, _, true⟩, ⟨11, _, true⟩, ⟨12, _, true⟩, ⟨13, _, true⟩, ⟨14, _, true⟩, ⟨15, _, true⟩, ⟨16, _, true⟩, ⟨17, _, true⟩, ⟨18, _, true⟩, ⟨19, _, true⟩, ⟨20, _, true⟩, ⟨21, _, true⟩, ⟨22, _, true⟩, ⟨23, _, true⟩, ⟨24, _, true⟩, ⟨25, _, true⟩, ⟨26, _, true⟩, ⟨27, _, true⟩, ⟨28, _, true⟩, ⟨29, _, true⟩, ⟨2, _, true⟩]) (ks := []) (kk := []) (live := [2]) (env' := [(2, _)])
      (⟨Nat.le_of_ble_eq_true rfl, rfl,
        ⟨⟨rfl, rfl, fun _ τ hb ht hτ => R.al (hτ 3 _ rfl) ht (by decide)⟩,
        ⟨⟨rfl, rfl, fun _ τ hb ht hτ => R.callG hC (sum_ok b (by omega)) (Bors.cons (Bor.sc (SC.al (hτ 10 _ rfl) (hτ 3 _ rfl)) (brw_map (fun _ => rfl))) Bors.nil) (FrsR.one (frs_hash _)) ht⟩,
        ⟨⟨rfl, rfl, fun _ τ hb ht hτ => R.mov (evt (hτ 0 _ rfl)) rfl ht⟩,
        ⟨⟨rfl, rfl, fun _ τ hb ht hτ => R.callG hC (rsum_ok b (by omega)) (Bors.cons (Bor.pur (evt (hτ 12 _ rfl)) rfl rfl) Bors.nil) (FrsR.one (frs_hash _)) ht⟩,
        ⟨⟨rfl, rfl, fun _ τ hb ht hτ => R.eqAE (evt (hτ 11 _ rfl)) (evt (hτ 13 _ rfl)) ht⟩,
        ⟨⟨rfl, rfl, fun _ τ hb ht hτ => R.mov (evt (hτ 14 _ rfl)) rfl ht⟩,
        ⟨⟨rfl, ⟨_, 15, rfl, rfl, .inl ⟨_, rfl, gw (v := true) (sum_eq b) rfl⟩⟩, fun _ τ hb ht hτ => R.al (hτ 3 _ rfl) ht (by decide)⟩,
        ⟨⟨rfl, ⟨_, 15, rfl, rfl, .inl ⟨_, rfl, gw (v := true) (sum_eq b) rfl⟩⟩, fun _ τ hb ht hτ => R.callG hC (twice_ok b (by omega)) (Bors.cons (Bor.sc (SC.al (hτ 16 _ rfl) (hτ 3 _ rfl)) (brw_map (fun _ => rfl))) Bors.nil) (FrsR.one (frs_hash _)) ht⟩,
        ⟨⟨rfl, ⟨_, 15, rfl, rfl, .inl ⟨_, rfl, gw (v := true) (sum_eq b) rfl⟩⟩, fun _ τ hb ht hτ => R.mov (evt (hτ 0 _ rfl)) rfl ht⟩,
        ⟨⟨rfl, ⟨_, 15, rfl, rfl, .inl ⟨_, rfl, gw (v := true) (sum_eq b) rfl⟩⟩, fun _ τ hb ht hτ => R.callG hC (rtwice_ok b (by omega)) (Bors.cons (Bor.pur (evt (hτ 18 _ rfl)) rfl rfl) Bors.nil) (FrsR.one (frs_hash _)) ht⟩,
        ⟨⟨rfl, ⟨_, 15, rfl, rfl, .inl ⟨_, rfl, gw (v := true) (sum_eq b) rfl⟩⟩, fun _ τ hb ht hτ => R.eqAE (evt (hτ 17 _ rfl)) (evt (hτ 19 _ rfl)) ht⟩,
        ⟨⟨rfl, rfl, fun _ τ hb ht hτ => R.pickT (evt (hτ 15 _ rfl)) (sum_eq b) (evt (hτ 20 _ rfl)) rfl ht⟩,
        ⟨⟨rfl, rfl, fun _ τ hb ht hτ => R.mov (evt (hτ 21 _ rfl)) rfl ht⟩,
        ⟨⟨rfl, ⟨_, 22, rfl, rfl, .inl ⟨_, rfl, gw (v := true) (twice_eq b) rfl⟩⟩, fun _ τ hb ht hτ => R.al (hτ 3 _ rfl) ht (by decide)⟩,
        ⟨⟨rfl, ⟨_, 22, rfl, rfl, .inl ⟨_, rfl, gw (v := true) (twice_eq b) rfl⟩⟩, fun _ τ hb ht hτ => R.mov (evt (hτ 0 _ rfl)) rfl ht⟩,
        ⟨⟨rfl, ⟨_, 22, rfl, rfl, .inl ⟨_, rfl, gw (v := true) (twice_eq b) rfl⟩⟩, fun _ τ hb ht hτ => R.callG hC (same_ok b b (by omega)) (Bors.cons (Bor.sc (SC.al (hτ 23 _ rfl) (hτ 3 _ rfl)) (brw_map (fun _ => rfl))) (Bors.cons (Bor.pur (evt (hτ 24 _ rfl)) rfl rfl) Bors.nil)) (FrsR.one (.bool _)) ht⟩,
        ⟨⟨rfl, rfl, fun _ τ hb ht hτ => R.pickT (evt (hτ 22 _ rfl)) (twice_eq b) (evt (hτ 25 _ rfl)) rfl ht⟩,
        ⟨⟨rfl, rfl, fun _ τ hb ht hτ => R.mov (evt (hτ 26 _ rfl)) rfl ht⟩,
        ⟨⟨rfl, ⟨_, 27, rfl, rfl, .inl ⟨_, rfl, gw (v := true) (beq_self_eq_true b) rfl⟩⟩, fun _ τ hb ht hτ => R.callG hC (works_ok) Bors.nil (FrsR.one (.bool _)) ht⟩,
        ⟨⟨rfl, rfl, fun _ τ hb ht hτ => R.pickT (evt (hτ 27 _ rfl)) (beq_self_eq_true b) (evt (hτ 28 _ rfl)) rfl ht⟩,
        ⟨⟨rfl, rfl, fun _ τ hb ht hτ => R.asg (evt (hτ 29 _ rfl)) rfl ht⟩,
        trivial⟩⟩⟩⟩⟩⟩⟩⟩⟩⟩⟩⟩⟩⟩⟩⟩⟩⟩⟩⟩⟩, rfl, rfl, rfl⟩)
      rfl (bx' := []) rfl (n' := 30) rfl (⟨[2], [(2, _)], [], 30, rfl, rfl, rfl, ?_⟩)
    refine W.ret ?_
    exact Ends.one' (.inr rfl) rfl (rfl) rfl rfl trivial

end Go.Sx
