/- Proved: what functions of the given program compute (used by the theorem of this claim). Conditions: none but those that each theorem states. -/
import Derived.Test.YtokkedaeemebaaaDoorGp5
import Derived.Test.YtokkedaeemebaaaDoorGapLaw2
set_option linter.unusedVariables false
set_option linter.unusedSimpArgs false
set_option linter.unnecessarySimpa false
namespace Go.Sx
open Go.Proofs
theorem works_ok : Fn Tryd.prog gl 7 [] (.bool true) := by
  refine Fn.of (n := 39) Tryd.func7 rfl rfl rfl (Nat.le_of_ble_eq_true rfl) fun C hC => ?_
  have hsl := scriptS_len [1] ((2 : Nat) : Int)
  refine W.seq ?_
  refine W.line (n := 1) (by decide) (its := [⟨0, _, true⟩]) (ks := []) (kk := []) (live := []) (env' := [])
    (⟨Nat.le_of_ble_eq_true rfl, rfl,
      ⟨⟨rfl, rfl, fun _ τ hb ht hτ => R.asg (show ev _ _ (.const (.bool false)) = some (.bool false) from rfl) rfl ht⟩,
      trivial⟩, rfl, rfl, rfl⟩)
    rfl (bx' := []) rfl (n' := 39) rfl (⟨[], [], [], 39, rfl, rfl, rfl, ?_⟩)
  refine W.seq ?_
  refine W.line (n := 3) (by decide) (its := [⟨2, _, true⟩, ⟨3, _, true⟩, ⟨1, _, true⟩]) (ks := [(2, 3)]) (kk := [(2, 3)]) (live := [1]) (env' := [(1, _)])
    (⟨Nat.le_of_ble_eq_true rfl, rfl,
      ⟨⟨rfl, rfl, fun _ τ hb ht hτ => R.bslE (z := 1) (.cons (show ev _ _ (.const (.int .u8 1)) = some (.u8 1) from rfl) .nil) ⟨⟨rfl, rfl, rfl⟩, trivial⟩ rfl ht (by decide)⟩,
      ⟨⟨rfl, rfl, fun _ τ hb ht hτ => R.callG hC (script_ok [1] ((2 : Nat) : Int) (by decide) (by decide) (by decide)) (Bors.cons (Bor.sc (SC.sl (hτ 2 _ rfl)) rfl) (Bors.cons (Bor.pur (show ev _ _ (.const (.int .i64 2)) = some (.int ((2 : Nat) : Int)) from rfl) rfl rfl) Bors.nil)) (FrsR.one (.sl _ _ _ (frs_map fun _ => .u8 _))) ht⟩,
      ⟨⟨rfl, rfl, fun _ τ hb ht hτ => R.asgO (hτ 3 _ rfl) rfl ht (by decide)⟩,
      trivial⟩⟩⟩, rfl, rfl, rfl⟩)
    rfl (bx' := []) rfl (n' := 39) rfl (⟨[1], [(1, _)], [], 39, rfl, rfl, rfl, ?_⟩)
  refine W.seq ?_
  refine W.line (n := 36) (by decide) (its := (⟨4, _, true⟩ :: ⟨5, _, true⟩ :: ⟨6, _, true⟩ :: ⟨7, _, true⟩ :: ⟨8, _, true⟩ :: ⟨9, _, true⟩ :: ⟨10, _, true⟩ :: ⟨11, _, true⟩ :: ⟨12, _, true⟩ :: ⟨13, _, true⟩ :: ⟨14, _, true⟩ :: ⟨15, _, true⟩ :: ⟨16, _, true⟩ :: ⟨17, _, true⟩ :: ⟨18, _, true⟩ :: ⟨19, _, true⟩ :: ⟨20, _, true⟩ :: ⟨21, _, true⟩ :: ⟨22, _, true⟩ :: ⟨23, _, true⟩ :: ⟨24, _, true⟩ :: ⟨25, _, true⟩ :: ⟨26, _, true⟩ :: ⟨27, _, true⟩ :: ⟨28, _, true⟩ :: ⟨29, _, true⟩ :: ⟨30, _, true⟩ :: ⟨31, _, true⟩ :: ⟨32, _, true⟩ :: ⟨33, _, true⟩ :: ⟨34, _, true⟩ :: ⟨35, _, true⟩ :: ⟨36, _, true⟩ :: ⟨37, _, true⟩ :: ⟨38, _, true⟩ :: ⟨0, _, true⟩ :: [])) (ks := []) (kk := []) (live := [0]) (env' := [(0, _)])
    (⟨Nat.le_of_ble_eq_true rfl, rfl,
      ⟨⟨rfl, rfl, fun _ τ hb ht hτ => R.callG hC (watch_ok [] ((5 : Nat) : Int) (by decide) (by simp) (by decide)) (Bors.cons (Bor.nils (show ev _ _ (.const (.slice none 0 0)) = some (.nils) from rfl)) (Bors.cons (Bor.pur (show ev _ _ (.const (.int .i64 5)) = some (.int ((5 : Nat) : Int)) from rfl) rfl rfl) Bors.nil)) (FrsR.one (.int _)) ht⟩,
      ⟨⟨rfl, rfl, fun _ τ hb ht hτ => R.eqlN (watchS [] ((5 : Nat) : Int)) (5) (evt (hτ 4 _ rfl)) (show ev _ _ (.const (.int .i64 5)) = some (.int ((5 : Nat) : Int)) from rfl) ht⟩,
      ⟨⟨rfl, rfl, fun _ τ hb ht hτ => R.mov (evt (hτ 5 _ rfl)) rfl ht⟩,
      ⟨⟨rfl, ⟨_, 6, rfl, rfl, .inl ⟨_, rfl, gw (v := true) (decide_eq_true gw1) rfl⟩⟩, fun _ τ hb ht hτ => R.bslE (z := 1) (.cons (show ev _ _ (.const (.int .i64 0)) = some (.int ((0 : Nat) : Int)) from rfl) .nil) ⟨⟨rfl, rfl, rfl⟩, trivial⟩ rfl ht (by decide)⟩,
      ⟨⟨rfl, ⟨_, 6, rfl, rfl, .inl ⟨_, rfl, gw (v := true) (decide_eq_true gw1) rfl⟩⟩, fun _ τ hb ht hτ => R.callG hC (watch_ok [((0 : Nat) : Int)] ((5 : Nat) : Int) (by decide) (by simp) (by decide)) (Bors.cons (Bor.sc (SC.sl (hτ 7 _ rfl)) rfl) (Bors.cons (Bor.pur (show ev _ _ (.const (.int .i64 5)) = some (.int ((5 : Nat) : Int)) from rfl) rfl rfl) Bors.nil)) (FrsR.one (.int _)) ht⟩,
      ⟨⟨rfl, ⟨_, 6, rfl, rfl, .inl ⟨_, rfl, gw (v := true) (decide_eq_true gw1) rfl⟩⟩, fun _ τ hb ht hτ => R.eqlN (watchS [((0 : Nat) : Int)] ((5 : Nat) : Int)) (6) (evt (hτ 8 _ rfl)) (show ev _ _ (.const (.int .i64 6)) = some (.int ((6 : Nat) : Int)) from rfl) ht⟩,
      ⟨⟨rfl, rfl, fun _ τ hb ht hτ => R.pickT (evt (hτ 6 _ rfl)) (decide_eq_true gw1) (evt (hτ 9 _ rfl)) rfl ht⟩,
      ⟨⟨rfl, rfl, fun _ τ hb ht hτ => R.mov (evt (hτ 10 _ rfl)) rfl ht⟩,
      ⟨⟨rfl, ⟨_, 11, rfl, rfl, .inl ⟨_, rfl, gw (v := true) (decide_eq_true gw2) rfl⟩⟩, fun _ τ hb ht hτ => R.bslE (z := 1) (.cons (show ev _ _ (.const (.int .i64 4)) = some (.int ((4 : Nat) : Int)) from rfl) (.cons (show ev _ _ (.const (.int .i64 0)) = some (.int ((0 : Nat) : Int)) from rfl) .nil)) ⟨⟨rfl, rfl, rfl⟩, ⟨⟨rfl, rfl, rfl⟩, trivial⟩⟩ rfl ht (by decide)⟩,
      ⟨⟨rfl, ⟨_, 11, rfl, rfl, .inl ⟨_, rfl, gw (v := true) (decide_eq_true gw2) rfl⟩⟩, fun _ τ hb ht hτ => R.callG hC (watch_ok [((4 : Nat) : Int), ((0 : Nat) : Int)] ((5 : Nat) : Int) (by decide) (by simp) (by decide)) (Bors.cons (Bor.sc (SC.sl (hτ 12 _ rfl)) rfl) (Bors.cons (Bor.pur (show ev _ _ (.const (.int .i64 5)) = some (.int ((5 : Nat) : Int)) from rfl) rfl rfl) Bors.nil)) (FrsR.one (.int _)) ht⟩,
      ⟨⟨rfl, ⟨_, 11, rfl, rfl, .inl ⟨_, rfl, gw (v := true) (decide_eq_true gw2) rfl⟩⟩, fun _ τ hb ht hτ => R.eqlN (watchS [((4 : Nat) : Int), ((0 : Nat) : Int)] ((5 : Nat) : Int)) (10) (evt (hτ 13 _ rfl)) (show ev _ _ (.const (.int .i64 10)) = some (.int ((10 : Nat) : Int)) from rfl) ht⟩,
      ⟨⟨rfl, rfl, fun _ τ hb ht hτ => R.pickT (evt (hτ 11 _ rfl)) (decide_eq_true gw2) (evt (hτ 14 _ rfl)) rfl ht⟩,
      ⟨⟨rfl, rfl, fun _ τ hb ht hτ => R.mov (evt (hτ 15 _ rfl)) rfl ht⟩,
      ⟨⟨rfl, ⟨_, 16, rfl, rfl, .inl ⟨_, rfl, gw (v := true) (decide_eq_true gw3) rfl⟩⟩, fun _ τ hb ht hτ => R.bslE (z := 1) (.cons (show ev _ _ (.const (.int .i64 7)) = some (.int ((7 : Nat) : Int)) from rfl) .nil) ⟨⟨rfl, rfl, rfl⟩, trivial⟩ rfl ht (by decide)⟩,
      ⟨⟨rfl, ⟨_, 16, rfl, rfl, .inl ⟨_, rfl, gw (v := true) (decide_eq_true gw3) rfl⟩⟩, fun _ τ hb ht hτ => R.callG hC (watch_ok [((7 : Nat) : Int)] ((5 : Nat) : Int) (by decide) (by simp) (by decide)) (Bors.cons (Bor.sc (SC.sl (hτ 17 _ rfl)) rfl) (Bors.cons (Bor.pur (show ev _ _ (.const (.int .i64 5)) = some (.int ((5 : Nat) : Int)) from rfl) rfl rfl) Bors.nil)) (FrsR.one (.int _)) ht⟩,
      ⟨⟨rfl, ⟨_, 16, rfl, rfl, .inl ⟨_, rfl, gw (v := true) (decide_eq_true gw3) rfl⟩⟩, fun _ τ hb ht hτ => R.eqlN (watchS [((7 : Nat) : Int)] ((5 : Nat) : Int)) (5) (evt (hτ 18 _ rfl)) (show ev _ _ (.const (.int .i64 5)) = some (.int ((5 : Nat) : Int)) from rfl) ht⟩,
      ⟨⟨rfl, rfl, fun _ τ hb ht hτ => R.pickT (evt (hτ 16 _ rfl)) (decide_eq_true gw3) (evt (hτ 19 _ rfl)) rfl ht⟩,
      ⟨⟨rfl, rfl, fun _ τ hb ht hτ => R.mov (evt (hτ 20 _ rfl)) rfl ht⟩,
      ⟨⟨rfl, ⟨_, 21, rfl, rfl, .inl ⟨_, rfl, gw (v := true) (decide_eq_true gw4) rfl⟩⟩, fun _ τ hb ht hτ => R.al (hτ 1 _ rfl) ht (by decide)⟩,
      ⟨⟨rfl, ⟨_, 21, rfl, rfl, .inl ⟨_, rfl, gw (v := true) (decide_eq_true gw4) rfl⟩⟩, fun _ τ hb ht hτ => R.lenE (SC.al (hτ 22 _ rfl) (hτ 1 _ rfl)) (List.length_map _) ht⟩,
      ⟨⟨rfl, ⟨_, 21, rfl, rfl, .inl ⟨_, rfl, gw (v := true) (decide_eq_true gw4) rfl⟩⟩, fun _ τ hb ht hτ => R.eqlN ((scriptS [1] ((2 : Nat) : Int)).length) (22) (evt (hτ 23 _ rfl)) (show ev _ _ (.const (.int .i64 22)) = some (.int ((22 : Nat) : Int)) from rfl) ht⟩,
      ⟨⟨rfl, rfl, fun _ τ hb ht hτ => R.pickT (evt (hτ 21 _ rfl)) (decide_eq_true gw4) (evt (hτ 24 _ rfl)) rfl ht⟩,
      ⟨⟨rfl, rfl, fun _ τ hb ht hτ => R.mov (evt (hτ 25 _ rfl)) rfl ht⟩,
      ⟨⟨rfl, ⟨_, 26, rfl, rfl, .inl ⟨_, rfl, gw (v := true) (decide_eq_true (scriptS_len _ _)) rfl⟩⟩, fun _ τ hb ht hτ => R.al (hτ 1 _ rfl) ht (by decide)⟩,
      ⟨⟨rfl, ⟨_, 26, rfl, rfl, .inl ⟨_, rfl, gw (v := true) (decide_eq_true (scriptS_len _ _)) rfl⟩⟩, fun _ τ hb ht hτ => R.idxN (1) (SC.al (hτ 27 _ rfl) (hτ 1 _ rfl)) (evoI (show ev _ _ (.const (.int .i64 1)) = some (.int ((1 : Nat) : Int)) from rfl)) rfl (by first | omega | (simp only [List.length_map, List.length_append, List.length_cons, List.length_nil, List.length_take, List.length_drop, List.length_replicate]; omega) | (simp; omega)) ht (by decide)⟩,
      ⟨⟨rfl, ⟨_, 26, rfl, rfl, .inl ⟨_, rfl, gw (v := true) (decide_eq_true (scriptS_len _ _)) rfl⟩⟩, fun _ τ hb ht hτ => R.ldE (hτ 28 _ rfl) (SC.al (hτ 27 _ rfl) (hτ 1 _ rfl)) (map_get! (l := (scriptS [1] ((2 : Nat) : Int))) (by first | omega | (simp only [List.length_map, List.length_append, List.length_cons, List.length_nil, List.length_take, List.length_drop, List.length_replicate]; omega) | (simp; omega))) rfl rfl rfl rfl ht⟩,
      ⟨⟨rfl, ⟨_, 26, rfl, rfl, .inl ⟨_, rfl, gw (v := true) (decide_eq_true (scriptS_len _ _)) rfl⟩⟩, fun _ τ hb ht hτ => R.bin (evt (hτ 29 _ rfl)) (show ev _ _ (.const (.int .u8 20)) = some (.u8 20) from rfl) rfl trivial ht⟩,
      ⟨⟨rfl, rfl, fun _ τ hb ht hτ => R.pickT (evt (hτ 26 _ rfl)) (decide_eq_true (scriptS_len _ _)) (evt (hτ 30 _ rfl)) rfl ht⟩,
      ⟨⟨rfl, rfl, fun _ τ hb ht hτ => R.mov (evt (hτ 31 _ rfl)) rfl ht⟩,
      ⟨⟨rfl, ⟨_, 32, rfl, rfl, .inl ⟨_, rfl, gw (v := true) (gw5) rfl⟩⟩, fun _ τ hb ht hτ => R.bslE (z := 1) (.cons (show ev _ _ (.const (.int .u8 1)) = some (.u8 1) from rfl) .nil) ⟨⟨rfl, rfl, rfl⟩, trivial⟩ rfl ht (by decide)⟩,
      ⟨⟨rfl, ⟨_, 32, rfl, rfl, .inl ⟨_, rfl, gw (v := true) (gw5) rfl⟩⟩, fun _ τ hb ht hτ => R.callG hC (ghash_ok [1] ((2 : Nat) : Int) (by decide) (by decide) (by decide)) (Bors.cons (Bor.sc (SC.sl (hτ 33 _ rfl)) rfl) (Bors.cons (Bor.pur (show ev _ _ (.const (.int .i64 2)) = some (.int ((2 : Nat) : Int)) from rfl) rfl rfl) Bors.nil)) (FrsR.one (frs_hash _)) ht⟩,
      ⟨⟨rfl, ⟨_, 32, rfl, rfl, .inl ⟨_, rfl, gw (v := true) (gw5) rfl⟩⟩, fun _ τ hb ht hτ => R.al (hτ 1 _ rfl) ht (by decide)⟩,
      ⟨⟨rfl, ⟨_, 32, rfl, rfl, .inl ⟨_, rfl, gw (v := true) (gw5) rfl⟩⟩, fun _ τ hb ht hτ => R.callG hC (rsum_ok (scriptS [1] ((2 : Nat) : Int)) (by rw [scriptS_len]; decide)) (Bors.cons (Bor.sc (SC.al (hτ 35 _ rfl) (hτ 1 _ rfl)) (brw_map (fun _ => rfl))) Bors.nil) (FrsR.one (frs_hash _)) ht⟩,
      ⟨⟨rfl, ⟨_, 32, rfl, rfl, .inl ⟨_, rfl, gw (v := true) (gw5) rfl⟩⟩, fun _ τ hb ht hτ => R.eqAE (evt (hτ 34 _ rfl)) (evt (hτ 36 _ rfl)) ht⟩,
      ⟨⟨rfl, rfl, fun _ τ hb ht hτ => R.pickT (evt (hτ 32 _ rfl)) (gw5) (evt (hτ 37 _ rfl)) rfl ht⟩,
      ⟨⟨rfl, rfl, fun _ τ hb ht hτ => R.asg (evt (hτ 38 _ rfl)) rfl ht⟩,
      trivial⟩⟩⟩⟩⟩⟩⟩⟩⟩⟩⟩⟩⟩⟩⟩⟩⟩⟩⟩⟩⟩⟩⟩⟩⟩⟩⟩⟩⟩⟩⟩⟩⟩⟩⟩⟩, rfl, rfl, rfl⟩)
    rfl (bx' := []) rfl (n' := 39) rfl (⟨[0], [(0, _)], [], 39, rfl, rfl, rfl, ?_⟩)
  refine W.ret ?_
  exact Ends.one' (.inr rfl) rfl (congrArg D.bool (sum_eq _)) rfl rfl trivial

end Go.Sx
