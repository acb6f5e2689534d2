/- Proved: what functions of the given program compute (used by the theorem of this claim). Conditions: none but those that each theorem states. -/
import Derived.Test.YtokkedaeemebaaaDoorGp3
import Derived.Test.YtokkedaeemebaaaDoorGapLaw
set_option linter.unusedVariables false
set_option linter.unusedSimpArgs false
set_option linter.unnecessarySimpa false
namespace Go.Sx
open Go.Proofs
theorem bclone_ok (b : List UInt8) (hb0 : b.length ≤ 1000000000) : Fn Tryd.prog gl 17 [.sl none 1 (b.map D.u8)] (.sl (some 5) 1 (b.map D.u8)) := by
  refine Fn.of (n := 8) Tryd.func17 rfl rfl rfl (Nat.le_of_ble_eq_true rfl) fun C hC => ?_
  refine W.seq ?_
  refine W.line (n := 1) (by decide) (its := [⟨2, _, true⟩]) (ks := []) (kk := []) (live := [0]) (env' := [(0, _)])
    (⟨Nat.le_of_ble_eq_true rfl, rfl,
      ⟨⟨rfl, rfl, fun _ τ hb ht hτ => R.asg (show ev _ _ (.const (.slice none 0 0)) = some (.nils) from rfl) rfl ht⟩,
      trivial⟩, rfl, rfl, rfl⟩)
    rfl (bx' := []) rfl (n' := 8) rfl (⟨[0], [(0, _)], [], 8, rfl, rfl, rfl, ?_⟩)
  refine W.seq ?_
  refine W.seq ?_
  refine W.region (WL.cons rfl (R.mov (evt (show Sg.get _ 0 = some _ from rfl)) rfl (Nat.le_of_ble_eq_true rfl)) (WL.nilq (SC.sl (show Sg.get _ 3 = some _ from rfl)) (Nat.le_of_ble_eq_true rfl) (fun b__ hb__ => WL.nil ?_)))
  show W _ _ _ _ _
  refine W.dropS (live := [0, 4]) (env' := [(0, _), (4, _)]) (bx' := []) (n' := 8) rfl rfl rfl ?_
  refine W.cond rfl (fun hc4 => ?_) (fun hc4 => ?_)
  · refine W.seq ?_
    refine W.line (n := 1) (by decide) (its := [⟨2, _, true⟩]) (ks := []) (kk := []) (live := [2]) (env' := [(2, _)])
      (⟨Nat.le_of_ble_eq_true rfl, rfl,
        ⟨⟨rfl, rfl, fun _ τ hb ht hτ => R.asg (show ev _ _ (.const (.slice none 0 0)) = some (.nils) from rfl) rfl ht⟩,
        trivial⟩, rfl, rfl, rfl⟩)
      rfl (bx' := []) rfl (n' := 8) rfl (⟨[2], [(2, _)], [], 8, rfl, rfl, rfl, ?_⟩)
    refine W.asOwn (s := 2) 5 1 rfl ?_
    refine W.ret ?_
    exact Ends.one' (.inr rfl) rfl (by obtain rfl := nil_of hb__ hc4; rfl) rfl rfl trivial
  · refine W.skip ?_
    refine W.seq ?_
    refine W.line (n := 4) (by decide) (its := [⟨5, _, true⟩, ⟨6, _, true⟩, ⟨7, _, true⟩, ⟨2, _, true⟩]) (ks := [(2, 5), (3, 7)]) (kk := [(2, 5), (3, 7)]) (live := [2]) (env' := [(2, _)])
      (⟨Nat.le_of_ble_eq_true rfl, rfl,
        ⟨⟨rfl, rfl, fun _ τ hb ht hτ => R.bslE .nil trivial rfl ht (by decide)⟩,
        ⟨⟨rfl, rfl, fun _ τ hb ht hτ => R.mov (evt (hτ 0 _ rfl)) rfl ht⟩,
        ⟨⟨rfl, rfl, fun _ τ hb ht hτ => R.appE (Or.inl rfl) (hτ 5 _ rfl) (SrcO.sc (SC.sl (hτ 6 _ rfl)) (pur_map (fun _ => rfl))) (List.nil_append _) (by first | omega | (simp only [List.length_map, List.length_append, List.length_cons, List.length_nil, List.length_take, List.length_drop, List.length_replicate]; omega) | (simp; omega)) ht (by decide) (by decide)⟩,
        ⟨⟨rfl, rfl, fun _ τ hb ht hτ => R.asgO (hτ 7 _ rfl) rfl ht (by decide)⟩,
        trivial⟩⟩⟩⟩, rfl, rfl, rfl⟩)
      rfl (bx' := []) rfl (n' := 8) rfl (⟨[2], [(2, _)], [], 8, rfl, rfl, rfl, ?_⟩)
    refine W.ret ?_
    exact Ends.one' (.inr rfl) rfl (rfl) rfl rfl trivial

theorem sclone_ok (b : List UInt8) (hb0 : b.length ≤ 1000000000) : Fn Tryd.prog gl 26 [.sl none 1 (b.map D.u8)] (.sl (some 5) 1 (b.map D.u8)) := by
  refine Fn.of (n := 8) Tryd.func26 rfl rfl rfl (Nat.le_of_ble_eq_true rfl) fun C hC => ?_
  refine W.seq ?_
  refine W.line (n := 1) (by decide) (its := [⟨2, _, true⟩]) (ks := []) (kk := []) (live := [0]) (env' := [(0, _)])
    (⟨Nat.le_of_ble_eq_true rfl, rfl,
      ⟨⟨rfl, rfl, fun _ τ hb ht hτ => R.asg (show ev _ _ (.const (.slice none 0 0)) = some (.nils) from rfl) rfl ht⟩,
      trivial⟩, rfl, rfl, rfl⟩)
    rfl (bx' := []) rfl (n' := 8) rfl (⟨[0], [(0, _)], [], 8, rfl, rfl, rfl, ?_⟩)
  refine W.seq ?_
  refine W.seq ?_
  refine W.region (WL.cons rfl (R.mov (evt (show Sg.get _ 0 = some _ from rfl)) rfl (Nat.le_of_ble_eq_true rfl)) (WL.nilq (SC.sl (show Sg.get _ 3 = some _ from rfl)) (Nat.le_of_ble_eq_true rfl) (fun b__ hb__ => WL.nil ?_)))
  show W _ _ _ _ _
  refine W.dropS (live := [0, 4]) (env' := [(0, _), (4, _)]) (bx' := []) (n' := 8) rfl rfl rfl ?_
  refine W.cond rfl (fun hc4 => ?_) (fun hc4 => ?_)
  · refine W.seq ?_
    refine W.line (n := 1) (by decide) (its := [⟨2, _, true⟩]) (ks := []) (kk := []) (live := [2]) (env' := [(2, _)])
      (⟨Nat.le_of_ble_eq_true rfl, rfl,
        ⟨⟨rfl, rfl, fun _ τ hb ht hτ => R.asg (show ev _ _ (.const (.slice none 0 0)) = some (.nils) from rfl) rfl ht⟩,
        trivial⟩, rfl, rfl, rfl⟩)
      rfl (bx' := []) rfl (n' := 8) rfl (⟨[2], [(2, _)], [], 8, rfl, rfl, rfl, ?_⟩)
    refine W.asOwn (s := 2) 5 1 rfl ?_
    refine W.ret ?_
    exact Ends.one' (.inr rfl) rfl (by obtain rfl := nil_of hb__ hc4; rfl) rfl rfl trivial
  · refine W.skip ?_
    refine W.seq ?_
    refine W.line (n := 4) (by decide) (its := [⟨5, _, true⟩, ⟨6, _, true⟩, ⟨7, _, true⟩, ⟨2, _, true⟩]) (ks := [(2, 5), (3, 7)]) (kk := [(2, 5), (3, 7)]) (live := [2]) (env' := [(2, _)])
      (⟨Nat.le_of_ble_eq_true rfl, rfl,
        ⟨⟨rfl, rfl, fun _ τ hb ht hτ => R.bslE .nil trivial rfl ht (by decide)⟩,
        ⟨⟨rfl, rfl, fun _ τ hb ht hτ => R.mov (evt (hτ 0 _ rfl)) rfl ht⟩,
        ⟨⟨rfl, rfl, fun _ τ hb ht hτ => R.appE (Or.inl rfl) (hτ 5 _ rfl) (SrcO.sc (SC.sl (hτ 6 _ rfl)) (pur_map (fun _ => rfl))) (List.nil_append _) (by first | omega | (simp only [List.length_map, List.length_append, List.length_cons, List.length_nil, List.length_take, List.length_drop, List.length_replicate]; omega) | (simp; omega)) ht (by decide) (by decide)⟩,
        ⟨⟨rfl, rfl, fun _ τ hb ht hτ => R.asgO (hτ 7 _ rfl) rfl ht (by decide)⟩,
        trivial⟩⟩⟩⟩, rfl, rfl, rfl⟩)
      rfl (bx' := []) rfl (n' := 8) rfl (⟨[2], [(2, _)], [], 8, rfl, rfl, rfl, ?_⟩)
    refine W.ret ?_
    exact Ends.one' (.inr rfl) rfl (rfl) rfl rfl trivial

theorem oright_ok (n : Nat) : Fn Tryd.prog gl 27 [.int ((n : Nat) : Int)] (.bool (szB n)) := by
  refine Fn.of (n := 9) Tryd.func27 rfl rfl rfl (Nat.le_of_ble_eq_true rfl) fun C hC => ?_
  refine W.seq ?_
  refine W.line (n := 1) (by decide) (its := [⟨2, _, true⟩]) (ks := []) (kk := []) (live := [0]) (env' := [(0, _)])
    (⟨Nat.le_of_ble_eq_true rfl, rfl,
      ⟨⟨rfl, rfl, fun _ τ hb ht hτ => R.asg (show ev _ _ (.const (.bool false)) = some (.bool false) from rfl) rfl ht⟩,
      trivial⟩, rfl, rfl, rfl⟩)
    rfl (bx' := []) rfl (n' := 9) rfl (⟨[0], [(0, _)], [], 9, rfl, rfl, rfl, ?_⟩)
  refine W.seq ?_
  refine W.seq ?_
  refine W.line (n := 1) (by decide) (its := [⟨3, _, true⟩]) (ks := []) (kk := []) (live := [3]) (env' := [(3, _)])
    (⟨Nat.le_of_ble_eq_true rfl, rfl,
      ⟨⟨rfl, rfl, fun _ τ hb ht hτ => R.mov (evt (hτ 0 _ rfl)) rfl ht⟩,
      trivial⟩, rfl, rfl, rfl⟩)
    rfl (bx' := []) rfl (n' := 9) rfl (⟨[3], [(3, _)], [], 9, rfl, rfl, rfl, ?_⟩)
  refine W.block ?_
  refine W.seq ?_
  refine W.seq ?_
  refine W.line (n := 2) (by decide) (its := [⟨5, _, true⟩, ⟨4, _, true⟩]) (ks := []) (kk := []) (live := [3, 4]) (env' := [(3, _), (4, _)])
    (⟨Nat.le_of_ble_eq_true rfl, rfl,
      ⟨⟨rfl, rfl, fun _ τ hb ht hτ => R.eqlN (n) (1) (evt (hτ 3 _ rfl)) (show ev _ _ (.const (.int .i64 1)) = some (.int ((1 : Nat) : Int)) from rfl) ht⟩,
      ⟨⟨rfl, rfl, fun _ τ hb ht hτ => R.asg (evt (hτ 5 _ rfl)) rfl ht⟩,
      trivial⟩⟩, rfl, rfl, rfl⟩)
    rfl (bx' := []) rfl (n' := 9) rfl (⟨[3, 4], [(3, _), (4, _)], [], 9, rfl, rfl, rfl, ?_⟩)
  refine W.condD rfl (fun hc4 => ?_) (fun hc4 => ?_)
  · refine W.skip ?_
    refine W.condD rfl (fun hc4 => ?_) (fun hc4 => ?_)
    · refine W.seq ?_
      refine W.line (n := 1) (by decide) (its := [⟨2, _, true⟩]) (ks := []) (kk := []) (live := [2]) (env' := [(2, _)])
        (⟨Nat.le_of_ble_eq_true rfl, rfl,
          ⟨⟨rfl, rfl, fun _ τ hb ht hτ => R.asg (show ev _ _ (.const (.bool true)) = some (.bool true) from rfl) rfl ht⟩,
          trivial⟩, rfl, rfl, rfl⟩)
        rfl (bx' := []) rfl (n' := 9) rfl (⟨[2], [(2, _)], [], 9, rfl, rfl, rfl, ?_⟩)
      refine W.ret ?_
      exact Ends.one' (.inr rfl) rfl (by first | (exfalso; omega) | (simp [szB, *]; done) | (simp [szB]; omega)) rfl rfl trivial
    · refine W.skip ?_
      refine W.seq ?_
      refine W.line (n := 1) (by decide) (its := [⟨2, _, true⟩]) (ks := []) (kk := []) (live := [2]) (env' := [(2, _)])
        (⟨Nat.le_of_ble_eq_true rfl, rfl,
          ⟨⟨rfl, rfl, fun _ τ hb ht hτ => R.asg (show ev _ _ (.const (.bool false)) = some (.bool false) from rfl) rfl ht⟩,
          trivial⟩, rfl, rfl, rfl⟩)
        rfl (bx' := []) rfl (n' := 9) rfl (⟨[2], [(2, _)], [], 9, rfl, rfl, rfl, ?_⟩)
      refine W.ret ?_
      exact Ends.one' (.inr rfl) rfl (by first | (exfalso; omega) | (simp [szB, *]; done) | (simp [szB]; omega)) rfl rfl trivial
  · refine W.seq ?_
    refine W.line (n := 2) (by decide) (its := [⟨6, _, true⟩, ⟨4, _, true⟩]) (ks := []) (kk := []) (live := [3, 4]) (env' := [(3, _), (4, _)])
      (⟨Nat.le_of_ble_eq_true rfl, rfl,
        ⟨⟨rfl, rfl, fun _ τ hb ht hτ => R.eqlN (n) (2) (evt (hτ 3 _ rfl)) (show ev _ _ (.const (.int .i64 2)) = some (.int ((2 : Nat) : Int)) from rfl) ht⟩,
        ⟨⟨rfl, rfl, fun _ τ hb ht hτ => R.asg (evt (hτ 6 _ rfl)) rfl ht⟩,
        trivial⟩⟩, rfl, rfl, rfl⟩)
      rfl (bx' := []) rfl (n' := 9) rfl (⟨[3, 4], [(3, _), (4, _)], [], 9, rfl, rfl, rfl, ?_⟩)
    refine W.condD rfl (fun hc4 => ?_) (fun hc4 => ?_)
    · refine W.skip ?_
      refine W.condD rfl (fun hc4 => ?_) (fun hc4 => ?_)
      · refine W.seq ?_
        refine W.line (n := 1) (by decide) (its := [⟨2, _, true⟩]) (ks := []) (kk := []) (live := [2]) (env' := [(2, _)])
          (⟨Nat.le_of_ble_eq_true rfl, rfl,
            ⟨⟨rfl, rfl, fun _ τ hb ht hτ => R.asg (show ev _ _ (.const (.bool true)) = some (.bool true) from rfl) rfl ht⟩,
            trivial⟩, rfl, rfl, rfl⟩)
          rfl (bx' := []) rfl (n' := 9) rfl (⟨[2], [(2, _)], [], 9, rfl, rfl, rfl, ?_⟩)
        refine W.ret ?_
        exact Ends.one' (.inr rfl) rfl (by first | (exfalso; omega) | (simp [szB, *]; done) | (simp [szB]; omega)) rfl rfl trivial
      · refine W.skip ?_
        refine W.seq ?_
        refine W.line (n := 1) (by decide) (its := [⟨2, _, true⟩]) (ks := []) (kk := []) (live := [2]) (env' := [(2, _)])
          (⟨Nat.le_of_ble_eq_true rfl, rfl,
            ⟨⟨rfl, rfl, fun _ τ hb ht hτ => R.asg (show ev _ _ (.const (.bool false)) = some (.bool false) from rfl) rfl ht⟩,
            trivial⟩, rfl, rfl, rfl⟩)
          rfl (bx' := []) rfl (n' := 9) rfl (⟨[2], [(2, _)], [], 9, rfl, rfl, rfl, ?_⟩)
        refine W.ret ?_
        exact Ends.one' (.inr rfl) rfl (by first | (exfalso; omega) | (simp [szB, *]; done) | (simp [szB]; omega)) rfl rfl trivial
    · refine W.seq ?_
      refine W.line (n := 2) (by decide) (its := [⟨7, _, true⟩, ⟨4, _, true⟩]) (ks := []) (kk := []) (live := [3, 4]) (env' := [(3, _), (4, _)])
        (⟨Nat.le_of_ble_eq_true rfl, rfl,
          ⟨⟨rfl, rfl, fun _ τ hb ht hτ => R.eqlN (n) (4) (evt (hτ 3 _ rfl)) (show ev _ _ (.const (.int .i64 4)) = some (.int ((4 : Nat) : Int)) from rfl) ht⟩,
          ⟨⟨rfl, rfl, fun _ τ hb ht hτ => R.asg (evt (hτ 7 _ rfl)) rfl ht⟩,
          trivial⟩⟩, rfl, rfl, rfl⟩)
        rfl (bx' := []) rfl (n' := 9) rfl (⟨[3, 4], [(3, _), (4, _)], [], 9, rfl, rfl, rfl, ?_⟩)
      refine W.condD rfl (fun hc4 => ?_) (fun hc4 => ?_)
      · refine W.skip ?_
        refine W.condD rfl (fun hc4 => ?_) (fun hc4 => ?_)
        · refine W.seq ?_
          refine W.line (n := 1) (by decide) (its := [⟨2, _, true⟩]) (ks := []) (kk := []) (live := [2]) (env' := [(2, _)])
            (⟨Nat.le_of_ble_eq_true rfl, rfl,
              ⟨⟨rfl, rfl, fun _ τ hb ht hτ => R.asg (show ev _ _ (.const (.bool true)) = some (.bool true) from rfl) rfl ht⟩,
              trivial⟩, rfl, rfl, rfl⟩)
            rfl (bx' := []) rfl (n' := 9) rfl (⟨[2], [(2, _)], [], 9, rfl, rfl, rfl, ?_⟩)
          refine W.ret ?_
          exact Ends.one' (.inr rfl) rfl (by first | (exfalso; omega) | (simp [szB, *]; done) | (simp [szB]; omega)) rfl rfl trivial
        · refine W.skip ?_
          refine W.seq ?_
          refine W.line (n := 1) (by decide) (its := [⟨2, _, true⟩]) (ks := []) (kk := []) (live := [2]) (env' := [(2, _)])
            (⟨Nat.le_of_ble_eq_true rfl, rfl,
              ⟨⟨rfl, rfl, fun _ τ hb ht hτ => R.asg (show ev _ _ (.const (.bool false)) = some (.bool false) from rfl) rfl ht⟩,
              trivial⟩, rfl, rfl, rfl⟩)
            rfl (bx' := []) rfl (n' := 9) rfl (⟨[2], [(2, _)], [], 9, rfl, rfl, rfl, ?_⟩)
          refine W.ret ?_
          exact Ends.one' (.inr rfl) rfl (by first | (exfalso; omega) | (simp [szB, *]; done) | (simp [szB]; omega)) rfl rfl trivial
      · refine W.line (n := 2) (by decide) (its := [⟨8, _, true⟩, ⟨4, _, true⟩]) (ks := []) (kk := []) (live := [4]) (env' := [(4, _)])
          (⟨Nat.le_of_ble_eq_true rfl, rfl,
            ⟨⟨rfl, rfl, fun _ τ hb ht hτ => R.eqlN (n) (8) (evt (hτ 3 _ rfl)) (show ev _ _ (.const (.int .i64 8)) = some (.int ((8 : Nat) : Int)) from rfl) ht⟩,
            ⟨⟨rfl, rfl, fun _ τ hb ht hτ => R.asg (evt (hτ 8 _ rfl)) rfl ht⟩,
            trivial⟩⟩, rfl, rfl, rfl⟩)
          rfl (bx' := []) rfl (n' := 9) rfl (⟨[4], [(4, _)], [], 9, rfl, rfl, rfl, ?_⟩)
        refine W.condD rfl (fun hc4 => ?_) (fun hc4 => ?_)
        · refine W.seq ?_
          refine W.line (n := 1) (by decide) (its := [⟨2, _, true⟩]) (ks := []) (kk := []) (live := [2]) (env' := [(2, _)])
            (⟨Nat.le_of_ble_eq_true rfl, rfl,
              ⟨⟨rfl, rfl, fun _ τ hb ht hτ => R.asg (show ev _ _ (.const (.bool true)) = some (.bool true) from rfl) rfl ht⟩,
              trivial⟩, rfl, rfl, rfl⟩)
            rfl (bx' := []) rfl (n' := 9) rfl (⟨[2], [(2, _)], [], 9, rfl, rfl, rfl, ?_⟩)
          refine W.ret ?_
          exact Ends.one' (.inr rfl) rfl (by first | (exfalso; omega) | (simp [szB, *]; done) | (simp [szB]; omega)) rfl rfl trivial
        · refine W.skip ?_
          refine W.seq ?_
          refine W.line (n := 1) (by decide) (its := [⟨2, _, true⟩]) (ks := []) (kk := []) (live := [2]) (env' := [(2, _)])
            (⟨Nat.le_of_ble_eq_true rfl, rfl,
              ⟨⟨rfl, rfl, fun _ τ hb ht hτ => R.asg (show ev _ _ (.const (.bool false)) = some (.bool false) from rfl) rfl ht⟩,
              trivial⟩, rfl, rfl, rfl⟩)
            rfl (bx' := []) rfl (n' := 9) rfl (⟨[2], [(2, _)], [], 9, rfl, rfl, rfl, ?_⟩)
          refine W.ret ?_
          exact Ends.one' (.inr rfl) rfl (by first | (exfalso; omega) | (simp [szB, *]; done) | (simp [szB]; omega)) rfl rfl trivial

theorem size_ok : Fn Tryd.prog gl 28 [.int ((4 : Nat) : Int)] (.bool true) := by
  refine Fn.of (n := 17) Tryd.func28 rfl rfl rfl (Nat.le_of_ble_eq_true rfl) fun C hC => ?_
  refine W.seq ?_
  refine W.line (n := 1) (by decide) (its := [⟨2, _, true⟩]) (ks := []) (kk := []) (live := [0]) (env' := [(0, _)])
    (⟨Nat.le_of_ble_eq_true rfl, rfl,
      ⟨⟨rfl, rfl, fun _ τ hb ht hτ => R.asg (show ev _ _ (.const (.bool false)) = some (.bool false) from rfl) rfl ht⟩,
      trivial⟩, rfl, rfl, rfl⟩)
    rfl (bx' := []) rfl (n' := 17) rfl (⟨[0], [(0, _)], [], 17, rfl, rfl, rfl, ?_⟩)
  refine W.seq ?_
  refine W.line (n := 15) (by decide) (its := [⟨3, _, true⟩, ⟨4, _, true⟩, ⟨5, _, true⟩, ⟨6, _, true⟩, ⟨7, _, true⟩, ⟨8, _, true⟩, ⟨9, _, true⟩, ⟨10, _, true⟩, ⟨11, _, true⟩, ⟨12, _, true⟩, ⟨13, _, true⟩, ⟨14, .dead, false⟩, ⟨15, .dead, false⟩, ⟨16, _, true⟩, ⟨2, _, true⟩]) (ks := []) (kk := []) (live := [2]) (env' := [(2, _)])
    (⟨Nat.le_of_ble_eq_true rfl, rfl,
      ⟨⟨rfl, rfl, fun _ τ hb ht hτ => R.mov (evt (hτ 0 _ rfl)) rfl ht⟩,
      ⟨⟨rfl, rfl, fun _ τ hb ht hτ => R.eqlN (4) (1) (evt (hτ 3 _ rfl)) (show ev _ _ (.const (.int .i64 1)) = some (.int ((1 : Nat) : Int)) from rfl) ht⟩,
      ⟨⟨rfl, rfl, fun _ τ hb ht hτ => R.mov (evt (hτ 4 _ rfl)) rfl ht⟩,
      ⟨⟨rfl, ⟨_, 5, rfl, rfl, .inl ⟨_, rfl, gw (v := false) (by decide) rfl⟩⟩, fun _ τ hb ht hτ => R.mov (evt (hτ 0 _ rfl)) rfl ht⟩,
      ⟨⟨rfl, ⟨_, 5, rfl, rfl, .inl ⟨_, rfl, gw (v := false) (by decide) rfl⟩⟩, fun _ τ hb ht hτ => R.eqlN (4) (2) (evt (hτ 6 _ rfl)) (show ev _ _ (.const (.int .i64 2)) = some (.int ((2 : Nat) : Int)) from rfl) ht⟩,
      ⟨⟨rfl, rfl, fun _ τ hb ht hτ => R.pickF (evt (hτ 5 _ rfl)) (by decide) (evt (hτ 7 _ rfl)) rfl ht⟩,
      ⟨⟨rfl, rfl, fun _ τ hb ht hτ => R.mov (evt (hτ 8 _ rfl)) rfl ht⟩,
      ⟨⟨rfl, ⟨_, 9, rfl, rfl, .inl ⟨_, rfl, gw (v := false) (by decide) rfl⟩⟩, fun _ τ hb ht hτ => R.mov (evt (hτ 0 _ rfl)) rfl ht⟩,
      ⟨⟨rfl, ⟨_, 9, rfl, rfl, .inl ⟨_, rfl, gw (v := false) (by decide) rfl⟩⟩, fun _ τ hb ht hτ => R.eqlN (4) (4) (evt (hτ 10 _ rfl)) (show ev _ _ (.const (.int .i64 4)) = some (.int ((4 : Nat) : Int)) from rfl) ht⟩,
      ⟨⟨rfl, rfl, fun _ τ hb ht hτ => R.pickF (evt (hτ 9 _ rfl)) (by decide) (evt (hτ 11 _ rfl)) rfl ht⟩,
      ⟨⟨rfl, rfl, fun _ τ hb ht hτ => R.mov (evt (hτ 12 _ rfl)) rfl ht⟩,
      ⟨⟨rfl, ⟨_, 13, rfl, rfl, .inl ⟨_, rfl, gw (v := true) (by decide) rfl⟩⟩, fun h => absurd h (by decide)⟩,
      ⟨⟨rfl, ⟨_, 13, rfl, rfl, .inl ⟨_, rfl, gw (v := true) (by decide) rfl⟩⟩, fun h => absurd h (by decide)⟩,
      ⟨⟨rfl, rfl, fun _ τ hb ht hτ => R.pickT (evt (hτ 13 _ rfl)) (by decide) (show ev _ _ (.const (.bool true)) = some (.bool true) from rfl) rfl ht⟩,
      ⟨⟨rfl, rfl, fun _ τ hb ht hτ => R.asg (evt (hτ 16 _ rfl)) rfl ht⟩,
      trivial⟩⟩⟩⟩⟩⟩⟩⟩⟩⟩⟩⟩⟩⟩⟩, rfl, rfl, rfl⟩)
    rfl (bx' := []) rfl (n' := 17) rfl (⟨[2], [(2, _)], [], 17, rfl, rfl, rfl, ?_⟩)
  refine W.ret ?_
  exact Ends.one' (.inr rfl) rfl (rfl) rfl rfl trivial

theorem put_ok (b : List UInt8) (n : UInt64) (hb0 : b.length ≤ 1000000) : Fn Tryd.prog gl 16 [.sl none 1 (b.map D.u8), .u64 n, .int ((4 : Nat) : Int)] (.sl (some 5) 1 ((b ++ leB n 4).map D.u8)) := by
  refine Fn.of (n := 26) Tryd.func16 rfl rfl rfl (Nat.le_of_ble_eq_true rfl) fun C hC => ?_
  refine W.seq ?_
  refine W.line (n := 1) (by decide) (its := [⟨6, _, true⟩]) (ks := []) (kk := []) (live := [0, 1, 2]) (env' := [(0, _), (1, _), (2, _)])
    (⟨Nat.le_of_ble_eq_true rfl, rfl,
      ⟨⟨rfl, rfl, fun _ τ hb ht hτ => R.asg (show ev _ _ (.const (.slice none 0 0)) = some (.nils) from rfl) rfl ht⟩,
      trivial⟩, rfl, rfl, rfl⟩)
    rfl (bx' := []) rfl (n' := 26) rfl (⟨[0, 1, 2], [(0, _), (1, _), (2, _)], [], 26, rfl, rfl, rfl, ?_⟩)
  refine W.seq ?_
  refine W.line (n := 3) (by decide) (its := [⟨8, _, true⟩, ⟨9, _, true⟩, ⟨7, _, true⟩]) (ks := [(2, 9)]) (kk := [(2, 9)]) (live := [1, 2, 7]) (env' := [(1, _), (2, _), (7, _)])
    (⟨Nat.le_of_ble_eq_true rfl, rfl,
      ⟨⟨rfl, rfl, fun _ τ hb ht hτ => R.mov (evt (hτ 0 _ rfl)) rfl ht⟩,
      ⟨⟨rfl, rfl, fun _ τ hb ht hτ => R.callG hC (sclone_ok b (by omega)) (Bors.cons (Bor.pur (evt (hτ 8 _ rfl)) rfl rfl) Bors.nil) (FrsR.one (.sl _ _ _ (frs_map fun _ => .u8 _))) ht⟩,
      ⟨⟨rfl, rfl, fun _ τ hb ht hτ => R.asgO (hτ 9 _ rfl) rfl ht (by decide)⟩,
      trivial⟩⟩⟩, rfl, rfl, rfl⟩)
    rfl (bx' := []) rfl (n' := 26) rfl (⟨[1, 2, 7], [(1, _), (2, _), (7, _)], [], 26, rfl, rfl, rfl, ?_⟩)
  refine W.seq ?_
  refine W.seq ?_
  refine W.line (n := 3) (by decide) (its := [⟨10, _, true⟩, ⟨11, _, true⟩, ⟨12, _, true⟩]) (ks := []) (kk := []) (live := [1, 2, 7, 12]) (env' := [(1, _), (2, _), (7, _), (12, _)])
    (⟨Nat.le_of_ble_eq_true rfl, rfl,
      ⟨⟨rfl, rfl, fun _ τ hb ht hτ => R.mov (evt (hτ 2 _ rfl)) rfl ht⟩,
      ⟨⟨rfl, rfl, fun _ τ hb ht hτ => R.callG hC (oright_ok 4) (Bors.cons (Bor.pur (evt (hτ 10 _ rfl)) rfl rfl) Bors.nil) (FrsR.one (.bool _)) ht⟩,
      ⟨⟨rfl, rfl, fun _ τ hb ht hτ => R.un (evt (hτ 11 _ rfl)) rfl ht⟩,
      trivial⟩⟩⟩, rfl, rfl, rfl⟩)
    rfl (bx' := []) rfl (n' := 26) rfl (⟨[1, 2, 7, 12], [(1, _), (2, _), (7, _), (12, _)], [], 26, rfl, rfl, rfl, ?_⟩)
  refine W.condF rfl (by decide) ?_
  refine W.skip ?_
  refine W.seq ?_
  refine W.seq ?_
  refine W.line (n := 2) (by decide) (its := [⟨14, _, true⟩, ⟨15, _, true⟩]) (ks := []) (kk := []) (live := [1, 7, 14, 15]) (env' := [(1, _), (7, _), (14, _), (15, _)])
    (⟨Nat.le_of_ble_eq_true rfl, rfl,
      ⟨⟨rfl, rfl, fun _ τ hb ht hτ => R.mov (evt (hτ 2 _ rfl)) rfl ht⟩,
      ⟨⟨rfl, rfl, fun _ τ hb ht hτ => R.mov (show ev _ _ (.const (.int .i64 0)) = some (.int ((0 : Nat) : Int)) from rfl) rfl ht⟩,
      trivial⟩⟩, rfl, rfl, rfl⟩)
    rfl (bx' := []) rfl (n' := 26) rfl (⟨[1, 7, 14, 15], [(1, _), (7, _), (14, _), (15, _)], [], 26, rfl, rfl, rfl, ?_⟩)
  refine W.block ?_
  refine W.loop (α := {q__ : Nat // q__ ≤ 4}) (fun q__ => ⟨26, [(1, .u64 (shr8 n q__.1)), (7, .sl (some 5) 1 ((b ++ leB n q__.1).map D.u8)), (14, .int ((4 : Nat) : Int)), (15, .int ((q__.1 : Nat) : Int))], []⟩) (fun q__ => 4 - q__.1) ⟨(0), (by first | omega | (simp only [List.length_map, List.length_append, List.length_cons, List.length_nil, List.length_take, List.length_drop, List.length_replicate]; omega) | (simp; omega))⟩ (by simp [leB]; rfl) ?_
  rintro ⟨k, hk⟩
  show W _ _ _ _ ⟨26, [(1, .u64 (shr8 n k)), (7, .sl (some 5) 1 ((b ++ leB n k).map D.u8)), (14, .int ((4 : Nat) : Int)), (15, .int ((k : Nat) : Int))], []⟩
  have hll := leB_len n k
  refine W.seq ?_
  refine W.line (n := 1) (by decide) (its := [⟨16, _, true⟩]) (ks := []) (kk := []) (live := [1, 7, 14, 15, 16]) (env' := [(1, _), (7, _), (14, _), (15, _), (16, _)])
    (⟨Nat.le_of_ble_eq_true rfl, rfl,
      ⟨⟨rfl, rfl, fun _ τ hb ht hτ => R.lssN (k) (4) (evt (hτ 15 _ rfl)) (evt (hτ 14 _ rfl)) ht⟩,
      trivial⟩, rfl, rfl, rfl⟩)
    rfl (bx' := []) rfl (n' := 26) rfl (⟨[1, 7, 14, 15, 16], [(1, _), (7, _), (14, _), (15, _), (16, _)], [], 26, rfl, rfl, rfl, ?_⟩)
  refine W.seq ?_
  refine W.condD rfl (fun hc16 => ?_) (fun hc16 => ?_)
  · refine W.skip ?_
    refine W.seq ?_
    refine W.block ?_
    refine W.line (n := 9) (by decide) (its := [⟨17, _, true⟩, ⟨18, _, true⟩, ⟨19, _, true⟩, ⟨20, _, true⟩, ⟨21, _, true⟩, ⟨22, _, true⟩, ⟨23, _, true⟩, ⟨7, _, true⟩, ⟨1, _, true⟩]) (ks := [(4, 7), (7, 21), (7, 17)]) (kk := [(4, 7), (7, 21)]) (live := [1, 7, 14, 15]) (env' := [(1, _), (7, _), (14, _), (15, _)])
      (⟨Nat.le_of_ble_eq_true rfl, rfl,
        ⟨⟨rfl, rfl, fun _ τ hb ht hτ => R.al (hτ 7 _ rfl) ht (by decide)⟩,
        ⟨⟨rfl, rfl, fun _ τ hb ht hτ => R.mov (evt (hτ 1 _ rfl)) rfl ht⟩,
        ⟨⟨rfl, rfl, fun _ τ hb ht hτ => R.conv (evt (hτ 18 _ rfl)) rfl ht⟩,
        ⟨⟨rfl, rfl, fun _ τ hb ht hτ => R.bslE (z := 1) (.cons (evt (hτ 19 _ rfl)) .nil) ⟨⟨rfl, rfl, rfl⟩, trivial⟩ rfl ht (by decide)⟩,
        ⟨⟨rfl, rfl, fun _ τ hb ht hτ => R.appE (Or.inr (hτ 17 _ rfl)) (hτ 7 _ rfl) (SrcO.sc (SC.sl (hτ 20 _ rfl)) (pur_lit rfl)) (app_one) (by first | omega | (simp only [List.length_map, List.length_append, List.length_cons, List.length_nil, List.length_take, List.length_drop, List.length_replicate]; omega) | (simp; omega)) ht (by decide) (by decide)⟩,
        ⟨⟨rfl, rfl, fun _ τ hb ht hτ => R.mov (evt (hτ 1 _ rfl)) rfl ht⟩,
        ⟨⟨rfl, rfl, fun _ τ hb ht hτ => R.bin (evt (hτ 22 _ rfl)) (show ev _ _ (.const (.int .u64 8)) = some (.u64 8) from rfl) rfl (show (0 : Int) ≤ _ by first | omega | (simp only [List.length_map, List.length_append, List.length_cons, List.length_nil, List.length_take, List.length_drop, List.length_replicate]; omega) | (simp; omega)) ht⟩,
        ⟨⟨rfl, rfl, fun _ τ hb ht hτ => R.asgO (hτ 21 _ rfl) rfl ht (by decide)⟩,
        ⟨⟨rfl, rfl, fun _ τ hb ht hτ => R.asg (evt (hτ 23 _ rfl)) rfl ht⟩,
        trivial⟩⟩⟩⟩⟩⟩⟩⟩⟩, rfl, rfl, rfl⟩)
      rfl (bx' := []) rfl (n' := 26) rfl (⟨[1, 7, 14, 15], [(1, _), (7, _), (14, _), (15, _)], [], 26, rfl, rfl, rfl, ?_⟩)
    refine W.line (n := 2) (by decide) (its := [⟨24, _, true⟩, ⟨15, _, true⟩]) (ks := []) (kk := []) (live := [1, 7, 14, 15]) (env' := [(1, _), (7, _), (14, _), (15, _)])
      (⟨Nat.le_of_ble_eq_true rfl, rfl,
        ⟨⟨rfl, rfl, fun _ τ hb ht hτ => R.addN (k) (1) (evt (hτ 15 _ rfl)) (show ev _ _ (.const (.int .i64 1)) = some (.int ((1 : Nat) : Int)) from rfl) (by first | omega | (simp only [List.length_map, List.length_append, List.length_cons, List.length_nil, List.length_take, List.length_drop, List.length_replicate]; omega) | (simp; omega)) ht⟩,
        ⟨⟨rfl, rfl, fun _ τ hb ht hτ => R.mov (evt (hτ 24 _ rfl)) rfl ht⟩,
        trivial⟩⟩, rfl, rfl, rfl⟩)
      rfl (bx' := []) rfl (n' := 26) rfl (⟨[1, 7, 14, 15], [(1, _), (7, _), (14, _), (15, _)], [], 26, rfl, rfl, rfl, ?_⟩)
    exact ⟨⟨(k + 1), (by first | omega | (simp only [List.length_map, List.length_append, List.length_cons, List.length_nil, List.length_take, List.length_drop, List.length_replicate]; omega) | (simp; omega))⟩, (by simp only [leB, ← List.append_assoc]; rfl), (by simp only []; omega)⟩
  · obtain rfl : k = 4 := by omega
    refine W.exit ?_
    refine W.seq ?_
    refine W.line (n := 2) (by decide) (its := [⟨25, _, true⟩, ⟨6, _, true⟩]) (ks := [(0, 7), (1, 25)]) (kk := [(0, 7), (1, 25)]) (live := [6]) (env' := [(6, _)])
      (⟨Nat.le_of_ble_eq_true rfl, rfl,
        ⟨⟨rfl, rfl, fun _ τ hb ht hτ => R.movO (hτ 7 _ rfl) rfl ht (by decide)⟩,
        ⟨⟨rfl, rfl, fun _ τ hb ht hτ => R.asgO (hτ 25 _ rfl) rfl ht (by decide)⟩,
        trivial⟩⟩, rfl, rfl, rfl⟩)
      rfl (bx' := []) rfl (n' := 26) rfl (⟨[6], [(6, _)], [], 26, rfl, rfl, rfl, ?_⟩)
    refine W.ret ?_
    exact Ends.one' (.inr rfl) rfl (rfl) rfl rfl trivial

theorem low_ok (n : UInt64) : Fn Tryd.prog gl 29 [.u64 n, .int ((4 : Nat) : Int)] (.sl (some 5) 1 ((lowB n 4).map D.u8)) := by
  refine Fn.of (n := 21) Tryd.func29 rfl rfl rfl (Nat.le_of_ble_eq_true rfl) fun C hC => ?_
  refine W.seq ?_
  refine W.line (n := 1) (by decide) (its := [⟨4, _, true⟩]) (ks := []) (kk := []) (live := [0, 1]) (env' := [(0, _), (1, _)])
    (⟨Nat.le_of_ble_eq_true rfl, rfl,
      ⟨⟨rfl, rfl, fun _ τ hb ht hτ => R.asg (show ev _ _ (.const (.slice none 0 0)) = some (.nils) from rfl) rfl ht⟩,
      trivial⟩, rfl, rfl, rfl⟩)
    rfl (bx' := []) rfl (n' := 21) rfl (⟨[0, 1], [(0, _), (1, _)], [], 21, rfl, rfl, rfl, ?_⟩)
  refine W.seq ?_
  refine W.line (n := 1) (by decide) (its := [⟨5, _, true⟩]) (ks := []) (kk := []) (live := [0, 1, 5]) (env' := [(0, _), (1, _), (5, _)])
    (⟨Nat.le_of_ble_eq_true rfl, rfl,
      ⟨⟨rfl, rfl, fun _ τ hb ht hτ => R.asg (show ev _ _ (.const (.slice none 0 0)) = some (.nils) from rfl) rfl ht⟩,
      trivial⟩, rfl, rfl, rfl⟩)
    rfl (bx' := []) rfl (n' := 21) rfl (⟨[0, 1, 5], [(0, _), (1, _), (5, _)], [], 21, rfl, rfl, rfl, ?_⟩)
  refine W.seq ?_
  refine W.seq ?_
  refine W.line (n := 1) (by decide) (its := [⟨6, _, true⟩]) (ks := []) (kk := []) (live := [0, 1, 5, 6]) (env' := [(0, _), (1, _), (5, _), (6, _)])
    (⟨Nat.le_of_ble_eq_true rfl, rfl,
      ⟨⟨rfl, rfl, fun _ τ hb ht hτ => R.asg (show ev _ _ (.const (.int .i64 0)) = some (.int ((0 : Nat) : Int)) from rfl) rfl ht⟩,
      trivial⟩, rfl, rfl, rfl⟩)
    rfl (bx' := []) rfl (n' := 21) rfl (⟨[0, 1, 5, 6], [(0, _), (1, _), (5, _), (6, _)], [], 21, rfl, rfl, rfl, ?_⟩)
  refine W.block ?_
  refine W.asOwn (s := 5) 5 1 rfl ?_
  refine W.loop (α := {q__ : Nat // q__ ≤ 4}) (fun q__ => ⟨21, [(0, .u64 (div8 n q__.1)), (1, .int ((4 : Nat) : Int)), (5, .sl (some 5) 1 ((lowB n q__.1).map D.u8)), (6, .int ((q__.1 : Nat) : Int))], []⟩) (fun q__ => 4 - q__.1) ⟨(0), (by first | omega | (simp only [List.length_map, List.length_append, List.length_cons, List.length_nil, List.length_take, List.length_drop, List.length_replicate]; omega) | (simp; omega))⟩ rfl ?_
  rintro ⟨k, hk⟩
  show W _ _ _ _ ⟨21, [(0, .u64 (div8 n k)), (1, .int ((4 : Nat) : Int)), (5, .sl (some 5) 1 ((lowB n k).map D.u8)), (6, .int ((k : Nat) : Int))], []⟩
  have hll : (lowB n k).length = k := by rw [lowB_eq, leB_len]
  refine W.seq ?_
  refine W.seq ?_
  refine W.line (n := 3) (by decide) (its := [⟨7, _, true⟩, ⟨8, _, true⟩, ⟨9, _, true⟩]) (ks := []) (kk := []) (live := [0, 1, 5, 6, 9]) (env' := [(0, _), (1, _), (5, _), (6, _), (9, _)])
    (⟨Nat.le_of_ble_eq_true rfl, rfl,
      ⟨⟨rfl, rfl, fun _ τ hb ht hτ => R.mov (evt (hτ 6 _ rfl)) rfl ht⟩,
      ⟨⟨rfl, rfl, fun _ τ hb ht hτ => R.mov (evt (hτ 1 _ rfl)) rfl ht⟩,
      ⟨⟨rfl, rfl, fun _ τ hb ht hτ => R.lssN (k) (4) (evt (hτ 7 _ rfl)) (evt (hτ 8 _ rfl)) ht⟩,
      trivial⟩⟩⟩, rfl, rfl, rfl⟩)
    rfl (bx' := []) rfl (n' := 21) rfl (⟨[0, 1, 5, 6, 9], [(0, _), (1, _), (5, _), (6, _), (9, _)], [], 21, rfl, rfl, rfl, ?_⟩)
  refine W.condD rfl (fun hc9 => ?_) (fun hc9 => ?_)
  · refine W.skip ?_
    refine W.seq ?_
    refine W.block ?_
    refine W.seq ?_
    refine W.line (n := 7) (by decide) (its := [⟨12, _, true⟩, ⟨13, _, true⟩, ⟨14, _, true⟩, ⟨15, _, true⟩, ⟨16, _, true⟩, ⟨17, _, true⟩, ⟨5, _, true⟩]) (ks := [(5, 5), (6, 17), (6, 12)]) (kk := [(5, 5), (6, 17)]) (live := [0, 1, 5, 6]) (env' := [(0, _), (1, _), (5, _), (6, _)])
      (⟨Nat.le_of_ble_eq_true rfl, rfl,
        ⟨⟨rfl, rfl, fun _ τ hb ht hτ => R.al (hτ 5 _ rfl) ht (by decide)⟩,
        ⟨⟨rfl, rfl, fun _ τ hb ht hτ => R.mov (evt (hτ 0 _ rfl)) rfl ht⟩,
        ⟨⟨rfl, rfl, fun _ τ hb ht hτ => R.bin (evt (hτ 13 _ rfl)) (show ev _ _ (.const (.int .u64 256)) = some (.u64 256) from rfl) rfl (by decide) ht⟩,
        ⟨⟨rfl, rfl, fun _ τ hb ht hτ => R.conv (evt (hτ 14 _ rfl)) rfl ht⟩,
        ⟨⟨rfl, rfl, fun _ τ hb ht hτ => R.bslE (z := 1) (.cons (evt (hτ 15 _ rfl)) .nil) ⟨⟨rfl, rfl, rfl⟩, trivial⟩ rfl ht (by decide)⟩,
        ⟨⟨rfl, rfl, fun _ τ hb ht hτ => R.appE (Or.inr (hτ 12 _ rfl)) (hτ 5 _ rfl) (SrcO.sc (SC.sl (hτ 16 _ rfl)) (pur_lit rfl)) (app_one) (by first | omega | (simp only [List.length_map, List.length_append, List.length_cons, List.length_nil, List.length_take, List.length_drop, List.length_replicate]; omega) | (simp; omega)) ht (by decide) (by decide)⟩,
        ⟨⟨rfl, rfl, fun _ τ hb ht hτ => R.asgO (hτ 17 _ rfl) rfl ht (by decide)⟩,
        trivial⟩⟩⟩⟩⟩⟩⟩, rfl, rfl, rfl⟩)
      rfl (bx' := []) rfl (n' := 21) rfl (⟨[0, 1, 5, 6], [(0, _), (1, _), (5, _), (6, _)], [], 21, rfl, rfl, rfl, ?_⟩)
    refine W.line (n := 3) (by decide) (its := [⟨18, _, true⟩, ⟨19, _, true⟩, ⟨0, _, true⟩]) (ks := []) (kk := []) (live := [0, 1, 5, 6]) (env' := [(0, _), (1, _), (5, _), (6, _)])
      (⟨Nat.le_of_ble_eq_true rfl, rfl,
        ⟨⟨rfl, rfl, fun _ τ hb ht hτ => R.mov (evt (hτ 0 _ rfl)) rfl ht⟩,
        ⟨⟨rfl, rfl, fun _ τ hb ht hτ => R.bin (evt (hτ 18 _ rfl)) (show ev _ _ (.const (.int .u64 256)) = some (.u64 256) from rfl) rfl (by decide) ht⟩,
        ⟨⟨rfl, rfl, fun _ τ hb ht hτ => R.asg (evt (hτ 19 _ rfl)) rfl ht⟩,
        trivial⟩⟩⟩, rfl, rfl, rfl⟩)
      rfl (bx' := []) rfl (n' := 21) rfl (⟨[0, 1, 5, 6], [(0, _), (1, _), (5, _), (6, _)], [], 21, rfl, rfl, rfl, ?_⟩)
    refine W.line (n := 3) (by decide) (its := [⟨10, _, true⟩, ⟨11, _, true⟩, ⟨6, _, true⟩]) (ks := []) (kk := []) (live := [0, 1, 5, 6]) (env' := [(0, _), (1, _), (5, _), (6, _)])
      (⟨Nat.le_of_ble_eq_true rfl, rfl,
        ⟨⟨rfl, rfl, fun _ τ hb ht hτ => R.mov (evt (hτ 6 _ rfl)) rfl ht⟩,
        ⟨⟨rfl, rfl, fun _ τ hb ht hτ => R.addN (k) (1) (evt (hτ 10 _ rfl)) (show ev _ _ (.const (.int .i64 1)) = some (.int ((1 : Nat) : Int)) from rfl) (by first | omega | (simp only [List.length_map, List.length_append, List.length_cons, List.length_nil, List.length_take, List.length_drop, List.length_replicate]; omega) | (simp; omega)) ht⟩,
        ⟨⟨rfl, rfl, fun _ τ hb ht hτ => R.asg (evt (hτ 11 _ rfl)) rfl ht⟩,
        trivial⟩⟩⟩, rfl, rfl, rfl⟩)
      rfl (bx' := []) rfl (n' := 21) rfl (⟨[0, 1, 5, 6], [(0, _), (1, _), (5, _), (6, _)], [], 21, rfl, rfl, rfl, ?_⟩)
    exact ⟨⟨(k + 1), (by first | omega | (simp only [List.length_map, List.length_append, List.length_cons, List.length_nil, List.length_take, List.length_drop, List.length_replicate]; omega) | (simp; omega))⟩, rfl, (by simp only []; omega)⟩
  · obtain rfl : k = 4 := by omega
    refine W.exit ?_
    refine W.seq ?_
    refine W.line (n := 2) (by decide) (its := [⟨20, _, true⟩, ⟨4, _, true⟩]) (ks := [(0, 5), (1, 20)]) (kk := [(0, 5), (1, 20)]) (live := [4]) (env' := [(4, _)])
      (⟨Nat.le_of_ble_eq_true rfl, rfl,
        ⟨⟨rfl, rfl, fun _ τ hb ht hτ => R.movO (hτ 5 _ rfl) rfl ht (by decide)⟩,
        ⟨⟨rfl, rfl, fun _ τ hb ht hτ => R.asgO (hτ 20 _ rfl) rfl ht (by decide)⟩,
        trivial⟩⟩, rfl, rfl, rfl⟩)
      rfl (bx' := []) rfl (n' := 21) rfl (⟨[4], [(4, _)], [], 21, rfl, rfl, rfl, ?_⟩)
    refine W.ret ?_
    exact Ends.one' (.inr rfl) rfl (rfl) rfl rfl trivial

theorem rput_ok (b : List UInt8) (n : UInt64) (hb0 : b.length ≤ 1000000) : Fn Tryd.prog gl 18 [.sl none 1 (b.map D.u8), .u64 n, .int ((4 : Nat) : Int)] (.sl (some 5) 1 ((b ++ lowB n 4).map D.u8)) := by
  refine Fn.of (n := 20) Tryd.func18 rfl rfl rfl (Nat.le_of_ble_eq_true rfl) fun C hC => ?_
  refine W.seq ?_
  refine W.line (n := 1) (by decide) (its := [⟨6, _, true⟩]) (ks := []) (kk := []) (live := [0, 1, 2]) (env' := [(0, _), (1, _), (2, _)])
    (⟨Nat.le_of_ble_eq_true rfl, rfl,
      ⟨⟨rfl, rfl, fun _ τ hb ht hτ => R.asg (show ev _ _ (.const (.slice none 0 0)) = some (.nils) from rfl) rfl ht⟩,
      trivial⟩, rfl, rfl, rfl⟩)
    rfl (bx' := []) rfl (n' := 20) rfl (⟨[0, 1, 2], [(0, _), (1, _), (2, _)], [], 20, rfl, rfl, rfl, ?_⟩)
  refine W.seq ?_
  refine W.line (n := 4) (by decide) (its := [⟨8, _, true⟩, ⟨9, _, true⟩, ⟨10, _, true⟩, ⟨7, _, true⟩]) (ks := [(2, 8), (3, 10)]) (kk := [(2, 8), (3, 10)]) (live := [1, 2, 7]) (env' := [(1, _), (2, _), (7, _)])
    (⟨Nat.le_of_ble_eq_true rfl, rfl,
      ⟨⟨rfl, rfl, fun _ τ hb ht hτ => R.bslE .nil trivial rfl ht (by decide)⟩,
      ⟨⟨rfl, rfl, fun _ τ hb ht hτ => R.mov (evt (hτ 0 _ rfl)) rfl ht⟩,
      ⟨⟨rfl, rfl, fun _ τ hb ht hτ => R.appE (Or.inl rfl) (hτ 8 _ rfl) (SrcO.sc (SC.sl (hτ 9 _ rfl)) (pur_map (fun _ => rfl))) (List.nil_append _) (by first | omega | (simp only [List.length_map, List.length_append, List.length_cons, List.length_nil, List.length_take, List.length_drop, List.length_replicate]; omega) | (simp; omega)) ht (by decide) (by decide)⟩,
      ⟨⟨rfl, rfl, fun _ τ hb ht hτ => R.asgO (hτ 10 _ rfl) rfl ht (by decide)⟩,
      trivial⟩⟩⟩⟩, rfl, rfl, rfl⟩)
    rfl (bx' := []) rfl (n' := 20) rfl (⟨[1, 2, 7], [(1, _), (2, _), (7, _)], [], 20, rfl, rfl, rfl, ?_⟩)
  refine W.seq ?_
  refine W.seq ?_
  refine W.line (n := 3) (by decide) (its := [⟨11, _, true⟩, ⟨12, _, true⟩, ⟨13, _, true⟩]) (ks := []) (kk := []) (live := [1, 2, 7, 13]) (env' := [(1, _), (2, _), (7, _), (13, _)])
    (⟨Nat.le_of_ble_eq_true rfl, rfl,
      ⟨⟨rfl, rfl, fun _ τ hb ht hτ => R.mov (evt (hτ 2 _ rfl)) rfl ht⟩,
      ⟨⟨rfl, rfl, fun _ τ hb ht hτ => R.callG hC (size_ok) (Bors.cons (Bor.pur (evt (hτ 11 _ rfl)) rfl rfl) Bors.nil) (FrsR.one (.bool _)) ht⟩,
      ⟨⟨rfl, rfl, fun _ τ hb ht hτ => R.un (evt (hτ 12 _ rfl)) rfl ht⟩,
      trivial⟩⟩⟩, rfl, rfl, rfl⟩)
    rfl (bx' := []) rfl (n' := 20) rfl (⟨[1, 2, 7, 13], [(1, _), (2, _), (7, _), (13, _)], [], 20, rfl, rfl, rfl, ?_⟩)
  refine W.condF rfl (rfl) ?_
  refine W.skip ?_
  refine W.seq ?_
  refine W.line (n := 6) (by decide) (its := [⟨15, _, true⟩, ⟨16, _, true⟩, ⟨17, _, true⟩, ⟨18, _, true⟩, ⟨19, _, true⟩, ⟨6, _, true⟩]) (ks := [(4, 7), (5, 19)]) (kk := [(4, 7), (5, 19)]) (live := [6]) (env' := [(6, _)])
    (⟨Nat.le_of_ble_eq_true rfl, rfl,
      ⟨⟨rfl, rfl, fun _ τ hb ht hτ => R.al (hτ 7 _ rfl) ht (by decide)⟩,
      ⟨⟨rfl, rfl, fun _ τ hb ht hτ => R.mov (evt (hτ 1 _ rfl)) rfl ht⟩,
      ⟨⟨rfl, rfl, fun _ τ hb ht hτ => R.mov (evt (hτ 2 _ rfl)) rfl ht⟩,
      ⟨⟨rfl, rfl, fun _ τ hb ht hτ => R.callG hC (low_ok n) (Bors.cons (Bor.pur (evt (hτ 16 _ rfl)) rfl rfl) (Bors.cons (Bor.pur (evt (hτ 17 _ rfl)) rfl rfl) Bors.nil)) (FrsR.one (.sl _ _ _ (frs_map fun _ => .u8 _))) ht⟩,
      ⟨⟨rfl, rfl, fun _ τ hb ht hτ => R.appE (Or.inr (hτ 15 _ rfl)) (hτ 7 _ rfl) (SrcO.sc (SC.sl (hτ 18 _ rfl)) (pur_map (fun _ => rfl))) (app_map) (by have : (lowB n 4).length = 4 := by { rw [lowB_eq, leB_len] }; simp only [List.length_map]; omega) ht (by decide) (by decide)⟩,
      ⟨⟨rfl, rfl, fun _ τ hb ht hτ => R.asgO (hτ 19 _ rfl) rfl ht (by decide)⟩,
      trivial⟩⟩⟩⟩⟩⟩, rfl, rfl, rfl⟩)
    rfl (bx' := []) rfl (n' := 20) rfl (⟨[6], [(6, _)], [], 20, rfl, rfl, rfl, ?_⟩)
  refine W.ret ?_
  exact Ends.one' (.inr rfl) rfl (rfl) rfl rfl trivial

end Go.Sx
