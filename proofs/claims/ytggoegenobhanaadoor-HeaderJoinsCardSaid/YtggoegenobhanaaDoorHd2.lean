/- Proved: what functions of the given program compute (used by the theorem of this claim). Conditions: none but those that each theorem states. -/
import Derived.Test.YtggoegenobhanaaDoorHdInst
import Derived.Test.YtggoegenobhanaaDoorMSxVal2
import Derived.Test.YtggoegenobhanaaDoorChecked
set_option linter.unusedVariables false
set_option linter.unusedSimpArgs false
set_option linter.unnecessarySimpa false

namespace Go.Sx
open Go.Proofs
theorem hP : Tryd.prog.follows .mixedOrders = true := Tryd.checked.mixed
theorem rot_ok (x : UInt32) (k : Int) : Fn Tryd.prog gl 46 [.u32 x, .int (k : Int)] (.u32 (rotl x k)) := by
  refine Fn.of (n := 17) Tryd.func46 rfl rfl rfl (Nat.le_of_ble_eq_true rfl) fun C hC hD => ?_
  refine W.seq ?_
  refine W.line (n := 1) (by decide) (its := [⟨4, _, true⟩]) (ks := []) (kk := []) (live := [0, 1]) (env' := [(0, _), (1, _)])
    (⟨Nat.le_of_ble_eq_true rfl, rfl,
      ⟨⟨rfl, rfl, fun _ τ hb ht hτ => R.asg (show ev _ _ (.const (.int .u32 0)) = some (.u32 0) from rfl) rfl ht⟩,
      trivial⟩, rfl, rfl, rfl⟩)
    rfl (bx' := []) rfl (n' := 17) rfl (⟨[0, 1], [(0, _), (1, _)], [], 17, rfl, rfl, rfl, ?_⟩)
  refine W.seq ?_
  refine W.line (n := 4) (by decide) (its := [⟨6, _, true⟩, ⟨7, _, true⟩, ⟨8, _, true⟩, ⟨5, _, true⟩]) (ks := []) (kk := []) (live := [0, 5]) (env' := [(0, _), (5, _)])
    (⟨Nat.le_of_ble_eq_true rfl, rfl,
      ⟨⟨rfl, rfl, fun _ τ hb ht hτ => R.mov (evt (hτ 1 _ rfl)) rfl ht⟩,
      ⟨⟨rfl, rfl, fun _ τ hb ht hτ => R.conv (evt (hτ 6 _ rfl)) rfl ht⟩,
      ⟨⟨rfl, rfl, fun _ τ hb ht hτ => R.bin (evt (hτ 7 _ rfl)) (show ev _ _ (.const (.int .u64 31)) = some (.u64 31) from rfl) rfl trivial ht⟩,
      ⟨⟨rfl, rfl, fun _ τ hb ht hτ => R.asg (evt (hτ 8 _ rfl)) rfl ht⟩,
      trivial⟩⟩⟩⟩, rfl, rfl, rfl⟩)
    rfl (bx' := []) rfl (n' := 17) rfl (⟨[0, 5], [(0, _), (5, _)], [], 17, rfl, rfl, rfl, ?_⟩)
  refine W.seq ?_
  refine W.line (n := 9) (by decide) (its := [⟨9, _, true⟩, ⟨10, _, true⟩, ⟨11, _, true⟩, ⟨12, _, true⟩, ⟨13, _, true⟩, ⟨14, _, true⟩, ⟨15, _, true⟩, ⟨16, _, true⟩, ⟨4, _, true⟩]) (ks := []) (kk := []) (live := [4]) (env' := [(4, _)])
    (⟨Nat.le_of_ble_eq_true rfl, rfl,
      ⟨⟨rfl, rfl, fun _ τ hb ht hτ => R.mov (evt (hτ 0 _ rfl)) rfl ht⟩,
      ⟨⟨rfl, rfl, fun _ τ hb ht hτ => R.mov (evt (hτ 5 _ rfl)) rfl ht⟩,
      ⟨⟨rfl, rfl, fun _ τ hb ht hτ => R.bin (evt (hτ 9 _ rfl)) (evt (hτ 10 _ rfl)) rfl (show (0 : Int) ≤ _ by first | omega | (simp only [List.length_map, List.length_append, List.length_cons, List.length_nil, List.length_take, List.length_drop, List.length_replicate]; omega) | (simp; omega)) ht⟩,
      ⟨⟨rfl, rfl, fun _ τ hb ht hτ => R.mov (evt (hτ 0 _ rfl)) rfl ht⟩,
      ⟨⟨rfl, rfl, fun _ τ hb ht hτ => R.mov (evt (hτ 5 _ rfl)) rfl ht⟩,
      ⟨⟨rfl, rfl, fun _ τ hb ht hτ => R.bin (show ev _ _ (.const (.int .u64 32)) = some (.u64 32) from rfl) (evt (hτ 13 _ rfl)) rfl trivial ht⟩,
      ⟨⟨rfl, rfl, fun _ τ hb ht hτ => R.bin (evt (hτ 12 _ rfl)) (evt (hτ 14 _ rfl)) rfl (show (0 : Int) ≤ _ by first | omega | (simp only [List.length_map, List.length_append, List.length_cons, List.length_nil, List.length_take, List.length_drop, List.length_replicate]; omega) | (simp; omega)) ht⟩,
      ⟨⟨rfl, rfl, fun _ τ hb ht hτ => R.bin (evt (hτ 11 _ rfl)) (evt (hτ 15 _ rfl)) rfl trivial ht⟩,
      ⟨⟨rfl, rfl, fun _ τ hb ht hτ => R.asg (evt (hτ 16 _ rfl)) rfl ht⟩,
      trivial⟩⟩⟩⟩⟩⟩⟩⟩⟩, rfl, rfl, rfl⟩)
    rfl (bx' := []) rfl (n' := 17) rfl (⟨[4], [(4, _)], [], 17, rfl, rfl, rfl, ?_⟩)
  refine W.ret ?_
  exact Ends.one' (.inr rfl) rfl (rfl) rfl rfl trivial

theorem right_ok (x : UInt32) (k : Int) : Fn Tryd.prog gl 45 [.u32 x, .int (k : Int)] (.u32 (right x k)) := by
  refine Fn.of (n := 9) Tryd.func45 rfl rfl rfl (Nat.le_of_ble_eq_true rfl) fun C hC hD => ?_
  refine W.seq ?_
  refine W.line (n := 1) (by decide) (its := [⟨4, _, true⟩]) (ks := []) (kk := []) (live := [0, 1]) (env' := [(0, _), (1, _)])
    (⟨Nat.le_of_ble_eq_true rfl, rfl,
      ⟨⟨rfl, rfl, fun _ τ hb ht hτ => R.asg (show ev _ _ (.const (.int .u32 0)) = some (.u32 0) from rfl) rfl ht⟩,
      trivial⟩, rfl, rfl, rfl⟩)
    rfl (bx' := []) rfl (n' := 9) rfl (⟨[0, 1], [(0, _), (1, _)], [], 9, rfl, rfl, rfl, ?_⟩)
  refine W.seq ?_
  refine W.line (n := 5) (by decide) (its := [⟨5, _, true⟩, ⟨6, _, true⟩, ⟨7, _, true⟩, ⟨8, _, true⟩, ⟨4, _, true⟩]) (ks := []) (kk := []) (live := [4]) (env' := [(4, _)])
    (⟨Nat.le_of_ble_eq_true rfl, rfl,
      ⟨⟨rfl, rfl, fun _ τ hb ht hτ => R.mov (evt (hτ 0 _ rfl)) rfl ht⟩,
      ⟨⟨rfl, rfl, fun _ τ hb ht hτ => R.mov (evt (hτ 1 _ rfl)) rfl ht⟩,
      ⟨⟨rfl, rfl, fun _ τ hb ht hτ => R.un (evt (hτ 6 _ rfl)) rfl ht⟩,
      ⟨⟨rfl, rfl, fun _ τ hb ht hτ => R.callG hC (rot_ok _ _) (Bors.cons (Bor.pur (evt (hτ 5 _ rfl)) rfl rfl) (Bors.cons (Bor.pur (evt (hτ 7 _ rfl)) rfl rfl) Bors.nil)) (FrsR.one (.u32 _)) ht⟩,
      ⟨⟨rfl, rfl, fun _ τ hb ht hτ => R.asg (evt (hτ 8 _ rfl)) rfl ht⟩,
      trivial⟩⟩⟩⟩⟩, rfl, rfl, rfl⟩)
    rfl (bx' := []) rfl (n' := 9) rfl (⟨[4], [(4, _)], [], 9, rfl, rfl, rfl, ?_⟩)
  refine W.ret ?_
  exact Ends.one' (.inr rfl) rfl (rfl) rfl rfl trivial

theorem start_ok : Fn Tryd.prog gl 42 [] (.arr 8 1 (iv.map D.u32)) := by
  refine Fn.of (n := 2) Tryd.func42 rfl rfl rfl (Nat.le_of_ble_eq_true rfl) fun C hC hD => ?_
  refine W.seq ?_
  refine W.line (n := 1) (by decide) (its := []) (ks := []) (kk := []) (live := []) (env' := [])
    (⟨Nat.le_of_ble_eq_true rfl, rfl,
      trivial, rfl, rfl, rfl⟩)
    rfl (bx' := []) rfl (n' := 2) rfl (⟨rfl, _, R.alloc rfl (Nat.le_of_ble_eq_true rfl), ⟨[0], [(0, _)], [(0, .var _)], 2, rfl, rfl, rfl, ?_⟩⟩)
  refine W.seq ?_
  refine W.line (n := 2) (by decide) (its := [⟨1, _, true⟩]) (ks := []) (kk := []) (live := [0, 1]) (env' := [(0, _), (1, _)])
    (⟨Nat.le_of_ble_eq_true rfl, rfl,
      ⟨⟨rfl, rfl, fun _ τ hb ht hτ => R.bldAE (z := 1) (.cons (show ev _ _ (.const (.int .u32 1779033703)) = some (.u32 1779033703) from rfl) (.cons (show ev _ _ (.const (.int .u32 3144134277)) = some (.u32 3144134277) from rfl) (.cons (show ev _ _ (.const (.int .u32 1013904242)) = some (.u32 1013904242) from rfl) (.cons (show ev _ _ (.const (.int .u32 2773480762)) = some (.u32 2773480762) from rfl) (.cons (show ev _ _ (.const (.int .u32 1359893119)) = some (.u32 1359893119) from rfl) (.cons (show ev _ _ (.const (.int .u32 2600822924)) = some (.u32 2600822924) from rfl) (.cons (show ev _ _ (.const (.int .u32 528734635)) = some (.u32 528734635) from rfl) (.cons (show ev _ _ (.const (.int .u32 1541459225)) = some (.u32 1541459225) from rfl) .nil)))))))) ⟨⟨rfl, rfl, rfl⟩, ⟨⟨rfl, rfl, rfl⟩, ⟨⟨rfl, rfl, rfl⟩, ⟨⟨rfl, rfl, rfl⟩, ⟨⟨rfl, rfl, rfl⟩, ⟨⟨rfl, rfl, rfl⟩, ⟨⟨rfl, rfl, rfl⟩, ⟨⟨rfl, rfl, rfl⟩, trivial⟩⟩⟩⟩⟩⟩⟩⟩ rfl ht⟩,
      trivial⟩, rfl, rfl, rfl⟩)
    rfl (bx' := [(0, .var _)]) rfl (n' := 2) rfl (⟨rfl, _, R.stZ (show Sg.get _ 0 = some _ from rfl) (show Sg.box _ 0 = some _ from rfl) rfl (evt (show Sg.get _ 1 = some _ from rfl)) (by rfl) (by rfl) (by rfl) (by rfl) rfl, ⟨[0], [(0, _)], [(0, .var _)], 2, rfl, rfl, rfl, ?_⟩⟩)
  refine W.ret ?_
  exact Ends.one' (.inr rfl) rfl (rfl) rfl rfl (show LdT _ 70 8 true from inferInstance)

theorem begin_ok : Fn Tryd.prog gl 35 [] (stD ShaS.start) := by
  refine Fn.of (n := 3) Tryd.func35 rfl rfl rfl (Nat.le_of_ble_eq_true rfl) fun C hC hD => ?_
  refine W.seq ?_
  refine W.line (n := 1) (by decide) (its := []) (ks := []) (kk := []) (live := []) (env' := [])
    (⟨Nat.le_of_ble_eq_true rfl, rfl,
      trivial, rfl, rfl, rfl⟩)
    rfl (bx' := []) rfl (n' := 3) rfl (⟨rfl, _, R.alloc rfl (Nat.le_of_ble_eq_true rfl), ⟨[0], [(0, _)], [(0, .var _)], 3, rfl, rfl, rfl, ?_⟩⟩)
  refine W.seq ?_
  refine W.line (n := 3) (by decide) (its := [⟨1, _, true⟩, ⟨2, _, true⟩]) (ks := []) (kk := []) (live := [0, 2]) (env' := [(0, _), (2, _)])
    (⟨Nat.le_of_ble_eq_true rfl, rfl,
      ⟨⟨rfl, rfl, fun _ τ hb ht hτ => R.callG hC (start_ok) Bors.nil (FrsR.one (.arr _ _ _ (frs_map fun _ => .u32 _))) ht⟩,
      ⟨⟨rfl, rfl, fun _ τ hb ht hτ => R.bldSE (l := [.bool false, .arr 8 1 ((List.replicate 8 0).map D.u32), .arr 64 1 ((List.replicate 64 0).map D.u8), .u64 0]) (l' := [_, _, _, _]) (.cons (show ev _ _ (.const (.bool true)) = some (.bool true) from rfl) (.cons (evt (hτ 1 _ rfl)) (.nil rfl))) ⟨⟨_, (show ev _ _ (.const (.bool true)) = some (.bool true) from rfl), rfl, rfl, rfl⟩, ⟨⟨_, (evt (hτ 1 _ rfl)), rfl, rfl, rfl⟩, trivial⟩⟩ ht⟩,
      trivial⟩⟩, rfl, rfl, rfl⟩)
    rfl (bx' := [(0, .var _)]) rfl (n' := 3) rfl (⟨rfl, _, R.stZ (show Sg.get _ 0 = some _ from rfl) (show Sg.box _ 0 = some _ from rfl) rfl (evt (show Sg.get _ 2 = some _ from rfl)) (by rfl) (by rfl) (by rfl) (by rfl) rfl, ⟨[0], [(0, _)], [(0, .var _)], 3, rfl, rfl, rfl, ?_⟩⟩)
  refine W.ret ?_
  exact Ends.one' (.inr rfl) rfl (rfl) rfl rfl (show LdT _ 74 74 true from inferInstance)

theorem sched_ok (p : List UInt8) (hp : p.length = 64) : Fn Tryd.prog gl 44 [.rp (.arr 64 1 (p.map D.u8))] (.arr 64 1 ((sched p 64).map D.u32)) := by
  refine Fn.of (n := 75) Tryd.func44 rfl rfl rfl (Nat.le_of_ble_eq_true rfl) fun C hC hD => ?_
  refine W.seq ?_
  refine W.line (n := 1) (by decide) (its := []) (ks := []) (kk := []) (live := [0]) (env' := [(0, _)])
    (⟨Nat.le_of_ble_eq_true rfl, rfl,
      trivial, rfl, rfl, rfl⟩)
    rfl (bx' := []) rfl (n' := 75) rfl (⟨rfl, _, R.alloc rfl (Nat.le_of_ble_eq_true rfl), ⟨[0, 2], [(0, _), (2, _)], [(2, .var _)], 75, rfl, rfl, rfl, ?_⟩⟩)
  refine W.seq ?_
  refine W.seq ?_
  refine W.line (n := 1) (by decide) (its := [⟨8, _, true⟩]) (ks := []) (kk := []) (live := [0, 2, 8]) (env' := [(0, _), (2, _), (8, _)])
    (⟨Nat.le_of_ble_eq_true rfl, rfl,
      ⟨⟨rfl, rfl, fun _ τ hb ht hτ => R.mov (show ev _ _ (.const (.int .i64 0)) = some (.int ((0 : Nat) : Int)) from rfl) rfl ht⟩,
      trivial⟩, rfl, rfl, rfl⟩)
    rfl (bx' := [(2, .var _)]) rfl (n' := 75) rfl (⟨[0, 2, 8], [(0, _), (2, _), (8, _)], [(2, .var _)], 75, rfl, rfl, rfl, ?_⟩)
  refine W.block ?_
  refine W.loop (α := {q__ : Nat // q__ ≤ 64}) (fun q__ => ⟨75, [(0, .rp (.arr 64 1 (p.map D.u8))), (2, .ptr 2 0 []), (8, .int ((q__.1 : Nat) : Int))], [(2, .var (.arr 64 1 ((sched p q__.1).map D.u32)))]⟩) (fun q__ => 64 - q__.1) ⟨(0), (by first | omega | (simp only [List.length_map, List.length_append, List.length_cons, List.length_nil, List.length_take, List.length_drop, List.length_replicate]; omega) | (simp; omega))⟩ rfl ?_
  rintro ⟨t, htl⟩
  show W _ _ _ _ ⟨75, [(0, .rp (.arr 64 1 (p.map D.u8))), (2, .ptr 2 0 []), (8, .int ((t : Nat) : Int))], [(2, .var (.arr 64 1 ((sched p t).map D.u32)))]⟩
  have hsl := sched_len p t
  refine W.seq ?_
  refine W.line (n := 1) (by decide) (its := [⟨9, _, true⟩]) (ks := []) (kk := []) (live := [0, 2, 8, 9]) (env' := [(0, _), (2, _), (8, _), (9, _)])
    (⟨Nat.le_of_ble_eq_true rfl, rfl,
      ⟨⟨rfl, rfl, fun _ τ hb ht hτ => R.lssN (t) (64) (evt (hτ 8 _ rfl)) (show ev _ _ (.const (.int .i64 64)) = some (.int ((64 : Nat) : Int)) from rfl) ht⟩,
      trivial⟩, rfl, rfl, rfl⟩)
    rfl (bx' := [(2, .var _)]) rfl (n' := 75) rfl (⟨[0, 2, 8, 9], [(0, _), (2, _), (8, _), (9, _)], [(2, .var _)], 75, rfl, rfl, rfl, ?_⟩)
  refine W.seq ?_
  refine W.condD rfl (fun hc9 => ?_) (fun hc9 => ?_)
  · refine W.skip ?_
    refine W.seq ?_
    refine W.block ?_
    refine W.seq ?_
    refine W.line (n := 2) (by decide) (its := [⟨10, _, true⟩, ⟨3, _, true⟩]) (ks := []) (kk := []) (live := [0, 2, 3, 8]) (env' := [(0, _), (2, _), (3, _), (8, _)])
      (⟨Nat.le_of_ble_eq_true rfl, rfl,
        ⟨⟨rfl, rfl, fun _ τ hb ht hτ => R.mov (evt (hτ 8 _ rfl)) rfl ht⟩,
        ⟨⟨rfl, rfl, fun _ τ hb ht hτ => R.asg (evt (hτ 10 _ rfl)) rfl ht⟩,
        trivial⟩⟩, rfl, rfl, rfl⟩)
      rfl (bx' := [(2, .var _)]) rfl (n' := 75) rfl (⟨[0, 2, 3, 8], [(0, _), (2, _), (3, _), (8, _)], [(2, .var _)], 75, rfl, rfl, rfl, ?_⟩)
    refine W.seq ?_
    refine W.seq ?_
    refine W.line (n := 2) (by decide) (its := [⟨11, _, true⟩, ⟨12, _, true⟩]) (ks := []) (kk := []) (live := [0, 2, 3, 8, 12]) (env' := [(0, _), (2, _), (3, _), (8, _), (12, _)])
      (⟨Nat.le_of_ble_eq_true rfl, rfl,
        ⟨⟨rfl, rfl, fun _ τ hb ht hτ => R.mov (evt (hτ 3 _ rfl)) rfl ht⟩,
        ⟨⟨rfl, rfl, fun _ τ hb ht hτ => R.lssN (t) (16) (evt (hτ 11 _ rfl)) (show ev _ _ (.const (.int .i64 16)) = some (.int ((16 : Nat) : Int)) from rfl) ht⟩,
        trivial⟩⟩, rfl, rfl, rfl⟩)
      rfl (bx' := [(2, .var _)]) rfl (n' := 75) rfl (⟨[0, 2, 3, 8, 12], [(0, _), (2, _), (3, _), (8, _), (12, _)], [(2, .var _)], 75, rfl, rfl, rfl, ?_⟩)
    refine W.condD rfl (fun hc12 => ?_) (fun hc12 => ?_)
    · refine W.seq ?_
      refine W.seq ?_
      refine W.line (n := 10) (by decide) (its := [⟨13, _, true⟩, ⟨14, _, true⟩, ⟨15, _, true⟩, ⟨16, _, true⟩, ⟨17, _, true⟩, ⟨18, _, true⟩, ⟨19, _, true⟩, ⟨20, _, true⟩, ⟨21, _, true⟩, ⟨22, _, true⟩]) (ks := []) (kk := []) (live := [0, 2, 3, 8, 20, 21, 22]) (env' := [(0, _), (2, _), (3, _), (8, _), (20, _), (21, _), (22, _)])
        (⟨Nat.le_of_ble_eq_true rfl, rfl,
          ⟨⟨rfl, rfl, fun _ τ hb ht hτ => R.mov (evt (hτ 0 _ rfl)) rfl ht⟩,
          ⟨⟨rfl, rfl, fun _ τ hb ht hτ => R.nilc (evt (hτ 13 _ rfl)) ht⟩,
          ⟨⟨rfl, rfl, fun _ τ hb ht hτ => R.mov (evt (hτ 3 _ rfl)) rfl ht⟩,
          ⟨⟨rfl, rfl, fun _ τ hb ht hτ => R.mulN (4) (t) (show ev _ _ (.const (.int .i64 4)) = some (.int ((4 : Nat) : Int)) from rfl) (evt (hτ 15 _ rfl)) (by first | omega | (simp only [List.length_map, List.length_append, List.length_cons, List.length_nil, List.length_take, List.length_drop, List.length_replicate]; omega) | (simp; omega)) ht⟩,
          ⟨⟨rfl, rfl, fun _ τ hb ht hτ => R.mov (evt (hτ 3 _ rfl)) rfl ht⟩,
          ⟨⟨rfl, rfl, fun _ τ hb ht hτ => R.mulN (4) (t) (show ev _ _ (.const (.int .i64 4)) = some (.int ((4 : Nat) : Int)) from rfl) (evt (hτ 17 _ rfl)) (by first | omega | (simp only [List.length_map, List.length_append, List.length_cons, List.length_nil, List.length_take, List.length_drop, List.length_replicate]; omega) | (simp; omega)) ht⟩,
          ⟨⟨rfl, rfl, fun _ τ hb ht hτ => R.addN ((4 * t)) (4) (evt (hτ 18 _ rfl)) (show ev _ _ (.const (.int .i64 4)) = some (.int ((4 : Nat) : Int)) from rfl) (by first | omega | (simp only [List.length_map, List.length_append, List.length_cons, List.length_nil, List.length_take, List.length_drop, List.length_replicate]; omega) | (simp; omega)) ht⟩,
          ⟨⟨rfl, rfl, fun _ τ hb ht hτ => R.slRN ((4 * t)) (((4 * t) + 4)) (4) (evt (hτ 14 _ rfl)) (evoI (evt (hτ 16 _ rfl))) (evoI (evt (hτ 19 _ rfl))) rfl rfl (by first | omega | (simp only [List.length_map, List.length_append, List.length_cons, List.length_nil, List.length_take, List.length_drop, List.length_replicate]; omega) | (simp; omega)) (by first | omega | (simp only [List.length_map, List.length_append, List.length_cons, List.length_nil, List.length_take, List.length_drop, List.length_replicate]; omega) | (simp; omega)) (by first | omega | (simp only [List.length_map, List.length_append, List.length_cons, List.length_nil, List.length_take, List.length_drop, List.length_replicate]; omega) | (simp; omega)) (part_map) ht⟩,
          ⟨⟨rfl, rfl, fun _ τ hb ht hτ => R.lenE (n := 4) (SC.sl (hτ 20 _ rfl)) (by simp; omega) ht⟩,
          ⟨⟨rfl, rfl, fun _ τ hb ht hτ => R.mov (show ev _ _ (.const (.int .i64 0)) = some (.int ((0 : Nat) : Int)) from rfl) rfl ht⟩,
          trivial⟩⟩⟩⟩⟩⟩⟩⟩⟩⟩, rfl, rfl, rfl⟩)
        rfl (bx' := [(2, .var _)]) rfl (n' := 75) rfl (⟨[0, 2, 3, 8, 20, 21, 22], [(0, _), (2, _), (3, _), (8, _), (20, _), (21, _), (22, _)], [(2, .var _)], 75, rfl, rfl, rfl, ?_⟩)
      refine W.block ?_
      refine W.loop (α := {q__ : Nat // q__ ≤ 4}) (fun q__ => ⟨75, [(0, .rp (.arr 64 1 (p.map D.u8))), (2, .ptr 2 0 []), (3, .int ((t : Nat) : Int)), (8, .int ((t : Nat) : Int)), (20, .sl none 1 (((p.drop (4 * t)).take 4).map D.u8)), (21, .int ((4 : Nat) : Int)), (22, .int ((q__.1 : Nat) : Int))], [(2, .var (.arr 64 1 ((inW p t (sched p t) q__.1).map D.u32)))]⟩) (fun q__ => 4 - q__.1) ⟨(0), (by first | omega | (simp only [List.length_map, List.length_append, List.length_cons, List.length_nil, List.length_take, List.length_drop, List.length_replicate]; omega) | (simp; omega))⟩ rfl ?_
      rintro ⟨i, hil⟩
      show W _ _ _ _ ⟨75, [(0, .rp (.arr 64 1 (p.map D.u8))), (2, .ptr 2 0 []), (3, .int ((t : Nat) : Int)), (8, .int ((t : Nat) : Int)), (20, .sl none 1 (((p.drop (4 * t)).take 4).map D.u8)), (21, .int ((4 : Nat) : Int)), (22, .int ((i : Nat) : Int))], [(2, .var (.arr 64 1 ((inW p t (sched p t) i).map D.u32)))]⟩
      have hil2 := inW_len p t (sched p t) i
      refine W.seq ?_
      refine W.line (n := 1) (by decide) (its := [⟨23, _, true⟩]) (ks := []) (kk := []) (live := [0, 2, 3, 8, 20, 21, 22, 23]) (env' := [(0, _), (2, _), (3, _), (8, _), (20, _), (21, _), (22, _), (23, _)])
        (⟨Nat.le_of_ble_eq_true rfl, rfl,
          ⟨⟨rfl, rfl, fun _ τ hb ht hτ => R.lssN (i) (4) (evt (hτ 22 _ rfl)) (evt (hτ 21 _ rfl)) ht⟩,
          trivial⟩, rfl, rfl, rfl⟩)
        rfl (bx' := [(2, .var _)]) rfl (n' := 75) rfl (⟨[0, 2, 3, 8, 20, 21, 22, 23], [(0, _), (2, _), (3, _), (8, _), (20, _), (21, _), (22, _), (23, _)], [(2, .var _)], 75, rfl, rfl, rfl, ?_⟩)
      refine W.seq ?_
      refine W.condD rfl (fun hc23 => ?_) (fun hc23 => ?_)
      · refine W.skip ?_
        refine W.seq ?_
        refine W.block ?_
        refine W.seq ?_
        refine W.line (n := 3) (by decide) (its := [⟨24, _, true⟩, ⟨25, _, true⟩, ⟨5, _, true⟩]) (ks := []) (kk := []) (live := [0, 2, 3, 5, 8, 20, 21, 22]) (env' := [(0, _), (2, _), (3, _), (5, _), (8, _), (20, _), (21, _), (22, _)])
          (⟨Nat.le_of_ble_eq_true rfl, rfl,
            ⟨⟨rfl, rfl, fun _ τ hb ht hτ => R.idxN (i) (SC.sl (hτ 20 _ rfl)) (evoI (evt (hτ 22 _ rfl))) rfl (by first | omega | (simp only [List.length_map, List.length_append, List.length_cons, List.length_nil, List.length_take, List.length_drop, List.length_replicate]; omega) | (simp; omega)) ht (by decide)⟩,
            ⟨⟨rfl, rfl, fun _ τ hb ht hτ => R.ldE (hτ 24 _ rfl) (SC.sl (hτ 20 _ rfl)) (part_get! (by omega) (by omega)) rfl rfl rfl rfl ht⟩,
            ⟨⟨rfl, rfl, fun _ τ hb ht hτ => R.asg (evt (hτ 25 _ rfl)) rfl ht⟩,
            trivial⟩⟩⟩, rfl, rfl, rfl⟩)
          rfl (bx' := [(2, .var _)]) rfl (n' := 75) rfl (⟨[0, 2, 3, 5, 8, 20, 21, 22], [(0, _), (2, _), (3, _), (5, _), (8, _), (20, _), (21, _), (22, _)], [(2, .var _)], 75, rfl, rfl, rfl, ?_⟩)
        refine W.line (n := 10) (by decide) (its := [⟨26, _, true⟩, ⟨27, _, true⟩, ⟨28, _, true⟩, ⟨29, _, true⟩, ⟨30, _, true⟩, ⟨31, _, true⟩, ⟨32, _, true⟩, ⟨33, _, true⟩, ⟨34, _, true⟩]) (ks := []) (kk := []) (live := [0, 2, 3, 8, 20, 21, 22, 33, 34]) (env' := [(0, _), (2, _), (3, _), (8, _), (20, _), (21, _), (22, _), (33, _), (34, _)])
          (⟨Nat.le_of_ble_eq_true rfl, rfl,
            ⟨⟨rfl, rfl, fun _ τ hb ht hτ => R.mov (evt (hτ 3 _ rfl)) rfl ht⟩,
            ⟨⟨rfl, rfl, fun _ τ hb ht hτ => R.mov (evt (hτ 3 _ rfl)) rfl ht⟩,
            ⟨⟨rfl, rfl, fun _ τ hb ht hτ => R.idxP (t) (hτ 2 _ rfl) (evoI (evt (hτ 27 _ rfl))) rfl (by first | omega | (simp only [List.length_map, List.length_append, List.length_cons, List.length_nil, List.length_take, List.length_drop, List.length_replicate]; omega) | (simp; omega)) ht⟩,
            ⟨⟨rfl, rfl, fun _ τ hb ht hτ => R.ldP (hτ 28 _ rfl) (hb 2 _ rfl) (loc_arr (map_get! (l := (inW p t (sched p t) i)) (by first | omega | (simp only [List.length_map, List.length_append, List.length_cons, List.length_nil, List.length_take, List.length_drop, List.length_replicate]; omega) | (simp; omega))) loc_nil (by first | omega | (simp only [List.length_map, List.length_append, List.length_cons, List.length_nil, List.length_take, List.length_drop, List.length_replicate]; omega) | (simp; omega))) rfl rfl rfl ht⟩,
            ⟨⟨rfl, rfl, fun _ τ hb ht hτ => R.bin (evt (hτ 29 _ rfl)) (show ev _ _ (.const (.int .u64 8)) = some (.u64 8) from rfl) rfl (show (0 : Int) ≤ _ by first | omega | (simp only [List.length_map, List.length_append, List.length_cons, List.length_nil, List.length_take, List.length_drop, List.length_replicate]; omega) | (simp; omega)) ht⟩,
            ⟨⟨rfl, rfl, fun _ τ hb ht hτ => R.mov (evt (hτ 5 _ rfl)) rfl ht⟩,
            ⟨⟨rfl, rfl, fun _ τ hb ht hτ => R.conv (evt (hτ 31 _ rfl)) rfl ht⟩,
            ⟨⟨rfl, rfl, fun _ τ hb ht hτ => R.bin (evt (hτ 30 _ rfl)) (evt (hτ 32 _ rfl)) rfl trivial ht⟩,
            ⟨⟨rfl, rfl, fun _ τ hb ht hτ => R.idxP (t) (hτ 2 _ rfl) (evoI (evt (hτ 26 _ rfl))) rfl (by first | omega | (simp only [List.length_map, List.length_append, List.length_cons, List.length_nil, List.length_take, List.length_drop, List.length_replicate]; omega) | (simp; omega)) ht⟩,
            trivial⟩⟩⟩⟩⟩⟩⟩⟩⟩, rfl, rfl, rfl⟩)
          rfl (bx' := [(2, .var _)]) rfl (n' := 75) rfl (⟨rfl, _, R.stZ (show Sg.get _ 34 = some _ from rfl) (show Sg.box _ 2 = some _ from rfl) (loc_arr (map_get! (l := (inW p t (sched p t) i)) (by first | omega | (simp only [List.length_map, List.length_append, List.length_cons, List.length_nil, List.length_take, List.length_drop, List.length_replicate]; omega) | (simp; omega))) loc_nil (by first | omega | (simp only [List.length_map, List.length_append, List.length_cons, List.length_nil, List.length_take, List.length_drop, List.length_replicate]; omega) | (simp; omega))) (evt (show Sg.get _ 33 = some _ from rfl)) (by rfl) (by rfl) (by rfl) (by rfl) (upd_arr (map_get! (l := (inW p t (sched p t) i)) (by first | omega | (simp only [List.length_map, List.length_append, List.length_cons, List.length_nil, List.length_take, List.length_drop, List.length_replicate]; omega) | (simp; omega))) upd_nil set_map), ⟨[0, 2, 3, 8, 20, 21, 22], [(0, _), (2, _), (3, _), (8, _), (20, _), (21, _), (22, _)], [(2, .var _)], 75, rfl, rfl, rfl, ?_⟩⟩)
        refine W.line (n := 2) (by decide) (its := [⟨35, _, true⟩, ⟨22, _, true⟩]) (ks := []) (kk := []) (live := [0, 2, 3, 8, 20, 21, 22]) (env' := [(0, _), (2, _), (3, _), (8, _), (20, _), (21, _), (22, _)])
          (⟨Nat.le_of_ble_eq_true rfl, rfl,
            ⟨⟨rfl, rfl, fun _ τ hb ht hτ => R.addN (i) (1) (evt (hτ 22 _ rfl)) (show ev _ _ (.const (.int .i64 1)) = some (.int ((1 : Nat) : Int)) from rfl) (by first | omega | (simp only [List.length_map, List.length_append, List.length_cons, List.length_nil, List.length_take, List.length_drop, List.length_replicate]; omega) | (simp; omega)) ht⟩,
            ⟨⟨rfl, rfl, fun _ τ hb ht hτ => R.mov (evt (hτ 35 _ rfl)) rfl ht⟩,
            trivial⟩⟩, rfl, rfl, rfl⟩)
          rfl (bx' := [(2, .var _)]) rfl (n' := 75) rfl (⟨[0, 2, 3, 8, 20, 21, 22], [(0, _), (2, _), (3, _), (8, _), (20, _), (21, _), (22, _)], [(2, .var _)], 75, rfl, rfl, rfl, ?_⟩)
        exact ⟨⟨(i + 1), (by first | omega | (simp only [List.length_map, List.length_append, List.length_cons, List.length_nil, List.length_take, List.length_drop, List.length_replicate]; omega) | (simp; omega))⟩, rfl, (by simp only []; omega)⟩
      · obtain rfl : i = 4 := by omega
        refine W.exit ?_
        refine W.exit ?_
        refine W.line (n := 2) (by decide) (its := [⟨73, _, true⟩, ⟨8, _, true⟩]) (ks := []) (kk := []) (live := [0, 2, 8]) (env' := [(0, _), (2, _), (8, _)])
          (⟨Nat.le_of_ble_eq_true rfl, rfl,
            ⟨⟨rfl, rfl, fun _ τ hb ht hτ => R.addN (t) (1) (evt (hτ 8 _ rfl)) (show ev _ _ (.const (.int .i64 1)) = some (.int ((1 : Nat) : Int)) from rfl) (by first | omega | (simp only [List.length_map, List.length_append, List.length_cons, List.length_nil, List.length_take, List.length_drop, List.length_replicate]; omega) | (simp; omega)) ht⟩,
            ⟨⟨rfl, rfl, fun _ τ hb ht hτ => R.mov (evt (hτ 73 _ rfl)) rfl ht⟩,
            trivial⟩⟩, rfl, rfl, rfl⟩)
          rfl (bx' := [(2, .var _)]) rfl (n' := 75) rfl (⟨[0, 2, 8], [(0, _), (2, _), (8, _)], [(2, .var _)], 75, rfl, rfl, rfl, ?_⟩)
        exact ⟨⟨(t + 1), (by first | omega | (simp only [List.length_map, List.length_append, List.length_cons, List.length_nil, List.length_take, List.length_drop, List.length_replicate]; omega) | (simp; omega))⟩, (by simp only [sched]; first | rw [if_pos hc12] | (rw [if_neg hc12]; rfl)), (by simp only []; omega)⟩
    · refine W.skip ?_
      refine W.seq ?_
      refine W.draw (m := 10) (an := [0, 1, 3, 7, 0, 16, 48, 112, 15, 511]) hP (by decide) rfl (its := [⟨36, _, true⟩, ⟨37, _, true⟩, ⟨38, _, true⟩, ⟨39, _, true⟩, ⟨40, _, true⟩, ⟨41, _, true⟩, ⟨42, _, true⟩, ⟨43, _, true⟩, ⟨6, _, true⟩, ⟨7, _, true⟩]) (ks := []) (kk := []) (live := [0, 2, 3, 6, 7, 8]) (env' := [(0, _), (2, _), (3, _), (6, _), (7, _), (8, _)])
        (⟨Nat.le_of_ble_eq_true rfl, rfl,
          ⟨⟨rfl, rfl, fun _ τ hb ht hτ => R.mov (evt (hτ 3 _ rfl)) rfl ht⟩,
          ⟨⟨rfl, rfl, fun _ τ hb ht hτ => R.subN (t) (15) (evt (hτ 36 _ rfl)) (show ev _ _ (.const (.int .i64 15)) = some (.int ((15 : Nat) : Int)) from rfl) (by first | omega | (simp only [List.length_map, List.length_append, List.length_cons, List.length_nil, List.length_take, List.length_drop, List.length_replicate]; omega) | (simp; omega)) (by first | omega | (simp only [List.length_map, List.length_append, List.length_cons, List.length_nil, List.length_take, List.length_drop, List.length_replicate]; omega) | (simp; omega)) ht⟩,
          ⟨⟨rfl, rfl, fun _ τ hb ht hτ => R.idxP ((t - 15)) (hτ 2 _ rfl) (evoI (evt (hτ 37 _ rfl))) rfl (by first | omega | (simp only [List.length_map, List.length_append, List.length_cons, List.length_nil, List.length_take, List.length_drop, List.length_replicate]; omega) | (simp; omega)) ht⟩,
          ⟨⟨rfl, rfl, fun _ τ hb ht hτ => R.ldP (hτ 38 _ rfl) (hb 2 _ rfl) (loc_arr (map_get! (l := (sched p t)) (by first | omega | (simp only [List.length_map, List.length_append, List.length_cons, List.length_nil, List.length_take, List.length_drop, List.length_replicate]; omega) | (simp; omega))) loc_nil (by first | omega | (simp only [List.length_map, List.length_append, List.length_cons, List.length_nil, List.length_take, List.length_drop, List.length_replicate]; omega) | (simp; omega))) rfl rfl rfl ht⟩,
          ⟨⟨rfl, rfl, fun _ τ hb ht hτ => R.mov (evt (hτ 3 _ rfl)) rfl ht⟩,
          ⟨⟨rfl, rfl, fun _ τ hb ht hτ => R.subN (t) (2) (evt (hτ 40 _ rfl)) (show ev _ _ (.const (.int .i64 2)) = some (.int ((2 : Nat) : Int)) from rfl) (by first | omega | (simp only [List.length_map, List.length_append, List.length_cons, List.length_nil, List.length_take, List.length_drop, List.length_replicate]; omega) | (simp; omega)) (by first | omega | (simp only [List.length_map, List.length_append, List.length_cons, List.length_nil, List.length_take, List.length_drop, List.length_replicate]; omega) | (simp; omega)) ht⟩,
          ⟨⟨rfl, rfl, fun _ τ hb ht hτ => R.idxP ((t - 2)) (hτ 2 _ rfl) (evoI (evt (hτ 41 _ rfl))) rfl (by first | omega | (simp only [List.length_map, List.length_append, List.length_cons, List.length_nil, List.length_take, List.length_drop, List.length_replicate]; omega) | (simp; omega)) ht⟩,
          ⟨⟨rfl, rfl, fun _ τ hb ht hτ => R.ldP (hτ 42 _ rfl) (hb 2 _ rfl) (loc_arr (map_get! (l := (sched p t)) (by first | omega | (simp only [List.length_map, List.length_append, List.length_cons, List.length_nil, List.length_take, List.length_drop, List.length_replicate]; omega) | (simp; omega))) loc_nil (by first | omega | (simp only [List.length_map, List.length_append, List.length_cons, List.length_nil, List.length_take, List.length_drop, List.length_replicate]; omega) | (simp; omega))) rfl rfl rfl ht⟩,
          ⟨⟨rfl, rfl, fun _ τ hb ht hτ => R.asg (evt (hτ 39 _ rfl)) rfl ht⟩,
          ⟨⟨rfl, rfl, fun _ τ hb ht hτ => R.asg (evt (hτ 43 _ rfl)) rfl ht⟩,
          trivial⟩⟩⟩⟩⟩⟩⟩⟩⟩⟩, rfl, rfl, rfl⟩)
        rfl (bx' := [(2, .var _)]) rfl (n' := 75) rfl (⟨[0, 2, 3, 6, 7, 8], [(0, _), (2, _), (3, _), (6, _), (7, _), (8, _)], [(2, .var _)], 75, rfl, rfl, rfl, ?_⟩)
      refine W.draw (m := 29) (an := (0 :: 0 :: 2 :: 6 :: 14 :: 0 :: 32 :: 96 :: 224 :: 510 :: 0 :: 1024 :: 0 :: 7168 :: 15360 :: 0 :: 32768 :: 130048 :: 262142 :: 0 :: 539648 :: 0 :: 3685376 :: 7879680 :: 0 :: 16777216 :: 66599936 :: 134217726 :: 268435455 :: 536870911 :: [])) hP (by decide) rfl (its := (⟨44, _, true⟩ :: ⟨45, _, true⟩ :: ⟨46, _, true⟩ :: ⟨47, _, true⟩ :: ⟨48, _, true⟩ :: ⟨49, _, true⟩ :: ⟨50, _, true⟩ :: ⟨51, _, true⟩ :: ⟨52, _, true⟩ :: ⟨53, _, true⟩ :: ⟨54, _, true⟩ :: ⟨55, _, true⟩ :: ⟨56, _, true⟩ :: ⟨57, _, true⟩ :: ⟨58, _, true⟩ :: ⟨59, _, true⟩ :: ⟨60, _, true⟩ :: ⟨61, _, true⟩ :: ⟨62, _, true⟩ :: ⟨63, _, true⟩ :: ⟨64, _, true⟩ :: ⟨65, _, true⟩ :: ⟨66, _, true⟩ :: ⟨67, _, true⟩ :: ⟨68, _, true⟩ :: ⟨69, _, true⟩ :: ⟨70, _, true⟩ :: ⟨71, _, true⟩ :: ⟨72, _, true⟩ :: [])) (ks := []) (kk := []) (live := [0, 2, 8, 71, 72]) (env' := [(0, _), (2, _), (8, _), (71, _), (72, _)])
        (⟨Nat.le_of_ble_eq_true rfl, rfl,
          ⟨⟨rfl, rfl, fun _ τ hb ht hτ => R.mov (evt (hτ 3 _ rfl)) rfl ht⟩,
          ⟨⟨rfl, rfl, fun _ τ hb ht hτ => R.mov (evt (hτ 3 _ rfl)) rfl ht⟩,
          ⟨⟨rfl, rfl, fun _ τ hb ht hτ => R.subN (t) (16) (evt (hτ 45 _ rfl)) (show ev _ _ (.const (.int .i64 16)) = some (.int ((16 : Nat) : Int)) from rfl) (by first | omega | (simp only [List.length_map, List.length_append, List.length_cons, List.length_nil, List.length_take, List.length_drop, List.length_replicate]; omega) | (simp; omega)) (by first | omega | (simp only [List.length_map, List.length_append, List.length_cons, List.length_nil, List.length_take, List.length_drop, List.length_replicate]; omega) | (simp; omega)) ht⟩,
          ⟨⟨rfl, rfl, fun _ τ hb ht hτ => R.idxP ((t - 16)) (hτ 2 _ rfl) (evoI (evt (hτ 46 _ rfl))) rfl (by first | omega | (simp only [List.length_map, List.length_append, List.length_cons, List.length_nil, List.length_take, List.length_drop, List.length_replicate]; omega) | (simp; omega)) ht⟩,
          ⟨⟨rfl, rfl, fun _ τ hb ht hτ => R.ldP (hτ 47 _ rfl) (hb 2 _ rfl) (loc_arr (map_get! (l := (sched p t)) (by first | omega | (simp only [List.length_map, List.length_append, List.length_cons, List.length_nil, List.length_take, List.length_drop, List.length_replicate]; omega) | (simp; omega))) loc_nil (by first | omega | (simp only [List.length_map, List.length_append, List.length_cons, List.length_nil, List.length_take, List.length_drop, List.length_replicate]; omega) | (simp; omega))) rfl rfl rfl ht⟩,
          ⟨⟨rfl, rfl, fun _ τ hb ht hτ => R.mov (evt (hτ 3 _ rfl)) rfl ht⟩,
          ⟨⟨rfl, rfl, fun _ τ hb ht hτ => R.subN (t) (7) (evt (hτ 49 _ rfl)) (show ev _ _ (.const (.int .i64 7)) = some (.int ((7 : Nat) : Int)) from rfl) (by first | omega | (simp only [List.length_map, List.length_append, List.length_cons, List.length_nil, List.length_take, List.length_drop, List.length_replicate]; omega) | (simp; omega)) (by first | omega | (simp only [List.length_map, List.length_append, List.length_cons, List.length_nil, List.length_take, List.length_drop, List.length_replicate]; omega) | (simp; omega)) ht⟩,
          ⟨⟨rfl, rfl, fun _ τ hb ht hτ => R.idxP ((t - 7)) (hτ 2 _ rfl) (evoI (evt (hτ 50 _ rfl))) rfl (by first | omega | (simp only [List.length_map, List.length_append, List.length_cons, List.length_nil, List.length_take, List.length_drop, List.length_replicate]; omega) | (simp; omega)) ht⟩,
          ⟨⟨rfl, rfl, fun _ τ hb ht hτ => R.ldP (hτ 51 _ rfl) (hb 2 _ rfl) (loc_arr (map_get! (l := (sched p t)) (by first | omega | (simp only [List.length_map, List.length_append, List.length_cons, List.length_nil, List.length_take, List.length_drop, List.length_replicate]; omega) | (simp; omega))) loc_nil (by first | omega | (simp only [List.length_map, List.length_append, List.length_cons, List.length_nil, List.length_take, List.length_drop, List.length_replicate]; omega) | (simp; omega))) rfl rfl rfl ht⟩,
          ⟨⟨rfl, rfl, fun _ τ hb ht hτ => R.bin (evt (hτ 48 _ rfl)) (evt (hτ 52 _ rfl)) rfl trivial ht⟩,
          ⟨⟨rfl, rfl, fun _ τ hb ht hτ => R.mov (evt (hτ 6 _ rfl)) rfl ht⟩,
          ⟨⟨rfl, rfl, fun _ τ hb ht hτ => R.callG hC (right_ok _ _) (Bors.cons (Bor.pur (evt (hτ 54 _ rfl)) rfl rfl) (Bors.cons (Bor.pur (show ev _ _ (.const (.int .i64 7)) = some (.int ((7 : Nat) : Int)) from rfl) rfl rfl) Bors.nil)) (FrsR.one (.u32 _)) ht⟩,
          ⟨⟨rfl, rfl, fun _ τ hb ht hτ => R.mov (evt (hτ 6 _ rfl)) rfl ht⟩,
          ⟨⟨rfl, rfl, fun _ τ hb ht hτ => R.callG hC (right_ok _ _) (Bors.cons (Bor.pur (evt (hτ 56 _ rfl)) rfl rfl) (Bors.cons (Bor.pur (show ev _ _ (.const (.int .i64 18)) = some (.int ((18 : Nat) : Int)) from rfl) rfl rfl) Bors.nil)) (FrsR.one (.u32 _)) ht⟩,
          ⟨⟨rfl, rfl, fun _ τ hb ht hτ => R.bin (evt (hτ 55 _ rfl)) (evt (hτ 57 _ rfl)) rfl trivial ht⟩,
          ⟨⟨rfl, rfl, fun _ τ hb ht hτ => R.mov (evt (hτ 6 _ rfl)) rfl ht⟩,
          ⟨⟨rfl, rfl, fun _ τ hb ht hτ => R.bin (evt (hτ 59 _ rfl)) (show ev _ _ (.const (.int .u64 3)) = some (.u64 3) from rfl) rfl (show (0 : Int) ≤ _ by first | omega | (simp only [List.length_map, List.length_append, List.length_cons, List.length_nil, List.length_take, List.length_drop, List.length_replicate]; omega) | (simp; omega)) ht⟩,
          ⟨⟨rfl, rfl, fun _ τ hb ht hτ => R.bin (evt (hτ 58 _ rfl)) (evt (hτ 60 _ rfl)) rfl trivial ht⟩,
          ⟨⟨rfl, rfl, fun _ τ hb ht hτ => R.bin (evt (hτ 53 _ rfl)) (evt (hτ 61 _ rfl)) rfl trivial ht⟩,
          ⟨⟨rfl, rfl, fun _ τ hb ht hτ => R.mov (evt (hτ 7 _ rfl)) rfl ht⟩,
          ⟨⟨rfl, rfl, fun _ τ hb ht hτ => R.callG hC (right_ok _ _) (Bors.cons (Bor.pur (evt (hτ 63 _ rfl)) rfl rfl) (Bors.cons (Bor.pur (show ev _ _ (.const (.int .i64 17)) = some (.int ((17 : Nat) : Int)) from rfl) rfl rfl) Bors.nil)) (FrsR.one (.u32 _)) ht⟩,
          ⟨⟨rfl, rfl, fun _ τ hb ht hτ => R.mov (evt (hτ 7 _ rfl)) rfl ht⟩,
          ⟨⟨rfl, rfl, fun _ τ hb ht hτ => R.callG hC (right_ok _ _) (Bors.cons (Bor.pur (evt (hτ 65 _ rfl)) rfl rfl) (Bors.cons (Bor.pur (show ev _ _ (.const (.int .i64 19)) = some (.int ((19 : Nat) : Int)) from rfl) rfl rfl) Bors.nil)) (FrsR.one (.u32 _)) ht⟩,
          ⟨⟨rfl, rfl, fun _ τ hb ht hτ => R.bin (evt (hτ 64 _ rfl)) (evt (hτ 66 _ rfl)) rfl trivial ht⟩,
          ⟨⟨rfl, rfl, fun _ τ hb ht hτ => R.mov (evt (hτ 7 _ rfl)) rfl ht⟩,
          ⟨⟨rfl, rfl, fun _ τ hb ht hτ => R.bin (evt (hτ 68 _ rfl)) (show ev _ _ (.const (.int .u64 10)) = some (.u64 10) from rfl) rfl (show (0 : Int) ≤ _ by first | omega | (simp only [List.length_map, List.length_append, List.length_cons, List.length_nil, List.length_take, List.length_drop, List.length_replicate]; omega) | (simp; omega)) ht⟩,
          ⟨⟨rfl, rfl, fun _ τ hb ht hτ => R.bin (evt (hτ 67 _ rfl)) (evt (hτ 69 _ rfl)) rfl trivial ht⟩,
          ⟨⟨rfl, rfl, fun _ τ hb ht hτ => R.bin (evt (hτ 62 _ rfl)) (evt (hτ 70 _ rfl)) rfl trivial ht⟩,
          ⟨⟨rfl, rfl, fun _ τ hb ht hτ => R.idxP (t) (hτ 2 _ rfl) (evoI (evt (hτ 44 _ rfl))) rfl (by first | omega | (simp only [List.length_map, List.length_append, List.length_cons, List.length_nil, List.length_take, List.length_drop, List.length_replicate]; omega) | (simp; omega)) ht⟩,
          trivial⟩⟩⟩⟩⟩⟩⟩⟩⟩⟩⟩⟩⟩⟩⟩⟩⟩⟩⟩⟩⟩⟩⟩⟩⟩⟩⟩⟩⟩, rfl, rfl, rfl⟩)
        rfl (bx' := [(2, .var _)]) rfl (n' := 75) rfl (⟨rfl, _, R.stZ (show Sg.get _ 72 = some _ from rfl) (show Sg.box _ 2 = some _ from rfl) (loc_arr (map_get! (l := (sched p t)) (by first | omega | (simp only [List.length_map, List.length_append, List.length_cons, List.length_nil, List.length_take, List.length_drop, List.length_replicate]; omega) | (simp; omega))) loc_nil (by first | omega | (simp only [List.length_map, List.length_append, List.length_cons, List.length_nil, List.length_take, List.length_drop, List.length_replicate]; omega) | (simp; omega))) (evt (show Sg.get _ 71 = some _ from rfl)) (by rfl) (by rfl) (by rfl) (by rfl) (upd_arr (map_get! (l := (sched p t)) (by first | omega | (simp only [List.length_map, List.length_append, List.length_cons, List.length_nil, List.length_take, List.length_drop, List.length_replicate]; omega) | (simp; omega))) upd_nil set_map), ⟨[0, 2, 8], [(0, _), (2, _), (8, _)], [(2, .var _)], 75, rfl, rfl, rfl, ?_⟩⟩)
      refine W.line (n := 2) (by decide) (its := [⟨73, _, true⟩, ⟨8, _, true⟩]) (ks := []) (kk := []) (live := [0, 2, 8]) (env' := [(0, _), (2, _), (8, _)])
        (⟨Nat.le_of_ble_eq_true rfl, rfl,
          ⟨⟨rfl, rfl, fun _ τ hb ht hτ => R.addN (t) (1) (evt (hτ 8 _ rfl)) (show ev _ _ (.const (.int .i64 1)) = some (.int ((1 : Nat) : Int)) from rfl) (by first | omega | (simp only [List.length_map, List.length_append, List.length_cons, List.length_nil, List.length_take, List.length_drop, List.length_replicate]; omega) | (simp; omega)) ht⟩,
          ⟨⟨rfl, rfl, fun _ τ hb ht hτ => R.mov (evt (hτ 73 _ rfl)) rfl ht⟩,
          trivial⟩⟩, rfl, rfl, rfl⟩)
        rfl (bx' := [(2, .var _)]) rfl (n' := 75) rfl (⟨[0, 2, 8], [(0, _), (2, _), (8, _)], [(2, .var _)], 75, rfl, rfl, rfl, ?_⟩)
      exact ⟨⟨(t + 1), (by first | omega | (simp only [List.length_map, List.length_append, List.length_cons, List.length_nil, List.length_take, List.length_drop, List.length_replicate]; omega) | (simp; omega))⟩, (by simp only [sched]; first | rw [if_pos hc12] | (rw [if_neg hc12]; rfl)), (by simp only []; omega)⟩
  · obtain rfl : t = 64 := by omega
    refine W.exit ?_
    refine W.seq ?_
    refine W.line (n := 2) (by decide) (its := [⟨74, _, true⟩]) (ks := []) (kk := []) (live := [2, 74]) (env' := [(2, _), (74, _)])
      (⟨Nat.le_of_ble_eq_true rfl, rfl,
        ⟨⟨rfl, rfl, fun _ τ hb ht hτ => R.ldP (hτ 2 _ rfl) (hb 2 _ rfl) rfl rfl rfl rfl ht⟩,
        trivial⟩, rfl, rfl, rfl⟩)
      rfl (bx' := [(2, .var _)]) rfl (n' := 75) rfl (⟨rfl, _, R.stZ (show Sg.get _ 2 = some _ from rfl) (show Sg.box _ 2 = some _ from rfl) rfl (evt (show Sg.get _ 74 = some _ from rfl)) (by rfl) (by rfl) (by rfl) (by rfl) rfl, ⟨[2], [(2, _)], [(2, .var _)], 75, rfl, rfl, rfl, ?_⟩⟩)
    refine W.ret ?_
    exact Ends.one' (.inr rfl) rfl (rfl) rfl rfl (show LdT _ 87 64 true from inferInstance)

theorem with_ok (h : List UInt32) (p : List UInt8) (hh : h.length = 8) (hp : p.length = 64) : Fn Tryd.prog gl 43 [.arr 8 1 (h.map D.u32), .rp (.arr 64 1 (p.map D.u8))] (.arr 8 1 ((comp h p).map D.u32)) := by
  refine Fn.of (n := 119) Tryd.func43 rfl rfl rfl (Nat.le_of_ble_eq_true rfl) fun C hC hD => ?_
  refine W.seq ?_
  refine W.line (n := 2) (by decide) (its := []) (ks := []) (kk := []) (live := [0, 1]) (env' := [(0, _), (1, _)])
    (⟨Nat.le_of_ble_eq_true rfl, rfl,
      trivial, rfl, rfl, rfl⟩)
    rfl (bx' := []) rfl (n' := 119) rfl (⟨rfl, _, R.box (evt (show Sg.get _ 0 = some _ from rfl)) rfl rfl (Nat.le_of_ble_eq_true rfl), ⟨rfl, _, R.alloc rfl (Nat.le_of_ble_eq_true rfl), ⟨[1, 2, 4], [(1, _), (2, _), (4, _)], [(4, .var _), (2, .var _)], 119, rfl, rfl, rfl, ?_⟩⟩⟩)
  refine W.seq ?_
  refine W.draw (m := 24) (an := [0, 1, 0, 4, 0, 16, 0, 64, 0, 256, 0, 1024, 0, 4096, 0, 16384, 3, 65551, 196671, 459007, 984063, 2035711, 4145151, 8388607]) hP (by decide) rfl (its := [⟨20, _, true⟩, ⟨21, _, true⟩, ⟨22, _, true⟩, ⟨23, _, true⟩, ⟨24, _, true⟩, ⟨25, _, true⟩, ⟨26, _, true⟩, ⟨27, _, true⟩, ⟨28, _, true⟩, ⟨29, _, true⟩, ⟨30, _, true⟩, ⟨31, _, true⟩, ⟨32, _, true⟩, ⟨33, _, true⟩, ⟨34, _, true⟩, ⟨35, _, true⟩, ⟨5, _, true⟩, ⟨6, _, true⟩, ⟨7, _, true⟩, ⟨8, _, true⟩, ⟨9, _, true⟩, ⟨10, _, true⟩, ⟨11, _, true⟩, ⟨12, _, true⟩]) (ks := []) (kk := []) (live := [1, 2, 4, 5, 6, 7, 8, 9, 10, 11, 12]) (env' := [(1, _), (2, _), (4, _), (5, _), (6, _), (7, _), (8, _), (9, _), (10, _), (11, _), (12, _)])
    (⟨Nat.le_of_ble_eq_true rfl, rfl,
      ⟨⟨rfl, rfl, fun _ τ hb ht hτ => R.idxP (0) (hτ 2 _ rfl) (evoI (show ev _ _ (.const (.int .i64 0)) = some (.int ((0 : Nat) : Int)) from rfl)) rfl (by first | omega | (simp only [List.length_map, List.length_append, List.length_cons, List.length_nil, List.length_take, List.length_drop, List.length_replicate]; omega) | (simp; omega)) ht⟩,
      ⟨⟨rfl, rfl, fun _ τ hb ht hτ => R.ldP (hτ 20 _ rfl) (hb 2 _ rfl) (loc_arr (map_get! (l := h) (by first | omega | (simp only [List.length_map, List.length_append, List.length_cons, List.length_nil, List.length_take, List.length_drop, List.length_replicate]; omega) | (simp; omega))) loc_nil (by first | omega | (simp only [List.length_map, List.length_append, List.length_cons, List.length_nil, List.length_take, List.length_drop, List.length_replicate]; omega) | (simp; omega))) rfl rfl rfl ht⟩,
      ⟨⟨rfl, rfl, fun _ τ hb ht hτ => R.idxP (1) (hτ 2 _ rfl) (evoI (show ev _ _ (.const (.int .i64 1)) = some (.int ((1 : Nat) : Int)) from rfl)) rfl (by first | omega | (simp only [List.length_map, List.length_append, List.length_cons, List.length_nil, List.length_take, List.length_drop, List.length_replicate]; omega) | (simp; omega)) ht⟩,
      ⟨⟨rfl, rfl, fun _ τ hb ht hτ => R.ldP (hτ 22 _ rfl) (hb 2 _ rfl) (loc_arr (map_get! (l := h) (by first | omega | (simp only [List.length_map, List.length_append, List.length_cons, List.length_nil, List.length_take, List.length_drop, List.length_replicate]; omega) | (simp; omega))) loc_nil (by first | omega | (simp only [List.length_map, List.length_append, List.length_cons, List.length_nil, List.length_take, List.length_drop, List.length_replicate]; omega) | (simp; omega))) rfl rfl rfl ht⟩,
      ⟨⟨rfl, rfl, fun _ τ hb ht hτ => R.idxP (2) (hτ 2 _ rfl) (evoI (show ev _ _ (.const (.int .i64 2)) = some (.int ((2 : Nat) : Int)) from rfl)) rfl (by first | omega | (simp only [List.length_map, List.length_append, List.length_cons, List.length_nil, List.length_take, List.length_drop, List.length_replicate]; omega) | (simp; omega)) ht⟩,
      ⟨⟨rfl, rfl, fun _ τ hb ht hτ => R.ldP (hτ 24 _ rfl) (hb 2 _ rfl) (loc_arr (map_get! (l := h) (by first | omega | (simp only [List.length_map, List.length_append, List.length_cons, List.length_nil, List.length_take, List.length_drop, List.length_replicate]; omega) | (simp; omega))) loc_nil (by first | omega | (simp only [List.length_map, List.length_append, List.length_cons, List.length_nil, List.length_take, List.length_drop, List.length_replicate]; omega) | (simp; omega))) rfl rfl rfl ht⟩,
      ⟨⟨rfl, rfl, fun _ τ hb ht hτ => R.idxP (3) (hτ 2 _ rfl) (evoI (show ev _ _ (.const (.int .i64 3)) = some (.int ((3 : Nat) : Int)) from rfl)) rfl (by first | omega | (simp only [List.length_map, List.length_append, List.length_cons, List.length_nil, List.length_take, List.length_drop, List.length_replicate]; omega) | (simp; omega)) ht⟩,
      ⟨⟨rfl, rfl, fun _ τ hb ht hτ => R.ldP (hτ 26 _ rfl) (hb 2 _ rfl) (loc_arr (map_get! (l := h) (by first | omega | (simp only [List.length_map, List.length_append, List.length_cons, List.length_nil, List.length_take, List.length_drop, List.length_replicate]; omega) | (simp; omega))) loc_nil (by first | omega | (simp only [List.length_map, List.length_append, List.length_cons, List.length_nil, List.length_take, List.length_drop, List.length_replicate]; omega) | (simp; omega))) rfl rfl rfl ht⟩,
      ⟨⟨rfl, rfl, fun _ τ hb ht hτ => R.idxP (4) (hτ 2 _ rfl) (evoI (show ev _ _ (.const (.int .i64 4)) = some (.int ((4 : Nat) : Int)) from rfl)) rfl (by first | omega | (simp only [List.length_map, List.length_append, List.length_cons, List.length_nil, List.length_take, List.length_drop, List.length_replicate]; omega) | (simp; omega)) ht⟩,
      ⟨⟨rfl, rfl, fun _ τ hb ht hτ => R.ldP (hτ 28 _ rfl) (hb 2 _ rfl) (loc_arr (map_get! (l := h) (by first | omega | (simp only [List.length_map, List.length_append, List.length_cons, List.length_nil, List.length_take, List.length_drop, List.length_replicate]; omega) | (simp; omega))) loc_nil (by first | omega | (simp only [List.length_map, List.length_append, List.length_cons, List.length_nil, List.length_take, List.length_drop, List.length_replicate]; omega) | (simp; omega))) rfl rfl rfl ht⟩,
      ⟨⟨rfl, rfl, fun _ τ hb ht hτ => R.idxP (5) (hτ 2 _ rfl) (evoI (show ev _ _ (.const (.int .i64 5)) = some (.int ((5 : Nat) : Int)) from rfl)) rfl (by first | omega | (simp only [List.length_map, List.length_append, List.length_cons, List.length_nil, List.length_take, List.length_drop, List.length_replicate]; omega) | (simp; omega)) ht⟩,
      ⟨⟨rfl, rfl, fun _ τ hb ht hτ => R.ldP (hτ 30 _ rfl) (hb 2 _ rfl) (loc_arr (map_get! (l := h) (by first | omega | (simp only [List.length_map, List.length_append, List.length_cons, List.length_nil, List.length_take, List.length_drop, List.length_replicate]; omega) | (simp; omega))) loc_nil (by first | omega | (simp only [List.length_map, List.length_append, List.length_cons, List.length_nil, List.length_take, List.length_drop, List.length_replicate]; omega) | (simp; omega))) rfl rfl rfl ht⟩,
      ⟨⟨rfl, rfl, fun _ τ hb ht hτ => R.idxP (6) (hτ 2 _ rfl) (evoI (show ev _ _ (.const (.int .i64 6)) = some (.int ((6 : Nat) : Int)) from rfl)) rfl (by first | omega | (simp only [List.length_map, List.length_append, List.length_cons, List.length_nil, List.length_take, List.length_drop, List.length_replicate]; omega) | (simp; omega)) ht⟩,
      ⟨⟨rfl, rfl, fun _ τ hb ht hτ => R.ldP (hτ 32 _ rfl) (hb 2 _ rfl) (loc_arr (map_get! (l := h) (by first | omega | (simp only [List.length_map, List.length_append, List.length_cons, List.length_nil, List.length_take, List.length_drop, List.length_replicate]; omega) | (simp; omega))) loc_nil (by first | omega | (simp only [List.length_map, List.length_append, List.length_cons, List.length_nil, List.length_take, List.length_drop, List.length_replicate]; omega) | (simp; omega))) rfl rfl rfl ht⟩,
      ⟨⟨rfl, rfl, fun _ τ hb ht hτ => R.idxP (7) (hτ 2 _ rfl) (evoI (show ev _ _ (.const (.int .i64 7)) = some (.int ((7 : Nat) : Int)) from rfl)) rfl (by first | omega | (simp only [List.length_map, List.length_append, List.length_cons, List.length_nil, List.length_take, List.length_drop, List.length_replicate]; omega) | (simp; omega)) ht⟩,
      ⟨⟨rfl, rfl, fun _ τ hb ht hτ => R.ldP (hτ 34 _ rfl) (hb 2 _ rfl) (loc_arr (map_get! (l := h) (by first | omega | (simp only [List.length_map, List.length_append, List.length_cons, List.length_nil, List.length_take, List.length_drop, List.length_replicate]; omega) | (simp; omega))) loc_nil (by first | omega | (simp only [List.length_map, List.length_append, List.length_cons, List.length_nil, List.length_take, List.length_drop, List.length_replicate]; omega) | (simp; omega))) rfl rfl rfl ht⟩,
      ⟨⟨rfl, rfl, fun _ τ hb ht hτ => R.asg (evt (hτ 21 _ rfl)) rfl ht⟩,
      ⟨⟨rfl, rfl, fun _ τ hb ht hτ => R.asg (evt (hτ 23 _ rfl)) rfl ht⟩,
      ⟨⟨rfl, rfl, fun _ τ hb ht hτ => R.asg (evt (hτ 25 _ rfl)) rfl ht⟩,
      ⟨⟨rfl, rfl, fun _ τ hb ht hτ => R.asg (evt (hτ 27 _ rfl)) rfl ht⟩,
      ⟨⟨rfl, rfl, fun _ τ hb ht hτ => R.asg (evt (hτ 29 _ rfl)) rfl ht⟩,
      ⟨⟨rfl, rfl, fun _ τ hb ht hτ => R.asg (evt (hτ 31 _ rfl)) rfl ht⟩,
      ⟨⟨rfl, rfl, fun _ τ hb ht hτ => R.asg (evt (hτ 33 _ rfl)) rfl ht⟩,
      ⟨⟨rfl, rfl, fun _ τ hb ht hτ => R.asg (evt (hτ 35 _ rfl)) rfl ht⟩,
      trivial⟩⟩⟩⟩⟩⟩⟩⟩⟩⟩⟩⟩⟩⟩⟩⟩⟩⟩⟩⟩⟩⟩⟩⟩, rfl, rfl, rfl⟩)
    rfl (bx' := [(4, .var _), (2, .var _)]) rfl (n' := 119) rfl (⟨[1, 2, 4, 5, 6, 7, 8, 9, 10, 11, 12], [(1, _), (2, _), (4, _), (5, _), (6, _), (7, _), (8, _), (9, _), (10, _), (11, _), (12, _)], [(4, .var _), (2, .var _)], 119, rfl, rfl, rfl, ?_⟩)
  refine W.seq ?_
  refine W.line (n := 4) (by decide) (its := [⟨36, _, true⟩, ⟨37, _, true⟩]) (ks := []) (kk := []) (live := [2, 4, 5, 6, 7, 8, 9, 10, 11, 12, 37]) (env' := [(2, _), (4, _), (5, _), (6, _), (7, _), (8, _), (9, _), (10, _), (11, _), (12, _), (37, _)])
    (⟨Nat.le_of_ble_eq_true rfl, rfl,
      ⟨⟨rfl, rfl, fun _ τ hb ht hτ => R.mov (evt (hτ 1 _ rfl)) rfl ht⟩,
      ⟨⟨rfl, rfl, fun _ τ hb ht hτ => R.callG hC (sched_ok _ hp) (Bors.cons (Bor.pur (evt (hτ 36 _ rfl)) rfl rfl) Bors.nil) (FrsR.one (.arr _ _ _ (frs_map fun _ => .u32 _))) ht⟩,
      trivial⟩⟩, rfl, rfl, rfl⟩)
    rfl (bx' := [(4, .var _), (2, .var _)]) rfl (n' := 119) rfl (⟨rfl, _, R.alloc rfl (Nat.le_of_ble_eq_true rfl), ⟨rfl, _, R.stZ (show Sg.get _ 13 = some _ from rfl) (show Sg.box _ 13 = some _ from rfl) rfl (evt (show Sg.get _ 37 = some _ from rfl)) (by rfl) (by rfl) (by rfl) (by rfl) rfl, ⟨[2, 4, 5, 6, 7, 8, 9, 10, 11, 12, 13], [(2, _), (4, _), (5, _), (6, _), (7, _), (8, _), (9, _), (10, _), (11, _), (12, _), (13, _)], [(13, .var _), (4, .var _), (2, .var _)], 119, rfl, rfl, rfl, ?_⟩⟩⟩)
  refine W.seq ?_
  refine W.seq ?_
  refine W.line (n := 2) (by decide) (its := [⟨38, _, true⟩, ⟨39, _, true⟩]) (ks := []) (kk := []) (live := [2, 4, 5, 6, 7, 8, 9, 10, 11, 12, 13, 38, 39]) (env' := [(2, _), (4, _), (5, _), (6, _), (7, _), (8, _), (9, _), (10, _), (11, _), (12, _), (13, _), (38, _), (39, _)])
    (⟨Nat.le_of_ble_eq_true rfl, rfl,
      ⟨⟨rfl, rfl, fun _ τ hb ht hτ => R.ldR (evg hC rfl) rfl rfl rfl ht⟩,
      ⟨⟨rfl, rfl, fun _ τ hb ht hτ => R.mov (show ev _ _ (.const (.int .i64 0)) = some (.int ((0 : Nat) : Int)) from rfl) rfl ht⟩,
      trivial⟩⟩, rfl, rfl, rfl⟩)
    rfl (bx' := [(13, .var _), (4, .var _), (2, .var _)]) rfl (n' := 119) rfl (⟨[2, 4, 5, 6, 7, 8, 9, 10, 11, 12, 13, 38, 39], [(2, _), (4, _), (5, _), (6, _), (7, _), (8, _), (9, _), (10, _), (11, _), (12, _), (13, _), (38, _), (39, _)], [(13, .var _), (4, .var _), (2, .var _)], 119, rfl, rfl, rfl, ?_⟩)
  refine W.block ?_
  refine W.loop (α := {q__ : Nat // q__ ≤ 64}) (fun q__ => ⟨119, [(2, .ptr 2 0 []), (4, .ptr 4 0 []), (5, .u32 (rds h (sched p 64) q__.1).a), (6, .u32 (rds h (sched p 64) q__.1).b), (7, .u32 (rds h (sched p 64) q__.1).c), (8, .u32 (rds h (sched p 64) q__.1).d), (9, .u32 (rds h (sched p 64) q__.1).e), (10, .u32 (rds h (sched p 64) q__.1).f), (11, .u32 (rds h (sched p 64) q__.1).g), (12, .u32 (rds h (sched p 64) q__.1).l), (13, .ptr 13 0 []), (38, .arr 64 1 (kTab.map D.u32)), (39, .int ((q__.1 : Nat) : Int))], [(13, .var (.arr 64 1 ((sched p 64).map D.u32))), (4, .var (.arr 8 1 ((List.replicate 8 0).map D.u32))), (2, .var (.arr 8 1 (h.map D.u32)))]⟩) (fun q__ => 64 - q__.1) ⟨(0), (by first | omega | (simp only [List.length_map, List.length_append, List.length_cons, List.length_nil, List.length_take, List.length_drop, List.length_replicate]; omega) | (simp; omega))⟩ rfl ?_
  rintro ⟨t, htl⟩
  show W _ _ _ _ ⟨119, [(2, .ptr 2 0 []), (4, .ptr 4 0 []), (5, .u32 (rds h (sched p 64) t).a), (6, .u32 (rds h (sched p 64) t).b), (7, .u32 (rds h (sched p 64) t).c), (8, .u32 (rds h (sched p 64) t).d), (9, .u32 (rds h (sched p 64) t).e), (10, .u32 (rds h (sched p 64) t).f), (11, .u32 (rds h (sched p 64) t).g), (12, .u32 (rds h (sched p 64) t).l), (13, .ptr 13 0 []), (38, .arr 64 1 (kTab.map D.u32)), (39, .int ((t : Nat) : Int))], [(13, .var (.arr 64 1 ((sched p 64).map D.u32))), (4, .var (.arr 8 1 ((List.replicate 8 0).map D.u32))), (2, .var (.arr 8 1 (h.map D.u32)))]⟩
  have hsl := sched_len p 64
  have hkl : kTab.length = 64 := rfl
  refine W.seq ?_
  refine W.line (n := 1) (by decide) (its := [⟨40, _, true⟩]) (ks := []) (kk := []) (live := [2, 4, 5, 6, 7, 8, 9, 10, 11, 12, 13, 38, 39, 40]) (env' := [(2, _), (4, _), (5, _), (6, _), (7, _), (8, _), (9, _), (10, _), (11, _), (12, _), (13, _), (38, _), (39, _), (40, _)])
    (⟨Nat.le_of_ble_eq_true rfl, rfl,
      ⟨⟨rfl, rfl, fun _ τ hb ht hτ => R.lssN (t) (64) (evt (hτ 39 _ rfl)) (show ev _ _ (.const (.int .i64 64)) = some (.int ((64 : Nat) : Int)) from rfl) ht⟩,
      trivial⟩, rfl, rfl, rfl⟩)
    rfl (bx' := [(13, .var _), (4, .var _), (2, .var _)]) rfl (n' := 119) rfl (⟨[2, 4, 5, 6, 7, 8, 9, 10, 11, 12, 13, 38, 39, 40], [(2, _), (4, _), (5, _), (6, _), (7, _), (8, _), (9, _), (10, _), (11, _), (12, _), (13, _), (38, _), (39, _), (40, _)], [(13, .var _), (4, .var _), (2, .var _)], 119, rfl, rfl, rfl, ?_⟩)
  refine W.seq ?_
  refine W.condD rfl (fun hc40 => ?_) (fun hc40 => ?_)
  · refine W.skip ?_
    refine W.seq ?_
    refine W.block ?_
    refine W.seq ?_
    refine W.line (n := 4) (by decide) (its := [⟨41, _, true⟩, ⟨42, _, true⟩, ⟨14, _, true⟩, ⟨15, _, true⟩]) (ks := []) (kk := []) (live := [2, 4, 5, 6, 7, 8, 9, 10, 11, 12, 13, 14, 15, 38, 39]) (env' := [(2, _), (4, _), (5, _), (6, _), (7, _), (8, _), (9, _), (10, _), (11, _), (12, _), (13, _), (14, _), (15, _), (38, _), (39, _)])
      (⟨Nat.le_of_ble_eq_true rfl, rfl,
        ⟨⟨rfl, rfl, fun _ τ hb ht hτ => R.mov (evt (hτ 39 _ rfl)) rfl ht⟩,
        ⟨⟨rfl, rfl, fun _ τ hb ht hτ => R.ixA (t) (evt (hτ 38 _ rfl)) (evoI (evt (hτ 39 _ rfl))) rfl (map_get! (l := kTab) (by first | omega | (simp only [List.length_map, List.length_append, List.length_cons, List.length_nil, List.length_take, List.length_drop, List.length_replicate]; omega) | (simp; omega))) rfl rfl rfl ht⟩,
        ⟨⟨rfl, rfl, fun _ τ hb ht hτ => R.asg (evt (hτ 41 _ rfl)) rfl ht⟩,
        ⟨⟨rfl, rfl, fun _ τ hb ht hτ => R.asg (evt (hτ 42 _ rfl)) rfl ht⟩,
        trivial⟩⟩⟩⟩, rfl, rfl, rfl⟩)
      rfl (bx' := [(13, .var _), (4, .var _), (2, .var _)]) rfl (n' := 119) rfl (⟨[2, 4, 5, 6, 7, 8, 9, 10, 11, 12, 13, 14, 15, 38, 39], [(2, _), (4, _), (5, _), (6, _), (7, _), (8, _), (9, _), (10, _), (11, _), (12, _), (13, _), (14, _), (15, _), (38, _), (39, _)], [(13, .var _), (4, .var _), (2, .var _)], 119, rfl, rfl, rfl, ?_⟩)
    refine W.seq ?_
    refine W.draw (m := 25) (an := (0 :: 0 :: 2 :: 0 :: 14 :: 30 :: 0 :: 94 :: 254 :: 511 :: 0 :: 0 :: 0 :: 0 :: 12288 :: 30720 :: 64512 :: 131071 :: 0 :: 524287 :: 0 :: 1048576 :: 3145728 :: 8388607 :: 16777215 :: [])) hP (by decide) rfl (its := (⟨43, _, true⟩ :: ⟨44, _, true⟩ :: ⟨45, _, true⟩ :: ⟨46, _, true⟩ :: ⟨47, _, true⟩ :: ⟨48, _, true⟩ :: ⟨49, _, true⟩ :: ⟨50, _, true⟩ :: ⟨51, _, true⟩ :: ⟨52, _, true⟩ :: ⟨53, _, true⟩ :: ⟨54, _, true⟩ :: ⟨55, _, true⟩ :: ⟨56, _, true⟩ :: ⟨57, _, true⟩ :: ⟨58, _, true⟩ :: ⟨59, _, true⟩ :: ⟨60, _, true⟩ :: ⟨61, _, true⟩ :: ⟨62, _, true⟩ :: ⟨63, _, true⟩ :: ⟨64, _, true⟩ :: ⟨65, _, true⟩ :: ⟨66, _, true⟩ :: ⟨16, _, true⟩ :: [])) (ks := []) (kk := []) (live := [2, 4, 5, 6, 7, 8, 9, 10, 11, 13, 16, 38, 39]) (env' := [(2, _), (4, _), (5, _), (6, _), (7, _), (8, _), (9, _), (10, _), (11, _), (13, _), (16, _), (38, _), (39, _)])
      (⟨Nat.le_of_ble_eq_true rfl, rfl,
        ⟨⟨rfl, rfl, fun _ τ hb ht hτ => R.mov (evt (hτ 12 _ rfl)) rfl ht⟩,
        ⟨⟨rfl, rfl, fun _ τ hb ht hτ => R.mov (evt (hτ 9 _ rfl)) rfl ht⟩,
        ⟨⟨rfl, rfl, fun _ τ hb ht hτ => R.callG hC (right_ok _ _) (Bors.cons (Bor.pur (evt (hτ 44 _ rfl)) rfl rfl) (Bors.cons (Bor.pur (show ev _ _ (.const (.int .i64 6)) = some (.int ((6 : Nat) : Int)) from rfl) rfl rfl) Bors.nil)) (FrsR.one (.u32 _)) ht⟩,
        ⟨⟨rfl, rfl, fun _ τ hb ht hτ => R.mov (evt (hτ 9 _ rfl)) rfl ht⟩,
        ⟨⟨rfl, rfl, fun _ τ hb ht hτ => R.callG hC (right_ok _ _) (Bors.cons (Bor.pur (evt (hτ 46 _ rfl)) rfl rfl) (Bors.cons (Bor.pur (show ev _ _ (.const (.int .i64 11)) = some (.int ((11 : Nat) : Int)) from rfl) rfl rfl) Bors.nil)) (FrsR.one (.u32 _)) ht⟩,
        ⟨⟨rfl, rfl, fun _ τ hb ht hτ => R.bin (evt (hτ 45 _ rfl)) (evt (hτ 47 _ rfl)) rfl trivial ht⟩,
        ⟨⟨rfl, rfl, fun _ τ hb ht hτ => R.mov (evt (hτ 9 _ rfl)) rfl ht⟩,
        ⟨⟨rfl, rfl, fun _ τ hb ht hτ => R.callG hC (right_ok _ _) (Bors.cons (Bor.pur (evt (hτ 49 _ rfl)) rfl rfl) (Bors.cons (Bor.pur (show ev _ _ (.const (.int .i64 25)) = some (.int ((25 : Nat) : Int)) from rfl) rfl rfl) Bors.nil)) (FrsR.one (.u32 _)) ht⟩,
        ⟨⟨rfl, rfl, fun _ τ hb ht hτ => R.bin (evt (hτ 48 _ rfl)) (evt (hτ 50 _ rfl)) rfl trivial ht⟩,
        ⟨⟨rfl, rfl, fun _ τ hb ht hτ => R.bin (evt (hτ 43 _ rfl)) (evt (hτ 51 _ rfl)) rfl trivial ht⟩,
        ⟨⟨rfl, rfl, fun _ τ hb ht hτ => R.mov (evt (hτ 11 _ rfl)) rfl ht⟩,
        ⟨⟨rfl, rfl, fun _ τ hb ht hτ => R.mov (evt (hτ 9 _ rfl)) rfl ht⟩,
        ⟨⟨rfl, rfl, fun _ τ hb ht hτ => R.mov (evt (hτ 10 _ rfl)) rfl ht⟩,
        ⟨⟨rfl, rfl, fun _ τ hb ht hτ => R.mov (evt (hτ 11 _ rfl)) rfl ht⟩,
        ⟨⟨rfl, rfl, fun _ τ hb ht hτ => R.bin (evt (hτ 55 _ rfl)) (evt (hτ 56 _ rfl)) rfl trivial ht⟩,
        ⟨⟨rfl, rfl, fun _ τ hb ht hτ => R.bin (evt (hτ 54 _ rfl)) (evt (hτ 57 _ rfl)) rfl trivial ht⟩,
        ⟨⟨rfl, rfl, fun _ τ hb ht hτ => R.bin (evt (hτ 53 _ rfl)) (evt (hτ 58 _ rfl)) rfl trivial ht⟩,
        ⟨⟨rfl, rfl, fun _ τ hb ht hτ => R.bin (evt (hτ 52 _ rfl)) (evt (hτ 59 _ rfl)) rfl trivial ht⟩,
        ⟨⟨rfl, rfl, fun _ τ hb ht hτ => R.mov (evt (hτ 15 _ rfl)) rfl ht⟩,
        ⟨⟨rfl, rfl, fun _ τ hb ht hτ => R.bin (evt (hτ 60 _ rfl)) (evt (hτ 61 _ rfl)) rfl trivial ht⟩,
        ⟨⟨rfl, rfl, fun _ τ hb ht hτ => R.mov (evt (hτ 14 _ rfl)) rfl ht⟩,
        ⟨⟨rfl, rfl, fun _ τ hb ht hτ => R.idxP (t) (hτ 13 _ rfl) (evoI (evt (hτ 63 _ rfl))) rfl (by first | omega | (simp only [List.length_map, List.length_append, List.length_cons, List.length_nil, List.length_take, List.length_drop, List.length_replicate]; omega) | (simp; omega)) ht⟩,
        ⟨⟨rfl, rfl, fun _ τ hb ht hτ => R.ldP (hτ 64 _ rfl) (hb 13 _ rfl) (loc_arr (map_get! (l := (sched p 64)) (by first | omega | (simp only [List.length_map, List.length_append, List.length_cons, List.length_nil, List.length_take, List.length_drop, List.length_replicate]; omega) | (simp; omega))) loc_nil (by first | omega | (simp only [List.length_map, List.length_append, List.length_cons, List.length_nil, List.length_take, List.length_drop, List.length_replicate]; omega) | (simp; omega))) rfl rfl rfl ht⟩,
        ⟨⟨rfl, rfl, fun _ τ hb ht hτ => R.bin (evt (hτ 62 _ rfl)) (evt (hτ 65 _ rfl)) rfl trivial ht⟩,
        ⟨⟨rfl, rfl, fun _ τ hb ht hτ => R.asg (evt (hτ 66 _ rfl)) rfl ht⟩,
        trivial⟩⟩⟩⟩⟩⟩⟩⟩⟩⟩⟩⟩⟩⟩⟩⟩⟩⟩⟩⟩⟩⟩⟩⟩⟩, rfl, rfl, rfl⟩)
      rfl (bx' := [(13, .var _), (4, .var _), (2, .var _)]) rfl (n' := 119) rfl (⟨[2, 4, 5, 6, 7, 8, 9, 10, 11, 13, 16, 38, 39], [(2, _), (4, _), (5, _), (6, _), (7, _), (8, _), (9, _), (10, _), (11, _), (13, _), (16, _), (38, _), (39, _)], [(13, .var _), (4, .var _), (2, .var _)], 119, rfl, rfl, rfl, ?_⟩)
    refine W.seq ?_
    refine W.line (n := 19) (by decide) (its := [⟨67, _, true⟩, ⟨68, _, true⟩, ⟨69, _, true⟩, ⟨70, _, true⟩, ⟨71, _, true⟩, ⟨72, _, true⟩, ⟨73, _, true⟩, ⟨74, _, true⟩, ⟨75, _, true⟩, ⟨76, _, true⟩, ⟨77, _, true⟩, ⟨78, _, true⟩, ⟨79, _, true⟩, ⟨80, _, true⟩, ⟨81, _, true⟩, ⟨82, _, true⟩, ⟨83, _, true⟩, ⟨84, _, true⟩, ⟨17, _, true⟩]) (ks := []) (kk := []) (live := [2, 4, 5, 6, 7, 8, 9, 10, 11, 13, 16, 17, 38, 39]) (env' := [(2, _), (4, _), (5, _), (6, _), (7, _), (8, _), (9, _), (10, _), (11, _), (13, _), (16, _), (17, _), (38, _), (39, _)])
      (⟨Nat.le_of_ble_eq_true rfl, rfl,
        ⟨⟨rfl, rfl, fun _ τ hb ht hτ => R.mov (evt (hτ 5 _ rfl)) rfl ht⟩,
        ⟨⟨rfl, rfl, fun _ τ hb ht hτ => R.callG hC (right_ok _ _) (Bors.cons (Bor.pur (evt (hτ 67 _ rfl)) rfl rfl) (Bors.cons (Bor.pur (show ev _ _ (.const (.int .i64 2)) = some (.int ((2 : Nat) : Int)) from rfl) rfl rfl) Bors.nil)) (FrsR.one (.u32 _)) ht⟩,
        ⟨⟨rfl, rfl, fun _ τ hb ht hτ => R.mov (evt (hτ 5 _ rfl)) rfl ht⟩,
        ⟨⟨rfl, rfl, fun _ τ hb ht hτ => R.callG hC (right_ok _ _) (Bors.cons (Bor.pur (evt (hτ 69 _ rfl)) rfl rfl) (Bors.cons (Bor.pur (show ev _ _ (.const (.int .i64 13)) = some (.int ((13 : Nat) : Int)) from rfl) rfl rfl) Bors.nil)) (FrsR.one (.u32 _)) ht⟩,
        ⟨⟨rfl, rfl, fun _ τ hb ht hτ => R.bin (evt (hτ 68 _ rfl)) (evt (hτ 70 _ rfl)) rfl trivial ht⟩,
        ⟨⟨rfl, rfl, fun _ τ hb ht hτ => R.mov (evt (hτ 5 _ rfl)) rfl ht⟩,
        ⟨⟨rfl, rfl, fun _ τ hb ht hτ => R.callG hC (right_ok _ _) (Bors.cons (Bor.pur (evt (hτ 72 _ rfl)) rfl rfl) (Bors.cons (Bor.pur (show ev _ _ (.const (.int .i64 22)) = some (.int ((22 : Nat) : Int)) from rfl) rfl rfl) Bors.nil)) (FrsR.one (.u32 _)) ht⟩,
        ⟨⟨rfl, rfl, fun _ τ hb ht hτ => R.bin (evt (hτ 71 _ rfl)) (evt (hτ 73 _ rfl)) rfl trivial ht⟩,
        ⟨⟨rfl, rfl, fun _ τ hb ht hτ => R.mov (evt (hτ 5 _ rfl)) rfl ht⟩,
        ⟨⟨rfl, rfl, fun _ τ hb ht hτ => R.mov (evt (hτ 6 _ rfl)) rfl ht⟩,
        ⟨⟨rfl, rfl, fun _ τ hb ht hτ => R.bin (evt (hτ 75 _ rfl)) (evt (hτ 76 _ rfl)) rfl trivial ht⟩,
        ⟨⟨rfl, rfl, fun _ τ hb ht hτ => R.mov (evt (hτ 7 _ rfl)) rfl ht⟩,
        ⟨⟨rfl, rfl, fun _ τ hb ht hτ => R.mov (evt (hτ 5 _ rfl)) rfl ht⟩,
        ⟨⟨rfl, rfl, fun _ τ hb ht hτ => R.mov (evt (hτ 6 _ rfl)) rfl ht⟩,
        ⟨⟨rfl, rfl, fun _ τ hb ht hτ => R.bin (evt (hτ 79 _ rfl)) (evt (hτ 80 _ rfl)) rfl trivial ht⟩,
        ⟨⟨rfl, rfl, fun _ τ hb ht hτ => R.bin (evt (hτ 78 _ rfl)) (evt (hτ 81 _ rfl)) rfl trivial ht⟩,
        ⟨⟨rfl, rfl, fun _ τ hb ht hτ => R.bin (evt (hτ 77 _ rfl)) (evt (hτ 82 _ rfl)) rfl trivial ht⟩,
        ⟨⟨rfl, rfl, fun _ τ hb ht hτ => R.bin (evt (hτ 74 _ rfl)) (evt (hτ 83 _ rfl)) rfl trivial ht⟩,
        ⟨⟨rfl, rfl, fun _ τ hb ht hτ => R.asg (evt (hτ 84 _ rfl)) rfl ht⟩,
        trivial⟩⟩⟩⟩⟩⟩⟩⟩⟩⟩⟩⟩⟩⟩⟩⟩⟩⟩⟩, rfl, rfl, rfl⟩)
      rfl (bx' := [(13, .var _), (4, .var _), (2, .var _)]) rfl (n' := 119) rfl (⟨[2, 4, 5, 6, 7, 8, 9, 10, 11, 13, 16, 17, 38, 39], [(2, _), (4, _), (5, _), (6, _), (7, _), (8, _), (9, _), (10, _), (11, _), (13, _), (16, _), (17, _), (38, _), (39, _)], [(13, .var _), (4, .var _), (2, .var _)], 119, rfl, rfl, rfl, ?_⟩)
    refine W.line (n := 20) (by decide) (its := [⟨85, _, true⟩, ⟨86, _, true⟩, ⟨87, _, true⟩, ⟨88, _, true⟩, ⟨89, _, true⟩, ⟨90, _, true⟩, ⟨91, _, true⟩, ⟨92, _, true⟩, ⟨93, _, true⟩, ⟨94, _, true⟩, ⟨95, _, true⟩, ⟨96, _, true⟩, ⟨12, _, true⟩, ⟨11, _, true⟩, ⟨10, _, true⟩, ⟨9, _, true⟩, ⟨8, _, true⟩, ⟨7, _, true⟩, ⟨6, _, true⟩, ⟨5, _, true⟩]) (ks := []) (kk := []) (live := [2, 4, 5, 6, 7, 8, 9, 10, 11, 12, 13, 38, 39]) (env' := [(2, _), (4, _), (5, _), (6, _), (7, _), (8, _), (9, _), (10, _), (11, _), (12, _), (13, _), (38, _), (39, _)])
      (⟨Nat.le_of_ble_eq_true rfl, rfl,
        ⟨⟨rfl, rfl, fun _ τ hb ht hτ => R.mov (evt (hτ 11 _ rfl)) rfl ht⟩,
        ⟨⟨rfl, rfl, fun _ τ hb ht hτ => R.mov (evt (hτ 10 _ rfl)) rfl ht⟩,
        ⟨⟨rfl, rfl, fun _ τ hb ht hτ => R.mov (evt (hτ 9 _ rfl)) rfl ht⟩,
        ⟨⟨rfl, rfl, fun _ τ hb ht hτ => R.mov (evt (hτ 8 _ rfl)) rfl ht⟩,
        ⟨⟨rfl, rfl, fun _ τ hb ht hτ => R.mov (evt (hτ 16 _ rfl)) rfl ht⟩,
        ⟨⟨rfl, rfl, fun _ τ hb ht hτ => R.bin (evt (hτ 88 _ rfl)) (evt (hτ 89 _ rfl)) rfl trivial ht⟩,
        ⟨⟨rfl, rfl, fun _ τ hb ht hτ => R.mov (evt (hτ 7 _ rfl)) rfl ht⟩,
        ⟨⟨rfl, rfl, fun _ τ hb ht hτ => R.mov (evt (hτ 6 _ rfl)) rfl ht⟩,
        ⟨⟨rfl, rfl, fun _ τ hb ht hτ => R.mov (evt (hτ 5 _ rfl)) rfl ht⟩,
        ⟨⟨rfl, rfl, fun _ τ hb ht hτ => R.mov (evt (hτ 16 _ rfl)) rfl ht⟩,
        ⟨⟨rfl, rfl, fun _ τ hb ht hτ => R.mov (evt (hτ 17 _ rfl)) rfl ht⟩,
        ⟨⟨rfl, rfl, fun _ τ hb ht hτ => R.bin (evt (hτ 94 _ rfl)) (evt (hτ 95 _ rfl)) rfl trivial ht⟩,
        ⟨⟨rfl, rfl, fun _ τ hb ht hτ => R.asg (evt (hτ 85 _ rfl)) rfl ht⟩,
        ⟨⟨rfl, rfl, fun _ τ hb ht hτ => R.asg (evt (hτ 86 _ rfl)) rfl ht⟩,
        ⟨⟨rfl, rfl, fun _ τ hb ht hτ => R.asg (evt (hτ 87 _ rfl)) rfl ht⟩,
        ⟨⟨rfl, rfl, fun _ τ hb ht hτ => R.asg (evt (hτ 90 _ rfl)) rfl ht⟩,
        ⟨⟨rfl, rfl, fun _ τ hb ht hτ => R.asg (evt (hτ 91 _ rfl)) rfl ht⟩,
        ⟨⟨rfl, rfl, fun _ τ hb ht hτ => R.asg (evt (hτ 92 _ rfl)) rfl ht⟩,
        ⟨⟨rfl, rfl, fun _ τ hb ht hτ => R.asg (evt (hτ 93 _ rfl)) rfl ht⟩,
        ⟨⟨rfl, rfl, fun _ τ hb ht hτ => R.asg (evt (hτ 96 _ rfl)) rfl ht⟩,
        trivial⟩⟩⟩⟩⟩⟩⟩⟩⟩⟩⟩⟩⟩⟩⟩⟩⟩⟩⟩⟩, rfl, rfl, rfl⟩)
      rfl (bx' := [(13, .var _), (4, .var _), (2, .var _)]) rfl (n' := 119) rfl (⟨[2, 4, 5, 6, 7, 8, 9, 10, 11, 12, 13, 38, 39], [(2, _), (4, _), (5, _), (6, _), (7, _), (8, _), (9, _), (10, _), (11, _), (12, _), (13, _), (38, _), (39, _)], [(13, .var _), (4, .var _), (2, .var _)], 119, rfl, rfl, rfl, ?_⟩)
    refine W.line (n := 2) (by decide) (its := [⟨97, _, true⟩, ⟨39, _, true⟩]) (ks := []) (kk := []) (live := [2, 4, 5, 6, 7, 8, 9, 10, 11, 12, 13, 38, 39]) (env' := [(2, _), (4, _), (5, _), (6, _), (7, _), (8, _), (9, _), (10, _), (11, _), (12, _), (13, _), (38, _), (39, _)])
      (⟨Nat.le_of_ble_eq_true rfl, rfl,
        ⟨⟨rfl, rfl, fun _ τ hb ht hτ => R.addN (t) (1) (evt (hτ 39 _ rfl)) (show ev _ _ (.const (.int .i64 1)) = some (.int ((1 : Nat) : Int)) from rfl) (by first | omega | (simp only [List.length_map, List.length_append, List.length_cons, List.length_nil, List.length_take, List.length_drop, List.length_replicate]; omega) | (simp; omega)) ht⟩,
        ⟨⟨rfl, rfl, fun _ τ hb ht hτ => R.mov (evt (hτ 97 _ rfl)) rfl ht⟩,
        trivial⟩⟩, rfl, rfl, rfl⟩)
      rfl (bx' := [(13, .var _), (4, .var _), (2, .var _)]) rfl (n' := 119) rfl (⟨[2, 4, 5, 6, 7, 8, 9, 10, 11, 12, 13, 38, 39], [(2, _), (4, _), (5, _), (6, _), (7, _), (8, _), (9, _), (10, _), (11, _), (12, _), (13, _), (38, _), (39, _)], [(13, .var _), (4, .var _), (2, .var _)], 119, rfl, rfl, rfl, ?_⟩)
    exact ⟨⟨(t + 1), (by first | omega | (simp only [List.length_map, List.length_append, List.length_cons, List.length_nil, List.length_take, List.length_drop, List.length_replicate]; omega) | (simp; omega))⟩, rfl, (by simp only []; omega)⟩
  · obtain rfl : t = 64 := by omega
    refine W.exit ?_
    refine W.seq ?_
    refine W.seq ?_
    refine W.line (n := 10) (by decide) (its := [⟨98, _, true⟩, ⟨99, _, true⟩, ⟨100, _, true⟩, ⟨101, _, true⟩, ⟨102, _, true⟩, ⟨103, _, true⟩, ⟨104, _, true⟩, ⟨105, _, true⟩, ⟨106, _, true⟩, ⟨107, _, true⟩]) (ks := []) (kk := []) (live := [2, 4, 106, 107]) (env' := [(2, _), (4, _), (106, _), (107, _)])
      (⟨Nat.le_of_ble_eq_true rfl, rfl,
        ⟨⟨rfl, rfl, fun _ τ hb ht hτ => R.mov (evt (hτ 5 _ rfl)) rfl ht⟩,
        ⟨⟨rfl, rfl, fun _ τ hb ht hτ => R.mov (evt (hτ 6 _ rfl)) rfl ht⟩,
        ⟨⟨rfl, rfl, fun _ τ hb ht hτ => R.mov (evt (hτ 7 _ rfl)) rfl ht⟩,
        ⟨⟨rfl, rfl, fun _ τ hb ht hτ => R.mov (evt (hτ 8 _ rfl)) rfl ht⟩,
        ⟨⟨rfl, rfl, fun _ τ hb ht hτ => R.mov (evt (hτ 9 _ rfl)) rfl ht⟩,
        ⟨⟨rfl, rfl, fun _ τ hb ht hτ => R.mov (evt (hτ 10 _ rfl)) rfl ht⟩,
        ⟨⟨rfl, rfl, fun _ τ hb ht hτ => R.mov (evt (hτ 11 _ rfl)) rfl ht⟩,
        ⟨⟨rfl, rfl, fun _ τ hb ht hτ => R.mov (evt (hτ 12 _ rfl)) rfl ht⟩,
        ⟨⟨rfl, rfl, fun _ τ hb ht hτ => R.bldAE (z := 1) (.cons (evt (hτ 98 _ rfl)) (.cons (evt (hτ 99 _ rfl)) (.cons (evt (hτ 100 _ rfl)) (.cons (evt (hτ 101 _ rfl)) (.cons (evt (hτ 102 _ rfl)) (.cons (evt (hτ 103 _ rfl)) (.cons (evt (hτ 104 _ rfl)) (.cons (evt (hτ 105 _ rfl)) .nil)))))))) ⟨⟨rfl, rfl, rfl⟩, ⟨⟨rfl, rfl, rfl⟩, ⟨⟨rfl, rfl, rfl⟩, ⟨⟨rfl, rfl, rfl⟩, ⟨⟨rfl, rfl, rfl⟩, ⟨⟨rfl, rfl, rfl⟩, ⟨⟨rfl, rfl, rfl⟩, ⟨⟨rfl, rfl, rfl⟩, trivial⟩⟩⟩⟩⟩⟩⟩⟩ rfl ht⟩,
        ⟨⟨rfl, rfl, fun _ τ hb ht hτ => R.mov (show ev _ _ (.const (.int .i64 0)) = some (.int ((0 : Nat) : Int)) from rfl) rfl ht⟩,
        trivial⟩⟩⟩⟩⟩⟩⟩⟩⟩⟩, rfl, rfl, rfl⟩)
      rfl (bx' := [(13, .var _), (4, .var _), (2, .var _)]) rfl (n' := 119) rfl (⟨[2, 4, 106, 107], [(2, _), (4, _), (106, _), (107, _)], [(13, .var _), (4, .var _), (2, .var _)], 119, rfl, rfl, rfl, ?_⟩)
    refine W.block ?_
    refine W.loop (α := {q__ : Nat // q__ ≤ 8}) (fun q__ => ⟨119, [(2, .ptr 2 0 []), (4, .ptr 4 0 []), (106, .arr 8 1 ((rds h (sched p 64) 64).list.map D.u32)), (107, .int ((q__.1 : Nat) : Int))], [(13, .var (.arr 64 1 ((sched p 64).map D.u32))), (4, .var (.arr 8 1 ((List.replicate 8 0).map D.u32))), (2, .var (.arr 8 1 ((addH h (rds h (sched p 64) 64).list q__.1).map D.u32)))]⟩) (fun q__ => 8 - q__.1) ⟨(0), (by first | omega | (simp only [List.length_map, List.length_append, List.length_cons, List.length_nil, List.length_take, List.length_drop, List.length_replicate]; omega) | (simp; omega))⟩ rfl ?_
    rintro ⟨i, hil⟩
    show W _ _ _ _ ⟨119, [(2, .ptr 2 0 []), (4, .ptr 4 0 []), (106, .arr 8 1 ((rds h (sched p 64) 64).list.map D.u32)), (107, .int ((i : Nat) : Int))], [(13, .var (.arr 64 1 ((sched p 64).map D.u32))), (4, .var (.arr 8 1 ((List.replicate 8 0).map D.u32))), (2, .var (.arr 8 1 ((addH h (rds h (sched p 64) 64).list i).map D.u32)))]⟩
    have hll : (rds h (sched p 64) 64).list.length = 8 := rfl
    have hal := addH_len h (rds h (sched p 64) 64).list i
    refine W.seq ?_
    refine W.line (n := 1) (by decide) (its := [⟨108, _, true⟩]) (ks := []) (kk := []) (live := [2, 4, 106, 107, 108]) (env' := [(2, _), (4, _), (106, _), (107, _), (108, _)])
      (⟨Nat.le_of_ble_eq_true rfl, rfl,
        ⟨⟨rfl, rfl, fun _ τ hb ht hτ => R.lssN (i) (8) (evt (hτ 107 _ rfl)) (show ev _ _ (.const (.int .i64 8)) = some (.int ((8 : Nat) : Int)) from rfl) ht⟩,
        trivial⟩, rfl, rfl, rfl⟩)
      rfl (bx' := [(13, .var _), (4, .var _), (2, .var _)]) rfl (n' := 119) rfl (⟨[2, 4, 106, 107, 108], [(2, _), (4, _), (106, _), (107, _), (108, _)], [(13, .var _), (4, .var _), (2, .var _)], 119, rfl, rfl, rfl, ?_⟩)
    refine W.seq ?_
    refine W.condD rfl (fun hc108 => ?_) (fun hc108 => ?_)
    · refine W.skip ?_
      refine W.seq ?_
      refine W.block ?_
      refine W.seq ?_
      refine W.line (n := 4) (by decide) (its := [⟨109, _, true⟩, ⟨110, _, true⟩, ⟨18, _, true⟩, ⟨19, _, true⟩]) (ks := []) (kk := []) (live := [2, 4, 18, 19, 106, 107]) (env' := [(2, _), (4, _), (18, _), (19, _), (106, _), (107, _)])
        (⟨Nat.le_of_ble_eq_true rfl, rfl,
          ⟨⟨rfl, rfl, fun _ τ hb ht hτ => R.mov (evt (hτ 107 _ rfl)) rfl ht⟩,
          ⟨⟨rfl, rfl, fun _ τ hb ht hτ => R.ixA (i) (evt (hτ 106 _ rfl)) (evoI (evt (hτ 107 _ rfl))) rfl (map_get! (l := (rds h (sched p 64) 64).list) (by first | omega | (simp only [List.length_map, List.length_append, List.length_cons, List.length_nil, List.length_take, List.length_drop, List.length_replicate]; omega) | (simp; omega))) rfl rfl rfl ht⟩,
          ⟨⟨rfl, rfl, fun _ τ hb ht hτ => R.asg (evt (hτ 109 _ rfl)) rfl ht⟩,
          ⟨⟨rfl, rfl, fun _ τ hb ht hτ => R.asg (evt (hτ 110 _ rfl)) rfl ht⟩,
          trivial⟩⟩⟩⟩, rfl, rfl, rfl⟩)
        rfl (bx' := [(13, .var _), (4, .var _), (2, .var _)]) rfl (n' := 119) rfl (⟨[2, 4, 18, 19, 106, 107], [(2, _), (4, _), (18, _), (19, _), (106, _), (107, _)], [(13, .var _), (4, .var _), (2, .var _)], 119, rfl, rfl, rfl, ?_⟩)
      refine W.line (n := 7) (by decide) (its := [⟨111, _, true⟩, ⟨112, _, true⟩, ⟨113, _, true⟩, ⟨114, _, true⟩, ⟨115, _, true⟩, ⟨116, _, true⟩]) (ks := []) (kk := []) (live := [2, 4, 106, 107, 115, 116]) (env' := [(2, _), (4, _), (106, _), (107, _), (115, _), (116, _)])
        (⟨Nat.le_of_ble_eq_true rfl, rfl,
          ⟨⟨rfl, rfl, fun _ τ hb ht hτ => R.mov (evt (hτ 18 _ rfl)) rfl ht⟩,
          ⟨⟨rfl, rfl, fun _ τ hb ht hτ => R.idxP (i) (hτ 2 _ rfl) (evoI (evt (hτ 111 _ rfl))) rfl (by first | omega | (simp only [List.length_map, List.length_append, List.length_cons, List.length_nil, List.length_take, List.length_drop, List.length_replicate]; omega) | (simp; omega)) ht⟩,
          ⟨⟨rfl, rfl, fun _ τ hb ht hτ => R.ldP (hτ 112 _ rfl) (hb 2 _ rfl) (loc_arr (map_get! (l := (addH h (rds h (sched p 64) 64).list i)) (by first | omega | (simp only [List.length_map, List.length_append, List.length_cons, List.length_nil, List.length_take, List.length_drop, List.length_replicate]; omega) | (simp; omega))) loc_nil (by first | omega | (simp only [List.length_map, List.length_append, List.length_cons, List.length_nil, List.length_take, List.length_drop, List.length_replicate]; omega) | (simp; omega))) rfl rfl rfl ht⟩,
          ⟨⟨rfl, rfl, fun _ τ hb ht hτ => R.mov (evt (hτ 19 _ rfl)) rfl ht⟩,
          ⟨⟨rfl, rfl, fun _ τ hb ht hτ => R.bin (evt (hτ 113 _ rfl)) (evt (hτ 114 _ rfl)) rfl trivial ht⟩,
          ⟨⟨rfl, rfl, fun _ τ hb ht hτ => R.idxP (i) (hτ 2 _ rfl) (evoI (evt (hτ 111 _ rfl))) rfl (by first | omega | (simp only [List.length_map, List.length_append, List.length_cons, List.length_nil, List.length_take, List.length_drop, List.length_replicate]; omega) | (simp; omega)) ht⟩,
          trivial⟩⟩⟩⟩⟩⟩, rfl, rfl, rfl⟩)
        rfl (bx' := [(13, .var _), (4, .var _), (2, .var _)]) rfl (n' := 119) rfl (⟨rfl, _, R.stZ (show Sg.get _ 116 = some _ from rfl) (show Sg.box _ 2 = some _ from rfl) (loc_arr (map_get! (l := (addH h (rds h (sched p 64) 64).list i)) (by first | omega | (simp only [List.length_map, List.length_append, List.length_cons, List.length_nil, List.length_take, List.length_drop, List.length_replicate]; omega) | (simp; omega))) loc_nil (by first | omega | (simp only [List.length_map, List.length_append, List.length_cons, List.length_nil, List.length_take, List.length_drop, List.length_replicate]; omega) | (simp; omega))) (evt (show Sg.get _ 115 = some _ from rfl)) (by rfl) (by rfl) (by rfl) (by rfl) (upd_arr (map_get! (l := (addH h (rds h (sched p 64) 64).list i)) (by first | omega | (simp only [List.length_map, List.length_append, List.length_cons, List.length_nil, List.length_take, List.length_drop, List.length_replicate]; omega) | (simp; omega))) upd_nil set_map), ⟨[2, 4, 106, 107], [(2, _), (4, _), (106, _), (107, _)], [(13, .var _), (4, .var _), (2, .var _)], 119, rfl, rfl, rfl, ?_⟩⟩)
      refine W.line (n := 2) (by decide) (its := [⟨117, _, true⟩, ⟨107, _, true⟩]) (ks := []) (kk := []) (live := [2, 4, 106, 107]) (env' := [(2, _), (4, _), (106, _), (107, _)])
        (⟨Nat.le_of_ble_eq_true rfl, rfl,
          ⟨⟨rfl, rfl, fun _ τ hb ht hτ => R.addN (i) (1) (evt (hτ 107 _ rfl)) (show ev _ _ (.const (.int .i64 1)) = some (.int ((1 : Nat) : Int)) from rfl) (by first | omega | (simp only [List.length_map, List.length_append, List.length_cons, List.length_nil, List.length_take, List.length_drop, List.length_replicate]; omega) | (simp; omega)) ht⟩,
          ⟨⟨rfl, rfl, fun _ τ hb ht hτ => R.mov (evt (hτ 117 _ rfl)) rfl ht⟩,
          trivial⟩⟩, rfl, rfl, rfl⟩)
        rfl (bx' := [(13, .var _), (4, .var _), (2, .var _)]) rfl (n' := 119) rfl (⟨[2, 4, 106, 107], [(2, _), (4, _), (106, _), (107, _)], [(13, .var _), (4, .var _), (2, .var _)], 119, rfl, rfl, rfl, ?_⟩)
      exact ⟨⟨(i + 1), (by first | omega | (simp only [List.length_map, List.length_append, List.length_cons, List.length_nil, List.length_take, List.length_drop, List.length_replicate]; omega) | (simp; omega))⟩, rfl, (by simp only []; omega)⟩
    · obtain rfl : i = 8 := by omega
      refine W.exit ?_
      refine W.seq ?_
      refine W.line (n := 2) (by decide) (its := [⟨118, _, true⟩]) (ks := []) (kk := []) (live := [4, 118]) (env' := [(4, _), (118, _)])
        (⟨Nat.le_of_ble_eq_true rfl, rfl,
          ⟨⟨rfl, rfl, fun _ τ hb ht hτ => R.ldP (hτ 2 _ rfl) (hb 2 _ rfl) rfl rfl rfl rfl ht⟩,
          trivial⟩, rfl, rfl, rfl⟩)
        rfl (bx' := [(13, .var _), (4, .var _), (2, .var _)]) rfl (n' := 119) rfl (⟨rfl, _, R.stZ (show Sg.get _ 4 = some _ from rfl) (show Sg.box _ 4 = some _ from rfl) rfl (evt (show Sg.get _ 118 = some _ from rfl)) (by rfl) (by rfl) (by rfl) (by rfl) rfl, ⟨[4], [(4, _)], [(13, .var _), (4, .var _), (2, .var _)], 119, rfl, rfl, rfl, ?_⟩⟩)
      refine W.ret ?_
      exact Ends.one' (.inr rfl) rfl (rfl) rfl rfl (show LdT _ 70 8 true from inferInstance)

theorem add_ok (s : ShaS) (b : List UInt8) (hs : s.ok) (hb0 : b.length ≤ 1073741824) : Fn Tryd.prog gl 36 [stD s, .sl none 1 (b.map D.u8)] (stD (addS s b)) := by
  refine Fn.of (n := 39) Tryd.func36 rfl rfl rfl (Nat.le_of_ble_eq_true rfl) fun C hC hD => ?_
  refine W.seq ?_
  refine W.line (n := 2) (by decide) (its := []) (ks := []) (kk := []) (live := [0, 1]) (env' := [(0, _), (1, _)])
    (⟨Nat.le_of_ble_eq_true rfl, rfl,
      trivial, rfl, rfl, rfl⟩)
    rfl (bx' := []) rfl (n' := 39) rfl (⟨rfl, _, R.box (evt (show Sg.get _ 0 = some _ from rfl)) rfl rfl (Nat.le_of_ble_eq_true rfl), ⟨rfl, _, R.alloc rfl (Nat.le_of_ble_eq_true rfl), ⟨[1, 2, 4], [(1, _), (2, _), (4, _)], [(4, .var _), (2, .var _)], 39, rfl, rfl, rfl, ?_⟩⟩⟩)
  refine W.seqM (fun s__ => ∃ q__ : {q__ : Unit // True}, s__ = ⟨39, [(1, .sl none 1 (b.map D.u8)), (2, .ptr 2 0 []), (4, .ptr 4 0 [])], [(4, .var (stD ShaS.zero)), (2, .var (stD (bif s.begun then s else ShaS.start)))]⟩) ?_ ?_
  · refine W.seq ?_
    refine W.line (n := 3) (by decide) (its := [⟨6, _, true⟩, ⟨7, _, true⟩, ⟨8, _, true⟩]) (ks := []) (kk := []) (live := [1, 2, 4, 8]) (env' := [(1, _), (2, _), (4, _), (8, _)])
      (⟨Nat.le_of_ble_eq_true rfl, rfl,
        ⟨⟨rfl, rfl, fun _ τ hb ht hτ => R.fdP (hτ 2 _ rfl) ht⟩,
        ⟨⟨rfl, rfl, fun _ τ hb ht hτ => R.ldP (hτ 6 _ rfl) (hb 2 _ rfl) rfl rfl rfl rfl ht⟩,
        ⟨⟨rfl, rfl, fun _ τ hb ht hτ => R.un (evt (hτ 7 _ rfl)) rfl ht⟩,
        trivial⟩⟩⟩, rfl, rfl, rfl⟩)
      rfl (bx' := [(4, .var _), (2, .var _)]) rfl (n' := 39) rfl (⟨[1, 2, 4, 8], [(1, _), (2, _), (4, _), (8, _)], [(4, .var _), (2, .var _)], 39, rfl, rfl, rfl, ?_⟩)
    refine W.cond rfl (fun hc8 => ?_) (fun hc8 => ?_)
    · refine W.line (n := 2) (by decide) (its := [⟨9, _, true⟩]) (ks := []) (kk := []) (live := [1, 2, 4, 9]) (env' := [(1, _), (2, _), (4, _), (9, _)])
        (⟨Nat.le_of_ble_eq_true rfl, rfl,
          ⟨⟨rfl, rfl, fun _ τ hb ht hτ => R.callG hC (begin_ok) Bors.nil (FrsR.one (frs_st _)) ht⟩,
          trivial⟩, rfl, rfl, rfl⟩)
        rfl (bx' := [(4, .var _), (2, .var _)]) rfl (n' := 39) rfl (⟨rfl, _, R.stZ (show Sg.get _ 2 = some _ from rfl) (show Sg.box _ 2 = some _ from rfl) rfl (evt (show Sg.get _ 9 = some _ from rfl)) (by rfl) (by rfl) (by rfl) (by rfl) rfl, ⟨[1, 2, 4], [(1, _), (2, _), (4, _)], [(4, .var _), (2, .var _)], 39, rfl, rfl, rfl, ?_⟩⟩)
      exact ⟨⟨(()), trivial⟩, (by have h0 : s.begun = false := (by simpa using hc8); rw [h0]; rfl)⟩
    · refine W.dropS (live := [1, 2, 4]) (env' := [(1, _), (2, _), (4, _)]) (bx' := [(4, .var _), (2, .var _)]) (n' := 39) rfl rfl rfl ?_
      refine W.skip ?_
      exact ⟨⟨(()), trivial⟩, (by have h0 : s.begun = true := (by simpa using hc8); rw [h0]; rfl)⟩
  · rintro s__ ⟨⟨_, _⟩, rfl⟩
    have hs0 : (bif s.begun then s else ShaS.start).ok := by cases s.begun <;> first | exact hs | exact ShaS.start_ok
    refine W.seq ?_
    refine W.block ?_
    refine W.loop (α := {q__ : ShaS × List UInt8 // q__.1.ok ∧ q__.2.length ≤ b.length ∧ addW q__.1 q__.2 = addS s b}) (fun q__ => ⟨39, [(1, .sl none 1 (q__.1.2.map D.u8)), (2, .ptr 2 0 []), (4, .ptr 4 0 [])], [(4, .var (stD ShaS.zero)), (2, .var (stD q__.1.1))]⟩) (fun q__ => q__.1.2.length) ⟨((bif s.begun then s else ShaS.start), b), ⟨hs0, Nat.le_refl _, rfl⟩⟩ rfl ?_
    rintro ⟨⟨u, c⟩, ⟨hu, hcb, heq⟩⟩
    show W _ _ _ _ ⟨39, [(1, .sl none 1 (c.map D.u8)), (2, .ptr 2 0 []), (4, .ptr 4 0 [])], [(4, .var (stD ShaS.zero)), (2, .var (stD u))]⟩
    have hcb : c.length ≤ b.length := hcb
    have hm := mS_lt u
    have hkl := kS_le u c
    have hkr := kS_room u c
    have hpl := pieceS_len u c hu
    have hpp := hu.p
    refine W.seq ?_
    refine W.seq ?_
    refine W.line (n := 3) (by decide) (its := [⟨10, _, true⟩, ⟨11, _, true⟩, ⟨12, _, true⟩]) (ks := []) (kk := []) (live := [1, 2, 4, 12]) (env' := [(1, _), (2, _), (4, _), (12, _)])
      (⟨Nat.le_of_ble_eq_true rfl, rfl,
        ⟨⟨rfl, rfl, fun _ τ hb ht hτ => R.mov (evt (hτ 1 _ rfl)) rfl ht⟩,
        ⟨⟨rfl, rfl, fun _ τ hb ht hτ => R.lenE (SC.sl (hτ 10 _ rfl)) (List.length_map _) ht⟩,
        ⟨⟨rfl, rfl, fun _ τ hb ht hτ => R.gtrN (c.length) (0) (evt (hτ 11 _ rfl)) (show ev _ _ (.const (.int .i64 0)) = some (.int ((0 : Nat) : Int)) from rfl) ht⟩,
        trivial⟩⟩⟩, rfl, rfl, rfl⟩)
      rfl (bx' := [(4, .var _), (2, .var _)]) rfl (n' := 39) rfl (⟨[1, 2, 4, 12], [(1, _), (2, _), (4, _), (12, _)], [(4, .var _), (2, .var _)], 39, rfl, rfl, rfl, ?_⟩)
    refine W.condD rfl (fun hc12 => ?_) (fun hc12 => ?_)
    · refine W.skip ?_
      refine W.block ?_
      refine W.seq ?_
      refine W.line (n := 8) (by decide) (its := [⟨13, _, true⟩, ⟨14, _, true⟩, ⟨15, _, true⟩, ⟨16, _, true⟩, ⟨17, _, true⟩, ⟨18, _, true⟩]) (ks := []) (kk := []) (live := [1, 2, 4, 17, 18]) (env' := [(1, _), (2, _), (4, _), (17, _), (18, _)])
        (⟨Nat.le_of_ble_eq_true rfl, rfl,
          ⟨⟨rfl, rfl, fun _ τ hb ht hτ => R.fdP (hτ 2 _ rfl) ht⟩,
          ⟨⟨rfl, rfl, fun _ τ hb ht hτ => R.fdP (hτ 2 _ rfl) ht⟩,
          ⟨⟨rfl, rfl, fun _ τ hb ht hτ => R.ldP (hτ 14 _ rfl) (hb 2 _ rfl) rfl rfl rfl rfl ht⟩,
          ⟨⟨rfl, rfl, fun _ τ hb ht hτ => R.bin (evt (hτ 15 _ rfl)) (show ev _ _ (.const (.int .u64 64)) = some (.u64 64) from rfl) rfl (by decide) ht⟩,
          ⟨⟨rfl, rfl, fun _ τ hb ht hτ => R.slAN (mS u) (64) (64 - mS u) (hτ 13 _ rfl) (hb 2 _ rfl) rfl (evo64 (evt (hτ 16 _ rfl))) rfl rfl rfl (by omega) (by first | omega | (simp only [List.length_map, List.length_append, List.length_cons, List.length_nil, List.length_take, List.length_drop, List.length_replicate]; omega) | (simp; omega)) (by first | omega | (simp only [List.length_map, List.length_append, List.length_cons, List.length_nil, List.length_take, List.length_drop, List.length_replicate]; omega) | (simp; omega)) ht⟩,
          ⟨⟨rfl, rfl, fun _ τ hb ht hτ => R.mov (evt (hτ 1 _ rfl)) rfl ht⟩,
          trivial⟩⟩⟩⟩⟩⟩, rfl, rfl, rfl⟩)
        rfl (bx' := [(4, .var _), (2, .var _)]) rfl (n' := 39) rfl (⟨rfl, _, R.cpAE (k := kS u c) (l2 := ((pieceS u c).map D.u8)) (show Sg.get _ 17 = some _ from rfl) (show Sg.box _ 2 = some _ from rfl) rfl (by omega) (SrcO.sc (SC.sl (show Sg.get _ 18 = some _ from rfl)) (pur_map (fun _ => rfl))) (np_map (fun _ => rfl)) (Nat.le_of_ble_eq_true rfl) (by simp only [List.length_map]; rfl) (by simp only [pieceS, List.map_append, List.map_take, List.map_drop]) rfl, ⟨rfl, _, R.asg (evt (show Sg.get _ 19 = some _ from rfl)) rfl (Nat.le_of_ble_eq_true rfl), ⟨[1, 2, 4, 5], [(1, _), (2, _), (4, _), (5, _)], [(4, .var _), (2, .var _)], 39, rfl, rfl, rfl, ?_⟩⟩⟩)
      refine W.seq ?_
      refine W.line (n := 4) (by decide) (its := [⟨20, _, true⟩, ⟨21, _, true⟩, ⟨22, _, true⟩, ⟨1, _, true⟩]) (ks := []) (kk := []) (live := [1, 2, 4, 5]) (env' := [(1, _), (2, _), (4, _), (5, _)])
        (⟨Nat.le_of_ble_eq_true rfl, rfl,
          ⟨⟨rfl, rfl, fun _ τ hb ht hτ => R.mov (evt (hτ 1 _ rfl)) rfl ht⟩,
          ⟨⟨rfl, rfl, fun _ τ hb ht hτ => R.mov (evt (hτ 5 _ rfl)) rfl ht⟩,
          ⟨⟨rfl, rfl, fun _ τ hb ht hτ => R.slIN (kS u c) (c.length) ((c.length - kS u c)) (evt (hτ 20 _ rfl)) (evoI (evt (hτ 21 _ rfl))) rfl rfl (by simp) (by omega) (by first | omega | simp) rfl (rest_map) ht⟩,
          ⟨⟨rfl, rfl, fun _ τ hb ht hτ => R.asg (evt (hτ 22 _ rfl)) rfl ht⟩,
          trivial⟩⟩⟩⟩, rfl, rfl, rfl⟩)
        rfl (bx' := [(4, .var _), (2, .var _)]) rfl (n' := 39) rfl (⟨[1, 2, 4, 5], [(1, _), (2, _), (4, _), (5, _)], [(4, .var _), (2, .var _)], 39, rfl, rfl, rfl, ?_⟩)
      refine W.seq ?_
      refine W.line (n := 7) (by decide) (its := [⟨23, _, true⟩, ⟨24, _, true⟩, ⟨25, _, true⟩, ⟨26, _, true⟩, ⟨27, _, true⟩, ⟨28, _, true⟩]) (ks := []) (kk := []) (live := [1, 2, 4, 27, 28]) (env' := [(1, _), (2, _), (4, _), (27, _), (28, _)])
        (⟨Nat.le_of_ble_eq_true rfl, rfl,
          ⟨⟨rfl, rfl, fun _ τ hb ht hτ => R.fdP (hτ 2 _ rfl) ht⟩,
          ⟨⟨rfl, rfl, fun _ τ hb ht hτ => R.ldP (hτ 23 _ rfl) (hb 2 _ rfl) rfl rfl rfl rfl ht⟩,
          ⟨⟨rfl, rfl, fun _ τ hb ht hτ => R.mov (evt (hτ 5 _ rfl)) rfl ht⟩,
          ⟨⟨rfl, rfl, fun _ τ hb ht hτ => R.conv (evt (hτ 25 _ rfl)) rfl ht⟩,
          ⟨⟨rfl, rfl, fun _ τ hb ht hτ => R.bin (evt (hτ 24 _ rfl)) (evt (hτ 26 _ rfl)) rfl trivial ht⟩,
          ⟨⟨rfl, rfl, fun _ τ hb ht hτ => R.fdP (hτ 2 _ rfl) ht⟩,
          trivial⟩⟩⟩⟩⟩⟩, rfl, rfl, rfl⟩)
        rfl (bx' := [(4, .var _), (2, .var _)]) rfl (n' := 39) rfl (⟨rfl, _, R.stZ (show Sg.get _ 28 = some _ from rfl) (show Sg.box _ 2 = some _ from rfl) rfl (evt (show Sg.get _ 27 = some _ from rfl)) (by rfl) (by rfl) (by rfl) (by rfl) rfl, ⟨[1, 2, 4], [(1, _), (2, _), (4, _)], [(4, .var _), (2, .var _)], 39, rfl, rfl, rfl, ?_⟩⟩)
      refine W.seq ?_
      refine W.line (n := 4) (by decide) (its := [⟨29, _, true⟩, ⟨30, _, true⟩, ⟨31, _, true⟩, ⟨32, _, true⟩]) (ks := []) (kk := []) (live := [1, 2, 4, 32]) (env' := [(1, _), (2, _), (4, _), (32, _)])
        (⟨Nat.le_of_ble_eq_true rfl, rfl,
          ⟨⟨rfl, rfl, fun _ τ hb ht hτ => R.fdP (hτ 2 _ rfl) ht⟩,
          ⟨⟨rfl, rfl, fun _ τ hb ht hτ => R.ldP (hτ 29 _ rfl) (hb 2 _ rfl) rfl rfl rfl rfl ht⟩,
          ⟨⟨rfl, rfl, fun _ τ hb ht hτ => R.bin (evt (hτ 30 _ rfl)) (show ev _ _ (.const (.int .u64 64)) = some (.u64 64) from rfl) rfl (by decide) ht⟩,
          ⟨⟨rfl, rfl, fun _ τ hb ht hτ => R.bin (evt (hτ 31 _ rfl)) (show ev _ _ (.const (.int .u64 0)) = some (.u64 0) from rfl) rfl trivial ht⟩,
          trivial⟩⟩⟩⟩, rfl, rfl, rfl⟩)
        rfl (bx' := [(4, .var _), (2, .var _)]) rfl (n' := 39) rfl (⟨[1, 2, 4, 32], [(1, _), (2, _), (4, _), (32, _)], [(4, .var _), (2, .var _)], 39, rfl, rfl, rfl, ?_⟩)
      refine W.cond rfl (fun hc32 => ?_) (fun hc32 => ?_)
      · refine W.line (n := 6) (by decide) (its := [⟨33, _, true⟩, ⟨34, _, true⟩, ⟨35, _, true⟩, ⟨36, _, true⟩, ⟨37, _, true⟩]) (ks := []) (kk := []) (live := [1, 2, 4, 36, 37]) (env' := [(1, _), (2, _), (4, _), (36, _), (37, _)])
          (⟨Nat.le_of_ble_eq_true rfl, rfl,
            ⟨⟨rfl, rfl, fun _ τ hb ht hτ => R.fdP (hτ 2 _ rfl) ht⟩,
            ⟨⟨rfl, rfl, fun _ τ hb ht hτ => R.ldP (hτ 33 _ rfl) (hb 2 _ rfl) rfl rfl rfl rfl ht⟩,
            ⟨⟨rfl, rfl, fun _ τ hb ht hτ => R.fdP (hτ 2 _ rfl) ht⟩,
            ⟨⟨rfl, rfl, fun _ τ hb ht hτ => R.callG hC (with_ok _ _ hu.h hpl) (Bors.cons (Bor.pur (evt (hτ 34 _ rfl)) rfl rfl) (Bors.cons (Bor.ptr (hτ 35 _ rfl) (hb 2 _ rfl) rfl (brw_arr (fun _ => rfl)) rfl) Bors.nil)) (FrsR.one (.arr _ _ _ (frs_map fun _ => .u32 _))) ht⟩,
            ⟨⟨rfl, rfl, fun _ τ hb ht hτ => R.fdP (hτ 2 _ rfl) ht⟩,
            trivial⟩⟩⟩⟩⟩, rfl, rfl, rfl⟩)
          rfl (bx' := [(4, .var _), (2, .var _)]) rfl (n' := 39) rfl (⟨rfl, _, R.stZ (show Sg.get _ 37 = some _ from rfl) (show Sg.box _ 2 = some _ from rfl) rfl (evt (show Sg.get _ 36 = some _ from rfl)) (by rfl) (by rfl) (by rfl) (by rfl) rfl, ⟨[1, 2, 4], [(1, _), (2, _), (4, _)], [(4, .var _), (2, .var _)], 39, rfl, rfl, rfl, ?_⟩⟩)
        exact ⟨⟨(stepS u c, c.drop (kS u c)), ⟨stepS_ok u c hu, by simp only [List.length_drop]; omega, by rw [← addW_step u c (by omega)]; exact heq⟩⟩, (by simp only [stepS]; first | (rw [show (nS u c % 64 == 0) = true from hc32]; rfl) | (rw [show (nS u c % 64 == 0) = false from hc32]; rfl)), (by have := kS_pos u c (by omega); show (c.drop (kS u c)).length < c.length; simp only [List.length_drop]; omega)⟩
      · refine W.dropS (live := [1, 2, 4]) (env' := [(1, _), (2, _), (4, _)]) (bx' := [(4, .var _), (2, .var _)]) (n' := 39) rfl rfl rfl ?_
        refine W.skip ?_
        exact ⟨⟨(stepS u c, c.drop (kS u c)), ⟨stepS_ok u c hu, by simp only [List.length_drop]; omega, by rw [← addW_step u c (by omega)]; exact heq⟩⟩, (by simp only [stepS]; first | (rw [show (nS u c % 64 == 0) = true from hc32]; rfl) | (rw [show (nS u c % 64 == 0) = false from hc32]; rfl)), (by have := kS_pos u c (by omega); show (c.drop (kS u c)).length < c.length; simp only [List.length_drop]; omega)⟩
    · have hw := addW_nil u c (by omega)
      rw [hw] at heq
      refine W.exit ?_
      refine W.seq ?_
      refine W.line (n := 2) (by decide) (its := [⟨38, _, true⟩]) (ks := []) (kk := []) (live := [4, 38]) (env' := [(4, _), (38, _)])
        (⟨Nat.le_of_ble_eq_true rfl, rfl,
          ⟨⟨rfl, rfl, fun _ τ hb ht hτ => R.ldP (hτ 2 _ rfl) (hb 2 _ rfl) rfl rfl rfl rfl ht⟩,
          trivial⟩, rfl, rfl, rfl⟩)
        rfl (bx' := [(4, .var _), (2, .var _)]) rfl (n' := 39) rfl (⟨rfl, _, R.stZ (show Sg.get _ 4 = some _ from rfl) (show Sg.box _ 4 = some _ from rfl) rfl (evt (show Sg.get _ 38 = some _ from rfl)) (by rfl) (by rfl) (by rfl) (by rfl) rfl, ⟨[4], [(4, _)], [(4, .var _), (2, .var _)], 39, rfl, rfl, rfl, ?_⟩⟩)
      refine W.ret ?_
      exact Ends.one' (.inr rfl) rfl (congrArg stD heq) rfl rfl (show LdT _ 74 74 true from inferInstance)

theorem end_ok (s : ShaS) (hs : s.ok) : Fn Tryd.prog gl 37 [stD s] (hashD (endS s)) := by
  refine Fn.of (n := 54) Tryd.func37 rfl rfl rfl (Nat.le_of_ble_eq_true rfl) fun C hC hD => ?_
  refine W.seq ?_
  refine W.line (n := 2) (by decide) (its := []) (ks := []) (kk := []) (live := [0]) (env' := [(0, _)])
    (⟨Nat.le_of_ble_eq_true rfl, rfl,
      trivial, rfl, rfl, rfl⟩)
    rfl (bx' := []) rfl (n' := 54) rfl (⟨rfl, _, R.box (evt (show Sg.get _ 0 = some _ from rfl)) rfl rfl (Nat.le_of_ble_eq_true rfl), ⟨rfl, _, R.alloc rfl (Nat.le_of_ble_eq_true rfl), ⟨[1, 2], [(1, _), (2, _)], [(2, .var _), (1, .var _)], 54, rfl, rfl, rfl, ?_⟩⟩⟩)
  refine W.seq ?_
  refine W.line (n := 4) (by decide) (its := [⟨8, _, true⟩, ⟨9, _, true⟩, ⟨10, _, true⟩, ⟨3, _, true⟩]) (ks := []) (kk := []) (live := [1, 2, 3]) (env' := [(1, _), (2, _), (3, _)])
    (⟨Nat.le_of_ble_eq_true rfl, rfl,
      ⟨⟨rfl, rfl, fun _ τ hb ht hτ => R.fdP (hτ 1 _ rfl) ht⟩,
      ⟨⟨rfl, rfl, fun _ τ hb ht hτ => R.ldP (hτ 8 _ rfl) (hb 1 _ rfl) rfl rfl rfl rfl ht⟩,
      ⟨⟨rfl, rfl, fun _ τ hb ht hτ => R.bin (evt (hτ 9 _ rfl)) (show ev _ _ (.const (.int .u64 8)) = some (.u64 8) from rfl) rfl trivial ht⟩,
      ⟨⟨rfl, rfl, fun _ τ hb ht hτ => R.asg (evt (hτ 10 _ rfl)) rfl ht⟩,
      trivial⟩⟩⟩⟩, rfl, rfl, rfl⟩)
    rfl (bx' := [(2, .var _), (1, .var _)]) rfl (n' := 54) rfl (⟨[1, 2, 3], [(1, _), (2, _), (3, _)], [(2, .var _), (1, .var _)], 54, rfl, rfl, rfl, ?_⟩)
  refine W.seq ?_
  refine W.line (n := 4) (by decide) (its := [⟨11, _, true⟩, ⟨12, _, true⟩, ⟨13, _, true⟩]) (ks := []) (kk := []) (live := [1, 2, 3, 13]) (env' := [(1, _), (2, _), (3, _), (13, _)])
    (⟨Nat.le_of_ble_eq_true rfl, rfl,
      ⟨⟨rfl, rfl, fun _ τ hb ht hτ => R.ldP (hτ 1 _ rfl) (hb 1 _ rfl) rfl rfl rfl rfl ht⟩,
      ⟨⟨rfl, rfl, fun _ τ hb ht hτ => R.bslE (z := 1) (.cons (show ev _ _ (.const (.int .u8 128)) = some (.u8 128) from rfl) .nil) ⟨⟨rfl, rfl, rfl⟩, trivial⟩ rfl ht (by decide)⟩,
      ⟨⟨rfl, rfl, fun _ τ hb ht hτ => R.callG hC (add_ok s [128] hs (by decide)) (Bors.cons (Bor.pur (evt (hτ 11 _ rfl)) rfl rfl) (Bors.cons (Bor.sc (SC.sl (hτ 12 _ rfl)) rfl) Bors.nil)) (FrsR.one (frs_st _)) ht⟩,
      trivial⟩⟩⟩, rfl, rfl, rfl⟩)
    rfl (bx' := [(2, .var _), (1, .var _)]) rfl (n' := 54) rfl (⟨rfl, _, R.stZ (show Sg.get _ 1 = some _ from rfl) (show Sg.box _ 1 = some _ from rfl) rfl (evt (show Sg.get _ 13 = some _ from rfl)) (by rfl) (by rfl) (by rfl) (by rfl) rfl, ⟨[1, 2, 3], [(1, _), (2, _), (3, _)], [(2, .var _), (1, .var _)], 54, rfl, rfl, rfl, ?_⟩⟩)
  refine W.seq ?_
  refine W.block ?_
  refine W.loop (α := {q__ : ShaS // q__.ok ∧ q__.begun = true ∧ padS (padN q__) q__ = pad2 s}) (fun q__ => ⟨54, [(1, .ptr 1 0 []), (2, .ptr 2 0 []), (3, .u64 (s.n * 8))], [(2, .var (hashD (List.replicate 32 0))), (1, .var (stD q__.1))]⟩) (fun q__ => padN q__.1) ⟨(pad1 s), ⟨addS_ok s _ hs, addS_begun s _, rfl⟩⟩ rfl ?_
  rintro ⟨u, ⟨hu, hub, heq⟩⟩
  show W _ _ _ _ ⟨54, [(1, .ptr 1 0 []), (2, .ptr 2 0 []), (3, .u64 (s.n * 8))], [(2, .var (hashD (List.replicate 32 0))), (1, .var (stD u))]⟩
  refine W.seq ?_
  refine W.seq ?_
  refine W.line (n := 4) (by decide) (its := [⟨14, _, true⟩, ⟨15, _, true⟩, ⟨16, _, true⟩, ⟨17, _, true⟩]) (ks := []) (kk := []) (live := [1, 2, 3, 17]) (env' := [(1, _), (2, _), (3, _), (17, _)])
    (⟨Nat.le_of_ble_eq_true rfl, rfl,
      ⟨⟨rfl, rfl, fun _ τ hb ht hτ => R.fdP (hτ 1 _ rfl) ht⟩,
      ⟨⟨rfl, rfl, fun _ τ hb ht hτ => R.ldP (hτ 14 _ rfl) (hb 1 _ rfl) rfl rfl rfl rfl ht⟩,
      ⟨⟨rfl, rfl, fun _ τ hb ht hτ => R.bin (evt (hτ 15 _ rfl)) (show ev _ _ (.const (.int .u64 64)) = some (.u64 64) from rfl) rfl (by decide) ht⟩,
      ⟨⟨rfl, rfl, fun _ τ hb ht hτ => R.bin (evt (hτ 16 _ rfl)) (show ev _ _ (.const (.int .u64 56)) = some (.u64 56) from rfl) rfl trivial ht⟩,
      trivial⟩⟩⟩⟩, rfl, rfl, rfl⟩)
    rfl (bx' := [(2, .var _), (1, .var _)]) rfl (n' := 54) rfl (⟨[1, 2, 3, 17], [(1, _), (2, _), (3, _), (17, _)], [(2, .var _), (1, .var _)], 54, rfl, rfl, rfl, ?_⟩)
  refine W.cond rfl (fun hc17 => ?_) (fun hc17 => ?_)
  · refine W.skip ?_
    refine W.block ?_
    refine W.line (n := 4) (by decide) (its := [⟨18, _, true⟩, ⟨19, _, true⟩, ⟨20, _, true⟩]) (ks := []) (kk := []) (live := [1, 2, 3, 20]) (env' := [(1, _), (2, _), (3, _), (20, _)])
      (⟨Nat.le_of_ble_eq_true rfl, rfl,
        ⟨⟨rfl, rfl, fun _ τ hb ht hτ => R.ldP (hτ 1 _ rfl) (hb 1 _ rfl) rfl rfl rfl rfl ht⟩,
        ⟨⟨rfl, rfl, fun _ τ hb ht hτ => R.bslE (z := 1) (.cons (show ev _ _ (.const (.int .u8 0)) = some (.u8 0) from rfl) .nil) ⟨⟨rfl, rfl, rfl⟩, trivial⟩ rfl ht (by decide)⟩,
        ⟨⟨rfl, rfl, fun _ τ hb ht hτ => R.callG hC (add_ok u [0] hu (by decide)) (Bors.cons (Bor.pur (evt (hτ 18 _ rfl)) rfl rfl) (Bors.cons (Bor.sc (SC.sl (hτ 19 _ rfl)) rfl) Bors.nil)) (FrsR.one (frs_st _)) ht⟩,
        trivial⟩⟩⟩, rfl, rfl, rfl⟩)
      rfl (bx' := [(2, .var _), (1, .var _)]) rfl (n' := 54) rfl (⟨rfl, _, R.stZ (show Sg.get _ 1 = some _ from rfl) (show Sg.box _ 1 = some _ from rfl) rfl (evt (show Sg.get _ 20 = some _ from rfl)) (by rfl) (by rfl) (by rfl) (by rfl) rfl, ⟨[1, 2, 3], [(1, _), (2, _), (3, _)], [(2, .var _), (1, .var _)], 54, rfl, rfl, rfl, ?_⟩⟩)
    exact ⟨⟨(addS u [0]), ⟨addS_ok u _ hu, addS_begun u _, by rw [pad_step u hub (mS_ne hc17)] at heq; exact heq⟩⟩, rfl, (by have := pad_less u hub (mS_ne hc17); simp only []; omega)⟩
  · have hp0 : padN u = 0 := pad_end u (mS_eq hc17)
    rw [hp0] at heq
    obtain rfl : u = pad2 s := heq
    have hs2 := hu
    refine W.exit ?_
    refine W.seq ?_
    refine W.line (n := 1) (by decide) (its := []) (ks := []) (kk := []) (live := [1, 2, 3]) (env' := [(1, _), (2, _), (3, _)])
      (⟨Nat.le_of_ble_eq_true rfl, rfl,
        trivial, rfl, rfl, rfl⟩)
      rfl (bx' := [(2, .var _), (1, .var _)]) rfl (n' := 54) rfl (⟨rfl, _, R.alloc rfl (Nat.le_of_ble_eq_true rfl), ⟨[1, 2, 3, 4], [(1, _), (2, _), (3, _), (4, _)], [(4, .var _), (2, .var _), (1, .var _)], 54, rfl, rfl, rfl, ?_⟩⟩)
    refine W.seq ?_
    refine W.seq ?_
    refine W.line (n := 1) (by decide) (its := [⟨21, _, true⟩]) (ks := []) (kk := []) (live := [1, 2, 3, 4, 21]) (env' := [(1, _), (2, _), (3, _), (4, _), (21, _)])
      (⟨Nat.le_of_ble_eq_true rfl, rfl,
        ⟨⟨rfl, rfl, fun _ τ hb ht hτ => R.mov (show ev _ _ (.const (.int .i64 0)) = some (.int ((0 : Nat) : Int)) from rfl) rfl ht⟩,
        trivial⟩, rfl, rfl, rfl⟩)
      rfl (bx' := [(4, .var _), (2, .var _), (1, .var _)]) rfl (n' := 54) rfl (⟨[1, 2, 3, 4, 21], [(1, _), (2, _), (3, _), (4, _), (21, _)], [(4, .var _), (2, .var _), (1, .var _)], 54, rfl, rfl, rfl, ?_⟩)
    refine W.block ?_
    refine W.loop (α := {q__ : Nat // q__ ≤ 8}) (fun q__ => ⟨54, [(1, .ptr 1 0 []), (2, .ptr 2 0 []), (3, .u64 (s.n * 8)), (4, .ptr 4 0 []), (21, .int ((q__.1 : Nat) : Int))], [(4, .var (.arr 8 1 ((longB (s.n * 8) q__.1).map D.u8))), (2, .var (hashD (List.replicate 32 0))), (1, .var (stD (pad2 s)))]⟩) (fun q__ => 8 - q__.1) ⟨(0), (by first | omega | (simp only [List.length_map, List.length_append, List.length_cons, List.length_nil, List.length_take, List.length_drop, List.length_replicate]; omega) | (simp; omega))⟩ rfl ?_
    rintro ⟨i, hil⟩
    show W _ _ _ _ ⟨54, [(1, .ptr 1 0 []), (2, .ptr 2 0 []), (3, .u64 (s.n * 8)), (4, .ptr 4 0 []), (21, .int ((i : Nat) : Int))], [(4, .var (.arr 8 1 ((longB (s.n * 8) i).map D.u8))), (2, .var (hashD (List.replicate 32 0))), (1, .var (stD (pad2 s)))]⟩
    have hll := longB_len (s.n * 8) i
    refine W.seq ?_
    refine W.line (n := 1) (by decide) (its := [⟨22, _, true⟩]) (ks := []) (kk := []) (live := [1, 2, 3, 4, 21, 22]) (env' := [(1, _), (2, _), (3, _), (4, _), (21, _), (22, _)])
      (⟨Nat.le_of_ble_eq_true rfl, rfl,
        ⟨⟨rfl, rfl, fun _ τ hb ht hτ => R.lssN (i) (8) (evt (hτ 21 _ rfl)) (show ev _ _ (.const (.int .i64 8)) = some (.int ((8 : Nat) : Int)) from rfl) ht⟩,
        trivial⟩, rfl, rfl, rfl⟩)
      rfl (bx' := [(4, .var _), (2, .var _), (1, .var _)]) rfl (n' := 54) rfl (⟨[1, 2, 3, 4, 21, 22], [(1, _), (2, _), (3, _), (4, _), (21, _), (22, _)], [(4, .var _), (2, .var _), (1, .var _)], 54, rfl, rfl, rfl, ?_⟩)
    refine W.seq ?_
    refine W.condD rfl (fun hc22 => ?_) (fun hc22 => ?_)
    · refine W.skip ?_
      refine W.seq ?_
      refine W.block ?_
      refine W.seq ?_
      refine W.line (n := 2) (by decide) (its := [⟨23, _, true⟩, ⟨5, _, true⟩]) (ks := []) (kk := []) (live := [1, 2, 3, 4, 5, 21]) (env' := [(1, _), (2, _), (3, _), (4, _), (5, _), (21, _)])
        (⟨Nat.le_of_ble_eq_true rfl, rfl,
          ⟨⟨rfl, rfl, fun _ τ hb ht hτ => R.mov (evt (hτ 21 _ rfl)) rfl ht⟩,
          ⟨⟨rfl, rfl, fun _ τ hb ht hτ => R.asg (evt (hτ 23 _ rfl)) rfl ht⟩,
          trivial⟩⟩, rfl, rfl, rfl⟩)
        rfl (bx' := [(4, .var _), (2, .var _), (1, .var _)]) rfl (n' := 54) rfl (⟨[1, 2, 3, 4, 5, 21], [(1, _), (2, _), (3, _), (4, _), (5, _), (21, _)], [(4, .var _), (2, .var _), (1, .var _)], 54, rfl, rfl, rfl, ?_⟩)
      refine W.line (n := 9) (by decide) (its := [⟨24, _, true⟩, ⟨25, _, true⟩, ⟨26, _, true⟩, ⟨27, _, true⟩, ⟨28, _, true⟩, ⟨29, _, true⟩, ⟨30, _, true⟩, ⟨31, _, true⟩]) (ks := []) (kk := []) (live := [1, 2, 3, 4, 21, 30, 31]) (env' := [(1, _), (2, _), (3, _), (4, _), (21, _), (30, _), (31, _)])
        (⟨Nat.le_of_ble_eq_true rfl, rfl,
          ⟨⟨rfl, rfl, fun _ τ hb ht hτ => R.mov (evt (hτ 5 _ rfl)) rfl ht⟩,
          ⟨⟨rfl, rfl, fun _ τ hb ht hτ => R.mov (evt (hτ 3 _ rfl)) rfl ht⟩,
          ⟨⟨rfl, rfl, fun _ τ hb ht hτ => R.mov (evt (hτ 5 _ rfl)) rfl ht⟩,
          ⟨⟨rfl, rfl, fun _ τ hb ht hτ => R.mulN (8) (i) (show ev _ _ (.const (.int .i64 8)) = some (.int ((8 : Nat) : Int)) from rfl) (evt (hτ 26 _ rfl)) (by first | omega | (simp only [List.length_map, List.length_append, List.length_cons, List.length_nil, List.length_take, List.length_drop, List.length_replicate]; omega) | (simp; omega)) ht⟩,
          ⟨⟨rfl, rfl, fun _ τ hb ht hτ => R.subN (56) ((8 * i)) (show ev _ _ (.const (.int .i64 56)) = some (.int ((56 : Nat) : Int)) from rfl) (evt (hτ 27 _ rfl)) (by first | omega | (simp only [List.length_map, List.length_append, List.length_cons, List.length_nil, List.length_take, List.length_drop, List.length_replicate]; omega) | (simp; omega)) (by first | omega | (simp only [List.length_map, List.length_append, List.length_cons, List.length_nil, List.length_take, List.length_drop, List.length_replicate]; omega) | (simp; omega)) ht⟩,
          ⟨⟨rfl, rfl, fun _ τ hb ht hτ => R.bin (evt (hτ 25 _ rfl)) (evt (hτ 28 _ rfl)) rfl (show (0 : Int) ≤ _ from Int.natCast_nonneg _) ht⟩,
          ⟨⟨rfl, rfl, fun _ τ hb ht hτ => R.conv (evt (hτ 29 _ rfl)) rfl ht⟩,
          ⟨⟨rfl, rfl, fun _ τ hb ht hτ => R.idxP (i) (hτ 4 _ rfl) (evoI (evt (hτ 24 _ rfl))) rfl (by first | omega | (simp only [List.length_map, List.length_append, List.length_cons, List.length_nil, List.length_take, List.length_drop, List.length_replicate]; omega) | (simp; omega)) ht⟩,
          trivial⟩⟩⟩⟩⟩⟩⟩⟩, rfl, rfl, rfl⟩)
        rfl (bx' := [(4, .var _), (2, .var _), (1, .var _)]) rfl (n' := 54) rfl (⟨rfl, _, R.stZ (show Sg.get _ 31 = some _ from rfl) (show Sg.box _ 4 = some _ from rfl) (loc_arr (map_get! (l := (longB (s.n * 8) i)) (by first | omega | (simp only [List.length_map, List.length_append, List.length_cons, List.length_nil, List.length_take, List.length_drop, List.length_replicate]; omega) | (simp; omega))) loc_nil (by first | omega | (simp only [List.length_map, List.length_append, List.length_cons, List.length_nil, List.length_take, List.length_drop, List.length_replicate]; omega) | (simp; omega))) (evt (show Sg.get _ 30 = some _ from rfl)) (by rfl) (by rfl) (by rfl) (by rfl) (upd_arr (map_get! (l := (longB (s.n * 8) i)) (by first | omega | (simp only [List.length_map, List.length_append, List.length_cons, List.length_nil, List.length_take, List.length_drop, List.length_replicate]; omega) | (simp; omega))) upd_nil set_map), ⟨[1, 2, 3, 4, 21], [(1, _), (2, _), (3, _), (4, _), (21, _)], [(4, .var _), (2, .var _), (1, .var _)], 54, rfl, rfl, rfl, ?_⟩⟩)
      refine W.line (n := 2) (by decide) (its := [⟨32, _, true⟩, ⟨21, _, true⟩]) (ks := []) (kk := []) (live := [1, 2, 3, 4, 21]) (env' := [(1, _), (2, _), (3, _), (4, _), (21, _)])
        (⟨Nat.le_of_ble_eq_true rfl, rfl,
          ⟨⟨rfl, rfl, fun _ τ hb ht hτ => R.addN (i) (1) (evt (hτ 21 _ rfl)) (show ev _ _ (.const (.int .i64 1)) = some (.int ((1 : Nat) : Int)) from rfl) (by first | omega | (simp only [List.length_map, List.length_append, List.length_cons, List.length_nil, List.length_take, List.length_drop, List.length_replicate]; omega) | (simp; omega)) ht⟩,
          ⟨⟨rfl, rfl, fun _ τ hb ht hτ => R.mov (evt (hτ 32 _ rfl)) rfl ht⟩,
          trivial⟩⟩, rfl, rfl, rfl⟩)
        rfl (bx' := [(4, .var _), (2, .var _), (1, .var _)]) rfl (n' := 54) rfl (⟨[1, 2, 3, 4, 21], [(1, _), (2, _), (3, _), (4, _), (21, _)], [(4, .var _), (2, .var _), (1, .var _)], 54, rfl, rfl, rfl, ?_⟩)
      exact ⟨⟨(i + 1), (by first | omega | (simp only [List.length_map, List.length_append, List.length_cons, List.length_nil, List.length_take, List.length_drop, List.length_replicate]; omega) | (simp; omega))⟩, rfl, (by simp only []; omega)⟩
    · obtain rfl : i = 8 := by omega
      refine W.exit ?_
      refine W.seq ?_
      refine W.draw (m := 3) (an := [0, 0, 3, 7]) hP (by decide) rfl (its := [⟨33, _, true⟩, ⟨34, _, true⟩, ⟨35, _, true⟩]) (ks := []) (kk := []) (live := [1, 2, 35]) (env' := [(1, _), (2, _), (35, _)])
        (⟨Nat.le_of_ble_eq_true rfl, rfl,
          ⟨⟨rfl, rfl, fun _ τ hb ht hτ => R.ldP (hτ 1 _ rfl) (hb 1 _ rfl) rfl rfl rfl rfl ht⟩,
          ⟨⟨rfl, rfl, fun _ τ hb ht hτ => R.slAN (0) (8) (8) (hτ 4 _ rfl) (hb 4 _ rfl) rfl rfl rfl rfl rfl (by first | omega | (simp only [List.length_map, List.length_append, List.length_cons, List.length_nil, List.length_take, List.length_drop, List.length_replicate]; omega) | (simp; omega)) (by first | omega | (simp only [List.length_map, List.length_append, List.length_cons, List.length_nil, List.length_take, List.length_drop, List.length_replicate]; omega) | (simp; omega)) rfl ht⟩,
          ⟨⟨rfl, rfl, fun _ τ hb ht hτ => R.callG hC (add_ok _ _ hs2 (by simp [longB_len])) (Bors.cons (Bor.pur (evt (hτ 33 _ rfl)) rfl rfl) (Bors.cons (Bor.sc (SC.va (hτ 34 _ rfl) (hb 4 _ rfl) rfl (by first | omega | (simp only [List.length_map, List.length_append, List.length_cons, List.length_nil, List.length_take, List.length_drop, List.length_replicate]; omega) | (simp; omega))) (brw_all (fun _ => rfl) (longB_len _ _))) Bors.nil)) (FrsR.one (frs_st _)) ht⟩,
          trivial⟩⟩⟩, rfl, rfl, rfl⟩)
        rfl (bx' := [(4, .var _), (2, .var _), (1, .var _)]) rfl (n' := 54) rfl (⟨rfl, _, R.stZ (show Sg.get _ 1 = some _ from rfl) (show Sg.box _ 1 = some _ from rfl) rfl (evt (show Sg.get _ 35 = some _ from rfl)) (by rfl) (by rfl) (by rfl) (by rfl) rfl, ⟨[1, 2], [(1, _), (2, _)], [(4, .var _), (2, .var _), (1, .var _)], 54, rfl, rfl, rfl, ?_⟩⟩)
      refine W.seq ?_
      refine W.line (n := 1) (by decide) (its := []) (ks := []) (kk := []) (live := [1, 2]) (env' := [(1, _), (2, _)])
        (⟨Nat.le_of_ble_eq_true rfl, rfl,
          trivial, rfl, rfl, rfl⟩)
        rfl (bx' := [(4, .var _), (2, .var _), (1, .var _)]) rfl (n' := 54) rfl (⟨rfl, _, R.alloc rfl (Nat.le_of_ble_eq_true rfl), ⟨[1, 2, 6], [(1, _), (2, _), (6, _)], [(6, .var _), (4, .var _), (2, .var _), (1, .var _)], 54, rfl, rfl, rfl, ?_⟩⟩)
      refine W.seq ?_
      refine W.seq ?_
      refine W.line (n := 1) (by decide) (its := [⟨36, _, true⟩]) (ks := []) (kk := []) (live := [1, 2, 6, 36]) (env' := [(1, _), (2, _), (6, _), (36, _)])
        (⟨Nat.le_of_ble_eq_true rfl, rfl,
          ⟨⟨rfl, rfl, fun _ τ hb ht hτ => R.mov (show ev _ _ (.const (.int .i64 0)) = some (.int ((0 : Nat) : Int)) from rfl) rfl ht⟩,
          trivial⟩, rfl, rfl, rfl⟩)
        rfl (bx' := [(6, .var _), (4, .var _), (2, .var _), (1, .var _)]) rfl (n' := 54) rfl (⟨[1, 2, 6, 36], [(1, _), (2, _), (6, _), (36, _)], [(6, .var _), (4, .var _), (2, .var _), (1, .var _)], 54, rfl, rfl, rfl, ?_⟩)
      refine W.block ?_
      refine W.loop (α := {q__ : Nat // q__ ≤ 32}) (fun q__ => ⟨54, [(1, .ptr 1 0 []), (2, .ptr 2 0 []), (6, .ptr 6 0 []), (36, .int ((q__.1 : Nat) : Int))], [(6, .var (hashD (outB (pad3 s).h q__.1))), (4, .var (.arr 8 1 ((longB (s.n * 8) 8).map D.u8))), (2, .var (hashD (List.replicate 32 0))), (1, .var (stD (pad3 s)))]⟩) (fun q__ => 32 - q__.1) ⟨(0), (by first | omega | (simp only [List.length_map, List.length_append, List.length_cons, List.length_nil, List.length_take, List.length_drop, List.length_replicate]; omega) | (simp; omega))⟩ rfl ?_
      rintro ⟨i, hil⟩
      show W _ _ _ _ ⟨54, [(1, .ptr 1 0 []), (2, .ptr 2 0 []), (6, .ptr 6 0 []), (36, .int ((i : Nat) : Int))], [(6, .var (hashD (outB (pad3 s).h i))), (4, .var (.arr 8 1 ((longB (s.n * 8) 8).map D.u8))), (2, .var (hashD (List.replicate 32 0))), (1, .var (stD (pad3 s)))]⟩
      have hol := outB_len (pad3 s).h i
      have h3 : (pad3 s).ok := addS_ok _ _ hs2
      have h3l := h3.h
      refine W.seq ?_
      refine W.line (n := 1) (by decide) (its := [⟨37, _, true⟩]) (ks := []) (kk := []) (live := [1, 2, 6, 36, 37]) (env' := [(1, _), (2, _), (6, _), (36, _), (37, _)])
        (⟨Nat.le_of_ble_eq_true rfl, rfl,
          ⟨⟨rfl, rfl, fun _ τ hb ht hτ => R.lssN (i) (32) (evt (hτ 36 _ rfl)) (show ev _ _ (.const (.int .i64 32)) = some (.int ((32 : Nat) : Int)) from rfl) ht⟩,
          trivial⟩, rfl, rfl, rfl⟩)
        rfl (bx' := [(6, .var _), (4, .var _), (2, .var _), (1, .var _)]) rfl (n' := 54) rfl (⟨[1, 2, 6, 36, 37], [(1, _), (2, _), (6, _), (36, _), (37, _)], [(6, .var _), (4, .var _), (2, .var _), (1, .var _)], 54, rfl, rfl, rfl, ?_⟩)
      refine W.seq ?_
      refine W.condD rfl (fun hc37 => ?_) (fun hc37 => ?_)
      · refine W.skip ?_
        refine W.seq ?_
        refine W.block ?_
        refine W.seq ?_
        refine W.line (n := 2) (by decide) (its := [⟨38, _, true⟩, ⟨7, _, true⟩]) (ks := []) (kk := []) (live := [1, 2, 6, 7, 36]) (env' := [(1, _), (2, _), (6, _), (7, _), (36, _)])
          (⟨Nat.le_of_ble_eq_true rfl, rfl,
            ⟨⟨rfl, rfl, fun _ τ hb ht hτ => R.mov (evt (hτ 36 _ rfl)) rfl ht⟩,
            ⟨⟨rfl, rfl, fun _ τ hb ht hτ => R.asg (evt (hτ 38 _ rfl)) rfl ht⟩,
            trivial⟩⟩, rfl, rfl, rfl⟩)
          rfl (bx' := [(6, .var _), (4, .var _), (2, .var _), (1, .var _)]) rfl (n' := 54) rfl (⟨[1, 2, 6, 7, 36], [(1, _), (2, _), (6, _), (7, _), (36, _)], [(6, .var _), (4, .var _), (2, .var _), (1, .var _)], 54, rfl, rfl, rfl, ?_⟩)
        refine W.line (n := 14) (by decide) (its := [⟨39, _, true⟩, ⟨40, _, true⟩, ⟨41, _, true⟩, ⟨42, _, true⟩, ⟨43, _, true⟩, ⟨44, _, true⟩, ⟨45, _, true⟩, ⟨46, _, true⟩, ⟨47, _, true⟩, ⟨48, _, true⟩, ⟨49, _, true⟩, ⟨50, _, true⟩, ⟨51, _, true⟩]) (ks := []) (kk := []) (live := [1, 2, 6, 36, 50, 51]) (env' := [(1, _), (2, _), (6, _), (36, _), (50, _), (51, _)])
          (⟨Nat.le_of_ble_eq_true rfl, rfl,
            ⟨⟨rfl, rfl, fun _ τ hb ht hτ => R.mov (evt (hτ 7 _ rfl)) rfl ht⟩,
            ⟨⟨rfl, rfl, fun _ τ hb ht hτ => R.mov (evt (hτ 7 _ rfl)) rfl ht⟩,
            ⟨⟨rfl, rfl, fun _ τ hb ht hτ => R.quoN (i) (4) (evt (hτ 40 _ rfl)) (show ev _ _ (.const (.int .i64 4)) = some (.int ((4 : Nat) : Int)) from rfl) (by first | omega | (simp only [List.length_map, List.length_append, List.length_cons, List.length_nil, List.length_take, List.length_drop, List.length_replicate]; omega) | (simp; omega)) (by first | omega | (simp only [List.length_map, List.length_append, List.length_cons, List.length_nil, List.length_take, List.length_drop, List.length_replicate]; omega) | (simp; omega)) ht⟩,
            ⟨⟨rfl, rfl, fun _ τ hb ht hτ => R.fdP (hτ 1 _ rfl) ht⟩,
            ⟨⟨rfl, rfl, fun _ τ hb ht hτ => R.idxP ((i / 4)) (hτ 42 _ rfl) (evoI (evt (hτ 41 _ rfl))) rfl (by first | omega | (simp only [List.length_map, List.length_append, List.length_cons, List.length_nil, List.length_take, List.length_drop, List.length_replicate]; omega) | (simp; omega)) ht⟩,
            ⟨⟨rfl, rfl, fun _ τ hb ht hτ => R.ldP (hτ 43 _ rfl) (hb 1 _ rfl) (loc_agg (m := 1) rfl rfl (loc_arr (map_get! (l := (pad3 s).h) (by first | omega | (simp only [List.length_map, List.length_append, List.length_cons, List.length_nil, List.length_take, List.length_drop, List.length_replicate]; omega) | (simp; omega))) loc_nil rfl) (by first | omega | (simp only [List.length_map, List.length_append, List.length_cons, List.length_nil, List.length_take, List.length_drop, List.length_replicate]; omega) | (simp; omega))) rfl rfl rfl ht⟩,
            ⟨⟨rfl, rfl, fun _ τ hb ht hτ => R.mov (evt (hτ 7 _ rfl)) rfl ht⟩,
            ⟨⟨rfl, rfl, fun _ τ hb ht hτ => R.remN (i) (4) (evt (hτ 45 _ rfl)) (show ev _ _ (.const (.int .i64 4)) = some (.int ((4 : Nat) : Int)) from rfl) (by first | omega | (simp only [List.length_map, List.length_append, List.length_cons, List.length_nil, List.length_take, List.length_drop, List.length_replicate]; omega) | (simp; omega)) ht⟩,
            ⟨⟨rfl, rfl, fun _ τ hb ht hτ => R.mulN (8) ((i % 4)) (show ev _ _ (.const (.int .i64 8)) = some (.int ((8 : Nat) : Int)) from rfl) (evt (hτ 46 _ rfl)) (by first | omega | (simp only [List.length_map, List.length_append, List.length_cons, List.length_nil, List.length_take, List.length_drop, List.length_replicate]; omega) | (simp; omega)) ht⟩,
            ⟨⟨rfl, rfl, fun _ τ hb ht hτ => R.subN (24) ((8 * (i % 4))) (show ev _ _ (.const (.int .i64 24)) = some (.int ((24 : Nat) : Int)) from rfl) (evt (hτ 47 _ rfl)) (by first | omega | (simp only [List.length_map, List.length_append, List.length_cons, List.length_nil, List.length_take, List.length_drop, List.length_replicate]; omega) | (simp; omega)) (by first | omega | (simp only [List.length_map, List.length_append, List.length_cons, List.length_nil, List.length_take, List.length_drop, List.length_replicate]; omega) | (simp; omega)) ht⟩,
            ⟨⟨rfl, rfl, fun _ τ hb ht hτ => R.bin (evt (hτ 44 _ rfl)) (evt (hτ 48 _ rfl)) rfl (show (0 : Int) ≤ _ from Int.natCast_nonneg _) ht⟩,
            ⟨⟨rfl, rfl, fun _ τ hb ht hτ => R.conv (evt (hτ 49 _ rfl)) rfl ht⟩,
            ⟨⟨rfl, rfl, fun _ τ hb ht hτ => R.idxP (i) (hτ 6 _ rfl) (evoI (evt (hτ 39 _ rfl))) rfl (by first | omega | (simp only [List.length_map, List.length_append, List.length_cons, List.length_nil, List.length_take, List.length_drop, List.length_replicate]; omega) | (simp; omega)) ht⟩,
            trivial⟩⟩⟩⟩⟩⟩⟩⟩⟩⟩⟩⟩⟩, rfl, rfl, rfl⟩)
          rfl (bx' := [(6, .var _), (4, .var _), (2, .var _), (1, .var _)]) rfl (n' := 54) rfl (⟨rfl, _, R.stZ (show Sg.get _ 51 = some _ from rfl) (show Sg.box _ 6 = some _ from rfl) (loc_arr (map_get! (l := (outB (pad3 s).h i)) (by first | omega | (simp only [List.length_map, List.length_append, List.length_cons, List.length_nil, List.length_take, List.length_drop, List.length_replicate]; omega) | (simp; omega))) loc_nil (by first | omega | (simp only [List.length_map, List.length_append, List.length_cons, List.length_nil, List.length_take, List.length_drop, List.length_replicate]; omega) | (simp; omega))) (evt (show Sg.get _ 50 = some _ from rfl)) (by rfl) (by rfl) (by rfl) (by rfl) (upd_arr (map_get! (l := (outB (pad3 s).h i)) (by first | omega | (simp only [List.length_map, List.length_append, List.length_cons, List.length_nil, List.length_take, List.length_drop, List.length_replicate]; omega) | (simp; omega))) upd_nil set_map), ⟨[1, 2, 6, 36], [(1, _), (2, _), (6, _), (36, _)], [(6, .var _), (4, .var _), (2, .var _), (1, .var _)], 54, rfl, rfl, rfl, ?_⟩⟩)
        refine W.line (n := 2) (by decide) (its := [⟨52, _, true⟩, ⟨36, _, true⟩]) (ks := []) (kk := []) (live := [1, 2, 6, 36]) (env' := [(1, _), (2, _), (6, _), (36, _)])
          (⟨Nat.le_of_ble_eq_true rfl, rfl,
            ⟨⟨rfl, rfl, fun _ τ hb ht hτ => R.addN (i) (1) (evt (hτ 36 _ rfl)) (show ev _ _ (.const (.int .i64 1)) = some (.int ((1 : Nat) : Int)) from rfl) (by first | omega | (simp only [List.length_map, List.length_append, List.length_cons, List.length_nil, List.length_take, List.length_drop, List.length_replicate]; omega) | (simp; omega)) ht⟩,
            ⟨⟨rfl, rfl, fun _ τ hb ht hτ => R.mov (evt (hτ 52 _ rfl)) rfl ht⟩,
            trivial⟩⟩, rfl, rfl, rfl⟩)
          rfl (bx' := [(6, .var _), (4, .var _), (2, .var _), (1, .var _)]) rfl (n' := 54) rfl (⟨[1, 2, 6, 36], [(1, _), (2, _), (6, _), (36, _)], [(6, .var _), (4, .var _), (2, .var _), (1, .var _)], 54, rfl, rfl, rfl, ?_⟩)
        exact ⟨⟨(i + 1), (by first | omega | (simp only [List.length_map, List.length_append, List.length_cons, List.length_nil, List.length_take, List.length_drop, List.length_replicate]; omega) | (simp; omega))⟩, rfl, (by simp only []; omega)⟩
      · obtain rfl : i = 32 := by omega
        refine W.exit ?_
        refine W.seq ?_
        refine W.line (n := 2) (by decide) (its := [⟨53, _, true⟩]) (ks := []) (kk := []) (live := [2, 53]) (env' := [(2, _), (53, _)])
          (⟨Nat.le_of_ble_eq_true rfl, rfl,
            ⟨⟨rfl, rfl, fun _ τ hb ht hτ => R.ldP (hτ 6 _ rfl) (hb 6 _ rfl) rfl rfl rfl rfl ht⟩,
            trivial⟩, rfl, rfl, rfl⟩)
          rfl (bx' := [(6, .var _), (4, .var _), (2, .var _), (1, .var _)]) rfl (n' := 54) rfl (⟨rfl, _, R.stZ (show Sg.get _ 2 = some _ from rfl) (show Sg.box _ 2 = some _ from rfl) rfl (evt (show Sg.get _ 53 = some _ from rfl)) (by rfl) (by rfl) (by rfl) (by rfl) rfl, ⟨[2], [(2, _)], [(6, .var _), (4, .var _), (2, .var _), (1, .var _)], 54, rfl, rfl, rfl, ?_⟩⟩)
        refine W.ret ?_
        exact Ends.one' (.inr rfl) rfl (rfl) rfl rfl (show LdT _ 24 32 true from inferInstance)

theorem sum_ok (b : List UInt8) (hb0 : b.length ≤ 1073741824) : Fn Tryd.prog gl 32 [.sl none 1 (b.map D.u8)] (hashD (sumS b)) := by
  refine Fn.of (n := 7) Tryd.func32 rfl rfl rfl (Nat.le_of_ble_eq_true rfl) fun C hC hD => ?_
  refine W.seq ?_
  refine W.line (n := 1) (by decide) (its := []) (ks := []) (kk := []) (live := [0]) (env' := [(0, _)])
    (⟨Nat.le_of_ble_eq_true rfl, rfl,
      trivial, rfl, rfl, rfl⟩)
    rfl (bx' := []) rfl (n' := 7) rfl (⟨rfl, _, R.alloc rfl (Nat.le_of_ble_eq_true rfl), ⟨[0, 2], [(0, _), (2, _)], [(2, .var _)], 7, rfl, rfl, rfl, ?_⟩⟩)
  refine W.seq ?_
  refine W.line (n := 5) (by decide) (its := [⟨3, _, true⟩, ⟨4, _, true⟩, ⟨5, _, true⟩, ⟨6, _, true⟩]) (ks := []) (kk := []) (live := [2, 6]) (env' := [(2, _), (6, _)])
    (⟨Nat.le_of_ble_eq_true rfl, rfl,
      ⟨⟨rfl, rfl, fun _ τ hb ht hτ => R.callG hC (begin_ok) Bors.nil (FrsR.one (frs_st _)) ht⟩,
      ⟨⟨rfl, rfl, fun _ τ hb ht hτ => R.mov (evt (hτ 0 _ rfl)) rfl ht⟩,
      ⟨⟨rfl, rfl, fun _ τ hb ht hτ => R.callG hC (add_ok _ _ ShaS.start_ok hb0) (Bors.cons (Bor.pur (evt (hτ 3 _ rfl)) rfl rfl) (Bors.cons (Bor.pur (evt (hτ 4 _ rfl)) rfl rfl) Bors.nil)) (FrsR.one (frs_st _)) ht⟩,
      ⟨⟨rfl, rfl, fun _ τ hb ht hτ => R.callG hC (end_ok _ (addS_ok _ _ ShaS.start_ok)) (Bors.cons (Bor.pur (evt (hτ 5 _ rfl)) rfl rfl) Bors.nil) (FrsR.one (frs_hash _)) ht⟩,
      trivial⟩⟩⟩⟩, rfl, rfl, rfl⟩)
    rfl (bx' := [(2, .var _)]) rfl (n' := 7) rfl (⟨rfl, _, R.stZ (show Sg.get _ 2 = some _ from rfl) (show Sg.box _ 2 = some _ from rfl) rfl (evt (show Sg.get _ 6 = some _ from rfl)) (by rfl) (by rfl) (by rfl) (by rfl) rfl, ⟨[2], [(2, _)], [(2, .var _)], 7, rfl, rfl, rfl, ?_⟩⟩)
  refine W.ret ?_
  exact Ends.one' (.inr rfl) rfl (rfl) rfl rfl (show LdT _ 24 32 true from inferInstance)

theorem twice_ok (b : List UInt8) (hb0 : b.length ≤ 1073741824) : Fn Tryd.prog gl 29 [.sl none 1 (b.map D.u8)] (hashD (twiceS b)) := by
  refine Fn.of (n := 8) Tryd.func29 rfl rfl rfl (Nat.le_of_ble_eq_true rfl) fun C hC hD => ?_
  refine W.seq ?_
  refine W.line (n := 1) (by decide) (its := []) (ks := []) (kk := []) (live := [0]) (env' := [(0, _)])
    (⟨Nat.le_of_ble_eq_true rfl, rfl,
      trivial, rfl, rfl, rfl⟩)
    rfl (bx' := []) rfl (n' := 8) rfl (⟨rfl, _, R.alloc rfl (Nat.le_of_ble_eq_true rfl), ⟨[0, 2], [(0, _), (2, _)], [(2, .var _)], 8, rfl, rfl, rfl, ?_⟩⟩)
  refine W.seq ?_
  refine W.line (n := 4) (by decide) (its := [⟨4, _, true⟩, ⟨5, _, true⟩]) (ks := []) (kk := []) (live := [2, 5]) (env' := [(2, _), (5, _)])
    (⟨Nat.le_of_ble_eq_true rfl, rfl,
      ⟨⟨rfl, rfl, fun _ τ hb ht hτ => R.mov (evt (hτ 0 _ rfl)) rfl ht⟩,
      ⟨⟨rfl, rfl, fun _ τ hb ht hτ => R.callG hC (sum_ok _ hb0) (Bors.cons (Bor.pur (evt (hτ 4 _ rfl)) rfl rfl) Bors.nil) (FrsR.one (frs_hash _)) ht⟩,
      trivial⟩⟩, rfl, rfl, rfl⟩)
    rfl (bx' := [(2, .var _)]) rfl (n' := 8) rfl (⟨rfl, _, R.alloc rfl (Nat.le_of_ble_eq_true rfl), ⟨rfl, _, R.stZ (show Sg.get _ 3 = some _ from rfl) (show Sg.box _ 3 = some _ from rfl) rfl (evt (show Sg.get _ 5 = some _ from rfl)) (by rfl) (by rfl) (by rfl) (by rfl) rfl, ⟨[2, 3], [(2, _), (3, _)], [(3, .var _), (2, .var _)], 8, rfl, rfl, rfl, ?_⟩⟩⟩)
  refine W.seq ?_
  refine W.line (n := 3) (by decide) (its := [⟨6, _, true⟩, ⟨7, _, true⟩]) (ks := []) (kk := []) (live := [2, 7]) (env' := [(2, _), (7, _)])
    (⟨Nat.le_of_ble_eq_true rfl, rfl,
      ⟨⟨rfl, rfl, fun _ τ hb ht hτ => R.slAN (0) (32) (32) (hτ 3 _ rfl) (hb 3 _ rfl) rfl rfl rfl rfl rfl (by first | omega | (simp only [List.length_map, List.length_append, List.length_cons, List.length_nil, List.length_take, List.length_drop, List.length_replicate]; omega) | (simp; omega)) (by first | omega | (simp only [List.length_map, List.length_append, List.length_cons, List.length_nil, List.length_take, List.length_drop, List.length_replicate]; omega) | (simp; omega)) rfl ht⟩,
      ⟨⟨rfl, rfl, fun _ τ hb ht hτ => R.callG hC (sum_ok (sumS b) (by rw [sumS_len]; decide)) (Bors.cons (Bor.sc (SC.va (hτ 6 _ rfl) (hb 3 _ rfl) rfl (by first | omega | (simp only [List.length_map, List.length_append, List.length_cons, List.length_nil, List.length_take, List.length_drop, List.length_replicate]; omega) | (simp; omega))) (brw_all (fun _ => rfl) (sumS_len _))) Bors.nil) (FrsR.one (frs_hash _)) ht⟩,
      trivial⟩⟩, rfl, rfl, rfl⟩)
    rfl (bx' := [(3, .var _), (2, .var _)]) rfl (n' := 8) rfl (⟨rfl, _, R.stZ (show Sg.get _ 2 = some _ from rfl) (show Sg.box _ 2 = some _ from rfl) rfl (evt (show Sg.get _ 7 = some _ from rfl)) (by rfl) (by rfl) (by rfl) (by rfl) rfl, ⟨[2], [(2, _)], [(3, .var _), (2, .var _)], 8, rfl, rfl, rfl, ?_⟩⟩)
  refine W.ret ?_
  exact Ends.one' (.inr rfl) rfl (rfl) rfl rfl (show LdT _ 24 32 true from inferInstance)

end Go.Sx
