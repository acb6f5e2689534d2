/- Proved: what functions of the given program compute (used by the theorem of this claim). Conditions: none but those that each theorem states. -/
import Derived.Test.YtelknpmdhpamnaaDoorSha4
import Derived.Test.YtelknpmdhpamnaaDoorShaLaw2
set_option linter.unusedVariables false
set_option linter.unusedSimpArgs false
set_option linter.unnecessarySimpa false
namespace Go.Sx
open Go.Proofs
theorem shaparts_ok (l : List (List UInt8)) (hb0 : ∀ b ∈ l, b.length ≤ 140737488355328) : Fn Tryd.prog gl 5 [.sl none 1 (l.map bytesD)] (.bool true) := by
  refine Fn.of (n := 113) Tryd.func5 rfl rfl rfl (Nat.le_of_ble_eq_true rfl) fun C hC => ?_
  refine W.seq ?_
  refine W.line (n := 1) (by decide) (its := [⟨2, _, true⟩]) (ks := []) (kk := []) (live := [0]) (env' := [(0, _)])
    (⟨Nat.le_of_ble_eq_true rfl, rfl,
      ⟨⟨rfl, rfl, fun _ τ hb ht hτ => R.asg (show ev _ _ (.const (.bool false)) = some (.bool false) from rfl) rfl ht⟩,
      trivial⟩, rfl, rfl, rfl⟩)
    rfl (bx' := []) rfl (n' := 113) rfl (⟨[0], [(0, _)], [], 113, rfl, rfl, rfl, ?_⟩)
  refine W.seq ?_
  refine W.seq ?_
  refine W.line (n := 3) (by decide) (its := [⟨13, _, true⟩, ⟨14, _, true⟩, ⟨15, _, true⟩]) (ks := []) (kk := []) (live := [0, 15]) (env' := [(0, _), (15, _)])
    (⟨Nat.le_of_ble_eq_true rfl, rfl,
      ⟨⟨rfl, rfl, fun _ τ hb ht hτ => R.mov (evt (hτ 0 _ rfl)) rfl ht⟩,
      ⟨⟨rfl, rfl, fun _ τ hb ht hτ => R.lenE (SC.sl (hτ 13 _ rfl)) (List.length_map _) ht⟩,
      ⟨⟨rfl, rfl, fun _ τ hb ht hτ => R.gtrN (l.length) (60) (evt (hτ 14 _ rfl)) (show ev _ _ (.const (.int .i64 60)) = some (.int ((60 : Nat) : Int)) from rfl) ht⟩,
      trivial⟩⟩⟩, rfl, rfl, rfl⟩)
    rfl (bx' := []) rfl (n' := 113) rfl (⟨[0, 15], [(0, _), (15, _)], [], 113, rfl, rfl, rfl, ?_⟩)
  refine W.condD rfl (fun hc15 => ?_) (fun hc15 => ?_)
  · refine W.seq ?_
    refine W.line (n := 2) (by decide) (its := [⟨16, _, true⟩, ⟨2, _, true⟩]) (ks := []) (kk := []) (live := [2]) (env' := [(2, _)])
      (⟨Nat.le_of_ble_eq_true rfl, rfl,
        ⟨⟨rfl, rfl, fun _ τ hb ht hτ => R.callG hC (works_ok) Bors.nil (FrsR.one (.bool _)) ht⟩,
        ⟨⟨rfl, rfl, fun _ τ hb ht hτ => R.asg (evt (hτ 16 _ rfl)) rfl ht⟩,
        trivial⟩⟩, rfl, rfl, rfl⟩)
      rfl (bx' := []) rfl (n' := 113) rfl (⟨[2], [(2, _)], [], 113, rfl, rfl, rfl, ?_⟩)
    refine W.ret ?_
    exact Ends.one' (.inr rfl) rfl (rfl) rfl rfl trivial
  · refine W.skip ?_
    refine W.seq ?_
    refine W.line (n := 1) (by decide) (its := [⟨3, _, true⟩]) (ks := []) (kk := []) (live := [0, 3]) (env' := [(0, _), (3, _)])
      (⟨Nat.le_of_ble_eq_true rfl, rfl,
        ⟨⟨rfl, rfl, fun _ τ hb ht hτ => R.asg (show ev _ _ (.const (.slice none 0 0)) = some (.nils) from rfl) rfl ht⟩,
        trivial⟩, rfl, rfl, rfl⟩)
      rfl (bx' := []) rfl (n' := 113) rfl (⟨[0, 3], [(0, _), (3, _)], [], 113, rfl, rfl, rfl, ?_⟩)
    refine W.seq ?_
    refine W.line (n := 3) (by decide) (its := [⟨17, _, true⟩, ⟨18, _, true⟩, ⟨4, _, true⟩]) (ks := [(2, 18)]) (kk := [(2, 18)]) (live := [0, 3, 4]) (env' := [(0, _), (3, _), (4, _)])
      (⟨Nat.le_of_ble_eq_true rfl, rfl,
        ⟨⟨rfl, rfl, fun _ τ hb ht hτ => R.callG hC (begin_ok) Bors.nil (FrsR.one (frs_st _)) ht⟩,
        ⟨⟨rfl, rfl, fun _ τ hb ht hτ => R.bslE (z := 74) (.cons (evt (hτ 17 _ rfl)) .nil) ⟨⟨rfl, rfl, rfl⟩, trivial⟩ rfl ht (by decide)⟩,
        ⟨⟨rfl, rfl, fun _ τ hb ht hτ => R.asgO (hτ 18 _ rfl) rfl ht (by decide)⟩,
        trivial⟩⟩⟩, rfl, rfl, rfl⟩)
      rfl (bx' := []) rfl (n' := 113) rfl (⟨[0, 3, 4], [(0, _), (3, _), (4, _)], [], 113, rfl, rfl, rfl, ?_⟩)
    refine W.seq ?_
    refine W.line (n := 2) (by decide) (its := [⟨19, _, true⟩, ⟨5, _, true⟩]) (ks := [(1, 19)]) (kk := [(1, 19)]) (live := [0, 3, 4, 5]) (env' := [(0, _), (3, _), (4, _), (5, _)])
      (⟨Nat.le_of_ble_eq_true rfl, rfl,
        ⟨⟨rfl, rfl, fun _ τ hb ht hτ => R.bslE (z := 1) (.cons (show ev _ _ (.const (.int .i64 0)) = some (.int ((0 : Nat) : Int)) from rfl) .nil) ⟨⟨rfl, rfl, rfl⟩, trivial⟩ rfl ht (by decide)⟩,
        ⟨⟨rfl, rfl, fun _ τ hb ht hτ => R.asgO (hτ 19 _ rfl) rfl ht (by decide)⟩,
        trivial⟩⟩, rfl, rfl, rfl⟩)
      rfl (bx' := []) rfl (n' := 113) rfl (⟨[0, 3, 4, 5], [(0, _), (3, _), (4, _), (5, _)], [], 113, rfl, rfl, rfl, ?_⟩)
    refine W.seq ?_
    refine W.seq ?_
    refine W.line (n := 1) (by decide) (its := [⟨6, _, true⟩]) (ks := []) (kk := []) (live := [0, 3, 4, 5, 6]) (env' := [(0, _), (3, _), (4, _), (5, _), (6, _)])
      (⟨Nat.le_of_ble_eq_true rfl, rfl,
        ⟨⟨rfl, rfl, fun _ τ hb ht hτ => R.asg (show ev _ _ (.const (.int .i64 0)) = some (.int ((0 : Nat) : Int)) from rfl) rfl ht⟩,
        trivial⟩, rfl, rfl, rfl⟩)
      rfl (bx' := []) rfl (n' := 113) rfl (⟨[0, 3, 4, 5, 6], [(0, _), (3, _), (4, _), (5, _), (6, _)], [], 113, rfl, rfl, rfl, ?_⟩)
    refine W.block ?_
    refine W.asOwn (s := 3) 5 1 rfl ?_
    refine W.loop (α := {q__ : Nat // q__ ≤ l.length ∧ (allP l q__).length ≤ 4096}) (fun q__ => ⟨113, [(0, .sl none 1 (l.map bytesD)), (3, .sl (some 5) 1 ((allP l q__.1).map D.u8)), (4, .sl (some 39) 74 ((stsP l q__.1).map stD)), (5, .sl (some 3) 1 ((lensP l q__.1).map intD)), (6, .int ((q__.1 : Nat) : Int))], []⟩) (fun q__ => l.length - q__.1) ⟨(0), ⟨Nat.zero_le _, by simp [allP]⟩⟩ rfl ?_
    rintro ⟨i, ⟨hi, hal⟩⟩
    show W _ _ _ _ ⟨113, [(0, .sl none 1 (l.map bytesD)), (3, .sl (some 5) 1 ((allP l i).map D.u8)), (4, .sl (some 39) 74 ((stsP l i).map stD)), (5, .sl (some 3) 1 ((lensP l i).map intD)), (6, .int ((i : Nat) : Int))], []⟩
    have hli := len_get! hb0 i
    have hsl := stsP_len l i
    have hll := lensP_len l i
    have hal : (allP l i).length ≤ 4096 := hal
    refine W.seq ?_
    refine W.seq ?_
    refine W.line (n := 4) (by decide) (its := [⟨20, _, true⟩, ⟨21, _, true⟩, ⟨22, _, true⟩, ⟨23, _, true⟩]) (ks := []) (kk := []) (live := [0, 3, 4, 5, 6, 23]) (env' := [(0, _), (3, _), (4, _), (5, _), (6, _), (23, _)])
      (⟨Nat.le_of_ble_eq_true rfl, rfl,
        ⟨⟨rfl, rfl, fun _ τ hb ht hτ => R.mov (evt (hτ 6 _ rfl)) rfl ht⟩,
        ⟨⟨rfl, rfl, fun _ τ hb ht hτ => R.mov (evt (hτ 0 _ rfl)) rfl ht⟩,
        ⟨⟨rfl, rfl, fun _ τ hb ht hτ => R.lenE (SC.sl (hτ 21 _ rfl)) (List.length_map _) ht⟩,
        ⟨⟨rfl, rfl, fun _ τ hb ht hτ => R.lssN (i) (l.length) (evt (hτ 20 _ rfl)) (evt (hτ 22 _ rfl)) ht⟩,
        trivial⟩⟩⟩⟩, rfl, rfl, rfl⟩)
      rfl (bx' := []) rfl (n' := 113) rfl (⟨[0, 3, 4, 5, 6, 23], [(0, _), (3, _), (4, _), (5, _), (6, _), (23, _)], [], 113, rfl, rfl, rfl, ?_⟩)
    refine W.condD rfl (fun hc23 => ?_) (fun hc23 => ?_)
    · refine W.skip ?_
      refine W.seq ?_
      refine W.block ?_
      refine W.seq ?_
      refine W.seq ?_
      refine W.line (n := 9) (by decide) (its := [⟨26, _, true⟩, ⟨27, _, true⟩, ⟨28, _, true⟩, ⟨29, _, true⟩, ⟨30, _, true⟩, ⟨31, _, true⟩, ⟨32, _, true⟩, ⟨33, _, true⟩, ⟨34, _, true⟩]) (ks := []) (kk := []) (live := [0, 3, 4, 5, 6, 34]) (env' := [(0, _), (3, _), (4, _), (5, _), (6, _), (34, _)])
        (⟨Nat.le_of_ble_eq_true rfl, rfl,
          ⟨⟨rfl, rfl, fun _ τ hb ht hτ => R.al (hτ 3 _ rfl) ht (by decide)⟩,
          ⟨⟨rfl, rfl, fun _ τ hb ht hτ => R.lenE (SC.al (hτ 26 _ rfl) (hτ 3 _ rfl)) (List.length_map _) ht⟩,
          ⟨⟨rfl, rfl, fun _ τ hb ht hτ => R.mov (evt (hτ 0 _ rfl)) rfl ht⟩,
          ⟨⟨rfl, rfl, fun _ τ hb ht hτ => R.mov (evt (hτ 6 _ rfl)) rfl ht⟩,
          ⟨⟨rfl, rfl, fun _ τ hb ht hτ => R.idxN (i) (SC.sl (hτ 28 _ rfl)) (evoI (evt (hτ 29 _ rfl))) rfl (by first | omega | (simp only [List.length_map, List.length_append, List.length_cons, List.length_nil, List.length_take, List.length_drop, List.length_replicate]; omega) | (simp; omega)) ht (by decide)⟩,
          ⟨⟨rfl, rfl, fun _ τ hb ht hτ => R.ldE (hτ 30 _ rfl) (SC.sl (hτ 28 _ rfl)) (map_get! (l := l) (by first | omega | (simp only [List.length_map, List.length_append, List.length_cons, List.length_nil, List.length_take, List.length_drop, List.length_replicate]; omega) | (simp; omega))) rfl rfl rfl rfl ht⟩,
          ⟨⟨rfl, rfl, fun _ τ hb ht hτ => R.lenE (SC.sl (hτ 31 _ rfl)) (List.length_map _) ht⟩,
          ⟨⟨rfl, rfl, fun _ τ hb ht hτ => R.addN ((allP l i).length) (l[i]!.length) (evt (hτ 27 _ rfl)) (evt (hτ 32 _ rfl)) (by first | omega | (simp only [List.length_map, List.length_append, List.length_cons, List.length_nil, List.length_take, List.length_drop, List.length_replicate]; omega) | (simp; omega)) ht⟩,
          ⟨⟨rfl, rfl, fun _ τ hb ht hτ => R.gtrN (((allP l i).length + l[i]!.length)) (4096) (evt (hτ 33 _ rfl)) (show ev _ _ (.const (.int .i64 4096)) = some (.int ((4096 : Nat) : Int)) from rfl) ht⟩,
          trivial⟩⟩⟩⟩⟩⟩⟩⟩⟩, rfl, rfl, rfl⟩)
        rfl (bx' := []) rfl (n' := 113) rfl (⟨[0, 3, 4, 5, 6, 34], [(0, _), (3, _), (4, _), (5, _), (6, _), (34, _)], [], 113, rfl, rfl, rfl, ?_⟩)
      refine W.condD rfl (fun hc34 => ?_) (fun hc34 => ?_)
      · refine W.exit ?_
        refine W.seq ?_
        refine W.seq ?_
        refine W.line (n := 1) (by decide) (its := [⟨10, _, true⟩]) (ks := []) (kk := []) (live := [3, 4, 5, 10]) (env' := [(3, _), (4, _), (5, _), (10, _)])
          (⟨Nat.le_of_ble_eq_true rfl, rfl,
            ⟨⟨rfl, rfl, fun _ τ hb ht hτ => R.asg (show ev _ _ (.const (.int .i64 0)) = some (.int ((0 : Nat) : Int)) from rfl) rfl ht⟩,
            trivial⟩, rfl, rfl, rfl⟩)
          rfl (bx' := []) rfl (n' := 113) rfl (⟨[3, 4, 5, 10], [(3, _), (4, _), (5, _), (10, _)], [], 113, rfl, rfl, rfl, ?_⟩)
        refine W.block ?_
        refine W.loop (α := {q__ : Nat // q__ ≤ i + 1}) (fun q__ => ⟨113, [(3, .sl (some 5) 1 ((allP l i).map D.u8)), (4, .sl (some 39) 74 ((stsP l i).map stD)), (5, .sl (some 3) 1 ((lensP l i).map intD)), (10, .int ((q__.1 : Nat) : Int))], []⟩) (fun q__ => i + 1 - q__.1) ⟨(0), (by first | omega | (simp only [List.length_map, List.length_append, List.length_cons, List.length_nil, List.length_take, List.length_drop, List.length_replicate]; omega) | (simp; omega))⟩ rfl ?_
        rintro ⟨j, hj⟩
        show W _ _ _ _ ⟨113, [(3, .sl (some 5) 1 ((allP l i).map D.u8)), (4, .sl (some 39) 74 ((stsP l i).map stD)), (5, .sl (some 3) 1 ((lensP l i).map intD)), (10, .int ((j : Nat) : Int))], []⟩
        have hsl := stsP_len l i
        have hll := lensP_len l i
        refine W.seq ?_
        refine W.seq ?_
        refine W.line (n := 4) (by decide) (its := [⟨77, _, true⟩, ⟨78, _, true⟩, ⟨79, _, true⟩, ⟨80, _, true⟩]) (ks := []) (kk := []) (live := [3, 4, 5, 10, 80]) (env' := [(3, _), (4, _), (5, _), (10, _), (80, _)])
          (⟨Nat.le_of_ble_eq_true rfl, rfl,
            ⟨⟨rfl, rfl, fun _ τ hb ht hτ => R.mov (evt (hτ 10 _ rfl)) rfl ht⟩,
            ⟨⟨rfl, rfl, fun _ τ hb ht hτ => R.al (hτ 4 _ rfl) ht (by decide)⟩,
            ⟨⟨rfl, rfl, fun _ τ hb ht hτ => R.lenE (SC.al (hτ 78 _ rfl) (hτ 4 _ rfl)) (List.length_map _) ht⟩,
            ⟨⟨rfl, rfl, fun _ τ hb ht hτ => R.lssN (j) ((stsP l i).length) (evt (hτ 77 _ rfl)) (evt (hτ 79 _ rfl)) ht⟩,
            trivial⟩⟩⟩⟩, rfl, rfl, rfl⟩)
          rfl (bx' := []) rfl (n' := 113) rfl (⟨[3, 4, 5, 10, 80], [(3, _), (4, _), (5, _), (10, _), (80, _)], [], 113, rfl, rfl, rfl, ?_⟩)
        refine W.condD rfl (fun hc80 => ?_) (fun hc80 => ?_)
        · refine W.skip ?_
          refine W.seq ?_
          refine W.block ?_
          refine W.seq ?_
          refine W.line (n := 9) (by decide) (its := [⟨83, _, true⟩, ⟨84, _, true⟩, ⟨85, _, true⟩, ⟨86, _, true⟩, ⟨87, _, true⟩, ⟨88, _, true⟩, ⟨89, _, true⟩]) (ks := []) (kk := []) (live := [3, 4, 5, 10, 89]) (env' := [(3, _), (4, _), (5, _), (10, _), (89, _)])
            (⟨Nat.le_of_ble_eq_true rfl, rfl,
              ⟨⟨rfl, rfl, fun _ τ hb ht hτ => R.al (hτ 3 _ rfl) ht (by decide)⟩,
              ⟨⟨rfl, rfl, fun _ τ hb ht hτ => R.al (hτ 5 _ rfl) ht (by decide)⟩,
              ⟨⟨rfl, rfl, fun _ τ hb ht hτ => R.mov (evt (hτ 10 _ rfl)) rfl ht⟩,
              ⟨⟨rfl, rfl, fun _ τ hb ht hτ => R.idxN (j) (SC.al (hτ 84 _ rfl) (hτ 5 _ rfl)) (evoI (evt (hτ 85 _ rfl))) rfl (by first | omega | (simp only [List.length_map, List.length_append, List.length_cons, List.length_nil, List.length_take, List.length_drop, List.length_replicate]; omega) | (simp; omega)) ht (by decide)⟩,
              ⟨⟨rfl, rfl, fun _ τ hb ht hτ => R.ldE (hτ 86 _ rfl) (SC.al (hτ 84 _ rfl) (hτ 5 _ rfl)) (map_get! (l := (lensP l i)) (by first | omega | (simp only [List.length_map, List.length_append, List.length_cons, List.length_nil, List.length_take, List.length_drop, List.length_replicate]; omega) | (simp; omega))) rfl rfl rfl rfl ht⟩,
              ⟨⟨rfl, rfl, fun _ τ hb ht hτ => R.slVN (0) ((lensP l i)[j]!) ((lensP l i)[j]!) (SC.al (hτ 83 _ rfl) (hτ 3 _ rfl)) rfl (evoI (evt (hτ 87 _ rfl))) rfl rfl (Nat.zero_le _) (by have hlj := lens_le l i j (by omega); simp only [List.length_map, Nat.zero_add]; omega) rfl ht (by decide)⟩,
              ⟨⟨rfl, rfl, fun _ τ hb ht hτ => R.callG hC (rsum_ok ((allP l i).take (lensP l i)[j]!) (by simp only [List.length_take]; omega)) (Bors.cons (Bor.sc (SC.vw (hτ 88 _ rfl) (SC.al (hτ 83 _ rfl) (hτ 3 _ rfl)) (by have hlj := lens_le l i j (by omega); simp only [List.length_map, Nat.zero_add]; omega)) (brw_part (fun _ => rfl))) Bors.nil) (FrsR.one (frs_hash _)) ht⟩,
              trivial⟩⟩⟩⟩⟩⟩⟩, rfl, rfl, rfl⟩)
            rfl (bx' := []) rfl (n' := 113) rfl (⟨rfl, _, R.alloc rfl (Nat.le_of_ble_eq_true rfl), ⟨rfl, _, R.stZ (show Sg.get _ 11 = some _ from rfl) (show Sg.box _ 11 = some _ from rfl) rfl (evt (show Sg.get _ 89 = some _ from rfl)) (by rfl) (by rfl) (by rfl) (by rfl) rfl, ⟨[3, 4, 5, 10, 11], [(3, _), (4, _), (5, _), (10, _), (11, _)], [(11, .var _)], 113, rfl, rfl, rfl, ?_⟩⟩⟩)
          refine W.seq ?_
          refine W.draw (m := 16) (an := [0, 0, 3, 7, 15, 0, 63, 127, 255, 255, 1023, 2047, 4095, 255, 16383, 32767]) hP (by decide) rfl (its := [⟨90, _, true⟩, ⟨91, _, true⟩, ⟨92, _, true⟩, ⟨93, _, true⟩, ⟨94, _, true⟩, ⟨95, _, true⟩, ⟨96, _, true⟩, ⟨97, _, true⟩, ⟨98, _, true⟩, ⟨99, _, true⟩, ⟨100, _, true⟩, ⟨101, _, true⟩, ⟨102, _, true⟩, ⟨103, _, true⟩, ⟨104, _, true⟩, ⟨105, _, true⟩]) (ks := []) (kk := []) (live := [3, 4, 5, 10, 105]) (env' := [(3, _), (4, _), (5, _), (10, _), (105, _)])
            (⟨Nat.le_of_ble_eq_true rfl, rfl,
              ⟨⟨rfl, rfl, fun _ τ hb ht hτ => R.al (hτ 4 _ rfl) ht (by decide)⟩,
              ⟨⟨rfl, rfl, fun _ τ hb ht hτ => R.mov (evt (hτ 10 _ rfl)) rfl ht⟩,
              ⟨⟨rfl, rfl, fun _ τ hb ht hτ => R.idxN (j) (SC.al (hτ 90 _ rfl) (hτ 4 _ rfl)) (evoI (evt (hτ 91 _ rfl))) rfl (by first | omega | (simp only [List.length_map, List.length_append, List.length_cons, List.length_nil, List.length_take, List.length_drop, List.length_replicate]; omega) | (simp; omega)) ht (by decide)⟩,
              ⟨⟨rfl, rfl, fun _ τ hb ht hτ => R.ldE (hτ 92 _ rfl) (SC.al (hτ 90 _ rfl) (hτ 4 _ rfl)) (map_get! (l := (stsP l i)) (by first | omega | (simp only [List.length_map, List.length_append, List.length_cons, List.length_nil, List.length_take, List.length_drop, List.length_replicate]; omega) | (simp; omega))) rfl rfl rfl rfl ht⟩,
              ⟨⟨rfl, rfl, fun _ τ hb ht hτ => R.callG hC (end_ok ((stsP l i)[j]!) (stsP_ok l i j (by omega))) (Bors.cons (Bor.pur (evt (hτ 93 _ rfl)) rfl rfl) Bors.nil) (FrsR.one (frs_hash _)) ht⟩,
              ⟨⟨rfl, rfl, fun _ τ hb ht hτ => R.ldP (hτ 11 _ rfl) (hb 11 _ rfl) rfl rfl rfl rfl ht⟩,
              ⟨⟨rfl, rfl, fun _ τ hb ht hτ => R.eqAX (evt (hτ 94 _ rfl)) (evt (hτ 95 _ rfl)) ht⟩,
              ⟨⟨rfl, rfl, fun _ τ hb ht hτ => R.mov (evt (hτ 96 _ rfl)) rfl ht⟩,
              ⟨⟨rfl, ⟨_, 97, rfl, rfl, .inl ⟨_, rfl, gw (v := false) (parts_ne l i j (by omega)) rfl⟩⟩, fun _ τ hb ht hτ => R.al (hτ 4 _ rfl) ht (by decide)⟩,
              ⟨⟨rfl, ⟨_, 97, rfl, rfl, .inl ⟨_, rfl, gw (v := false) (parts_ne l i j (by omega)) rfl⟩⟩, fun _ τ hb ht hτ => R.mov (evt (hτ 10 _ rfl)) rfl ht⟩,
              ⟨⟨rfl, ⟨_, 97, rfl, rfl, .inl ⟨_, rfl, gw (v := false) (parts_ne l i j (by omega)) rfl⟩⟩, fun _ τ hb ht hτ => R.idxN (j) (SC.al (hτ 98 _ rfl) (hτ 4 _ rfl)) (evoI (evt (hτ 99 _ rfl))) rfl (by first | omega | (simp only [List.length_map, List.length_append, List.length_cons, List.length_nil, List.length_take, List.length_drop, List.length_replicate]; omega) | (simp; omega)) ht (by decide)⟩,
              ⟨⟨rfl, ⟨_, 97, rfl, rfl, .inl ⟨_, rfl, gw (v := false) (parts_ne l i j (by omega)) rfl⟩⟩, fun _ τ hb ht hτ => R.ldE (hτ 100 _ rfl) (SC.al (hτ 98 _ rfl) (hτ 4 _ rfl)) (map_get! (l := (stsP l i)) (by first | omega | (simp only [List.length_map, List.length_append, List.length_cons, List.length_nil, List.length_take, List.length_drop, List.length_replicate]; omega) | (simp; omega))) rfl rfl rfl rfl ht⟩,
              ⟨⟨rfl, ⟨_, 97, rfl, rfl, .inl ⟨_, rfl, gw (v := false) (parts_ne l i j (by omega)) rfl⟩⟩, fun _ τ hb ht hτ => R.callG hC (end_ok ((stsP l i)[j]!) (stsP_ok l i j (by omega))) (Bors.cons (Bor.pur (evt (hτ 101 _ rfl)) rfl rfl) Bors.nil) (FrsR.one (frs_hash _)) ht⟩,
              ⟨⟨rfl, ⟨_, 97, rfl, rfl, .inl ⟨_, rfl, gw (v := false) (parts_ne l i j (by omega)) rfl⟩⟩, fun _ τ hb ht hτ => R.ldP (hτ 11 _ rfl) (hb 11 _ rfl) rfl rfl rfl rfl ht⟩,
              ⟨⟨rfl, ⟨_, 97, rfl, rfl, .inl ⟨_, rfl, gw (v := false) (parts_ne l i j (by omega)) rfl⟩⟩, fun _ τ hb ht hτ => R.eqAX (evt (hτ 102 _ rfl)) (evt (hτ 103 _ rfl)) ht⟩,
              ⟨⟨rfl, rfl, fun _ τ hb ht hτ => R.pickF (evt (hτ 97 _ rfl)) (parts_ne l i j (by omega)) (evt (hτ 104 _ rfl)) rfl ht⟩,
              trivial⟩⟩⟩⟩⟩⟩⟩⟩⟩⟩⟩⟩⟩⟩⟩⟩, rfl, rfl, rfl⟩)
            rfl (bx' := [(11, .var _)]) rfl (n' := 113) rfl (⟨[3, 4, 5, 10, 105], [(3, _), (4, _), (5, _), (10, _), (105, _)], [(11, .var _)], 113, rfl, rfl, rfl, ?_⟩)
          refine W.condF rfl (parts_ne l i j (by omega)) ?_
          refine W.skip ?_
          refine W.dropB [] (bx' := []) rfl rfl rfl ?_
          refine W.line (n := 3) (by decide) (its := [⟨81, _, true⟩, ⟨82, _, true⟩, ⟨10, _, true⟩]) (ks := []) (kk := []) (live := [3, 4, 5, 10]) (env' := [(3, _), (4, _), (5, _), (10, _)])
            (⟨Nat.le_of_ble_eq_true rfl, rfl,
              ⟨⟨rfl, rfl, fun _ τ hb ht hτ => R.mov (evt (hτ 10 _ rfl)) rfl ht⟩,
              ⟨⟨rfl, rfl, fun _ τ hb ht hτ => R.addN (j) (1) (evt (hτ 81 _ rfl)) (show ev _ _ (.const (.int .i64 1)) = some (.int ((1 : Nat) : Int)) from rfl) (by first | omega | (simp only [List.length_map, List.length_append, List.length_cons, List.length_nil, List.length_take, List.length_drop, List.length_replicate]; omega) | (simp; omega)) ht⟩,
              ⟨⟨rfl, rfl, fun _ τ hb ht hτ => R.asg (evt (hτ 82 _ rfl)) rfl ht⟩,
              trivial⟩⟩⟩, rfl, rfl, rfl⟩)
            rfl (bx' := []) rfl (n' := 113) rfl (⟨[3, 4, 5, 10], [(3, _), (4, _), (5, _), (10, _)], [], 113, rfl, rfl, rfl, ?_⟩)
          exact ⟨⟨(j + 1), (by first | omega | (simp only [List.length_map, List.length_append, List.length_cons, List.length_nil, List.length_take, List.length_drop, List.length_replicate]; omega) | (simp; omega))⟩, rfl, (by simp only []; omega)⟩
        · obtain rfl : j = i + 1 := by omega
          refine W.exit ?_
          refine W.seq ?_
          refine W.line (n := 1) (by decide) (its := []) (ks := []) (kk := []) (live := []) (env' := [])
            (⟨Nat.le_of_ble_eq_true rfl, rfl,
              trivial, rfl, rfl, rfl⟩)
            rfl (bx' := []) rfl (n' := 113) rfl (⟨rfl, _, R.alloc rfl (Nat.le_of_ble_eq_true rfl), ⟨[12], [(12, _)], [(12, .var _)], 113, rfl, rfl, rfl, ?_⟩⟩)
          refine W.seq ?_
          refine W.line (n := 8) (by decide) (its := [⟨106, _, true⟩, ⟨107, _, true⟩, ⟨108, _, true⟩, ⟨109, _, true⟩, ⟨110, _, true⟩, ⟨111, _, true⟩, ⟨112, _, true⟩, ⟨2, _, true⟩]) (ks := []) (kk := []) (live := [2]) (env' := [(2, _)])
            (⟨Nat.le_of_ble_eq_true rfl, rfl,
              ⟨⟨rfl, rfl, fun _ τ hb ht hτ => R.ldP (hτ 12 _ rfl) (hb 12 _ rfl) rfl rfl rfl rfl ht⟩,
              ⟨⟨rfl, rfl, fun _ τ hb ht hτ => R.callG hC (end_ok (ShaS.zero) (ShaS.zero_ok)) (Bors.cons (Bor.pur (evt (hτ 106 _ rfl)) rfl rfl) Bors.nil) (FrsR.one (frs_hash _)) ht⟩,
              ⟨⟨rfl, rfl, fun _ τ hb ht hτ => R.callG hC (rsum_ok [] (by decide)) (Bors.cons (Bor.nils (show ev _ _ (.const (.slice none 0 0)) = some (.nils) from rfl)) Bors.nil) (FrsR.one (frs_hash _)) ht⟩,
              ⟨⟨rfl, rfl, fun _ τ hb ht hτ => R.eqAE (evt (hτ 107 _ rfl)) (evt (hτ 108 _ rfl)) ht⟩,
              ⟨⟨rfl, rfl, fun _ τ hb ht hτ => R.mov (evt (hτ 109 _ rfl)) rfl ht⟩,
              ⟨⟨rfl, ⟨_, 110, rfl, rfl, .inl ⟨_, rfl, gw (v := true) (zero_eq) rfl⟩⟩, fun _ τ hb ht hτ => R.callG hC (works_ok) Bors.nil (FrsR.one (.bool _)) ht⟩,
              ⟨⟨rfl, rfl, fun _ τ hb ht hτ => R.pickT (evt (hτ 110 _ rfl)) (zero_eq) (evt (hτ 111 _ rfl)) rfl ht⟩,
              ⟨⟨rfl, rfl, fun _ τ hb ht hτ => R.asg (evt (hτ 112 _ rfl)) rfl ht⟩,
              trivial⟩⟩⟩⟩⟩⟩⟩⟩, rfl, rfl, rfl⟩)
            rfl (bx' := [(12, .var _)]) rfl (n' := 113) rfl (⟨[2], [(2, _)], [(12, .var _)], 113, rfl, rfl, rfl, ?_⟩)
          refine W.ret ?_
          exact Ends.one' (.inr rfl) rfl (rfl) rfl rfl trivial
      · refine W.skip ?_
        refine W.seq ?_
        refine W.line (n := 6) (by decide) (its := [⟨35, _, true⟩, ⟨36, _, true⟩, ⟨37, _, true⟩, ⟨38, _, true⟩, ⟨39, _, true⟩, ⟨7, _, true⟩]) (ks := [(5, 39)]) (kk := [(5, 39)]) (live := [0, 3, 4, 5, 6, 7]) (env' := [(0, _), (3, _), (4, _), (5, _), (6, _), (7, _)])
          (⟨Nat.le_of_ble_eq_true rfl, rfl,
            ⟨⟨rfl, rfl, fun _ τ hb ht hτ => R.mov (evt (hτ 0 _ rfl)) rfl ht⟩,
            ⟨⟨rfl, rfl, fun _ τ hb ht hτ => R.mov (evt (hτ 6 _ rfl)) rfl ht⟩,
            ⟨⟨rfl, rfl, fun _ τ hb ht hτ => R.idxN (i) (SC.sl (hτ 35 _ rfl)) (evoI (evt (hτ 36 _ rfl))) rfl (by first | omega | (simp only [List.length_map, List.length_append, List.length_cons, List.length_nil, List.length_take, List.length_drop, List.length_replicate]; omega) | (simp; omega)) ht (by decide)⟩,
            ⟨⟨rfl, rfl, fun _ τ hb ht hτ => R.ldE (hτ 37 _ rfl) (SC.sl (hτ 35 _ rfl)) (map_get! (l := l) (by first | omega | (simp only [List.length_map, List.length_append, List.length_cons, List.length_nil, List.length_take, List.length_drop, List.length_replicate]; omega) | (simp; omega))) rfl rfl rfl rfl ht⟩,
            ⟨⟨rfl, rfl, fun _ τ hb ht hτ => R.callG hC (copied_ok l[i]! (by omega)) (Bors.cons (Bor.pur (evt (hτ 38 _ rfl)) rfl rfl) Bors.nil) (FrsR.one (.sl _ _ _ (frs_map fun _ => .u8 _))) ht⟩,
            ⟨⟨rfl, rfl, fun _ τ hb ht hτ => R.asgO (hτ 39 _ rfl) rfl ht (by decide)⟩,
            trivial⟩⟩⟩⟩⟩⟩, rfl, rfl, rfl⟩)
          rfl (bx' := []) rfl (n' := 113) rfl (⟨[0, 3, 4, 5, 6, 7], [(0, _), (3, _), (4, _), (5, _), (6, _), (7, _)], [], 113, rfl, rfl, rfl, ?_⟩)
        refine W.seq ?_
        refine W.line (n := 10) (by decide) (its := [⟨40, _, true⟩, ⟨41, _, true⟩, ⟨42, _, true⟩, ⟨43, _, true⟩, ⟨44, _, true⟩, ⟨45, _, true⟩, ⟨46, _, true⟩, ⟨47, _, true⟩]) (ks := []) (kk := []) (live := [0, 3, 4, 5, 6, 7, 47]) (env' := [(0, _), (3, _), (4, _), (5, _), (6, _), (7, _), (47, _)])
          (⟨Nat.le_of_ble_eq_true rfl, rfl,
            ⟨⟨rfl, rfl, fun _ τ hb ht hτ => R.al (hτ 4 _ rfl) ht (by decide)⟩,
            ⟨⟨rfl, rfl, fun _ τ hb ht hτ => R.al (hτ 4 _ rfl) ht (by decide)⟩,
            ⟨⟨rfl, rfl, fun _ τ hb ht hτ => R.lenE (SC.al (hτ 41 _ rfl) (hτ 4 _ rfl)) (List.length_map _) ht⟩,
            ⟨⟨rfl, rfl, fun _ τ hb ht hτ => R.subN ((stsP l i).length) (1) (evt (hτ 42 _ rfl)) (show ev _ _ (.const (.int .i64 1)) = some (.int ((1 : Nat) : Int)) from rfl) (by first | omega | (simp only [List.length_map, List.length_append, List.length_cons, List.length_nil, List.length_take, List.length_drop, List.length_replicate]; omega) | (simp; omega)) (by first | omega | (simp only [List.length_map, List.length_append, List.length_cons, List.length_nil, List.length_take, List.length_drop, List.length_replicate]; omega) | (simp; omega)) ht⟩,
            ⟨⟨rfl, rfl, fun _ τ hb ht hτ => R.idxN (((stsP l i).length - 1)) (SC.al (hτ 40 _ rfl) (hτ 4 _ rfl)) (evoI (evt (hτ 43 _ rfl))) rfl (by first | omega | (simp only [List.length_map, List.length_append, List.length_cons, List.length_nil, List.length_take, List.length_drop, List.length_replicate]; omega) | (simp; omega)) ht (by decide)⟩,
            ⟨⟨rfl, rfl, fun _ τ hb ht hτ => R.ldE (hτ 44 _ rfl) (SC.al (hτ 40 _ rfl) (hτ 4 _ rfl)) (map_get! (l := (stsP l i)) (by first | omega | (simp only [List.length_map, List.length_append, List.length_cons, List.length_nil, List.length_take, List.length_drop, List.length_replicate]; omega) | (simp; omega))) rfl rfl rfl rfl ht⟩,
            ⟨⟨rfl, rfl, fun _ τ hb ht hτ => R.al (hτ 7 _ rfl) ht (by decide)⟩,
            ⟨⟨rfl, rfl, fun _ τ hb ht hτ => R.callG hC (add_ok ((stsP l i)[(stsP l i).length - 1]!) l[i]! (by rw [hsl, Nat.add_sub_cancel]; exact stsP_ok l i i (Nat.le_refl _)) (by omega)) (Bors.cons (Bor.pur (evt (hτ 45 _ rfl)) rfl rfl) (Bors.cons (Bor.sc (SC.al (hτ 46 _ rfl) (hτ 7 _ rfl)) (brw_map (fun _ => rfl))) Bors.nil)) (FrsR.one (frs_st _)) ht⟩,
            trivial⟩⟩⟩⟩⟩⟩⟩⟩, rfl, rfl, rfl⟩)
          rfl (bx' := []) rfl (n' := 113) rfl (⟨rfl, _, R.alloc rfl (Nat.le_of_ble_eq_true rfl), ⟨rfl, _, R.stZ (show Sg.get _ 8 = some _ from rfl) (show Sg.box _ 8 = some _ from rfl) rfl (evt (show Sg.get _ 47 = some _ from rfl)) (by rfl) (by rfl) (by rfl) (by rfl) rfl, ⟨[0, 3, 4, 5, 6, 7, 8], [(0, _), (3, _), (4, _), (5, _), (6, _), (7, _), (8, _)], [(8, .var _)], 113, rfl, rfl, rfl, ?_⟩⟩⟩)
        refine W.seq ?_
        refine W.seq ?_
        refine W.line (n := 1) (by decide) (its := [⟨9, _, true⟩]) (ks := []) (kk := []) (live := [0, 3, 4, 5, 6, 7, 8, 9]) (env' := [(0, _), (3, _), (4, _), (5, _), (6, _), (7, _), (8, _), (9, _)])
          (⟨Nat.le_of_ble_eq_true rfl, rfl,
            ⟨⟨rfl, rfl, fun _ τ hb ht hτ => R.asg (show ev _ _ (.const (.int .i64 0)) = some (.int ((0 : Nat) : Int)) from rfl) rfl ht⟩,
            trivial⟩, rfl, rfl, rfl⟩)
          rfl (bx' := [(8, .var _)]) rfl (n' := 113) rfl (⟨[0, 3, 4, 5, 6, 7, 8, 9], [(0, _), (3, _), (4, _), (5, _), (6, _), (7, _), (8, _), (9, _)], [(8, .var _)], 113, rfl, rfl, rfl, ?_⟩)
        refine W.block ?_
        refine W.loop (α := {q__ : Nat // q__ ≤ l[i]!.length}) (fun q__ => ⟨113, [(0, .sl none 1 (l.map bytesD)), (3, .sl (some 5) 1 ((allP l i).map D.u8)), (4, .sl (some 39) 74 ((stsP l i).map stD)), (5, .sl (some 3) 1 ((lensP l i).map intD)), (6, .int ((i : Nat) : Int)), (7, .sl (some 5) 1 ((xorP l[i]! q__.1).map D.u8)), (8, .ptr 8 0 []), (9, .int ((q__.1 : Nat) : Int))], [(8, .var (stD (addS (stsP l i)[(stsP l i).length - 1]! l[i]!)))]⟩) (fun q__ => l[i]!.length - q__.1) ⟨(0), (by first | omega | (simp only [List.length_map, List.length_append, List.length_cons, List.length_nil, List.length_take, List.length_drop, List.length_replicate]; omega) | (simp; omega))⟩ rfl ?_
        rintro ⟨k, hk⟩
        show W _ _ _ _ ⟨113, [(0, .sl none 1 (l.map bytesD)), (3, .sl (some 5) 1 ((allP l i).map D.u8)), (4, .sl (some 39) 74 ((stsP l i).map stD)), (5, .sl (some 3) 1 ((lensP l i).map intD)), (6, .int ((i : Nat) : Int)), (7, .sl (some 5) 1 ((xorP l[i]! k).map D.u8)), (8, .ptr 8 0 []), (9, .int ((k : Nat) : Int))], [(8, .var (stD (addS (stsP l i)[(stsP l i).length - 1]! l[i]!)))]⟩
        have hxl := xorP_len l[i]! k
        refine W.seq ?_
        refine W.seq ?_
        refine W.line (n := 4) (by decide) (its := [⟨48, _, true⟩, ⟨49, _, true⟩, ⟨50, _, true⟩, ⟨51, _, true⟩]) (ks := []) (kk := []) (live := [0, 3, 4, 5, 6, 7, 8, 9, 51]) (env' := [(0, _), (3, _), (4, _), (5, _), (6, _), (7, _), (8, _), (9, _), (51, _)])
          (⟨Nat.le_of_ble_eq_true rfl, rfl,
            ⟨⟨rfl, rfl, fun _ τ hb ht hτ => R.mov (evt (hτ 9 _ rfl)) rfl ht⟩,
            ⟨⟨rfl, rfl, fun _ τ hb ht hτ => R.al (hτ 7 _ rfl) ht (by decide)⟩,
            ⟨⟨rfl, rfl, fun _ τ hb ht hτ => R.lenE (SC.al (hτ 49 _ rfl) (hτ 7 _ rfl)) (List.length_map _) ht⟩,
            ⟨⟨rfl, rfl, fun _ τ hb ht hτ => R.lssN (k) ((xorP l[i]! k).length) (evt (hτ 48 _ rfl)) (evt (hτ 50 _ rfl)) ht⟩,
            trivial⟩⟩⟩⟩, rfl, rfl, rfl⟩)
          rfl (bx' := [(8, .var _)]) rfl (n' := 113) rfl (⟨[0, 3, 4, 5, 6, 7, 8, 9, 51], [(0, _), (3, _), (4, _), (5, _), (6, _), (7, _), (8, _), (9, _), (51, _)], [(8, .var _)], 113, rfl, rfl, rfl, ?_⟩)
        refine W.condD rfl (fun hc51 => ?_) (fun hc51 => ?_)
        · refine W.skip ?_
          refine W.seq ?_
          refine W.block ?_
          refine W.line (n := 9) (by decide) (its := [⟨54, _, true⟩, ⟨55, _, true⟩, ⟨56, _, true⟩, ⟨57, _, true⟩, ⟨58, _, true⟩, ⟨59, _, true⟩, ⟨60, _, true⟩, ⟨61, _, true⟩]) (ks := []) (kk := []) (live := [0, 3, 4, 5, 6, 7, 8, 9, 54, 60, 61]) (env' := [(0, _), (3, _), (4, _), (5, _), (6, _), (7, _), (8, _), (9, _), (54, _), (60, _), (61, _)])
            (⟨Nat.le_of_ble_eq_true rfl, rfl,
              ⟨⟨rfl, rfl, fun _ τ hb ht hτ => R.al (hτ 7 _ rfl) ht (by decide)⟩,
              ⟨⟨rfl, rfl, fun _ τ hb ht hτ => R.mov (evt (hτ 9 _ rfl)) rfl ht⟩,
              ⟨⟨rfl, rfl, fun _ τ hb ht hτ => R.al (hτ 7 _ rfl) ht (by decide)⟩,
              ⟨⟨rfl, rfl, fun _ τ hb ht hτ => R.mov (evt (hτ 9 _ rfl)) rfl ht⟩,
              ⟨⟨rfl, rfl, fun _ τ hb ht hτ => R.idxN (k) (SC.al (hτ 56 _ rfl) (hτ 7 _ rfl)) (evoI (evt (hτ 57 _ rfl))) rfl (by first | omega | (simp only [List.length_map, List.length_append, List.length_cons, List.length_nil, List.length_take, List.length_drop, List.length_replicate]; omega) | (simp; omega)) ht (by decide)⟩,
              ⟨⟨rfl, rfl, fun _ τ hb ht hτ => R.ldE (hτ 58 _ rfl) (SC.al (hτ 56 _ rfl) (hτ 7 _ rfl)) (map_get! (l := (xorP l[i]! k)) (by first | omega | (simp only [List.length_map, List.length_append, List.length_cons, List.length_nil, List.length_take, List.length_drop, List.length_replicate]; omega) | (simp; omega))) rfl rfl rfl rfl ht⟩,
              ⟨⟨rfl, rfl, fun _ τ hb ht hτ => R.bin (evt (hτ 59 _ rfl)) (show ev _ _ (.const (.int .u8 90)) = some (.u8 90) from rfl) rfl trivial ht⟩,
              ⟨⟨rfl, rfl, fun _ τ hb ht hτ => R.idxN (k) (SC.al (hτ 54 _ rfl) (hτ 7 _ rfl)) (evoI (evt (hτ 55 _ rfl))) rfl (by first | omega | (simp only [List.length_map, List.length_append, List.length_cons, List.length_nil, List.length_take, List.length_drop, List.length_replicate]; omega) | (simp; omega)) ht (by decide)⟩,
              trivial⟩⟩⟩⟩⟩⟩⟩⟩, rfl, rfl, rfl⟩)
            rfl (bx' := [(8, .var _)]) rfl (n' := 113) rfl (⟨rfl, _, R.stEY (show Sg.get _ 61 = some _ from rfl) (Or.inr (show Sg.get _ 54 = some _ from rfl)) (show Sg.get _ 7 = some _ from rfl) (map_get! (l := (xorP l[i]! k)) (by first | omega | (simp only [List.length_map, List.length_append, List.length_cons, List.length_nil, List.length_take, List.length_drop, List.length_replicate]; omega) | (simp; omega))) rfl (evt (show Sg.get _ 60 = some _ from rfl)) (by rfl) (by rfl) (by rfl) (by rfl) upd_nil set_map, ⟨[0, 3, 4, 5, 6, 7, 8, 9], [(0, _), (3, _), (4, _), (5, _), (6, _), (7, _), (8, _), (9, _)], [(8, .var _)], 113, rfl, rfl, rfl, ?_⟩⟩)
          refine W.line (n := 3) (by decide) (its := [⟨52, _, true⟩, ⟨53, _, true⟩, ⟨9, _, true⟩]) (ks := []) (kk := []) (live := [0, 3, 4, 5, 6, 7, 8, 9]) (env' := [(0, _), (3, _), (4, _), (5, _), (6, _), (7, _), (8, _), (9, _)])
            (⟨Nat.le_of_ble_eq_true rfl, rfl,
              ⟨⟨rfl, rfl, fun _ τ hb ht hτ => R.mov (evt (hτ 9 _ rfl)) rfl ht⟩,
              ⟨⟨rfl, rfl, fun _ τ hb ht hτ => R.addN (k) (1) (evt (hτ 52 _ rfl)) (show ev _ _ (.const (.int .i64 1)) = some (.int ((1 : Nat) : Int)) from rfl) (by first | omega | (simp only [List.length_map, List.length_append, List.length_cons, List.length_nil, List.length_take, List.length_drop, List.length_replicate]; omega) | (simp; omega)) ht⟩,
              ⟨⟨rfl, rfl, fun _ τ hb ht hτ => R.asg (evt (hτ 53 _ rfl)) rfl ht⟩,
              trivial⟩⟩⟩, rfl, rfl, rfl⟩)
            rfl (bx' := [(8, .var _)]) rfl (n' := 113) rfl (⟨[0, 3, 4, 5, 6, 7, 8, 9], [(0, _), (3, _), (4, _), (5, _), (6, _), (7, _), (8, _), (9, _)], [(8, .var _)], 113, rfl, rfl, rfl, ?_⟩)
          exact ⟨⟨(k + 1), (by first | omega | (simp only [List.length_map, List.length_append, List.length_cons, List.length_nil, List.length_take, List.length_drop, List.length_replicate]; omega) | (simp; omega))⟩, rfl, (by simp only []; omega)⟩
        · refine W.exit ?_
          refine W.seq ?_
          refine W.line (n := 7) (by decide) (its := [⟨62, _, true⟩, ⟨63, _, true⟩, ⟨64, _, true⟩, ⟨65, _, true⟩, ⟨66, _, true⟩, ⟨67, _, true⟩, ⟨3, _, true⟩]) (ks := [(5, 3), (6, 67), (6, 62)]) (kk := [(5, 3), (6, 67)]) (live := [0, 3, 4, 5, 6, 8]) (env' := [(0, _), (3, _), (4, _), (5, _), (6, _), (8, _)])
            (⟨Nat.le_of_ble_eq_true rfl, rfl,
              ⟨⟨rfl, rfl, fun _ τ hb ht hτ => R.al (hτ 3 _ rfl) ht (by decide)⟩,
              ⟨⟨rfl, rfl, fun _ τ hb ht hτ => R.mov (evt (hτ 0 _ rfl)) rfl ht⟩,
              ⟨⟨rfl, rfl, fun _ τ hb ht hτ => R.mov (evt (hτ 6 _ rfl)) rfl ht⟩,
              ⟨⟨rfl, rfl, fun _ τ hb ht hτ => R.idxN (i) (SC.sl (hτ 63 _ rfl)) (evoI (evt (hτ 64 _ rfl))) rfl (by first | omega | (simp only [List.length_map, List.length_append, List.length_cons, List.length_nil, List.length_take, List.length_drop, List.length_replicate]; omega) | (simp; omega)) ht (by decide)⟩,
              ⟨⟨rfl, rfl, fun _ τ hb ht hτ => R.ldE (hτ 65 _ rfl) (SC.sl (hτ 63 _ rfl)) (map_get! (l := l) (by first | omega | (simp only [List.length_map, List.length_append, List.length_cons, List.length_nil, List.length_take, List.length_drop, List.length_replicate]; omega) | (simp; omega))) rfl rfl rfl rfl ht⟩,
              ⟨⟨rfl, rfl, fun _ τ hb ht hτ => R.appE (Or.inr (hτ 62 _ rfl)) (hτ 3 _ rfl) (SrcO.sc (SC.sl (hτ 66 _ rfl)) (pur_map (fun _ => rfl))) (app_map) (by first | omega | (simp only [List.length_map, List.length_append, List.length_cons, List.length_nil, List.length_take, List.length_drop, List.length_replicate]; omega) | (simp; omega)) ht (by decide) (by decide)⟩,
              ⟨⟨rfl, rfl, fun _ τ hb ht hτ => R.asgO (hτ 67 _ rfl) rfl ht (by decide)⟩,
              trivial⟩⟩⟩⟩⟩⟩⟩, rfl, rfl, rfl⟩)
            rfl (bx' := [(8, .var _)]) rfl (n' := 113) rfl (⟨[0, 3, 4, 5, 6, 8], [(0, _), (3, _), (4, _), (5, _), (6, _), (8, _)], [(8, .var _)], 113, rfl, rfl, rfl, ?_⟩)
          refine W.seq ?_
          refine W.line (n := 5) (by decide) (its := [⟨68, _, true⟩, ⟨69, _, true⟩, ⟨70, _, true⟩, ⟨71, _, true⟩, ⟨4, _, true⟩]) (ks := [(3, 4), (4, 71), (4, 68)]) (kk := [(3, 4), (4, 71)]) (live := [0, 3, 4, 5, 6]) (env' := [(0, _), (3, _), (4, _), (5, _), (6, _)])
            (⟨Nat.le_of_ble_eq_true rfl, rfl,
              ⟨⟨rfl, rfl, fun _ τ hb ht hτ => R.al (hτ 4 _ rfl) ht (by decide)⟩,
              ⟨⟨rfl, rfl, fun _ τ hb ht hτ => R.ldP (hτ 8 _ rfl) (hb 8 _ rfl) rfl rfl rfl rfl ht⟩,
              ⟨⟨rfl, rfl, fun _ τ hb ht hτ => R.bslE (z := 74) (.cons (evt (hτ 69 _ rfl)) .nil) ⟨⟨rfl, rfl, rfl⟩, trivial⟩ rfl ht (by decide)⟩,
              ⟨⟨rfl, rfl, fun _ τ hb ht hτ => R.appE (Or.inr (hτ 68 _ rfl)) (hτ 4 _ rfl) (SrcO.sc (SC.sl (hτ 70 _ rfl)) (pur_lit rfl)) (app_one) (by first | omega | (simp only [List.length_map, List.length_append, List.length_cons, List.length_nil, List.length_take, List.length_drop, List.length_replicate]; omega) | (simp; omega)) ht (by decide) (by decide)⟩,
              ⟨⟨rfl, rfl, fun _ τ hb ht hτ => R.asgO (hτ 71 _ rfl) rfl ht (by decide)⟩,
              trivial⟩⟩⟩⟩⟩, rfl, rfl, rfl⟩)
            rfl (bx' := [(8, .var _)]) rfl (n' := 113) rfl (⟨[0, 3, 4, 5, 6], [(0, _), (3, _), (4, _), (5, _), (6, _)], [(8, .var _)], 113, rfl, rfl, rfl, ?_⟩)
          refine W.dropB [] (bx' := []) rfl rfl rfl ?_
          refine W.line (n := 6) (by decide) (its := [⟨72, _, true⟩, ⟨73, _, true⟩, ⟨74, _, true⟩, ⟨75, _, true⟩, ⟨76, _, true⟩, ⟨5, _, true⟩]) (ks := [(4, 5), (5, 76), (5, 72)]) (kk := [(4, 5), (5, 76)]) (live := [0, 3, 4, 5, 6]) (env' := [(0, _), (3, _), (4, _), (5, _), (6, _)])
            (⟨Nat.le_of_ble_eq_true rfl, rfl,
              ⟨⟨rfl, rfl, fun _ τ hb ht hτ => R.al (hτ 5 _ rfl) ht (by decide)⟩,
              ⟨⟨rfl, rfl, fun _ τ hb ht hτ => R.al (hτ 3 _ rfl) ht (by decide)⟩,
              ⟨⟨rfl, rfl, fun _ τ hb ht hτ => R.lenE (SC.al (hτ 73 _ rfl) (hτ 3 _ rfl)) (List.length_map _) ht⟩,
              ⟨⟨rfl, rfl, fun _ τ hb ht hτ => R.bslE (z := 1) (.cons (evt (hτ 74 _ rfl)) .nil) ⟨⟨rfl, rfl, rfl⟩, trivial⟩ rfl ht (by decide)⟩,
              ⟨⟨rfl, rfl, fun _ τ hb ht hτ => R.appE (Or.inr (hτ 72 _ rfl)) (hτ 5 _ rfl) (SrcO.sc (SC.sl (hτ 75 _ rfl)) (pur_lit rfl)) (app_one) (by first | omega | (simp only [List.length_map, List.length_append, List.length_cons, List.length_nil, List.length_take, List.length_drop, List.length_replicate]; omega) | (simp; omega)) ht (by decide) (by decide)⟩,
              ⟨⟨rfl, rfl, fun _ τ hb ht hτ => R.asgO (hτ 76 _ rfl) rfl ht (by decide)⟩,
              trivial⟩⟩⟩⟩⟩⟩, rfl, rfl, rfl⟩)
            rfl (bx' := []) rfl (n' := 113) rfl (⟨[0, 3, 4, 5, 6], [(0, _), (3, _), (4, _), (5, _), (6, _)], [], 113, rfl, rfl, rfl, ?_⟩)
          refine W.line (n := 3) (by decide) (its := [⟨24, _, true⟩, ⟨25, _, true⟩, ⟨6, _, true⟩]) (ks := []) (kk := []) (live := [0, 3, 4, 5, 6]) (env' := [(0, _), (3, _), (4, _), (5, _), (6, _)])
            (⟨Nat.le_of_ble_eq_true rfl, rfl,
              ⟨⟨rfl, rfl, fun _ τ hb ht hτ => R.mov (evt (hτ 6 _ rfl)) rfl ht⟩,
              ⟨⟨rfl, rfl, fun _ τ hb ht hτ => R.addN (i) (1) (evt (hτ 24 _ rfl)) (show ev _ _ (.const (.int .i64 1)) = some (.int ((1 : Nat) : Int)) from rfl) (by first | omega | (simp only [List.length_map, List.length_append, List.length_cons, List.length_nil, List.length_take, List.length_drop, List.length_replicate]; omega) | (simp; omega)) ht⟩,
              ⟨⟨rfl, rfl, fun _ τ hb ht hτ => R.asg (evt (hτ 25 _ rfl)) rfl ht⟩,
              trivial⟩⟩⟩, rfl, rfl, rfl⟩)
            rfl (bx' := []) rfl (n' := 113) rfl (⟨[0, 3, 4, 5, 6], [(0, _), (3, _), (4, _), (5, _), (6, _)], [], 113, rfl, rfl, rfl, ?_⟩)
          exact ⟨⟨(i + 1), ⟨by omega, by simp only [allP, List.length_append]; omega⟩⟩, (by simp only [stsP, allP, lensP, List.map_append, List.map_cons, List.map_nil]), (by simp only []; omega)⟩
    · refine W.exit ?_
      refine W.seq ?_
      refine W.seq ?_
      refine W.line (n := 1) (by decide) (its := [⟨10, _, true⟩]) (ks := []) (kk := []) (live := [3, 4, 5, 10]) (env' := [(3, _), (4, _), (5, _), (10, _)])
        (⟨Nat.le_of_ble_eq_true rfl, rfl,
          ⟨⟨rfl, rfl, fun _ τ hb ht hτ => R.asg (show ev _ _ (.const (.int .i64 0)) = some (.int ((0 : Nat) : Int)) from rfl) rfl ht⟩,
          trivial⟩, rfl, rfl, rfl⟩)
        rfl (bx' := []) rfl (n' := 113) rfl (⟨[3, 4, 5, 10], [(3, _), (4, _), (5, _), (10, _)], [], 113, rfl, rfl, rfl, ?_⟩)
      refine W.block ?_
      refine W.loop (α := {q__ : Nat // q__ ≤ i + 1}) (fun q__ => ⟨113, [(3, .sl (some 5) 1 ((allP l i).map D.u8)), (4, .sl (some 39) 74 ((stsP l i).map stD)), (5, .sl (some 3) 1 ((lensP l i).map intD)), (10, .int ((q__.1 : Nat) : Int))], []⟩) (fun q__ => i + 1 - q__.1) ⟨(0), (by first | omega | (simp only [List.length_map, List.length_append, List.length_cons, List.length_nil, List.length_take, List.length_drop, List.length_replicate]; omega) | (simp; omega))⟩ rfl ?_
      rintro ⟨j, hj⟩
      show W _ _ _ _ ⟨113, [(3, .sl (some 5) 1 ((allP l i).map D.u8)), (4, .sl (some 39) 74 ((stsP l i).map stD)), (5, .sl (some 3) 1 ((lensP l i).map intD)), (10, .int ((j : Nat) : Int))], []⟩
      have hsl := stsP_len l i
      have hll := lensP_len l i
      refine W.seq ?_
      refine W.seq ?_
      refine W.line (n := 4) (by decide) (its := [⟨77, _, true⟩, ⟨78, _, true⟩, ⟨79, _, true⟩, ⟨80, _, true⟩]) (ks := []) (kk := []) (live := [3, 4, 5, 10, 80]) (env' := [(3, _), (4, _), (5, _), (10, _), (80, _)])
        (⟨Nat.le_of_ble_eq_true rfl, rfl,
          ⟨⟨rfl, rfl, fun _ τ hb ht hτ => R.mov (evt (hτ 10 _ rfl)) rfl ht⟩,
          ⟨⟨rfl, rfl, fun _ τ hb ht hτ => R.al (hτ 4 _ rfl) ht (by decide)⟩,
          ⟨⟨rfl, rfl, fun _ τ hb ht hτ => R.lenE (SC.al (hτ 78 _ rfl) (hτ 4 _ rfl)) (List.length_map _) ht⟩,
          ⟨⟨rfl, rfl, fun _ τ hb ht hτ => R.lssN (j) ((stsP l i).length) (evt (hτ 77 _ rfl)) (evt (hτ 79 _ rfl)) ht⟩,
          trivial⟩⟩⟩⟩, rfl, rfl, rfl⟩)
        rfl (bx' := []) rfl (n' := 113) rfl (⟨[3, 4, 5, 10, 80], [(3, _), (4, _), (5, _), (10, _), (80, _)], [], 113, rfl, rfl, rfl, ?_⟩)
      refine W.condD rfl (fun hc80 => ?_) (fun hc80 => ?_)
      · refine W.skip ?_
        refine W.seq ?_
        refine W.block ?_
        refine W.seq ?_
        refine W.line (n := 9) (by decide) (its := [⟨83, _, true⟩, ⟨84, _, true⟩, ⟨85, _, true⟩, ⟨86, _, true⟩, ⟨87, _, true⟩, ⟨88, _, true⟩, ⟨89, _, true⟩]) (ks := []) (kk := []) (live := [3, 4, 5, 10, 89]) (env' := [(3, _), (4, _), (5, _), (10, _), (89, _)])
          (⟨Nat.le_of_ble_eq_true rfl, rfl,
            ⟨⟨rfl, rfl, fun _ τ hb ht hτ => R.al (hτ 3 _ rfl) ht (by decide)⟩,
            ⟨⟨rfl, rfl, fun _ τ hb ht hτ => R.al (hτ 5 _ rfl) ht (by decide)⟩,
            ⟨⟨rfl, rfl, fun _ τ hb ht hτ => R.mov (evt (hτ 10 _ rfl)) rfl ht⟩,
            ⟨⟨rfl, rfl, fun _ τ hb ht hτ => R.idxN (j) (SC.al (hτ 84 _ rfl) (hτ 5 _ rfl)) (evoI (evt (hτ 85 _ rfl))) rfl (by first | omega | (simp only [List.length_map, List.length_append, List.length_cons, List.length_nil, List.length_take, List.length_drop, List.length_replicate]; omega) | (simp; omega)) ht (by decide)⟩,
            ⟨⟨rfl, rfl, fun _ τ hb ht hτ => R.ldE (hτ 86 _ rfl) (SC.al (hτ 84 _ rfl) (hτ 5 _ rfl)) (map_get! (l := (lensP l i)) (by first | omega | (simp only [List.length_map, List.length_append, List.length_cons, List.length_nil, List.length_take, List.length_drop, List.length_replicate]; omega) | (simp; omega))) rfl rfl rfl rfl ht⟩,
            ⟨⟨rfl, rfl, fun _ τ hb ht hτ => R.slVN (0) ((lensP l i)[j]!) ((lensP l i)[j]!) (SC.al (hτ 83 _ rfl) (hτ 3 _ rfl)) rfl (evoI (evt (hτ 87 _ rfl))) rfl rfl (Nat.zero_le _) (by have hlj := lens_le l i j (by omega); simp only [List.length_map, Nat.zero_add]; omega) rfl ht (by decide)⟩,
            ⟨⟨rfl, rfl, fun _ τ hb ht hτ => R.callG hC (rsum_ok ((allP l i).take (lensP l i)[j]!) (by simp only [List.length_take]; omega)) (Bors.cons (Bor.sc (SC.vw (hτ 88 _ rfl) (SC.al (hτ 83 _ rfl) (hτ 3 _ rfl)) (by have hlj := lens_le l i j (by omega); simp only [List.length_map, Nat.zero_add]; omega)) (brw_part (fun _ => rfl))) Bors.nil) (FrsR.one (frs_hash _)) ht⟩,
            trivial⟩⟩⟩⟩⟩⟩⟩, rfl, rfl, rfl⟩)
          rfl (bx' := []) rfl (n' := 113) rfl (⟨rfl, _, R.alloc rfl (Nat.le_of_ble_eq_true rfl), ⟨rfl, _, R.stZ (show Sg.get _ 11 = some _ from rfl) (show Sg.box _ 11 = some _ from rfl) rfl (evt (show Sg.get _ 89 = some _ from rfl)) (by rfl) (by rfl) (by rfl) (by rfl) rfl, ⟨[3, 4, 5, 10, 11], [(3, _), (4, _), (5, _), (10, _), (11, _)], [(11, .var _)], 113, rfl, rfl, rfl, ?_⟩⟩⟩)
        refine W.seq ?_
        refine W.draw (m := 16) (an := [0, 0, 3, 7, 15, 0, 63, 127, 255, 255, 1023, 2047, 4095, 255, 16383, 32767]) hP (by decide) rfl (its := [⟨90, _, true⟩, ⟨91, _, true⟩, ⟨92, _, true⟩, ⟨93, _, true⟩, ⟨94, _, true⟩, ⟨95, _, true⟩, ⟨96, _, true⟩, ⟨97, _, true⟩, ⟨98, _, true⟩, ⟨99, _, true⟩, ⟨100, _, true⟩, ⟨101, _, true⟩, ⟨102, _, true⟩, ⟨103, _, true⟩, ⟨104, _, true⟩, ⟨105, _, true⟩]) (ks := []) (kk := []) (live := [3, 4, 5, 10, 105]) (env' := [(3, _), (4, _), (5, _), (10, _), (105, _)])
          (⟨Nat.le_of_ble_eq_true rfl, rfl,
            ⟨⟨rfl, rfl, fun _ τ hb ht hτ => R.al (hτ 4 _ rfl) ht (by decide)⟩,
            ⟨⟨rfl, rfl, fun _ τ hb ht hτ => R.mov (evt (hτ 10 _ rfl)) rfl ht⟩,
            ⟨⟨rfl, rfl, fun _ τ hb ht hτ => R.idxN (j) (SC.al (hτ 90 _ rfl) (hτ 4 _ rfl)) (evoI (evt (hτ 91 _ rfl))) rfl (by first | omega | (simp only [List.length_map, List.length_append, List.length_cons, List.length_nil, List.length_take, List.length_drop, List.length_replicate]; omega) | (simp; omega)) ht (by decide)⟩,
            ⟨⟨rfl, rfl, fun _ τ hb ht hτ => R.ldE (hτ 92 _ rfl) (SC.al (hτ 90 _ rfl) (hτ 4 _ rfl)) (map_get! (l := (stsP l i)) (by first | omega | (simp only [List.length_map, List.length_append, List.length_cons, List.length_nil, List.length_take, List.length_drop, List.length_replicate]; omega) | (simp; omega))) rfl rfl rfl rfl ht⟩,
            ⟨⟨rfl, rfl, fun _ τ hb ht hτ => R.callG hC (end_ok ((stsP l i)[j]!) (stsP_ok l i j (by omega))) (Bors.cons (Bor.pur (evt (hτ 93 _ rfl)) rfl rfl) Bors.nil) (FrsR.one (frs_hash _)) ht⟩,
            ⟨⟨rfl, rfl, fun _ τ hb ht hτ => R.ldP (hτ 11 _ rfl) (hb 11 _ rfl) rfl rfl rfl rfl ht⟩,
            ⟨⟨rfl, rfl, fun _ τ hb ht hτ => R.eqAX (evt (hτ 94 _ rfl)) (evt (hτ 95 _ rfl)) ht⟩,
            ⟨⟨rfl, rfl, fun _ τ hb ht hτ => R.mov (evt (hτ 96 _ rfl)) rfl ht⟩,
            ⟨⟨rfl, ⟨_, 97, rfl, rfl, .inl ⟨_, rfl, gw (v := false) (parts_ne l i j (by omega)) rfl⟩⟩, fun _ τ hb ht hτ => R.al (hτ 4 _ rfl) ht (by decide)⟩,
            ⟨⟨rfl, ⟨_, 97, rfl, rfl, .inl ⟨_, rfl, gw (v := false) (parts_ne l i j (by omega)) rfl⟩⟩, fun _ τ hb ht hτ => R.mov (evt (hτ 10 _ rfl)) rfl ht⟩,
            ⟨⟨rfl, ⟨_, 97, rfl, rfl, .inl ⟨_, rfl, gw (v := false) (parts_ne l i j (by omega)) rfl⟩⟩, fun _ τ hb ht hτ => R.idxN (j) (SC.al (hτ 98 _ rfl) (hτ 4 _ rfl)) (evoI (evt (hτ 99 _ rfl))) rfl (by first | omega | (simp only [List.length_map, List.length_append, List.length_cons, List.length_nil, List.length_take, List.length_drop, List.length_replicate]; omega) | (simp; omega)) ht (by decide)⟩,
            ⟨⟨rfl, ⟨_, 97, rfl, rfl, .inl ⟨_, rfl, gw (v := false) (parts_ne l i j (by omega)) rfl⟩⟩, fun _ τ hb ht hτ => R.ldE (hτ 100 _ rfl) (SC.al (hτ 98 _ rfl) (hτ 4 _ rfl)) (map_get! (l := (stsP l i)) (by first | omega | (simp only [List.length_map, List.length_append, List.length_cons, List.length_nil, List.length_take, List.length_drop, List.length_replicate]; omega) | (simp; omega))) rfl rfl rfl rfl ht⟩,
            ⟨⟨rfl, ⟨_, 97, rfl, rfl, .inl ⟨_, rfl, gw (v := false) (parts_ne l i j (by omega)) rfl⟩⟩, fun _ τ hb ht hτ => R.callG hC (end_ok ((stsP l i)[j]!) (stsP_ok l i j (by omega))) (Bors.cons (Bor.pur (evt (hτ 101 _ rfl)) rfl rfl) Bors.nil) (FrsR.one (frs_hash _)) ht⟩,
            ⟨⟨rfl, ⟨_, 97, rfl, rfl, .inl ⟨_, rfl, gw (v := false) (parts_ne l i j (by omega)) rfl⟩⟩, fun _ τ hb ht hτ => R.ldP (hτ 11 _ rfl) (hb 11 _ rfl) rfl rfl rfl rfl ht⟩,
            ⟨⟨rfl, ⟨_, 97, rfl, rfl, .inl ⟨_, rfl, gw (v := false) (parts_ne l i j (by omega)) rfl⟩⟩, fun _ τ hb ht hτ => R.eqAX (evt (hτ 102 _ rfl)) (evt (hτ 103 _ rfl)) ht⟩,
            ⟨⟨rfl, rfl, fun _ τ hb ht hτ => R.pickF (evt (hτ 97 _ rfl)) (parts_ne l i j (by omega)) (evt (hτ 104 _ rfl)) rfl ht⟩,
            trivial⟩⟩⟩⟩⟩⟩⟩⟩⟩⟩⟩⟩⟩⟩⟩⟩, rfl, rfl, rfl⟩)
          rfl (bx' := [(11, .var _)]) rfl (n' := 113) rfl (⟨[3, 4, 5, 10, 105], [(3, _), (4, _), (5, _), (10, _), (105, _)], [(11, .var _)], 113, rfl, rfl, rfl, ?_⟩)
        refine W.condF rfl (parts_ne l i j (by omega)) ?_
        refine W.skip ?_
        refine W.dropB [] (bx' := []) rfl rfl rfl ?_
        refine W.line (n := 3) (by decide) (its := [⟨81, _, true⟩, ⟨82, _, true⟩, ⟨10, _, true⟩]) (ks := []) (kk := []) (live := [3, 4, 5, 10]) (env' := [(3, _), (4, _), (5, _), (10, _)])
          (⟨Nat.le_of_ble_eq_true rfl, rfl,
            ⟨⟨rfl, rfl, fun _ τ hb ht hτ => R.mov (evt (hτ 10 _ rfl)) rfl ht⟩,
            ⟨⟨rfl, rfl, fun _ τ hb ht hτ => R.addN (j) (1) (evt (hτ 81 _ rfl)) (show ev _ _ (.const (.int .i64 1)) = some (.int ((1 : Nat) : Int)) from rfl) (by first | omega | (simp only [List.length_map, List.length_append, List.length_cons, List.length_nil, List.length_take, List.length_drop, List.length_replicate]; omega) | (simp; omega)) ht⟩,
            ⟨⟨rfl, rfl, fun _ τ hb ht hτ => R.asg (evt (hτ 82 _ rfl)) rfl ht⟩,
            trivial⟩⟩⟩, rfl, rfl, rfl⟩)
          rfl (bx' := []) rfl (n' := 113) rfl (⟨[3, 4, 5, 10], [(3, _), (4, _), (5, _), (10, _)], [], 113, rfl, rfl, rfl, ?_⟩)
        exact ⟨⟨(j + 1), (by first | omega | (simp only [List.length_map, List.length_append, List.length_cons, List.length_nil, List.length_take, List.length_drop, List.length_replicate]; omega) | (simp; omega))⟩, rfl, (by simp only []; omega)⟩
      · obtain rfl : j = i + 1 := by omega
        refine W.exit ?_
        refine W.seq ?_
        refine W.line (n := 1) (by decide) (its := []) (ks := []) (kk := []) (live := []) (env' := [])
          (⟨Nat.le_of_ble_eq_true rfl, rfl,
            trivial, rfl, rfl, rfl⟩)
          rfl (bx' := []) rfl (n' := 113) rfl (⟨rfl, _, R.alloc rfl (Nat.le_of_ble_eq_true rfl), ⟨[12], [(12, _)], [(12, .var _)], 113, rfl, rfl, rfl, ?_⟩⟩)
        refine W.seq ?_
        refine W.line (n := 8) (by decide) (its := [⟨106, _, true⟩, ⟨107, _, true⟩, ⟨108, _, true⟩, ⟨109, _, true⟩, ⟨110, _, true⟩, ⟨111, _, true⟩, ⟨112, _, true⟩, ⟨2, _, true⟩]) (ks := []) (kk := []) (live := [2]) (env' := [(2, _)])
          (⟨Nat.le_of_ble_eq_true rfl, rfl,
            ⟨⟨rfl, rfl, fun _ τ hb ht hτ => R.ldP (hτ 12 _ rfl) (hb 12 _ rfl) rfl rfl rfl rfl ht⟩,
            ⟨⟨rfl, rfl, fun _ τ hb ht hτ => R.callG hC (end_ok (ShaS.zero) (ShaS.zero_ok)) (Bors.cons (Bor.pur (evt (hτ 106 _ rfl)) rfl rfl) Bors.nil) (FrsR.one (frs_hash _)) ht⟩,
            ⟨⟨rfl, rfl, fun _ τ hb ht hτ => R.callG hC (rsum_ok [] (by decide)) (Bors.cons (Bor.nils (show ev _ _ (.const (.slice none 0 0)) = some (.nils) from rfl)) Bors.nil) (FrsR.one (frs_hash _)) ht⟩,
            ⟨⟨rfl, rfl, fun _ τ hb ht hτ => R.eqAE (evt (hτ 107 _ rfl)) (evt (hτ 108 _ rfl)) ht⟩,
            ⟨⟨rfl, rfl, fun _ τ hb ht hτ => R.mov (evt (hτ 109 _ rfl)) rfl ht⟩,
            ⟨⟨rfl, ⟨_, 110, rfl, rfl, .inl ⟨_, rfl, gw (v := true) (zero_eq) rfl⟩⟩, fun _ τ hb ht hτ => R.callG hC (works_ok) Bors.nil (FrsR.one (.bool _)) ht⟩,
            ⟨⟨rfl, rfl, fun _ τ hb ht hτ => R.pickT (evt (hτ 110 _ rfl)) (zero_eq) (evt (hτ 111 _ rfl)) rfl ht⟩,
            ⟨⟨rfl, rfl, fun _ τ hb ht hτ => R.asg (evt (hτ 112 _ rfl)) rfl ht⟩,
            trivial⟩⟩⟩⟩⟩⟩⟩⟩, rfl, rfl, rfl⟩)
          rfl (bx' := [(12, .var _)]) rfl (n' := 113) rfl (⟨[2], [(2, _)], [(12, .var _)], 113, rfl, rfl, rfl, ?_⟩)
        refine W.ret ?_
        exact Ends.one' (.inr rfl) rfl (rfl) rfl rfl trivial

end Go.Sx
