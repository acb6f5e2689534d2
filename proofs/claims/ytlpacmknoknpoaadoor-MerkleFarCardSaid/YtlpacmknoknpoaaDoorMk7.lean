/- Proved: what functions of the given program compute (used by the theorem of this claim). Conditions: none but those that each theorem states. -/
import Derived.Test.YtlpacmknoknpoaaDoorMk6
import Derived.Test.YtlpacmknoknpoaaDoorMkLaw
set_option linter.unusedVariables false
set_option linter.unusedSimpArgs false
set_option linter.unnecessarySimpa false
namespace Go.Sx
open Go.Proofs
theorem branch_ok (l : List Hs) (hl : allH l) (m : Nat) (hm : m < l.length) (hl0 : l.length ≤ 1000) : Fn Tryd.prog gl 13 [.sl none 32 (l.map hashD), .int ((m : Nat) : Int)] (.tup [.sl (some 23) 32 ((brS joinS l m).map hashD), .int 0]) := by
  refine Fn.ofR (n := 30) Tryd.func13 rfl rfl rfl (Nat.le_of_ble_eq_true rfl) fun W0 G hgl => ?_
  refine V.seq ?_
  refine V.of fun C hC hD => ?_
  refine W.line (n := 3) (by decide) (its := []) (ks := []) (kk := []) (live := [0, 1]) (env' := [(0, _), (1, _)])
    (⟨Nat.le_of_ble_eq_true rfl, rfl,
      trivial, rfl, rfl, rfl⟩)
    rfl (bx' := []) rfl (n' := 30) rfl (⟨rfl, _, R.box (evt (show Sg.get _ 1 = some _ from rfl)) rfl rfl (Nat.le_of_ble_eq_true rfl), ⟨rfl, _, R.alloc rfl (Nat.le_of_ble_eq_true rfl), ⟨rfl, _, R.asg (show ev _ _ (.const (.int .i64 0)) = some (.int ((0 : Nat) : Int)) from rfl) rfl (Nat.le_of_ble_eq_true rfl), ⟨[0, 3, 4], [(0, _), (3, _), (4, _)], [(4, .var _), (3, .var _)], 30, rfl, rfl, rfl, ?_⟩⟩⟩⟩)
  refine V.seq ?_
  refine V.of fun C hC hD => ?_
  refine W.seq ?_
  refine W.line (n := 8) (by decide) (its := [⟨7, _, true⟩, ⟨8, _, true⟩, ⟨9, _, true⟩, ⟨10, _, true⟩, ⟨11, _, true⟩, ⟨12, _, true⟩, ⟨13, _, true⟩, ⟨14, _, true⟩]) (ks := []) (kk := []) (live := [0, 3, 4, 14]) (env' := [(0, _), (3, _), (4, _), (14, _)])
    (⟨Nat.le_of_ble_eq_true rfl, rfl,
      ⟨⟨rfl, rfl, fun _ τ hb ht hτ => R.ldP (hτ 3 _ rfl) (hb 3 _ rfl) rfl rfl rfl rfl ht⟩,
      ⟨⟨rfl, rfl, fun _ τ hb ht hτ => R.lssN (m) (0) (evt (hτ 7 _ rfl)) (show ev _ _ (.const (.int .i64 0)) = some (.int ((0 : Nat) : Int)) from rfl) ht⟩,
      ⟨⟨rfl, rfl, fun _ τ hb ht hτ => R.mov (evt (hτ 8 _ rfl)) rfl ht⟩,
      ⟨⟨rfl, ⟨_, 9, rfl, rfl, .inl ⟨_, rfl, gw (v := false) (decide_eq_false (Nat.not_lt_zero _)) rfl⟩⟩, fun _ τ hb ht hτ => R.ldP (hτ 3 _ rfl) (hb 3 _ rfl) rfl rfl rfl rfl ht⟩,
      ⟨⟨rfl, ⟨_, 9, rfl, rfl, .inl ⟨_, rfl, gw (v := false) (decide_eq_false (Nat.not_lt_zero _)) rfl⟩⟩, fun _ τ hb ht hτ => R.mov (evt (hτ 0 _ rfl)) rfl ht⟩,
      ⟨⟨rfl, ⟨_, 9, rfl, rfl, .inl ⟨_, rfl, gw (v := false) (decide_eq_false (Nat.not_lt_zero _)) rfl⟩⟩, fun _ τ hb ht hτ => R.lenE (SC.sl (hτ 11 _ rfl)) (List.length_map _) ht⟩,
      ⟨⟨rfl, ⟨_, 9, rfl, rfl, .inl ⟨_, rfl, gw (v := false) (decide_eq_false (Nat.not_lt_zero _)) rfl⟩⟩, fun _ τ hb ht hτ => R.geqN (m) (l.length) (evt (hτ 10 _ rfl)) (evt (hτ 12 _ rfl)) ht⟩,
      ⟨⟨rfl, rfl, fun _ τ hb ht hτ => R.pickF (evt (hτ 9 _ rfl)) (decide_eq_false (Nat.not_lt_zero _)) (evt (hτ 13 _ rfl)) rfl ht⟩,
      trivial⟩⟩⟩⟩⟩⟩⟩⟩, rfl, rfl, rfl⟩)
    rfl (bx' := [(4, .var _), (3, .var _)]) rfl (n' := 30) rfl (⟨[0, 3, 4, 14], [(0, _), (3, _), (4, _), (14, _)], [(4, .var _), (3, .var _)], 30, rfl, rfl, rfl, ?_⟩)
  refine W.condF rfl (decide_eq_false (by omega)) ?_
  refine W.skip ?_
  refine V.seq ?_
  refine V.seq ?_
  refine V.of fun C hC hD => ?_
  refine W.line (n := 2) (by decide) (its := [⟨15, _, true⟩, ⟨16, _, true⟩]) (ks := []) (kk := []) (live := [3, 4, 16]) (env' := [(3, _), (4, _), (16, _)])
    (⟨Nat.le_of_ble_eq_true rfl, rfl,
      ⟨⟨rfl, rfl, fun _ τ hb ht hτ => R.mov (evt (hτ 0 _ rfl)) rfl ht⟩,
      ⟨⟨rfl, rfl, fun _ τ hb ht hτ => R.callPE hC (rows_ok l) (EvP.cons (evt (hτ 15 _ rfl)) rfl rfl EvP.nil) ht⟩,
      trivial⟩⟩, rfl, rfl, rfl⟩)
    rfl (bx' := [(4, .var _), (3, .var _)]) rfl (n' := 30) rfl (⟨[3, 4, 16], [(3, _), (4, _), (16, _)], [(4, .var _), (3, .var _)], 30, rfl, rfl, rfl, ?_⟩)
  refine V.block ?_
  refine V.asOwnB (id := 4) 23 32 rfl ?_
  refine V.rangeE [4, 3] (nRows l.length) (fun k => .sl none 32 ((rowA joinS l k).map hashD)) (fun k => [(4, .var (.sl (some 23) 32 ((brA joinS l m k).map hashD))), (3, .var (.int ((m / 2 ^ k : Nat) : Int)))]) (fun _ _ => False) (fun _ => True) hgl (rows_itr l hl hl0) rfl rfl rfl rfl (by simp only [brA, Nat.pow_zero, Nat.div_one]; rfl) rfl ⟨frs_hs _ _ _, rfl, .int _, rfl, trivial⟩ (fun _ => ⟨rfl, rfl⟩) (trivial) (fun k hk hJ C hC hD => ?_) ?_ ?_
  · have hrl := rowA_len joinS l k
    have hle := lenA_le l.length k
    have hra := rowA_all joinS_len hl k
    have hrp := rowA_pos joinS l k hk
    have hmk : m / 2 ^ k < 1000000 := Nat.lt_of_le_of_lt (Nat.div_le_self _ _) (by omega)
    have hbl : (brA joinS l m k).length ≤ k := brA_len k
    have hnl := nRows_le l.length
    show W _ _ _ _ _
    refine W.dropS (live := [3, 4, 17]) (env' := [(3, _), (4, _), (17, _)]) (bx' := [(4, .var _), (3, .var _)]) (n' := 30) rfl rfl rfl ?_
    refine W.line (n := 1) (by decide) (its := [⟨6, _, true⟩]) (ks := []) (kk := []) (live := [3, 4, 6]) (env' := [(3, _), (4, _), (6, _)])
      (⟨Nat.le_of_ble_eq_true rfl, rfl,
        ⟨⟨rfl, rfl, fun _ τ hb ht hτ => R.asg (evt (hτ 17 _ rfl)) rfl ht⟩,
        trivial⟩, rfl, rfl, rfl⟩)
      rfl (bx' := [(4, .var _), (3, .var _)]) rfl (n' := 30) rfl (⟨[3, 4, 6], [(3, _), (4, _), (6, _)], [(4, .var _), (3, .var _)], 30, rfl, rfl, rfl, ?_⟩)
    refine ⟨rfl, fun C hC hD => ?_⟩
    refine W.block ?_
    refine W.seq ?_
    refine W.seq ?_
    refine W.line (n := 3) (by decide) (its := [⟨18, _, true⟩, ⟨19, _, true⟩, ⟨20, _, true⟩]) (ks := []) (kk := []) (live := [3, 4, 6, 20]) (env' := [(3, _), (4, _), (6, _), (20, _)])
      (⟨Nat.le_of_ble_eq_true rfl, rfl,
        ⟨⟨rfl, rfl, fun _ τ hb ht hτ => R.mov (evt (hτ 6 _ rfl)) rfl ht⟩,
        ⟨⟨rfl, rfl, fun _ τ hb ht hτ => R.lenE (SC.sl (hτ 18 _ rfl)) (List.length_map _) ht⟩,
        ⟨⟨rfl, rfl, fun _ τ hb ht hτ => R.gtrN ((rowA joinS l k).length) (1) (evt (hτ 19 _ rfl)) (show ev _ _ (.const (.int .i64 1)) = some (.int ((1 : Nat) : Int)) from rfl) ht⟩,
        trivial⟩⟩⟩, rfl, rfl, rfl⟩)
      rfl (bx' := [(4, .var _), (3, .var _)]) rfl (n' := 30) rfl (⟨[3, 4, 6, 20], [(3, _), (4, _), (6, _), (20, _)], [(4, .var _), (3, .var _)], 30, rfl, rfl, rfl, ?_⟩)
    refine W.condD rfl (fun hc20 => ?_) (fun hc20 => ?_)
    · refine W.draw (m := 5) (an := [0, 0, 0, 6, 14, 31, 63]) hP (by decide) rfl (its := [⟨21, _, true⟩, ⟨22, _, true⟩, ⟨23, _, true⟩, ⟨24, _, true⟩, ⟨25, _, true⟩]) (ks := []) (kk := []) (live := [3, 4, 21, 25]) (env' := [(3, _), (4, _), (21, _), (25, _)])
        (⟨Nat.le_of_ble_eq_true rfl, rfl,
          ⟨⟨rfl, rfl, fun _ τ hb ht hτ => R.ldO (hτ 4 _ rfl) (hb 4 _ rfl) rfl ht⟩,
          ⟨⟨rfl, rfl, fun _ τ hb ht hτ => R.mov (evt (hτ 6 _ rfl)) rfl ht⟩,
          ⟨⟨rfl, rfl, fun _ τ hb ht hτ => R.ldP (hτ 3 _ rfl) (hb 3 _ rfl) rfl rfl rfl rfl ht⟩,
          ⟨⟨rfl, rfl, fun _ τ hb ht hτ => R.callG hC (partner_ok (rowA joinS l k) (m / 2 ^ k) hrp (by omega) hmk) (Bors.cons (Bor.pur (evt (hτ 22 _ rfl)) rfl rfl) (Bors.cons (Bor.pur (evt (hτ 23 _ rfl)) rfl rfl) Bors.nil)) (FrsR.one (frs_hash _)) ht⟩,
          ⟨⟨rfl, rfl, fun _ τ hb ht hτ => R.bslE (z := 32) (.cons (evt (hτ 24 _ rfl)) .nil) ⟨⟨rfl, rfl, rfl⟩, trivial⟩ rfl ht (by decide)⟩,
          trivial⟩⟩⟩⟩⟩, rfl, rfl, rfl⟩)
        rfl (bx' := [(4, .var _), (3, .var _)]) rfl (n' := 30) rfl (⟨rfl, _, R.appB (show Sg.get _ 21 = some _ from rfl) (show Sg.box _ 4 = some _ from rfl) rfl (show Sg.get _ 21 = some _ from rfl) (SrcO.sc (SC.sl (show Sg.get _ 25 = some _ from rfl)) (pur_lit rfl)) (app_one) (by first | omega | (simp only [List.length_map, List.length_append, List.length_cons, List.length_nil, List.length_take, List.length_drop, List.length_replicate]; omega) | (simp; omega)) (Nat.le_of_ble_eq_true rfl) (by decide) (by decide), ⟨rfl, _, R.stOZ (show Sg.get _ 4 = some _ from rfl) (show Sg.box _ 4 = some _ from rfl) rfl (show Sg.get _ 26 = some _ from rfl) rfl rfl (by rfl) (by rfl) rfl rfl, ⟨[3], [(3, _)], [(4, .var _), (3, .var _)], 30, rfl, rfl, rfl, ?_⟩⟩⟩)
      refine W.line (n := 3) (by decide) (its := [⟨27, _, true⟩, ⟨28, _, true⟩]) (ks := []) (kk := []) (live := [3, 28]) (env' := [(3, _), (28, _)])
        (⟨Nat.le_of_ble_eq_true rfl, rfl,
          ⟨⟨rfl, rfl, fun _ τ hb ht hτ => R.ldP (hτ 3 _ rfl) (hb 3 _ rfl) rfl rfl rfl rfl ht⟩,
          ⟨⟨rfl, rfl, fun _ τ hb ht hτ => R.quoN (m / 2 ^ k) (2) (evt (hτ 27 _ rfl)) (show ev _ _ (.const (.int .i64 2)) = some (.int ((2 : Nat) : Int)) from rfl) (by first | omega | (simp only [List.length_map, List.length_append, List.length_cons, List.length_nil, List.length_take, List.length_drop, List.length_replicate]; omega) | (simp; omega)) (by first | omega | (simp only [List.length_map, List.length_append, List.length_cons, List.length_nil, List.length_take, List.length_drop, List.length_replicate]; omega) | (simp; omega)) ht⟩,
          trivial⟩⟩, rfl, rfl, rfl⟩)
        rfl (bx' := [(4, .var _), (3, .var _)]) rfl (n' := 30) rfl (⟨rfl, _, R.stZ (show Sg.get _ 3 = some _ from rfl) (show Sg.box _ 3 = some _ from rfl) rfl (evt (show Sg.get _ 28 = some _ from rfl)) (by rfl) (by rfl) (by rfl) (by rfl) rfl, ⟨[], [], [(4, .var _), (3, .var _)], 30, rfl, rfl, rfl, ?_⟩⟩)
      exact ⟨.inl ⟨rfl, by first | (simp only [brA, if_pos hc20, Nat.pow_succ, ← Nat.div_div_eq_div_mul]; rfl) | (simp only [brA, if_neg hc20, Nat.pow_succ, ← Nat.div_div_eq_div_mul]; rfl), trivial⟩, ⟨frs_hs _ _ _, rfl, .int _, rfl, trivial⟩⟩
    · refine W.skip ?_
      refine W.line (n := 3) (by decide) (its := [⟨27, _, true⟩, ⟨28, _, true⟩]) (ks := []) (kk := []) (live := [3, 28]) (env' := [(3, _), (28, _)])
        (⟨Nat.le_of_ble_eq_true rfl, rfl,
          ⟨⟨rfl, rfl, fun _ τ hb ht hτ => R.ldP (hτ 3 _ rfl) (hb 3 _ rfl) rfl rfl rfl rfl ht⟩,
          ⟨⟨rfl, rfl, fun _ τ hb ht hτ => R.quoN (m / 2 ^ k) (2) (evt (hτ 27 _ rfl)) (show ev _ _ (.const (.int .i64 2)) = some (.int ((2 : Nat) : Int)) from rfl) (by first | omega | (simp only [List.length_map, List.length_append, List.length_cons, List.length_nil, List.length_take, List.length_drop, List.length_replicate]; omega) | (simp; omega)) (by first | omega | (simp only [List.length_map, List.length_append, List.length_cons, List.length_nil, List.length_take, List.length_drop, List.length_replicate]; omega) | (simp; omega)) ht⟩,
          trivial⟩⟩, rfl, rfl, rfl⟩)
        rfl (bx' := [(4, .var _), (3, .var _)]) rfl (n' := 30) rfl (⟨rfl, _, R.stZ (show Sg.get _ 3 = some _ from rfl) (show Sg.box _ 3 = some _ from rfl) rfl (evt (show Sg.get _ 28 = some _ from rfl)) (by rfl) (by rfl) (by rfl) (by rfl) rfl, ⟨[], [], [(4, .var _), (3, .var _)], 30, rfl, rfl, rfl, ?_⟩⟩)
      exact ⟨.inl ⟨rfl, by first | (simp only [brA, if_pos hc20, Nat.pow_succ, ← Nat.div_div_eq_div_mul]; rfl) | (simp only [brA, if_neg hc20, Nat.pow_succ, ← Nat.div_div_eq_div_mul]; rfl), trivial⟩, ⟨frs_hs _ _ _, rfl, .int _, rfl, trivial⟩⟩
  · intro hJ
    refine V.of fun C hC hD => ?_
    refine W.seq ?_
    refine W.line (n := 3) (by decide) (its := [⟨29, _, true⟩]) (ks := []) (kk := []) (live := [4, 29]) (env' := [(4, _), (29, _)])
      (⟨Nat.le_of_ble_eq_true rfl, rfl,
        ⟨⟨rfl, rfl, fun _ τ hb ht hτ => R.ldO (hτ 4 _ rfl) (hb 4 _ rfl) rfl ht⟩,
        trivial⟩, rfl, rfl, rfl⟩)
      rfl (bx' := [(4, .var _), (3, .var _)]) rfl (n' := 30) rfl (⟨rfl, _, R.stTB (show Sg.get _ 29 = some _ from rfl) (show Sg.box _ 4 = some _ from rfl) rfl (show Sg.get _ 29 = some _ from rfl) (show Sg.get _ 4 = some _ from rfl) rfl, ⟨rfl, _, R.asg (show ev _ _ (.const (.int .i64 0)) = some (.int ((0 : Nat) : Int)) from rfl) rfl (Nat.le_of_ble_eq_true rfl), ⟨[4, 5], [(4, _), (5, _)], [(4, .var _), (3, .var _)], 30, rfl, rfl, rfl, ?_⟩⟩⟩)
    refine W.ret ?_
    exact Ends.many (.inr rfl) (.cons rfl rfl rfl (show LdT _ 24 1 false from inferInstance) (.cons rfl rfl rfl trivial .nil)) (rfl) (show [(4, false), (5, true)].Nodup by decide)
  · exact fun e bx he hs => hs.elim

theorem fold_ok (id : Hs) (br : List Hs) (k : Int) (hi : id.length = 32) (hbr : allH br) (hb0 : br.length ≤ 1000) (hk0 : -9223372036854775808 ≤ k ∧ k ≤ 9223372036854775807) : Fn Tryd.prog gl 7 [hashD id, .sl none 32 (br.map hashD), .int k] (.tup [hashD (foldS joinS id br k).1, .int (foldS joinS id br k).2]) := by
  refine Fn.of (n := 51) Tryd.func7 rfl rfl rfl (Nat.le_of_ble_eq_true rfl) fun C hC hD => ?_
  refine W.seq ?_
  refine W.line (n := 3) (by decide) (its := []) (ks := []) (kk := []) (live := [0, 1, 2]) (env' := [(0, _), (1, _), (2, _)])
    (⟨Nat.le_of_ble_eq_true rfl, rfl,
      trivial, rfl, rfl, rfl⟩)
    rfl (bx' := []) rfl (n' := 51) rfl (⟨rfl, _, R.box (evt (show Sg.get _ 0 = some _ from rfl)) rfl rfl (Nat.le_of_ble_eq_true rfl), ⟨rfl, _, R.alloc rfl (Nat.le_of_ble_eq_true rfl), ⟨rfl, _, R.asg (show ev _ _ (.const (.int .i64 0)) = some (.int ((0 : Nat) : Int)) from rfl) rfl (Nat.le_of_ble_eq_true rfl), ⟨[1, 2, 3, 6], [(1, _), (2, _), (3, _), (6, _)], [(6, .var _), (3, .var _)], 51, rfl, rfl, rfl, ?_⟩⟩⟩⟩)
  refine W.seq ?_
  refine W.block ?_
  refine W.seq ?_
  refine W.line (n := 4) (by decide) (its := [⟨12, _, true⟩, ⟨13, _, true⟩, ⟨14, _, true⟩, ⟨11, _, true⟩]) (ks := []) (kk := []) (live := [1, 2, 3, 6, 11]) (env' := [(1, _), (2, _), (3, _), (6, _), (11, _)])
    (⟨Nat.le_of_ble_eq_true rfl, rfl,
      ⟨⟨rfl, rfl, fun _ τ hb ht hτ => R.mov (evt (hτ 1 _ rfl)) rfl ht⟩,
      ⟨⟨rfl, rfl, fun _ τ hb ht hτ => R.lenE (SC.sl (hτ 12 _ rfl)) (List.length_map _) ht⟩,
      ⟨⟨rfl, rfl, fun _ τ hb ht hτ => R.gtrN (br.length) (32) (evt (hτ 13 _ rfl)) (show ev _ _ (.const (.int .i64 32)) = some (.int ((32 : Nat) : Int)) from rfl) ht⟩,
      ⟨⟨rfl, rfl, fun _ τ hb ht hτ => R.asg (evt (hτ 14 _ rfl)) rfl ht⟩,
      trivial⟩⟩⟩⟩, rfl, rfl, rfl⟩)
    rfl (bx' := [(6, .var _), (3, .var _)]) rfl (n' := 51) rfl (⟨[1, 2, 3, 6, 11], [(1, _), (2, _), (3, _), (6, _), (11, _)], [(6, .var _), (3, .var _)], 51, rfl, rfl, rfl, ?_⟩)
  refine W.condD rfl (fun hc11 => ?_) (fun hc11 => ?_)
  · refine W.seq ?_
    refine W.line (n := 3) (by decide) (its := [⟨15, _, true⟩]) (ks := []) (kk := []) (live := [6, 15]) (env' := [(6, _), (15, _)])
      (⟨Nat.le_of_ble_eq_true rfl, rfl,
        ⟨⟨rfl, rfl, fun _ τ hb ht hτ => R.bldAZ rfl ht⟩,
        trivial⟩, rfl, rfl, rfl⟩)
      rfl (bx' := [(6, .var _), (3, .var _)]) rfl (n' := 51) rfl (⟨rfl, _, R.stZ (show Sg.get _ 6 = some _ from rfl) (show Sg.box _ 6 = some _ from rfl) rfl (evt (show Sg.get _ 15 = some _ from rfl)) (by rfl) (by rfl) (by rfl) (by rfl) rfl, ⟨rfl, _, R.asg (show ev _ _ (.const (.int .i64 6)) = some (.int ((6 : Nat) : Int)) from rfl) rfl (Nat.le_of_ble_eq_true rfl), ⟨[6, 7], [(6, _), (7, _)], [(6, .var _), (3, .var _)], 51, rfl, rfl, rfl, ?_⟩⟩⟩)
    refine W.ret ?_
    exact Ends.many (.inr rfl) (.cons rfl rfl rfl (show LdT _ 23 32 true from inferInstance) (.cons rfl rfl rfl trivial .nil)) (by simp only [foldS, if_pos hc11]; rfl) (show [(6, false), (7, true)].Nodup by decide)
  · refine W.seq ?_
    by_cases hn : k < 0
    · refine W.line (n := 10) (by decide) (its := [⟨17, _, true⟩, ⟨18, _, true⟩, ⟨19, _, true⟩, ⟨20, .dead, false⟩, ⟨21, .dead, false⟩, ⟨22, .dead, false⟩, ⟨23, .dead, false⟩, ⟨24, .dead, false⟩, ⟨25, _, true⟩, ⟨16, _, true⟩]) (ks := []) (kk := []) (live := [1, 2, 3, 6, 16]) (env' := [(1, _), (2, _), (3, _), (6, _), (16, _)])
        (⟨Nat.le_of_ble_eq_true rfl, rfl,
          ⟨⟨rfl, rfl, fun _ τ hb ht hτ => R.mov (evt (hτ 2 _ rfl)) rfl ht⟩,
          ⟨⟨rfl, rfl, fun _ τ hb ht hτ => R.bin (evt (hτ 17 _ rfl)) (show ev _ _ (.const (.int .i64 0)) = some (.int ((0 : Nat) : Int)) from rfl) rfl trivial ht⟩,
          ⟨⟨rfl, rfl, fun _ τ hb ht hτ => R.mov (evt (hτ 18 _ rfl)) rfl ht⟩,
          ⟨⟨rfl, ⟨_, 19, rfl, rfl, .inl ⟨_, rfl, gw (v := true) (decide_eq_true hn) rfl⟩⟩, fun h => absurd h (by decide)⟩,
          ⟨⟨rfl, ⟨_, 19, rfl, rfl, .inl ⟨_, rfl, gw (v := true) (decide_eq_true hn) rfl⟩⟩, fun h => absurd h (by decide)⟩,
          ⟨⟨rfl, ⟨_, 19, rfl, rfl, .inl ⟨_, rfl, gw (v := true) (decide_eq_true hn) rfl⟩⟩, fun h => absurd h (by decide)⟩,
          ⟨⟨rfl, ⟨_, 19, rfl, rfl, .inl ⟨_, rfl, gw (v := true) (decide_eq_true hn) rfl⟩⟩, fun h => absurd h (by decide)⟩,
          ⟨⟨rfl, ⟨_, 19, rfl, rfl, .inl ⟨_, rfl, gw (v := true) (decide_eq_true hn) rfl⟩⟩, fun h => absurd h (by decide)⟩,
          ⟨⟨rfl, rfl, fun _ τ hb ht hτ => R.pickT (evt (hτ 19 _ rfl)) (decide_eq_true hn) (show ev _ _ (.const (.bool true)) = some (.bool true) from rfl) rfl ht⟩,
          ⟨⟨rfl, rfl, fun _ τ hb ht hτ => R.asg (evt (hτ 25 _ rfl)) rfl ht⟩,
          trivial⟩⟩⟩⟩⟩⟩⟩⟩⟩⟩, rfl, rfl, rfl⟩)
        rfl (bx' := [(6, .var _), (3, .var _)]) rfl (n' := 51) rfl (⟨[1, 2, 3, 6, 16], [(1, _), (2, _), (3, _), (6, _), (16, _)], [(6, .var _), (3, .var _)], 51, rfl, rfl, rfl, ?_⟩)
      refine W.condT rfl (rfl) ?_
      refine W.seq ?_
      refine W.line (n := 3) (by decide) (its := [⟨26, _, true⟩]) (ks := []) (kk := []) (live := [6, 26]) (env' := [(6, _), (26, _)])
        (⟨Nat.le_of_ble_eq_true rfl, rfl,
          ⟨⟨rfl, rfl, fun _ τ hb ht hτ => R.bldAZ rfl ht⟩,
          trivial⟩, rfl, rfl, rfl⟩)
        rfl (bx' := [(6, .var _), (3, .var _)]) rfl (n' := 51) rfl (⟨rfl, _, R.stZ (show Sg.get _ 6 = some _ from rfl) (show Sg.box _ 6 = some _ from rfl) rfl (evt (show Sg.get _ 26 = some _ from rfl)) (by rfl) (by rfl) (by rfl) (by rfl) rfl, ⟨rfl, _, R.asg (show ev _ _ (.const (.int .i64 1)) = some (.int ((1 : Nat) : Int)) from rfl) rfl (Nat.le_of_ble_eq_true rfl), ⟨[6, 7], [(6, _), (7, _)], [(6, .var _), (3, .var _)], 51, rfl, rfl, rfl, ?_⟩⟩⟩)
      refine W.ret ?_
      exact Ends.many (.inr rfl) (.cons rfl rfl rfl (show LdT _ 23 32 true from inferInstance) (.cons rfl rfl rfl trivial .nil)) (by simp only [foldS, if_neg hc11, if_pos (show k < 0 ∨ 0 < k.toNat / 2 ^ br.length from .inl hn)]; rfl) (show [(6, false), (7, true)].Nodup by decide)
    · refine W.line (n := 10) (by decide) (its := [⟨17, _, true⟩, ⟨18, _, true⟩, ⟨19, _, true⟩, ⟨20, _, true⟩, ⟨21, _, true⟩, ⟨22, _, true⟩, ⟨23, _, true⟩, ⟨24, _, true⟩, ⟨25, _, true⟩, ⟨16, _, true⟩]) (ks := []) (kk := []) (live := [1, 2, 3, 6, 16]) (env' := [(1, _), (2, _), (3, _), (6, _), (16, _)])
        (⟨Nat.le_of_ble_eq_true rfl, rfl,
          ⟨⟨rfl, rfl, fun _ τ hb ht hτ => R.mov (evt (hτ 2 _ rfl)) rfl ht⟩,
          ⟨⟨rfl, rfl, fun _ τ hb ht hτ => R.bin (evt (hτ 17 _ rfl)) (show ev _ _ (.const (.int .i64 0)) = some (.int ((0 : Nat) : Int)) from rfl) rfl trivial ht⟩,
          ⟨⟨rfl, rfl, fun _ τ hb ht hτ => R.mov (evt (hτ 18 _ rfl)) rfl ht⟩,
          ⟨⟨rfl, ⟨_, 19, rfl, rfl, .inl ⟨_, rfl, gw (v := false) (decide_eq_false hn) rfl⟩⟩, fun _ τ hb ht hτ => R.mov (evt (hτ 2 _ rfl)) rfl ht⟩,
          ⟨⟨rfl, ⟨_, 19, rfl, rfl, .inl ⟨_, rfl, gw (v := false) (decide_eq_false hn) rfl⟩⟩, fun _ τ hb ht hτ => R.mov (evt (hτ 1 _ rfl)) rfl ht⟩,
          ⟨⟨rfl, ⟨_, 19, rfl, rfl, .inl ⟨_, rfl, gw (v := false) (decide_eq_false hn) rfl⟩⟩, fun _ τ hb ht hτ => R.lenE (SC.sl (hτ 21 _ rfl)) (List.length_map _) ht⟩,
          ⟨⟨rfl, ⟨_, 19, rfl, rfl, .inl ⟨_, rfl, gw (v := false) (decide_eq_false hn) rfl⟩⟩, fun _ τ hb ht hτ => R.binE (d := .int ((k.toNat / 2 ^ br.length : Nat) : Int)) (evt (hτ 20 _ rfl)) (evt (hτ 22 _ rfl)) rfl (show (0 : Int) ≤ _ by first | omega | (simp only [List.length_map, List.length_append, List.length_cons, List.length_nil, List.length_take, List.length_drop, List.length_replicate]; omega) | (simp; omega)) (congrArg D.int (fdiv_pow k br.length (by omega) (by omega))) ht⟩,
          ⟨⟨rfl, ⟨_, 19, rfl, rfl, .inl ⟨_, rfl, gw (v := false) (decide_eq_false hn) rfl⟩⟩, fun _ τ hb ht hτ => R.gtrN (k.toNat / 2 ^ br.length) (0) (evt (hτ 23 _ rfl)) (show ev _ _ (.const (.int .i64 0)) = some (.int ((0 : Nat) : Int)) from rfl) ht⟩,
          ⟨⟨rfl, rfl, fun _ τ hb ht hτ => R.pickF (evt (hτ 19 _ rfl)) (decide_eq_false hn) (evt (hτ 24 _ rfl)) rfl ht⟩,
          ⟨⟨rfl, rfl, fun _ τ hb ht hτ => R.asg (evt (hτ 25 _ rfl)) rfl ht⟩,
          trivial⟩⟩⟩⟩⟩⟩⟩⟩⟩⟩, rfl, rfl, rfl⟩)
        rfl (bx' := [(6, .var _), (3, .var _)]) rfl (n' := 51) rfl (⟨[1, 2, 3, 6, 16], [(1, _), (2, _), (3, _), (6, _), (16, _)], [(6, .var _), (3, .var _)], 51, rfl, rfl, rfl, ?_⟩)
      refine W.condD rfl (fun hc16 => ?_) (fun hc16 => ?_)
      · refine W.seq ?_
        refine W.line (n := 3) (by decide) (its := [⟨26, _, true⟩]) (ks := []) (kk := []) (live := [6, 26]) (env' := [(6, _), (26, _)])
          (⟨Nat.le_of_ble_eq_true rfl, rfl,
            ⟨⟨rfl, rfl, fun _ τ hb ht hτ => R.bldAZ rfl ht⟩,
            trivial⟩, rfl, rfl, rfl⟩)
          rfl (bx' := [(6, .var _), (3, .var _)]) rfl (n' := 51) rfl (⟨rfl, _, R.stZ (show Sg.get _ 6 = some _ from rfl) (show Sg.box _ 6 = some _ from rfl) rfl (evt (show Sg.get _ 26 = some _ from rfl)) (by rfl) (by rfl) (by rfl) (by rfl) rfl, ⟨rfl, _, R.asg (show ev _ _ (.const (.int .i64 1)) = some (.int ((1 : Nat) : Int)) from rfl) rfl (Nat.le_of_ble_eq_true rfl), ⟨[6, 7], [(6, _), (7, _)], [(6, .var _), (3, .var _)], 51, rfl, rfl, rfl, ?_⟩⟩⟩)
        refine W.ret ?_
        exact Ends.many (.inr rfl) (.cons rfl rfl rfl (show LdT _ 23 32 true from inferInstance) (.cons rfl rfl rfl trivial .nil)) (by simp only [foldS, if_neg hc11, if_pos (show k < 0 ∨ 0 < k.toNat / 2 ^ br.length from .inr hc16)]; rfl) (show [(6, false), (7, true)].Nodup by decide)
      · refine W.skip ?_
        refine W.seq ?_
        obtain ⟨m, rfl⟩ := Int.eq_ofNat_of_zero_le (show 0 ≤ k by omega)
        have hne : ¬ ((m : Int) < 0 ∨ 0 < (m : Int).toNat / 2 ^ br.length) := by rintro (h | h) <;> first | omega | exact hc16 h
        have hfs : foldS joinS id br (m : Int) = foldL joinS id br m := by simp only [foldS, if_neg hc11, if_neg hne]; rfl
        refine W.line (n := 3) (by decide) (its := [⟨27, _, true⟩]) (ks := []) (kk := []) (live := [1, 2, 6, 27]) (env' := [(1, _), (2, _), (6, _), (27, _)])
          (⟨Nat.le_of_ble_eq_true rfl, rfl,
            ⟨⟨rfl, rfl, fun _ τ hb ht hτ => R.ldP (hτ 3 _ rfl) (hb 3 _ rfl) rfl rfl rfl rfl ht⟩,
            trivial⟩, rfl, rfl, rfl⟩)
          rfl (bx' := [(6, .var _), (3, .var _)]) rfl (n' := 51) rfl (⟨rfl, _, R.alloc rfl (Nat.le_of_ble_eq_true rfl), ⟨rfl, _, R.stZ (show Sg.get _ 8 = some _ from rfl) (show Sg.box _ 8 = some _ from rfl) rfl (evt (show Sg.get _ 27 = some _ from rfl)) (by rfl) (by rfl) (by rfl) (by rfl) rfl, ⟨[1, 2, 6, 8], [(1, _), (2, _), (6, _), (8, _)], [(8, .var _), (6, .var _), (3, .var _)], 51, rfl, rfl, rfl, ?_⟩⟩⟩)
        refine W.seq ?_
        refine W.seq ?_
        refine W.line (n := 3) (by decide) (its := [⟨28, _, true⟩, ⟨29, _, true⟩, ⟨30, _, true⟩]) (ks := []) (kk := []) (live := [2, 6, 8, 28, 29, 30]) (env' := [(2, _), (6, _), (8, _), (28, _), (29, _), (30, _)])
          (⟨Nat.le_of_ble_eq_true rfl, rfl,
            ⟨⟨rfl, rfl, fun _ τ hb ht hτ => R.mov (evt (hτ 1 _ rfl)) rfl ht⟩,
            ⟨⟨rfl, rfl, fun _ τ hb ht hτ => R.lenE (SC.sl (hτ 28 _ rfl)) (List.length_map _) ht⟩,
            ⟨⟨rfl, rfl, fun _ τ hb ht hτ => R.mov (show ev _ _ (.const (.int .i64 0)) = some (.int ((0 : Nat) : Int)) from rfl) rfl ht⟩,
            trivial⟩⟩⟩, rfl, rfl, rfl⟩)
          rfl (bx' := [(8, .var _), (6, .var _), (3, .var _)]) rfl (n' := 51) rfl (⟨[2, 6, 8, 28, 29, 30], [(2, _), (6, _), (8, _), (28, _), (29, _), (30, _)], [(8, .var _), (6, .var _), (3, .var _)], 51, rfl, rfl, rfl, ?_⟩)
        refine W.block ?_
        refine W.loop (α := {q__ : Nat × Nat × Hs // (q__.1 ≤ br.length ∧ q__.2.1 ≤ m) ∧ q__.2.2.length = 32 ∧ foldL joinS q__.2.2 (br.drop q__.1) q__.2.1 = foldL joinS id br m}) (fun q__ => ⟨51, [(2, .int ((q__.1.2.1 : Nat) : Int)), (6, .ptr 6 0 []), (8, .ptr 8 0 []), (28, .sl none 32 (br.map hashD)), (29, .int ((br.length : Nat) : Int)), (30, .int ((q__.1.1 : Nat) : Int))], [(8, .var (hashD q__.1.2.2)), (6, .var (hashD zero32)), (3, .var (hashD id))]⟩) (fun q__ => br.length - q__.1.1) ⟨(0, m, id), ⟨⟨Nat.zero_le _, Nat.le_refl _⟩, hi, rfl⟩⟩ rfl ?_
        rintro ⟨⟨j, kk, h⟩, ⟨⟨hj, hkm⟩, hh, heq⟩⟩
        show W _ _ _ _ ⟨51, [(2, .int ((kk : Nat) : Int)), (6, .ptr 6 0 []), (8, .ptr 8 0 []), (28, .sl none 32 (br.map hashD)), (29, .int ((br.length : Nat) : Int)), (30, .int ((j : Nat) : Int))], [(8, .var (hashD h)), (6, .var (hashD zero32)), (3, .var (hashD id))]⟩
        have hj : j ≤ br.length := hj
        have hkm : kk ≤ m := hkm
        have hh : h.length = 32 := hh
        have heq : foldL joinS h (br.drop j) kk = foldL joinS id br m := heq
        refine W.seq ?_
        refine W.line (n := 1) (by decide) (its := [⟨31, _, true⟩]) (ks := []) (kk := []) (live := [2, 6, 8, 28, 29, 30, 31]) (env' := [(2, _), (6, _), (8, _), (28, _), (29, _), (30, _), (31, _)])
          (⟨Nat.le_of_ble_eq_true rfl, rfl,
            ⟨⟨rfl, rfl, fun _ τ hb ht hτ => R.lssN (j) (br.length) (evt (hτ 30 _ rfl)) (evt (hτ 29 _ rfl)) ht⟩,
            trivial⟩, rfl, rfl, rfl⟩)
          rfl (bx' := [(8, .var _), (6, .var _), (3, .var _)]) rfl (n' := 51) rfl (⟨[2, 6, 8, 28, 29, 30, 31], [(2, _), (6, _), (8, _), (28, _), (29, _), (30, _), (31, _)], [(8, .var _), (6, .var _), (3, .var _)], 51, rfl, rfl, rfl, ?_⟩)
        refine W.seq ?_
        refine W.condD rfl (fun hc31 => ?_) (fun hc31 => ?_)
        · refine W.skip ?_
          refine W.seq ?_
          refine W.block ?_
          refine W.seq ?_
          refine W.line (n := 4) (by decide) (its := [⟨32, _, true⟩, ⟨33, _, true⟩]) (ks := []) (kk := []) (live := [2, 6, 8, 28, 29, 30, 33]) (env' := [(2, _), (6, _), (8, _), (28, _), (29, _), (30, _), (33, _)])
            (⟨Nat.le_of_ble_eq_true rfl, rfl,
              ⟨⟨rfl, rfl, fun _ τ hb ht hτ => R.idxN (j) (SC.sl (hτ 28 _ rfl)) (evoI (evt (hτ 30 _ rfl))) rfl (by first | omega | (simp only [List.length_map, List.length_append, List.length_cons, List.length_nil, List.length_take, List.length_drop, List.length_replicate]; omega) | (simp; omega)) ht (by decide)⟩,
              ⟨⟨rfl, rfl, fun _ τ hb ht hτ => R.ldE (hτ 32 _ rfl) (SC.sl (hτ 28 _ rfl)) (map_get! (l := br) (by first | omega | (simp only [List.length_map, List.length_append, List.length_cons, List.length_nil, List.length_take, List.length_drop, List.length_replicate]; omega) | (simp; omega))) rfl rfl rfl rfl ht⟩,
              trivial⟩⟩, rfl, rfl, rfl⟩)
            rfl (bx' := [(8, .var _), (6, .var _), (3, .var _)]) rfl (n' := 51) rfl (⟨rfl, _, R.alloc rfl (Nat.le_of_ble_eq_true rfl), ⟨rfl, _, R.stZ (show Sg.get _ 10 = some _ from rfl) (show Sg.box _ 10 = some _ from rfl) rfl (evt (show Sg.get _ 33 = some _ from rfl)) (by rfl) (by rfl) (by rfl) (by rfl) rfl, ⟨[2, 6, 8, 10, 28, 29, 30], [(2, _), (6, _), (8, _), (10, _), (28, _), (29, _), (30, _)], [(10, .var _), (8, .var _), (6, .var _), (3, .var _)], 51, rfl, rfl, rfl, ?_⟩⟩⟩)
          refine W.seq ?_
          refine W.seq ?_
          refine W.line (n := 3) (by decide) (its := [⟨34, _, true⟩, ⟨35, _, true⟩, ⟨36, _, true⟩]) (ks := []) (kk := []) (live := [2, 6, 8, 10, 28, 29, 30, 36]) (env' := [(2, _), (6, _), (8, _), (10, _), (28, _), (29, _), (30, _), (36, _)])
            (⟨Nat.le_of_ble_eq_true rfl, rfl,
              ⟨⟨rfl, rfl, fun _ τ hb ht hτ => R.mov (evt (hτ 2 _ rfl)) rfl ht⟩,
              ⟨⟨rfl, rfl, fun _ τ hb ht hτ => R.remN (kk) (2) (evt (hτ 34 _ rfl)) (show ev _ _ (.const (.int .i64 2)) = some (.int ((2 : Nat) : Int)) from rfl) (by first | omega | (simp only [List.length_map, List.length_append, List.length_cons, List.length_nil, List.length_take, List.length_drop, List.length_replicate]; omega) | (simp; omega)) ht⟩,
              ⟨⟨rfl, rfl, fun _ τ hb ht hτ => R.eqlN ((kk % 2)) (0) (evt (hτ 35 _ rfl)) (show ev _ _ (.const (.int .i64 0)) = some (.int ((0 : Nat) : Int)) from rfl) ht⟩,
              trivial⟩⟩⟩, rfl, rfl, rfl⟩)
            rfl (bx' := [(10, .var _), (8, .var _), (6, .var _), (3, .var _)]) rfl (n' := 51) rfl (⟨[2, 6, 8, 10, 28, 29, 30, 36], [(2, _), (6, _), (8, _), (10, _), (28, _), (29, _), (30, _), (36, _)], [(10, .var _), (8, .var _), (6, .var _), (3, .var _)], 51, rfl, rfl, rfl, ?_⟩)
          refine W.condD rfl (fun hc36 => ?_) (fun hc36 => ?_)
          · refine W.line (n := 4) (by decide) (its := [⟨37, _, true⟩, ⟨38, _, true⟩, ⟨39, _, true⟩]) (ks := []) (kk := []) (live := [2, 6, 8, 28, 29, 30, 39]) (env' := [(2, _), (6, _), (8, _), (28, _), (29, _), (30, _), (39, _)])
              (⟨Nat.le_of_ble_eq_true rfl, rfl,
                ⟨⟨rfl, rfl, fun _ τ hb ht hτ => R.ldP (hτ 8 _ rfl) (hb 8 _ rfl) rfl rfl rfl rfl ht⟩,
                ⟨⟨rfl, rfl, fun _ τ hb ht hτ => R.ldP (hτ 10 _ rfl) (hb 10 _ rfl) rfl rfl rfl rfl ht⟩,
                ⟨⟨rfl, rfl, fun _ τ hb ht hτ => R.callG hC (join_ok _ _ hh (hbr.get (by omega))) (Bors.cons (Bor.pur (evt (hτ 37 _ rfl)) rfl rfl) (Bors.cons (Bor.pur (evt (hτ 38 _ rfl)) rfl rfl) Bors.nil)) (FrsR.one (frs_hash _)) ht⟩,
                trivial⟩⟩⟩, rfl, rfl, rfl⟩)
              rfl (bx' := [(10, .var _), (8, .var _), (6, .var _), (3, .var _)]) rfl (n' := 51) rfl (⟨rfl, _, R.stZ (show Sg.get _ 8 = some _ from rfl) (show Sg.box _ 8 = some _ from rfl) rfl (evt (show Sg.get _ 39 = some _ from rfl)) (by rfl) (by rfl) (by rfl) (by rfl) rfl, ⟨[2, 6, 8, 28, 29, 30], [(2, _), (6, _), (8, _), (28, _), (29, _), (30, _)], [(10, .var _), (8, .var _), (6, .var _), (3, .var _)], 51, rfl, rfl, rfl, ?_⟩⟩)
            refine W.dropB [3, 6, 8] (bx' := [(8, .var _), (6, .var _), (3, .var _)]) rfl rfl rfl (pin_sub hD rfl) ?_
            refine W.line (n := 3) (by decide) (its := [⟨47, _, true⟩, ⟨48, _, true⟩, ⟨2, _, true⟩]) (ks := []) (kk := []) (live := [2, 6, 8, 28, 29, 30]) (env' := [(2, _), (6, _), (8, _), (28, _), (29, _), (30, _)])
              (⟨Nat.le_of_ble_eq_true rfl, rfl,
                ⟨⟨rfl, rfl, fun _ τ hb ht hτ => R.mov (evt (hτ 2 _ rfl)) rfl ht⟩,
                ⟨⟨rfl, rfl, fun _ τ hb ht hτ => R.quoN (kk) (2) (evt (hτ 47 _ rfl)) (show ev _ _ (.const (.int .i64 2)) = some (.int ((2 : Nat) : Int)) from rfl) (by first | omega | (simp only [List.length_map, List.length_append, List.length_cons, List.length_nil, List.length_take, List.length_drop, List.length_replicate]; omega) | (simp; omega)) (by first | omega | (simp only [List.length_map, List.length_append, List.length_cons, List.length_nil, List.length_take, List.length_drop, List.length_replicate]; omega) | (simp; omega)) ht⟩,
                ⟨⟨rfl, rfl, fun _ τ hb ht hτ => R.asg (evt (hτ 48 _ rfl)) rfl ht⟩,
                trivial⟩⟩⟩, rfl, rfl, rfl⟩)
              rfl (bx' := [(8, .var _), (6, .var _), (3, .var _)]) rfl (n' := 51) rfl (⟨[2, 6, 8, 28, 29, 30], [(2, _), (6, _), (8, _), (28, _), (29, _), (30, _)], [(8, .var _), (6, .var _), (3, .var _)], 51, rfl, rfl, rfl, ?_⟩)
            refine W.line (n := 2) (by decide) (its := [⟨49, _, true⟩, ⟨30, _, true⟩]) (ks := []) (kk := []) (live := [2, 6, 8, 28, 29, 30]) (env' := [(2, _), (6, _), (8, _), (28, _), (29, _), (30, _)])
              (⟨Nat.le_of_ble_eq_true rfl, rfl,
                ⟨⟨rfl, rfl, fun _ τ hb ht hτ => R.addN (j) (1) (evt (hτ 30 _ rfl)) (show ev _ _ (.const (.int .i64 1)) = some (.int ((1 : Nat) : Int)) from rfl) (by first | omega | (simp only [List.length_map, List.length_append, List.length_cons, List.length_nil, List.length_take, List.length_drop, List.length_replicate]; omega) | (simp; omega)) ht⟩,
                ⟨⟨rfl, rfl, fun _ τ hb ht hτ => R.mov (evt (hτ 49 _ rfl)) rfl ht⟩,
                trivial⟩⟩, rfl, rfl, rfl⟩)
              rfl (bx' := [(8, .var _), (6, .var _), (3, .var _)]) rfl (n' := 51) rfl (⟨[2, 6, 8, 28, 29, 30], [(2, _), (6, _), (8, _), (28, _), (29, _), (30, _)], [(8, .var _), (6, .var _), (3, .var _)], 51, rfl, rfl, rfl, ?_⟩)
            exact ⟨⟨(j + 1, kk / 2, (if kk % 2 = 0 then joinS h br[j]! else joinS br[j]! h)), ⟨⟨by omega, by show kk / 2 ≤ m; omega⟩, by (try dsimp only); split <;> exact joinS_len _ _, by rw [← heq, foldL_drop joinS h br j kk (by omega)]; (try dsimp only); first | (rw [if_pos hc36, if_pos hc36]) | (rw [if_neg hc36, if_neg hc36, if_neg (ne_of_beq_false hc42)])⟩⟩, (by (try dsimp only); first | rw [if_pos hc36] | rw [if_neg hc36]), (by simp only []; omega)⟩
          · refine W.seq ?_
            refine W.seq ?_
            refine W.line (n := 3) (by decide) (its := [⟨40, _, true⟩, ⟨41, _, true⟩, ⟨42, _, true⟩]) (ks := []) (kk := []) (live := [2, 6, 8, 10, 28, 29, 30, 42]) (env' := [(2, _), (6, _), (8, _), (10, _), (28, _), (29, _), (30, _), (42, _)])
              (⟨Nat.le_of_ble_eq_true rfl, rfl,
                ⟨⟨rfl, rfl, fun _ τ hb ht hτ => R.ldP (hτ 10 _ rfl) (hb 10 _ rfl) rfl rfl rfl rfl ht⟩,
                ⟨⟨rfl, rfl, fun _ τ hb ht hτ => R.ldP (hτ 8 _ rfl) (hb 8 _ rfl) rfl rfl rfl rfl ht⟩,
                ⟨⟨rfl, rfl, fun _ τ hb ht hτ => R.eqAE (evt (hτ 40 _ rfl)) (evt (hτ 41 _ rfl)) ht⟩,
                trivial⟩⟩⟩, rfl, rfl, rfl⟩)
              rfl (bx' := [(10, .var _), (8, .var _), (6, .var _), (3, .var _)]) rfl (n' := 51) rfl (⟨[2, 6, 8, 10, 28, 29, 30, 42], [(2, _), (6, _), (8, _), (10, _), (28, _), (29, _), (30, _), (42, _)], [(10, .var _), (8, .var _), (6, .var _), (3, .var _)], 51, rfl, rfl, rfl, ?_⟩)
            refine W.cond rfl (fun hc42 => ?_) (fun hc42 => ?_)
            · refine W.seq ?_
              refine W.line (n := 3) (by decide) (its := [⟨43, _, true⟩]) (ks := []) (kk := []) (live := [6, 43]) (env' := [(6, _), (43, _)])
                (⟨Nat.le_of_ble_eq_true rfl, rfl,
                  ⟨⟨rfl, rfl, fun _ τ hb ht hτ => R.bldAZ rfl ht⟩,
                  trivial⟩, rfl, rfl, rfl⟩)
                rfl (bx' := [(10, .var _), (8, .var _), (6, .var _), (3, .var _)]) rfl (n' := 51) rfl (⟨rfl, _, R.stZ (show Sg.get _ 6 = some _ from rfl) (show Sg.box _ 6 = some _ from rfl) rfl (evt (show Sg.get _ 43 = some _ from rfl)) (by rfl) (by rfl) (by rfl) (by rfl) rfl, ⟨rfl, _, R.asg (show ev _ _ (.const (.int .i64 15)) = some (.int ((15 : Nat) : Int)) from rfl) rfl (Nat.le_of_ble_eq_true rfl), ⟨[6, 7], [(6, _), (7, _)], [(10, .var _), (8, .var _), (6, .var _), (3, .var _)], 51, rfl, rfl, rfl, ?_⟩⟩⟩)
              refine W.ret ?_
              exact Ends.many (.inr rfl) (.cons rfl rfl rfl (show LdT _ 23 32 true from inferInstance) (.cons rfl rfl rfl trivial .nil)) (by have e := foldL_drop joinS h br j kk (by omega); rw [if_neg hc36, if_pos (eq_of_beq hc42)] at e; rw [hfs, ← heq, e]; rfl) (show [(6, false), (7, true)].Nodup by decide)
            · refine W.skip ?_
              refine W.line (n := 4) (by decide) (its := [⟨44, _, true⟩, ⟨45, _, true⟩, ⟨46, _, true⟩]) (ks := []) (kk := []) (live := [2, 6, 8, 28, 29, 30, 46]) (env' := [(2, _), (6, _), (8, _), (28, _), (29, _), (30, _), (46, _)])
                (⟨Nat.le_of_ble_eq_true rfl, rfl,
                  ⟨⟨rfl, rfl, fun _ τ hb ht hτ => R.ldP (hτ 10 _ rfl) (hb 10 _ rfl) rfl rfl rfl rfl ht⟩,
                  ⟨⟨rfl, rfl, fun _ τ hb ht hτ => R.ldP (hτ 8 _ rfl) (hb 8 _ rfl) rfl rfl rfl rfl ht⟩,
                  ⟨⟨rfl, rfl, fun _ τ hb ht hτ => R.callG hC (join_ok _ _ (hbr.get (by omega)) hh) (Bors.cons (Bor.pur (evt (hτ 44 _ rfl)) rfl rfl) (Bors.cons (Bor.pur (evt (hτ 45 _ rfl)) rfl rfl) Bors.nil)) (FrsR.one (frs_hash _)) ht⟩,
                  trivial⟩⟩⟩, rfl, rfl, rfl⟩)
                rfl (bx' := [(10, .var _), (8, .var _), (6, .var _), (3, .var _)]) rfl (n' := 51) rfl (⟨rfl, _, R.stZ (show Sg.get _ 8 = some _ from rfl) (show Sg.box _ 8 = some _ from rfl) rfl (evt (show Sg.get _ 46 = some _ from rfl)) (by rfl) (by rfl) (by rfl) (by rfl) rfl, ⟨[2, 6, 8, 28, 29, 30], [(2, _), (6, _), (8, _), (28, _), (29, _), (30, _)], [(10, .var _), (8, .var _), (6, .var _), (3, .var _)], 51, rfl, rfl, rfl, ?_⟩⟩)
              refine W.dropB [3, 6, 8] (bx' := [(8, .var _), (6, .var _), (3, .var _)]) rfl rfl rfl (pin_sub hD rfl) ?_
              refine W.line (n := 3) (by decide) (its := [⟨47, _, true⟩, ⟨48, _, true⟩, ⟨2, _, true⟩]) (ks := []) (kk := []) (live := [2, 6, 8, 28, 29, 30]) (env' := [(2, _), (6, _), (8, _), (28, _), (29, _), (30, _)])
                (⟨Nat.le_of_ble_eq_true rfl, rfl,
                  ⟨⟨rfl, rfl, fun _ τ hb ht hτ => R.mov (evt (hτ 2 _ rfl)) rfl ht⟩,
                  ⟨⟨rfl, rfl, fun _ τ hb ht hτ => R.quoN (kk) (2) (evt (hτ 47 _ rfl)) (show ev _ _ (.const (.int .i64 2)) = some (.int ((2 : Nat) : Int)) from rfl) (by first | omega | (simp only [List.length_map, List.length_append, List.length_cons, List.length_nil, List.length_take, List.length_drop, List.length_replicate]; omega) | (simp; omega)) (by first | omega | (simp only [List.length_map, List.length_append, List.length_cons, List.length_nil, List.length_take, List.length_drop, List.length_replicate]; omega) | (simp; omega)) ht⟩,
                  ⟨⟨rfl, rfl, fun _ τ hb ht hτ => R.asg (evt (hτ 48 _ rfl)) rfl ht⟩,
                  trivial⟩⟩⟩, rfl, rfl, rfl⟩)
                rfl (bx' := [(8, .var _), (6, .var _), (3, .var _)]) rfl (n' := 51) rfl (⟨[2, 6, 8, 28, 29, 30], [(2, _), (6, _), (8, _), (28, _), (29, _), (30, _)], [(8, .var _), (6, .var _), (3, .var _)], 51, rfl, rfl, rfl, ?_⟩)
              refine W.line (n := 2) (by decide) (its := [⟨49, _, true⟩, ⟨30, _, true⟩]) (ks := []) (kk := []) (live := [2, 6, 8, 28, 29, 30]) (env' := [(2, _), (6, _), (8, _), (28, _), (29, _), (30, _)])
                (⟨Nat.le_of_ble_eq_true rfl, rfl,
                  ⟨⟨rfl, rfl, fun _ τ hb ht hτ => R.addN (j) (1) (evt (hτ 30 _ rfl)) (show ev _ _ (.const (.int .i64 1)) = some (.int ((1 : Nat) : Int)) from rfl) (by first | omega | (simp only [List.length_map, List.length_append, List.length_cons, List.length_nil, List.length_take, List.length_drop, List.length_replicate]; omega) | (simp; omega)) ht⟩,
                  ⟨⟨rfl, rfl, fun _ τ hb ht hτ => R.mov (evt (hτ 49 _ rfl)) rfl ht⟩,
                  trivial⟩⟩, rfl, rfl, rfl⟩)
                rfl (bx' := [(8, .var _), (6, .var _), (3, .var _)]) rfl (n' := 51) rfl (⟨[2, 6, 8, 28, 29, 30], [(2, _), (6, _), (8, _), (28, _), (29, _), (30, _)], [(8, .var _), (6, .var _), (3, .var _)], 51, rfl, rfl, rfl, ?_⟩)
              exact ⟨⟨(j + 1, kk / 2, (if kk % 2 = 0 then joinS h br[j]! else joinS br[j]! h)), ⟨⟨by omega, by show kk / 2 ≤ m; omega⟩, by (try dsimp only); split <;> exact joinS_len _ _, by rw [← heq, foldL_drop joinS h br j kk (by omega)]; (try dsimp only); first | (rw [if_pos hc36, if_pos hc36]) | (rw [if_neg hc36, if_neg hc36, if_neg (ne_of_beq_false hc42)])⟩⟩, (by (try dsimp only); first | rw [if_pos hc36] | rw [if_neg hc36]), (by simp only []; omega)⟩
        · obtain rfl : j = br.length := by omega
          refine W.exit ?_
          refine W.seq ?_
          refine W.line (n := 3) (by decide) (its := [⟨50, _, true⟩]) (ks := []) (kk := []) (live := [6, 50]) (env' := [(6, _), (50, _)])
            (⟨Nat.le_of_ble_eq_true rfl, rfl,
              ⟨⟨rfl, rfl, fun _ τ hb ht hτ => R.ldP (hτ 8 _ rfl) (hb 8 _ rfl) rfl rfl rfl rfl ht⟩,
              trivial⟩, rfl, rfl, rfl⟩)
            rfl (bx' := [(8, .var _), (6, .var _), (3, .var _)]) rfl (n' := 51) rfl (⟨rfl, _, R.stZ (show Sg.get _ 6 = some _ from rfl) (show Sg.box _ 6 = some _ from rfl) rfl (evt (show Sg.get _ 50 = some _ from rfl)) (by rfl) (by rfl) (by rfl) (by rfl) rfl, ⟨rfl, _, R.asg (show ev _ _ (.const (.int .i64 0)) = some (.int ((0 : Nat) : Int)) from rfl) rfl (Nat.le_of_ble_eq_true rfl), ⟨[6, 7], [(6, _), (7, _)], [(8, .var _), (6, .var _), (3, .var _)], 51, rfl, rfl, rfl, ?_⟩⟩⟩)
          refine W.ret ?_
          exact Ends.many (.inr rfl) (.cons rfl rfl rfl (show LdT _ 23 32 true from inferInstance) (.cons rfl rfl rfl trivial .nil)) (by have e := foldL_end joinS h br br.length kk (Nat.le_refl _); rw [hfs, ← heq, e]; rfl) (show [(6, false), (7, true)].Nodup by decide)

theorem rfold_ok (id : Hs) (br : List Hs) (k : Int) (hi : id.length = 32) (hbr : allH br) (hb0 : br.length ≤ 1000) (hk0 : -9223372036854775808 ≤ k ∧ k ≤ 9223372036854775807) : Fn Tryd.prog gl 8 [hashD id, .sl none 32 (br.map hashD), .int k] (.tup [hashD (foldS joinR id br k).1, .int (foldS joinR id br k).2]) := by
  refine Fn.of (n := 57) Tryd.func8 rfl rfl rfl (Nat.le_of_ble_eq_true rfl) fun C hC hD => ?_
  refine W.seq ?_
  refine W.line (n := 3) (by decide) (its := []) (ks := []) (kk := []) (live := [0, 1, 2]) (env' := [(0, _), (1, _), (2, _)])
    (⟨Nat.le_of_ble_eq_true rfl, rfl,
      trivial, rfl, rfl, rfl⟩)
    rfl (bx' := []) rfl (n' := 57) rfl (⟨rfl, _, R.box (evt (show Sg.get _ 0 = some _ from rfl)) rfl rfl (Nat.le_of_ble_eq_true rfl), ⟨rfl, _, R.alloc rfl (Nat.le_of_ble_eq_true rfl), ⟨rfl, _, R.asg (show ev _ _ (.const (.int .i64 0)) = some (.int ((0 : Nat) : Int)) from rfl) rfl (Nat.le_of_ble_eq_true rfl), ⟨[1, 2, 3, 6], [(1, _), (2, _), (3, _), (6, _)], [(6, .var _), (3, .var _)], 57, rfl, rfl, rfl, ?_⟩⟩⟩⟩)
  refine W.seq ?_
  refine W.seq ?_
  refine W.line (n := 3) (by decide) (its := [⟨10, _, true⟩, ⟨11, _, true⟩, ⟨12, _, true⟩]) (ks := []) (kk := []) (live := [1, 2, 3, 6, 12]) (env' := [(1, _), (2, _), (3, _), (6, _), (12, _)])
    (⟨Nat.le_of_ble_eq_true rfl, rfl,
      ⟨⟨rfl, rfl, fun _ τ hb ht hτ => R.mov (evt (hτ 1 _ rfl)) rfl ht⟩,
      ⟨⟨rfl, rfl, fun _ τ hb ht hτ => R.lenE (SC.sl (hτ 10 _ rfl)) (List.length_map _) ht⟩,
      ⟨⟨rfl, rfl, fun _ τ hb ht hτ => R.gtrN (br.length) (32) (evt (hτ 11 _ rfl)) (show ev _ _ (.const (.int .i64 32)) = some (.int ((32 : Nat) : Int)) from rfl) ht⟩,
      trivial⟩⟩⟩, rfl, rfl, rfl⟩)
    rfl (bx' := [(6, .var _), (3, .var _)]) rfl (n' := 57) rfl (⟨[1, 2, 3, 6, 12], [(1, _), (2, _), (3, _), (6, _), (12, _)], [(6, .var _), (3, .var _)], 57, rfl, rfl, rfl, ?_⟩)
  refine W.condD rfl (fun hc12 => ?_) (fun hc12 => ?_)
  · refine W.seq ?_
    refine W.line (n := 3) (by decide) (its := [⟨13, _, true⟩]) (ks := []) (kk := []) (live := [6, 13]) (env' := [(6, _), (13, _)])
      (⟨Nat.le_of_ble_eq_true rfl, rfl,
        ⟨⟨rfl, rfl, fun _ τ hb ht hτ => R.bldAZ rfl ht⟩,
        trivial⟩, rfl, rfl, rfl⟩)
      rfl (bx' := [(6, .var _), (3, .var _)]) rfl (n' := 57) rfl (⟨rfl, _, R.stZ (show Sg.get _ 6 = some _ from rfl) (show Sg.box _ 6 = some _ from rfl) rfl (evt (show Sg.get _ 13 = some _ from rfl)) (by rfl) (by rfl) (by rfl) (by rfl) rfl, ⟨rfl, _, R.asg (show ev _ _ (.const (.int .i64 6)) = some (.int ((6 : Nat) : Int)) from rfl) rfl (Nat.le_of_ble_eq_true rfl), ⟨[6, 7], [(6, _), (7, _)], [(6, .var _), (3, .var _)], 57, rfl, rfl, rfl, ?_⟩⟩⟩)
    refine W.ret ?_
    exact Ends.many (.inr rfl) (.cons rfl rfl rfl (show LdT _ 23 32 true from inferInstance) (.cons rfl rfl rfl trivial .nil)) (by simp only [foldS, if_pos hc12]; rfl) (show [(6, false), (7, true)].Nodup by decide)
  · refine W.skip ?_
    refine W.seq ?_
    refine W.seq ?_
    by_cases hn : k < 0
    · refine W.line (n := 10) (by decide) (its := [⟨14, _, true⟩, ⟨15, _, true⟩, ⟨16, _, true⟩, ⟨17, .dead, false⟩, ⟨18, .dead, false⟩, ⟨19, .dead, false⟩, ⟨20, .dead, false⟩, ⟨21, .dead, false⟩, ⟨22, .dead, false⟩, ⟨23, _, true⟩]) (ks := []) (kk := []) (live := [1, 2, 3, 6, 23]) (env' := [(1, _), (2, _), (3, _), (6, _), (23, _)])
        (⟨Nat.le_of_ble_eq_true rfl, rfl,
          ⟨⟨rfl, rfl, fun _ τ hb ht hτ => R.mov (evt (hτ 2 _ rfl)) rfl ht⟩,
          ⟨⟨rfl, rfl, fun _ τ hb ht hτ => R.bin (evt (hτ 14 _ rfl)) (show ev _ _ (.const (.int .i64 0)) = some (.int ((0 : Nat) : Int)) from rfl) rfl trivial ht⟩,
          ⟨⟨rfl, rfl, fun _ τ hb ht hτ => R.mov (evt (hτ 15 _ rfl)) rfl ht⟩,
          ⟨⟨rfl, ⟨_, 16, rfl, rfl, .inl ⟨_, rfl, gw (v := true) (decide_eq_true hn) rfl⟩⟩, fun h => absurd h (by decide)⟩,
          ⟨⟨rfl, ⟨_, 16, rfl, rfl, .inl ⟨_, rfl, gw (v := true) (decide_eq_true hn) rfl⟩⟩, fun h => absurd h (by decide)⟩,
          ⟨⟨rfl, ⟨_, 16, rfl, rfl, .inl ⟨_, rfl, gw (v := true) (decide_eq_true hn) rfl⟩⟩, fun h => absurd h (by decide)⟩,
          ⟨⟨rfl, ⟨_, 16, rfl, rfl, .inl ⟨_, rfl, gw (v := true) (decide_eq_true hn) rfl⟩⟩, fun h => absurd h (by decide)⟩,
          ⟨⟨rfl, ⟨_, 16, rfl, rfl, .inl ⟨_, rfl, gw (v := true) (decide_eq_true hn) rfl⟩⟩, fun h => absurd h (by decide)⟩,
          ⟨⟨rfl, ⟨_, 16, rfl, rfl, .inl ⟨_, rfl, gw (v := true) (decide_eq_true hn) rfl⟩⟩, fun h => absurd h (by decide)⟩,
          ⟨⟨rfl, rfl, fun _ τ hb ht hτ => R.pickT (evt (hτ 16 _ rfl)) (decide_eq_true hn) (show ev _ _ (.const (.bool true)) = some (.bool true) from rfl) rfl ht⟩,
          trivial⟩⟩⟩⟩⟩⟩⟩⟩⟩⟩, rfl, rfl, rfl⟩)
        rfl (bx' := [(6, .var _), (3, .var _)]) rfl (n' := 57) rfl (⟨[1, 2, 3, 6, 23], [(1, _), (2, _), (3, _), (6, _), (23, _)], [(6, .var _), (3, .var _)], 57, rfl, rfl, rfl, ?_⟩)
      refine W.condT rfl (rfl) ?_
      refine W.seq ?_
      refine W.line (n := 3) (by decide) (its := [⟨24, _, true⟩]) (ks := []) (kk := []) (live := [6, 24]) (env' := [(6, _), (24, _)])
        (⟨Nat.le_of_ble_eq_true rfl, rfl,
          ⟨⟨rfl, rfl, fun _ τ hb ht hτ => R.bldAZ rfl ht⟩,
          trivial⟩, rfl, rfl, rfl⟩)
        rfl (bx' := [(6, .var _), (3, .var _)]) rfl (n' := 57) rfl (⟨rfl, _, R.stZ (show Sg.get _ 6 = some _ from rfl) (show Sg.box _ 6 = some _ from rfl) rfl (evt (show Sg.get _ 24 = some _ from rfl)) (by rfl) (by rfl) (by rfl) (by rfl) rfl, ⟨rfl, _, R.asg (show ev _ _ (.const (.int .i64 1)) = some (.int ((1 : Nat) : Int)) from rfl) rfl (Nat.le_of_ble_eq_true rfl), ⟨[6, 7], [(6, _), (7, _)], [(6, .var _), (3, .var _)], 57, rfl, rfl, rfl, ?_⟩⟩⟩)
      refine W.ret ?_
      exact Ends.many (.inr rfl) (.cons rfl rfl rfl (show LdT _ 23 32 true from inferInstance) (.cons rfl rfl rfl trivial .nil)) (by simp only [foldS, if_neg hc12, if_pos (show k < 0 ∨ 0 < k.toNat / 2 ^ br.length from .inl hn)]; rfl) (show [(6, false), (7, true)].Nodup by decide)
    · refine W.line (n := 10) (by decide) (its := [⟨14, _, true⟩, ⟨15, _, true⟩, ⟨16, _, true⟩, ⟨17, _, true⟩, ⟨18, _, true⟩, ⟨19, _, true⟩, ⟨20, _, true⟩, ⟨21, _, true⟩, ⟨22, _, true⟩, ⟨23, _, true⟩]) (ks := []) (kk := []) (live := [1, 2, 3, 6, 23]) (env' := [(1, _), (2, _), (3, _), (6, _), (23, _)])
        (⟨Nat.le_of_ble_eq_true rfl, rfl,
          ⟨⟨rfl, rfl, fun _ τ hb ht hτ => R.mov (evt (hτ 2 _ rfl)) rfl ht⟩,
          ⟨⟨rfl, rfl, fun _ τ hb ht hτ => R.bin (evt (hτ 14 _ rfl)) (show ev _ _ (.const (.int .i64 0)) = some (.int ((0 : Nat) : Int)) from rfl) rfl trivial ht⟩,
          ⟨⟨rfl, rfl, fun _ τ hb ht hτ => R.mov (evt (hτ 15 _ rfl)) rfl ht⟩,
          ⟨⟨rfl, ⟨_, 16, rfl, rfl, .inl ⟨_, rfl, gw (v := false) (decide_eq_false hn) rfl⟩⟩, fun _ τ hb ht hτ => R.mov (evt (hτ 2 _ rfl)) rfl ht⟩,
          ⟨⟨rfl, ⟨_, 16, rfl, rfl, .inl ⟨_, rfl, gw (v := false) (decide_eq_false hn) rfl⟩⟩, fun _ τ hb ht hτ => R.mov (evt (hτ 1 _ rfl)) rfl ht⟩,
          ⟨⟨rfl, ⟨_, 16, rfl, rfl, .inl ⟨_, rfl, gw (v := false) (decide_eq_false hn) rfl⟩⟩, fun _ τ hb ht hτ => R.lenE (SC.sl (hτ 18 _ rfl)) (List.length_map _) ht⟩,
          ⟨⟨rfl, ⟨_, 16, rfl, rfl, .inl ⟨_, rfl, gw (v := false) (decide_eq_false hn) rfl⟩⟩, fun _ τ hb ht hτ => R.convE (d := .u64 (UInt64.ofNat br.length)) (evt (hτ 19 _ rfl)) rfl (u64_nat br.length) ht⟩,
          ⟨⟨rfl, ⟨_, 16, rfl, rfl, .inl ⟨_, rfl, gw (v := false) (decide_eq_false hn) rfl⟩⟩, fun _ τ hb ht hτ => R.binE (d := .int ((k.toNat / 2 ^ br.length : Nat) : Int)) (evt (hτ 17 _ rfl)) (evt (hτ 20 _ rfl)) rfl (show (0 : Int) ≤ _ by first | omega | (simp only [List.length_map, List.length_append, List.length_cons, List.length_nil, List.length_take, List.length_drop, List.length_replicate]; omega) | (simp; omega)) (congrArg D.int ((fdiv_pow64 k br.length (by omega) (by omega)))) ht⟩,
          ⟨⟨rfl, ⟨_, 16, rfl, rfl, .inl ⟨_, rfl, gw (v := false) (decide_eq_false hn) rfl⟩⟩, fun _ τ hb ht hτ => R.gtrN (k.toNat / 2 ^ br.length) (0) (evt (hτ 21 _ rfl)) (show ev _ _ (.const (.int .i64 0)) = some (.int ((0 : Nat) : Int)) from rfl) ht⟩,
          ⟨⟨rfl, rfl, fun _ τ hb ht hτ => R.pickF (evt (hτ 16 _ rfl)) (decide_eq_false hn) (evt (hτ 22 _ rfl)) rfl ht⟩,
          trivial⟩⟩⟩⟩⟩⟩⟩⟩⟩⟩, rfl, rfl, rfl⟩)
        rfl (bx' := [(6, .var _), (3, .var _)]) rfl (n' := 57) rfl (⟨[1, 2, 3, 6, 23], [(1, _), (2, _), (3, _), (6, _), (23, _)], [(6, .var _), (3, .var _)], 57, rfl, rfl, rfl, ?_⟩)
      refine W.condD rfl (fun hc23 => ?_) (fun hc23 => ?_)
      · refine W.seq ?_
        refine W.line (n := 3) (by decide) (its := [⟨24, _, true⟩]) (ks := []) (kk := []) (live := [6, 24]) (env' := [(6, _), (24, _)])
          (⟨Nat.le_of_ble_eq_true rfl, rfl,
            ⟨⟨rfl, rfl, fun _ τ hb ht hτ => R.bldAZ rfl ht⟩,
            trivial⟩, rfl, rfl, rfl⟩)
          rfl (bx' := [(6, .var _), (3, .var _)]) rfl (n' := 57) rfl (⟨rfl, _, R.stZ (show Sg.get _ 6 = some _ from rfl) (show Sg.box _ 6 = some _ from rfl) rfl (evt (show Sg.get _ 24 = some _ from rfl)) (by rfl) (by rfl) (by rfl) (by rfl) rfl, ⟨rfl, _, R.asg (show ev _ _ (.const (.int .i64 1)) = some (.int ((1 : Nat) : Int)) from rfl) rfl (Nat.le_of_ble_eq_true rfl), ⟨[6, 7], [(6, _), (7, _)], [(6, .var _), (3, .var _)], 57, rfl, rfl, rfl, ?_⟩⟩⟩)
        refine W.ret ?_
        exact Ends.many (.inr rfl) (.cons rfl rfl rfl (show LdT _ 23 32 true from inferInstance) (.cons rfl rfl rfl trivial .nil)) (by simp only [foldS, if_neg hc12, if_pos (show k < 0 ∨ 0 < k.toNat / 2 ^ br.length from .inr hc23)]; rfl) (show [(6, false), (7, true)].Nodup by decide)
      · refine W.skip ?_
        refine W.seq ?_
        obtain ⟨m, rfl⟩ := Int.eq_ofNat_of_zero_le (show 0 ≤ k by omega)
        have hne : ¬ ((m : Int) < 0 ∨ 0 < (m : Int).toNat / 2 ^ br.length) := by rintro (h | h) <;> first | omega | exact hc23 h
        have hfs : foldS joinR id br (m : Int) = foldL joinR id br m := by simp only [foldS, if_neg hc12, if_neg hne]; rfl
        refine W.line (n := 3) (by decide) (its := [⟨25, _, true⟩]) (ks := []) (kk := []) (live := [1, 2, 6, 25]) (env' := [(1, _), (2, _), (6, _), (25, _)])
          (⟨Nat.le_of_ble_eq_true rfl, rfl,
            ⟨⟨rfl, rfl, fun _ τ hb ht hτ => R.ldP (hτ 3 _ rfl) (hb 3 _ rfl) rfl rfl rfl rfl ht⟩,
            trivial⟩, rfl, rfl, rfl⟩)
          rfl (bx' := [(6, .var _), (3, .var _)]) rfl (n' := 57) rfl (⟨rfl, _, R.alloc rfl (Nat.le_of_ble_eq_true rfl), ⟨rfl, _, R.stZ (show Sg.get _ 8 = some _ from rfl) (show Sg.box _ 8 = some _ from rfl) rfl (evt (show Sg.get _ 25 = some _ from rfl)) (by rfl) (by rfl) (by rfl) (by rfl) rfl, ⟨[1, 2, 6, 8], [(1, _), (2, _), (6, _), (8, _)], [(8, .var _), (6, .var _), (3, .var _)], 57, rfl, rfl, rfl, ?_⟩⟩⟩)
        refine W.seq ?_
        refine W.seq ?_
        refine W.line (n := 1) (by decide) (its := [⟨9, _, true⟩]) (ks := []) (kk := []) (live := [1, 2, 6, 8, 9]) (env' := [(1, _), (2, _), (6, _), (8, _), (9, _)])
          (⟨Nat.le_of_ble_eq_true rfl, rfl,
            ⟨⟨rfl, rfl, fun _ τ hb ht hτ => R.asg (show ev _ _ (.const (.int .i64 0)) = some (.int ((0 : Nat) : Int)) from rfl) rfl ht⟩,
            trivial⟩, rfl, rfl, rfl⟩)
          rfl (bx' := [(8, .var _), (6, .var _), (3, .var _)]) rfl (n' := 57) rfl (⟨[1, 2, 6, 8, 9], [(1, _), (2, _), (6, _), (8, _), (9, _)], [(8, .var _), (6, .var _), (3, .var _)], 57, rfl, rfl, rfl, ?_⟩)
        refine W.block ?_
        refine W.loop (α := {q__ : Nat × Nat × Hs // (q__.1 ≤ br.length ∧ q__.2.1 ≤ m) ∧ q__.2.2.length = 32 ∧ foldL joinR q__.2.2 (br.drop q__.1) q__.2.1 = foldL joinR id br m}) (fun q__ => ⟨57, [(1, .sl none 32 (br.map hashD)), (2, .int ((q__.1.2.1 : Nat) : Int)), (6, .ptr 6 0 []), (8, .ptr 8 0 []), (9, .int ((q__.1.1 : Nat) : Int))], [(8, .var (hashD q__.1.2.2)), (6, .var (hashD zero32)), (3, .var (hashD id))]⟩) (fun q__ => br.length - q__.1.1) ⟨(0, m, id), ⟨⟨Nat.zero_le _, Nat.le_refl _⟩, hi, rfl⟩⟩ rfl ?_
        rintro ⟨⟨j, kk, h⟩, ⟨⟨hj, hkm⟩, hh, heq⟩⟩
        show W _ _ _ _ ⟨57, [(1, .sl none 32 (br.map hashD)), (2, .int ((kk : Nat) : Int)), (6, .ptr 6 0 []), (8, .ptr 8 0 []), (9, .int ((j : Nat) : Int))], [(8, .var (hashD h)), (6, .var (hashD zero32)), (3, .var (hashD id))]⟩
        have hj : j ≤ br.length := hj
        have hkm : kk ≤ m := hkm
        have hh : h.length = 32 := hh
        have heq : foldL joinR h (br.drop j) kk = foldL joinR id br m := heq
        refine W.seq ?_
        refine W.seq ?_
        refine W.line (n := 4) (by decide) (its := [⟨26, _, true⟩, ⟨27, _, true⟩, ⟨28, _, true⟩, ⟨29, _, true⟩]) (ks := []) (kk := []) (live := [1, 2, 6, 8, 9, 29]) (env' := [(1, _), (2, _), (6, _), (8, _), (9, _), (29, _)])
          (⟨Nat.le_of_ble_eq_true rfl, rfl,
            ⟨⟨rfl, rfl, fun _ τ hb ht hτ => R.mov (evt (hτ 9 _ rfl)) rfl ht⟩,
            ⟨⟨rfl, rfl, fun _ τ hb ht hτ => R.mov (evt (hτ 1 _ rfl)) rfl ht⟩,
            ⟨⟨rfl, rfl, fun _ τ hb ht hτ => R.lenE (SC.sl (hτ 27 _ rfl)) (List.length_map _) ht⟩,
            ⟨⟨rfl, rfl, fun _ τ hb ht hτ => R.lssN (j) (br.length) (evt (hτ 26 _ rfl)) (evt (hτ 28 _ rfl)) ht⟩,
            trivial⟩⟩⟩⟩, rfl, rfl, rfl⟩)
          rfl (bx' := [(8, .var _), (6, .var _), (3, .var _)]) rfl (n' := 57) rfl (⟨[1, 2, 6, 8, 9, 29], [(1, _), (2, _), (6, _), (8, _), (9, _), (29, _)], [(8, .var _), (6, .var _), (3, .var _)], 57, rfl, rfl, rfl, ?_⟩)
        refine W.condD rfl (fun hc29 => ?_) (fun hc29 => ?_)
        · refine W.skip ?_
          refine W.seq ?_
          refine W.block ?_
          refine W.seq ?_
          refine W.seq ?_
          refine W.line (n := 3) (by decide) (its := [⟨32, _, true⟩, ⟨33, _, true⟩, ⟨34, _, true⟩]) (ks := []) (kk := []) (live := [1, 2, 6, 8, 9, 34]) (env' := [(1, _), (2, _), (6, _), (8, _), (9, _), (34, _)])
            (⟨Nat.le_of_ble_eq_true rfl, rfl,
              ⟨⟨rfl, rfl, fun _ τ hb ht hτ => R.mov (evt (hτ 2 _ rfl)) rfl ht⟩,
              ⟨⟨rfl, rfl, fun _ τ hb ht hτ => R.remN (kk) (2) (evt (hτ 32 _ rfl)) (show ev _ _ (.const (.int .i64 2)) = some (.int ((2 : Nat) : Int)) from rfl) (by first | omega | (simp only [List.length_map, List.length_append, List.length_cons, List.length_nil, List.length_take, List.length_drop, List.length_replicate]; omega) | (simp; omega)) ht⟩,
              ⟨⟨rfl, rfl, fun _ τ hb ht hτ => R.eqlN ((kk % 2)) (0) (evt (hτ 33 _ rfl)) (show ev _ _ (.const (.int .i64 0)) = some (.int ((0 : Nat) : Int)) from rfl) ht⟩,
              trivial⟩⟩⟩, rfl, rfl, rfl⟩)
            rfl (bx' := [(8, .var _), (6, .var _), (3, .var _)]) rfl (n' := 57) rfl (⟨[1, 2, 6, 8, 9, 34], [(1, _), (2, _), (6, _), (8, _), (9, _), (34, _)], [(8, .var _), (6, .var _), (3, .var _)], 57, rfl, rfl, rfl, ?_⟩)
          refine W.condD rfl (fun hc34 => ?_) (fun hc34 => ?_)
          · refine W.draw (m := 6) (an := [0, 0, 0, 6, 14, 31, 63]) hP (by decide) rfl (its := [⟨35, _, true⟩, ⟨36, _, true⟩, ⟨37, _, true⟩, ⟨38, _, true⟩, ⟨39, _, true⟩, ⟨40, _, true⟩]) (ks := []) (kk := []) (live := [1, 2, 6, 8, 9, 40]) (env' := [(1, _), (2, _), (6, _), (8, _), (9, _), (40, _)])
              (⟨Nat.le_of_ble_eq_true rfl, rfl,
                ⟨⟨rfl, rfl, fun _ τ hb ht hτ => R.ldP (hτ 8 _ rfl) (hb 8 _ rfl) rfl rfl rfl rfl ht⟩,
                ⟨⟨rfl, rfl, fun _ τ hb ht hτ => R.mov (evt (hτ 1 _ rfl)) rfl ht⟩,
                ⟨⟨rfl, rfl, fun _ τ hb ht hτ => R.mov (evt (hτ 9 _ rfl)) rfl ht⟩,
                ⟨⟨rfl, rfl, fun _ τ hb ht hτ => R.idxN (j) (SC.sl (hτ 36 _ rfl)) (evoI (evt (hτ 37 _ rfl))) rfl (by first | omega | (simp only [List.length_map, List.length_append, List.length_cons, List.length_nil, List.length_take, List.length_drop, List.length_replicate]; omega) | (simp; omega)) ht (by decide)⟩,
                ⟨⟨rfl, rfl, fun _ τ hb ht hτ => R.ldE (hτ 38 _ rfl) (SC.sl (hτ 36 _ rfl)) (map_get! (l := br) (by first | omega | (simp only [List.length_map, List.length_append, List.length_cons, List.length_nil, List.length_take, List.length_drop, List.length_replicate]; omega) | (simp; omega))) rfl rfl rfl rfl ht⟩,
                ⟨⟨rfl, rfl, fun _ τ hb ht hτ => R.callG hC (rjoin_ok _ _ hh (hbr.get (by omega))) (Bors.cons (Bor.pur (evt (hτ 35 _ rfl)) rfl rfl) (Bors.cons (Bor.pur (evt (hτ 39 _ rfl)) rfl rfl) Bors.nil)) (FrsR.one (frs_hash _)) ht⟩,
                trivial⟩⟩⟩⟩⟩⟩, rfl, rfl, rfl⟩)
              rfl (bx' := [(8, .var _), (6, .var _), (3, .var _)]) rfl (n' := 57) rfl (⟨rfl, _, R.stZ (show Sg.get _ 8 = some _ from rfl) (show Sg.box _ 8 = some _ from rfl) rfl (evt (show Sg.get _ 40 = some _ from rfl)) (by rfl) (by rfl) (by rfl) (by rfl) rfl, ⟨[1, 2, 6, 8, 9], [(1, _), (2, _), (6, _), (8, _), (9, _)], [(8, .var _), (6, .var _), (3, .var _)], 57, rfl, rfl, rfl, ?_⟩⟩)
            refine W.line (n := 3) (by decide) (its := [⟨54, _, true⟩, ⟨55, _, true⟩, ⟨2, _, true⟩]) (ks := []) (kk := []) (live := [1, 2, 6, 8, 9]) (env' := [(1, _), (2, _), (6, _), (8, _), (9, _)])
              (⟨Nat.le_of_ble_eq_true rfl, rfl,
                ⟨⟨rfl, rfl, fun _ τ hb ht hτ => R.mov (evt (hτ 2 _ rfl)) rfl ht⟩,
                ⟨⟨rfl, rfl, fun _ τ hb ht hτ => R.quoN (kk) (2) (evt (hτ 54 _ rfl)) (show ev _ _ (.const (.int .i64 2)) = some (.int ((2 : Nat) : Int)) from rfl) (by first | omega | (simp only [List.length_map, List.length_append, List.length_cons, List.length_nil, List.length_take, List.length_drop, List.length_replicate]; omega) | (simp; omega)) (by first | omega | (simp only [List.length_map, List.length_append, List.length_cons, List.length_nil, List.length_take, List.length_drop, List.length_replicate]; omega) | (simp; omega)) ht⟩,
                ⟨⟨rfl, rfl, fun _ τ hb ht hτ => R.asg (evt (hτ 55 _ rfl)) rfl ht⟩,
                trivial⟩⟩⟩, rfl, rfl, rfl⟩)
              rfl (bx' := [(8, .var _), (6, .var _), (3, .var _)]) rfl (n' := 57) rfl (⟨[1, 2, 6, 8, 9], [(1, _), (2, _), (6, _), (8, _), (9, _)], [(8, .var _), (6, .var _), (3, .var _)], 57, rfl, rfl, rfl, ?_⟩)
            refine W.line (n := 3) (by decide) (its := [⟨30, _, true⟩, ⟨31, _, true⟩, ⟨9, _, true⟩]) (ks := []) (kk := []) (live := [1, 2, 6, 8, 9]) (env' := [(1, _), (2, _), (6, _), (8, _), (9, _)])
              (⟨Nat.le_of_ble_eq_true rfl, rfl,
                ⟨⟨rfl, rfl, fun _ τ hb ht hτ => R.mov (evt (hτ 9 _ rfl)) rfl ht⟩,
                ⟨⟨rfl, rfl, fun _ τ hb ht hτ => R.addN (j) (1) (evt (hτ 30 _ rfl)) (show ev _ _ (.const (.int .i64 1)) = some (.int ((1 : Nat) : Int)) from rfl) (by first | omega | (simp only [List.length_map, List.length_append, List.length_cons, List.length_nil, List.length_take, List.length_drop, List.length_replicate]; omega) | (simp; omega)) ht⟩,
                ⟨⟨rfl, rfl, fun _ τ hb ht hτ => R.asg (evt (hτ 31 _ rfl)) rfl ht⟩,
                trivial⟩⟩⟩, rfl, rfl, rfl⟩)
              rfl (bx' := [(8, .var _), (6, .var _), (3, .var _)]) rfl (n' := 57) rfl (⟨[1, 2, 6, 8, 9], [(1, _), (2, _), (6, _), (8, _), (9, _)], [(8, .var _), (6, .var _), (3, .var _)], 57, rfl, rfl, rfl, ?_⟩)
            exact ⟨⟨(j + 1, kk / 2, (if kk % 2 = 0 then joinR h br[j]! else joinR br[j]! h)), ⟨⟨by omega, by show kk / 2 ≤ m; omega⟩, by (try dsimp only); split <;> exact joinR_len _ _, by rw [← heq, foldL_drop joinR h br j kk (by omega)]; (try dsimp only); first | (rw [if_pos hc34, if_pos hc34]) | (rw [if_neg hc34, if_neg hc34, if_neg (ne_of_beq_false (beq_sw hc46))])⟩⟩, (by (try dsimp only); first | rw [if_pos hc34] | rw [if_neg hc34]), (by simp only []; omega)⟩
          · refine W.seq ?_
            refine W.draw (m := 6) (an := [0, 0, 0, 6, 14, 31]) hP (by decide) rfl (its := [⟨41, _, true⟩, ⟨42, _, true⟩, ⟨43, _, true⟩, ⟨44, _, true⟩, ⟨45, _, true⟩, ⟨46, _, true⟩]) (ks := []) (kk := []) (live := [1, 2, 6, 8, 9, 46]) (env' := [(1, _), (2, _), (6, _), (8, _), (9, _), (46, _)])
              (⟨Nat.le_of_ble_eq_true rfl, rfl,
                ⟨⟨rfl, rfl, fun _ τ hb ht hτ => R.ldP (hτ 8 _ rfl) (hb 8 _ rfl) rfl rfl rfl rfl ht⟩,
                ⟨⟨rfl, rfl, fun _ τ hb ht hτ => R.mov (evt (hτ 1 _ rfl)) rfl ht⟩,
                ⟨⟨rfl, rfl, fun _ τ hb ht hτ => R.mov (evt (hτ 9 _ rfl)) rfl ht⟩,
                ⟨⟨rfl, rfl, fun _ τ hb ht hτ => R.idxN (j) (SC.sl (hτ 42 _ rfl)) (evoI (evt (hτ 43 _ rfl))) rfl (by first | omega | (simp only [List.length_map, List.length_append, List.length_cons, List.length_nil, List.length_take, List.length_drop, List.length_replicate]; omega) | (simp; omega)) ht (by decide)⟩,
                ⟨⟨rfl, rfl, fun _ τ hb ht hτ => R.ldE (hτ 44 _ rfl) (SC.sl (hτ 42 _ rfl)) (map_get! (l := br) (by first | omega | (simp only [List.length_map, List.length_append, List.length_cons, List.length_nil, List.length_take, List.length_drop, List.length_replicate]; omega) | (simp; omega))) rfl rfl rfl rfl ht⟩,
                ⟨⟨rfl, rfl, fun _ τ hb ht hτ => R.eqAE (evt (hτ 41 _ rfl)) (evt (hτ 45 _ rfl)) ht⟩,
                trivial⟩⟩⟩⟩⟩⟩, rfl, rfl, rfl⟩)
              rfl (bx' := [(8, .var _), (6, .var _), (3, .var _)]) rfl (n' := 57) rfl (⟨[1, 2, 6, 8, 9, 46], [(1, _), (2, _), (6, _), (8, _), (9, _), (46, _)], [(8, .var _), (6, .var _), (3, .var _)], 57, rfl, rfl, rfl, ?_⟩)
            refine W.cond rfl (fun hc46 => ?_) (fun hc46 => ?_)
            · refine W.seq ?_
              refine W.line (n := 3) (by decide) (its := [⟨47, _, true⟩]) (ks := []) (kk := []) (live := [6, 47]) (env' := [(6, _), (47, _)])
                (⟨Nat.le_of_ble_eq_true rfl, rfl,
                  ⟨⟨rfl, rfl, fun _ τ hb ht hτ => R.bldAZ rfl ht⟩,
                  trivial⟩, rfl, rfl, rfl⟩)
                rfl (bx' := [(8, .var _), (6, .var _), (3, .var _)]) rfl (n' := 57) rfl (⟨rfl, _, R.stZ (show Sg.get _ 6 = some _ from rfl) (show Sg.box _ 6 = some _ from rfl) rfl (evt (show Sg.get _ 47 = some _ from rfl)) (by rfl) (by rfl) (by rfl) (by rfl) rfl, ⟨rfl, _, R.asg (show ev _ _ (.const (.int .i64 15)) = some (.int ((15 : Nat) : Int)) from rfl) rfl (Nat.le_of_ble_eq_true rfl), ⟨[6, 7], [(6, _), (7, _)], [(8, .var _), (6, .var _), (3, .var _)], 57, rfl, rfl, rfl, ?_⟩⟩⟩)
              refine W.ret ?_
              exact Ends.many (.inr rfl) (.cons rfl rfl rfl (show LdT _ 23 32 true from inferInstance) (.cons rfl rfl rfl trivial .nil)) (by have e := foldL_drop joinR h br j kk (by omega); rw [if_neg hc34, if_pos (eq_of_beq (beq_sw hc46))] at e; rw [hfs, ← heq, e]; rfl) (show [(6, false), (7, true)].Nodup by decide)
            · refine W.draw (m := 6) (an := [0, 0, 3, 7, 0, 31, 63]) hP (by decide) rfl (its := [⟨48, _, true⟩, ⟨49, _, true⟩, ⟨50, _, true⟩, ⟨51, _, true⟩, ⟨52, _, true⟩, ⟨53, _, true⟩]) (ks := []) (kk := []) (live := [1, 2, 6, 8, 9, 53]) (env' := [(1, _), (2, _), (6, _), (8, _), (9, _), (53, _)])
                (⟨Nat.le_of_ble_eq_true rfl, rfl,
                  ⟨⟨rfl, rfl, fun _ τ hb ht hτ => R.mov (evt (hτ 1 _ rfl)) rfl ht⟩,
                  ⟨⟨rfl, rfl, fun _ τ hb ht hτ => R.mov (evt (hτ 9 _ rfl)) rfl ht⟩,
                  ⟨⟨rfl, rfl, fun _ τ hb ht hτ => R.idxN (j) (SC.sl (hτ 48 _ rfl)) (evoI (evt (hτ 49 _ rfl))) rfl (by first | omega | (simp only [List.length_map, List.length_append, List.length_cons, List.length_nil, List.length_take, List.length_drop, List.length_replicate]; omega) | (simp; omega)) ht (by decide)⟩,
                  ⟨⟨rfl, rfl, fun _ τ hb ht hτ => R.ldE (hτ 50 _ rfl) (SC.sl (hτ 48 _ rfl)) (map_get! (l := br) (by first | omega | (simp only [List.length_map, List.length_append, List.length_cons, List.length_nil, List.length_take, List.length_drop, List.length_replicate]; omega) | (simp; omega))) rfl rfl rfl rfl ht⟩,
                  ⟨⟨rfl, rfl, fun _ τ hb ht hτ => R.ldP (hτ 8 _ rfl) (hb 8 _ rfl) rfl rfl rfl rfl ht⟩,
                  ⟨⟨rfl, rfl, fun _ τ hb ht hτ => R.callG hC (rjoin_ok _ _ (hbr.get (by omega)) hh) (Bors.cons (Bor.pur (evt (hτ 51 _ rfl)) rfl rfl) (Bors.cons (Bor.pur (evt (hτ 52 _ rfl)) rfl rfl) Bors.nil)) (FrsR.one (frs_hash _)) ht⟩,
                  trivial⟩⟩⟩⟩⟩⟩, rfl, rfl, rfl⟩)
                rfl (bx' := [(8, .var _), (6, .var _), (3, .var _)]) rfl (n' := 57) rfl (⟨rfl, _, R.stZ (show Sg.get _ 8 = some _ from rfl) (show Sg.box _ 8 = some _ from rfl) rfl (evt (show Sg.get _ 53 = some _ from rfl)) (by rfl) (by rfl) (by rfl) (by rfl) rfl, ⟨[1, 2, 6, 8, 9], [(1, _), (2, _), (6, _), (8, _), (9, _)], [(8, .var _), (6, .var _), (3, .var _)], 57, rfl, rfl, rfl, ?_⟩⟩)
              refine W.line (n := 3) (by decide) (its := [⟨54, _, true⟩, ⟨55, _, true⟩, ⟨2, _, true⟩]) (ks := []) (kk := []) (live := [1, 2, 6, 8, 9]) (env' := [(1, _), (2, _), (6, _), (8, _), (9, _)])
                (⟨Nat.le_of_ble_eq_true rfl, rfl,
                  ⟨⟨rfl, rfl, fun _ τ hb ht hτ => R.mov (evt (hτ 2 _ rfl)) rfl ht⟩,
                  ⟨⟨rfl, rfl, fun _ τ hb ht hτ => R.quoN (kk) (2) (evt (hτ 54 _ rfl)) (show ev _ _ (.const (.int .i64 2)) = some (.int ((2 : Nat) : Int)) from rfl) (by first | omega | (simp only [List.length_map, List.length_append, List.length_cons, List.length_nil, List.length_take, List.length_drop, List.length_replicate]; omega) | (simp; omega)) (by first | omega | (simp only [List.length_map, List.length_append, List.length_cons, List.length_nil, List.length_take, List.length_drop, List.length_replicate]; omega) | (simp; omega)) ht⟩,
                  ⟨⟨rfl, rfl, fun _ τ hb ht hτ => R.asg (evt (hτ 55 _ rfl)) rfl ht⟩,
                  trivial⟩⟩⟩, rfl, rfl, rfl⟩)
                rfl (bx' := [(8, .var _), (6, .var _), (3, .var _)]) rfl (n' := 57) rfl (⟨[1, 2, 6, 8, 9], [(1, _), (2, _), (6, _), (8, _), (9, _)], [(8, .var _), (6, .var _), (3, .var _)], 57, rfl, rfl, rfl, ?_⟩)
              refine W.line (n := 3) (by decide) (its := [⟨30, _, true⟩, ⟨31, _, true⟩, ⟨9, _, true⟩]) (ks := []) (kk := []) (live := [1, 2, 6, 8, 9]) (env' := [(1, _), (2, _), (6, _), (8, _), (9, _)])
                (⟨Nat.le_of_ble_eq_true rfl, rfl,
                  ⟨⟨rfl, rfl, fun _ τ hb ht hτ => R.mov (evt (hτ 9 _ rfl)) rfl ht⟩,
                  ⟨⟨rfl, rfl, fun _ τ hb ht hτ => R.addN (j) (1) (evt (hτ 30 _ rfl)) (show ev _ _ (.const (.int .i64 1)) = some (.int ((1 : Nat) : Int)) from rfl) (by first | omega | (simp only [List.length_map, List.length_append, List.length_cons, List.length_nil, List.length_take, List.length_drop, List.length_replicate]; omega) | (simp; omega)) ht⟩,
                  ⟨⟨rfl, rfl, fun _ τ hb ht hτ => R.asg (evt (hτ 31 _ rfl)) rfl ht⟩,
                  trivial⟩⟩⟩, rfl, rfl, rfl⟩)
                rfl (bx' := [(8, .var _), (6, .var _), (3, .var _)]) rfl (n' := 57) rfl (⟨[1, 2, 6, 8, 9], [(1, _), (2, _), (6, _), (8, _), (9, _)], [(8, .var _), (6, .var _), (3, .var _)], 57, rfl, rfl, rfl, ?_⟩)
              exact ⟨⟨(j + 1, kk / 2, (if kk % 2 = 0 then joinR h br[j]! else joinR br[j]! h)), ⟨⟨by omega, by show kk / 2 ≤ m; omega⟩, by (try dsimp only); split <;> exact joinR_len _ _, by rw [← heq, foldL_drop joinR h br j kk (by omega)]; (try dsimp only); first | (rw [if_pos hc34, if_pos hc34]) | (rw [if_neg hc34, if_neg hc34, if_neg (ne_of_beq_false (beq_sw hc46))])⟩⟩, (by (try dsimp only); first | rw [if_pos hc34] | rw [if_neg hc34]), (by simp only []; omega)⟩
        · obtain rfl : j = br.length := by omega
          refine W.exit ?_
          refine W.seq ?_
          refine W.line (n := 3) (by decide) (its := [⟨56, _, true⟩]) (ks := []) (kk := []) (live := [6, 56]) (env' := [(6, _), (56, _)])
            (⟨Nat.le_of_ble_eq_true rfl, rfl,
              ⟨⟨rfl, rfl, fun _ τ hb ht hτ => R.ldP (hτ 8 _ rfl) (hb 8 _ rfl) rfl rfl rfl rfl ht⟩,
              trivial⟩, rfl, rfl, rfl⟩)
            rfl (bx' := [(8, .var _), (6, .var _), (3, .var _)]) rfl (n' := 57) rfl (⟨rfl, _, R.stZ (show Sg.get _ 6 = some _ from rfl) (show Sg.box _ 6 = some _ from rfl) rfl (evt (show Sg.get _ 56 = some _ from rfl)) (by rfl) (by rfl) (by rfl) (by rfl) rfl, ⟨rfl, _, R.asg (show ev _ _ (.const (.int .i64 0)) = some (.int ((0 : Nat) : Int)) from rfl) rfl (Nat.le_of_ble_eq_true rfl), ⟨[6, 7], [(6, _), (7, _)], [(8, .var _), (6, .var _), (3, .var _)], 57, rfl, rfl, rfl, ?_⟩⟩⟩)
          refine W.ret ?_
          exact Ends.many (.inr rfl) (.cons rfl rfl rfl (show LdT _ 23 32 true from inferInstance) (.cons rfl rfl rfl trivial .nil)) (by have e := foldL_end joinR h br br.length kk (Nat.le_refl _); rw [hfs, ← heq, e]; rfl) (show [(6, false), (7, true)].Nodup by decide)

end Go.Sx
