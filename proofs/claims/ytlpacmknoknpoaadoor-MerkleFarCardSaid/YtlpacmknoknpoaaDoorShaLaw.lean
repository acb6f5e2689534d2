/-
  The plain law: what sha computes is what scantlingref01 computes.
-/
import Derived.Test.YtlpacmknoknpoaaDoorShaDefs
set_option linter.unusedVariables false
set_option linter.unusedSimpArgs false
set_option linter.unnecessarySimpa false
namespace Go.Sx

/-! ### words -/
theorem or_comm32 (a b : UInt32) : a ||| b = b ||| a := by
  apply UInt32.toBitVec_inj.1
  simp [BitVec.or_comm]
theorem right_r (x : UInt32) : right x 2 = rright x 2 ∧ right x 13 = rright x 13 ∧ right x 22 = rright x 22 ∧ right x 6 = rright x 6 ∧ right x 11 = rright x 11 ∧ right x 25 = rright x 25 ∧
    right x 7 = rright x 7 ∧ right x 18 = rright x 18 ∧ right x 17 = rright x 17 ∧ right x 19 = rright x 19 := by
  refine ⟨?_, ?_, ?_, ?_, ?_, ?_, ?_, ?_, ?_, ?_⟩ <;> exact or_comm32 _ _
theorem ch_r (e f g : UInt32) : g ^^^ (e &&& (f ^^^ g)) = e &&& f ^^^ ~~~e &&& g := by
  apply UInt32.toBitVec_inj.1
  simp only [UInt32.toBitVec_xor, UInt32.toBitVec_and, UInt32.toBitVec_not]
  ext i hi
  simp only [BitVec.getElem_xor, BitVec.getElem_and, BitVec.getElem_not]
  cases e.toBitVec[i] <;> cases f.toBitVec[i] <;> cases g.toBitVec[i] <;> rfl
theorem maj_r (a b c : UInt32) : a &&& b ||| c &&& (a ||| b) = a &&& b ^^^ a &&& c ^^^ b &&& c := by
  apply UInt32.toBitVec_inj.1
  simp only [UInt32.toBitVec_xor, UInt32.toBitVec_and, UInt32.toBitVec_or]
  ext i hi
  simp only [BitVec.getElem_xor, BitVec.getElem_and, BitVec.getElem_or]
  cases a.toBitVec[i] <;> cases b.toBitVec[i] <;> cases c.toBitVec[i] <;> rfl

theorem get!_append {α : Type} [Inhabited α] {l r : List α} {i : Nat} (h : i < l.length) : (l ++ r)[i]! = l[i]! := by
  simp [List.getElem?_append_left h]
theorem get!_set_same {α : Type} [Inhabited α] {l : List α} {i : Nat} {v : α} (h : i < l.length) : (l.set i v)[i]! = v := by simp [h]

theorem next_r (w r : List UInt32) (t : Nat) (h : 16 ≤ t) (hw : w.length = t) : nextW (w ++ r) t = nextR w t := by
  unfold nextW nextR
  rw [get!_append (by omega), get!_append (by omega), get!_append (by omega), get!_append (by omega)]
  obtain ⟨_, _, _, _, _, _, h7, h18, _, _⟩ := right_r w[t - 15]!
  obtain ⟨_, _, _, _, _, _, _, _, h17, h19⟩ := right_r w[t - 2]!
  rw [h7, h18, h17, h19]
  generalize rright _ 7 ^^^ _ ^^^ _ = a
  generalize rright _ 17 ^^^ _ ^^^ _ = b
  generalize w[t - 16]! = c
  generalize w[t - 7]! = d
  apply UInt32.toBitVec_inj.1
  simp only [UInt32.toBitVec_add]
  ac_rfl

theorem shl_or (x y : UInt32) : shl_u32 (x ||| y) 8 = shl_u32 x 8 ||| shl_u32 y 8 := by
  apply UInt32.toBitVec_inj.1
  simp [shl_u32, BitVec.shiftLeft_or_distrib]
theorem shl_8_8 (x : UInt32) : shl_u32 (shl_u32 x 8) 8 = shl_u32 x 16 := by
  apply UInt32.toBitVec_inj.1
  simp [shl_u32, ← BitVec.shiftLeft_add]
theorem shl_16_8 (x : UInt32) : shl_u32 (shl_u32 x 16) 8 = shl_u32 x 24 := by
  apply UInt32.toBitVec_inj.1
  simp [shl_u32, ← BitVec.shiftLeft_add]
theorem sched_r (p : List UInt8) (t : Nat) (ht : t ≤ 64) : sched p t = wR p t ++ List.replicate (64 - t) 0 := by
  induction t with
  | zero => simp [sched, wR]
  | succ t ih =>
    have ih := ih (by omega)
    have hl := wR_len p t
    have hset : ∀ v : UInt32, (wR p t ++ List.replicate (64 - t) 0).set t v = wR p t ++ [v] ++ List.replicate (64 - (t + 1)) 0 := by
      intro v
      rw [List.set_append_right _ _ (by omega), hl, Nat.sub_self, show 64 - t = (64 - (t + 1)) + 1 by omega, List.replicate_succ, List.set_cons_zero]
      simp
    simp only [sched, wR]
    by_cases h : t < 16
    · rw [if_pos h, if_pos h, ih]
      have h0 : (wR p t ++ List.replicate (64 - t) 0)[t]! = 0 := by
        simp only [getElem!_def]
        rw [List.getElem?_append_right (by omega), hl, Nat.sub_self]
        simp [show 0 < 64 - t by omega]
      have hlen : ∀ l : List UInt32, l.length = 64 → t < l.length := fun l hl => by omega
      have e0 : (wR p t ++ List.replicate (64 - t) 0).length = 64 := by simp [hl]; omega
      have hins : inW p t (wR p t ++ List.replicate (64 - t) 0) 4 = (wR p t ++ List.replicate (64 - t) 0).set t (w4 p t) := by
        simp only [inW]
        simp only [List.set_set, get!_set_same (hlen _ e0), h0]
        congr 1
        unfold w4
        have hz : ∀ y : UInt32, shl_u32 0 8 ||| y = y := fun y => by
          apply UInt32.toBitVec_inj.1
          simp [shl_u32]
        simp only [hz, shl_or, shl_8_8, shl_16_8, Nat.add_zero]
      rw [hins, hset]
    · rw [if_neg h, if_neg h, ih, next_r _ _ _ (by omega) hl, hset]

theorem sched_64 (p : List UInt8) : sched p 64 = wR p 64 := by rw [sched_r p 64 (Nat.le_refl _)]; simp

/-! ### pieces -/
theorem W8.list_get (v : W8) : v.list[0]! = v.a ∧ v.list[1]! = v.b ∧ v.list[2]! = v.c ∧ v.list[3]! = v.d ∧ v.list[4]! = v.e ∧ v.list[5]! = v.f ∧ v.list[6]! = v.g ∧ v.list[7]! = v.l := ⟨rfl, rfl, rfl, rfl, rfl, rfl, rfl, rfl⟩
theorem of_list (h : List UInt32) (hh : h.length = 8) : (W8.of h).list = h := by
  match h, hh with
  | [a, b, c, d, e, f, g, l], _ => rfl
theorem rnd_r (v : W8) (k w : UInt32) : (rnd v k w).list = rndR v.list k w := by
  obtain ⟨e0, e1, e2, e3, e4, e5, e6, e7⟩ := W8.list_get v
  unfold rndR oneR twoR
  simp only [e0, e1, e2, e3, e4, e5, e6, e7]
  obtain ⟨h2, h13, h22, _⟩ := right_r v.a
  obtain ⟨_, _, _, h6, h11, h25, _⟩ := right_r v.e
  simp only [rnd, W8.list, one, two, ch_r, maj_r, h2, h13, h22, h6, h11, h25]
theorem rds_r (h w : List UInt32) (hh : h.length = 8) (t : Nat) : (rds h w t).list = rdsR h w t := by
  induction t with
  | zero => exact of_list h hh
  | succ t ih => simp only [rds, rdsR, rnd_r, ih]
theorem comp_r (h : List UInt32) (p : List UInt8) (hh : h.length = 8) : comp h p = compR h p := by
  unfold comp compR
  rw [sched_64, rds_r _ _ hh]

theorem outB_r (h : List UInt32) (i : Nat) (hi : i ≤ 32) : outB h i = outR h i := by
  induction i with
  | zero => rfl
  | succ i ih =>
    simp only [outB, outR, ih (by omega)]
    have : (UInt64.ofInt ((24 - 8 * (i % 4) : Nat) : Int)).toNat = 24 - 8 * (i % 4) := by
      have h := ofInt_u64 ((24 - 8 * (i % 4) : Nat) : Int)
      omega
    rw [this]
theorem long_tail (n : UInt64) (i : Nat) (hi : i ≤ 8) : longB n i = tailR n i ++ List.replicate (8 - i) 0 := by
  induction i with
  | zero => simp [longB, tailR]
  | succ i ih =>
    simp only [longB, tailR, ih (by omega)]
    have hl := tailR_len n i
    rw [List.set_append_right _ _ (by omega), hl, Nat.sub_self, show 8 - i = (8 - (i + 1)) + 1 by omega, List.replicate_succ, List.set_cons_zero]
    have e : (UInt64.ofInt (wr (8 * (7 - ((i : Nat) : Int))))).toNat = 56 - 8 * i := by
      have h := ofInt_u64 (wr (8 * (7 - ((i : Nat) : Int))))
      have h2 : wr (8 * (7 - ((i : Nat) : Int))) = 8 * (7 - (i : Int)) := by unfold wr; rw [IntKind.wrap_i64]; omega
      rw [h2] at h
      rw [h2]
      omega
    rw [e]
    simp
theorem long_tail8 (n : UInt64) : longB n 8 = tailR n 8 := by rw [long_tail n 8 (Nat.le_refl _)]; simp

/-! ### states -/
theorem hR_prefix (a b : List UInt8) (q : Nat) (h : 64 * q ≤ a.length) : hR (a ++ b) q = hR a q := by
  induction q with
  | zero => rfl
  | succ q ih =>
    simp only [hR, ih (by omega)]
    rw [List.drop_append_of_le_length (by omega), List.take_append_of_le_length (by simp; omega)]

/-- the state of the bytes b -/
structure Rep (s : ShaS) (b : List UInt8) : Prop where
  begun : s.begun = true
  n : s.n = UInt64.ofNat b.length
  h : s.h = hR b (b.length / 64)
  len : s.piece.length = 64
  piece : s.piece.take (b.length % 64) = b.drop (64 * (b.length / 64))

theorem Rep.mS {s : ShaS} {b : List UInt8} (h : Rep s b) : mS s = b.length % 64 := by
  unfold Go.Sx.mS
  rw [h.n, UInt64.toNat_mod, UInt64.toNat_ofNat']
  have : (64 : UInt64).toNat = 64 := rfl
  rw [this]; omega

theorem rep_start : Rep ShaS.start [] := ⟨rfl, rfl, rfl, by simp [ShaS.start], by simp⟩

theorem rep_step {s : ShaS} {b c : List UInt8} (h : Rep s b) (hc : c.length ≠ 0) : Rep (stepS s c) (b ++ c.take (kS s c)) := by
  have hm := h.mS
  have hk1 := kS_le s c
  have hk2 := kS_room s c
  have hk3 := kS_pos s c (by omega)
  have hmlt := mS_lt s
  generalize hk : kS s c = k at hk1 hk2 hk3
  have hb' : (b ++ c.take k).length = b.length + k := by simp; omega
  have hp : pieceS s c = b.drop (64 * (b.length / 64)) ++ c.take k ++ s.piece.drop (b.length % 64 + k) := by
    unfold pieceS; rw [hk, hm, h.piece]
  have hpl : (b.drop (64 * (b.length / 64))).length = b.length % 64 := by simp; omega
  have hn : nS s c = UInt64.ofNat (b.length + k) := by
    unfold nS
    rw [hk, h.n]
    apply UInt64.toNat_inj.1
    have h1 := ofInt_u64 ((k : Nat) : Int)
    simp only [UInt64.toNat_add, UInt64.toNat_ofNat']
    omega
  have hmod : (nS s c % 64 == 0) = decide ((b.length + k) % 64 = 0) := by
    rw [hn, Bool.eq_iff_iff, beq_iff_eq, decide_eq_true_eq, ← UInt64.toNat_inj, UInt64.toNat_mod, UInt64.toNat_ofNat']
    have h1 : (64 : UInt64).toNat = 64 := rfl
    have h2 : (0 : UInt64).toNat = 0 := rfl
    rw [h1, h2]; omega
  have hlen : (pieceS s c).length = 64 := by
    rw [hp]; simp only [List.length_append, List.length_drop, List.length_take, h.len]; omega
  refine ⟨h.begun, by simp only [stepS, hn, hb'], ?_, hlen, ?_⟩
  · simp only [stepS, hmod, hb']
    by_cases hd : (b.length + k) % 64 = 0
    · simp only [hd, decide_true, cond_true]
      have hq : (b.length + k) / 64 = b.length / 64 + 1 := by omega
      have hmk : b.length % 64 + k = 64 := by omega
      rw [hq]
      simp only [hR]
      rw [hR_prefix b _ _ (by omega), h.h, comp_r _ _ (hR_len _ _)]
      congr 1
      have e1 : (b ++ c.take k).drop (64 * (b.length / 64)) = b.drop (64 * (b.length / 64)) ++ c.take k := List.drop_append_of_le_length (by omega)
      have e2 : s.piece.drop 64 = [] := List.drop_eq_nil_of_le (by rw [h.len]; exact Nat.le_refl _)
      rw [hp, hmk, e1, e2, List.append_nil]
      exact (List.take_of_length_le (by rw [List.length_append, hpl, List.length_take]; omega)).symm
    · simp only [hd, decide_false, cond_false]
      have hq : (b.length + k) / 64 = b.length / 64 := by omega
      rw [hq, hR_prefix b _ _ (by omega), h.h]
  · simp only [stepS, hb']
    by_cases hd : (b.length + k) % 64 = 0
    · rw [hd, List.take_zero, List.drop_eq_nil_of_le (by rw [hb']; omega)]
    · have hq : (b.length + k) / 64 = b.length / 64 := by omega
      have hr : (b.length + k) % 64 = b.length % 64 + k := by omega
      rw [hq, hr, hp, List.drop_append_of_le_length (by omega)]
      rw [List.take_append_of_le_length (by simp; omega), List.take_of_length_le (by simp; omega)]

theorem rep_addW {s : ShaS} {b c : List UInt8} (h : Rep s b) : Rep (addW s c) (b ++ c) := by
  induction hn : c.length using Nat.strongRecOn generalizing s b c with
  | _ n ih =>
    by_cases h0 : c.length = 0
    · rw [addW_nil _ _ h0, List.length_eq_zero_iff.1 h0, List.append_nil]; exact h
    · rw [addW_step _ _ h0]
      have hk := kS_pos s c (by omega)
      have := ih _ (by rw [← hn]; simp only [List.length_drop]; omega) (rep_step h h0) (c := c.drop (kS s c)) rfl
      rw [List.append_assoc, List.take_append_drop] at this
      exact this
theorem rep_addS {s : ShaS} {b c : List UInt8} (h : Rep s b) : Rep (addS s c) (b ++ c) := by
  unfold addS; rw [h.begun]; exact rep_addW h
theorem rep_padS {s : ShaS} {b : List UInt8} (h : Rep s b) (k : Nat) : Rep (padS k s) (b ++ List.replicate k 0) := by
  induction k generalizing s b with
  | zero => simpa [padS] using h
  | succ k ih =>
    have := ih (rep_addS (c := [0]) h)
    rw [List.append_assoc] at this
    simpa [padS, List.replicate_succ] using this
theorem end_r {s : ShaS} {b : List UInt8} (h : Rep s b) : endS s = sumR b := by
  have h1 : Rep (pad1 s) (b ++ [128]) := rep_addS h
  have hz : padN (pad1 s) = zR b := by
    unfold padN zR
    rw [h1.mS]
    simp only [List.length_append, List.length_singleton]
    omega
  have h2 : Rep (pad2 s) (b ++ [128] ++ List.replicate (zR b) 0) := by
    unfold pad2; rw [hz]; exact rep_padS h1 _
  have hn : s.n * 8 = bitsR b := by
    rw [h.n]; unfold bitsR
    congr 1
    apply UInt64.toNat_inj.1
    have := ofInt_u64 ((b.length : Nat) : Int)
    rw [UInt64.toNat_ofNat']
    omega
  have h3 : Rep (pad3 s) (textR b) := by
    unfold pad3 textR
    rw [long_tail8, hn]
    exact rep_addS h2
  unfold endS sumR
  rw [outB_r _ _ (Nat.le_refl _), h3.h, textR_pieces]
  congr 2
  omega
theorem rep_start_add (b : List UInt8) : Rep (addS ShaS.start b) b := by
  have := rep_addS (c := b) rep_start
  simpa using this
theorem sum_r (b : List UInt8) : sumS b = sumR b := end_r (rep_start_add b)
theorem twice_r (b : List UInt8) : twiceS b = twiceR b := by unfold twiceS twiceR; rw [sum_r, sum_r]
theorem zero_end : endS ShaS.zero = sumR [] := by
  have : endS ShaS.zero = endS ShaS.start := rfl
  rw [this]; exact end_r rep_start
end Go.Sx
