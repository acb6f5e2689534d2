/-
  What the functions of sha and scantlingref01 compute, as they compute it.
-/
import Derived.Test.YtlpacmknoknpoaaDoorSxDropB
set_option linter.unusedVariables false
set_option linter.unusedSimpArgs false
set_option linter.unnecessarySimpa false
namespace Go.Sx

def kTab : List UInt32 := [0x428a2f98, 0x71374491, 0xb5c0fbcf, 0xe9b5dba5, 0x3956c25b, 0x59f111f1, 0x923f82a4, 0xab1c5ed5,
  0xd807aa98, 0x12835b01, 0x243185be, 0x550c7dc3, 0x72be5d74, 0x80deb1fe, 0x9bdc06a7, 0xc19bf174,
  0xe49b69c1, 0xefbe4786, 0x0fc19dc6, 0x240ca1cc, 0x2de92c6f, 0x4a7484aa, 0x5cb0a9dc, 0x76f988da,
  0x983e5152, 0xa831c66d, 0xb00327c8, 0xbf597fc7, 0xc6e00bf3, 0xd5a79147, 0x06ca6351, 0x14292967,
  0x27b70a85, 0x2e1b2138, 0x4d2c6dfc, 0x53380d13, 0x650a7354, 0x766a0abb, 0x81c2c92e, 0x92722c85,
  0xa2bfe8a1, 0xa81a664b, 0xc24b8b70, 0xc76c51a3, 0xd192e819, 0xd6990624, 0xf40e3585, 0x106aa070,
  0x19a4c116, 0x1e376c08, 0x2748774c, 0x34b0bcb5, 0x391c0cb3, 0x4ed8aa4a, 0x5b9cca4f, 0x682e6ff3,
  0x748f82ee, 0x78a5636f, 0x84c87814, 0x8cc70208, 0x90befffa, 0xa4506ceb, 0xbef9a3f7, 0xc67178f2]
def iv : List UInt32 := [0x6a09e667, 0xbb67ae85, 0x3c6ef372, 0xa54ff53a, 0x510e527f, 0x9b05688c, 0x1f83d9ab, 0x5be0cd19]

def bytesD (b : List UInt8) : D := .sl none 1 (b.map D.u8)
def hashD (b : List UInt8) : D := .arr 32 1 (b.map D.u8)

/-! ### sha -/
def rotl (x : UInt32) (k : Int) : UInt32 := shl_u32 x (UInt64.ofInt k &&& 31).toNat ||| shr_u32 x (32 - (UInt64.ofInt k &&& 31)).toNat
def right (x : UInt32) (n : Int) : UInt32 := rotl x (wr (0 - n))
/-- one word of a piece, byte by byte -/
def inW (p : List UInt8) (t : Nat) (w : List UInt32) : Nat → List UInt32
  | 0 => w
  | i + 1 => (inW p t w i).set t (shl_u32 (inW p t w i)[t]! 8 ||| (p[4 * t + i]!).toUInt32)
def nextW (w : List UInt32) (t : Nat) : UInt32 :=
  w[t - 16]! + w[t - 7]! + (right w[t - 15]! 7 ^^^ right w[t - 15]! 18 ^^^ shr_u32 w[t - 15]! 3) + (right w[t - 2]! 17 ^^^ right w[t - 2]! 19 ^^^ shr_u32 w[t - 2]! 10)
def sched (p : List UInt8) : Nat → List UInt32
  | 0 => List.replicate 64 0
  | t + 1 => if t < 16 then inW p t (sched p t) 4 else (sched p t).set t (nextW (sched p t) t)

structure W8 where
  a : UInt32
  b : UInt32
  c : UInt32
  d : UInt32
  e : UInt32
  f : UInt32
  g : UInt32
  l : UInt32
def W8.list (v : W8) : List UInt32 := [v.a, v.b, v.c, v.d, v.e, v.f, v.g, v.l]
def W8.of (h : List UInt32) : W8 := ⟨h[0]!, h[1]!, h[2]!, h[3]!, h[4]!, h[5]!, h[6]!, h[7]!⟩
def one (v : W8) (k w : UInt32) : UInt32 := v.l + (right v.e 6 ^^^ right v.e 11 ^^^ right v.e 25) + (v.g ^^^ (v.e &&& (v.f ^^^ v.g))) + k + w
def two (v : W8) : UInt32 := (right v.a 2 ^^^ right v.a 13 ^^^ right v.a 22) + (v.a &&& v.b ||| v.c &&& (v.a ||| v.b))
def rnd (v : W8) (k w : UInt32) : W8 := ⟨one v k w + two v, v.a, v.b, v.c, v.d + one v k w, v.e, v.f, v.g⟩
def rds (h w : List UInt32) : Nat → W8
  | 0 => W8.of h
  | t + 1 => rnd (rds h w t) kTab[t]! w[t]!
def addH (h l : List UInt32) : Nat → List UInt32
  | 0 => h
  | i + 1 => (addH h l i).set i ((addH h l i)[i]! + l[i]!)
def comp (h : List UInt32) (p : List UInt8) : List UInt32 := addH h (rds h (sched p 64) 64).list 8

structure ShaS where
  begun : Bool
  h : List UInt32
  piece : List UInt8
  n : UInt64
def stD (s : ShaS) : D := .agg [.bool s.begun, .arr 8 1 (s.h.map D.u32), .arr 64 1 (s.piece.map D.u8), .u64 s.n]
def ShaS.zero : ShaS := ⟨false, List.replicate 8 0, List.replicate 64 0, 0⟩
def ShaS.start : ShaS := ⟨true, iv, List.replicate 64 0, 0⟩
structure ShaS.ok (s : ShaS) : Prop where
  h : s.h.length = 8
  p : s.piece.length = 64
theorem ShaS.zero_ok : ShaS.zero.ok := ⟨by simp [ShaS.zero], by simp [ShaS.zero]⟩
theorem ShaS.start_ok : ShaS.start.ok := ⟨by simp [ShaS.start, iv], by simp [ShaS.start]⟩

theorem frs_st (s : ShaS) : Frs (stD s) := .agg _ (frs_cons (.bool _) (frs_cons (.arr _ _ _ (frs_map fun _ => .u32 _)) (frs_cons (.arr _ _ _ (frs_map fun _ => .u8 _)) (frs_cons (.u64 _) frs_nil))))
theorem frs_hash (b : List UInt8) : Frs (hashD b) := .arr _ _ _ (frs_map fun _ => .u8 _)

theorem inW_len (p : List UInt8) (t : Nat) (w : List UInt32) (i : Nat) : (inW p t w i).length = w.length := by
  induction i with
  | zero => rfl
  | succ i ih => simp [inW, ih]
theorem sched_len (p : List UInt8) (t : Nat) : (sched p t).length = 64 := by
  induction t with
  | zero => simp [sched]
  | succ t ih => simp only [sched]; split <;> simp [inW_len, ih]
theorem addH_len (h l : List UInt32) (i : Nat) : (addH h l i).length = h.length := by
  induction i with
  | zero => rfl
  | succ i ih => simp [addH, ih]
theorem comp_len (h : List UInt32) (p : List UInt8) : (comp h p).length = h.length := addH_len ..

/-! ### states -/
def mS (s : ShaS) : Nat := (s.n % 64).toNat
def kS (s : ShaS) (b : List UInt8) : Nat := min b.length (64 - mS s)
def pieceS (s : ShaS) (b : List UInt8) : List UInt8 := s.piece.take (mS s) ++ b.take (kS s b) ++ s.piece.drop (mS s + kS s b)
def nS (s : ShaS) (b : List UInt8) : UInt64 := s.n + UInt64.ofInt (kS s b : Nat)
def stepS (s : ShaS) (b : List UInt8) : ShaS := ⟨s.begun, bif nS s b % 64 == 0 then comp s.h (pieceS s b) else s.h, pieceS s b, nS s b⟩
theorem mS_lt (s : ShaS) : mS s < 64 := by
  unfold mS
  rw [UInt64.toNat_mod]
  exact Nat.mod_lt _ (by decide)
theorem kS_le (s : ShaS) (b : List UInt8) : kS s b ≤ b.length := Nat.min_le_left _ _
theorem kS_pos (s : ShaS) (b : List UInt8) (h : 0 < b.length) : 0 < kS s b := by have := mS_lt s; unfold kS; omega
theorem kS_room (s : ShaS) (b : List UInt8) : mS s + kS s b ≤ 64 := by have := mS_lt s; unfold kS; omega
def addW (s : ShaS) (b : List UInt8) : ShaS :=
  if h : b.length = 0 then s else addW (stepS s b) (b.drop (kS s b))
termination_by b.length
decreasing_by
  have := kS_pos s b (by omega)
  simp only [List.length_drop]; omega
theorem addW_nil (s : ShaS) (b : List UInt8) (h : b.length = 0) : addW s b = s := by rw [addW]; simp [h]
theorem addW_step (s : ShaS) (b : List UInt8) (h : b.length ≠ 0) : addW s b = addW (stepS s b) (b.drop (kS s b)) := by rw [addW]; simp [h]
def addS (s : ShaS) (b : List UInt8) : ShaS := addW (bif s.begun then s else ShaS.start) b
theorem pieceS_len (s : ShaS) (b : List UInt8) (h : s.ok) : (pieceS s b).length = 64 := by
  have h1 := kS_room s b
  have h2 := kS_le s b
  have h3 := h.p
  simp [pieceS]; omega
theorem stepS_ok (s : ShaS) (b : List UInt8) (h : s.ok) : (stepS s b).ok := by
  refine ⟨?_, pieceS_len s b h⟩
  simp only [stepS]
  cases (nS s b % 64 == 0) with
  | true => simp only [cond_true, comp_len]; exact h.h
  | false => exact h.h
theorem addW_ok (s : ShaS) (b : List UInt8) (h : s.ok) : (addW s b).ok := by
  induction hn : b.length using Nat.strongRecOn generalizing s b with
  | _ n ih =>
    by_cases h0 : b.length = 0
    · rw [addW_nil _ _ h0]; exact h
    · rw [addW_step _ _ h0]
      have := kS_pos s b (by omega)
      exact ih _ (by simp; omega) _ _ (stepS_ok s b h) rfl
theorem addS_ok (s : ShaS) (b : List UInt8) (h : s.ok) : (addS s b).ok := by
  unfold addS
  cases s.begun with
  | true => exact addW_ok _ _ h
  | false => exact addW_ok _ _ ShaS.start_ok

/-- how many noughts are to come -/
def padN (s : ShaS) : Nat := (120 - mS s) % 64
def padS : Nat → ShaS → ShaS
  | 0, s => s
  | k + 1, s => padS k (addS s [0])
theorem padS_ok (k : Nat) (s : ShaS) (h : s.ok) : (padS k s).ok := by
  induction k generalizing s with
  | zero => exact h
  | succ k ih => exact ih _ (addS_ok s _ h)
def longB (n : UInt64) : Nat → List UInt8
  | 0 => List.replicate 8 0
  | i + 1 => (longB n i).set i (shr_u64 n (56 - 8 * i)).toUInt8
theorem longB_len (n : UInt64) (i : Nat) : (longB n i).length = 8 := by
  induction i with
  | zero => simp [longB]
  | succ i ih => simp [longB, ih]
def outB (h : List UInt32) : Nat → List UInt8
  | 0 => List.replicate 32 0
  | i + 1 => (outB h i).set i (shr_u32 h[i / 4]! (24 - 8 * (i % 4))).toUInt8
theorem outB_len (h : List UInt32) (i : Nat) : (outB h i).length = 32 := by
  induction i with
  | zero => simp [outB]
  | succ i ih => simp [outB, ih]
def pad1 (s : ShaS) : ShaS := addS s [128]
def pad2 (s : ShaS) : ShaS := padS (padN (pad1 s)) (pad1 s)
def pad3 (s : ShaS) : ShaS := addS (pad2 s) (longB (s.n * 8) 8)
def endS (s : ShaS) : List UInt8 := outB (pad3 s).h 32
def sumS (b : List UInt8) : List UInt8 := endS (addS ShaS.start b)
def twiceS (b : List UInt8) : List UInt8 := sumS (sumS b)
theorem endS_len (s : ShaS) : (endS s).length = 32 := outB_len _ _
theorem sumS_len (b : List UInt8) : (sumS b).length = 32 := endS_len _

/-! ### how many bytes there were -/
theorem stepS_begun (s : ShaS) (b : List UInt8) : (stepS s b).begun = s.begun := rfl
theorem addW_begun (s : ShaS) (b : List UInt8) : (addW s b).begun = s.begun := by
  induction hn : b.length using Nat.strongRecOn generalizing s b with
  | _ n ih =>
    by_cases h0 : b.length = 0
    · rw [addW_nil _ _ h0]
    · rw [addW_step _ _ h0]
      have := kS_pos s b (by omega)
      rw [ih _ (by simp; omega) _ _ rfl, stepS_begun]
theorem addS_begun (s : ShaS) (b : List UInt8) : (addS s b).begun = true := by
  unfold addS
  rw [addW_begun]
  cases h : s.begun with
  | true => simpa using h
  | false => rfl
theorem addS_one (s : ShaS) (x : UInt8) (h : s.begun = true) : addS s [x] = stepS s [x] := by
  unfold addS
  have hk : kS s [x] = 1 := by have := mS_lt s; simp only [kS, List.length_singleton]; omega
  rw [h, cond_true, addW_step _ _ (by simp), addW_nil _ _ (by simp [hk])]
theorem mS_one (s : ShaS) (x : UInt8) (h : s.begun = true) : mS (addS s [x]) = (mS s + 1) % 64 := by
  rw [addS_one s x h]
  have hk : kS s [x] = 1 := by have := mS_lt s; simp only [kS, List.length_singleton]; omega
  have e : UInt64.ofInt ((1 : Nat) : Int) = 1 := rfl
  have e1 : (1 : UInt64).toNat = 1 := rfl
  have e2 : (64 : UInt64).toNat = 64 := rfl
  simp only [mS, stepS, nS, hk, e, UInt64.toNat_mod, UInt64.toNat_add, e1, e2]
  omega
theorem mS_ne {s : ShaS} (h : (s.n % 64 != 56) = true) : mS s ≠ 56 := by
  intro he
  have : s.n % 64 = 56 := UInt64.toNat_inj.1 he
  simp [this] at h
theorem mS_eq {s : ShaS} (h : (s.n % 64 != 56) = false) : mS s = 56 := by
  have : s.n % 64 = 56 := by simpa using h
  unfold mS; rw [this]; rfl
theorem pad_step (s : ShaS) (hb : s.begun = true) (h : mS s ≠ 56) : padS (padN s) s = padS (padN (addS s [0])) (addS s [0]) := by
  have h1 := mS_one s 0 hb
  have h2 := mS_lt s
  have : padN s = padN (addS s [0]) + 1 := by unfold padN; omega
  rw [this]; rfl
theorem pad_less (s : ShaS) (hb : s.begun = true) (h : mS s ≠ 56) : padN (addS s [0]) < padN s := by
  have h1 := mS_one s 0 hb
  have h2 := mS_lt s
  unfold padN; omega
theorem pad_end (s : ShaS) (h : mS s = 56) : padN s = 0 := by unfold padN; omega

/-! ### scantlingref01 -/
def rright (x : UInt32) (n : UInt64) : UInt32 := shr_u32 x n.toNat ||| shl_u32 x (32 - n).toNat
def w4 (p : List UInt8) (t : Nat) : UInt32 :=
  shl_u32 (p[4 * t]!).toUInt32 24 ||| shl_u32 (p[4 * t + 1]!).toUInt32 16 ||| shl_u32 (p[4 * t + 2]!).toUInt32 8 ||| (p[4 * t + 3]!).toUInt32
def nextR (w : List UInt32) (t : Nat) : UInt32 :=
  (rright w[t - 2]! 17 ^^^ rright w[t - 2]! 19 ^^^ shr_u32 w[t - 2]! 10) + w[t - 7]! + (rright w[t - 15]! 7 ^^^ rright w[t - 15]! 18 ^^^ shr_u32 w[t - 15]! 3) + w[t - 16]!
def wR (p : List UInt8) : Nat → List UInt32
  | 0 => []
  | t + 1 => wR p t ++ [if t < 16 then w4 p t else nextR (wR p t) t]
theorem wR_len (p : List UInt8) (t : Nat) : (wR p t).length = t := by
  induction t with
  | zero => rfl
  | succ t ih => simp [wR, ih]
def oneR (l : List UInt32) (k w : UInt32) : UInt32 :=
  l[7]! + (rright l[4]! 6 ^^^ rright l[4]! 11 ^^^ rright l[4]! 25) + (l[4]! &&& l[5]! ^^^ ~~~l[4]! &&& l[6]!) + k + w
def twoR (l : List UInt32) : UInt32 := (rright l[0]! 2 ^^^ rright l[0]! 13 ^^^ rright l[0]! 22) + (l[0]! &&& l[1]! ^^^ l[0]! &&& l[2]! ^^^ l[1]! &&& l[2]!)
def rndR (l : List UInt32) (k w : UInt32) : List UInt32 := [oneR l k w + twoR l, l[0]!, l[1]!, l[2]!, l[3]! + oneR l k w, l[4]!, l[5]!, l[6]!]
def rdsR (h w : List UInt32) : Nat → List UInt32
  | 0 => h
  | t + 1 => rndR (rdsR h w t) kTab[t]! w[t]!
theorem rdsR_len (h w : List UInt32) (t : Nat) (hh : h.length = 8) : (rdsR h w t).length = 8 := by
  cases t with
  | zero => exact hh
  | succ t => rfl
def compR (h : List UInt32) (p : List UInt8) : List UInt32 := addH h (rdsR h (wR p 64) 64) 8
theorem compR_len (h : List UInt32) (p : List UInt8) : (compR h p).length = h.length := addH_len ..
def zR (b : List UInt8) : Nat := (119 - b.length % 64) % 64
def tailR (n : UInt64) : Nat → List UInt8
  | 0 => []
  | j + 1 => tailR n j ++ [(shr_u64 n (UInt64.ofInt (wr (8 * (7 - ((j : Nat) : Int))))).toNat).toUInt8]
theorem tailR_len (n : UInt64) (t : Nat) : (tailR n t).length = t := by
  induction t with
  | zero => rfl
  | succ t ih => simp [tailR, ih]
def bitsR (b : List UInt8) : UInt64 := UInt64.ofInt (b.length : Nat) * 8
def textR (b : List UInt8) : List UInt8 := b ++ [128] ++ List.replicate (zR b) 0 ++ tailR (bitsR b) 8
theorem textR_len (b : List UInt8) : (textR b).length = b.length + 9 + zR b := by simp [textR, tailR_len]; omega
def pieces (b : List UInt8) : Nat := (b.length + 9 + zR b) / 64
theorem textR_pieces (b : List UInt8) : (textR b).length = 64 * pieces b := by rw [textR_len]; unfold pieces zR; omega
def hR (all : List UInt8) : Nat → List UInt32
  | 0 => iv
  | m + 1 => compR (hR all m) ((all.drop (64 * m)).take 64)
theorem hR_len (all : List UInt8) (m : Nat) : (hR all m).length = 8 := by
  induction m with
  | zero => rfl
  | succ m ih => simp only [hR, compR_len, ih]
def outR (h : List UInt32) : Nat → List UInt8
  | 0 => List.replicate 32 0
  | i + 1 => (outR h i).set i (shr_u32 h[i / 4]! (UInt64.ofInt ((24 - 8 * (i % 4) : Nat) : Int)).toNat).toUInt8
theorem outR_len (h : List UInt32) (i : Nat) : (outR h i).length = 32 := by
  induction i with
  | zero => simp [outR]
  | succ i ih => simp [outR, ih]
def sumR (b : List UInt8) : List UInt8 := outR (hR (textR b) (pieces b)) 32
def twiceR (b : List UInt8) : List UInt8 := sumR (sumR b)
theorem sumR_len (b : List UInt8) : (sumR b).length = 32 := outR_len _ _
end Go.Sx
