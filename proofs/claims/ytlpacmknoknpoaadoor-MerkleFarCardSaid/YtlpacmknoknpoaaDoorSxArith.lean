/-
  Own library, part 4: reckoning on abstract data. (Printed by a program of mine: wip/lib/arith.py)
-/
import Derived.Test.YtlpacmknoknpoaaDoorSxStep
import Derived.IntWalk
import Derived.WalkLawsBesides
set_option linter.unusedVariables false
set_option linter.unusedSimpArgs false
set_option linter.unnecessarySimpa false
namespace Go.Sx

theorem wrapU (n : Nat) (x : Nat) : ((n : Int) % ((2 ^ x : Nat) : Int)) = ((n % 2 ^ x : Nat) : Int) := by omega

/-! ### u8 -/
def shl_u8 (x : UInt8) (n : Nat) : UInt8 := if n < 8 then x <<< UInt8.ofNat n else 0
def shr_u8 (x : UInt8) (n : Nat) : UInt8 := if n < 8 then x >>> UInt8.ofNat n else 0
theorem wrap_u8 (z : Int) : IntKind.u8.wrap z = z % 256 := by simp [IntKind.wrap, IntKind.bits, IntKind.signed]
theorem bv_u8 (x : UInt8) : BitVec.ofInt 8 (x.toNat : Int) = x.toBitVec := by
  apply BitVec.eq_of_toNat_eq
  have := x.toNat_lt
  simp only [BitVec.toNat_ofInt, UInt8.toNat_toBitVec]
  omega
theorem bvw_u8 (b : BitVec 8) : ((b.toNat : Int) % 256) = ((UInt8.ofBitVec b).toNat : Int) := by
  have := b.isLt
  have e : (UInt8.ofBitVec b).toNat = b.toNat := rfl
  rw [e]; omega
theorem shl_u8_toNat (x : UInt8) (n : Nat) : (shl_u8 x n).toNat = x.toNat * 2 ^ (min n 8) % 256 := by
  unfold shl_u8
  split
  · rename_i h
    rw [UInt8.toNat_shiftLeft, UInt8.toNat_ofNat', Nat.mod_eq_of_lt (show n < 2 ^ 8 by omega), Nat.mod_eq_of_lt h, Nat.shiftLeft_eq, Nat.min_eq_left (by omega)]
  · rename_i h
    rw [Nat.min_eq_right (by omega)]
    have : (0 : UInt8).toNat = 0 := rfl
    rw [this]; exact (Nat.mul_mod_left _ _).symm
theorem shr_u8_toNat (x : UInt8) (n : Nat) : (shr_u8 x n).toNat = x.toNat / 2 ^ (min n 8) := by
  unfold shr_u8
  split
  · rename_i h
    rw [UInt8.toNat_shiftRight, UInt8.toNat_ofNat', Nat.mod_eq_of_lt (show n < 2 ^ 8 by omega), Nat.mod_eq_of_lt h, Nat.shiftRight_eq_div_pow, Nat.min_eq_left (by omega)]
  · rename_i h
    rw [Nat.min_eq_right (by omega)]
    have := x.toNat_lt
    have e : (0 : UInt8).toNat = 0 := rfl
    rw [e]; exact (Nat.div_eq_of_lt (by omega)).symm

def arith_u8 (op : BinOp) (a b : UInt8) : Option (Prop × D) :=
  match op with
  | .add => some (True, .u8 (a + b))
  | .sub => some (True, .u8 (a - b))
  | .mul => some (True, .u8 (a * b))
  | .quo => some (b ≠ 0, .u8 (a / b))
  | .rem => some (b ≠ 0, .u8 (a % b))
  | .and => some (True, .u8 (a &&& b))
  | .or => some (True, .u8 (a ||| b))
  | .xor => some (True, .u8 (a ^^^ b))
  | .andNot => some (True, .u8 (a &&& ~~~b))
  | .eql => some (True, .bool (a == b))
  | .neq => some (True, .bool (a != b))
  | .lss => some (True, .bool (decide (a < b)))
  | .leq => some (True, .bool (decide (a ≤ b)))
  | .gtr => some (True, .bool (decide (b < a)))
  | .geq => some (True, .bool (decide (b ≤ a)))
  | _ => none
/-- what the model gives for it -/
def val_u8 (op : BinOp) (a b : UInt8) : Value :=
  match op with
  | .add => .int .u8 (a + b).toNat
  | .sub => .int .u8 (a - b).toNat
  | .mul => .int .u8 (a * b).toNat
  | .quo => .int .u8 (a / b).toNat
  | .rem => .int .u8 (a % b).toNat
  | .and => .int .u8 (a &&& b).toNat
  | .or => .int .u8 (a ||| b).toNat
  | .xor => .int .u8 (a ^^^ b).toNat
  | .andNot => .int .u8 (a &&& ~~~b).toNat
  | .eql => .bool (a == b)
  | .neq => .bool (a != b)
  | .lss => .bool (decide (a < b))
  | .leq => .bool (decide (a ≤ b))
  | .gtr => .bool (decide (b < a))
  | .geq => .bool (decide (b ≤ a))
  | _ => undef
theorem beq_u8 (a b : UInt8) : ((a.toNat : Int) == (b.toNat : Int)) = (a == b) := by
  rw [Bool.eq_iff_iff]; simp only [beq_iff_eq, Int.natCast_inj]; exact UInt8.toNat_inj
theorem lt_u8 (a b : UInt8) : decide ((a.toNat : Int) < (b.toNat : Int)) = decide (a < b) := by
  rw [decide_eq_decide, UInt8.lt_iff_toNat_lt]; omega
theorem le_u8 (a b : UInt8) : decide ((a.toNat : Int) ≤ (b.toNat : Int)) = decide (a ≤ b) := by
  rw [decide_eq_decide, UInt8.le_iff_toNat_le]; omega
theorem ne_u8 (b : UInt8) (h : b ≠ 0) : (b.toNat : Int) ≠ 0 := by
  intro e
  apply h
  apply UInt8.toNat_inj.1
  have : (0 : UInt8).toNat = 0 := rfl
  rw [this]; omega
theorem run_u8 (P : Program) (w : World) (op : BinOp) (ty : TypeId) (a b : UInt8) {s : Prop} {d : D} (h : arith_u8 op a b = some (s, d)) (hs : s) :
    (binOp op ty (.int .u8 a.toNat) (.int .u8 b.toNat)).run P w = .ok (val_u8 op a b) w := by
  have ha := a.toNat_lt
  have hb := b.toNat_lt
  cases op <;> simp only [arith_u8, Option.some.injEq, Prod.mk.injEq, reduceCtorEq] at h <;> obtain ⟨rfl, rfl⟩ := h <;>
    simp only [binOp, ne_eq, not_true_eq_false, if_false, Op.intArith, Op.intDiv, Op.intBits, Op.intCmp, val_u8, Sem.run_pure, wrap_u8, IntKind.bits]
  · exact congrArg (fun z => Result.ok (Value.int .u8 z) w) (by rw [UInt8.toNat_add]; omega)
  · exact congrArg (fun z => Result.ok (Value.int .u8 z) w) (by rw [UInt8.toNat_sub]; omega)
  · exact congrArg (fun z => Result.ok (Value.int .u8 z) w) (by rw [UInt8.toNat_mul]; rfl)
  · rw [if_neg (ne_u8 b hs)]
    exact congrArg (fun z => Result.ok (Value.int .u8 z) w) (by
      rw [UInt8.toNat_div, Int.tdiv_eq_ediv_of_nonneg (Int.natCast_nonneg _)]
      have : a.toNat / b.toNat ≤ a.toNat := Nat.div_le_self _ _
      have e : ((a.toNat : Int) / (b.toNat : Int)) = ((a.toNat / b.toNat : Nat) : Int) := rfl
      rw [e]
      generalize a.toNat / b.toNat = q at this ⊢
      omega)
  · rw [if_neg (ne_u8 b hs)]; congr 2
  · rw [bv_u8, bv_u8, bvw_u8]; rfl
  · rw [bv_u8, bv_u8, bvw_u8]; rfl
  · rw [bv_u8, bv_u8, bvw_u8]; rfl
  · rw [bv_u8, bv_u8, bvw_u8]; rfl
  · rw [beq_u8]
  · congr 2
    have := beq_u8 a b
    simp only [bne, this]
  · congr 2; exact lt_u8 a b
  · congr 2; exact le_u8 a b
  · congr 2; exact lt_u8 b a
  · congr 2; exact le_u8 b a
theorem run_shl_u8 (P : Program) (w : World) (ty : TypeId) (a : UInt8) (k : IntKind) (n : Int) (hn : 0 ≤ n) :
    (binOp .shl ty (.int .u8 a.toNat) (.int k n)).run P w = .ok (.int .u8 (shl_u8 a n.toNat).toNat) w := by
  simp only [binOp, Op.shift, if_neg (show ¬ n < 0 by omega), Sem.run_pure, wrap_u8, IntKind.bits, shl_u8_toNat]
  congr 2
theorem run_shr_u8 (P : Program) (w : World) (ty : TypeId) (a : UInt8) (k : IntKind) (n : Int) (hn : 0 ≤ n) :
    (binOp .shr ty (.int .u8 a.toNat) (.int k n)).run P w = .ok (.int .u8 (shr_u8 a n.toNat).toNat) w := by
  simp only [binOp, Op.shift, if_neg (show ¬ n < 0 by omega), Sem.run_pure, IntKind.bits, shr_u8_toNat]
  congr 2
  have : (a.toNat : Int).fdiv (2 ^ min n.toNat 8) = (a.toNat : Int) / (2 ^ min n.toNat 8) := Int.fdiv_eq_ediv_of_nonneg _ (by exact_mod_cast Nat.zero_le _)
  rw [this]; rfl

/-! ### u16 -/
def shl_u16 (x : UInt16) (n : Nat) : UInt16 := if n < 16 then x <<< UInt16.ofNat n else 0
def shr_u16 (x : UInt16) (n : Nat) : UInt16 := if n < 16 then x >>> UInt16.ofNat n else 0
theorem wrap_u16 (z : Int) : IntKind.u16.wrap z = z % 65536 := by simp [IntKind.wrap, IntKind.bits, IntKind.signed]
theorem bv_u16 (x : UInt16) : BitVec.ofInt 16 (x.toNat : Int) = x.toBitVec := by
  apply BitVec.eq_of_toNat_eq
  have := x.toNat_lt
  simp only [BitVec.toNat_ofInt, UInt16.toNat_toBitVec]
  omega
theorem bvw_u16 (b : BitVec 16) : ((b.toNat : Int) % 65536) = ((UInt16.ofBitVec b).toNat : Int) := by
  have := b.isLt
  have e : (UInt16.ofBitVec b).toNat = b.toNat := rfl
  rw [e]; omega
theorem shl_u16_toNat (x : UInt16) (n : Nat) : (shl_u16 x n).toNat = x.toNat * 2 ^ (min n 16) % 65536 := by
  unfold shl_u16
  split
  · rename_i h
    rw [UInt16.toNat_shiftLeft, UInt16.toNat_ofNat', Nat.mod_eq_of_lt (show n < 2 ^ 16 by omega), Nat.mod_eq_of_lt h, Nat.shiftLeft_eq, Nat.min_eq_left (by omega)]
  · rename_i h
    rw [Nat.min_eq_right (by omega)]
    have : (0 : UInt16).toNat = 0 := rfl
    rw [this]; exact (Nat.mul_mod_left _ _).symm
theorem shr_u16_toNat (x : UInt16) (n : Nat) : (shr_u16 x n).toNat = x.toNat / 2 ^ (min n 16) := by
  unfold shr_u16
  split
  · rename_i h
    rw [UInt16.toNat_shiftRight, UInt16.toNat_ofNat', Nat.mod_eq_of_lt (show n < 2 ^ 16 by omega), Nat.mod_eq_of_lt h, Nat.shiftRight_eq_div_pow, Nat.min_eq_left (by omega)]
  · rename_i h
    rw [Nat.min_eq_right (by omega)]
    have := x.toNat_lt
    have e : (0 : UInt16).toNat = 0 := rfl
    rw [e]; exact (Nat.div_eq_of_lt (by omega)).symm

def arith_u16 (op : BinOp) (a b : UInt16) : Option (Prop × D) :=
  match op with
  | .add => some (True, .u16 (a + b))
  | .sub => some (True, .u16 (a - b))
  | .mul => some (True, .u16 (a * b))
  | .quo => some (b ≠ 0, .u16 (a / b))
  | .rem => some (b ≠ 0, .u16 (a % b))
  | .and => some (True, .u16 (a &&& b))
  | .or => some (True, .u16 (a ||| b))
  | .xor => some (True, .u16 (a ^^^ b))
  | .andNot => some (True, .u16 (a &&& ~~~b))
  | .eql => some (True, .bool (a == b))
  | .neq => some (True, .bool (a != b))
  | .lss => some (True, .bool (decide (a < b)))
  | .leq => some (True, .bool (decide (a ≤ b)))
  | .gtr => some (True, .bool (decide (b < a)))
  | .geq => some (True, .bool (decide (b ≤ a)))
  | _ => none
/-- what the model gives for it -/
def val_u16 (op : BinOp) (a b : UInt16) : Value :=
  match op with
  | .add => .int .u16 (a + b).toNat
  | .sub => .int .u16 (a - b).toNat
  | .mul => .int .u16 (a * b).toNat
  | .quo => .int .u16 (a / b).toNat
  | .rem => .int .u16 (a % b).toNat
  | .and => .int .u16 (a &&& b).toNat
  | .or => .int .u16 (a ||| b).toNat
  | .xor => .int .u16 (a ^^^ b).toNat
  | .andNot => .int .u16 (a &&& ~~~b).toNat
  | .eql => .bool (a == b)
  | .neq => .bool (a != b)
  | .lss => .bool (decide (a < b))
  | .leq => .bool (decide (a ≤ b))
  | .gtr => .bool (decide (b < a))
  | .geq => .bool (decide (b ≤ a))
  | _ => undef
theorem beq_u16 (a b : UInt16) : ((a.toNat : Int) == (b.toNat : Int)) = (a == b) := by
  rw [Bool.eq_iff_iff]; simp only [beq_iff_eq, Int.natCast_inj]; exact UInt16.toNat_inj
theorem lt_u16 (a b : UInt16) : decide ((a.toNat : Int) < (b.toNat : Int)) = decide (a < b) := by
  rw [decide_eq_decide, UInt16.lt_iff_toNat_lt]; omega
theorem le_u16 (a b : UInt16) : decide ((a.toNat : Int) ≤ (b.toNat : Int)) = decide (a ≤ b) := by
  rw [decide_eq_decide, UInt16.le_iff_toNat_le]; omega
theorem ne_u16 (b : UInt16) (h : b ≠ 0) : (b.toNat : Int) ≠ 0 := by
  intro e
  apply h
  apply UInt16.toNat_inj.1
  have : (0 : UInt16).toNat = 0 := rfl
  rw [this]; omega
theorem run_u16 (P : Program) (w : World) (op : BinOp) (ty : TypeId) (a b : UInt16) {s : Prop} {d : D} (h : arith_u16 op a b = some (s, d)) (hs : s) :
    (binOp op ty (.int .u16 a.toNat) (.int .u16 b.toNat)).run P w = .ok (val_u16 op a b) w := by
  have ha := a.toNat_lt
  have hb := b.toNat_lt
  cases op <;> simp only [arith_u16, Option.some.injEq, Prod.mk.injEq, reduceCtorEq] at h <;> obtain ⟨rfl, rfl⟩ := h <;>
    simp only [binOp, ne_eq, not_true_eq_false, if_false, Op.intArith, Op.intDiv, Op.intBits, Op.intCmp, val_u16, Sem.run_pure, wrap_u16, IntKind.bits]
  · exact congrArg (fun z => Result.ok (Value.int .u16 z) w) (by rw [UInt16.toNat_add]; omega)
  · exact congrArg (fun z => Result.ok (Value.int .u16 z) w) (by rw [UInt16.toNat_sub]; omega)
  · exact congrArg (fun z => Result.ok (Value.int .u16 z) w) (by rw [UInt16.toNat_mul]; rfl)
  · rw [if_neg (ne_u16 b hs)]
    exact congrArg (fun z => Result.ok (Value.int .u16 z) w) (by
      rw [UInt16.toNat_div, Int.tdiv_eq_ediv_of_nonneg (Int.natCast_nonneg _)]
      have : a.toNat / b.toNat ≤ a.toNat := Nat.div_le_self _ _
      have e : ((a.toNat : Int) / (b.toNat : Int)) = ((a.toNat / b.toNat : Nat) : Int) := rfl
      rw [e]
      generalize a.toNat / b.toNat = q at this ⊢
      omega)
  · rw [if_neg (ne_u16 b hs)]; congr 2
  · rw [bv_u16, bv_u16, bvw_u16]; rfl
  · rw [bv_u16, bv_u16, bvw_u16]; rfl
  · rw [bv_u16, bv_u16, bvw_u16]; rfl
  · rw [bv_u16, bv_u16, bvw_u16]; rfl
  · rw [beq_u16]
  · congr 2
    have := beq_u16 a b
    simp only [bne, this]
  · congr 2; exact lt_u16 a b
  · congr 2; exact le_u16 a b
  · congr 2; exact lt_u16 b a
  · congr 2; exact le_u16 b a
theorem run_shl_u16 (P : Program) (w : World) (ty : TypeId) (a : UInt16) (k : IntKind) (n : Int) (hn : 0 ≤ n) :
    (binOp .shl ty (.int .u16 a.toNat) (.int k n)).run P w = .ok (.int .u16 (shl_u16 a n.toNat).toNat) w := by
  simp only [binOp, Op.shift, if_neg (show ¬ n < 0 by omega), Sem.run_pure, wrap_u16, IntKind.bits, shl_u16_toNat]
  congr 2
theorem run_shr_u16 (P : Program) (w : World) (ty : TypeId) (a : UInt16) (k : IntKind) (n : Int) (hn : 0 ≤ n) :
    (binOp .shr ty (.int .u16 a.toNat) (.int k n)).run P w = .ok (.int .u16 (shr_u16 a n.toNat).toNat) w := by
  simp only [binOp, Op.shift, if_neg (show ¬ n < 0 by omega), Sem.run_pure, IntKind.bits, shr_u16_toNat]
  congr 2
  have : (a.toNat : Int).fdiv (2 ^ min n.toNat 16) = (a.toNat : Int) / (2 ^ min n.toNat 16) := Int.fdiv_eq_ediv_of_nonneg _ (by exact_mod_cast Nat.zero_le _)
  rw [this]; rfl

/-! ### u32 -/
def shl_u32 (x : UInt32) (n : Nat) : UInt32 := if n < 32 then x <<< UInt32.ofNat n else 0
def shr_u32 (x : UInt32) (n : Nat) : UInt32 := if n < 32 then x >>> UInt32.ofNat n else 0
theorem wrap_u32 (z : Int) : IntKind.u32.wrap z = z % 4294967296 := by simp [IntKind.wrap, IntKind.bits, IntKind.signed]
theorem bv_u32 (x : UInt32) : BitVec.ofInt 32 (x.toNat : Int) = x.toBitVec := by
  apply BitVec.eq_of_toNat_eq
  have := x.toNat_lt
  simp only [BitVec.toNat_ofInt, UInt32.toNat_toBitVec]
  omega
theorem bvw_u32 (b : BitVec 32) : ((b.toNat : Int) % 4294967296) = ((UInt32.ofBitVec b).toNat : Int) := by
  have := b.isLt
  have e : (UInt32.ofBitVec b).toNat = b.toNat := rfl
  rw [e]; omega
theorem shl_u32_toNat (x : UInt32) (n : Nat) : (shl_u32 x n).toNat = x.toNat * 2 ^ (min n 32) % 4294967296 := by
  unfold shl_u32
  split
  · rename_i h
    rw [UInt32.toNat_shiftLeft, UInt32.toNat_ofNat', Nat.mod_eq_of_lt (show n < 2 ^ 32 by omega), Nat.mod_eq_of_lt h, Nat.shiftLeft_eq, Nat.min_eq_left (by omega)]
  · rename_i h
    rw [Nat.min_eq_right (by omega)]
    have : (0 : UInt32).toNat = 0 := rfl
    rw [this]; exact (Nat.mul_mod_left _ _).symm
theorem shr_u32_toNat (x : UInt32) (n : Nat) : (shr_u32 x n).toNat = x.toNat / 2 ^ (min n 32) := by
  unfold shr_u32
  split
  · rename_i h
    rw [UInt32.toNat_shiftRight, UInt32.toNat_ofNat', Nat.mod_eq_of_lt (show n < 2 ^ 32 by omega), Nat.mod_eq_of_lt h, Nat.shiftRight_eq_div_pow, Nat.min_eq_left (by omega)]
  · rename_i h
    rw [Nat.min_eq_right (by omega)]
    have := x.toNat_lt
    have e : (0 : UInt32).toNat = 0 := rfl
    rw [e]; exact (Nat.div_eq_of_lt (by omega)).symm

def arith_u32 (op : BinOp) (a b : UInt32) : Option (Prop × D) :=
  match op with
  | .add => some (True, .u32 (a + b))
  | .sub => some (True, .u32 (a - b))
  | .mul => some (True, .u32 (a * b))
  | .quo => some (b ≠ 0, .u32 (a / b))
  | .rem => some (b ≠ 0, .u32 (a % b))
  | .and => some (True, .u32 (a &&& b))
  | .or => some (True, .u32 (a ||| b))
  | .xor => some (True, .u32 (a ^^^ b))
  | .andNot => some (True, .u32 (a &&& ~~~b))
  | .eql => some (True, .bool (a == b))
  | .neq => some (True, .bool (a != b))
  | .lss => some (True, .bool (decide (a < b)))
  | .leq => some (True, .bool (decide (a ≤ b)))
  | .gtr => some (True, .bool (decide (b < a)))
  | .geq => some (True, .bool (decide (b ≤ a)))
  | _ => none
/-- what the model gives for it -/
def val_u32 (op : BinOp) (a b : UInt32) : Value :=
  match op with
  | .add => .int .u32 (a + b).toNat
  | .sub => .int .u32 (a - b).toNat
  | .mul => .int .u32 (a * b).toNat
  | .quo => .int .u32 (a / b).toNat
  | .rem => .int .u32 (a % b).toNat
  | .and => .int .u32 (a &&& b).toNat
  | .or => .int .u32 (a ||| b).toNat
  | .xor => .int .u32 (a ^^^ b).toNat
  | .andNot => .int .u32 (a &&& ~~~b).toNat
  | .eql => .bool (a == b)
  | .neq => .bool (a != b)
  | .lss => .bool (decide (a < b))
  | .leq => .bool (decide (a ≤ b))
  | .gtr => .bool (decide (b < a))
  | .geq => .bool (decide (b ≤ a))
  | _ => undef
theorem beq_u32 (a b : UInt32) : ((a.toNat : Int) == (b.toNat : Int)) = (a == b) := by
  rw [Bool.eq_iff_iff]; simp only [beq_iff_eq, Int.natCast_inj]; exact UInt32.toNat_inj
theorem lt_u32 (a b : UInt32) : decide ((a.toNat : Int) < (b.toNat : Int)) = decide (a < b) := by
  rw [decide_eq_decide, UInt32.lt_iff_toNat_lt]; omega
theorem le_u32 (a b : UInt32) : decide ((a.toNat : Int) ≤ (b.toNat : Int)) = decide (a ≤ b) := by
  rw [decide_eq_decide, UInt32.le_iff_toNat_le]; omega
theorem ne_u32 (b : UInt32) (h : b ≠ 0) : (b.toNat : Int) ≠ 0 := by
  intro e
  apply h
  apply UInt32.toNat_inj.1
  have : (0 : UInt32).toNat = 0 := rfl
  rw [this]; omega
theorem run_u32 (P : Program) (w : World) (op : BinOp) (ty : TypeId) (a b : UInt32) {s : Prop} {d : D} (h : arith_u32 op a b = some (s, d)) (hs : s) :
    (binOp op ty (.int .u32 a.toNat) (.int .u32 b.toNat)).run P w = .ok (val_u32 op a b) w := by
  have ha := a.toNat_lt
  have hb := b.toNat_lt
  cases op <;> simp only [arith_u32, Option.some.injEq, Prod.mk.injEq, reduceCtorEq] at h <;> obtain ⟨rfl, rfl⟩ := h <;>
    simp only [binOp, ne_eq, not_true_eq_false, if_false, Op.intArith, Op.intDiv, Op.intBits, Op.intCmp, val_u32, Sem.run_pure, wrap_u32, IntKind.bits]
  · exact congrArg (fun z => Result.ok (Value.int .u32 z) w) (by rw [UInt32.toNat_add]; omega)
  · exact congrArg (fun z => Result.ok (Value.int .u32 z) w) (by rw [UInt32.toNat_sub]; omega)
  · exact congrArg (fun z => Result.ok (Value.int .u32 z) w) (by rw [UInt32.toNat_mul]; rfl)
  · rw [if_neg (ne_u32 b hs)]
    exact congrArg (fun z => Result.ok (Value.int .u32 z) w) (by
      rw [UInt32.toNat_div, Int.tdiv_eq_ediv_of_nonneg (Int.natCast_nonneg _)]
      have : a.toNat / b.toNat ≤ a.toNat := Nat.div_le_self _ _
      have e : ((a.toNat : Int) / (b.toNat : Int)) = ((a.toNat / b.toNat : Nat) : Int) := rfl
      rw [e]
      generalize a.toNat / b.toNat = q at this ⊢
      omega)
  · rw [if_neg (ne_u32 b hs)]; congr 2
  · rw [bv_u32, bv_u32, bvw_u32]; rfl
  · rw [bv_u32, bv_u32, bvw_u32]; rfl
  · rw [bv_u32, bv_u32, bvw_u32]; rfl
  · rw [bv_u32, bv_u32, bvw_u32]; rfl
  · rw [beq_u32]
  · congr 2
    have := beq_u32 a b
    simp only [bne, this]
  · congr 2; exact lt_u32 a b
  · congr 2; exact le_u32 a b
  · congr 2; exact lt_u32 b a
  · congr 2; exact le_u32 b a
theorem run_shl_u32 (P : Program) (w : World) (ty : TypeId) (a : UInt32) (k : IntKind) (n : Int) (hn : 0 ≤ n) :
    (binOp .shl ty (.int .u32 a.toNat) (.int k n)).run P w = .ok (.int .u32 (shl_u32 a n.toNat).toNat) w := by
  simp only [binOp, Op.shift, if_neg (show ¬ n < 0 by omega), Sem.run_pure, wrap_u32, IntKind.bits, shl_u32_toNat]
  congr 2
theorem run_shr_u32 (P : Program) (w : World) (ty : TypeId) (a : UInt32) (k : IntKind) (n : Int) (hn : 0 ≤ n) :
    (binOp .shr ty (.int .u32 a.toNat) (.int k n)).run P w = .ok (.int .u32 (shr_u32 a n.toNat).toNat) w := by
  simp only [binOp, Op.shift, if_neg (show ¬ n < 0 by omega), Sem.run_pure, IntKind.bits, shr_u32_toNat]
  congr 2
  have : (a.toNat : Int).fdiv (2 ^ min n.toNat 32) = (a.toNat : Int) / (2 ^ min n.toNat 32) := Int.fdiv_eq_ediv_of_nonneg _ (by exact_mod_cast Nat.zero_le _)
  rw [this]; rfl

/-! ### u64 -/
def shl_u64 (x : UInt64) (n : Nat) : UInt64 := if n < 64 then x <<< UInt64.ofNat n else 0
def shr_u64 (x : UInt64) (n : Nat) : UInt64 := if n < 64 then x >>> UInt64.ofNat n else 0
theorem wrap_u64 (z : Int) : IntKind.u64.wrap z = z % 18446744073709551616 := by simp [IntKind.wrap, IntKind.bits, IntKind.signed]
theorem bv_u64 (x : UInt64) : BitVec.ofInt 64 (x.toNat : Int) = x.toBitVec := by
  apply BitVec.eq_of_toNat_eq
  have := x.toNat_lt
  simp only [BitVec.toNat_ofInt, UInt64.toNat_toBitVec]
  omega
theorem bvw_u64 (b : BitVec 64) : ((b.toNat : Int) % 18446744073709551616) = ((UInt64.ofBitVec b).toNat : Int) := by
  have := b.isLt
  have e : (UInt64.ofBitVec b).toNat = b.toNat := rfl
  rw [e]; omega
theorem shl_u64_toNat (x : UInt64) (n : Nat) : (shl_u64 x n).toNat = x.toNat * 2 ^ (min n 64) % 18446744073709551616 := by
  unfold shl_u64
  split
  · rename_i h
    rw [UInt64.toNat_shiftLeft, UInt64.toNat_ofNat', Nat.mod_eq_of_lt (show n < 2 ^ 64 by omega), Nat.mod_eq_of_lt h, Nat.shiftLeft_eq, Nat.min_eq_left (by omega)]
  · rename_i h
    rw [Nat.min_eq_right (by omega)]
    have : (0 : UInt64).toNat = 0 := rfl
    rw [this]; exact (Nat.mul_mod_left _ _).symm
theorem shr_u64_toNat (x : UInt64) (n : Nat) : (shr_u64 x n).toNat = x.toNat / 2 ^ (min n 64) := by
  unfold shr_u64
  split
  · rename_i h
    rw [UInt64.toNat_shiftRight, UInt64.toNat_ofNat', Nat.mod_eq_of_lt (show n < 2 ^ 64 by omega), Nat.mod_eq_of_lt h, Nat.shiftRight_eq_div_pow, Nat.min_eq_left (by omega)]
  · rename_i h
    rw [Nat.min_eq_right (by omega)]
    have := x.toNat_lt
    have e : (0 : UInt64).toNat = 0 := rfl
    rw [e]; exact (Nat.div_eq_of_lt (by omega)).symm

def arith_u64 (op : BinOp) (a b : UInt64) : Option (Prop × D) :=
  match op with
  | .add => some (True, .u64 (a + b))
  | .sub => some (True, .u64 (a - b))
  | .mul => some (True, .u64 (a * b))
  | .quo => some (b ≠ 0, .u64 (a / b))
  | .rem => some (b ≠ 0, .u64 (a % b))
  | .and => some (True, .u64 (a &&& b))
  | .or => some (True, .u64 (a ||| b))
  | .xor => some (True, .u64 (a ^^^ b))
  | .andNot => some (True, .u64 (a &&& ~~~b))
  | .eql => some (True, .bool (a == b))
  | .neq => some (True, .bool (a != b))
  | .lss => some (True, .bool (decide (a < b)))
  | .leq => some (True, .bool (decide (a ≤ b)))
  | .gtr => some (True, .bool (decide (b < a)))
  | .geq => some (True, .bool (decide (b ≤ a)))
  | _ => none
/-- what the model gives for it -/
def val_u64 (op : BinOp) (a b : UInt64) : Value :=
  match op with
  | .add => .int .u64 (a + b).toNat
  | .sub => .int .u64 (a - b).toNat
  | .mul => .int .u64 (a * b).toNat
  | .quo => .int .u64 (a / b).toNat
  | .rem => .int .u64 (a % b).toNat
  | .and => .int .u64 (a &&& b).toNat
  | .or => .int .u64 (a ||| b).toNat
  | .xor => .int .u64 (a ^^^ b).toNat
  | .andNot => .int .u64 (a &&& ~~~b).toNat
  | .eql => .bool (a == b)
  | .neq => .bool (a != b)
  | .lss => .bool (decide (a < b))
  | .leq => .bool (decide (a ≤ b))
  | .gtr => .bool (decide (b < a))
  | .geq => .bool (decide (b ≤ a))
  | _ => undef
theorem beq_u64 (a b : UInt64) : ((a.toNat : Int) == (b.toNat : Int)) = (a == b) := by
  rw [Bool.eq_iff_iff]; simp only [beq_iff_eq, Int.natCast_inj]; exact UInt64.toNat_inj
theorem lt_u64 (a b : UInt64) : decide ((a.toNat : Int) < (b.toNat : Int)) = decide (a < b) := by
  rw [decide_eq_decide, UInt64.lt_iff_toNat_lt]; omega
theorem le_u64 (a b : UInt64) : decide ((a.toNat : Int) ≤ (b.toNat : Int)) = decide (a ≤ b) := by
  rw [decide_eq_decide, UInt64.le_iff_toNat_le]; omega
theorem ne_u64 (b : UInt64) (h : b ≠ 0) : (b.toNat : Int) ≠ 0 := by
  intro e
  apply h
  apply UInt64.toNat_inj.1
  have : (0 : UInt64).toNat = 0 := rfl
  rw [this]; omega
theorem run_u64 (P : Program) (w : World) (op : BinOp) (ty : TypeId) (a b : UInt64) {s : Prop} {d : D} (h : arith_u64 op a b = some (s, d)) (hs : s) :
    (binOp op ty (.int .u64 a.toNat) (.int .u64 b.toNat)).run P w = .ok (val_u64 op a b) w := by
  have ha := a.toNat_lt
  have hb := b.toNat_lt
  cases op <;> simp only [arith_u64, Option.some.injEq, Prod.mk.injEq, reduceCtorEq] at h <;> obtain ⟨rfl, rfl⟩ := h <;>
    simp only [binOp, ne_eq, not_true_eq_false, if_false, Op.intArith, Op.intDiv, Op.intBits, Op.intCmp, val_u64, Sem.run_pure, wrap_u64, IntKind.bits]
  · exact congrArg (fun z => Result.ok (Value.int .u64 z) w) (by rw [UInt64.toNat_add]; omega)
  · exact congrArg (fun z => Result.ok (Value.int .u64 z) w) (by rw [UInt64.toNat_sub]; omega)
  · exact congrArg (fun z => Result.ok (Value.int .u64 z) w) (by rw [UInt64.toNat_mul]; rfl)
  · rw [if_neg (ne_u64 b hs)]
    exact congrArg (fun z => Result.ok (Value.int .u64 z) w) (by
      rw [UInt64.toNat_div, Int.tdiv_eq_ediv_of_nonneg (Int.natCast_nonneg _)]
      have : a.toNat / b.toNat ≤ a.toNat := Nat.div_le_self _ _
      have e : ((a.toNat : Int) / (b.toNat : Int)) = ((a.toNat / b.toNat : Nat) : Int) := rfl
      rw [e]
      generalize a.toNat / b.toNat = q at this ⊢
      omega)
  · rw [if_neg (ne_u64 b hs)]; congr 2
  · rw [bv_u64, bv_u64, bvw_u64]; rfl
  · rw [bv_u64, bv_u64, bvw_u64]; rfl
  · rw [bv_u64, bv_u64, bvw_u64]; rfl
  · rw [bv_u64, bv_u64, bvw_u64]; rfl
  · rw [beq_u64]
  · congr 2
    have := beq_u64 a b
    simp only [bne, this]
  · congr 2; exact lt_u64 a b
  · congr 2; exact le_u64 a b
  · congr 2; exact lt_u64 b a
  · congr 2; exact le_u64 b a
theorem run_shl_u64 (P : Program) (w : World) (ty : TypeId) (a : UInt64) (k : IntKind) (n : Int) (hn : 0 ≤ n) :
    (binOp .shl ty (.int .u64 a.toNat) (.int k n)).run P w = .ok (.int .u64 (shl_u64 a n.toNat).toNat) w := by
  simp only [binOp, Op.shift, if_neg (show ¬ n < 0 by omega), Sem.run_pure, wrap_u64, IntKind.bits, shl_u64_toNat]
  congr 2
theorem run_shr_u64 (P : Program) (w : World) (ty : TypeId) (a : UInt64) (k : IntKind) (n : Int) (hn : 0 ≤ n) :
    (binOp .shr ty (.int .u64 a.toNat) (.int k n)).run P w = .ok (.int .u64 (shr_u64 a n.toNat).toNat) w := by
  simp only [binOp, Op.shift, if_neg (show ¬ n < 0 by omega), Sem.run_pure, IntKind.bits, shr_u64_toNat]
  congr 2
  have : (a.toNat : Int).fdiv (2 ^ min n.toNat 64) = (a.toNat : Int) / (2 ^ min n.toNat 64) := Int.fdiv_eq_ediv_of_nonneg _ (by exact_mod_cast Nat.zero_le _)
  rw [this]; rfl

end Go.Sx
