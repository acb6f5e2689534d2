/-
  Own library, part 5: rules for operations that only reckon.
-/
import Derived.Test.YtlpacmknoknpoaaDoorSxArith
set_option linter.unusedVariables false
set_option linter.unusedSimpArgs false
set_option linter.unnecessarySimpa false
namespace Go.Sx

/-- integers of Go's int -/
abbrev wr (n : Int) : Int := IntKind.i64.wrap n
def bitsI (op : BinOp) (a b : Int) : Int :=
  wr (match op with
    | .and => ((BitVec.ofInt 64 a &&& BitVec.ofInt 64 b).toNat : Int)
    | .or => ((BitVec.ofInt 64 a ||| BitVec.ofInt 64 b).toNat : Int)
    | .xor => ((BitVec.ofInt 64 a ^^^ BitVec.ofInt 64 b).toNat : Int)
    | _ => ((BitVec.ofInt 64 a &&& ~~~ BitVec.ofInt 64 b).toNat : Int))

def arithI (op : BinOp) (a b : Int) : Option (Prop × D) :=
  match op with
  | .add => some (True, .int (wr (a + b)))
  | .sub => some (True, .int (wr (a - b)))
  | .mul => some (True, .int (wr (a * b)))
  | .quo => some (b ≠ 0, .int (wr (a.tdiv b)))
  | .rem => some (b ≠ 0, .int (a.tmod b))
  | .and => some (True, .int (bitsI .and a b))
  | .or => some (True, .int (bitsI .or a b))
  | .xor => some (True, .int (bitsI .xor a b))
  | .andNot => some (True, .int (bitsI .andNot a b))
  | .shl => some (0 ≤ b, .int (wr (a * 2 ^ min b.toNat 64)))
  | .shr => some (0 ≤ b, .int (a.fdiv (2 ^ min b.toNat 64)))
  | .eql => some (True, .bool (a == b))
  | .neq => some (True, .bool (a != b))
  | .lss => some (True, .bool (decide (a < b)))
  | .leq => some (True, .bool (decide (a ≤ b)))
  | .gtr => some (True, .bool (decide (b < a)))
  | .geq => some (True, .bool (decide (b ≤ a)))
def valI (op : BinOp) (a b : Int) : Value :=
  match op with
  | .add => .int .i64 (wr (a + b))
  | .sub => .int .i64 (wr (a - b))
  | .mul => .int .i64 (wr (a * b))
  | .quo => .int .i64 (wr (a.tdiv b))
  | .rem => .int .i64 (a.tmod b)
  | .and => .int .i64 (bitsI .and a b)
  | .or => .int .i64 (bitsI .or a b)
  | .xor => .int .i64 (bitsI .xor a b)
  | .andNot => .int .i64 (bitsI .andNot a b)
  | .shl => .int .i64 (wr (a * 2 ^ min b.toNat 64))
  | .shr => .int .i64 (a.fdiv (2 ^ min b.toNat 64))
  | .eql => .bool (a == b)
  | .neq => .bool (a != b)
  | .lss => .bool (decide (a < b))
  | .leq => .bool (decide (a ≤ b))
  | .gtr => .bool (decide (b < a))
  | .geq => .bool (decide (b ≤ a))

theorem run_int (P : Program) (w : World) (op : BinOp) (ty : TypeId) (a b : Int) {s : Prop} {d : D} (h : arithI op a b = some (s, d)) (hs : s) :
    (binOp op ty (.int .i64 a) (.int .i64 b)).run P w = .ok (valI op a b) w := by
  cases op <;> simp only [arithI, Option.some.injEq, Prod.mk.injEq] at h <;> obtain ⟨rfl, rfl⟩ := h
  case quo => simp only [binOp, ne_eq, not_true_eq_false, if_false, Op.intDiv, if_neg hs]; rfl
  case rem => simp only [binOp, ne_eq, not_true_eq_false, if_false, Op.intDiv, if_neg hs]; rfl
  case shl => simp only [binOp, Op.shift, if_neg (show ¬ b < 0 by omega)]; rfl
  case shr => simp only [binOp, Op.shift, if_neg (show ¬ b < 0 by omega)]; rfl
  all_goals rfl

/-- a count of a shift -/
def D.cnt : D → Option Int
  | .int n => some n
  | .u8 x => some x.toNat
  | .u16 x => some x.toNat
  | .u32 x => some x.toNat
  | .u64 x => some x.toNat
  | _ => none

def arithS (op : BinOp) (x : D) (n : Int) : Option (Prop × D) :=
  match op, x with
  | .shl, .u8 a => some (0 ≤ n, .u8 (shl_u8 a n.toNat))
  | .shl, .u16 a => some (0 ≤ n, .u16 (shl_u16 a n.toNat))
  | .shl, .u32 a => some (0 ≤ n, .u32 (shl_u32 a n.toNat))
  | .shl, .u64 a => some (0 ≤ n, .u64 (shl_u64 a n.toNat))
  | .shl, .int a => some (0 ≤ n, .int (wr (a * 2 ^ min n.toNat 64)))
  | .shr, .u8 a => some (0 ≤ n, .u8 (shr_u8 a n.toNat))
  | .shr, .u16 a => some (0 ≤ n, .u16 (shr_u16 a n.toNat))
  | .shr, .u32 a => some (0 ≤ n, .u32 (shr_u32 a n.toNat))
  | .shr, .u64 a => some (0 ≤ n, .u64 (shr_u64 a n.toNat))
  | .shr, .int a => some (0 ≤ n, .int (a.fdiv (2 ^ min n.toNat 64)))
  | _, _ => none

def isShift : BinOp → Bool
  | .shl | .shr => true
  | _ => false

def arithK (op : BinOp) (k k' : IntKind) (a b : Int) : Option (Prop × D) :=
  match op with
  | .eql => some (k = k', .bool (a == b))
  | .neq => some (k = k', .bool (a != b))
  | .lss => some (k = k', .bool (decide (a < b)))
  | .leq => some (k = k', .bool (decide (a ≤ b)))
  | .gtr => some (k = k', .bool (decide (b < a)))
  | .geq => some (k = k', .bool (decide (b ≤ a)))
  | .add => some (k = k', .ik k (k.wrap (a + b)))
  | .sub => some (k = k', .ik k (k.wrap (a - b)))
  | _ => none

def arithStr (op : BinOp) (a b : List UInt8) : Option (Prop × D) :=
  match op with
  | .eql => some (True, .bool (a == b))
  | .neq => some (True, .bool (a != b))
  | .add => some (a.length + b.length ≤ 9223372036854775807, .str (a ++ b))
  | .lss => some (True, .bool (Op.bytesLess a b))
  | _ => none

def arith (op : BinOp) (x y : D) : Option (Prop × D) :=
  if isShift op then (match y.cnt with | some n => arithS op x n | none => none) else
  match x, y with
  | .int a, .int b => arithI op a b
  | .u8 a, .u8 b => arith_u8 op a b
  | .u16 a, .u16 b => arith_u16 op a b
  | .u32 a, .u32 b => arith_u32 op a b
  | .u64 a, .u64 b => arith_u64 op a b
  | .ik k a, .ik k' b => arithK op k k' a b
  | .str a, .str b => arithStr op a b
  | _, _ => none

/-- what is asked of the outcome -/
def Good (P : Program) (w : World) (op : BinOp) (ty : TypeId) (x y : Value) (d : D) : Prop :=
  ∃ v, (binOp op ty x y).run P w = .ok v w ∧ (∀ ρ G L, Rc w ρ G L true d [v] []) ∧ d.isAgg = false ∧ d.isRef = false

section
variable {P : Program} {w : World} {op : BinOp} {d : D} {s : Prop} (ty : TypeId)
theorem good_int {a b : Int} (h : arithI op a b = some (s, d)) (hs : s) : Good P w op ty (.int .i64 a) (.int .i64 b) d := by
  refine ⟨_, run_int P w op ty a b h hs, ?_⟩
  cases op <;> (simp only [arithI, Option.some.injEq, Prod.mk.injEq] at h; obtain ⟨rfl, rfl⟩ := h; first | exact ⟨fun _ _ _ => .int _, rfl, rfl⟩ | exact ⟨fun _ _ _ => .bool _, rfl, rfl⟩)
theorem good_u8 {a b : UInt8} (h : arith_u8 op a b = some (s, d)) (hs : s) : Good P w op ty (.int .u8 a.toNat) (.int .u8 b.toNat) d := by
  refine ⟨_, run_u8 P w op ty a b h hs, ?_⟩
  cases op <;> (simp only [arith_u8, reduceCtorEq, Option.some.injEq, Prod.mk.injEq] at h) <;> (obtain ⟨rfl, rfl⟩ := h; first | exact ⟨fun _ _ _ => .u8 _, rfl, rfl⟩ | exact ⟨fun _ _ _ => .bool _, rfl, rfl⟩)
theorem good_u16 {a b : UInt16} (h : arith_u16 op a b = some (s, d)) (hs : s) : Good P w op ty (.int .u16 a.toNat) (.int .u16 b.toNat) d := by
  refine ⟨_, run_u16 P w op ty a b h hs, ?_⟩
  cases op <;> (simp only [arith_u16, reduceCtorEq, Option.some.injEq, Prod.mk.injEq] at h) <;> (obtain ⟨rfl, rfl⟩ := h; first | exact ⟨fun _ _ _ => .u16 _, rfl, rfl⟩ | exact ⟨fun _ _ _ => .bool _, rfl, rfl⟩)
theorem good_u32 {a b : UInt32} (h : arith_u32 op a b = some (s, d)) (hs : s) : Good P w op ty (.int .u32 a.toNat) (.int .u32 b.toNat) d := by
  refine ⟨_, run_u32 P w op ty a b h hs, ?_⟩
  cases op <;> (simp only [arith_u32, reduceCtorEq, Option.some.injEq, Prod.mk.injEq] at h) <;> (obtain ⟨rfl, rfl⟩ := h; first | exact ⟨fun _ _ _ => .u32 _, rfl, rfl⟩ | exact ⟨fun _ _ _ => .bool _, rfl, rfl⟩)
theorem good_u64 {a b : UInt64} (h : arith_u64 op a b = some (s, d)) (hs : s) : Good P w op ty (.int .u64 a.toNat) (.int .u64 b.toNat) d := by
  refine ⟨_, run_u64 P w op ty a b h hs, ?_⟩
  cases op <;> (simp only [arith_u64, reduceCtorEq, Option.some.injEq, Prod.mk.injEq] at h) <;> (obtain ⟨rfl, rfl⟩ := h; first | exact ⟨fun _ _ _ => .u64 _, rfl, rfl⟩ | exact ⟨fun _ _ _ => .bool _, rfl, rfl⟩)
theorem good_ik {k k' : IntKind} {a b : Int} (h : arithK op k k' a b = some (s, d)) (hs : s) : Good P w op ty (.int k a) (.int k' b) d := by
  cases op <;> (simp only [arithK, reduceCtorEq, Option.some.injEq, Prod.mk.injEq] at h) <;>
    (obtain ⟨rfl, rfl⟩ := h; subst hs; refine ⟨_, (by simp only [binOp, ne_eq, not_true_eq_false, if_false]; rfl), ?_⟩; first | exact ⟨fun _ _ _ => .bool _, rfl, rfl⟩ | exact ⟨fun _ _ _ => .ik _ _, rfl, rfl⟩)
theorem good_str {a b : List UInt8} (h : arithStr op a b = some (s, d)) (hs : s) : Good P w op ty (.string ⟨a.toArray⟩) (.string ⟨b.toArray⟩) d := by
  cases op <;> (simp only [arithStr, reduceCtorEq, Option.some.injEq, Prod.mk.injEq] at h) <;> (obtain ⟨rfl, rfl⟩ := h)
  · refine ⟨.string ⟨(a ++ b).toArray⟩, ?_, fun _ _ _ => .str _, rfl, rfl⟩
    have e : (⟨a.toArray⟩ ++ ⟨b.toArray⟩ : ByteArray) = ⟨(a ++ b).toArray⟩ := by
      apply ByteArray.ext; simp
    have h1 : (ByteArray.mk a.toArray).size = a.length := by simp [ByteArray.size]
    have h2 : (ByteArray.mk b.toArray).size = b.length := by simp [ByteArray.size]
    have h3 : IntKind.i64.max = 9223372036854775807 := by decide
    simp only [binOp, Op.stringOp, h1, h2, h3, e]
    rw [if_neg (by omega)]; rfl
  · refine ⟨.bool (a == b), ?_, fun _ _ _ => .bool _, rfl, rfl⟩
    simp only [binOp, Op.stringOp, ByteArray.toList_mk]; rfl
  · refine ⟨.bool (a != b), ?_, fun _ _ _ => .bool _, rfl, rfl⟩
    simp only [binOp, Op.stringOp, ByteArray.toList_mk]; rfl
  · refine ⟨.bool (Op.bytesLess a b), ?_, fun _ _ _ => .bool _, rfl, rfl⟩
    simp only [binOp, Op.stringOp, ByteArray.toList_mk]; rfl
theorem good_shl_int {a : Int} {k : IntKind} {n : Int} (hn : 0 ≤ n) : Good P w .shl ty (.int .i64 a) (.int k n) (.int (wr (a * 2 ^ min n.toNat 64))) := by
  refine ⟨_, ?_, fun _ _ _ => .int _, rfl, rfl⟩
  simp only [binOp, Op.shift, if_neg (show ¬ n < 0 by omega)]; rfl
theorem good_shr_int {a : Int} {k : IntKind} {n : Int} (hn : 0 ≤ n) : Good P w .shr ty (.int .i64 a) (.int k n) (.int (a.fdiv (2 ^ min n.toNat 64))) := by
  refine ⟨_, ?_, fun _ _ _ => .int _, rfl, rfl⟩
  simp only [binOp, Op.shift, if_neg (show ¬ n < 0 by omega)]; rfl
theorem good_shift {x : D} {v : Value} {k : IntKind} {n : Int} {ρ : Nat → Nat} {G L : Nat → Prop} {p : Bool} {F : List Nat} (h : arithS op x n = some (s, d)) (hs : s) (hx : Rc w ρ G L p x [v] F) :
    Good P w op ty v (.int k n) d := by
  unfold arithS at h
  split at h
  case h_11 => cases h
  all_goals
    simp only [Option.some.injEq, Prod.mk.injEq] at h
    obtain ⟨rfl, rfl⟩ := h
    cases hx
  · exact ⟨_, run_shl_u8 P w ty _ k n hs, fun _ _ _ => .u8 _, rfl, rfl⟩
  · exact ⟨_, run_shl_u16 P w ty _ k n hs, fun _ _ _ => .u16 _, rfl, rfl⟩
  · exact ⟨_, run_shl_u32 P w ty _ k n hs, fun _ _ _ => .u32 _, rfl, rfl⟩
  · exact ⟨_, run_shl_u64 P w ty _ k n hs, fun _ _ _ => .u64 _, rfl, rfl⟩
  · exact good_shl_int ty hs
  · exact ⟨_, run_shr_u8 P w ty _ k n hs, fun _ _ _ => .u8 _, rfl, rfl⟩
  · exact ⟨_, run_shr_u16 P w ty _ k n hs, fun _ _ _ => .u16 _, rfl, rfl⟩
  · exact ⟨_, run_shr_u32 P w ty _ k n hs, fun _ _ _ => .u32 _, rfl, rfl⟩
  · exact ⟨_, run_shr_u64 P w ty _ k n hs, fun _ _ _ => .u64 _, rfl, rfl⟩
  · exact good_shr_int ty hs
end

theorem eqGuard_scalar (P : Program) (w : World) (op : BinOp) (t : TypeId) (x y : Operand) (a b : Value) (ha : ∀ cs, a ≠ .agg cs) (hn : a ≠ .nilIface) :
    (eqGuard op t x y a b).run P w = .ok () w := by
  cases op <;> (try rfl) <;> cases a <;> first | (exact absurd rfl (ha _)) | (exact absurd rfl hn) | rfl

theorem cnt_val {w : World} {ρ : Nat → Nat} {G L : Nat → Prop} {p : Bool} {d : D} {n : Int} {v : Value} {F : List Nat} (h : d.cnt = some n) (hr : Rc w ρ G L p d [v] F) : ∃ k, v = .int k n := by
  cases d <;> (simp only [D.cnt, reduceCtorEq, Option.some.injEq] at h) <;> (subst h; cases hr; exact ⟨_, rfl⟩)

theorem arith_run {P : Program} {w : World} {ρ : Nat → Nat} {G L : Nat → Prop} {op : BinOp} {dx dy d : D} {s : Prop} (ty : TypeId) (h : arith op dx dy = some (s, d)) (hs : s) {x y : Value} {Fx Fy : List Nat}
    (hx : Rc w ρ G L true dx [x] Fx) (hy : Rc w ρ G L true dy [y] Fy) : Good P w op ty x y d := by
  unfold arith at h
  split at h
  · cases hc : dy.cnt with
    | none => simp [hc] at h
    | some n =>
      simp only [hc] at h
      obtain ⟨k, rfl⟩ := cnt_val hc hy
      exact good_shift ty h hs hx
  · split at h
    · cases hx; cases hy; exact good_int ty h hs
    · cases hx; cases hy; exact good_u8 ty h hs
    · cases hx; cases hy; exact good_u16 ty h hs
    · cases hx; cases hy; exact good_u32 ty h hs
    · cases hx; cases hy; exact good_u64 ty h hs
    · cases hx; cases hy; exact good_ik ty h hs
    · cases hx; cases hy; exact good_str ty h hs
    · cases h

theorem arith_plain {w : World} {ρ : Nat → Nat} {G L : Nat → Prop} {op : BinOp} {dx dy d : D} {s : Prop} (h : arith op dx dy = some (s, d)) {x : Value} {Fx : List Nat}
    (hx : Rc w ρ G L true dx [x] Fx) : (∀ cs, x ≠ .agg cs) ∧ x ≠ .nilIface ∧ dx.isAgg = false ∧ dx.isRef = false ∧ dy.isAgg = false ∧ dy.isRef = false := by
  unfold arith at h
  split at h
  · cases hc : dy.cnt with
    | none => simp [hc] at h
    | some n =>
      simp only [hc] at h
      have hy : dy.isAgg = false ∧ dy.isRef = false := by cases dy <;> simp_all [D.cnt, D.isAgg, D.isRef]
      unfold arithS at h
      split at h
      case h_11 => cases h
      all_goals cases hx; exact ⟨by simp, by simp, rfl, rfl, hy⟩
  · split at h
    case h_8 => cases h
    all_goals cases hx; exact ⟨by simp, by simp, rfl, rfl, rfl, rfl⟩

/-! ### what an operand is -/
def ofV (v : Value) : Option D :=
  match v with
  | .bool b => some (.bool b)
  | .int .i64 n => some (.int n)
  | .int .u8 n => if 0 ≤ n ∧ n < 256 then some (.u8 (.ofNat n.toNat)) else none
  | .int .u16 n => if 0 ≤ n ∧ n < 65536 then some (.u16 (.ofNat n.toNat)) else none
  | .int .u32 n => if 0 ≤ n ∧ n < 4294967296 then some (.u32 (.ofNat n.toNat)) else none
  | .int .u64 n => if 0 ≤ n ∧ n < 18446744073709551616 then some (.u64 (.ofNat n.toNat)) else none
  | .int k n => some (.ik k n)
  | .string s => some (.str s.data.toList)
  | .slice none 0 0 => some .nils
  | .pointer none => some .nilp
  | .map none => some .nilmap
  | .nilFunc => some .nilf
  | .nilIface => some .nili
  | _ => none

theorem ofV_ok {v : Value} {d : D} (h : ofV v = some d) (w : World) (ρ : Nat → Nat) (G L : Nat → Prop) : Rc w ρ G L true d [v] [] ∧ d.isAgg = false ∧ d.isRef = false := by
  unfold ofV at h
  split at h
  · cases h; exact ⟨.bool _, rfl, rfl⟩
  · cases h; exact ⟨.int _, rfl, rfl⟩
  · rename_i n
    split at h
    · rename_i hn
      cases h
      have e : ((UInt8.ofNat n.toNat).toNat : Int) = n := by rw [UInt8.toNat_ofNat']; omega
      have := Rc.u8 (w := w) (ρ := ρ) (G := G) (L := L) (p := true) (UInt8.ofNat n.toNat)
      rw [e] at this
      exact ⟨this, rfl, rfl⟩
    · cases h
  · rename_i n
    split at h
    · rename_i hn
      cases h
      have e : ((UInt16.ofNat n.toNat).toNat : Int) = n := by rw [UInt16.toNat_ofNat']; omega
      have := Rc.u16 (w := w) (ρ := ρ) (G := G) (L := L) (p := true) (UInt16.ofNat n.toNat)
      rw [e] at this
      exact ⟨this, rfl, rfl⟩
    · cases h
  · rename_i n
    split at h
    · rename_i hn
      cases h
      have e : ((UInt32.ofNat n.toNat).toNat : Int) = n := by rw [UInt32.toNat_ofNat']; omega
      have := Rc.u32 (w := w) (ρ := ρ) (G := G) (L := L) (p := true) (UInt32.ofNat n.toNat)
      rw [e] at this
      exact ⟨this, rfl, rfl⟩
    · cases h
  · rename_i n
    split at h
    · rename_i hn
      cases h
      have e : ((UInt64.ofNat n.toNat).toNat : Int) = n := by rw [UInt64.toNat_ofNat']; omega
      have := Rc.u64 (w := w) (ρ := ρ) (G := G) (L := L) (p := true) (UInt64.ofNat n.toNat)
      rw [e] at this
      exact ⟨this, rfl, rfl⟩
    · cases h
  · cases h; exact ⟨.ik _ _, rfl, rfl⟩
  · rename_i s
    cases h
    have e : (⟨s.data.toList.toArray⟩ : ByteArray) = s := by cases s; simp
    have := Rc.str (w := w) (ρ := ρ) (G := G) (L := L) (p := true) s.data.toList
    rw [e] at this
    exact ⟨this, rfl, rfl⟩
  · cases h; exact ⟨.nils, rfl, rfl⟩
  · cases h; exact ⟨.nilp, rfl, rfl⟩
  · cases h; exact ⟨.nilmap, rfl, rfl⟩
  · cases h; exact ⟨.nilf, rfl, rfl⟩
  · cases h; exact ⟨.nili, rfl, rfl⟩
  · cases h

/-- an operand, as data -/
def ev (gl : List (Nat × D)) (σ : Sg) (x : Operand) : Option D :=
  match x with
  | .tmp s => σ.get s
  | .const v => ofV v
  | .global g => (lk gl g).map .rp
  | .func f => some (.fn f [])

mutual
/-- nothing in it is owned -/
def D.pur : D → Bool
  | .sl o _ _ => o.isNone
  | .agg l => D.purs l
  | .tup _ => false
  | .al _ => false
  | .alb _ _ _ => false
  | .vw _ _ _ _ => false
  | .va _ _ _ _ _ _ => false
  | .ep _ _ _ _ _ => false
  | .dead => false
  | _ => true
def D.purs : List D → Bool
  | [] => true
  | d :: r => D.pur d && D.purs r
end
theorem purs_get (l : List D) (h : D.purs l = true) : ∀ k (hk : k < l.length), l[k].pur = true := by
  induction l with
  | nil => intro k hk; simp at hk
  | cons d r ih =>
    simp only [D.purs, Bool.and_eq_true] at h
    intro k hk
    cases k with
    | zero => exact h.1
    | succ k => simpa using ih h.2 k (by simpa using hk)

theorem Rc.pur {w : World} {ρ : Nat → Nat} {G L : Nat → Prop} {p : Bool} {d : D} {cs : List Value} {F : List Nat} (h : Rc w ρ G L p d cs F) (hd : d.pur = true) : F = [] := by
  induction h with
  | slO b cs e cap z l Fs hb hc hm hs hr ih => simp [D.pur] at hd
  | agg l cs Fs hs hr ih =>
    simp only [D.pur] at hd
    rw [List.flatMap_eq_nil_iff]
    intro k hk
    exact ih k (List.mem_range.1 hk) (purs_get l hd k (List.mem_range.1 hk))
  | _ => rfl

theorem pur_ref {d : D} (h : d.pur = true) : d.isRef = false := by cases d <;> simp_all [D.pur, D.isRef]

theorem VR.pur {w : World} {ρ : Nat → Nat} {G L : Nat → Prop} {d : D} {v : Value} {F : List Nat} (h : VR w ρ G L d v F) (hd : d.pur = true) : F = [] := by
  unfold VR at h
  split at h
  · obtain ⟨cs, _, h⟩ := h; exact h.pur hd
  · exact h.pur hd

variable {P : Program} {C : Ctx} {σ σ' : Sg} {a : Act} {w : World} {ρ : Nat → Nat} {Fe Fb : Nat → List Nat}

theorem mem_of_lk {α : Type} {l : List (Nat × α)} {g : Nat} {d : α} (h : lk l g = some d) : (g, d) ∈ l := by
  induction l with
  | nil => cases h
  | cons x r ih =>
    obtain ⟨k, y⟩ := x
    rw [lk_cons] at h
    split at h
    · rename_i hk; cases h; subst hk; simp
    · exact List.mem_cons_of_mem _ (ih h)

/-- an operand's value -/
theorem ev_ok (hs : StW C σ a w ρ Fe Fb) {x : Operand} {d : D} (h : ev C.gl σ x = some d) (hr : d.isRef = false) :
    ∃ F, VR w ρ (gd C Fe Fb) (fun id => (σ.box id).isSome) d (a.eval x) F ∧ (∀ b ∈ F, own Fe Fb b) := by
  cases x with
  | tmp s =>
    obtain ⟨v, hv, hvr⟩ := (SR_plain hr).1 (hs.env s d h)
    refine ⟨Fe s, ?_, fun b hb => .inl ⟨s, hb⟩⟩
    have : a.eval (.tmp s) = v := by simp [Act.eval, hv]
    rw [this]; exact hvr
  | const v =>
    obtain ⟨h1, h2, h3⟩ := ofV_ok h w ρ (gd C Fe Fb) (fun id => (σ.box id).isSome)
    refine ⟨[], ?_, by simp⟩
    simp only [VR, h2, Act.eval]; exact h1
  | global g =>
    simp only [ev, Option.map_eq_some_iff] at h
    obtain ⟨d0, hd0, rfl⟩ := h
    obtain ⟨hk, hok, cs, e, fz, hb, hrc⟩ := hs.gl g d0 (mem_of_lk hd0)
    refine ⟨[], ?_, by simp⟩
    simp only [VR, D.isAgg, Act.eval]
    have hlen := hrc.len
    refine .rp d0 g 0 cs e fz ((hs.kept g hk).1.trans hb) ⟨hok, fun ho => hs.new g ho hk⟩ (by simp [← hlen]) ?_
    have hcs : (cs.toList.drop 0).take d0.sz = cs.toList := by rw [← hlen, List.drop_zero]; exact List.take_length
    rw [hcs]
    refine hrc.mono (fun b hb' hlt => ?_) (fun b hb' _ => hb'.elim) (fun id hid => hid.elim)
    rcases hb' with hb' | hb'
    · exact hb'.elim
    · cases hb'
  | func f =>
    cases h
    refine ⟨[], ?_, by simp⟩
    simp only [VR, D.isAgg, Act.eval]
    exact .fn f [] [] rfl (by simp) (by simp)

theorem OpS.value {o : Oper} (h : ∀ a w, St C σ a w → ∃ v w', (execOp a.eval o).run P w = .ok (.value v) w' ∧ St C σ' (a.put o.dst v) w') : OpS P C o σ σ' := by
  intro a w hs K Q hK
  obtain ⟨v, w', hr, hs'⟩ := h a w hs
  exact wpIn_of_run hr (by simp) (hK _ _ hs')

theorem R.bin {op : BinOp} {xt yt ty : TypeId} {x y : Operand} {t : Nat} {pos : String} {aft : Array Edge} {g : Option (Nat × Bool)} {dx dy d : D} {s : Prop}
    (hx : ev C.gl σ x = some dx) (hy : ev C.gl σ y = some dy) (ha : arith op dx dy = some (s, d)) (hs : s) (ht : t < σ.n) :
    OpS P C ⟨some t, .binOp op xt x y yt, ty, pos, aft, g⟩ σ (σ.set t d) := by
  refine OpS.value fun a w ⟨ρ, Fe, Fb, st⟩ => ?_
  have hdx : dx.isAgg = false ∧ dx.isRef = false ∧ dy.isAgg = false ∧ dy.isRef = false := by
    unfold arith at ha
    split at ha
    · cases hc : dy.cnt with
      | none => simp [hc] at ha
      | some n =>
        simp only [hc] at ha
        have hy : dy.isAgg = false ∧ dy.isRef = false := by cases dy <;> simp_all [D.cnt, D.isAgg, D.isRef]
        unfold arithS at ha
        split at ha
        case h_11 => cases ha
        all_goals exact ⟨rfl, rfl, hy⟩
    · split at ha
      case h_8 => cases ha
      all_goals exact ⟨rfl, rfl, rfl, rfl⟩
  obtain ⟨Fx, vx, _⟩ := ev_ok st hx hdx.2.1
  obtain ⟨Fy, vy, _⟩ := ev_ok st hy hdx.2.2.2
  simp only [VR, hdx.1, hdx.2.2.1, Bool.false_eq_true, if_false] at vx vy
  obtain ⟨v, hv, hrc, h1, h2⟩ := arith_run (P := P) xt ha hs vx vy
  obtain ⟨p1, p2, _⟩ := arith_plain ha vx
  refine ⟨v, w, ?_, st.setV ht (Ext.refl w) h2 ?_⟩
  · unfold execOp
    simp only [Sem.run_bind, eqGuard_scalar P w op xt x y _ _ p1 p2, Result.andThen_ok, hv, Sem.run_pure]
  · simp only [VR, h1, Bool.false_eq_true, if_false]; exact hrc _ _ _

/-- 'move' and 'assign' do the same -/
theorem semAt_ma (ro : Option Nat) (ρ : Operand → Value) (x : Operand) (t : Option Nat) (ty : TypeId) (pos : String) (aft : Array Edge) (g : Option (Nat × Bool)) :
    (Oper.semAt ro ρ ⟨t, .move x, ty, pos, aft, g⟩ = pure (.value (ρ x))) ∧ (Oper.semAt ro ρ ⟨t, .assign x, ty, pos, aft, g⟩ = pure (.value (ρ x))) := by
  cases ro <;> exact ⟨rfl, rfl⟩
theorem OpS.asg_of_mov {x : Operand} {t : Option Nat} {ty : TypeId} {pos : String} {aft : Array Edge} {g : Option (Nat × Bool)} (h : OpS P C ⟨t, .move x, ty, pos, aft, g⟩ σ σ') : OpS P C ⟨t, .assign x, ty, pos, aft, g⟩ σ σ' := by
  intro a w hs K Q hK
  have h2 := (h a w hs K Q hK).2
  rw [(semAt_ma _ _ x t ty pos aft g).1] at h2
  refine ⟨fun _ _ => trivial, ?_⟩
  rw [(semAt_ma _ _ x t ty pos aft g).2]
  exact h2
theorem OpS.mov_of_asg {x : Operand} {t : Option Nat} {ty : TypeId} {pos : String} {aft : Array Edge} {g : Option (Nat × Bool)} (h : OpS P C ⟨t, .assign x, ty, pos, aft, g⟩ σ σ') : OpS P C ⟨t, .move x, ty, pos, aft, g⟩ σ σ' := by
  intro a w hs K Q hK
  have h2 := (h a w hs K Q hK).2
  rw [(semAt_ma _ _ x t ty pos aft g).2] at h2
  refine ⟨fun _ _ => trivial, ?_⟩
  rw [(semAt_ma _ _ x t ty pos aft g).1]
  exact h2

/-- a copy of what owns nothing -/
theorem R.mov {x : Operand} {t : Nat} {ty : TypeId} {pos : String} {aft : Array Edge} {g : Option (Nat × Bool)} {d : D}
    (hx : ev C.gl σ x = some d) (hp : d.pur = true) (ht : t < σ.n) : OpS P C ⟨some t, .move x, ty, pos, aft, g⟩ σ (σ.set t d) := by
  refine OpS.value fun a w ⟨ρ, Fe, Fb, st⟩ => ?_
  obtain ⟨F, hv, _⟩ := ev_ok st hx (pur_ref hp)
  have hF := hv.pur hp
  subst hF
  refine ⟨a.eval x, w, rfl, st.setV ht (Ext.refl w) (pur_ref hp) (hv.mono (fun _ _ _ => rfl) (fun b hb _ => ⟨hb.1, fun ho => hb.2 ?_⟩) (fun id hid => ⟨hid, rfl⟩))⟩
  rcases ho with ⟨u, hu⟩ | ho
  · by_cases hut : u = t
    · subst hut; simp at hu
    · rw [upd_other hut] at hu; exact .inl ⟨u, hu⟩
  · exact .inr ho
theorem R.asg {x : Operand} {t : Nat} {ty : TypeId} {pos : String} {aft : Array Edge} {g : Option (Nat × Bool)} {d : D}
    (hx : ev C.gl σ x = some d) (hp : d.pur = true) (ht : t < σ.n) : OpS P C ⟨some t, .assign x, ty, pos, aft, g⟩ σ (σ.set t d) :=
  OpS.asg_of_mov (R.mov (P := P) (ty := ty) (pos := pos) (aft := aft) (g := g) hx hp ht)
end Go.Sx
