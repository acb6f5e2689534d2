/-
  Own library, part 1: abstract data D for Go values held by value, and the relation Rc between D and cells of memory.
-/
import Derived.WalkKit
set_option linter.unusedVariables false
set_option linter.unusedSimpArgs false
set_option linter.unnecessarySimpa false
namespace Go.Sx

/-- Go data by value. In 'sl', o = some e: the slice owns its block (elements of type e); none: it is only read. z: cells of an element. -/
inductive D where
  | bool (b : Bool)
  | int (n : Int)
  | u8 (x : UInt8)
  | u16 (x : UInt16)
  | u32 (x : UInt32)
  | u64 (x : UInt64)
  | ik (k : IntKind) (n : Int)
  | str (s : List UInt8)
  | nils
  | sl (o : Option Nat) (z : Nat) (l : List D)
  | agg (l : List D)
  | arr (n z : Nat) (l : List D)
  | ptr (id off : Nat) (path : List Nat)
  | nilp
  | rp (d : D)
  | map (id : Nat)
  | nilmap
  | fn (f : Nat) (caps : List D)
  | nilf
  | yld (l : Nat)
  | ifc (t : Nat) (d : D)
  | nili
  | al (s : Nat)
  | alb (id off : Nat) (path : List Nat)
  | vw (s z lo n : Nat)
  | va (id off z n : Nat) (path : List Nat) (lo : Nat)
  | ep (s z i off : Nat) (path : List Nat)
  | tup (l : List D)
  | dead
  deriving Inhabited

mutual
/-- how many cells -/
def D.sz : D → Nat
  | .agg l => D.szs l
  | .arr n z _ => n * z
  | _ => 1
def D.szs : List D → Nat
  | [] => 0
  | d :: r => D.sz d + D.szs r
end

@[simp] theorem szs_nil : D.szs [] = 0 := by simp [D.szs]
@[simp] theorem szs_cons (d : D) (r : List D) : D.szs (d :: r) = d.sz + D.szs r := by simp [D.szs]
@[simp] theorem sz_agg (l : List D) : (D.agg l).sz = D.szs l := by simp [D.sz]
@[simp] theorem sz_arr (n z : Nat) (l : List D) : (D.arr n z l).sz = n * z := by simp [D.sz]

theorem szs_append (l r : List D) : D.szs (l ++ r) = D.szs l + D.szs r := by
  induction l with
  | nil => simp
  | cons d l ih => simp [ih]; omega

/-- where part k begins -/
def offk (l : List D) (k : Nat) : Nat := D.szs (l.take k)

def D.isAgg : D → Bool
  | .agg _ | .arr _ _ _ => true
  | _ => false

def D.isRef : D → Bool
  | .al _ | .alb _ _ _ | .vw _ _ _ _ | .va _ _ _ _ _ _ | .ep _ _ _ _ _ | .tup _ | .dead => true
  | _ => false

/-- d lies in the cells cs, and owns the blocks F. G: the blocks that stay as they are. p: pointers into boxes may occur; L: the boxes that there are. -/
inductive Rc (w : World) (ρ : Nat → Nat) (G : Nat → Prop) (L : Nat → Prop) : Bool → D → List Value → List Nat → Prop
  | bool {p} (b : Bool) : Rc w ρ G L p (.bool b) [.bool b] []
  | int {p} (n : Int) : Rc w ρ G L p (.int n) [.int .i64 n] []
  | u8 {p} (x : UInt8) : Rc w ρ G L p (.u8 x) [.int .u8 x.toNat] []
  | u16 {p} (x : UInt16) : Rc w ρ G L p (.u16 x) [.int .u16 x.toNat] []
  | u32 {p} (x : UInt32) : Rc w ρ G L p (.u32 x) [.int .u32 x.toNat] []
  | u64 {p} (x : UInt64) : Rc w ρ G L p (.u64 x) [.int .u64 x.toNat] []
  | ik {p} (k : IntKind) (n : Int) : Rc w ρ G L p (.ik k n) [.int k n] []
  | str {p} (s : List UInt8) : Rc w ρ G L p (.str s) [.string ⟨s.toArray⟩] []
  | nils {p} : Rc w ρ G L p .nils [.slice none 0 0] []
  | slN {p} (o : Option Nat) (z : Nat) : Rc w ρ G L p (.sl o z []) [.slice none 0 0] []
  | slE {p} (o : Option Nat) (z : Nat) (a : Addr) : Rc w ρ G L p (.sl o z []) [.slice (some a) 0 0] []
  | slI {p} (b off : Nat) (cs : Array Value) (e : Nat) (fz : Nat × Nat) (cap z : Nat) (l : List D) (hb : w.heap[b]? = some (.cells cs e fz)) (hG : G b)
      (hc : l.length ≤ cap) (hs : off + l.length * z ≤ cs.size) (hr : ∀ i (h : i < l.length), Rc w ρ G L false l[i] ((cs.toList.drop (off + i * z)).take z) []) :
      Rc w ρ G L p (.sl none z l) [.slice (some ⟨b, off, none⟩) l.length cap] []
  | slO {p} (b : Nat) (cs : Array Value) (e : Nat) (cap z : Nat) (l : List D) (Fs : Nat → List Nat) (hb : w.heap[b]? = some (.cells cs e (0, 0)))
      (hc : l.length ≤ cap) (hm : cap ≤ maxLen) (hs : cs.size = cap * z) (hr : ∀ i (h : i < l.length), Rc w ρ G L false l[i] ((cs.toList.drop (i * z)).take z) (Fs i)) :
      Rc w ρ G L p (.sl (some e) z l) [.slice (some ⟨b, 0, none⟩) l.length cap] (b :: (List.range l.length).flatMap Fs)
  | agg {p} (l : List D) (cs : List Value) (Fs : Nat → List Nat) (hs : cs.length = D.szs l)
      (hr : ∀ k (h : k < l.length), Rc w ρ G L p l[k] ((cs.drop (offk l k)).take l[k].sz) (Fs k)) : Rc w ρ G L p (.agg l) cs ((List.range l.length).flatMap Fs)
  | arr {p} (n z : Nat) (l : List D) (cs : List Value) (hl : l.length = n) (hs : cs.length = n * z)
      (hr : ∀ i (h : i < l.length), Rc w ρ G L false l[i] ((cs.drop (i * z)).take z) []) : Rc w ρ G L p (.arr n z l) cs []
  | ptr (id off : Nat) (path : List Nat) (hL : L id) : Rc w ρ G L true (.ptr id off path) [.pointer (some ⟨ρ id, off, none⟩)] []
  | nilp {p} : Rc w ρ G L p .nilp [.pointer none] []
  | rp {p} (d : D) (b off : Nat) (cs : Array Value) (e : Nat) (fz : Nat × Nat) (hb : w.heap[b]? = some (.cells cs e fz)) (hG : G b) (hs : off + d.sz ≤ cs.size)
      (hr : Rc w ρ G L false d ((cs.toList.drop off).take d.sz) []) : Rc w ρ G L p (.rp d) [.pointer (some ⟨b, off, none⟩)] []
  | map (id : Nat) (hL : L id) : Rc w ρ G L true (.map id) [.map (some (ρ id))] []
  | nilmap {p} : Rc w ρ G L p .nilmap [.map none] []
  | fn {p} (f : Nat) (caps : List D) (vs : List Value) (hl : vs.length = caps.length) (ha : ∀ k (h : k < caps.length), caps[k].isAgg = false)
      (hr : ∀ k (h : k < caps.length), Rc w ρ G L p caps[k] [vs.getD k undef] []) : Rc w ρ G L p (.fn f caps) [.func (.func f) #[] vs.toArray] []
  | nilf {p} : Rc w ρ G L p .nilf [.nilFunc] []
  | yld {p} (l : Nat) : Rc w ρ G L p (.yld l) [.func (.yield l) #[] #[]] []
  | ifc {p} (t : Nat) (d : D) (v : Value) (ha : d.isAgg = false) (hr : Rc w ρ G L p d [v] []) : Rc w ρ G L p (.ifc t d) [.iface t v] []
  | nili {p} : Rc w ρ G L p .nili [.nilIface] []
  | dead {p} (v : Value) (h : v.oneCell' = true) : Rc w ρ G L p .dead [v] []

theorem Rc.len {w : World} {ρ : Nat → Nat} {G L : Nat → Prop} {p : Bool} {d : D} {cs : List Value} {F : List Nat} (h : Rc w ρ G L p d cs F) : cs.length = d.sz := by
  cases h <;> simp_all [D.sz]

/-- the same in a later world: owned and kept blocks stay, kept blocks stay kept -/
theorem Rc.mono {w w' : World} {ρ ρ' : Nat → Nat} {G G' L L' : Nat → Prop} {p : Bool} {d : D} {cs : List Value} {F : List Nat} (h : Rc w ρ G L p d cs F)
    (hh : ∀ b, (G b ∨ b ∈ F) → b < w.heap.size → w'.heap[b]? = w.heap[b]?) (hg : ∀ b, G b → b < w.heap.size → G' b) (hL : ∀ id, L id → L' id ∧ ρ' id = ρ id) : Rc w' ρ' G' L' p d cs F := by
  induction h with
  | bool b => exact .bool b
  | int n => exact .int n
  | u8 x => exact .u8 x
  | u16 x => exact .u16 x
  | u32 x => exact .u32 x
  | u64 x => exact .u64 x
  | ik k n => exact .ik k n
  | str s => exact .str s
  | nils => exact .nils
  | slN o z => exact .slN o z
  | slE o z a => exact .slE o z a
  | slI b off cs e fz cap z l hb hG hc hs hr ih =>
    have hlt : b < w.heap.size := (Array.getElem?_eq_some_iff.1 hb).1
    exact .slI b off cs e fz cap z l ((hh b (.inl hG) hlt).trans hb) (hg b hG hlt) hc hs (fun i hi => ih i hi (fun b hb => hh b (.inl (hb.resolve_right (by simp)))))
  | slO b cs e cap z l Fs hb hc hm hs hr ih =>
    have hlt : b < w.heap.size := (Array.getElem?_eq_some_iff.1 hb).1
    refine .slO b cs e cap z l Fs ((hh b (.inr (by simp)) hlt).trans hb) hc hm hs (fun i hi => ih i hi (fun b' hb' => hh b' (hb'.imp id fun hm => ?_)))
    exact List.mem_cons_of_mem _ (List.mem_flatMap.2 ⟨i, List.mem_range.2 hi, hm⟩)
  | agg l cs Fs hs hr ih =>
    exact .agg l cs Fs hs (fun k hk => ih k hk (fun b' hb' => hh b' (hb'.imp id fun hm => List.mem_flatMap.2 ⟨k, List.mem_range.2 hk, hm⟩)))
  | arr n z l cs hl hs hr ih => exact .arr n z l cs hl hs (fun i hi => ih i hi (fun b hb => hh b (.inl (hb.resolve_right (by simp)))))
  | ptr id off path hid => rw [← (hL id hid).2]; exact .ptr id off path (hL id hid).1
  | nilp => exact .nilp
  | rp d b off cs e fz hb hG hs hr ih =>
    have hlt : b < w.heap.size := (Array.getElem?_eq_some_iff.1 hb).1
    exact .rp d b off cs e fz ((hh b (.inl hG) hlt).trans hb) (hg b hG hlt) hs (ih (fun b hb => hh b (.inl (hb.resolve_right (by simp)))))
  | map id hid => rw [← (hL id hid).2]; exact .map id (hL id hid).1
  | nilmap => exact .nilmap
  | fn f caps vs hl ha hr ih => exact .fn f caps vs hl ha (fun k hk => ih k hk (fun b hb => hh b (.inl (hb.resolve_right (by simp)))))
  | nilf => exact .nilf
  | yld l => exact .yld l
  | ifc t d v ha hr ih => exact .ifc t d v ha (ih (fun b hb => hh b (.inl (hb.resolve_right (by simp)))))
  | nili => exact .nili
  | dead v h => exact .dead v h

/-- what owns nothing and holds no pointer lies as well under either flag -/
theorem Rc.flag {w : World} {ρ : Nat → Nat} {G L : Nat → Prop} {d : D} {cs : List Value} {F : List Nat} (h : Rc w ρ G L false d cs F) : Rc w ρ G L true d cs F := by
  generalize hp : false = p at h
  induction h with
  | bool b => exact .bool b
  | int n => exact .int n
  | u8 x => exact .u8 x
  | u16 x => exact .u16 x
  | u32 x => exact .u32 x
  | u64 x => exact .u64 x
  | ik k n => exact .ik k n
  | str s => exact .str s
  | nils => exact .nils
  | slN o z => exact .slN o z
  | slE o z a => exact .slE o z a
  | slI b off cs e fz cap z l hb hG hc hs hr ih => exact .slI b off cs e fz cap z l hb hG hc hs hr
  | slO b cs e cap z l Fs hb hc hm hs hr ih => exact .slO b cs e cap z l Fs hb hc hm hs hr
  | agg l cs Fs hs hr ih => exact .agg l cs Fs hs (fun k hk => ih k hk hp)
  | arr n z l cs hl hs hr ih => exact .arr n z l cs hl hs hr
  | ptr id off path hid => cases hp
  | nilp => exact .nilp
  | rp d b off cs e fz hb hG hs hr ih => exact .rp d b off cs e fz hb hG hs hr
  | map id hid => cases hp
  | nilmap => exact .nilmap
  | fn f caps vs hl ha hr ih => exact .fn f caps vs hl ha (fun k hk => ih k hk hp)
  | nilf => exact .nilf
  | yld l => exact .yld l
  | ifc t d v ha hr ih => exact .ifc t d v ha (ih hp)
  | nili => exact .nili
  | dead v h => exact .dead v h

/-- blocks that are owned are there -/
theorem Rc.lt {w : World} {ρ : Nat → Nat} {G L : Nat → Prop} {p : Bool} {d : D} {cs : List Value} {F : List Nat} (h : Rc w ρ G L p d cs F) : ∀ b ∈ F, b < w.heap.size := by
  induction h with
  | slO b cs e cap z l Fs hb hc hm hs hr ih =>
    intro b' hb'
    rcases List.mem_cons.1 hb' with rfl | hm'
    · exact (Array.getElem?_eq_some_iff.1 hb).1
    · obtain ⟨i, hi, hx⟩ := List.mem_flatMap.1 hm'
      exact ih i (List.mem_range.1 hi) b' hx
  | agg l cs Fs hs hr ih =>
    intro b' hb'
    obtain ⟨i, hi, hx⟩ := List.mem_flatMap.1 hb'
    exact ih i (List.mem_range.1 hi) b' hx
  | _ => intro b hb; simp at hb

/-- the value v is d -/
def VR (w : World) (ρ : Nat → Nat) (G L : Nat → Prop) (d : D) (v : Value) (F : List Nat) : Prop :=
  if d.isAgg then ∃ cs, v = .agg cs ∧ Rc w ρ G L true d cs.toList F else Rc w ρ G L true d [v] F

theorem VR.mono {w w' : World} {ρ ρ' : Nat → Nat} {G G' L L' : Nat → Prop} {d : D} {v : Value} {F : List Nat} (h : VR w ρ G L d v F)
    (hh : ∀ b, (G b ∨ b ∈ F) → b < w.heap.size → w'.heap[b]? = w.heap[b]?) (hg : ∀ b, G b → b < w.heap.size → G' b) (hL : ∀ id, L id → L' id ∧ ρ' id = ρ id) : VR w' ρ' G' L' d v F := by
  unfold VR at *
  cases hd : d.isAgg <;> simp only [hd, if_true, if_false, Bool.false_eq_true] at h ⊢
  · exact h.mono hh hg hL
  · obtain ⟨cs, rfl, h⟩ := h; exact ⟨cs, rfl, h.mono hh hg hL⟩

theorem VR.cells {w : World} {ρ : Nat → Nat} {G L : Nat → Prop} {d : D} {v : Value} {F : List Nat} (h : VR w ρ G L d v F) (hd : d ≠ .dead) : Rc w ρ G L true d v.cells.toList F := by
  unfold VR at h
  split at h
  · obtain ⟨cs, rfl, h⟩ := h; exact h
  · rename_i ha
    have : v.cells = #[v] := by cases h <;> simp_all [Value.cells, D.isAgg]
    rw [this]; exact h

theorem VR.lt {w : World} {ρ : Nat → Nat} {G L : Nat → Prop} {d : D} {v : Value} {F : List Nat} (h : VR w ρ G L d v F) : ∀ b ∈ F, b < w.heap.size := by
  unfold VR at h
  split at h
  · obtain ⟨cs, rfl, h⟩ := h; exact h.lt
  · exact h.lt
end Go.Sx
