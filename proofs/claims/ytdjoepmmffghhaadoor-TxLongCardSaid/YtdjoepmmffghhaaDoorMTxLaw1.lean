/-
 Own library: a part of the code that several ways lead to is walked once.
-/
import Derived.Test.YtdjoepmmffghhaaDoorMTx10
import Derived.Test.YtdjoepmmffghhaaDoorMSxBldO
import Derived.Recover
import Derived.Test.YtdjoepmmffghhaaDoorMSxOwn
import Derived.OpenShut
import Derived.Carry
import Derived.Deep.Slices
import Derived.Deep.DeepHandedRow
import Derived.Lib.LaidTab
set_option linter.unusedVariables false
set_option linter.unusedSimpArgs false
set_option linter.unnecessarySimpa false

namespace Go.Sx
def szW : List (List UInt8) → Nat
 | [] => 0
 | x :: r => 1 + x.length + szW r
def szI : List InS → Nat
 | [] => 0
 | x :: r => 41 + x.script.length + szW x.wit + szI r
def szO : List OutS → Nat
 | [] => 0
 | x :: r => 9 + x.script.length + szO r
def szT (t : TxS) : Nat := szI t.ins + szO t.outs
theorem szW_get {l : List (List UInt8)} {b : List UInt8} (h : b ∈ l) : b.length + 1 ≤ szW l := by
 induction l with
 | nil => cases h
 | cons x r ih =>
  simp only [szW]
  rcases List.mem_cons.1 h with rfl | h
  · omega
  · have := ih h; omega
theorem szI_get {l : List InS} {x : InS} (h : x ∈ l) : 41 + x.script.length + szW x.wit ≤ szI l := by
 induction l with
 | nil => cases h
 | cons y r ih =>
  simp only [szI]
  rcases List.mem_cons.1 h with rfl | h
  · omega
  · have := ih h; omega
theorem szO_get {l : List OutS} {x : OutS} (h : x ∈ l) : 9 + x.script.length ≤ szO l := by
 induction l with
 | nil => cases h
 | cons y r ih =>
  simp only [szO]
  rcases List.mem_cons.1 h with rfl | h
  · omega
  · have := ih h; omega
theorem szW_len (l : List (List UInt8)) : l.length ≤ szW l := by
 induction l with
 | nil => exact Nat.le_refl _
 | cons x r ih => simp only [szW,List.length_cons]; omega
theorem szI_len (l : List InS) : 41 * l.length ≤ szI l := by
 induction l with
 | nil => exact Nat.le_refl _
 | cons x r ih => simp only [szI,List.length_cons]; omega
theorem szO_len (l : List OutS) : 9 * l.length ≤ szO l := by
 induction l with
 | nil => exact Nat.le_refl _
 | cons x r ih => simp only [szO,List.length_cons]; omega
theorem szW_app (l r : List (List UInt8)) : szW (l ++ r) = szW l + szW r := by
 induction l with
 | nil => simp [szW]
 | cons x l ih => simp only [List.cons_append,szW,ih]; omega
theorem szI_app (l r : List InS) : szI (l ++ r) = szI l + szI r := by
 induction l with
 | nil => simp [szI]
 | cons x l ih => simp only [List.cons_append,szI,ih]; omega
theorem szO_app (l r : List OutS) : szO (l ++ r) = szO l + szO r := by
 induction l with
 | nil => simp [szO]
 | cons x l ih => simp only [List.cons_append,szO,ih]; omega
theorem take_snoc {α : Type} [Inhabited α] {l : List α} {i : Nat} (h : i < l.length) : l.take (i + 1) = l.take i ++ [l[i]!] := by
 rw [getElem!_pos l i h,List.take_succ_eq_append_getElem h]
theorem szW_take (l : List (List UInt8)) (i : Nat) : szW (l.take i) ≤ szW l := by
 have := szW_app (l.take i) (l.drop i)
 rw [List.take_append_drop] at this; omega
theorem szI_take (l : List InS) (i : Nat) : szI (l.take i) ≤ szI l := by
 have := szI_app (l.take i) (l.drop i)
 rw [List.take_append_drop] at this; omega
theorem szO_take (l : List OutS) (i : Nat) : szO (l.take i) ≤ szO l := by
 have := szO_app (l.take i) (l.drop i)
 rw [List.take_append_drop] at this; omega
theorem witS_le (l : List (List UInt8)) : ∀ i,i ≤ l.length → (witS l i).length ≤ 10 * szW (l.take i) := by
 intro i
 induction i with
 | zero => intro _; simp [witS]
 | succ i ih =>
  intro h
  have := ih (by omega)
  have h2 := itemS_len l[i]!
  rw [take_snoc (by omega),szW_app]
  simp only [witS,List.length_append,szW]
  omega
theorem insS_le (l : List InS) (hh : ∀ x ∈ l,x.tx.length = 32) : ∀ i,i ≤ l.length → (insS l i).length ≤ 2 * szI (l.take i) := by
 intro i
 induction i with
 | zero => intro _; simp [insS]
 | succ i ih =>
  intro h
  have := ih (by omega)
  have h2 := itemS_len l[i]!.script
  have h3 := hh _ (get_mem (show i < l.length by omega))
  rw [take_snoc (by omega),szI_app]
  simp only [insS,inS,List.length_append,szI,lowI_len]
  omega
theorem outsS_le (l : List OutS) : ∀ i,i ≤ l.length → (outsS l i).length ≤ 2 * szO (l.take i) := by
 intro i
 induction i with
 | zero => intro _; simp [outsS]
 | succ i ih =>
  intro h
  have := ih (by omega)
  have h2 := itemS_len l[i]!.script
  rw [take_snoc (by omega),szO_app]
  simp only [outsS,outS',List.length_append,szO,lowI_len]
  omega
theorem witsS_le (l : List InS) : ∀ i,i ≤ l.length → (witsS l i).length ≤ 10 * szI (l.take i) := by
 intro i
 induction i with
 | zero => intro _; simp [witsS]
 | succ i ih =>
  intro h
  have := ih (by omega)
  have h2 := countS_len l[i]!.wit.length
  have h3 := witS_le l[i]!.wit _ (Nat.le_refl _)
  rw [List.take_length] at h3
  rw [take_snoc (by omega),szI_app]
  simp only [witsS,List.length_append,szI]
  omega
theorem wf_of_sz {t : TxS} (h : szT t ≤ 100000) (hh : ∀ x ∈ t.ins,x.tx.length = 32) : t.wf := by
 unfold szT at h
 have a1 := szI_len t.ins
 have a2 := szO_len t.outs
 refine ⟨by omega,by omega,hh,fun x hx => ?_,fun x hx => ?_,fun i hi => ?_,fun i hi => ?_,fun i hi => ?_,fun x hx => ⟨?_,fun i hi => ?_⟩,fun x hx b hb => ?_⟩
 · have := szI_get hx; omega
 · have := szO_get hx; omega
 · have := insS_le t.ins hh i hi; have := szI_take t.ins i; omega
 · have := outsS_le t.outs i hi; have := szO_take t.outs i; omega
 · have := witsS_le t.ins i hi; have := szI_take t.ins i; omega
 · have := szI_get hx; have := szW_len x.wit; omega
 · have := szI_get hx; have := witS_le x.wit i hi; have := szW_take x.wit i; omega
 · have := szI_get hx; have := szW_get hb; omega

section
variable {b r : List UInt8} {n i : Nat} {l : List InS} {o : List OutS} {ws : List (List UInt8)}
theorem inO_sz {a : InS} (h : inO b = some (a,r)) (hb : b.length ≤ 100000) : a.tx.length = 32 ∧ a.wit = [] ∧ 41 + a.script.length + r.length ≤ b.length := by
 unfold inO at h
 cases h1 : takeO b 32 with
 | none => rw [h1] at h; cases h
 | some y =>
  obtain ⟨x,r1⟩ := y
  rw [h1,Option.bind_some] at h
  cases h2 : numO r1 4 with
  | none => rw [h2] at h; cases h
  | some y =>
   obtain ⟨p,r2⟩ := y
   rw [h2,Option.bind_some] at h
   cases h3 : itemO r2 with
   | none => rw [h3] at h; cases h
   | some y =>
    obtain ⟨s,r3⟩ := y
    rw [h3,Option.bind_some] at h
    cases h4 : numO r3 4 with
    | none => rw [h4] at h; cases h
    | some y =>
     obtain ⟨q,r4⟩ := y
     rw [h4,Option.bind_some] at h
     cases h
     have e1 := takeO_len h1
     have e2 := numO_len h2
     have e3 := itemO_len h3 (by omega)
     have e4 := numO_len h4
     exact ⟨e1.1,rfl,by show 41 + s.length + r4.length ≤ b.length; omega⟩
theorem outO_sz {a : OutS} (h : outO b = some (a,r)) (hb : b.length ≤ 100000) : 9 + a.script.length + r.length ≤ b.length := by
 unfold outO at h
 cases h1 : numO b 8 with
 | none => rw [h1] at h; cases h
 | some y =>
  obtain ⟨p,r1⟩ := y
  rw [h1,Option.bind_some] at h
  cases h2 : itemO r1 with
  | none => rw [h2] at h; cases h
  | some y =>
   obtain ⟨s,r2⟩ := y
   rw [h2,Option.bind_some] at h
   cases h
   have e1 := numO_len h1
   have e2 := itemO_len h2 (by omega)
   show 9 + s.length + r2.length ≤ b.length
   omega
theorem insO_sz (h : insO b i = some (l,r)) (hb : b.length ≤ 100000) : (∀ x ∈ l,x.tx.length = 32 ∧ x.wit = []) ∧ szI l + r.length ≤ b.length := by
 induction i generalizing l r with
 | zero => cases h; simp [szI]
 | succ i ih =>
  simp only [insO] at h
  cases h1 : insO b i with
  | none => rw [h1] at h; cases h
  | some y =>
   obtain ⟨l1,r1⟩ := y
   rw [h1,Option.bind_some] at h
   cases h2 : inO r1 with
   | none => rw [h2] at h; cases h
   | some y =>
    obtain ⟨a,r2⟩ := y
    rw [h2,Option.bind_some] at h
    cases h
    have e1 := ih h1
    have e2 := inO_sz h2 (by omega)
    refine ⟨fun x hx => ?_, ?_⟩
    · rcases List.mem_append.1 hx with hx | hx
      · exact e1.1 x hx
      · simp at hx; subst hx; exact ⟨e2.1,e2.2.1⟩
    · simp only [szI_app,szI,e2.2.1,szW]
      show szI l1 + (41 + a.script.length + 0 + 0) + r2.length ≤ b.length
      omega
theorem outsO_sz (h : outsO b i = some (o,r)) (hb : b.length ≤ 100000) : szO o + r.length ≤ b.length := by
 induction i generalizing o r with
 | zero => cases h; simp [szO]
 | succ i ih =>
  simp only [outsO] at h
  cases h1 : outsO b i with
  | none => rw [h1] at h; cases h
  | some y =>
   obtain ⟨l1,r1⟩ := y
   rw [h1,Option.bind_some] at h
   cases h2 : outO r1 with
   | none => rw [h2] at h; cases h
   | some y =>
    obtain ⟨a,r2⟩ := y
    rw [h2,Option.bind_some] at h
    cases h
    have e1 := ih h1
    have e2 := outO_sz h2 (by omega)
    simp only [szO_app,szO]
    show szO l1 + (9 + a.script.length + 0) + r2.length ≤ b.length
    omega
theorem bodyO_sz (h : bodyO b = some ((l,o),r)) (hb : b.length ≤ 100000) : (∀ x ∈ l,x.tx.length = 32 ∧ x.wit = []) ∧ szI l + szO o + r.length ≤ b.length := by
 unfold bodyO at h
 cases h1 : cntO b with
 | none => rw [h1] at h; cases h
 | some y =>
  obtain ⟨n,r1⟩ := y
  rw [h1,Option.bind_some] at h
  cases h2 : insO r1 n with
  | none => simp only [h2] at h; cases h
  | some y =>
   obtain ⟨l1,r2⟩ := y
   simp only [h2,Option.bind_some] at h
   cases h3 : cntO r2 with
   | none => rw [h3] at h; cases h
   | some y =>
    obtain ⟨m,r3⟩ := y
    simp only [h3,Option.bind_some] at h
    cases h4 : outsO r3 m with
    | none => rw [h4] at h; cases h
    | some y =>
     obtain ⟨o1,r4⟩ := y
     simp only [h4,Option.bind_some,Option.some.injEq,Prod.mk.injEq] at h
     obtain ⟨⟨rfl,rfl⟩,rfl⟩ := h
     have e1 := cntO_le h1 hb
     have e2 := insO_sz h2 (by omega)
     have e3 := cntO_le h3 (by omega)
     have e4 := outsO_sz h4 (by omega)
     exact ⟨e2.1,by omega⟩
theorem itemsO_sz (h : itemsO n b = some (ws,r)) (hb : b.length ≤ 100000) : szW ws + r.length ≤ b.length := by
 induction n generalizing b ws r with
 | zero => cases h; simp [szW]
 | succ n ih =>
  simp only [itemsO] at h
  cases h1 : itemO b with
  | none => rw [h1] at h; cases h
  | some y =>
   obtain ⟨x,r1⟩ := y
   simp only [h1,Option.bind_some] at h
   cases h2 : itemsO n r1 with
   | none => rw [h2] at h; cases h
   | some y =>
    obtain ⟨xs,r2⟩ := y
    simp only [h2,Option.bind_some,Option.some.injEq,Prod.mk.injEq] at h
    obtain ⟨rfl,rfl⟩ := h
    have e1 := itemO_len h1 hb
    have e2 := ih h2 (by omega)
    simp only [szW]; omega
theorem witO_sz (h : witO b = some (ws,r)) (hb : b.length ≤ 100000) : szW ws + r.length ≤ b.length := by
 unfold witO at h
 cases h1 : cntO b with
 | none => rw [h1] at h; cases h
 | some y =>
  obtain ⟨n,r1⟩ := y
  rw [h1,Option.bind_some] at h
  have e1 := cntO_le h1 hb
  have e2 := itemsO_sz h (by show r1.length ≤ 100000; omega)
  show szW ws + r.length ≤ b.length
  have : szW ws + r.length ≤ r1.length := e2
  omega
theorem witsO_sz {l' : List InS} (h : witsO l b = some (l',r)) (hb : b.length ≤ 100000) (hw : ∀ x ∈ l,x.tx.length = 32 ∧ x.wit = []) : (∀ x ∈ l',x.tx.length = 32) ∧ szI l' + r.length ≤ szI l + b.length ∧ l'.length = l.length := by
 induction l generalizing b l' r with
 | nil => cases h; simp
 | cons x xs ih =>
  simp only [witsO] at h
  cases h1 : witO b with
  | none => rw [h1] at h; cases h
  | some y =>
   obtain ⟨ws,r1⟩ := y
   simp only [h1,Option.bind_some] at h
   cases h2 : witsO xs r1 with
   | none => rw [h2] at h; cases h
   | some y =>
    obtain ⟨ys,r2⟩ := y
    simp only [h2,Option.bind_some,Option.some.injEq,Prod.mk.injEq] at h
    obtain ⟨rfl,rfl⟩ := h
    have e1 := witO_sz h1 hb
    have e2 := ih h2 (by omega) (fun z hz => hw z (List.mem_cons_of_mem _ hz))
    have e3 := hw x (by simp)
    refine ⟨fun z hz => ?_, ?_,by simp [e2.2.2]⟩
    · rcases List.mem_cons.1 hz with rfl | hz
      · exact e3.1
      · exact e2.1 z hz
    · simp only [szI,setW,e3.2,szW]
      omega
end
end Go.Sx

namespace Go.Sx
open Go.Proofs
set_option maxRecDepth 100000
theorem und20 : ∃ ms,Tryd.prog.underlying 20 = some (.interface ms) := ⟨_,rfl⟩
theorem neqNil0 (w : World) : (binOp .neq 20 .nilIface .nilIface).run Tryd.prog w = .ok (.bool false) w := by
 obtain ⟨ms,h⟩ := und20
 have : (Op.equal 20 .nilIface .nilIface).run Tryd.prog w = .ok true w := by
  unfold Op.equal
  rw [show Op.maxDepth = 9999 + 1 from rfl,Op.equalIn]
  simp [run_underlying h]
 simp [binOp,this]
theorem neqNil1 (w : World) (t : TypeId) (v : Value) : (binOp .neq 20 (.iface t v) .nilIface).run Tryd.prog w = .ok (.bool true) w := by
 obtain ⟨ms,h⟩ := und20
 have : (Op.equal 20 (.iface t v) .nilIface).run Tryd.prog w = .ok false w := by
  unfold Op.equal
  rw [show Op.maxDepth = 9999 + 1 from rfl,Op.equalIn]
  simp [run_underlying h]
 simp [binOp,this]
theorem eqGuardNil (w : World) (op : BinOp) (t : TypeId) (o : Operand) (x y : Value) (hx : ∀ cs,x ≠ .agg cs) : (eqGuard op t o (.const y) x .nilIface).run Tryd.prog w = .ok () w := by
 unfold eqGuard
 cases op <;> simp <;> cases x <;> simp_all

theorem get1R (b2 b3 : Nat) (w : World) : CallsD Tryd.prog 41 #[.pointer (some ⟨b2,0,none⟩),.pointer (some ⟨b3,0,none⟩)] .returning w (fun e u' w' => (∃ v,e = .returned v) ∧ u' = .returning ∧ w' = w) := by
 refine callsD_of_wpS Tryd.func41 rfl fun c0 cs hm => ?_
 refine wpS_seq (wpS_region ?_)
 have hr : recoverD (c0 :: cs) = none := by simp [recoverD,hm]
 simp [wpOpsS,List.range,List.range.loop,Region.wanted,execOp,resolve,invoke,builtin,hr,Act.put,Oper.upon,Act.eval,undef,eqGuardNil,neqNil0]
 show Code.wpS Tryd.prog _ _ _ _ _
 refine wpS_cond (t := false) rfl (wpS_of_wp (wp_skip ?_))
 exact ⟨rfl,.returning,by rw [← hm],.tuple #[],by simp [results,Tryd.f41],⟨_,rfl⟩,rfl,rfl⟩

theorem get1P (b2 b3 : Nat) (w : World) {ch : List PanicEntry} (hch : okCh ch) {cs2 cs3 : Array Value} {e2 e3 : TypeId} (h23 : b2 ≠ b3) (h2 : w.heap[b2]? = some (.cells cs2 e2 (0,0))) (hs2 : cs2.size = 4) (h3 : w.heap[b3]? = some (.cells cs3 e3 (0,0))) (hs3 : cs3.size = 1) :
 CallsD Tryd.prog 41 #[.pointer (some ⟨b2,0,none⟩),.pointer (some ⟨b3,0,none⟩)] (.panicking ch) w (fun e u' w' => (∃ v,e = .returned v) ∧ settle u' = .returning ∧
  w' = (w.setRow b2 #[.int .u32 0,.slice none 0 0,.slice none 0 0,.int .u32 0]).setRow b3 #[.int .i64 5]) := by
 obtain ⟨t,x,rfl⟩ := hch
 refine callsD_of_wpS Tryd.func41 rfl fun c0 cs hm => ?_
 refine wpS_seq (wpS_region ?_)
 have hr : recoverD (c0 :: cs) = some (.iface t x,{ c0 with mode := .panicking [{ v := .iface t x,recovered := true }] } :: cs) := by simp [recoverD,hm]
 simp [wpOpsS,List.range,List.range.loop,Region.wanted,execOp,resolve,invoke,builtin,hr,Act.put,Oper.upon,Act.eval,undef,eqGuardNil,neqNil1]
 show Code.wpS Tryd.prog _ _ _ _ _
 refine wpS_cond (t := true) rfl (wpS_region ?_)
 have hb : (Instr.build 26 #[]).run Tryd.prog w = .ok (.agg #[.int .u32 0,.slice none 0 0,.slice none 0 0,.int .u32 0]) w := run_build w 26 #[] _ rfl
 have s1 : (storeVar 26 ⟨b2,0,none⟩ (.agg #[.int .u32 0,.slice none 0 0,.slice none 0 0,.int .u32 0])).run Tryd.prog w = .ok () (w.setRow b2 #[.int .u32 0,.slice none 0 0,.slice none 0 0,.int .u32 0]) := by
  have := run_storeVar (P := Tryd.prog) (ty := 26) (n := 4) (w := w) (off := 0) (v := .agg #[.int .u32 0,.slice none 0 0,.slice none 0 0,.int .u32 0]) h2 rfl (by omega) (by intro u hu; simp [Value.cells] at hu; rcases hu with rfl | rfl | rfl | rfl <;> rfl)
  rw [this]
  have e : cs2.toList.drop 4 = [] := by apply List.drop_of_length_le; simp; omega
  simp [Value.cells,e]
 have s2 : (storeVar 34 ⟨b3,0,none⟩ (.int .i64 5)).run Tryd.prog (w.setRow b2 #[.int .u32 0,.slice none 0 0,.slice none 0 0,.int .u32 0]) = .ok () ((w.setRow b2 #[.int .u32 0,.slice none 0 0,.slice none 0 0,.int .u32 0]).setRow b3 #[.int .i64 5]) := by
  have := run_storeVar (P := Tryd.prog) (ty := 34) (n := 1) (w := w.setRow b2 #[.int .u32 0,.slice none 0 0,.slice none 0 0,.int .u32 0]) (off := 0) (v := .int .i64 5) ((setRow_other w b2 b3 _ (fun e => h23 e.symm)).trans h3) rfl (by omega) (by intro u hu; simp [Value.cells] at hu; subst hu; rfl)
  rw [this]
  have e : cs3.toList.drop 1 = [] := by apply List.drop_of_length_le; simp; omega
  simp [Value.cells,e]
 simp [wpOpsS,List.range,List.range.loop,Region.wanted,execOp,hb,Act.put,Oper.upon,Act.eval,Instr.storeAt,Instr.sureAddr,s1,s2]
 exact ⟨rfl,_,rfl,.tuple #[],by simp [results,Tryd.f41],⟨_,rfl⟩,rfl,rfl⟩
end Go.Sx

namespace Go.Sx
open Go.Proofs
def seenB (r : List UInt8) : Bool := decide (0 < r.length) && (r[0]! == 0)
def preO (r : List UInt8) : Option (List UInt8) := if seenB r = true then (takeO r 2).map Prod.snd else some r
def witQ (s : Bool) (ins : List InS) (r : List UInt8) : Option (List InS × List UInt8) := if s = true then witsO ins r else some (ins,r)
def finO (b : List UInt8) (t : TxS) (r : List UInt8) : Option TxS := if r.length = 0 ∧ mayS t = true ∧ putS t = b then some t else none
def getO (b : List UInt8) : Option TxS :=
 (numO b 4).bind fun v => (preO v.2).bind fun r => (bodyO r).bind fun p => (witQ (seenB v.2) p.1.1 p.2).bind fun q => (numO q.2 4).bind fun k => finO b ⟨v.1.toUInt32,q.1,p.1.2,k.1.toUInt32⟩ k.2
def zeroT : TxS := ⟨0,[],[],0⟩
def getS (b : List UInt8) : TxS × Nat := if 16384 < b.length then (zeroT,6) else match getO b with
 | some t => (t,0)
 | none => (zeroT,5)
section
variable {b r r1 r2 r3 r4 u : List UInt8} {x k : UInt64} {ins l : List InS} {outs : List OutS} {t : TxS}
theorem gt_big (h : 16384 < b.length) : getS b = (zeroT,6) := by simp [getS,h]
theorem gt_none (h : ¬ 16384 < b.length) (hg : getO b = none) : getS b = (zeroT,5) := by simp [getS,h,hg]
theorem gt_some (h : ¬ 16384 < b.length) (hg : getO b = some t) : getS b = (t,0) := by simp [getS,h,hg]
theorem go_1 (h : numO b 4 = none) : getO b = none := by unfold getO; rw [h]; rfl
theorem go_2 (h : numO b 4 = some (x,r)) (h2 : preO r = none) : getO b = none := by unfold getO; rw [h,Option.bind_some,h2]; rfl
theorem go_3 (h : numO b 4 = some (x,r)) (h2 : preO r = some r1) (h3 : bodyO r1 = none) : getO b = none := by unfold getO; rw [h,Option.bind_some,h2,Option.bind_some,h3]; rfl
theorem go_4 (h : numO b 4 = some (x,r)) (h2 : preO r = some r1) (h3 : bodyO r1 = some ((ins,outs),r2)) (h4 : witQ (seenB r) ins r2 = none) : getO b = none := by
 unfold getO; rw [h,Option.bind_some,h2,Option.bind_some,h3,Option.bind_some,h4]; rfl
theorem go_5 (h : numO b 4 = some (x,r)) (h2 : preO r = some r1) (h3 : bodyO r1 = some ((ins,outs),r2)) (h4 : witQ (seenB r) ins r2 = some (l,r3)) (h5 : numO r3 4 = none) : getO b = none := by
 unfold getO; rw [h,Option.bind_some,h2,Option.bind_some,h3,Option.bind_some,h4,Option.bind_some,h5]; rfl
theorem go_6 (h : numO b 4 = some (x,r)) (h2 : preO r = some r1) (h3 : bodyO r1 = some ((ins,outs),r2)) (h4 : witQ (seenB r) ins r2 = some (l,r3)) (h5 : numO r3 4 = some (k,r4)) : getO b = finO b ⟨x.toUInt32,l,outs,k.toUInt32⟩ r4 := by
 unfold getO; rw [h,Option.bind_some,h2,Option.bind_some,h3,Option.bind_some,h4,Option.bind_some,h5]; rfl
theorem pre_n (h : seenB r = true) (h2 : takeO r 2 = none) : preO r = none := by simp [preO,h,h2]
theorem pre_s (h : seenB r = true) (h2 : takeO r 2 = some (u,r1)) : preO r = some r1 := by simp [preO,h,h2]
theorem pre_0 (h : seenB r = false) : preO r = some r := by simp [preO,h]
theorem wq_t (h : seenB r = true) : witQ (seenB r) ins r1 = witsO ins r1 := by simp [witQ,h]
theorem wq_f (h : seenB r = false) : witQ (seenB r) ins r1 = some (ins,r1) := by simp [witQ,h]
theorem sn_t (h1 : 0 < r.length) (h2 : (r[0]! == 0) = true) : seenB r = true := by unfold seenB; rw [decide_eq_true h1,h2]; rfl
theorem sn_f1 (h1 : ¬ 0 < r.length) : seenB r = false := by unfold seenB; rw [decide_eq_false h1]; rfl
theorem sn_f2 (h2 : ¬ (r[0]! == 0) = true) : seenB r = false := by unfold seenB; rw [Bool.eq_false_iff.2 h2,Bool.and_false]
theorem fin_1 (h : 0 < r.length) : finO b t r = none := if_neg fun hc => by have := hc.1; omega
theorem fin_2 (h : mayS t = false) : finO b t r = none := if_neg fun hc => by have := hc.2.1; rw [h] at this; cases this
theorem fin_3 (h : (!(putS t == b)) = true) : finO b t r = none := if_neg fun hc => by rw [hc.2.2] at h; simp at h
theorem fin_s (h1 : ¬ 0 < r.length) (h2 : mayS t = true) (h3 : (!(putS t == b)) = false) : finO b t r = some t := if_pos ⟨by omega,h2,by simpa using h3⟩
end
theorem wk_inN (x : InS) (h : x.wit = []) : Wk (inN x) (inD x) := by
 unfold inN inD
 rw [h]
 exact .aggL (.cons (.refl _) (.cons (.refl _) (.cons (.refl _) (.cons (.nils none 1) .nil))))
theorem wk_txN {v k : UInt32} {ins : List InS} {outs : List OutS} (h : ∀ x ∈ ins,x.wit = []) : Wk (.agg [.u32 v,.sl none 36 (ins.map inN),.sl none 2 (outs.map outD),.u32 k]) (.agg [.u32 v,.sl none 36 (ins.map inD),.sl none 2 (outs.map outD),.u32 k]) :=
 .aggL (.cons (.refl _) (.cons (.slM fun x hx => wk_inN x (h x hx)) (.cons (.refl _) (.cons (.refl _) .nil))))
theorem wk_zero : Wk (.agg [.u32 0,.nils,.nils,.u32 0]) (txD zeroT) := .aggL (.cons (.refl _) (.cons (.nils none 36) (.cons (.nils none 2) (.cons (.refl _) .nil))))
end Go.Sx

namespace Go.Sx
open Go.Proofs
theorem rwitsN_ok (b : List UInt8) (hb0 : b.length ≤ 100000) (v k : UInt32) (outs : List OutS) (w : List InS) (hw : w = []) : FnO Tryd.prog gl 45 [.ptr 0 0 [],.ptr 1 0 []] [(0,.var (.agg [.sl none 1 (b.map D.u8)])),(1,.var (.agg [.u32 v,.sl (some 56) 36 (([] : List InS).map inN),.sl (some 46) 2 (outs.map outD),.u32 k]))] (((witsO w b).map fun q => (.tup [],[(0,.var (.agg [bytesD q.2])),(1,.var (.agg [.u32 v,.sl none 36 (q.1.map inD),.sl none 2 (outs.map outD),.u32 k]))],[]))) := by
 refine FnO.of (n := 38) (ids := [0,1]) Tryd.func45 rfl rfl rfl (nU rfl) fun C hC hD => ?_
 refine W.seq ?_
 refine W.l0 6 [.y 5 _,.y 6 _,.y 7 _,.y 8 _,.y 9 _,.y 10 _] [] [] [(0,_),(1,_),(9,_),(10,_)] [(0,.var _),(1,.var _)] 38 ⟨mU 1 rfl rfl,aU fun _ _ H K => R.nilcP (K 5 _ rfl) H,aU (fU 6 rfl rfl),aU fun _ B H K => R.ldO (K 7 _ rfl) (B 1 _ rfl) rfl H,aU fun _ B H K => R.lenE (SC.alb (K 8 _ rfl) (B 1 _ rfl) rfl) (List.length_map _) H,aU fun _ _ H _ => R.mov (kI 0 rfl) rfl H,trivial⟩ rfl rfl rfl rfl (tU rfl ?_)
 refine W.block ?_
 refine W.loop (α := {q__ : Unit // True}) (fun q__ => ⟨38,[(0,.ptr 0 0 []),(1,.ptr 1 0 []),(9,.int ((([] : List InS).length : Nat) : Int)),(10,.int ((0 : Nat) : Int))],[(0,.var (.agg [.sl none 1 (b.map D.u8)])),(1,.var (.agg [.u32 v,.sl (some 56) 36 (([] : List InS).map inN),.sl (some 46) 2 (outs.map outD),.u32 k]))]⟩) (fun q__ => 0) ⟨(()),trivial⟩ rfl ?_
 rintro ⟨_,hinv⟩
 show W _ _ _ _ ⟨38,[(0,.ptr 0 0 []),(1,.ptr 1 0 []),(9,.int ((([] : List InS).length : Nat) : Int)),(10,.int ((0 : Nat) : Int))],[(0,.var (.agg [.sl none 1 (b.map D.u8)])),(1,.var (.agg [.u32 v,.sl (some 56) 36 (([] : List InS).map inN),.sl (some 46) 2 (outs.map outD),.u32 k]))]⟩
 refine W.seq ?_
 refine W.l0 1 [.y 11 _] [] [] [(0,_),(1,_),(9,_),(10,_),(11,_)] [(0,.var _),(1,.var _)] 38 ⟨aU fun _ _ H K => R.lssN (0) (([] : List InS).length) (eU K 10 rfl) (eU K 9 rfl) H,trivial⟩ rfl rfl rfl rfl (tU rfl ?_)
 refine W.seq ?_
 refine W.condF rfl (decide_eq_false (Nat.not_lt_zero _)) ?_
 refine W.brwB 1 (d' := .agg [.u32 v,.sl none 36 (([] : List InS).map inD),.sl none 2 (outs.map outD),.u32 k]) (bx' := [(0,.var _),(1,.var _)]) rfl (show (D.agg [.u32 v,.sl (some 56) 36 (([] : List InS).map inN),.sl (some 46) 2 (outs.map outD),.u32 k]).brw = _ from by simp only [D.brw,brws_eq,List.map_cons,List.map_nil]; rw [brw_map brw_outD]) rfl ?_
 refine W.exit ?_
 exact EndsO.some' (r := .tup []) (bx' := [(0,.var (.agg [.sl none 1 (b.map D.u8)])),(1,.var (.agg [.u32 v,.sl none 36 (([] : List InS).map inD),.sl none 2 (outs.map outD),.u32 k]))]) (nw := []) (by rw [hw]; rfl) (EndsB.none' (r := .dead) (.inl rfl) rfl (rfl) ⟨rfl,⟨rfl,trivial⟩⟩)

end Go.Sx

namespace Go.Sx
open Go.Proofs
theorem rwits (b : List UInt8) (hb0 : b.length ≤ 100000) (v k : UInt32) (ins : List InS) (outs : List OutS) (hil : ins.length ≤ 1000000) :
 FnO Tryd.prog gl 45 [.ptr 0 0 [],.ptr 1 0 []] [(0,.var (.agg [.sl none 1 (b.map D.u8)])),(1,.var (.agg [.u32 v,.sl (some 56) 36 (ins.map inN),.sl (some 46) 2 (outs.map outD),.u32 k]))]
  ((witsO ins b).map fun q => (.tup [],[(0,.var (.agg [bytesD q.2])),(1,.var (.agg [.u32 v,.sl none 36 (q.1.map inD),.sl none 2 (outs.map outD),.u32 k]))],[])) := by
 by_cases hne : ins = []
 · subst hne; exact rwitsN_ok b hb0 v k outs [] rfl
 · exact rwits_ok b hb0 v k ins outs hil hne
section
variable {b r r1 r2 r3 r4 u : List UInt8} {x : UInt64} {v k : UInt32} {ins l : List InS} {outs : List OutS}
theorem preO_len (h : preO r = some r1) : r1.length ≤ r.length := by
 unfold preO at h
 split at h
 · cases h2 : takeO r 2 with
   | none => rw [h2] at h; cases h
   | some q =>
    obtain ⟨y,z⟩ := q
    rw [h2] at h; cases h
    have := takeO_len h2
    show z.length ≤ r.length
    omega
 · cases h; exact Nat.le_refl _
theorem witQ_sz {s : Bool} (h : witQ s ins r2 = some (l,r3)) (hb : r2.length ≤ 100000) (hw : ∀ x ∈ ins,x.tx.length = 32 ∧ x.wit = []) : (∀ x ∈ l,x.tx.length = 32) ∧ szI l + r3.length ≤ szI ins + r2.length := by
 unfold witQ at h
 split at h
 · have := witsO_sz h hb hw; exact ⟨this.1,this.2.1⟩
 · cases h; exact ⟨fun x hx => (hw x hx).1,Nat.le_refl _⟩
theorem get_wf (h1 : r.length ≤ 100000) (h2 : preO r = some r1) (h3 : bodyO r1 = some ((ins,outs),r2)) (h4 : witQ (seenB r) ins r2 = some (l,r3)) : (⟨v,l,outs,k⟩ : TxS).wf := by
 have a1 := preO_len h2
 have a2 := bodyO_sz h3 (by omega)
 have a3 := witQ_sz h4 (by omega) a2.1
 exact wf_of_sz (by show szI l + szO outs ≤ 100000; omega) a3.1
end
end Go.Sx

namespace Go.Sx
open Go.Proofs
theorem get_ok (b : List UInt8) (hb0 : b.length ≤ 100000) : Fn Tryd.prog gl 23 [.sl none 1 (b.map D.u8)] (.tup [txD (getS b).1,.int (((getS b).2 : Nat) : Int)]) := by
 refine Fn.ofD (n := 65) Tryd.func23 rfl rfl rfl (nU rfl) fun C hC hD hdf hrd hkp => ?_
 refine WD.seq ?_
 refine W.l0 2 [] [] [] [(0,_)] [] 65 trivial rfl rfl rfl rfl (⟨rfl,_,R.alloc rfl (nU rfl),⟨rfl,_,R.alloc rfl (nU rfl),tV [(0,_),(2,_),(3,_)] [(3,.var _),(2,.var _)] 65 rfl rfl rfl ?_⟩⟩)
 refine WD.seq ?_
 refine W.seq ?_
 refine W.l0 3 [.y 6 _,.y 7 _,.y 8 _] [] [] [(0,_),(2,_),(3,_),(8,_)] [(3,.var _),(2,.var _)] 65 ⟨mU 0 rfl rfl,aU fun _ _ H K => R.lenE (SC.sl (K 6 _ rfl)) (List.length_map _) H,aU fun _ _ H K => R.gtrN (b.length) (16384) (eU K 7 rfl) (kI 16384 rfl) H,trivial⟩ rfl rfl rfl rfl (tU rfl ?_)
 refine W.condD rfl (fun hc8 => ?_) (fun hc8 => ?_)
 · refine W.seq ?_
   refine W.wkB 2 (d' := txD zeroT) (bx' := [(3,.var _),(2,.var _)]) rfl wk_zero rfl ?_
   refine W.l0 3 [.y 9 _] [] [] [(2,_),(3,_),(9,_)] [(3,.var _),(2,.var _)] 65 ⟨aU (lU 2 rfl rfl rfl rfl rfl rfl rfl),trivial⟩ rfl rfl rfl rfl (⟨rfl,_,R.stZ (gU 2 rfl) (xU 2 rfl) rfl (gV 9 rfl) (by rfl) (by rfl) (by rfl) (by rfl) rfl,⟨rfl,_,R.stZ (gU 3 rfl) (xU 3 rfl) rfl (kI 6 rfl) (by rfl) (by rfl) (by rfl) (by rfl) rfl,tV [(2,_),(3,_)] [(3,.var _),(2,.var _)] 65 rfl rfl rfl ?_⟩⟩)
   refine W.ret ?_
   exact fun a w hs => end0 hdf hkp hs (Ends.many (.inr rfl) (.cons rfl rfl rfl (show LdT _ 26 4 true from inferInstance) (.cons rfl rfl rfl (show LdT _ 34 1 false from inferInstance) .nil)) (by rw [gt_big hc8]) (show [(2,false),(3,false)].Nodup by decide))
 · refine W.skip ?_
   refine WD.defer hrd rfl rfl rfl rfl (nU rfl) fun b2 b3 hb23 => ?_
   obtain ⟨C1,hC1⟩ : ∃ C1,C1 = C.put (dfr 41 b2 b3) 2 3 b2 b3 := ⟨_,rfl⟩
   rw [← hC1]
   have hC0 := hC
   have hC : C1.gl = gl := by rw [hC1]; exact hC0
   have hD0 := hD
   have hD : ∀ id c_,C1.pin id = some c_ → memN [2,3] id = true := by rw [hC1]; exact put_pin hD0
   refine WD.of ?_
   refine W.dropS (live := [0,2,3]) (env' := [(0,_),(2,_),(3,_)]) (bx' := [(3,.var _),(2,.var _)]) (n' := 65) rfl rfl rfl ?_
   refine W.seq ?_
   refine W.l0 4 [.y 11 _,.y 12 _] [] [] [(0,_),(2,_),(3,_),(12,_)] [(3,.var _),(2,.var _)] 65 ⟨mU 0 rfl rfl,aU fun _ _ H K => R.bldSE (l := [.nils]) (l' := [_]) (.cons (eU K 11 rfl) (.nil rfl)) ⟨⟨_,(eU K 11 rfl),rfl,rfl,rfl⟩,trivial⟩ H,trivial⟩ rfl rfl rfl rfl (⟨rfl,_,R.box (gV 12 rfl) rfl rfl (nU rfl),⟨rfl,_,R.asg (gV 13 rfl) rfl (nU rfl),tV [(0,_),(2,_),(3,_),(4,_)] [(13,.var _),(3,.var _),(2,.var _)] 65 rfl rfl rfl ?_⟩⟩)
   refine W.seq ?_
   rcases hE : numO b 4 with _ | ⟨x,r⟩
   · refine W.lineX (n := 5) (by decide) (its := [.y 14 _]) (ks := []) (kk := []) (live := [0,2,3,4,14]) (env' := [(0,_),(2,_),(3,_),(4,_),(14,_)]) (⟨nU rfl,rfl,⟨mU 4 rfl rfl,trivial⟩,rfl,rfl,rfl⟩) rfl (bx' := [(13,.var _),(3,.var _),(2,.var _)]) rfl (n' := 65) rfl (⟨rfl,.inr (R.callXk [(0,13)] hC (FnO.none' (rnumber_ok b (by omega) 4 (by decide)) (by rw [hE]; rfl)) (EvB.cons (gV 14 rfl) rfl rfl rfl (EvB.cons (kI 4 rfl) rfl rfl rfl EvB.nil)) rfl ⟨rfl,trivial⟩ ⟨rfl,trivial⟩ rfl (fun e he => ?_))⟩)
     obtain ⟨ch,rfl,hch⟩ := he
     intro a w hs
     show bodyPostD _ _ _ _ _ _
     rw [gt_none hc8 (go_1 hE)]
     exact endDP (z2 := #[.int .u32 0,.slice none 0 0,.slice none 0 0,.int .u32 0]) (z3 := #[.int .i64 5]) (r2 := .agg [.u32 0,.nils,.nils,.u32 0]) hC1 hdf hkp (by decide) (hb23 (by decide)) rfl inferInstance (fun w ch hch cs2 cs3 e2 e3 q2 s2 q3 s3 => get1P b2 b3 w hch (hb23 (by decide)) q2 s2 q3 s3) ⟨ch,rfl,hch⟩ rfl rfl rfl rfl rfl rfl rfl rfl rfl rfl rfl rfl rfl rfl wk_zero rfl hs
   have hr := numO_len hE
   refine W.l0 5 [.y 14 _] [] [] [(0,_),(2,_),(3,_),(4,_),(14,_)] [(13,.var _),(3,.var _),(2,.var _)] 65 ⟨mU 4 rfl rfl,trivial⟩ rfl rfl rfl rfl (⟨rfl,_,R.callB [(0,13)] hC (FnO.some' (r := .u64 x) (bx' := [(0,.var (.agg [.sl none 1 (r.map D.u8)]))]) (nw := []) (rnumber_ok b (by omega) 4 (by decide)) (by rw [hE]; rfl)) (EvB.cons (gV 14 rfl) rfl rfl rfl (EvB.cons (kI 4 rfl) rfl rfl rfl EvB.nil)) rfl ⟨rfl,trivial⟩ ⟨rfl,trivial⟩ rfl rfl rfl rfl rfl rfl (nU rfl),⟨rfl,_,R.conv (gV 15 rfl) rfl (nU rfl),⟨rfl,_,R.fdP (gU 2 rfl) (nU rfl),⟨rfl,_,R.stZ (gU 17 rfl) (xU 2 rfl) rfl (gV 16 rfl) (by rfl) (by rfl) (by rfl) (by rfl) rfl,tV [(0,_),(2,_),(3,_),(4,_)] [(13,.var _),(3,.var _),(2,.var _)] 65 rfl rfl rfl ?_⟩⟩⟩⟩)
   refine W.seq ?_
   by_cases hs1 : 0 < r.length
   · by_cases hs2 : (r[0]! == 0) = true
     · refine W.l0 16 [.y 18 _,.y 19 _,.y 20 _,.y 21 _,.y 22 _,.y 23 _,.y 24 _,.y 25 _,.y 26 _,.y 27 _,.y 28 _,.y 29 _,.y 30 _,.y 31 _,.y 32 _,.y 5 _] [] [] [(0,_),(2,_),(3,_),(4,_),(5,_)] [(13,.var _),(3,.var _),(2,.var _)] 65 ⟨mU 4 rfl rfl,aU fun _ _ H K => R.nilcP (K 18 _ rfl) H,aU (fU 19 rfl rfl),aU (lU 20 rfl rfl rfl rfl rfl rfl rfl),aU fun _ _ H K => R.lenE (SC.sl (K 21 _ rfl)) (List.length_map _) H,aU fun _ _ H K => R.gtrN (r.length) (0) (eU K 22 rfl) (kI 0 rfl) H,mU 23 rfl rfl,aW rfl rfl (gT (decide_eq_true hs1) rfl) fun _ _ H K => R.mov (eU K 4 rfl) rfl H,aW rfl rfl (gT (decide_eq_true hs1) rfl) fun _ _ H K => R.nilcP (K 25 _ rfl) H,aW rfl rfl (gT (decide_eq_true hs1) rfl) (fU 26 rfl rfl),aW rfl rfl (gT (decide_eq_true hs1) rfl) (lU 27 rfl rfl rfl rfl rfl rfl rfl),aW rfl rfl (gT (decide_eq_true hs1) rfl) fun _ _ H K => R.idxN (0) (SC.sl (K 28 _ rfl)) (evoI (kI 0 rfl)) rfl bU H (by decide),aW rfl rfl (gT (decide_eq_true hs1) rfl) fun _ _ H K => R.ldE (K 29 _ rfl) (SC.sl (K 28 _ rfl)) (map_get! (l := r) bU) rfl rfl rfl rfl H,aW rfl rfl (gT (decide_eq_true hs1) rfl) fun _ _ H K => R.bin (eU K 30 rfl) (show ev _ _ (.const (.int .u8 0)) = some (.u8 0) from rfl) rfl trivial H,aU fun _ _ H K => R.pickT (eU K 24 rfl) (decide_eq_true hs1) (eU K 31 rfl) rfl H,aU fun _ _ H K => R.asg (eU K 32 rfl) rfl H,trivial⟩ rfl rfl rfl rfl (tU rfl ?_)
       refine W.seq ?_
       refine W.seq ?_
       refine W.l0 1 [.y 33 _] [] [] [(0,_),(2,_),(3,_),(4,_),(5,_),(33,_)] [(13,.var _),(3,.var _),(2,.var _)] 65 ⟨mU 5 rfl rfl,trivial⟩ rfl rfl rfl rfl (tU rfl ?_)
       refine W.condT rfl (hs2) ?_
       rcases hE2 : takeO r 2 with _ | ⟨u,r1⟩
       · refine W.lineX (n := 2) (by decide) (its := [.y 34 _]) (ks := []) (kk := []) (live := [0,2,3,4,5,34]) (env' := [(0,_),(2,_),(3,_),(4,_),(5,_),(34,_)]) (⟨nU rfl,rfl,⟨mU 4 rfl rfl,trivial⟩,rfl,rfl,rfl⟩) rfl (bx' := [(13,.var _),(3,.var _),(2,.var _)]) rfl (n' := 65) rfl (⟨rfl,.inr (R.callXk [(0,13)] hC (FnO.none' (rtake_ok r (by omega) 2 (by omega)) (by rw [hE2]; rfl)) (EvB.cons (gV 34 rfl) rfl rfl rfl (EvB.cons (kI 2 rfl) rfl rfl rfl EvB.nil)) rfl ⟨rfl,trivial⟩ ⟨rfl,trivial⟩ rfl (fun e he => ?_))⟩)
         obtain ⟨ch,rfl,hch⟩ := he
         intro a w hs
         show bodyPostD _ _ _ _ _ _
         rw [gt_none hc8 (go_2 hE (pre_n (sn_t hs1 hs2) hE2))]
         exact endDP (z2 := #[.int .u32 0,.slice none 0 0,.slice none 0 0,.int .u32 0]) (z3 := #[.int .i64 5]) (r2 := .agg [.u32 0,.nils,.nils,.u32 0]) hC1 hdf hkp (by decide) (hb23 (by decide)) rfl inferInstance (fun w ch hch cs2 cs3 e2 e3 q2 s2 q3 s3 => get1P b2 b3 w hch (hb23 (by decide)) q2 s2 q3 s3) ⟨ch,rfl,hch⟩ rfl rfl rfl rfl rfl rfl rfl rfl rfl rfl rfl rfl rfl rfl wk_zero rfl hs
       have hr1 := takeO_len hE2
       refine W.l0 2 [.y 34 _] [] [] [(0,_),(2,_),(3,_),(4,_),(5,_),(34,_)] [(13,.var _),(3,.var _),(2,.var _)] 65 ⟨mU 4 rfl rfl,trivial⟩ rfl rfl rfl rfl (⟨rfl,_,R.callB [(0,13)] hC (FnO.some' (r := .sl none 1 (u.map D.u8)) (bx' := [(0,.var (.agg [.sl none 1 (r1.map D.u8)]))]) (nw := []) (rtake_ok r (by omega) 2 (by omega)) (by rw [hE2]; rfl)) (EvB.cons (gV 34 rfl) rfl rfl rfl (EvB.cons (kI 2 rfl) rfl rfl rfl EvB.nil)) rfl ⟨rfl,trivial⟩ ⟨rfl,trivial⟩ rfl rfl rfl rfl rfl rfl (nU rfl),tV [(0,_),(2,_),(3,_),(4,_),(5,_)] [(13,.var _),(3,.var _),(2,.var _)] 65 rfl rfl rfl ?_⟩)
       refine W.seq ?_
       rcases hE3 : bodyO r1 with _ | ⟨⟨ins,outs⟩,r2⟩
       · refine W.asOwnP 2 [1] 56 36 (bx' := [(13,.var _),(3,.var _),(2,.var _)]) rfl rfl rfl rfl rfl ?_
         refine W.asOwnP 2 [2] 46 2 (bx' := [(13,.var _),(3,.var _),(2,.var _)]) rfl rfl rfl rfl rfl ?_
         refine W.lineX (n := 2) (by decide) (its := [.y 36 _]) (ks := []) (kk := []) (live := [0,2,3,4,5,36]) (env' := [(0,_),(2,_),(3,_),(4,_),(5,_),(36,_)]) (⟨nU rfl,rfl,⟨mU 4 rfl rfl,trivial⟩,rfl,rfl,rfl⟩) rfl (bx' := [(13,.var _),(3,.var _),(2,.var _)]) rfl (n' := 65) rfl (⟨rfl,.inr (R.callXk [(0,13),(1,2)] hC (FnO.none' (rbody_ok r1 (by omega) x.toUInt32 0) (by rw [hE3]; rfl)) (EvB.cons (gV 36 rfl) rfl rfl rfl (EvB.cons (gV 2 rfl) rfl rfl rfl EvB.nil)) rfl ⟨rfl,⟨rfl,trivial⟩⟩ ⟨rfl,⟨rfl,trivial⟩⟩ rfl (fun e he => ?_))⟩)
         obtain ⟨ch,rfl,hch⟩ := he
         intro a w hs
         show bodyPostD _ _ _ _ _ _
         rw [gt_none hc8 (go_3 hE (pre_s (sn_t hs1 hs2) hE2) hE3)]
         exact endDP (z2 := #[.int .u32 0,.slice none 0 0,.slice none 0 0,.int .u32 0]) (z3 := #[.int .i64 5]) (r2 := .agg [.u32 0,.nils,.nils,.u32 0]) hC1 hdf hkp (by decide) (hb23 (by decide)) rfl inferInstance (fun w ch hch cs2 cs3 e2 e3 q2 s2 q3 s3 => get1P b2 b3 w hch (hb23 (by decide)) q2 s2 q3 s3) ⟨ch,rfl,hch⟩ rfl rfl rfl rfl rfl rfl rfl rfl rfl rfl rfl rfl rfl rfl wk_zero rfl hs
       have hbs := bodyO_sz hE3 (by omega)
       have hil := szI_len ins
       refine W.asOwnP 2 [1] 56 36 (bx' := [(13,.var _),(3,.var _),(2,.var _)]) rfl rfl rfl rfl rfl ?_
       refine W.asOwnP 2 [2] 46 2 (bx' := [(13,.var _),(3,.var _),(2,.var _)]) rfl rfl rfl rfl rfl ?_
       refine W.l0 2 [.y 36 _] [] [] [(0,_),(2,_),(3,_),(4,_),(5,_),(36,_)] [(13,.var _),(3,.var _),(2,.var _)] 65 ⟨mU 4 rfl rfl,trivial⟩ rfl rfl rfl rfl (⟨rfl,_,R.callB [(0,13),(1,2)] hC (FnO.some' (r := .tup []) (bx' := [(0,.var (.agg [.sl none 1 (r2.map D.u8)])),(1,.var (.agg [.u32 x.toUInt32,.sl (some 56) 36 (ins.map inN),.sl (some 46) 2 (outs.map outD),.u32 0]))]) (nw := []) (rbody_ok r1 (by omega) x.toUInt32 0) (by rw [hE3]; rfl)) (EvB.cons (gV 36 rfl) rfl rfl rfl (EvB.cons (gV 2 rfl) rfl rfl rfl EvB.nil)) rfl ⟨rfl,⟨rfl,trivial⟩⟩ ⟨rfl,⟨rfl,trivial⟩⟩ rfl rfl rfl rfl rfl rfl (nU rfl),tV [(0,_),(2,_),(3,_),(4,_),(5,_)] [(13,.var _),(3,.var _),(2,.var _)] 65 rfl rfl rfl ?_⟩)
       refine W.seq ?_
       refine W.seq ?_
       refine W.l0 1 [.y 38 _] [] [] [(0,_),(2,_),(3,_),(4,_),(38,_)] [(13,.var _),(3,.var _),(2,.var _)] 65 ⟨mU 5 rfl rfl,trivial⟩ rfl rfl rfl rfl (tU rfl ?_)
       refine W.condT rfl (hs2) ?_
       rcases hE4 : witsO ins r2 with _ | ⟨l,r3⟩
       · refine W.lineX (n := 2) (by decide) (its := [.y 39 _]) (ks := []) (kk := []) (live := [0,2,3,4,39]) (env' := [(0,_),(2,_),(3,_),(4,_),(39,_)]) (⟨nU rfl,rfl,⟨mU 4 rfl rfl,trivial⟩,rfl,rfl,rfl⟩) rfl (bx' := [(13,.var _),(3,.var _),(2,.var _)]) rfl (n' := 65) rfl (⟨rfl,.inr (R.callXk [(0,13),(1,2)] hC (FnO.none' (rwits r2 (by omega) x.toUInt32 0 ins outs (by omega)) (by rw [hE4]; rfl)) (EvB.cons (gV 39 rfl) rfl rfl rfl (EvB.cons (gV 2 rfl) rfl rfl rfl EvB.nil)) rfl ⟨rfl,⟨rfl,trivial⟩⟩ ⟨rfl,⟨rfl,trivial⟩⟩ rfl (fun e he => ?_))⟩)
         obtain ⟨ch,rfl,hch⟩ := he
         intro a w hs
         show bodyPostD _ _ _ _ _ _
         rw [gt_none hc8 (go_4 hE (pre_s (sn_t hs1 hs2) hE2) hE3 ((wq_t (sn_t hs1 hs2)).trans hE4))]
         exact endDP (z2 := #[.int .u32 0,.slice none 0 0,.slice none 0 0,.int .u32 0]) (z3 := #[.int .i64 5]) (r2 := .agg [.u32 0,.nils,.nils,.u32 0]) hC1 hdf hkp (by decide) (hb23 (by decide)) rfl inferInstance (fun w ch hch cs2 cs3 e2 e3 q2 s2 q3 s3 => get1P b2 b3 w hch (hb23 (by decide)) q2 s2 q3 s3) ⟨ch,rfl,hch⟩ rfl rfl rfl rfl rfl rfl rfl rfl rfl rfl rfl rfl rfl rfl wk_zero rfl hs
       have hws := witsO_sz hE4 (by omega) hbs.1
       refine W.l0 2 [.y 39 _] [] [] [(0,_),(2,_),(3,_),(4,_),(39,_)] [(13,.var _),(3,.var _),(2,.var _)] 65 ⟨mU 4 rfl rfl,trivial⟩ rfl rfl rfl rfl (⟨rfl,_,R.callB [(0,13),(1,2)] hC (FnO.some' (r := .tup []) (bx' := [(0,.var (.agg [.sl none 1 (r3.map D.u8)])),(1,.var (.agg [.u32 x.toUInt32,.sl none 36 (l.map inD),.sl none 2 (outs.map outD),.u32 0]))]) (nw := []) (rwits r2 (by omega) x.toUInt32 0 ins outs (by omega)) (by rw [hE4]; rfl)) (EvB.cons (gV 39 rfl) rfl rfl rfl (EvB.cons (gV 2 rfl) rfl rfl rfl EvB.nil)) rfl ⟨rfl,⟨rfl,trivial⟩⟩ ⟨rfl,⟨rfl,trivial⟩⟩ rfl rfl rfl rfl rfl rfl (nU rfl),tV [(0,_),(2,_),(3,_),(4,_)] [(13,.var _),(3,.var _),(2,.var _)] 65 rfl rfl rfl ?_⟩)
       refine W.seq ?_
       rcases hE5 : numO r3 4 with _ | ⟨k,r4⟩
       · refine W.lineX (n := 5) (by decide) (its := [.y 41 _]) (ks := []) (kk := []) (live := [0,2,3,4,41]) (env' := [(0,_),(2,_),(3,_),(4,_),(41,_)]) (⟨nU rfl,rfl,⟨mU 4 rfl rfl,trivial⟩,rfl,rfl,rfl⟩) rfl (bx' := [(13,.var _),(3,.var _),(2,.var _)]) rfl (n' := 65) rfl (⟨rfl,.inr (R.callXk [(0,13)] hC (FnO.none' (rnumber_ok r3 (by omega) 4 (by decide)) (by rw [hE5]; rfl)) (EvB.cons (gV 41 rfl) rfl rfl rfl (EvB.cons (kI 4 rfl) rfl rfl rfl EvB.nil)) rfl ⟨rfl,trivial⟩ ⟨rfl,trivial⟩ rfl (fun e he => ?_))⟩)
         obtain ⟨ch,rfl,hch⟩ := he
         intro a w hs
         show bodyPostD _ _ _ _ _ _
         rw [gt_none hc8 (go_5 hE (pre_s (sn_t hs1 hs2) hE2) hE3 ((wq_t (sn_t hs1 hs2)).trans hE4) hE5)]
         exact endDP (z2 := #[.int .u32 0,.slice none 0 0,.slice none 0 0,.int .u32 0]) (z3 := #[.int .i64 5]) (r2 := .agg [.u32 0,.nils,.nils,.u32 0]) hC1 hdf hkp (by decide) (hb23 (by decide)) rfl inferInstance (fun w ch hch cs2 cs3 e2 e3 q2 s2 q3 s3 => get1P b2 b3 w hch (hb23 (by decide)) q2 s2 q3 s3) ⟨ch,rfl,hch⟩ rfl rfl rfl rfl rfl rfl rfl rfl rfl rfl rfl rfl rfl rfl wk_zero rfl hs
       refine W.l0 5 [.y 41 _] [] [] [(0,_),(2,_),(3,_),(4,_),(41,_)] [(13,.var _),(3,.var _),(2,.var _)] 65 ⟨mU 4 rfl rfl,trivial⟩ rfl rfl rfl rfl (⟨rfl,_,R.callB [(0,13)] hC (FnO.some' (r := .u64 k) (bx' := [(0,.var (.agg [.sl none 1 (r4.map D.u8)]))]) (nw := []) (rnumber_ok r3 (by omega) 4 (by decide)) (by rw [hE5]; rfl)) (EvB.cons (gV 41 rfl) rfl rfl rfl (EvB.cons (kI 4 rfl) rfl rfl rfl EvB.nil)) rfl ⟨rfl,trivial⟩ ⟨rfl,trivial⟩ rfl rfl rfl rfl rfl rfl (nU rfl),⟨rfl,_,R.conv (gV 42 rfl) rfl (nU rfl),⟨rfl,_,R.fdP (gU 2 rfl) (nU rfl),⟨rfl,_,R.stZ (gU 44 rfl) (xU 2 rfl) rfl (gV 43 rfl) (by rfl) (by rfl) (by rfl) (by rfl) rfl,tV [(0,_),(2,_),(3,_),(4,_)] [(13,.var _),(3,.var _),(2,.var _)] 65 rfl rfl rfl ?_⟩⟩⟩⟩)
       refine W.seq ?_
       refine W.seq ?_
       by_cases d1 : 0 < r4.length
       · have hwf : ((⟨x.toUInt32,l,outs,k.toUInt32⟩ : TxS)).wf := get_wf (by omega) (pre_s (sn_t hs1 hs2) hE2) hE3 ((wq_t (sn_t hs1 hs2)).trans hE4)
         refine W.l0 18 [.y 45 _,.y 46 _,.y 47 _,.y 48 _,.y 49 _,.y 50 _,.y 51 _,.x 52,.x 53,.x 54,.y 55 _,.y 56 _,.x 57,.x 58,.x 59,.x 60,.x 61,.y 62 _] [] [] [(2,_),(3,_),(62,_)] [(13,.var _),(3,.var _),(2,.var _)] 65 ⟨mU 4 rfl rfl,aU fun _ _ H K => R.nilcP (K 45 _ rfl) H,aU (fU 46 rfl rfl),aU (lU 47 rfl rfl rfl rfl rfl rfl rfl),aU fun _ _ H K => R.lenE (SC.sl (K 48 _ rfl)) (List.length_map _) H,aU fun _ _ H K => R.gtrN (r4.length) (0) (eU K 49 rfl) (kI 0 rfl) H,mU 50 rfl rfl,aF rfl rfl (gT (decide_eq_true d1) rfl),aF rfl rfl (gT (decide_eq_true d1) rfl),aF rfl rfl (gT (decide_eq_true d1) rfl),aU fun _ _ H K => R.pickT (eU K 51 rfl) (decide_eq_true d1) (kB true rfl) rfl H,mU 55 rfl rfl,aF rfl rfl (gT (rfl) rfl),aF rfl rfl (gT (rfl) rfl),aF rfl rfl (gT (rfl) rfl),aF rfl rfl (gT (rfl) rfl),aF rfl rfl (gT (rfl) rfl),aU fun _ _ H K => R.pickT (eU K 56 rfl) (rfl) (kB true rfl) rfl H,trivial⟩ rfl rfl rfl rfl (tU rfl ?_)
         refine W.condT rfl (rfl) ?_
         refine W.lineX (n := 2) (by decide) (its := [.y 63 _]) (ks := []) (kk := []) (live := [2,3,63]) (env' := [(2,_),(3,_),(63,_)]) (⟨nU rfl,rfl,⟨aU fun _ _ H _ => R.mkifc (kI 5 rfl) rfl rfl H,trivial⟩,rfl,rfl,rfl⟩) rfl (bx' := [(13,.var _),(3,.var _),(2,.var _)]) rfl (n' := 65) rfl (⟨rfl,.inr (R.panic (gU 63 rfl) (fun e he => ?_))⟩)
         obtain ⟨ch,rfl,hch⟩ := he
         intro a w hs
         show bodyPostD _ _ _ _ _ _
         rw [gt_none hc8 (by rw [go_6 hE (pre_s (sn_t hs1 hs2) hE2) hE3 ((wq_t (sn_t hs1 hs2)).trans hE4) hE5]; first | exact fin_1 d1 | exact fin_2 d2 | exact fin_3 hc62)]
         exact endDP (z2 := #[.int .u32 0,.slice none 0 0,.slice none 0 0,.int .u32 0]) (z3 := #[.int .i64 5]) (r2 := .agg [.u32 0,.nils,.nils,.u32 0]) hC1 hdf hkp (by decide) (hb23 (by decide)) rfl inferInstance (fun w ch hch cs2 cs3 e2 e3 q2 s2 q3 s3 => get1P b2 b3 w hch (hb23 (by decide)) q2 s2 q3 s3) ⟨ch,rfl,hch⟩ rfl rfl rfl rfl rfl rfl rfl rfl rfl rfl rfl rfl rfl rfl wk_zero rfl hs
       · by_cases d2 : mayS (⟨x.toUInt32,l,outs,k.toUInt32⟩ : TxS) = false
         · have hwf : ((⟨x.toUInt32,l,outs,k.toUInt32⟩ : TxS)).wf := get_wf (by omega) (pre_s (sn_t hs1 hs2) hE2) hE3 ((wq_t (sn_t hs1 hs2)).trans hE4)
           refine W.l0 18 [.y 45 _,.y 46 _,.y 47 _,.y 48 _,.y 49 _,.y 50 _,.y 51 _,.y 52 _,.y 53 _,.y 54 _,.y 55 _,.y 56 _,.x 57,.x 58,.x 59,.x 60,.x 61,.y 62 _] [] [] [(2,_),(3,_),(62,_)] [(13,.var _),(3,.var _),(2,.var _)] 65 ⟨mU 4 rfl rfl,aU fun _ _ H K => R.nilcP (K 45 _ rfl) H,aU (fU 46 rfl rfl),aU (lU 47 rfl rfl rfl rfl rfl rfl rfl),aU fun _ _ H K => R.lenE (SC.sl (K 48 _ rfl)) (List.length_map _) H,aU fun _ _ H K => R.gtrN (r4.length) (0) (eU K 49 rfl) (kI 0 rfl) H,mU 50 rfl rfl,aW rfl rfl (gF (decide_eq_false d1) rfl) (lU 2 rfl rfl rfl rfl rfl rfl rfl),aW rfl rfl (gF (decide_eq_false d1) rfl) fun _ _ H K => R.callG hC (may_ok (⟨x.toUInt32,l,outs,k.toUInt32⟩ : TxS) hwf) (Bors.cons (Bor.pur (eU K 52 rfl) rfl rfl) Bors.nil) (FrsR.one (.bool _)) H,aW rfl rfl (gF (decide_eq_false d1) rfl) fun _ _ H K => R.un (eU K 53 rfl) rfl H,aU fun _ _ H K => R.pickF (eU K 51 rfl) (decide_eq_false d1) (eU K 54 rfl) rfl H,mU 55 rfl rfl,aF rfl rfl (gT (by rw [d2]; rfl) rfl),aF rfl rfl (gT (by rw [d2]; rfl) rfl),aF rfl rfl (gT (by rw [d2]; rfl) rfl),aF rfl rfl (gT (by rw [d2]; rfl) rfl),aF rfl rfl (gT (by rw [d2]; rfl) rfl),aU fun _ _ H K => R.pickT (eU K 56 rfl) (by rw [d2]; rfl) (kB true rfl) rfl H,trivial⟩ rfl rfl rfl rfl (tU rfl ?_)
           refine W.condT rfl (rfl) ?_
           refine W.lineX (n := 2) (by decide) (its := [.y 63 _]) (ks := []) (kk := []) (live := [2,3,63]) (env' := [(2,_),(3,_),(63,_)]) (⟨nU rfl,rfl,⟨aU fun _ _ H _ => R.mkifc (kI 5 rfl) rfl rfl H,trivial⟩,rfl,rfl,rfl⟩) rfl (bx' := [(13,.var _),(3,.var _),(2,.var _)]) rfl (n' := 65) rfl (⟨rfl,.inr (R.panic (gU 63 rfl) (fun e he => ?_))⟩)
           obtain ⟨ch,rfl,hch⟩ := he
           intro a w hs
           show bodyPostD _ _ _ _ _ _
           rw [gt_none hc8 (by rw [go_6 hE (pre_s (sn_t hs1 hs2) hE2) hE3 ((wq_t (sn_t hs1 hs2)).trans hE4) hE5]; first | exact fin_1 d1 | exact fin_2 d2 | exact fin_3 hc62)]
           exact endDP (z2 := #[.int .u32 0,.slice none 0 0,.slice none 0 0,.int .u32 0]) (z3 := #[.int .i64 5]) (r2 := .agg [.u32 0,.nils,.nils,.u32 0]) hC1 hdf hkp (by decide) (hb23 (by decide)) rfl inferInstance (fun w ch hch cs2 cs3 e2 e3 q2 s2 q3 s3 => get1P b2 b3 w hch (hb23 (by decide)) q2 s2 q3 s3) ⟨ch,rfl,hch⟩ rfl rfl rfl rfl rfl rfl rfl rfl rfl rfl rfl rfl rfl rfl wk_zero rfl hs
         · have hwf : ((⟨x.toUInt32,l,outs,k.toUInt32⟩ : TxS)).wf := get_wf (by omega) (pre_s (sn_t hs1 hs2) hE2) hE3 ((wq_t (sn_t hs1 hs2)).trans hE4)
           refine W.l0 18 [.y 45 _,.y 46 _,.y 47 _,.y 48 _,.y 49 _,.y 50 _,.y 51 _,.y 52 _,.y 53 _,.y 54 _,.y 55 _,.y 56 _,.y 57 _,.y 58 _,.y 59 _,.y 60 _,.y 61 _,.y 62 _] [] [] [(2,_),(3,_),(62,_)] [(13,.var _),(3,.var _),(2,.var _)] 65 ⟨mU 4 rfl rfl,aU fun _ _ H K => R.nilcP (K 45 _ rfl) H,aU (fU 46 rfl rfl),aU (lU 47 rfl rfl rfl rfl rfl rfl rfl),aU fun _ _ H K => R.lenE (SC.sl (K 48 _ rfl)) (List.length_map _) H,aU fun _ _ H K => R.gtrN (r4.length) (0) (eU K 49 rfl) (kI 0 rfl) H,mU 50 rfl rfl,aW rfl rfl (gF (decide_eq_false d1) rfl) (lU 2 rfl rfl rfl rfl rfl rfl rfl),aW rfl rfl (gF (decide_eq_false d1) rfl) fun _ _ H K => R.callG hC (may_ok (⟨x.toUInt32,l,outs,k.toUInt32⟩ : TxS) hwf) (Bors.cons (Bor.pur (eU K 52 rfl) rfl rfl) Bors.nil) (FrsR.one (.bool _)) H,aW rfl rfl (gF (decide_eq_false d1) rfl) fun _ _ H K => R.un (eU K 53 rfl) rfl H,aU fun _ _ H K => R.pickF (eU K 51 rfl) (decide_eq_false d1) (eU K 54 rfl) rfl H,mU 55 rfl rfl,aW rfl rfl (gF (by simpa using d2) rfl) (lU 2 rfl rfl rfl rfl rfl rfl rfl),aW rfl rfl (gF (by simpa using d2) rfl) fun _ _ H K => R.callG hC (put_ok (⟨x.toUInt32,l,outs,k.toUInt32⟩ : TxS) hwf) (Bors.cons (Bor.pur (eU K 57 rfl) rfl rfl) Bors.nil) (FrsR.one (.sl _ _ _ (frs_map fun _ => .u8 _))) H,aW rfl rfl (gF (by simpa using d2) rfl) fun _ _ H K => R.mov (eU K 0 rfl) rfl H,aW rfl rfl (gF (by simpa using d2) rfl) fun _ _ H K => R.callG hC (beq_ok (putS (⟨x.toUInt32,l,outs,k.toUInt32⟩ : TxS)) b) (Bors.cons (Bor.sc (SC.sl (K 58 _ rfl)) (brw_map (fun _ => rfl))) (Bors.cons (Bor.pur (eU K 59 rfl) rfl rfl) Bors.nil)) (FrsR.one (.bool _)) H,aW rfl rfl (gF (by simpa using d2) rfl) fun _ _ H K => R.un (eU K 60 rfl) rfl H,aU fun _ _ H K => R.pickF (eU K 56 rfl) (by simpa using d2) (eU K 61 rfl) rfl H,trivial⟩ rfl rfl rfl rfl (tU rfl ?_)
           refine W.cond rfl (fun hc62 => ?_) (fun hc62 => ?_)
           · refine W.lineX (n := 2) (by decide) (its := [.y 63 _]) (ks := []) (kk := []) (live := [2,3,63]) (env' := [(2,_),(3,_),(63,_)]) (⟨nU rfl,rfl,⟨aU fun _ _ H _ => R.mkifc (kI 5 rfl) rfl rfl H,trivial⟩,rfl,rfl,rfl⟩) rfl (bx' := [(13,.var _),(3,.var _),(2,.var _)]) rfl (n' := 65) rfl (⟨rfl,.inr (R.panic (gU 63 rfl) (fun e he => ?_))⟩)
             obtain ⟨ch,rfl,hch⟩ := he
             intro a w hs
             show bodyPostD _ _ _ _ _ _
             rw [gt_none hc8 (by rw [go_6 hE (pre_s (sn_t hs1 hs2) hE2) hE3 ((wq_t (sn_t hs1 hs2)).trans hE4) hE5]; first | exact fin_1 d1 | exact fin_2 d2 | exact fin_3 hc62)]
             exact endDP (z2 := #[.int .u32 0,.slice none 0 0,.slice none 0 0,.int .u32 0]) (z3 := #[.int .i64 5]) (r2 := .agg [.u32 0,.nils,.nils,.u32 0]) hC1 hdf hkp (by decide) (hb23 (by decide)) rfl inferInstance (fun w ch hch cs2 cs3 e2 e3 q2 s2 q3 s3 => get1P b2 b3 w hch (hb23 (by decide)) q2 s2 q3 s3) ⟨ch,rfl,hch⟩ rfl rfl rfl rfl rfl rfl rfl rfl rfl rfl rfl rfl rfl rfl wk_zero rfl hs
           · refine W.skip ?_
             refine W.seq ?_
             refine W.l0 3 [.y 64 _] [] [] [(2,_),(3,_),(64,_)] [(13,.var _),(3,.var _),(2,.var _)] 65 ⟨aU (lU 2 rfl rfl rfl rfl rfl rfl rfl),trivial⟩ rfl rfl rfl rfl (⟨rfl,_,R.stZ (gU 2 rfl) (xU 2 rfl) rfl (gV 64 rfl) (by rfl) (by rfl) (by rfl) (by rfl) rfl,⟨rfl,_,R.stZ (gU 3 rfl) (xU 3 rfl) rfl (kI 0 rfl) (by rfl) (by rfl) (by rfl) (by rfl) rfl,tV [(2,_),(3,_)] [(13,.var _),(3,.var _),(2,.var _)] 65 rfl rfl rfl ?_⟩⟩)
             refine W.ret ?_
             intro a w hs
             show bodyPostD _ _ _ _ _ _
             rw [gt_some hc8 (by rw [go_6 hE (pre_s (sn_t hs1 hs2) hE2) hE3 ((wq_t (sn_t hs1 hs2)).trans hE4) hE5]; exact fin_s d1 (by simpa using d2) hc62)]
             exact endD hC1 hdf hkp (by decide) rfl inferInstance (get1R b2 b3) (.inr rfl) rfl rfl rfl rfl rfl rfl rfl rfl rfl rfl rfl rfl hs
     · refine W.l0 16 [.y 18 _,.y 19 _,.y 20 _,.y 21 _,.y 22 _,.y 23 _,.y 24 _,.y 25 _,.y 26 _,.y 27 _,.y 28 _,.y 29 _,.y 30 _,.y 31 _,.y 32 _,.y 5 _] [] [] [(0,_),(2,_),(3,_),(4,_),(5,_)] [(13,.var _),(3,.var _),(2,.var _)] 65 ⟨mU 4 rfl rfl,aU fun _ _ H K => R.nilcP (K 18 _ rfl) H,aU (fU 19 rfl rfl),aU (lU 20 rfl rfl rfl rfl rfl rfl rfl),aU fun _ _ H K => R.lenE (SC.sl (K 21 _ rfl)) (List.length_map _) H,aU fun _ _ H K => R.gtrN (r.length) (0) (eU K 22 rfl) (kI 0 rfl) H,mU 23 rfl rfl,aW rfl rfl (gT (decide_eq_true hs1) rfl) fun _ _ H K => R.mov (eU K 4 rfl) rfl H,aW rfl rfl (gT (decide_eq_true hs1) rfl) fun _ _ H K => R.nilcP (K 25 _ rfl) H,aW rfl rfl (gT (decide_eq_true hs1) rfl) (fU 26 rfl rfl),aW rfl rfl (gT (decide_eq_true hs1) rfl) (lU 27 rfl rfl rfl rfl rfl rfl rfl),aW rfl rfl (gT (decide_eq_true hs1) rfl) fun _ _ H K => R.idxN (0) (SC.sl (K 28 _ rfl)) (evoI (kI 0 rfl)) rfl bU H (by decide),aW rfl rfl (gT (decide_eq_true hs1) rfl) fun _ _ H K => R.ldE (K 29 _ rfl) (SC.sl (K 28 _ rfl)) (map_get! (l := r) bU) rfl rfl rfl rfl H,aW rfl rfl (gT (decide_eq_true hs1) rfl) fun _ _ H K => R.bin (eU K 30 rfl) (show ev _ _ (.const (.int .u8 0)) = some (.u8 0) from rfl) rfl trivial H,aU fun _ _ H K => R.pickT (eU K 24 rfl) (decide_eq_true hs1) (eU K 31 rfl) rfl H,aU fun _ _ H K => R.asg (eU K 32 rfl) rfl H,trivial⟩ rfl rfl rfl rfl (tU rfl ?_)
       refine W.seq ?_
       refine W.seq ?_
       refine W.l0 1 [.y 33 _] [] [] [(0,_),(2,_),(3,_),(4,_),(5,_),(33,_)] [(13,.var _),(3,.var _),(2,.var _)] 65 ⟨mU 5 rfl rfl,trivial⟩ rfl rfl rfl rfl (tU rfl ?_)
       refine W.condF rfl (by simpa using hs2) ?_
       refine W.skip ?_
       refine W.seq ?_
       rcases hE3 : bodyO r with _ | ⟨⟨ins,outs⟩,r2⟩
       · refine W.asOwnP 2 [1] 56 36 (bx' := [(13,.var _),(3,.var _),(2,.var _)]) rfl rfl rfl rfl rfl ?_
         refine W.asOwnP 2 [2] 46 2 (bx' := [(13,.var _),(3,.var _),(2,.var _)]) rfl rfl rfl rfl rfl ?_
         refine W.lineX (n := 2) (by decide) (its := [.y 36 _]) (ks := []) (kk := []) (live := [0,2,3,4,5,36]) (env' := [(0,_),(2,_),(3,_),(4,_),(5,_),(36,_)]) (⟨nU rfl,rfl,⟨mU 4 rfl rfl,trivial⟩,rfl,rfl,rfl⟩) rfl (bx' := [(13,.var _),(3,.var _),(2,.var _)]) rfl (n' := 65) rfl (⟨rfl,.inr (R.callXk [(0,13),(1,2)] hC (FnO.none' (rbody_ok r (by omega) x.toUInt32 0) (by rw [hE3]; rfl)) (EvB.cons (gV 36 rfl) rfl rfl rfl (EvB.cons (gV 2 rfl) rfl rfl rfl EvB.nil)) rfl ⟨rfl,⟨rfl,trivial⟩⟩ ⟨rfl,⟨rfl,trivial⟩⟩ rfl (fun e he => ?_))⟩)
         obtain ⟨ch,rfl,hch⟩ := he
         intro a w hs
         show bodyPostD _ _ _ _ _ _
         rw [gt_none hc8 (go_3 hE (pre_0 (sn_f2 hs2)) hE3)]
         exact endDP (z2 := #[.int .u32 0,.slice none 0 0,.slice none 0 0,.int .u32 0]) (z3 := #[.int .i64 5]) (r2 := .agg [.u32 0,.nils,.nils,.u32 0]) hC1 hdf hkp (by decide) (hb23 (by decide)) rfl inferInstance (fun w ch hch cs2 cs3 e2 e3 q2 s2 q3 s3 => get1P b2 b3 w hch (hb23 (by decide)) q2 s2 q3 s3) ⟨ch,rfl,hch⟩ rfl rfl rfl rfl rfl rfl rfl rfl rfl rfl rfl rfl rfl rfl wk_zero rfl hs
       have hbs := bodyO_sz hE3 (by omega)
       have hil := szI_len ins
       refine W.asOwnP 2 [1] 56 36 (bx' := [(13,.var _),(3,.var _),(2,.var _)]) rfl rfl rfl rfl rfl ?_
       refine W.asOwnP 2 [2] 46 2 (bx' := [(13,.var _),(3,.var _),(2,.var _)]) rfl rfl rfl rfl rfl ?_
       refine W.l0 2 [.y 36 _] [] [] [(0,_),(2,_),(3,_),(4,_),(5,_),(36,_)] [(13,.var _),(3,.var _),(2,.var _)] 65 ⟨mU 4 rfl rfl,trivial⟩ rfl rfl rfl rfl (⟨rfl,_,R.callB [(0,13),(1,2)] hC (FnO.some' (r := .tup []) (bx' := [(0,.var (.agg [.sl none 1 (r2.map D.u8)])),(1,.var (.agg [.u32 x.toUInt32,.sl (some 56) 36 (ins.map inN),.sl (some 46) 2 (outs.map outD),.u32 0]))]) (nw := []) (rbody_ok r (by omega) x.toUInt32 0) (by rw [hE3]; rfl)) (EvB.cons (gV 36 rfl) rfl rfl rfl (EvB.cons (gV 2 rfl) rfl rfl rfl EvB.nil)) rfl ⟨rfl,⟨rfl,trivial⟩⟩ ⟨rfl,⟨rfl,trivial⟩⟩ rfl rfl rfl rfl rfl rfl (nU rfl),tV [(0,_),(2,_),(3,_),(4,_),(5,_)] [(13,.var _),(3,.var _),(2,.var _)] 65 rfl rfl rfl ?_⟩)
       refine W.seq ?_
       refine W.seq ?_
       refine W.l0 1 [.y 38 _] [] [] [(0,_),(2,_),(3,_),(4,_),(38,_)] [(13,.var _),(3,.var _),(2,.var _)] 65 ⟨mU 5 rfl rfl,trivial⟩ rfl rfl rfl rfl (tU rfl ?_)
       refine W.condF rfl (by simpa using hs2) ?_
       refine W.skip ?_
       refine W.seq ?_
       rcases hE5 : numO r2 4 with _ | ⟨k,r4⟩
       · refine W.brwB 2 (d' := .agg [.u32 x.toUInt32,.sl none 36 (ins.map inN),.sl none 2 (outs.map outD),.u32 0]) (bx' := [(13,.var _),(3,.var _),(2,.var _)]) rfl (show (.agg [.u32 x.toUInt32,.sl (some 56) 36 (ins.map inN),.sl (some 46) 2 (outs.map outD),.u32 0] : D).brw = _ from by simp only [D.brw,brws_eq,List.map_cons,List.map_nil]; rw [brw_map brw_inN,brw_map brw_outD]) rfl ?_
         refine W.wkB 2 (d' := .agg [.u32 x.toUInt32,.sl none 36 (ins.map inD),.sl none 2 (outs.map outD),.u32 0]) (bx' := [(13,.var _),(3,.var _),(2,.var _)]) rfl (wk_txN fun z hz => (hbs.1 z hz).2) rfl ?_
         refine W.lineX (n := 5) (by decide) (its := [.y 41 _]) (ks := []) (kk := []) (live := [0,2,3,4,41]) (env' := [(0,_),(2,_),(3,_),(4,_),(41,_)]) (⟨nU rfl,rfl,⟨mU 4 rfl rfl,trivial⟩,rfl,rfl,rfl⟩) rfl (bx' := [(13,.var _),(3,.var _),(2,.var _)]) rfl (n' := 65) rfl (⟨rfl,.inr (R.callXk [(0,13)] hC (FnO.none' (rnumber_ok r2 (by omega) 4 (by decide)) (by rw [hE5]; rfl)) (EvB.cons (gV 41 rfl) rfl rfl rfl (EvB.cons (kI 4 rfl) rfl rfl rfl EvB.nil)) rfl ⟨rfl,trivial⟩ ⟨rfl,trivial⟩ rfl (fun e he => ?_))⟩)
         obtain ⟨ch,rfl,hch⟩ := he
         intro a w hs
         show bodyPostD _ _ _ _ _ _
         rw [gt_none hc8 (go_5 hE (pre_0 (sn_f2 hs2)) hE3 (wq_f (sn_f2 hs2)) hE5)]
         exact endDP (z2 := #[.int .u32 0,.slice none 0 0,.slice none 0 0,.int .u32 0]) (z3 := #[.int .i64 5]) (r2 := .agg [.u32 0,.nils,.nils,.u32 0]) hC1 hdf hkp (by decide) (hb23 (by decide)) rfl inferInstance (fun w ch hch cs2 cs3 e2 e3 q2 s2 q3 s3 => get1P b2 b3 w hch (hb23 (by decide)) q2 s2 q3 s3) ⟨ch,rfl,hch⟩ rfl rfl rfl rfl rfl rfl rfl rfl rfl rfl rfl rfl rfl rfl wk_zero rfl hs
       refine W.brwB 2 (d' := .agg [.u32 x.toUInt32,.sl none 36 (ins.map inN),.sl none 2 (outs.map outD),.u32 0]) (bx' := [(13,.var _),(3,.var _),(2,.var _)]) rfl (show (.agg [.u32 x.toUInt32,.sl (some 56) 36 (ins.map inN),.sl (some 46) 2 (outs.map outD),.u32 0] : D).brw = _ from by simp only [D.brw,brws_eq,List.map_cons,List.map_nil]; rw [brw_map brw_inN,brw_map brw_outD]) rfl ?_
       refine W.wkB 2 (d' := .agg [.u32 x.toUInt32,.sl none 36 (ins.map inD),.sl none 2 (outs.map outD),.u32 0]) (bx' := [(13,.var _),(3,.var _),(2,.var _)]) rfl (wk_txN fun z hz => (hbs.1 z hz).2) rfl ?_
       refine W.l0 5 [.y 41 _] [] [] [(0,_),(2,_),(3,_),(4,_),(41,_)] [(13,.var _),(3,.var _),(2,.var _)] 65 ⟨mU 4 rfl rfl,trivial⟩ rfl rfl rfl rfl (⟨rfl,_,R.callB [(0,13)] hC (FnO.some' (r := .u64 k) (bx' := [(0,.var (.agg [.sl none 1 (r4.map D.u8)]))]) (nw := []) (rnumber_ok r2 (by omega) 4 (by decide)) (by rw [hE5]; rfl)) (EvB.cons (gV 41 rfl) rfl rfl rfl (EvB.cons (kI 4 rfl) rfl rfl rfl EvB.nil)) rfl ⟨rfl,trivial⟩ ⟨rfl,trivial⟩ rfl rfl rfl rfl rfl rfl (nU rfl),⟨rfl,_,R.conv (gV 42 rfl) rfl (nU rfl),⟨rfl,_,R.fdP (gU 2 rfl) (nU rfl),⟨rfl,_,R.stZ (gU 44 rfl) (xU 2 rfl) rfl (gV 43 rfl) (by rfl) (by rfl) (by rfl) (by rfl) rfl,tV [(0,_),(2,_),(3,_),(4,_)] [(13,.var _),(3,.var _),(2,.var _)] 65 rfl rfl rfl ?_⟩⟩⟩⟩)
       refine W.seq ?_
       refine W.seq ?_
       by_cases d1 : 0 < r4.length
       · have hwf : ((⟨x.toUInt32,ins,outs,k.toUInt32⟩ : TxS)).wf := get_wf (by omega) (pre_0 (sn_f2 hs2)) hE3 (wq_f (sn_f2 hs2))
         refine W.l0 18 [.y 45 _,.y 46 _,.y 47 _,.y 48 _,.y 49 _,.y 50 _,.y 51 _,.x 52,.x 53,.x 54,.y 55 _,.y 56 _,.x 57,.x 58,.x 59,.x 60,.x 61,.y 62 _] [] [] [(2,_),(3,_),(62,_)] [(13,.var _),(3,.var _),(2,.var _)] 65 ⟨mU 4 rfl rfl,aU fun _ _ H K => R.nilcP (K 45 _ rfl) H,aU (fU 46 rfl rfl),aU (lU 47 rfl rfl rfl rfl rfl rfl rfl),aU fun _ _ H K => R.lenE (SC.sl (K 48 _ rfl)) (List.length_map _) H,aU fun _ _ H K => R.gtrN (r4.length) (0) (eU K 49 rfl) (kI 0 rfl) H,mU 50 rfl rfl,aF rfl rfl (gT (decide_eq_true d1) rfl),aF rfl rfl (gT (decide_eq_true d1) rfl),aF rfl rfl (gT (decide_eq_true d1) rfl),aU fun _ _ H K => R.pickT (eU K 51 rfl) (decide_eq_true d1) (kB true rfl) rfl H,mU 55 rfl rfl,aF rfl rfl (gT (rfl) rfl),aF rfl rfl (gT (rfl) rfl),aF rfl rfl (gT (rfl) rfl),aF rfl rfl (gT (rfl) rfl),aF rfl rfl (gT (rfl) rfl),aU fun _ _ H K => R.pickT (eU K 56 rfl) (rfl) (kB true rfl) rfl H,trivial⟩ rfl rfl rfl rfl (tU rfl ?_)
         refine W.condT rfl (rfl) ?_
         refine W.lineX (n := 2) (by decide) (its := [.y 63 _]) (ks := []) (kk := []) (live := [2,3,63]) (env' := [(2,_),(3,_),(63,_)]) (⟨nU rfl,rfl,⟨aU fun _ _ H _ => R.mkifc (kI 5 rfl) rfl rfl H,trivial⟩,rfl,rfl,rfl⟩) rfl (bx' := [(13,.var _),(3,.var _),(2,.var _)]) rfl (n' := 65) rfl (⟨rfl,.inr (R.panic (gU 63 rfl) (fun e he => ?_))⟩)
         obtain ⟨ch,rfl,hch⟩ := he
         intro a w hs
         show bodyPostD _ _ _ _ _ _
         rw [gt_none hc8 (by rw [go_6 hE (pre_0 (sn_f2 hs2)) hE3 (wq_f (sn_f2 hs2)) hE5]; first | exact fin_1 d1 | exact fin_2 d2 | exact fin_3 hc62)]
         exact endDP (z2 := #[.int .u32 0,.slice none 0 0,.slice none 0 0,.int .u32 0]) (z3 := #[.int .i64 5]) (r2 := .agg [.u32 0,.nils,.nils,.u32 0]) hC1 hdf hkp (by decide) (hb23 (by decide)) rfl inferInstance (fun w ch hch cs2 cs3 e2 e3 q2 s2 q3 s3 => get1P b2 b3 w hch (hb23 (by decide)) q2 s2 q3 s3) ⟨ch,rfl,hch⟩ rfl rfl rfl rfl rfl rfl rfl rfl rfl rfl rfl rfl rfl rfl wk_zero rfl hs
       · by_cases d2 : mayS (⟨x.toUInt32,ins,outs,k.toUInt32⟩ : TxS) = false
         · have hwf : ((⟨x.toUInt32,ins,outs,k.toUInt32⟩ : TxS)).wf := get_wf (by omega) (pre_0 (sn_f2 hs2)) hE3 (wq_f (sn_f2 hs2))
           refine W.l0 18 [.y 45 _,.y 46 _,.y 47 _,.y 48 _,.y 49 _,.y 50 _,.y 51 _,.y 52 _,.y 53 _,.y 54 _,.y 55 _,.y 56 _,.x 57,.x 58,.x 59,.x 60,.x 61,.y 62 _] [] [] [(2,_),(3,_),(62,_)] [(13,.var _),(3,.var _),(2,.var _)] 65 ⟨mU 4 rfl rfl,aU fun _ _ H K => R.nilcP (K 45 _ rfl) H,aU (fU 46 rfl rfl),aU (lU 47 rfl rfl rfl rfl rfl rfl rfl),aU fun _ _ H K => R.lenE (SC.sl (K 48 _ rfl)) (List.length_map _) H,aU fun _ _ H K => R.gtrN (r4.length) (0) (eU K 49 rfl) (kI 0 rfl) H,mU 50 rfl rfl,aW rfl rfl (gF (decide_eq_false d1) rfl) (lU 2 rfl rfl rfl rfl rfl rfl rfl),aW rfl rfl (gF (decide_eq_false d1) rfl) fun _ _ H K => R.callG hC (may_ok (⟨x.toUInt32,ins,outs,k.toUInt32⟩ : TxS) hwf) (Bors.cons (Bor.pur (eU K 52 rfl) rfl rfl) Bors.nil) (FrsR.one (.bool _)) H,aW rfl rfl (gF (decide_eq_false d1) rfl) fun _ _ H K => R.un (eU K 53 rfl) rfl H,aU fun _ _ H K => R.pickF (eU K 51 rfl) (decide_eq_false d1) (eU K 54 rfl) rfl H,mU 55 rfl rfl,aF rfl rfl (gT (by rw [d2]; rfl) rfl),aF rfl rfl (gT (by rw [d2]; rfl) rfl),aF rfl rfl (gT (by rw [d2]; rfl) rfl),aF rfl rfl (gT (by rw [d2]; rfl) rfl),aF rfl rfl (gT (by rw [d2]; rfl) rfl),aU fun _ _ H K => R.pickT (eU K 56 rfl) (by rw [d2]; rfl) (kB true rfl) rfl H,trivial⟩ rfl rfl rfl rfl (tU rfl ?_)
           refine W.condT rfl (rfl) ?_
           refine W.lineX (n := 2) (by decide) (its := [.y 63 _]) (ks := []) (kk := []) (live := [2,3,63]) (env' := [(2,_),(3,_),(63,_)]) (⟨nU rfl,rfl,⟨aU fun _ _ H _ => R.mkifc (kI 5 rfl) rfl rfl H,trivial⟩,rfl,rfl,rfl⟩) rfl (bx' := [(13,.var _),(3,.var _),(2,.var _)]) rfl (n' := 65) rfl (⟨rfl,.inr (R.panic (gU 63 rfl) (fun e he => ?_))⟩)
           obtain ⟨ch,rfl,hch⟩ := he
           intro a w hs
           show bodyPostD _ _ _ _ _ _
           rw [gt_none hc8 (by rw [go_6 hE (pre_0 (sn_f2 hs2)) hE3 (wq_f (sn_f2 hs2)) hE5]; first | exact fin_1 d1 | exact fin_2 d2 | exact fin_3 hc62)]
           exact endDP (z2 := #[.int .u32 0,.slice none 0 0,.slice none 0 0,.int .u32 0]) (z3 := #[.int .i64 5]) (r2 := .agg [.u32 0,.nils,.nils,.u32 0]) hC1 hdf hkp (by decide) (hb23 (by decide)) rfl inferInstance (fun w ch hch cs2 cs3 e2 e3 q2 s2 q3 s3 => get1P b2 b3 w hch (hb23 (by decide)) q2 s2 q3 s3) ⟨ch,rfl,hch⟩ rfl rfl rfl rfl rfl rfl rfl rfl rfl rfl rfl rfl rfl rfl wk_zero rfl hs
         · have hwf : ((⟨x.toUInt32,ins,outs,k.toUInt32⟩ : TxS)).wf := get_wf (by omega) (pre_0 (sn_f2 hs2)) hE3 (wq_f (sn_f2 hs2))
           refine W.l0 18 [.y 45 _,.y 46 _,.y 47 _,.y 48 _,.y 49 _,.y 50 _,.y 51 _,.y 52 _,.y 53 _,.y 54 _,.y 55 _,.y 56 _,.y 57 _,.y 58 _,.y 59 _,.y 60 _,.y 61 _,.y 62 _] [] [] [(2,_),(3,_),(62,_)] [(13,.var _),(3,.var _),(2,.var _)] 65 ⟨mU 4 rfl rfl,aU fun _ _ H K => R.nilcP (K 45 _ rfl) H,aU (fU 46 rfl rfl),aU (lU 47 rfl rfl rfl rfl rfl rfl rfl),aU fun _ _ H K => R.lenE (SC.sl (K 48 _ rfl)) (List.length_map _) H,aU fun _ _ H K => R.gtrN (r4.length) (0) (eU K 49 rfl) (kI 0 rfl) H,mU 50 rfl rfl,aW rfl rfl (gF (decide_eq_false d1) rfl) (lU 2 rfl rfl rfl rfl rfl rfl rfl),aW rfl rfl (gF (decide_eq_false d1) rfl) fun _ _ H K => R.callG hC (may_ok (⟨x.toUInt32,ins,outs,k.toUInt32⟩ : TxS) hwf) (Bors.cons (Bor.pur (eU K 52 rfl) rfl rfl) Bors.nil) (FrsR.one (.bool _)) H,aW rfl rfl (gF (decide_eq_false d1) rfl) fun _ _ H K => R.un (eU K 53 rfl) rfl H,aU fun _ _ H K => R.pickF (eU K 51 rfl) (decide_eq_false d1) (eU K 54 rfl) rfl H,mU 55 rfl rfl,aW rfl rfl (gF (by simpa using d2) rfl) (lU 2 rfl rfl rfl rfl rfl rfl rfl),aW rfl rfl (gF (by simpa using d2) rfl) fun _ _ H K => R.callG hC (put_ok (⟨x.toUInt32,ins,outs,k.toUInt32⟩ : TxS) hwf) (Bors.cons (Bor.pur (eU K 57 rfl) rfl rfl) Bors.nil) (FrsR.one (.sl _ _ _ (frs_map fun _ => .u8 _))) H,aW rfl rfl (gF (by simpa using d2) rfl) fun _ _ H K => R.mov (eU K 0 rfl) rfl H,aW rfl rfl (gF (by simpa using d2) rfl) fun _ _ H K => R.callG hC (beq_ok (putS (⟨x.toUInt32,ins,outs,k.toUInt32⟩ : TxS)) b) (Bors.cons (Bor.sc (SC.sl (K 58 _ rfl)) (brw_map (fun _ => rfl))) (Bors.cons (Bor.pur (eU K 59 rfl) rfl rfl) Bors.nil)) (FrsR.one (.bool _)) H,aW rfl rfl (gF (by simpa using d2) rfl) fun _ _ H K => R.un (eU K 60 rfl) rfl H,aU fun _ _ H K => R.pickF (eU K 56 rfl) (by simpa using d2) (eU K 61 rfl) rfl H,trivial⟩ rfl rfl rfl rfl (tU rfl ?_)
           refine W.cond rfl (fun hc62 => ?_) (fun hc62 => ?_)
           · refine W.lineX (n := 2) (by decide) (its := [.y 63 _]) (ks := []) (kk := []) (live := [2,3,63]) (env' := [(2,_),(3,_),(63,_)]) (⟨nU rfl,rfl,⟨aU fun _ _ H _ => R.mkifc (kI 5 rfl) rfl rfl H,trivial⟩,rfl,rfl,rfl⟩) rfl (bx' := [(13,.var _),(3,.var _),(2,.var _)]) rfl (n' := 65) rfl (⟨rfl,.inr (R.panic (gU 63 rfl) (fun e he => ?_))⟩)
             obtain ⟨ch,rfl,hch⟩ := he
             intro a w hs
             show bodyPostD _ _ _ _ _ _
             rw [gt_none hc8 (by rw [go_6 hE (pre_0 (sn_f2 hs2)) hE3 (wq_f (sn_f2 hs2)) hE5]; first | exact fin_1 d1 | exact fin_2 d2 | exact fin_3 hc62)]
             exact endDP (z2 := #[.int .u32 0,.slice none 0 0,.slice none 0 0,.int .u32 0]) (z3 := #[.int .i64 5]) (r2 := .agg [.u32 0,.nils,.nils,.u32 0]) hC1 hdf hkp (by decide) (hb23 (by decide)) rfl inferInstance (fun w ch hch cs2 cs3 e2 e3 q2 s2 q3 s3 => get1P b2 b3 w hch (hb23 (by decide)) q2 s2 q3 s3) ⟨ch,rfl,hch⟩ rfl rfl rfl rfl rfl rfl rfl rfl rfl rfl rfl rfl rfl rfl wk_zero rfl hs
           · refine W.skip ?_
             refine W.seq ?_
             refine W.l0 3 [.y 64 _] [] [] [(2,_),(3,_),(64,_)] [(13,.var _),(3,.var _),(2,.var _)] 65 ⟨aU (lU 2 rfl rfl rfl rfl rfl rfl rfl),trivial⟩ rfl rfl rfl rfl (⟨rfl,_,R.stZ (gU 2 rfl) (xU 2 rfl) rfl (gV 64 rfl) (by rfl) (by rfl) (by rfl) (by rfl) rfl,⟨rfl,_,R.stZ (gU 3 rfl) (xU 3 rfl) rfl (kI 0 rfl) (by rfl) (by rfl) (by rfl) (by rfl) rfl,tV [(2,_),(3,_)] [(13,.var _),(3,.var _),(2,.var _)] 65 rfl rfl rfl ?_⟩⟩)
             refine W.ret ?_
             intro a w hs
             show bodyPostD _ _ _ _ _ _
             rw [gt_some hc8 (by rw [go_6 hE (pre_0 (sn_f2 hs2)) hE3 (wq_f (sn_f2 hs2)) hE5]; exact fin_s d1 (by simpa using d2) hc62)]
             exact endD hC1 hdf hkp (by decide) rfl inferInstance (get1R b2 b3) (.inr rfl) rfl rfl rfl rfl rfl rfl rfl rfl rfl rfl rfl rfl hs
   · refine W.l0 16 [.y 18 _,.y 19 _,.y 20 _,.y 21 _,.y 22 _,.y 23 _,.y 24 _,.x 25,.x 26,.x 27,.x 28,.x 29,.x 30,.x 31,.y 32 _,.y 5 _] [] [] [(0,_),(2,_),(3,_),(4,_),(5,_)] [(13,.var _),(3,.var _),(2,.var _)] 65 ⟨mU 4 rfl rfl,aU fun _ _ H K => R.nilcP (K 18 _ rfl) H,aU (fU 19 rfl rfl),aU (lU 20 rfl rfl rfl rfl rfl rfl rfl),aU fun _ _ H K => R.lenE (SC.sl (K 21 _ rfl)) (List.length_map _) H,aU fun _ _ H K => R.gtrN (r.length) (0) (eU K 22 rfl) (kI 0 rfl) H,mU 23 rfl rfl,aF rfl rfl (gF (decide_eq_false hs1) rfl),aF rfl rfl (gF (decide_eq_false hs1) rfl),aF rfl rfl (gF (decide_eq_false hs1) rfl),aF rfl rfl (gF (decide_eq_false hs1) rfl),aF rfl rfl (gF (decide_eq_false hs1) rfl),aF rfl rfl (gF (decide_eq_false hs1) rfl),aF rfl rfl (gF (decide_eq_false hs1) rfl),aU fun _ _ H K => R.pickF (eU K 24 rfl) (decide_eq_false hs1) (kB false rfl) rfl H,aU fun _ _ H K => R.asg (eU K 32 rfl) rfl H,trivial⟩ rfl rfl rfl rfl (tU rfl ?_)
     refine W.seq ?_
     refine W.seq ?_
     refine W.l0 1 [.y 33 _] [] [] [(0,_),(2,_),(3,_),(4,_),(5,_),(33,_)] [(13,.var _),(3,.var _),(2,.var _)] 65 ⟨mU 5 rfl rfl,trivial⟩ rfl rfl rfl rfl (tU rfl ?_)
     refine W.condF rfl (rfl) ?_
     refine W.skip ?_
     refine W.seq ?_
     rcases hE3 : bodyO r with _ | ⟨⟨ins,outs⟩,r2⟩
     · refine W.asOwnP 2 [1] 56 36 (bx' := [(13,.var _),(3,.var _),(2,.var _)]) rfl rfl rfl rfl rfl ?_
       refine W.asOwnP 2 [2] 46 2 (bx' := [(13,.var _),(3,.var _),(2,.var _)]) rfl rfl rfl rfl rfl ?_
       refine W.lineX (n := 2) (by decide) (its := [.y 36 _]) (ks := []) (kk := []) (live := [0,2,3,4,5,36]) (env' := [(0,_),(2,_),(3,_),(4,_),(5,_),(36,_)]) (⟨nU rfl,rfl,⟨mU 4 rfl rfl,trivial⟩,rfl,rfl,rfl⟩) rfl (bx' := [(13,.var _),(3,.var _),(2,.var _)]) rfl (n' := 65) rfl (⟨rfl,.inr (R.callXk [(0,13),(1,2)] hC (FnO.none' (rbody_ok r (by omega) x.toUInt32 0) (by rw [hE3]; rfl)) (EvB.cons (gV 36 rfl) rfl rfl rfl (EvB.cons (gV 2 rfl) rfl rfl rfl EvB.nil)) rfl ⟨rfl,⟨rfl,trivial⟩⟩ ⟨rfl,⟨rfl,trivial⟩⟩ rfl (fun e he => ?_))⟩)
       obtain ⟨ch,rfl,hch⟩ := he
       intro a w hs
       show bodyPostD _ _ _ _ _ _
       rw [gt_none hc8 (go_3 hE (pre_0 (sn_f1 hs1)) hE3)]
       exact endDP (z2 := #[.int .u32 0,.slice none 0 0,.slice none 0 0,.int .u32 0]) (z3 := #[.int .i64 5]) (r2 := .agg [.u32 0,.nils,.nils,.u32 0]) hC1 hdf hkp (by decide) (hb23 (by decide)) rfl inferInstance (fun w ch hch cs2 cs3 e2 e3 q2 s2 q3 s3 => get1P b2 b3 w hch (hb23 (by decide)) q2 s2 q3 s3) ⟨ch,rfl,hch⟩ rfl rfl rfl rfl rfl rfl rfl rfl rfl rfl rfl rfl rfl rfl wk_zero rfl hs
     have hbs := bodyO_sz hE3 (by omega)
     have hil := szI_len ins
     refine W.asOwnP 2 [1] 56 36 (bx' := [(13,.var _),(3,.var _),(2,.var _)]) rfl rfl rfl rfl rfl ?_
     refine W.asOwnP 2 [2] 46 2 (bx' := [(13,.var _),(3,.var _),(2,.var _)]) rfl rfl rfl rfl rfl ?_
     refine W.l0 2 [.y 36 _] [] [] [(0,_),(2,_),(3,_),(4,_),(5,_),(36,_)] [(13,.var _),(3,.var _),(2,.var _)] 65 ⟨mU 4 rfl rfl,trivial⟩ rfl rfl rfl rfl (⟨rfl,_,R.callB [(0,13),(1,2)] hC (FnO.some' (r := .tup []) (bx' := [(0,.var (.agg [.sl none 1 (r2.map D.u8)])),(1,.var (.agg [.u32 x.toUInt32,.sl (some 56) 36 (ins.map inN),.sl (some 46) 2 (outs.map outD),.u32 0]))]) (nw := []) (rbody_ok r (by omega) x.toUInt32 0) (by rw [hE3]; rfl)) (EvB.cons (gV 36 rfl) rfl rfl rfl (EvB.cons (gV 2 rfl) rfl rfl rfl EvB.nil)) rfl ⟨rfl,⟨rfl,trivial⟩⟩ ⟨rfl,⟨rfl,trivial⟩⟩ rfl rfl rfl rfl rfl rfl (nU rfl),tV [(0,_),(2,_),(3,_),(4,_),(5,_)] [(13,.var _),(3,.var _),(2,.var _)] 65 rfl rfl rfl ?_⟩)
     refine W.seq ?_
     refine W.seq ?_
     refine W.l0 1 [.y 38 _] [] [] [(0,_),(2,_),(3,_),(4,_),(38,_)] [(13,.var _),(3,.var _),(2,.var _)] 65 ⟨mU 5 rfl rfl,trivial⟩ rfl rfl rfl rfl (tU rfl ?_)
     refine W.condF rfl (rfl) ?_
     refine W.skip ?_
     refine W.seq ?_
     rcases hE5 : numO r2 4 with _ | ⟨k,r4⟩
     · refine W.brwB 2 (d' := .agg [.u32 x.toUInt32,.sl none 36 (ins.map inN),.sl none 2 (outs.map outD),.u32 0]) (bx' := [(13,.var _),(3,.var _),(2,.var _)]) rfl (show (.agg [.u32 x.toUInt32,.sl (some 56) 36 (ins.map inN),.sl (some 46) 2 (outs.map outD),.u32 0] : D).brw = _ from by simp only [D.brw,brws_eq,List.map_cons,List.map_nil]; rw [brw_map brw_inN,brw_map brw_outD]) rfl ?_
       refine W.wkB 2 (d' := .agg [.u32 x.toUInt32,.sl none 36 (ins.map inD),.sl none 2 (outs.map outD),.u32 0]) (bx' := [(13,.var _),(3,.var _),(2,.var _)]) rfl (wk_txN fun z hz => (hbs.1 z hz).2) rfl ?_
       refine W.lineX (n := 5) (by decide) (its := [.y 41 _]) (ks := []) (kk := []) (live := [0,2,3,4,41]) (env' := [(0,_),(2,_),(3,_),(4,_),(41,_)]) (⟨nU rfl,rfl,⟨mU 4 rfl rfl,trivial⟩,rfl,rfl,rfl⟩) rfl (bx' := [(13,.var _),(3,.var _),(2,.var _)]) rfl (n' := 65) rfl (⟨rfl,.inr (R.callXk [(0,13)] hC (FnO.none' (rnumber_ok r2 (by omega) 4 (by decide)) (by rw [hE5]; rfl)) (EvB.cons (gV 41 rfl) rfl rfl rfl (EvB.cons (kI 4 rfl) rfl rfl rfl EvB.nil)) rfl ⟨rfl,trivial⟩ ⟨rfl,trivial⟩ rfl (fun e he => ?_))⟩)
       obtain ⟨ch,rfl,hch⟩ := he
       intro a w hs
       show bodyPostD _ _ _ _ _ _
       rw [gt_none hc8 (go_5 hE (pre_0 (sn_f1 hs1)) hE3 (wq_f (sn_f1 hs1)) hE5)]
       exact endDP (z2 := #[.int .u32 0,.slice none 0 0,.slice none 0 0,.int .u32 0]) (z3 := #[.int .i64 5]) (r2 := .agg [.u32 0,.nils,.nils,.u32 0]) hC1 hdf hkp (by decide) (hb23 (by decide)) rfl inferInstance (fun w ch hch cs2 cs3 e2 e3 q2 s2 q3 s3 => get1P b2 b3 w hch (hb23 (by decide)) q2 s2 q3 s3) ⟨ch,rfl,hch⟩ rfl rfl rfl rfl rfl rfl rfl rfl rfl rfl rfl rfl rfl rfl wk_zero rfl hs
     refine W.brwB 2 (d' := .agg [.u32 x.toUInt32,.sl none 36 (ins.map inN),.sl none 2 (outs.map outD),.u32 0]) (bx' := [(13,.var _),(3,.var _),(2,.var _)]) rfl (show (.agg [.u32 x.toUInt32,.sl (some 56) 36 (ins.map inN),.sl (some 46) 2 (outs.map outD),.u32 0] : D).brw = _ from by simp only [D.brw,brws_eq,List.map_cons,List.map_nil]; rw [brw_map brw_inN,brw_map brw_outD]) rfl ?_
     refine W.wkB 2 (d' := .agg [.u32 x.toUInt32,.sl none 36 (ins.map inD),.sl none 2 (outs.map outD),.u32 0]) (bx' := [(13,.var _),(3,.var _),(2,.var _)]) rfl (wk_txN fun z hz => (hbs.1 z hz).2) rfl ?_
     refine W.l0 5 [.y 41 _] [] [] [(0,_),(2,_),(3,_),(4,_),(41,_)] [(13,.var _),(3,.var _),(2,.var _)] 65 ⟨mU 4 rfl rfl,trivial⟩ rfl rfl rfl rfl (⟨rfl,_,R.callB [(0,13)] hC (FnO.some' (r := .u64 k) (bx' := [(0,.var (.agg [.sl none 1 (r4.map D.u8)]))]) (nw := []) (rnumber_ok r2 (by omega) 4 (by decide)) (by rw [hE5]; rfl)) (EvB.cons (gV 41 rfl) rfl rfl rfl (EvB.cons (kI 4 rfl) rfl rfl rfl EvB.nil)) rfl ⟨rfl,trivial⟩ ⟨rfl,trivial⟩ rfl rfl rfl rfl rfl rfl (nU rfl),⟨rfl,_,R.conv (gV 42 rfl) rfl (nU rfl),⟨rfl,_,R.fdP (gU 2 rfl) (nU rfl),⟨rfl,_,R.stZ (gU 44 rfl) (xU 2 rfl) rfl (gV 43 rfl) (by rfl) (by rfl) (by rfl) (by rfl) rfl,tV [(0,_),(2,_),(3,_),(4,_)] [(13,.var _),(3,.var _),(2,.var _)] 65 rfl rfl rfl ?_⟩⟩⟩⟩)
     refine W.seq ?_
     refine W.seq ?_
     by_cases d1 : 0 < r4.length
     · have hwf : ((⟨x.toUInt32,ins,outs,k.toUInt32⟩ : TxS)).wf := get_wf (by omega) (pre_0 (sn_f1 hs1)) hE3 (wq_f (sn_f1 hs1))
       refine W.l0 18 [.y 45 _,.y 46 _,.y 47 _,.y 48 _,.y 49 _,.y 50 _,.y 51 _,.x 52,.x 53,.x 54,.y 55 _,.y 56 _,.x 57,.x 58,.x 59,.x 60,.x 61,.y 62 _] [] [] [(2,_),(3,_),(62,_)] [(13,.var _),(3,.var _),(2,.var _)] 65 ⟨mU 4 rfl rfl,aU fun _ _ H K => R.nilcP (K 45 _ rfl) H,aU (fU 46 rfl rfl),aU (lU 47 rfl rfl rfl rfl rfl rfl rfl),aU fun _ _ H K => R.lenE (SC.sl (K 48 _ rfl)) (List.length_map _) H,aU fun _ _ H K => R.gtrN (r4.length) (0) (eU K 49 rfl) (kI 0 rfl) H,mU 50 rfl rfl,aF rfl rfl (gT (decide_eq_true d1) rfl),aF rfl rfl (gT (decide_eq_true d1) rfl),aF rfl rfl (gT (decide_eq_true d1) rfl),aU fun _ _ H K => R.pickT (eU K 51 rfl) (decide_eq_true d1) (kB true rfl) rfl H,mU 55 rfl rfl,aF rfl rfl (gT (rfl) rfl),aF rfl rfl (gT (rfl) rfl),aF rfl rfl (gT (rfl) rfl),aF rfl rfl (gT (rfl) rfl),aF rfl rfl (gT (rfl) rfl),aU fun _ _ H K => R.pickT (eU K 56 rfl) (rfl) (kB true rfl) rfl H,trivial⟩ rfl rfl rfl rfl (tU rfl ?_)
       refine W.condT rfl (rfl) ?_
       refine W.lineX (n := 2) (by decide) (its := [.y 63 _]) (ks := []) (kk := []) (live := [2,3,63]) (env' := [(2,_),(3,_),(63,_)]) (⟨nU rfl,rfl,⟨aU fun _ _ H _ => R.mkifc (kI 5 rfl) rfl rfl H,trivial⟩,rfl,rfl,rfl⟩) rfl (bx' := [(13,.var _),(3,.var _),(2,.var _)]) rfl (n' := 65) rfl (⟨rfl,.inr (R.panic (gU 63 rfl) (fun e he => ?_))⟩)
       obtain ⟨ch,rfl,hch⟩ := he
       intro a w hs
       show bodyPostD _ _ _ _ _ _
       rw [gt_none hc8 (by rw [go_6 hE (pre_0 (sn_f1 hs1)) hE3 (wq_f (sn_f1 hs1)) hE5]; first | exact fin_1 d1 | exact fin_2 d2 | exact fin_3 hc62)]
       exact endDP (z2 := #[.int .u32 0,.slice none 0 0,.slice none 0 0,.int .u32 0]) (z3 := #[.int .i64 5]) (r2 := .agg [.u32 0,.nils,.nils,.u32 0]) hC1 hdf hkp (by decide) (hb23 (by decide)) rfl inferInstance (fun w ch hch cs2 cs3 e2 e3 q2 s2 q3 s3 => get1P b2 b3 w hch (hb23 (by decide)) q2 s2 q3 s3) ⟨ch,rfl,hch⟩ rfl rfl rfl rfl rfl rfl rfl rfl rfl rfl rfl rfl rfl rfl wk_zero rfl hs
     · by_cases d2 : mayS (⟨x.toUInt32,ins,outs,k.toUInt32⟩ : TxS) = false
       · have hwf : ((⟨x.toUInt32,ins,outs,k.toUInt32⟩ : TxS)).wf := get_wf (by omega) (pre_0 (sn_f1 hs1)) hE3 (wq_f (sn_f1 hs1))
         refine W.l0 18 [.y 45 _,.y 46 _,.y 47 _,.y 48 _,.y 49 _,.y 50 _,.y 51 _,.y 52 _,.y 53 _,.y 54 _,.y 55 _,.y 56 _,.x 57,.x 58,.x 59,.x 60,.x 61,.y 62 _] [] [] [(2,_),(3,_),(62,_)] [(13,.var _),(3,.var _),(2,.var _)] 65 ⟨mU 4 rfl rfl,aU fun _ _ H K => R.nilcP (K 45 _ rfl) H,aU (fU 46 rfl rfl),aU (lU 47 rfl rfl rfl rfl rfl rfl rfl),aU fun _ _ H K => R.lenE (SC.sl (K 48 _ rfl)) (List.length_map _) H,aU fun _ _ H K => R.gtrN (r4.length) (0) (eU K 49 rfl) (kI 0 rfl) H,mU 50 rfl rfl,aW rfl rfl (gF (decide_eq_false d1) rfl) (lU 2 rfl rfl rfl rfl rfl rfl rfl),aW rfl rfl (gF (decide_eq_false d1) rfl) fun _ _ H K => R.callG hC (may_ok (⟨x.toUInt32,ins,outs,k.toUInt32⟩ : TxS) hwf) (Bors.cons (Bor.pur (eU K 52 rfl) rfl rfl) Bors.nil) (FrsR.one (.bool _)) H,aW rfl rfl (gF (decide_eq_false d1) rfl) fun _ _ H K => R.un (eU K 53 rfl) rfl H,aU fun _ _ H K => R.pickF (eU K 51 rfl) (decide_eq_false d1) (eU K 54 rfl) rfl H,mU 55 rfl rfl,aF rfl rfl (gT (by rw [d2]; rfl) rfl),aF rfl rfl (gT (by rw [d2]; rfl) rfl),aF rfl rfl (gT (by rw [d2]; rfl) rfl),aF rfl rfl (gT (by rw [d2]; rfl) rfl),aF rfl rfl (gT (by rw [d2]; rfl) rfl),aU fun _ _ H K => R.pickT (eU K 56 rfl) (by rw [d2]; rfl) (kB true rfl) rfl H,trivial⟩ rfl rfl rfl rfl (tU rfl ?_)
         refine W.condT rfl (rfl) ?_
         refine W.lineX (n := 2) (by decide) (its := [.y 63 _]) (ks := []) (kk := []) (live := [2,3,63]) (env' := [(2,_),(3,_),(63,_)]) (⟨nU rfl,rfl,⟨aU fun _ _ H _ => R.mkifc (kI 5 rfl) rfl rfl H,trivial⟩,rfl,rfl,rfl⟩) rfl (bx' := [(13,.var _),(3,.var _),(2,.var _)]) rfl (n' := 65) rfl (⟨rfl,.inr (R.panic (gU 63 rfl) (fun e he => ?_))⟩)
         obtain ⟨ch,rfl,hch⟩ := he
         intro a w hs
         show bodyPostD _ _ _ _ _ _
         rw [gt_none hc8 (by rw [go_6 hE (pre_0 (sn_f1 hs1)) hE3 (wq_f (sn_f1 hs1)) hE5]; first | exact fin_1 d1 | exact fin_2 d2 | exact fin_3 hc62)]
         exact endDP (z2 := #[.int .u32 0,.slice none 0 0,.slice none 0 0,.int .u32 0]) (z3 := #[.int .i64 5]) (r2 := .agg [.u32 0,.nils,.nils,.u32 0]) hC1 hdf hkp (by decide) (hb23 (by decide)) rfl inferInstance (fun w ch hch cs2 cs3 e2 e3 q2 s2 q3 s3 => get1P b2 b3 w hch (hb23 (by decide)) q2 s2 q3 s3) ⟨ch,rfl,hch⟩ rfl rfl rfl rfl rfl rfl rfl rfl rfl rfl rfl rfl rfl rfl wk_zero rfl hs
       · have hwf : ((⟨x.toUInt32,ins,outs,k.toUInt32⟩ : TxS)).wf := get_wf (by omega) (pre_0 (sn_f1 hs1)) hE3 (wq_f (sn_f1 hs1))
         refine W.l0 18 [.y 45 _,.y 46 _,.y 47 _,.y 48 _,.y 49 _,.y 50 _,.y 51 _,.y 52 _,.y 53 _,.y 54 _,.y 55 _,.y 56 _,.y 57 _,.y 58 _,.y 59 _,.y 60 _,.y 61 _,.y 62 _] [] [] [(2,_),(3,_),(62,_)] [(13,.var _),(3,.var _),(2,.var _)] 65 ⟨mU 4 rfl rfl,aU fun _ _ H K => R.nilcP (K 45 _ rfl) H,aU (fU 46 rfl rfl),aU (lU 47 rfl rfl rfl rfl rfl rfl rfl),aU fun _ _ H K => R.lenE (SC.sl (K 48 _ rfl)) (List.length_map _) H,aU fun _ _ H K => R.gtrN (r4.length) (0) (eU K 49 rfl) (kI 0 rfl) H,mU 50 rfl rfl,aW rfl rfl (gF (decide_eq_false d1) rfl) (lU 2 rfl rfl rfl rfl rfl rfl rfl),aW rfl rfl (gF (decide_eq_false d1) rfl) fun _ _ H K => R.callG hC (may_ok (⟨x.toUInt32,ins,outs,k.toUInt32⟩ : TxS) hwf) (Bors.cons (Bor.pur (eU K 52 rfl) rfl rfl) Bors.nil) (FrsR.one (.bool _)) H,aW rfl rfl (gF (decide_eq_false d1) rfl) fun _ _ H K => R.un (eU K 53 rfl) rfl H,aU fun _ _ H K => R.pickF (eU K 51 rfl) (decide_eq_false d1) (eU K 54 rfl) rfl H,mU 55 rfl rfl,aW rfl rfl (gF (by simpa using d2) rfl) (lU 2 rfl rfl rfl rfl rfl rfl rfl),aW rfl rfl (gF (by simpa using d2) rfl) fun _ _ H K => R.callG hC (put_ok (⟨x.toUInt32,ins,outs,k.toUInt32⟩ : TxS) hwf) (Bors.cons (Bor.pur (eU K 57 rfl) rfl rfl) Bors.nil) (FrsR.one (.sl _ _ _ (frs_map fun _ => .u8 _))) H,aW rfl rfl (gF (by simpa using d2) rfl) fun _ _ H K => R.mov (eU K 0 rfl) rfl H,aW rfl rfl (gF (by simpa using d2) rfl) fun _ _ H K => R.callG hC (beq_ok (putS (⟨x.toUInt32,ins,outs,k.toUInt32⟩ : TxS)) b) (Bors.cons (Bor.sc (SC.sl (K 58 _ rfl)) (brw_map (fun _ => rfl))) (Bors.cons (Bor.pur (eU K 59 rfl) rfl rfl) Bors.nil)) (FrsR.one (.bool _)) H,aW rfl rfl (gF (by simpa using d2) rfl) fun _ _ H K => R.un (eU K 60 rfl) rfl H,aU fun _ _ H K => R.pickF (eU K 56 rfl) (by simpa using d2) (eU K 61 rfl) rfl H,trivial⟩ rfl rfl rfl rfl (tU rfl ?_)
         refine W.cond rfl (fun hc62 => ?_) (fun hc62 => ?_)
         · refine W.lineX (n := 2) (by decide) (its := [.y 63 _]) (ks := []) (kk := []) (live := [2,3,63]) (env' := [(2,_),(3,_),(63,_)]) (⟨nU rfl,rfl,⟨aU fun _ _ H _ => R.mkifc (kI 5 rfl) rfl rfl H,trivial⟩,rfl,rfl,rfl⟩) rfl (bx' := [(13,.var _),(3,.var _),(2,.var _)]) rfl (n' := 65) rfl (⟨rfl,.inr (R.panic (gU 63 rfl) (fun e he => ?_))⟩)
           obtain ⟨ch,rfl,hch⟩ := he
           intro a w hs
           show bodyPostD _ _ _ _ _ _
           rw [gt_none hc8 (by rw [go_6 hE (pre_0 (sn_f1 hs1)) hE3 (wq_f (sn_f1 hs1)) hE5]; first | exact fin_1 d1 | exact fin_2 d2 | exact fin_3 hc62)]
           exact endDP (z2 := #[.int .u32 0,.slice none 0 0,.slice none 0 0,.int .u32 0]) (z3 := #[.int .i64 5]) (r2 := .agg [.u32 0,.nils,.nils,.u32 0]) hC1 hdf hkp (by decide) (hb23 (by decide)) rfl inferInstance (fun w ch hch cs2 cs3 e2 e3 q2 s2 q3 s3 => get1P b2 b3 w hch (hb23 (by decide)) q2 s2 q3 s3) ⟨ch,rfl,hch⟩ rfl rfl rfl rfl rfl rfl rfl rfl rfl rfl rfl rfl rfl rfl wk_zero rfl hs
         · refine W.skip ?_
           refine W.seq ?_
           refine W.l0 3 [.y 64 _] [] [] [(2,_),(3,_),(64,_)] [(13,.var _),(3,.var _),(2,.var _)] 65 ⟨aU (lU 2 rfl rfl rfl rfl rfl rfl rfl),trivial⟩ rfl rfl rfl rfl (⟨rfl,_,R.stZ (gU 2 rfl) (xU 2 rfl) rfl (gV 64 rfl) (by rfl) (by rfl) (by rfl) (by rfl) rfl,⟨rfl,_,R.stZ (gU 3 rfl) (xU 3 rfl) rfl (kI 0 rfl) (by rfl) (by rfl) (by rfl) (by rfl) rfl,tV [(2,_),(3,_)] [(13,.var _),(3,.var _),(2,.var _)] 65 rfl rfl rfl ?_⟩⟩)
           refine W.ret ?_
           intro a w hs
           show bodyPostD _ _ _ _ _ _
           rw [gt_some hc8 (by rw [go_6 hE (pre_0 (sn_f1 hs1)) hE3 (wq_f (sn_f1 hs1)) hE5]; exact fin_s d1 (by simpa using d2) hc62)]
           exact endD hC1 hdf hkp (by decide) rfl inferInstance (get1R b2 b3) (.inr rfl) rfl rfl rfl rfl rfl rfl rfl rfl rfl rfl rfl rfl hs

end Go.Sx

namespace Go.Sx
open Go.Proofs
theorem small_ok : Fn Tryd.prog gl 28 [] (.agg [.u32 1,.sl (some 56) 36 [.agg [.agg [hashD (List.replicate 32 0),.u32 4294967295],.nils,.u32 4294967295,.nils]],.sl (some 46) 2 [.agg [.u64 5,.sl none 1 [.u8 81]]],.u32 0]) := by
 refine Fn.of (n := 8) Tryd.func28 rfl rfl rfl (nU rfl) fun C hC hD => ?_
 refine W.seq ?_
 refine W.l0 1 [] [] [] [] [] 8 trivial rfl rfl rfl rfl (⟨rfl,_,R.alloc rfl (nU rfl),tV [(0,_)] [(0,.var _)] 8 rfl rfl rfl ?_⟩)
 refine W.seq ?_
 refine W.l0 8 [.y 1 _,.y 2 _,.y 3 _,.y 4 _,.y 5 _,.y 6 _,.y 7 _] [(6,3),(6,6)] [(6,3),(6,6)] [(0,_),(7,_)] [(0,.var _)] 8 ⟨aU fun _ _ H _ => R.bldSE (l := [.arr 32 1 ((List.replicate 32 0).map D.u8),.u32 0]) (l' := [_,_]) (.cons (show ev _ _ (.const (.int .u32 4294967295)) = some (.u32 4294967295) from rfl) (.nil rfl)) ⟨⟨_,(show ev _ _ (.const (.int .u32 4294967295)) = some (.u32 4294967295) from rfl),rfl,rfl,rfl⟩,trivial⟩ H,aU fun _ _ H K => R.bldSE (l := [.agg [.arr 32 1 ((List.replicate 32 0).map D.u8),.u32 0],.nils,.u32 0,.nils]) (l' := [_,_,_,_]) (.cons (eU K 1 rfl) (.cons (show ev _ _ (.const (.int .u32 4294967295)) = some (.u32 4294967295) from rfl) (.nil rfl))) ⟨⟨_,(eU K 1 rfl),rfl,rfl,rfl⟩,⟨⟨_,(show ev _ _ (.const (.int .u32 4294967295)) = some (.u32 4294967295) from rfl),rfl,rfl,rfl⟩,trivial⟩⟩ H,aU fun _ _ H K => R.bslE (z := 36) (.cons (eU K 2 rfl) .nil) ⟨⟨rfl,rfl,rfl⟩,trivial⟩ rfl H (by decide),aU fun _ _ H _ => R.frzT (r' := .sl none 1 [.u8 81]) (R.bslE (z := 1) (.cons (show ev _ _ (.const (.int .u8 81)) = some (.u8 81) from rfl) .nil) ⟨⟨rfl,rfl,rfl⟩,trivial⟩ rfl H (by decide)) rfl (rfl),aU fun _ _ H K => R.bldSE (l := [.u64 0,.nils]) (l' := [_,_]) (.cons (show ev _ _ (.const (.int .u64 5)) = some (.u64 5) from rfl) (.cons (eU K 4 rfl) (.nil rfl))) ⟨⟨_,(show ev _ _ (.const (.int .u64 5)) = some (.u64 5) from rfl),rfl,rfl,rfl⟩,⟨⟨_,(eU K 4 rfl),rfl,rfl,rfl⟩,trivial⟩⟩ H,aU fun _ _ H K => R.bslE (z := 2) (.cons (eU K 5 rfl) .nil) ⟨⟨rfl,rfl,rfl⟩,trivial⟩ rfl H (by decide),aU fun _ _ H K => R.bldO (l := [.u32 0,.nils,.nils,.u32 0]) (l' := [_,_,_,_]) (.pur (show ev _ _ (.const (.int .u32 1)) = some (.u32 1) from rfl) rfl rfl rfl (.own (K 3 _ rfl) rfl rfl rfl rfl (.own (K 6 _ rfl) rfl rfl rfl rfl (.nil rfl)))) rfl H,trivial⟩ rfl rfl rfl rfl (⟨rfl,_,R.stOZ (gU 0 rfl) (xU 0 rfl) rfl (gU 7 rfl) rfl rfl (by rfl) (by rfl) rfl rfl,tV [(0,_)] [(0,.var _)] 8 rfl rfl rfl ?_⟩)
 refine W.ret ?_
 exact Ends.one' (.inr rfl) rfl (rfl) rfl rfl (show LdT _ 26 4 true from inferInstance)

end Go.Sx

namespace Go.Sx
open Go.Proofs
section
variable {b r r0 r1 r2 r3 r4 r5 x s u : List UInt8} {bad e e0 e1 e2 e3 e4 e5 e6 : Bool} {p q : UInt64} {i j n m : Nat} {l : List InS} {o : List OutS}
end
end Go.Sx

namespace Go.Sx
open Go.Proofs
end Go.Sx

namespace Go.Sx
open Go.Proofs
end Go.Sx

namespace Go.Sx
def val : List UInt8 → Nat
 | [] => 0
 | x :: r => x.toNat + 256 * val r
theorem val_lt (l : List UInt8) : val l < 256 ^ l.length := by
 induction l with
 | nil => simp [val]
 | cons x r ih =>
  have := x.toNat_lt
  simp only [val,List.length_cons,Nat.pow_succ]
  omega
theorem val_snoc (l : List UInt8) (x : UInt8) : val (l ++ [x]) = val l + 256 ^ l.length * x.toNat := by
 induction l with
 | nil => simp [val]
 | cons y r ih =>
  simp only [List.cons_append,val,ih,List.length_cons,Nat.pow_succ]
  rw [Nat.mul_add,← Nat.mul_assoc,Nat.mul_comm 256 (256 ^ r.length)]
  omega
theorem p256 (i : Nat) : (256 : Nat) ^ i = 2 ^ (8 * i) := by
 rw [Nat.pow_mul]
theorem numI_val (l : List UInt8) : ∀ i,i ≤ l.length → i ≤ 8 → (numI l i).toNat = val (l.take i) := by
 intro i
 induction i with
 | zero => intro _ _; simp [numI,val]
 | succ i ih =>
  intro h1 h2
  have hi := ih (by omega) (by omega)
  rw [take_snoc (by omega),val_snoc]
  simp only [numI,UInt64.toNat_or,hi,shl_u64_toNat,UInt8.toNat_toUInt64]
  have hl : (l.take i).length = i := by simp; omega
  rw [hl,Nat.min_eq_left (by omega)]
  have hx := l[i]!.toNat_lt
  have hv : val (l.take i) < 2 ^ (8 * i) := by have := val_lt (l.take i); rw [hl,p256] at this; exact this
  have hp : 2 ^ (8 * i) ≤ 2 ^ 56 := Nat.pow_le_pow_right (by decide) (by omega)
  rw [Nat.mod_eq_of_lt (by
   have : l[i]!.toNat * 2 ^ (8 * i) ≤ 255 * 2 ^ 56 := Nat.mul_le_mul (by omega) hp
   omega)]
  rw [Nat.or_comm,Nat.mul_comm,← Nat.two_pow_add_eq_or_of_lt hv,p256]
  omega
section
variable {b r u : List UInt8} {e : Bool} {n : Nat} {x y : UInt64} {s : List UInt8} {ins l : List InS} {outs o : List OutS}
end
end Go.Sx

namespace Go.Sx
open Go.Proofs
section
variable {b r r1 r2 r3 r4 u x : List UInt8} {e e1 e2 e3 e4 f : Bool} {n j : Nat} {ws : List (List UInt8)} {ins l rest : List InS} {outs : List OutS} {y : InS} {Z : List InS × List UInt8 × Bool} {Y : List (List UInt8) × List UInt8 × Bool} {p k : UInt64}
end
end Go.Sx

namespace Go.Sx
end Go.Sx

namespace Go.Sx
section
variable {b r r1 r2 r3 r4 u : List UInt8} {x k : UInt64} {e e1 e2 e3 e4 : Bool} {ins l : List InS} {outs : List OutS}
end
end Go.Sx

namespace Go.Sx
open Go.Proofs
end Go.Sx

namespace Go.Sx
open Go.Proofs
def smI : InS := ⟨List.replicate 32 0,4294967295,[],4294967295,[]⟩
def smO : OutS := ⟨5,[81]⟩
def smT : TxS := ⟨1,[smI],[smO],0⟩
def smT2 : TxS := ⟨1,[setW smI [[]]],[smO],0⟩
theorem sm_wf : smT.wf := wf_of_sz (by decide) (by intro x hx; simp [smT] at hx; subst hx; rfl)
theorem sm2_wf : smT2.wf := wf_of_sz (by decide) (by intro x hx; simp [smT2] at hx; subst hx; rfl)
theorem zero_wf : zeroT.wf := wf_of_sz (by decide) (by intro x hx; cases hx)
theorem w_len : (putS smT).length = 61 := by decide +kernel
theorem w_0 : (putS smT)[0]! = 1 := by decide +kernel
theorem w_4 : (putS smT)[4]! = 1 := by decide +kernel
theorem w_37 : (putS smT)[37]! = 255 := by decide +kernel
theorem w_46 : (putS smT)[46]! = 1 := by decide +kernel
theorem w_47 : (putS smT)[47]! = 5 := by decide +kernel
theorem w_56 : (putS smT)[56]! = 81 := by decide +kernel
theorem w2_len : (putS smT2).length = 65 := by decide +kernel
theorem w2_4 : (putS smT2)[4]! = 0 := by decide +kernel
theorem w2_5 : (putS smT2)[5]! = 1 := by decide +kernel
theorem w_bare : bareS smT2 = putS smT := by decide +kernel
theorem w_mint : mintS smT2 = true := by decide +kernel
theorem w_may : mayS smT2 = true := by decide +kernel
theorem w_may0 : mayS zeroT = false := by decide +kernel
theorem w_same : sameS smT smT = true := by decide +kernel
theorem w_same2 : sameS smT smT2 = false := by decide +kernel
theorem w_get : getS (putS smT) = (smT,0) := by kernel_rfl
theorem w_short : getS ((putS smT).take 60) = (zeroT,5) := by kernel_rfl
abbrev smIr : D := .agg [.agg [hashD (List.replicate 32 0),.u32 4294967295],.nils,.u32 4294967295,.nils]
abbrev smOr : D := .agg [.u64 5,.sl none 1 [.u8 81]]
theorem brw_smIr : smIr.brw = smIr := by
 simp only [D.brw,brws_eq,List.map_cons,List.map_nil,brw_hash]
theorem wk_smI : Wk smIr (inD smI) := .aggL (.cons (.refl _) (.cons (.nils none 1) (.cons (.refl _) (.cons (.nils none 1) .nil))))
theorem wk_sm : Wk (.agg [.u32 1,.sl none 36 [smIr],.sl none 2 [smOr],.u32 0]) (txD smT) :=
 .aggL (.cons (.refl _) (.cons (.slL (.cons wk_smI .nil)) (.cons (.refl _) (.cons (.refl _) .nil))))
abbrev smIw : D := .agg [.agg [hashD (List.replicate 32 0),.u32 4294967295],.nils,.u32 4294967295,.sl none 1 [.sl none 1 []]]
theorem wk_smIw : Wk smIw (inD (setW smI [[]])) := .aggL (.cons (.refl _) (.cons (.nils none 1) (.cons (.refl _) (.cons (.refl _) .nil))))
theorem wk_sm2 : Wk (.agg [.u32 1,.sl none 36 [smIw],.sl none 2 [smOr],.u32 0]) (txD smT2) :=
 .aggL (.cons (.refl _) (.cons (.slL (.cons wk_smIw .nil)) (.cons (.refl _) (.cons (.refl _) .nil))))
theorem smIr_sz : smIr.sz = 36 := rfl
theorem bw_sm {σ : Sg} {q cap : Nat} (hb : σ.box 9 = some (.var (.agg ([smIr] ++ List.replicate q .dead)))) : Bw σ (.agg [.u32 1,.bs 9 36 1 cap,.sl none 2 [smOr],.u32 0]) (.agg [.u32 1,.sl none 36 [smIr],.sl none 2 [smOr],.u32 0]) :=
 .aggL (.cons (.pur rfl rfl) (.cons (.bs hb rfl (by intro x hx; simp only [List.mem_singleton] at hx; subst hx; exact smIr_sz) (by rw [List.map_cons,List.map_nil,brw_smIr]) (by intro x hx; simp only [List.mem_singleton] at hx; subst hx; rfl))
  (.cons (.pur (by simp only [D.brw,brws_eq,List.map_cons,List.map_nil]) rfl) (.cons (.pur rfl rfl) .nil))))
theorem bw_sm0 {σ : Sg} : Bw σ (.agg [.u32 1,.sl (some 56) 36 [smIr],.sl (some 46) 2 [smOr],.u32 0]) (.agg [.u32 1,.sl none 36 [smIr],.sl none 2 [smOr],.u32 0]) :=
 .pur (by simp only [D.brw,brws_eq,List.map_cons,List.map_nil,brw_hash]) rfl
end Go.Sx

namespace Go.Sx
open Go.Proofs
set_option maxHeartbeats 2000000 in
theorem works_ok : Fn Tryd.prog gl 12 [] (.bool true) := by
 refine Fn.of (n := 131) Tryd.func12 rfl rfl rfl (nU rfl) fun C hC hD => ?_
 refine W.seq ?_
 refine W.l0 1 [.y 0 _] [] [] [] [] 131 ⟨aU fun _ _ H _ => R.asg (kB false rfl) rfl H,trivial⟩ rfl rfl rfl rfl (tU rfl ?_)
 refine W.seq ?_
 refine W.l0 3 [.y 8 _] [] [] [(8,_)] [] 131 ⟨aU fun _ _ H _ => R.callPE hC (small_ok) EvP.nil H,trivial⟩ rfl rfl rfl rfl (⟨rfl,_,R.alloc rfl (nU rfl),⟨rfl,_,R.stOZ (gU 1 rfl) (xU 1 rfl) rfl (gU 8 rfl) rfl rfl (by rfl) (by rfl) rfl rfl,tV [(1,_)] [(1,.var _)] 131 rfl rfl rfl ?_⟩⟩)
 refine W.seq ?_
 refine W.openB 9 1 [1] rfl rfl rfl rfl rfl rfl (fun _ => rfl) (by simp) rfl (fun _ => rfl) fun cap q _ _ _ => ?_
 refine W.brwB 1 (d' := .agg [.u32 1,.bs 9 36 1 cap,.sl none 2 [smOr],.u32 0]) (bx' := [(9,.var _),(1,.var _)]) rfl (show (D.agg [.u32 1,.bs 9 36 1 cap,.sl (some 46) 2 [smOr],.u32 0]).brw = _ from by simp only [D.brw,brws_eq,List.map_cons,List.map_nil]) rfl ?_
 refine W.l0 3 [.y 9 _,.y 10 _,.y 2 _] [(2,10)] [(2,10)] [(1,_),(2,_)] [(9,.var _),(1,.var _)] 131 ⟨aU (lU 1 rfl rfl rfl rfl rfl rfl rfl),aU fun _ B H K => R.callL hC (put_ok smT sm_wf) (.cons (eU K 9 rfl) rfl (bw_sm (B 9 _ rfl)) (wk_sm) .nil) (FrsR.one (.sl _ _ _ (frs_map fun _ => .u8 _))) H,aU fun _ _ H K => R.asgO (K 10 _ rfl) rfl H (by decide),trivial⟩ rfl rfl rfl rfl (tU rfl ?_)
 refine W.seq ?_
 refine W.seq ?_
 have hl61 := w_len
 refine W.l0 39 (.y 11 _ :: .y 12 _ :: .y 13 _ :: .y 14 _ :: .y 15 _ :: .y 16 _ :: .y 17 _ :: .y 18 _ :: .y 19 _ :: .y 20 _ :: .y 21 _ :: .y 22 _ :: .y 23 _ :: .y 24 _ :: .y 25 _ :: .y 26 _ :: .y 27 _ :: .y 28 _ :: .y 29 _ :: .y 30 _ :: .y 31 _ :: .y 32 _ :: .y 33 _ :: .y 34 _ :: .y 35 _ :: .y 36 _ :: .y 37 _ :: .y 38 _ :: .y 39 _ :: .y 40 _ :: .y 41 _ :: .y 42 _ :: .y 43 _ :: .y 44 _ :: .y 45 _ :: .y 46 _ :: .y 47 _ :: .y 48 _ :: .y 49 _ :: []) [] [] [(1,_),(2,_),(49,_)] [(9,.var _),(1,.var _)] 131 ⟨aU fun _ _ H K => R.al (K 2 _ rfl) H (by decide),aU fun _ _ H K => R.lenE (SC.al (K 11 _ rfl) (K 2 _ rfl)) (List.length_map _) H,aU fun _ _ H K => R.neqN ((putS smT).length) (61) (eU K 12 rfl) (kI 61 rfl) H,mU 13 rfl rfl,aW rfl rfl (gF (decide_eq_false (by rw [w_len]; decide)) rfl) fun _ _ H K => R.al (K 2 _ rfl) H (by decide),aW rfl rfl (gF (decide_eq_false (by rw [w_len]; decide)) rfl) fun _ _ H K => R.idxN (0) (SC.al (K 15 _ rfl) (K 2 _ rfl)) (evoI (kI 0 rfl)) rfl bU H (by decide),aW rfl rfl (gF (decide_eq_false (by rw [w_len]; decide)) rfl) fun _ _ H K => R.ldE (K 16 _ rfl) (SC.al (K 15 _ rfl) (K 2 _ rfl)) (map_get! (l := (putS smT)) bU) rfl rfl rfl rfl H,aW rfl rfl (gF (decide_eq_false (by rw [w_len]; decide)) rfl) fun _ _ H K => R.bin (eU K 17 rfl) (show ev _ _ (.const (.int .u8 1)) = some (.u8 1) from rfl) rfl trivial H,aU fun _ _ H K => R.pickF (eU K 14 rfl) (decide_eq_false (by rw [w_len]; decide)) (eU K 18 rfl) rfl H,mU 19 rfl rfl,aW rfl rfl (gF (by rw [w_0]; rfl) rfl) fun _ _ H K => R.al (K 2 _ rfl) H (by decide),aW rfl rfl (gF (by rw [w_0]; rfl) rfl) fun _ _ H K => R.idxN (4) (SC.al (K 21 _ rfl) (K 2 _ rfl)) (evoI (kI 4 rfl)) rfl bU H (by decide),aW rfl rfl (gF (by rw [w_0]; rfl) rfl) fun _ _ H K => R.ldE (K 22 _ rfl) (SC.al (K 21 _ rfl) (K 2 _ rfl)) (map_get! (l := (putS smT)) bU) rfl rfl rfl rfl H,aW rfl rfl (gF (by rw [w_0]; rfl) rfl) fun _ _ H K => R.bin (eU K 23 rfl) (show ev _ _ (.const (.int .u8 1)) = some (.u8 1) from rfl) rfl trivial H,aU fun _ _ H K => R.pickF (eU K 20 rfl) (by rw [w_0]; rfl) (eU K 24 rfl) rfl H,mU 25 rfl rfl,aW rfl rfl (gF (by rw [w_4]; rfl) rfl) fun _ _ H K => R.al (K 2 _ rfl) H (by decide),aW rfl rfl (gF (by rw [w_4]; rfl) rfl) fun _ _ H K => R.idxN (37) (SC.al (K 27 _ rfl) (K 2 _ rfl)) (evoI (kI 37 rfl)) rfl bU H (by decide),aW rfl rfl (gF (by rw [w_4]; rfl) rfl) fun _ _ H K => R.ldE (K 28 _ rfl) (SC.al (K 27 _ rfl) (K 2 _ rfl)) (map_get! (l := (putS smT)) bU) rfl rfl rfl rfl H,aW rfl rfl (gF (by rw [w_4]; rfl) rfl) fun _ _ H K => R.bin (eU K 29 rfl) (show ev _ _ (.const (.int .u8 255)) = some (.u8 255) from rfl) rfl trivial H,aU fun _ _ H K => R.pickF (eU K 26 rfl) (by rw [w_4]; rfl) (eU K 30 rfl) rfl H,mU 31 rfl rfl,aW rfl rfl (gF (by rw [w_37]; rfl) rfl) fun _ _ H K => R.al (K 2 _ rfl) H (by decide),aW rfl rfl (gF (by rw [w_37]; rfl) rfl) fun _ _ H K => R.idxN (46) (SC.al (K 33 _ rfl) (K 2 _ rfl)) (evoI (kI 46 rfl)) rfl bU H (by decide),aW rfl rfl (gF (by rw [w_37]; rfl) rfl) fun _ _ H K => R.ldE (K 34 _ rfl) (SC.al (K 33 _ rfl) (K 2 _ rfl)) (map_get! (l := (putS smT)) bU) rfl rfl rfl rfl H,aW rfl rfl (gF (by rw [w_37]; rfl) rfl) fun _ _ H K => R.bin (eU K 35 rfl) (show ev _ _ (.const (.int .u8 1)) = some (.u8 1) from rfl) rfl trivial H,aU fun _ _ H K => R.pickF (eU K 32 rfl) (by rw [w_37]; rfl) (eU K 36 rfl) rfl H,mU 37 rfl rfl,aW rfl rfl (gF (by rw [w_46]; rfl) rfl) fun _ _ H K => R.al (K 2 _ rfl) H (by decide),aW rfl rfl (gF (by rw [w_46]; rfl) rfl) fun _ _ H K => R.idxN (47) (SC.al (K 39 _ rfl) (K 2 _ rfl)) (evoI (kI 47 rfl)) rfl bU H (by decide),aW rfl rfl (gF (by rw [w_46]; rfl) rfl) fun _ _ H K => R.ldE (K 40 _ rfl) (SC.al (K 39 _ rfl) (K 2 _ rfl)) (map_get! (l := (putS smT)) bU) rfl rfl rfl rfl H,aW rfl rfl (gF (by rw [w_46]; rfl) rfl) fun _ _ H K => R.bin (eU K 41 rfl) (show ev _ _ (.const (.int .u8 5)) = some (.u8 5) from rfl) rfl trivial H,aU fun _ _ H K => R.pickF (eU K 38 rfl) (by rw [w_46]; rfl) (eU K 42 rfl) rfl H,mU 43 rfl rfl,aW rfl rfl (gF (by rw [w_47]; rfl) rfl) fun _ _ H K => R.al (K 2 _ rfl) H (by decide),aW rfl rfl (gF (by rw [w_47]; rfl) rfl) fun _ _ H K => R.idxN (56) (SC.al (K 45 _ rfl) (K 2 _ rfl)) (evoI (kI 56 rfl)) rfl bU H (by decide),aW rfl rfl (gF (by rw [w_47]; rfl) rfl) fun _ _ H K => R.ldE (K 46 _ rfl) (SC.al (K 45 _ rfl) (K 2 _ rfl)) (map_get! (l := (putS smT)) bU) rfl rfl rfl rfl H,aW rfl rfl (gF (by rw [w_47]; rfl) rfl) fun _ _ H K => R.bin (eU K 47 rfl) (show ev _ _ (.const (.int .u8 81)) = some (.u8 81) from rfl) rfl trivial H,aU fun _ _ H K => R.pickF (eU K 44 rfl) (by rw [w_47]; rfl) (eU K 48 rfl) rfl H,trivial⟩ rfl rfl rfl rfl (tU rfl ?_)
 refine W.condF rfl (by rw [w_56]; rfl) ?_
 refine W.skip ?_
 refine W.seq ?_
 refine W.frzS (s := 2) (d' := .sl none 1 ((putS smT).map D.u8)) rfl rfl (by simp only [D.brw,brws_eq]; rw [brw_map (fun _ => rfl)]) ?_
 refine W.l0 8 [.y 51 _,.y 52 _,.y 50 _,.y 53 _,.y 54 _] [] [] [(1,_),(2,_),(53,_),(54,_)] [(9,.var _),(1,.var _)] 131 ⟨mU 2 rfl rfl,aU fun _ _ H K => R.callPE hC (show Fn Tryd.prog gl 23 [.sl none 1 ((putS smT).map D.u8)] (.tup [txD smT,.int ((0 : Nat) : Int)]) from by have h := get_ok (putS smT) (by rw [w_len]; decide); rw [w_get] at h; exact h) (EvP.cons (eU K 51 rfl) rfl rfl EvP.nil) H,aU fun _ _ H K => R.movT (K 52 _ rfl) rfl H,aU fun _ _ H K => R.ext (K 50 _ rfl) rfl rfl H,aU fun _ _ H K => R.ext (K 50 _ rfl) rfl rfl H,trivial⟩ rfl rfl rfl rfl (⟨rfl,_,R.alloc rfl (nU rfl),⟨rfl,_,R.stZ (gU 3 rfl) (xU 3 rfl) rfl (gV 53 rfl) (by rfl) (by rfl) (by rfl) (by rfl) rfl,⟨rfl,_,R.asg (gV 54 rfl) rfl (nU rfl),tV [(1,_),(2,_),(3,_),(4,_)] [(3,.var _),(9,.var _),(1,.var _)] 131 rfl rfl rfl ?_⟩⟩⟩)
 refine W.seq ?_
 refine W.l0 9 [.y 56 _,.y 57 _,.y 58 _,.y 55 _,.y 59 _,.y 60 _] [] [] [(1,_),(2,_),(3,_),(4,_),(59,_),(60,_)] [(3,.var _),(9,.var _),(1,.var _)] 131 ⟨mU 2 rfl rfl,aU fun _ _ H K => R.slIN (0) (60) (60) (eU K 56 rfl) rfl (evoI (kI 60 rfl)) rfl rfl (by decide) (by rw [List.length_map,w_len]; decide) rfl (show _ = ((putS smT).take 60).map D.u8 from by simp) H,aU fun _ _ H K => R.callPE hC (show Fn Tryd.prog gl 23 [.sl none 1 (((putS smT).take 60).map D.u8)] (.tup [txD zeroT,.int ((5 : Nat) : Int)]) from by have h := get_ok ((putS smT).take 60) (by simp; omega); rw [w_short] at h; exact h) (EvP.cons (eU K 57 rfl) rfl rfl EvP.nil) H,aU fun _ _ H K => R.movT (K 58 _ rfl) rfl H,aU fun _ _ H K => R.ext (K 55 _ rfl) rfl rfl H,aU fun _ _ H K => R.ext (K 55 _ rfl) rfl rfl H,trivial⟩ rfl rfl rfl rfl (⟨rfl,_,R.alloc rfl (nU rfl),⟨rfl,_,R.stZ (gU 5 rfl) (xU 5 rfl) rfl (gV 59 rfl) (by rfl) (by rfl) (by rfl) (by rfl) rfl,⟨rfl,_,R.asg (gV 60 rfl) rfl (nU rfl),tV [(1,_),(2,_),(3,_),(4,_),(6,_)] [(5,.var _),(3,.var _),(9,.var _),(1,.var _)] 131 rfl rfl rfl ?_⟩⟩⟩)
 refine W.seq ?_
 refine W.l0 7 [.y 61 _,.y 62 _,.y 63 _,.y 64 _,.y 65 _,.y 66 _] [] [] [(1,_),(2,_),(3,_),(4,_),(6,_),(64,_),(66,_)] [(5,.var _),(3,.var _),(9,.var _),(1,.var _)] 131 ⟨aU (fU 1 rfl rfl),aU (lU 61 rfl rfl rfl rfl rfl rfl rfl),aU fun _ _ H _ => R.frzT (r' := .sl none 1 []) (R.bslE .nil trivial rfl H (by decide)) rfl (rfl),aU fun _ _ H K => R.bslE (z := 1) (.cons (eU K 63 rfl) .nil) ⟨⟨rfl,rfl,rfl⟩,trivial⟩ rfl H (by decide),aU fun _ _ H K => R.idxBs (0) (K 62 _ rfl) (evoI (kI 0 rfl)) rfl bU H,aU (fU 65 rfl rfl),trivial⟩ rfl rfl rfl rfl (⟨rfl,_,R.stOZ (gU 66 rfl) (xU 9 rfl) rfl (gU 64 rfl) rfl rfl (by rfl) (by rfl) rfl rfl,tV [(1,_),(2,_),(3,_),(4,_),(6,_)] [(5,.var _),(3,.var _),(9,.var _),(1,.var _)] 131 rfl rfl rfl ?_⟩)
 refine W.seq ?_
 refine W.brwB 9 (d' := .agg ([smIw] ++ List.replicate q .dead)) (bx' := [(5,.var _),(3,.var _),(9,.var _),(1,.var _)]) rfl (show (D.agg ([.agg [.agg [hashD (List.replicate 32 0),.u32 4294967295],.nils,.u32 4294967295,.sl (some 29) 1 [.sl none 1 []]]] ++ List.replicate q .dead)).brw = _ from by simp only [D.brw,brws_eq,List.map_append,List.map_cons,List.map_nil,brw_hash,brw_deads]) rfl ?_
 refine W.shutB 9 1 [1] [5,3,1] (l := [smIw]) (bx' := [(5,.var _),(3,.var _),(1,.var _)]) rfl rfl (by decide) rfl rfl rfl rfl (by intro x hx; simp only [List.mem_singleton] at hx; subst hx; rfl) (by intro x hx; simp only [List.mem_singleton] at hx; subst hx; rfl) (by intro x hx; simp only [List.mem_singleton] at hx; subst hx; rfl) rfl rfl rfl rfl (pin_sub hD rfl) ?_
 refine W.wkB 1 (d' := txD smT2) (bx' := [(5,.var _),(3,.var _),(1,.var _)]) rfl wk_sm2 rfl ?_
 refine W.l0 3 [.y 67 _,.y 68 _,.y 7 _] [(2,68)] [(2,68)] [(1,_),(2,_),(3,_),(4,_),(6,_),(7,_)] [(5,.var _),(3,.var _),(1,.var _)] 131 ⟨aU (lU 1 rfl rfl rfl rfl rfl rfl rfl),aU fun _ _ H K => R.callG hC (put_ok smT2 sm2_wf) (Bors.cons (Bor.pur (eU K 67 rfl) rfl rfl) Bors.nil) (FrsR.one (.sl _ _ _ (frs_map fun _ => .u8 _))) H,aU fun _ _ H K => R.asgO (K 68 _ rfl) rfl H (by decide),trivial⟩ rfl rfl rfl rfl (tU rfl ?_)
 refine W.seq ?_
 have hl65 := w2_len
 refine W.draw (m := 63) (an := (0 :: 0 :: 3 :: 7 :: 15 :: 15 :: 63 :: 127 :: 255 :: 511 :: 1023 :: 2047 :: 4095 :: 8191 :: 16383 :: 32767 :: 65535 :: 131071 :: 262143 :: 524287 :: 1048575 :: 2097151 :: 4194303 :: 8388607 :: 16777215 :: 33554431 :: 67108863 :: 134217727 :: 268435455 :: 536870911 :: 1073741823 :: 2147483647 :: 4294967295 :: 8589934591 :: 17179869183 :: 34359738367 :: 68719476735 :: 137438953471 :: 34359738367 :: 309237645311 :: 1099511627775 :: 2199023255551 :: 4398046511103 :: 8796093022207 :: 17592186044415 :: 35184372088831 :: 70368744177663 :: 140737488355327 :: 281474976710655 :: 562949953421311 :: 1125899906842623 :: 2251799813685247 :: 4503599627370495 :: 9007199254740991 :: 18014398509481983 :: 36028797018963967 :: 72057594037927935 :: 144115188075855871 :: 72057594037927935 :: 576460752303423487 :: 1152921504606846975 :: 2305843009213693951 :: 4611686018427387903 :: [])) hP (by decide) rfl (its := (.y 69 _ :: .y 70 _ :: .y 71 _ :: .y 72 _ :: .y 73 _ :: .y 74 _ :: .y 75 _ :: .y 76 _ :: .y 77 _ :: .y 78 _ :: .y 79 _ :: .y 80 _ :: .y 81 _ :: .y 82 _ :: .y 83 _ :: .y 84 _ :: .y 85 _ :: .y 86 _ :: .y 87 _ :: .y 88 _ :: .y 89 _ :: .y 90 _ :: .y 91 _ :: .y 92 _ :: .y 93 _ :: .y 94 _ :: .y 95 _ :: .y 96 _ :: .y 97 _ :: .y 98 _ :: .y 99 _ :: .y 100 _ :: .y 101 _ :: .y 102 _ :: .y 103 _ :: .y 104 _ :: .y 105 _ :: .y 106 _ :: .y 107 _ :: .y 108 _ :: .y 109 _ :: .y 110 _ :: .y 111 _ :: .y 112 _ :: .y 113 _ :: .y 114 _ :: .y 115 _ :: .y 116 _ :: .y 117 _ :: .y 118 _ :: .y 119 _ :: .y 120 _ :: .y 121 _ :: .y 122 _ :: .y 123 _ :: .y 124 _ :: .y 125 _ :: .y 126 _ :: .y 127 _ :: .y 128 _ :: .y 129 _ :: .y 130 _ :: .y 0 _ :: [])) (ks := []) (kk := []) (live := [0]) (env' := [(0,_)]) (⟨nU rfl,rfl,⟨aU (lU 3 rfl rfl rfl rfl rfl rfl rfl),aU fun _ _ H _ => R.callPE hC (small_ok) EvP.nil H,aU fun _ _ H K => R.callL hC (same_ok smT smT sm_wf sm_wf) (.old (Bor.pur (eU K 69 rfl) rfl rfl) (.cons (eU K 70 rfl) rfl (bw_sm0) (wk_sm) .nil)) (FrsR.one (.bool _)) H,mU 71 rfl rfl,aW rfl rfl (gT (w_same) rfl) (lU 3 rfl rfl rfl rfl rfl rfl rfl),aW rfl rfl (gT (w_same) rfl) (lU 1 rfl rfl rfl rfl rfl rfl rfl),aW rfl rfl (gT (w_same) rfl) fun _ _ H K => R.callG hC (same_ok smT smT2 sm_wf sm2_wf) (Bors.cons (Bor.pur (eU K 73 rfl) rfl rfl) (Bors.cons (Bor.pur (eU K 74 rfl) rfl rfl) Bors.nil)) (FrsR.one (.bool _)) H,aW rfl rfl (gT (w_same) rfl) fun _ _ H K => R.un (eU K 75 rfl) rfl H,aU fun _ _ H K => R.pickT (eU K 72 rfl) (w_same) (eU K 76 rfl) rfl H,mU 77 rfl rfl,aW rfl rfl (gT (by rw [w_same2]; rfl) rfl) fun _ _ H K => R.mov (eU K 4 rfl) rfl H,aW rfl rfl (gT (by rw [w_same2]; rfl) rfl) fun _ _ H K => R.eqlN (0) (0) (eU K 79 rfl) (kI 0 rfl) H,aU fun _ _ H K => R.pickT (eU K 78 rfl) (by rw [w_same2]; rfl) (eU K 80 rfl) rfl H,mU 81 rfl rfl,aW rfl rfl (gT (rfl) rfl) fun _ _ H K => R.mov (eU K 6 rfl) rfl H,aW rfl rfl (gT (rfl) rfl) fun _ _ H K => R.eqlN (5) (5) (eU K 83 rfl) (kI 5 rfl) H,aU fun _ _ H K => R.pickT (eU K 82 rfl) (rfl) (eU K 84 rfl) rfl H,mU 85 rfl rfl,aW rfl rfl (gT (rfl) rfl) fun _ _ H K => R.al (K 7 _ rfl) H (by decide),aW rfl rfl (gT (rfl) rfl) fun _ _ H K => R.lenE (SC.al (K 87 _ rfl) (K 7 _ rfl)) (List.length_map _) H,aW rfl rfl (gT (rfl) rfl) fun _ _ H K => R.eqlN ((putS smT2).length) (65) (eU K 88 rfl) (kI 65 rfl) H,aU fun _ _ H K => R.pickT (eU K 86 rfl) (rfl) (eU K 89 rfl) rfl H,mU 90 rfl rfl,aW rfl rfl (gT (decide_eq_true w2_len) rfl) fun _ _ H K => R.al (K 7 _ rfl) H (by decide),aW rfl rfl (gT (decide_eq_true w2_len) rfl) fun _ _ H K => R.idxN (4) (SC.al (K 92 _ rfl) (K 7 _ rfl)) (evoI (kI 4 rfl)) rfl bU H (by decide),aW rfl rfl (gT (decide_eq_true w2_len) rfl) fun _ _ H K => R.ldE (K 93 _ rfl) (SC.al (K 92 _ rfl) (K 7 _ rfl)) (map_get! (l := (putS smT2)) bU) rfl rfl rfl rfl H,aW rfl rfl (gT (decide_eq_true w2_len) rfl) fun _ _ H K => R.bin (eU K 94 rfl) (show ev _ _ (.const (.int .u8 0)) = some (.u8 0) from rfl) rfl trivial H,aU fun _ _ H K => R.pickT (eU K 91 rfl) (decide_eq_true w2_len) (eU K 95 rfl) rfl H,mU 96 rfl rfl,aW rfl rfl (gT (by rw [w2_4]; rfl) rfl) fun _ _ H K => R.al (K 7 _ rfl) H (by decide),aW rfl rfl (gT (by rw [w2_4]; rfl) rfl) fun _ _ H K => R.idxN (5) (SC.al (K 98 _ rfl) (K 7 _ rfl)) (evoI (kI 5 rfl)) rfl bU H (by decide),aW rfl rfl (gT (by rw [w2_4]; rfl) rfl) fun _ _ H K => R.ldE (K 99 _ rfl) (SC.al (K 98 _ rfl) (K 7 _ rfl)) (map_get! (l := (putS smT2)) bU) rfl rfl rfl rfl H,aW rfl rfl (gT (by rw [w2_4]; rfl) rfl) fun _ _ H K => R.bin (eU K 100 rfl) (show ev _ _ (.const (.int .u8 1)) = some (.u8 1) from rfl) rfl trivial H,aU fun _ _ H K => R.pickT (eU K 97 rfl) (by rw [w2_4]; rfl) (eU K 101 rfl) rfl H,mU 102 rfl rfl,aW rfl rfl (gT (by rw [w2_5]; rfl) rfl) (lU 1 rfl rfl rfl rfl rfl rfl rfl),aW rfl rfl (gT (by rw [w2_5]; rfl) rfl) fun _ _ H K => R.callG hC (bare_ok smT2 sm2_wf) (Bors.cons (Bor.pur (eU K 104 rfl) rfl rfl) Bors.nil) (FrsR.one (.sl _ _ _ (frs_map fun _ => .u8 _))) H,aW rfl rfl (gT (by rw [w2_5]; rfl) rfl) fun _ _ H K => R.cvS (xs := (bareS smT2)) (SC.sl (K 105 _ rfl)) H,aW rfl rfl (gT (by rw [w2_5]; rfl) rfl) fun _ _ H K => R.mov (eU K 2 rfl) rfl H,aW rfl rfl (gT (by rw [w2_5]; rfl) rfl) fun _ _ H K => R.cvS (xs := (putS smT)) (SC.sl (K 107 _ rfl)) H,aW rfl rfl (gT (by rw [w2_5]; rfl) rfl) fun _ _ H K => R.bin (eU K 106 rfl) (eU K 108 rfl) rfl trivial H,aU fun _ _ H K => R.pickT (eU K 103 rfl) (by rw [w2_5]; rfl) (eU K 109 rfl) rfl H,mU 110 rfl rfl,aW rfl rfl (gT (by rw [w_bare]; simp) rfl) (lU 1 rfl rfl rfl rfl rfl rfl rfl),aW rfl rfl (gT (by rw [w_bare]; simp) rfl) fun _ _ H K => R.callG hC (mint_ok smT2 sm2_wf) (Bors.cons (Bor.pur (eU K 112 rfl) rfl rfl) Bors.nil) (FrsR.one (.bool _)) H,aU fun _ _ H K => R.pickT (eU K 111 rfl) (by rw [w_bare]; simp) (eU K 113 rfl) rfl H,mU 114 rfl rfl,aW rfl rfl (gT (w_mint) rfl) (lU 1 rfl rfl rfl rfl rfl rfl rfl),aW rfl rfl (gT (w_mint) rfl) fun _ _ H K => R.callG hC (may_ok smT2 sm2_wf) (Bors.cons (Bor.pur (eU K 116 rfl) rfl rfl) Bors.nil) (FrsR.one (.bool _)) H,aU fun _ _ H K => R.pickT (eU K 115 rfl) (w_mint) (eU K 117 rfl) rfl H,mU 118 rfl rfl,aW rfl rfl (gT (w_may) rfl) fun _ _ H _ => R.bldSE (l := [.u32 0,.nils,.nils,.u32 0]) (l' := [_,_,_,_]) (.nil rfl) trivial H,aW rfl rfl (gT (w_may) rfl) fun _ _ H K => R.callL hC (may_ok zeroT zero_wf) (.cons (eU K 120 rfl) rfl (.pur rfl rfl) (wk_zero) .nil) (FrsR.one (.bool _)) H,aW rfl rfl (gT (w_may) rfl) fun _ _ H K => R.un (eU K 121 rfl) rfl H,aU fun _ _ H K => R.pickT (eU K 119 rfl) (w_may) (eU K 122 rfl) rfl H,mU 123 rfl rfl,aW rfl rfl (gT (by rw [w_may0]; rfl) rfl) (lU 1 rfl rfl rfl rfl rfl rfl rfl),aW rfl rfl (gT (by rw [w_may0]; rfl) rfl) fun _ _ H K => R.callG hC (id_ok smT2 sm2_wf) (Bors.cons (Bor.pur (eU K 125 rfl) rfl rfl) Bors.nil) (FrsR.one (frs_hash _)) H,aW rfl rfl (gT (by rw [w_may0]; rfl) rfl) (lU 1 rfl rfl rfl rfl rfl rfl rfl),aW rfl rfl (gT (by rw [w_may0]; rfl) rfl) fun _ _ H K => R.callG hC (rid_ok smT2 sm2_wf) (Bors.cons (Bor.pur (eU K 127 rfl) rfl rfl) Bors.nil) (FrsR.one (frs_hash _)) H,aW rfl rfl (gT (by rw [w_may0]; rfl) rfl) fun _ _ H K => R.eqAE (eU K 126 rfl) (eU K 128 rfl) H,aU fun _ _ H K => R.pickT (eU K 124 rfl) (by rw [w_may0]; rfl) (eU K 129 rfl) rfl H,aU fun _ _ H K => R.asg (eU K 130 rfl) rfl H,trivial⟩,rfl,rfl,rfl⟩) rfl (bx' := [(5,.var _),(3,.var _),(1,.var _)]) rfl (n' := 131) rfl (tV [(0,_)] [(5,.var _),(3,.var _),(1,.var _)] 131 rfl rfl rfl ?_)
 refine W.ret ?_
 exact Ends.one' (.inr rfl) rfl (by simp) rfl rfl trivial

end Go.Sx

namespace Go.Sx
open Go.ChangeShapes Go.WideShapes

structure Rd (P : Program) (t : TypeId) (z : Nat) {α : Type} (f : α → D) (q : α → Prop) : Prop where
 cells : P.cellsOf t = z
 sz : ∀ a,q a → (f a).sz = z
 rd : ∀ {H : Type} {enc : TypeId × Value → H} {w : World} {n : Nat} {cs : List Value} {x : DataW H × List MemPlace},DataW.trod enc P w 0 (fun _ => true) true n t cs = some x →
  (x.1.weights P t).all (· ≤ reachBytes) = true → ∃ a,q a ∧ Rc w (fun x => x) (fun b => b < w.heap.size) (fun _ => False) false (f a) cs []

variable {P : Program} {t e z : Nat}

theorem Rd.i8 (ht : P.underlying t = some (.int .i8)) (hz : P.cellsOf t = 1) : Rd P t 1 (D.ik .i8) (fun n => -128 ≤ n ∧ n ≤ 127) :=
 ⟨hz,fun _ _ => rfl,fun h _ => by
  obtain ⟨n,rfl,_,hw⟩ := DataW.trod_int ht h
  refine ⟨n, ?_,.ik .i8 n⟩
  simp [Lit.wf,IntKind.min,IntKind.max,IntKind.signed,IntKind.bits] at hw
  omega⟩
theorem weightsEach_get {H : Type} {p : Nat → Bool} : ∀ {ts : List TypeId} {l : List (DataW H)},(DataW.weightsEach P ts l).all p = true → ∀ (i : Nat) (t : TypeId) (d : DataW H),ts[i]? = some t → l[i]? = some d → (d.weights P t).all p = true := by
 intro ts
 induction ts with
 | nil => intro l _ i t d ht; simp at ht
 | cons t0 ts ih =>
  intro l h i t d ht hd
  cases l with
  | nil => simp at hd
  | cons x r =>
   simp only [DataW.weightsEach,List.all_append,Bool.and_eq_true] at h
   cases i with
   | zero => simp at ht hd; subst ht; subst hd; exact h.1
   | succ i => exact ih h.2 i t d (by simpa using ht) (by simpa using hd)

def isAggT (P : Program) (t : TypeId) : Bool := match P.underlying t with
 | some (.struct _) => true
 | some (.array _ _) => true
 | _ => false
theorem cells_one {r : Reach} {W : World} {base : Nat} {v : Value} (hu : isAggT P t = false) (hv : Value.okWide P W r base t v) : v.cells = #[v] := by
 cases v with
 | agg cs =>
  exfalso
  unfold isAggT at hu
  unfold Value.okWide at hv
  split at hv
  · rename_i h; simp [h] at hu
  · rename_i h; simp [h] at hu
  · unfold Cell.okWide Cell.ok at hv
    split at hv <;> simp_all
 | _ => rfl
theorem Rd.arg {H : Type} {enc : TypeId × Value → H} {α : Type} {f : α → D} {q : α → Prop} {g : Bool} {r : Reach} {W : World} {base : Nat} {v : Value} {d : DataW H} {ps : List MemPlace} (h : Rd P t z f q) (hu : isAggT P t = g) (hg : ∀ a,q a → (f a).isAgg = g)
 (hv : Value.okWide P W r base t v) (hd : DataW.Trod enc P W 0 (fun _ => true) true t v d ps) (hw : (d.weights P t).all (· ≤ reachBytes) = true) :
 ∃ a,q a ∧ VR W (fun x => x) (fun b => b < W.heap.size) (fun _ => False) (f a) v [] := by
 obtain ⟨fuel,hd⟩ := hd
 obtain ⟨a,ha,hr⟩ := h.rd hd hw
 refine ⟨a,ha, ?_⟩
 have hga := hg a ha
 cases g with
 | true =>
  have : ∃ cs,v = .agg cs := by
   unfold isAggT at hu
   unfold Value.okWide at hv
   split at hv
   · exact ⟨_,hv.choose_spec.1⟩
   · exact ⟨_,hv.choose_spec.1⟩
   · split at hu <;> simp_all
  obtain ⟨cs,rfl⟩ := this
  simp only [VR,hga,if_true]
  exact ⟨cs,rfl,hr.flag⟩
 | false =>
  rw [cells_one hu hv] at hr
  simp only [VR,hga,if_false,Bool.false_eq_true]
  exact hr.flag

theorem trodAll_stays {H : Type} {enc : TypeId × Value → H} {W W' : World} {sp : Nat → Bool} (hl : laidOutB P = true) (hb : ∀ b,b < W.heap.size → W'.heap[b]? = W.heap[b]?) :
 ∀ {ts : List TypeId} {vs : List Value} {ds : List (DataW H)} {ps : List MemPlace},(ts.all fun t => P.readableRec t && decide (t < P.types.size)) = true → (∀ x ∈ ps,x.block < W.heap.size) → (∀ x ∈ ps,sp x.block = true) →
  DataW.TrodAll enc P W 0 (fun _ => true) true ts vs ds ps → DataW.TrodAll enc P W' 0 sp true ts vs ds ps := by
 intro ts
 induction ts with
 | nil => intro vs ds ps _ _ _ h; obtain ⟨rfl,rfl,rfl⟩ := trodAll_nil h; exact trodAll_mk0
 | cons t ts ih =>
  intro vs ds ps ht hlt hs h
  obtain ⟨v,vs1,d,ds1,a,b,rfl,rfl,rfl,h1,h2⟩ := trodAll_cons h
  simp only [List.all_cons,Bool.and_eq_true,decide_eq_true_eq] at ht
  refine trodAll_cons_mk (Go.WideElems.Trod_stays hl ht.1.1 ht.1.2 h1 (fun x hx => ?_) (fun x hx => hs x (List.mem_append.2 (.inl hx)))) (ih ht.2 (fun x hx => hlt x (List.mem_append.2 (.inr hx))) (fun x hx => hs x (List.mem_append.2 (.inr hx))) h2)
  have hx' := hlt x (List.mem_append.2 (.inl hx))
  cases x with
  | cell b o => exact World.cell?_of_block (w := W) (hb b hx')
  | map b => exact hb b hx'

theorem contract_of {H : Type} {enc : TypeId × Value → H} {fn : Func} {f : FuncId} {s : ChangeSpec} {W : World} {args : Array Value} {ds gs : List (DataW H)} {before : List MemPlace} {tb : TypeId} {gl : List (Nat × D)} {Ds : List D}
 (hl : laidOutB P = true) (hpar : (fn.params.toList.all fun t => P.readableRec t && decide (t < P.types.size)) = true) (hres : fn.resultTypes = #[tb]) (htb : P.underlying tb = some .bool) (hsv : s.vars = [])
 (hfn : s.fn H ds = { results := [.lit (.bool true)],args := ds }) (hW : DataW.Whole enc P fn.params.toList s.vars false W args.toList ds gs before)
 (hgl : ∀ g d,(g,d) ∈ gl → g < W.heap.size ∧ ∃ cs e fz,W.heap[g]? = some (.cells cs e fz) ∧ Rc W (fun x => x) (fun _ => False) (fun _ => False) false d cs.toList [])
 (hlen : args.toList.length = Ds.length) (hargs : ∀ k (h : k < Ds.length),VR W (fun x => x) (fun b => b < W.heap.size) (fun _ => False) Ds[k] (args.toList.getD k undef) [])
 (hf : Fn P gl f Ds (.bool true)) : Calls P f args W fun e W' => ∃ v,e = .returned v ∧ s.post enc P fn false true false false W args v W' := by
 have hrun := hf W (fun b => b < W.heap.size) args.toList hgl hlen hargs
 rw [Array.toArray_toList] at hrun
 refine hrun.mono fun ex W' ⟨v,F,he,hext,_,_,hrv⟩ => ⟨v,he, ?_⟩
 have hv : v = .bool true := by
  obtain ⟨_,h2⟩ := hrv
  simp only [VR,D.isAgg,Bool.false_eq_true,if_false] at h2
  cases h2
  rfl
 subst hv
 have hlt := hW.lt
 have hW0 := hW
 obtain ⟨p,q',hA,hV,rfl,hfz,hnd⟩ := hW
 rw [hsv] at hV
 obtain ⟨rfl,rfl⟩ := trodVars_none hV
 simp only [List.append_nil] at hlt hW0
 have hst : ∀ sp : Nat → Bool,(∀ x ∈ p,sp x.block = true) → DataW.TrodAll enc P W' 0 sp true fn.params.toList args.toList ds p := fun sp hs => trodAll_stays hl (fun b hb => hext.block b hb) hpar hlt hs hA
 refine ⟨ds,[],p,[],p,[],hW0, ?_, ?_, ?_,⟨hext.os,hext.output,fun i hi => ?_⟩,fun h => by cases h⟩
 · rw [hres]
   simp only [List.append_nil,hfn]
   exact trodAll_cons_mk (Go.RowKit.shut_bool htb true) trodAll_mk0
 · simp only [List.append_nil,hfn]
   exact hst _ (fun x hx => by simpa using hlt x hx)
 · simp only [List.append_nil,hfn,hsv]
   rfl
 · rw [hext.block i hi]
   cases hh : W.heap[i]? with
   | none => simp
   | some o => cases o <;> simp

theorem rc_tab32 {w : World} {ρ : Nat → Nat} {G L : Nat → Prop} (l : List UInt32) {n : Nat} (hn : l.length = n) : Rc w ρ G L false (.arr n 1 (l.map D.u32)) (l.map fun x => Value.int .u32 x.toNat) [] := by
 refine .arr n 1 _ _ (by simpa using hn) (by simp [hn]) (fun i hi => ?_)
 have hi' : i < l.length := by simpa using hi
 simp only [Nat.mul_one,List.getElem_map]
 rw [List.drop_eq_getElem_cons (by simpa using hi'),List.take_succ_cons,List.take_zero,List.getElem_map]
 exact .u32 _
theorem gl_tab32 {W : World} {name : String} {g n : Nat} (l : List UInt32) (hg : P.globalNamed name = some g) (hn : l.length = n) (h : Lib.TabIs P W name .u32 (l.map fun x => ((x.toNat : Nat) : Int))) :
 g < W.heap.size ∧ ∃ cs e fz,W.heap[g]? = some (.cells cs e fz) ∧ Rc W (fun x => x) (fun _ => False) (fun _ => False) false (.arr n 1 (l.map D.u32)) cs.toList [] := by
 unfold Lib.TabIs World.var? at h
 simp only [hg,Option.bind_some,List.map_map] at h
 split at h
 · rename_i cs e fz hh
   simp only [Option.some.injEq] at h
   refine ⟨(Array.getElem?_eq_some_iff.1 hh).1,cs,e,fz,hh, ?_⟩
   rw [h]
   exact rc_tab32 l hn
 · cases h
end Go.Sx

namespace Go.Sx
open Go.Proofs
theorem eqIn_refl (x : InS) : eqIn x x = true := by simp [eqIn,eqB_list]
theorem eqOut_refl (x : OutS) : eqOut x x = true := by simp [eqOut]
theorem sameS_refl (t : TxS) : sameS t t = true := sm_t rfl rfl rfl rfl (fun j _ => eqIn_refl _) (fun j _ => eqOut_refl _)
end Go.Sx

namespace Go.Sx
theorem shN_nat (x : UInt64) (i : Nat) : (shN x i).toNat = x.toNat / 256 ^ i := by
 induction i with
 | zero => simp [shN]
 | succ i ih =>
  simp only [shN,shr_u64_toNat,ih,Nat.pow_succ]
  rw [Nat.div_div_eq_div_mul]
  rfl
theorem val_low (x : UInt64) (i : Nat) : val (lowI x i) = x.toNat % 256 ^ i := by
 induction i with
 | zero => simp [lowI,val,Nat.mod_one]
 | succ i ih =>
  rw [lowI,val_snoc,ih,lowI_len,UInt64.toNat_toUInt8,shN_nat,Nat.pow_succ]
  exact (Nat.mod_mul (a := 256 ^ i) (b := 256)).symm
theorem numI_low (x : UInt64) {n : Nat} (hn : n ≤ 8) (hx : x.toNat < 256 ^ n) : numI (lowI x n) n = x := by
 apply UInt64.toNat_inj.1
 rw [numI_val _ _ (by rw [lowI_len]; omega) hn,List.take_of_length_le (by rw [lowI_len]; omega),val_low,Nat.mod_eq_of_lt hx]
theorem takeO_app {b r : List UInt8} {n : Nat} (h : b.length = n) : takeO (b ++ r) n = some (b,r) := by
 subst h
 unfold takeO
 rw [if_pos (by simp),List.take_left,List.drop_left]
theorem numO_low {x : UInt64} {n : Nat} {r : List UInt8} (hn : n ≤ 8) (hx : x.toNat < 256 ^ n) : numO (lowI x n ++ r) n = some (x,r) := by
 unfold numO
 rw [takeO_app (lowI_len x n)]
 simp only [Option.map_some,lowI_len,numI_low x hn hx]
theorem num32 (x : UInt32) {r : List UInt8} : numO (lowI x.toUInt64 4 ++ r) 4 = some (x.toUInt64,r) :=
 numO_low (by decide) (by have := x.toNat_lt; simp only [UInt32.toNat_toUInt64]; omega)
theorem num64 (x : UInt64) {r : List UInt8} : numO (lowI x 8 ++ r) 8 = some (x,r) := numO_low (by decide) (by have := x.toNat_lt; omega)
theorem u32_back (x : UInt32) : x.toUInt64.toUInt32 = x := by simp
theorem cU_nat {n : Nat} (hn : n < 18446744073709551616) : (cU n).toNat = n := ofInt_nat hn
theorem cU_not {n m : Nat} (h : n ≤ m) (hm : m < 18446744073709551616) : ¬ UInt64.ofInt ((m : Nat) : Int) < cU n := by
 rw [UInt64.lt_iff_toNat_lt,ofInt_nat hm,cU_nat (by omega)]; omega
theorem cnt_fin {n : Nat} {r : List UInt8} (h : n ≤ r.length) (hr : r.length ≤ 100000000) : (if UInt64.ofInt ((r.length : Nat) : Int) < cU n then none else some ((cU n).toNat,r)) = some (n,r) := by
 rw [if_neg (cU_not h (by omega)),cU_nat (by omega)]
theorem cnt_back {n : Nat} {r : List UInt8} (h : n ≤ r.length) (hr : r.length ≤ 100000000) : cntO (countS n ++ r) = some (n,r) := by
 have hn : (cU n).toNat = n := cU_nat (by omega)
 unfold countS
 split
 · rename_i h1
   rw [UInt64.lt_iff_toNat_lt,hn] at h1
   have e : (253 : UInt64).toNat = 253 := rfl
   rw [cntO_small (numO_low (by decide) (by omega)) (by rw [UInt64.le_iff_toNat_le,hn]; omega)]
   exact cnt_fin h hr
 · split
   · rename_i h1
     rw [UInt64.le_iff_toNat_le,hn] at h1
     have e : (65535 : UInt64).toNat = 65535 := rfl
     rw [List.append_assoc,cntO_big (numO_low (x := 253) (by decide) (by decide)) (by decide) (y := cU n) (r2 := r) (numO_low (n := 2) (by decide) (by omega))]
     exact cnt_fin h hr
   · split
     · rw [List.append_assoc,cntO_big (numO_low (x := 254) (by decide) (by decide)) (by decide) (y := cU n) (r2 := r) (numO_low (n := 4) (by decide) (by omega))]
       exact cnt_fin h hr
     · rw [List.append_assoc,cntO_big (numO_low (x := 255) (by decide) (by decide)) (by decide) (y := cU n) (r2 := r) (numO_low (n := 8) (by decide) (by omega))]
       exact cnt_fin h hr
theorem item_back {b r : List UInt8} (h : b.length + r.length ≤ 100000000) : itemO (itemS b ++ r) = some (b,r) := by
 unfold itemO itemS
 rw [List.append_assoc,cnt_back (by simp) (by simpa using h)]
 exact takeO_app rfl
theorem in_back {x : InS} {r : List UInt8} (hx : x.tx.length = 32) (h : x.script.length + r.length ≤ 10000000) : inO (inS x ++ r) = some (plP x,r) := by
 unfold inS
 simp only [List.append_assoc]
 rw [inO_s (takeO_app hx) (num32 x.n) (item_back (by simp [lowI_len]; omega)) (num32 x.seq),u32_back,u32_back]
 rfl
theorem out_back {x : OutS} {r : List UInt8} (h : x.script.length + r.length ≤ 10000000) : outO (outS' x ++ r) = some (x,r) := by
 unfold outS'
 simp only [List.append_assoc]
 rw [outO_s (num64 x.value) (item_back (by omega))]
theorem ins_back {l : List InS} (hh : ∀ x ∈ l,x.tx.length = 32) (hs : ∀ x ∈ l,x.script.length ≤ 1000000) : ∀ i,i ≤ l.length → ∀ {r : List UInt8},(insS l i).length + r.length ≤ 9000000 → insO (insS l i ++ r) i = some ((l.take i).map plP,r) := by
 intro i
 induction i with
 | zero => intro _ r _; simp [insS,insO]
 | succ i ih =>
  intro hi r hr
  have hm : l[i]! ∈ l := get_mem (by omega)
  simp only [insS,List.length_append] at hr
  rw [insS,List.append_assoc,insO_s (ih (by omega) (r := inS l[i]! ++ r) (by simp only [List.length_append]; omega)) (in_back (hh _ hm) (by have := hs _ hm; omega)),take_snoc (by omega)]
  simp
theorem outs_back {l : List OutS} (hs : ∀ x ∈ l,x.script.length ≤ 1000000) : ∀ i,i ≤ l.length → ∀ {r : List UInt8},(outsS l i).length + r.length ≤ 9000000 → outsO (outsS l i ++ r) i = some (l.take i,r) := by
 intro i
 induction i with
 | zero => intro _ r _; simp [outsS,outsO]
 | succ i ih =>
  intro hi r hr
  have hm : l[i]! ∈ l := get_mem (by omega)
  simp only [outsS,List.length_append] at hr
  rw [outsS,List.append_assoc,outsO_s (ih (by omega) (r := outS' l[i]! ++ r) (by simp only [List.length_append]; omega)) (out_back (by have := hs _ hm; omega)),take_snoc (by omega)]
theorem insS_len_ge (l : List InS) : ∀ i,i ≤ (insS l i).length := by
 intro i
 induction i with
 | zero => simp
 | succ i ih => simp only [insS,List.length_append,inS,lowI_len]; omega
theorem outsS_len_ge (l : List OutS) : ∀ i,i ≤ (outsS l i).length := by
 intro i
 induction i with
 | zero => simp
 | succ i ih => simp only [outsS,List.length_append,outS',lowI_len]; omega
theorem body_back' {t : TxS} (hw : t.wf) {c r : List UInt8} (hc : ∀ {u : List UInt8},t.ins.length ≤ u.length → u.length ≤ 9000000 → cntO (c ++ u) = some (t.ins.length,u)) (hr : r.length ≤ 4000000) :
 bodyO (c ++ (insS t.ins t.ins.length ++ (countS t.outs.length ++ (outsS t.outs t.outs.length ++ r)))) = some ((t.ins.map plP,t.outs),r) := by
 have h1 := hw.insb _ (Nat.le_refl _)
 have h2 := hw.outsb _ (Nat.le_refl _)
 have h3 := countS_len t.outs.length
 have h4 := insS_len_ge t.ins t.ins.length
 have h5 := outsS_len_ge t.outs t.outs.length
 unfold bodyO
 rw [hc (by simp only [List.length_append]; omega) (by simp only [List.length_append]; omega),Option.bind_some,
  ins_back hw.hash hw.scr _ (Nat.le_refl _) (by simp only [List.length_append]; omega),Option.bind_some,cnt_back (by simp only [List.length_append]; omega) (by simp only [List.length_append]; omega),Option.bind_some,
  outs_back hw.oscr _ (Nat.le_refl _) (by omega)]
 simp
theorem body_back {t : TxS} (hw : t.wf) {r : List UInt8} (hr : r.length ≤ 4000000) : bodyO (bodyS t ++ r) = some ((t.ins.map plP,t.outs),r) := by
 unfold bodyS
 simp only [List.append_assoc]
 exact body_back' hw (fun h1 h2 => cnt_back h1 (by omega)) hr
theorem witS_cons (x : List UInt8) (l : List (List UInt8)) (n : Nat) : witS (x :: l) (n + 1) = itemS x ++ witS l n := by
 induction n with
 | zero => simp [witS]
 | succ n ih =>
  rw [witS,ih,witS,List.append_assoc]
  simp
theorem witsS_cons (x : InS) (l : List InS) (n : Nat) : witsS (x :: l) (n + 1) = countS x.wit.length ++ (witS x.wit x.wit.length ++ witsS l n) := by
 induction n with
 | zero => simp [witsS]
 | succ n ih =>
  rw [witsS,ih,witsS]
  simp
theorem items_back (l : List (List UInt8)) {r : List UInt8} (h : (witS l l.length).length + r.length ≤ 9000000) : itemsO l.length (witS l l.length ++ r) = some (l,r) := by
 induction l with
 | nil => simp [itemsO,witS]
 | cons x l ih =>
  rw [List.length_cons,witS_cons] at h
  simp only [List.length_append,itemS] at h
  rw [List.length_cons,witS_cons,List.append_assoc,itemsO,item_back (by simp only [List.length_append]; omega),Option.bind_some,ih (by omega)]
  rfl
theorem witS_len_ge (l : List (List UInt8)) : ∀ i,i ≤ (witS l i).length := by
 intro i
 induction i with
 | zero => simp
 | succ i ih =>
  have : 1 ≤ (countS l[i]!.length).length := by
   unfold countS
   split
   · simp [lowI_len]
   · split
     · simp [lowI_len]
     · split <;> simp [lowI_len]
  simp only [witS,List.length_append,itemS]; omega
theorem wits_back (l : List InS) {r : List UInt8} (h : (witsS l l.length).length + r.length ≤ 9000000) : witsO (l.map plP) (witsS l l.length ++ r) = some (l,r) := by
 induction l with
 | nil => simp [witsO,witsS]
 | cons x l ih =>
  rw [List.length_cons,witsS_cons] at h
  simp only [List.length_append] at h
  have hx := witS_len_ge x.wit x.wit.length
  rw [List.length_cons,witsS_cons,List.map_cons,witsO]
  simp only [List.append_assoc]
  rw [wo_s (cnt_back (by simp only [List.length_append]; omega) (by simp only [List.length_append]; omega)) (items_back x.wit (by simp only [List.length_append]; omega)),Option.bind_some,ih (by omega)]
  rfl
theorem seenB_cons {x : UInt8} {r : List UInt8} : seenB (x :: r) = (x == 0) := by simp [seenB]
theorem count_head {n : Nat} (h1 : 0 < n) (h2 : n ≤ 1000000) : ∃ x r,countS n = x :: r ∧ (x == 0) = false := by
 have hn : (cU n).toNat = n := cU_nat (by omega)
 unfold countS
 split
 · rename_i h
   rw [UInt64.lt_iff_toNat_lt,hn] at h
   have e : (253 : UInt64).toNat = 253 := rfl
   refine ⟨(cU n).toUInt8,[],rfl, ?_⟩
   rw [beq_eq_false_iff_ne]
   intro hc
   have := congrArg UInt8.toNat hc
   rw [UInt64.toNat_toUInt8,hn] at this
   have e0 : (0 : UInt8).toNat = 0 := rfl
   omega
 · split
   · exact ⟨_,_,rfl,by decide⟩
   · split
     · exact ⟨_,_,rfl,by decide⟩
     · exact ⟨_,_,rfl,by decide⟩
theorem plP_of {x : InS} (h : x.wit = []) : plP x = x := by cases x; simp only [plP] at *; simp [h]
theorem map_pl {l : List InS} (h : ∀ x ∈ l,x.wit = []) : l.map plP = l := by
 induction l with
 | nil => rfl
 | cons x l ih => rw [List.map_cons,plP_of (h x (by simp)),ih (fun y hy => h y (by simp [hy]))]
theorem seenS_false {t : TxS} (h : seenS t = false) : ∀ x ∈ t.ins,x.wit = [] := by
 unfold seenS at h
 rw [List.any_eq_false] at h
 intro x hx
 have := h x hx
 exact List.eq_nil_of_length_eq_zero (by simpa using this)
theorem read_bare {t : TxS} (hw : t.wf) {c : List UInt8} {x : UInt8} {c' : List UInt8} (hx : c = x :: c') (h0 : (x == 0) = false)
 (hc : ∀ {u : List UInt8},t.ins.length ≤ u.length → u.length ≤ 9000000 → cntO (c ++ u) = some (t.ins.length,u)) {b : List UInt8}
 (hb : b = lowI t.ver.toUInt64 4 ++ (c ++ (insS t.ins t.ins.length ++ (countS t.outs.length ++ (outsS t.outs t.outs.length ++ lowI t.lock.toUInt64 4))))) :
 getO b = finO b ⟨t.ver,t.ins.map plP,t.outs,t.lock⟩ [] := by
 have hs : seenB (c ++ (insS t.ins t.ins.length ++ (countS t.outs.length ++ (outsS t.outs t.outs.length ++ lowI t.lock.toUInt64 4)))) = false := by
  rw [hx,List.cons_append,seenB_cons,h0]
 have h1 := num32 t.ver (r := c ++ (insS t.ins t.ins.length ++ (countS t.outs.length ++ (outsS t.outs t.outs.length ++ lowI t.lock.toUInt64 4))))
 rw [← hb] at h1
 have h2 := pre_0 hs
 have h3 := body_back' hw hc (r := lowI t.lock.toUInt64 4) (by simp [lowI_len])
 have h4 := wq_f hs (ins := t.ins.map plP) (r1 := lowI t.lock.toUInt64 4)
 have h5 : numO (lowI t.lock.toUInt64 4) 4 = some (t.lock.toUInt64,[]) := by have := num32 t.lock (r := []); rwa [List.append_nil] at this
 rw [go_6 h1 h2 h3 h4 h5,u32_back,u32_back]
theorem read_seen {t : TxS} (hw : t.wf) {w : List UInt8} {l : List InS} (hl : witsO (t.ins.map plP) (w ++ lowI t.lock.toUInt64 4) = some (l,lowI t.lock.toUInt64 4)) (hwl : w.length ≤ 2000000) {b : List UInt8}
 (hb : b = lowI t.ver.toUInt64 4 ++ ([0,1] ++ (bodyS t ++ (w ++ lowI t.lock.toUInt64 4)))) :
 getO b = finO b ⟨t.ver,l,t.outs,t.lock⟩ [] := by
 have hs : seenB ([0,1] ++ (bodyS t ++ (w ++ lowI t.lock.toUInt64 4))) = true := by rw [List.cons_append,seenB_cons]; rfl
 have h1 := num32 t.ver (r := [0,1] ++ (bodyS t ++ (w ++ lowI t.lock.toUInt64 4)))
 rw [← hb] at h1
 have h2 := pre_s hs (takeO_app (b := [0,1]) rfl)
 have h3 := body_back hw (r := w ++ lowI t.lock.toUInt64 4) (by simp [lowI_len]; omega)
 have h4 := (wq_t hs (ins := t.ins.map plP) (r1 := w ++ lowI t.lock.toUInt64 4)).trans hl
 have h5 : numO (lowI t.lock.toUInt64 4) 4 = some (t.lock.toUInt64,[]) := by have := num32 t.lock (r := []); rwa [List.append_nil] at this
 rw [go_6 h1 h2 h3 h4 h5,u32_back,u32_back]
theorem get_put {t : TxS} (hw : t.wf) (hi : 0 < t.ins.length) : getO (putS t) = finO (putS t) t [] := by
 cases hs : seenS t with
 | true =>
  have hb : putS t = lowI t.ver.toUInt64 4 ++ ([0,1] ++ (bodyS t ++ (witsS t.ins t.ins.length ++ lowI t.lock.toUInt64 4))) := by simp [putS,hs]
  have h1 := hw.witsb _ (Nat.le_refl _)
  rw [read_seen hw (wits_back t.ins (by simp [lowI_len]; omega)) (by omega) hb]
 | false =>
  have hb : putS t = lowI t.ver.toUInt64 4 ++ (countS t.ins.length ++ (insS t.ins t.ins.length ++ (countS t.outs.length ++ (outsS t.outs t.outs.length ++ lowI t.lock.toUInt64 4)))) := by simp [putS,hs,bareS,bodyS]
  obtain ⟨x,r,hx,h0⟩ := count_head hi hw.ins
  rw [read_bare hw hx h0 (fun h1 h2 => cnt_back h1 (by omega)) hb,map_pl (seenS_false hs)]
theorem fin_nil (b : List UInt8) (t : TxS) : finO b t [] = if mayS t = true ∧ putS t = b then some t else none := by
 unfold finO
 simp
theorem get_put' {t : TxS} (hw : t.wf) (hi : 0 < t.ins.length) : getO (putS t) = if mayS t = true then some t else none := by
 rw [get_put hw hi,fin_nil]; simp
theorem mayS_ins {t : TxS} (h : mayS t = true) : 0 < t.ins.length := by
 have := of_decide_eq_true h
 unfold mayP at this
 omega
end Go.Sx
