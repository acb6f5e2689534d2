/-
 Own library: arguments that a statement's form reads as data,as D; a contract from what a function computes.
-/
import Derived.Test.YthhliikibffhjaaDoorMSxOwn
import Derived.OpenShut
import Derived.Carry
import Derived.Deep.Slices
import Derived.Deep.DeepHandedRow
import Derived.Lib.LaidTab
set_option linter.unusedVariables false
set_option linter.unusedSimpArgs false
set_option linter.unnecessarySimpa false

namespace Go.Sx
open Go.ChangeShapes Go.WideShapes

structure Rd (P : Program) (t : TypeId) (z : Nat) {α : Type} (f : α → D) (q : α → Prop) : Prop where
 cells : P.cellsOf t = z
 sz : ∀ a,q a → (f a).sz = z
 rd : ∀ {H : Type} {enc : TypeId × Value → H} {w : World} {n : Nat} {cs : List Value} {x : DataW H × List MemPlace},DataW.trod enc P w 0 (fun _ => true) true n t cs = some x →
  (x.1.weights P t).all (· ≤ reachBytes) = true → ∃ a,q a ∧ Rc w (fun x => x) (fun b => b < w.heap.size) (fun _ => False) false (f a) cs []

variable {P : Program} {t e z : Nat}

theorem Rd.u8 (ht : P.underlying t = some (.int .u8)) (hz : P.cellsOf t = 1) : Rd P t 1 D.u8 (fun _ => True) :=
 ⟨hz,fun _ _ => rfl,fun h _ => by
  obtain ⟨n,rfl,_,hw⟩ := DataW.trod_int ht h
  simp [Lit.wf,IntKind.min,IntKind.max,IntKind.signed,IntKind.bits] at hw
  refine ⟨UInt8.ofNat n.toNat,trivial, ?_⟩
  have : ((UInt8.ofNat n.toNat).toNat : Int) = n := by simp [UInt8.toNat_ofNat']; omega
  have h1 := Rc.u8 (w := ‹World›) (ρ := fun x => x) (G := fun b => b < (‹World›).heap.size) (L := fun _ => False) (p := false) (UInt8.ofNat n.toNat)
  rw [this] at h1
  exact h1⟩
theorem weightsEach_get {H : Type} {p : Nat → Bool} : ∀ {ts : List TypeId} {l : List (DataW H)},(DataW.weightsEach P ts l).all p = true → ∀ (i : Nat) (t : TypeId) (d : DataW H),ts[i]? = some t → l[i]? = some d → (d.weights P t).all p = true := by
 intro ts
 induction ts with
 | nil => intro l _ i t d ht; simp at ht
 | cons t0 ts ih =>
  intro l h i t d ht hd
  cases l with
  | nil => simp at hd
  | cons x r =>
   simp only [DataW.weightsEach,List.all_append,Bool.and_eq_true] at h
   cases i with
   | zero => simp at ht hd; subst ht; subst hd; exact h.1
   | succ i => exact ih h.2 i t d (by simpa using ht) (by simpa using hd)

def isAggT (P : Program) (t : TypeId) : Bool := match P.underlying t with
 | some (.struct _) => true
 | some (.array _ _) => true
 | _ => false
theorem cells_one {r : Reach} {W : World} {base : Nat} {v : Value} (hu : isAggT P t = false) (hv : Value.okWide P W r base t v) : v.cells = #[v] := by
 cases v with
 | agg cs =>
  exfalso
  unfold isAggT at hu
  unfold Value.okWide at hv
  split at hv
  · rename_i h; simp [h] at hu
  · rename_i h; simp [h] at hu
  · unfold Cell.okWide Cell.ok at hv
    split at hv <;> simp_all
 | _ => rfl
theorem Rd.arg {H : Type} {enc : TypeId × Value → H} {α : Type} {f : α → D} {q : α → Prop} {g : Bool} {r : Reach} {W : World} {base : Nat} {v : Value} {d : DataW H} {ps : List MemPlace} (h : Rd P t z f q) (hu : isAggT P t = g) (hg : ∀ a,q a → (f a).isAgg = g)
 (hv : Value.okWide P W r base t v) (hd : DataW.Trod enc P W 0 (fun _ => true) true t v d ps) (hw : (d.weights P t).all (· ≤ reachBytes) = true) :
 ∃ a,q a ∧ VR W (fun x => x) (fun b => b < W.heap.size) (fun _ => False) (f a) v [] := by
 obtain ⟨fuel,hd⟩ := hd
 obtain ⟨a,ha,hr⟩ := h.rd hd hw
 refine ⟨a,ha, ?_⟩
 have hga := hg a ha
 cases g with
 | true =>
  have : ∃ cs,v = .agg cs := by
   unfold isAggT at hu
   unfold Value.okWide at hv
   split at hv
   · exact ⟨_,hv.choose_spec.1⟩
   · exact ⟨_,hv.choose_spec.1⟩
   · split at hu <;> simp_all
  obtain ⟨cs,rfl⟩ := this
  simp only [VR,hga,if_true]
  exact ⟨cs,rfl,hr.flag⟩
 | false =>
  rw [cells_one hu hv] at hr
  simp only [VR,hga,if_false,Bool.false_eq_true]
  exact hr.flag

theorem trodAll_stays {H : Type} {enc : TypeId × Value → H} {W W' : World} {sp : Nat → Bool} (hl : laidOutB P = true) (hb : ∀ b,b < W.heap.size → W'.heap[b]? = W.heap[b]?) :
 ∀ {ts : List TypeId} {vs : List Value} {ds : List (DataW H)} {ps : List MemPlace},(ts.all fun t => P.readableRec t && decide (t < P.types.size)) = true → (∀ x ∈ ps,x.block < W.heap.size) → (∀ x ∈ ps,sp x.block = true) →
  DataW.TrodAll enc P W 0 (fun _ => true) true ts vs ds ps → DataW.TrodAll enc P W' 0 sp true ts vs ds ps := by
 intro ts
 induction ts with
 | nil => intro vs ds ps _ _ _ h; obtain ⟨rfl,rfl,rfl⟩ := trodAll_nil h; exact trodAll_mk0
 | cons t ts ih =>
  intro vs ds ps ht hlt hs h
  obtain ⟨v,vs1,d,ds1,a,b,rfl,rfl,rfl,h1,h2⟩ := trodAll_cons h
  simp only [List.all_cons,Bool.and_eq_true,decide_eq_true_eq] at ht
  refine trodAll_cons_mk (Go.WideElems.Trod_stays hl ht.1.1 ht.1.2 h1 (fun x hx => ?_) (fun x hx => hs x (List.mem_append.2 (.inl hx)))) (ih ht.2 (fun x hx => hlt x (List.mem_append.2 (.inr hx))) (fun x hx => hs x (List.mem_append.2 (.inr hx))) h2)
  have hx' := hlt x (List.mem_append.2 (.inl hx))
  cases x with
  | cell b o => exact World.cell?_of_block (w := W) (hb b hx')
  | map b => exact hb b hx'

theorem contract_of {H : Type} {enc : TypeId × Value → H} {fn : Func} {f : FuncId} {s : ChangeSpec} {W : World} {args : Array Value} {ds gs : List (DataW H)} {before : List MemPlace} {tb : TypeId} {gl : List (Nat × D)} {Ds : List D}
 (hl : laidOutB P = true) (hpar : (fn.params.toList.all fun t => P.readableRec t && decide (t < P.types.size)) = true) (hres : fn.resultTypes = #[tb]) (htb : P.underlying tb = some .bool) (hsv : s.vars = [])
 (hfn : s.fn H ds = { results := [.lit (.bool true)],args := ds }) (hW : DataW.Whole enc P fn.params.toList s.vars false W args.toList ds gs before)
 (hgl : ∀ g d,(g,d) ∈ gl → g < W.heap.size ∧ ∃ cs e fz,W.heap[g]? = some (.cells cs e fz) ∧ Rc W (fun x => x) (fun _ => False) (fun _ => False) false d cs.toList [])
 (hlen : args.toList.length = Ds.length) (hargs : ∀ k (h : k < Ds.length),VR W (fun x => x) (fun b => b < W.heap.size) (fun _ => False) Ds[k] (args.toList.getD k undef) [])
 (hf : Fn P gl f Ds (.bool true)) : Calls P f args W fun e W' => ∃ v,e = .returned v ∧ s.post enc P fn false true false false W args v W' := by
 have hrun := hf W (fun b => b < W.heap.size) args.toList hgl hlen hargs
 rw [Array.toArray_toList] at hrun
 refine hrun.mono fun ex W' ⟨v,F,he,hext,_,_,hrv⟩ => ⟨v,he, ?_⟩
 have hv : v = .bool true := by
  obtain ⟨_,h2⟩ := hrv
  simp only [VR,D.isAgg,Bool.false_eq_true,if_false] at h2
  cases h2
  rfl
 subst hv
 have hlt := hW.lt
 have hW0 := hW
 obtain ⟨p,q',hA,hV,rfl,hfz,hnd⟩ := hW
 rw [hsv] at hV
 obtain ⟨rfl,rfl⟩ := trodVars_none hV
 simp only [List.append_nil] at hlt hW0
 have hst : ∀ sp : Nat → Bool,(∀ x ∈ p,sp x.block = true) → DataW.TrodAll enc P W' 0 sp true fn.params.toList args.toList ds p := fun sp hs => trodAll_stays hl (fun b hb => hext.block b hb) hpar hlt hs hA
 refine ⟨ds,[],p,[],p,[],hW0, ?_, ?_, ?_,⟨hext.os,hext.output,fun i hi => ?_⟩,fun h => by cases h⟩
 · rw [hres]
   simp only [List.append_nil,hfn]
   exact trodAll_cons_mk (Go.RowKit.shut_bool htb true) trodAll_mk0
 · simp only [List.append_nil,hfn]
   exact hst _ (fun x hx => by simpa using hlt x hx)
 · simp only [List.append_nil,hfn,hsv]
   rfl
 · rw [hext.block i hi]
   cases hh : W.heap[i]? with
   | none => simp
   | some o => cases o <;> simp

theorem rc_tab32 {w : World} {ρ : Nat → Nat} {G L : Nat → Prop} (l : List UInt32) {n : Nat} (hn : l.length = n) : Rc w ρ G L false (.arr n 1 (l.map D.u32)) (l.map fun x => Value.int .u32 x.toNat) [] := by
 refine .arr n 1 _ _ (by simpa using hn) (by simp [hn]) (fun i hi => ?_)
 have hi' : i < l.length := by simpa using hi
 simp only [Nat.mul_one,List.getElem_map]
 rw [List.drop_eq_getElem_cons (by simpa using hi'),List.take_succ_cons,List.take_zero,List.getElem_map]
 exact .u32 _
theorem gl_tab32 {W : World} {name : String} {g n : Nat} (l : List UInt32) (hg : P.globalNamed name = some g) (hn : l.length = n) (h : Lib.TabIs P W name .u32 (l.map fun x => ((x.toNat : Nat) : Int))) :
 g < W.heap.size ∧ ∃ cs e fz,W.heap[g]? = some (.cells cs e fz) ∧ Rc W (fun x => x) (fun _ => False) (fun _ => False) false (.arr n 1 (l.map D.u32)) cs.toList [] := by
 unfold Lib.TabIs World.var? at h
 simp only [hg,Option.bind_some,List.map_map] at h
 split at h
 · rename_i cs e fz hh
   simp only [Option.some.injEq] at h
   refine ⟨(Array.getElem?_eq_some_iff.1 hh).1,cs,e,fz,hh, ?_⟩
   rw [h]
   exact rc_tab32 l hn
 · cases h
end Go.Sx
