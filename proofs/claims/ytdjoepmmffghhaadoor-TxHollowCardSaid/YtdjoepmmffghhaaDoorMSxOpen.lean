/-
 Own library: arguments that a statement's form reads as data,as D; a contract from what a function computes.
-/
import Derived.Test.YtdjoepmmffghhaaDoorMSxOwn
import Derived.OpenShut
import Derived.Carry
import Derived.Deep.Slices
import Derived.Deep.DeepHandedRow
import Derived.Lib.LaidTab
import Derived.Test.YtdjoepmmffghhaaDoorMTxMid8
import Derived.Lib.AppendZerosOnto
set_option linter.unusedVariables false
set_option linter.unusedSimpArgs false
set_option linter.unnecessarySimpa false

namespace Go.Sx
open Go.ChangeShapes Go.WideShapes

structure Rd (P : Program) (t : TypeId) (z : Nat) {α : Type} (f : α → D) (q : α → Prop) : Prop where
 cells : P.cellsOf t = z
 sz : ∀ a,q a → (f a).sz = z
 rd : ∀ {H : Type} {enc : TypeId × Value → H} {w : World} {n : Nat} {cs : List Value} {x : DataW H × List MemPlace},DataW.trod enc P w 0 (fun _ => true) true n t cs = some x →
  (x.1.weights P t).all (· ≤ reachBytes) = true → ∃ a,q a ∧ Rc w (fun x => x) (fun b => b < w.heap.size) (fun _ => False) false (f a) cs []

variable {P : Program} {t e z : Nat}

theorem Rd.u8 (ht : P.underlying t = some (.int .u8)) (hz : P.cellsOf t = 1) : Rd P t 1 D.u8 (fun _ => True) :=
 ⟨hz,fun _ _ => rfl,fun h _ => by
  obtain ⟨n,rfl,_,hw⟩ := DataW.trod_int ht h
  simp [Lit.wf,IntKind.min,IntKind.max,IntKind.signed,IntKind.bits] at hw
  refine ⟨UInt8.ofNat n.toNat,trivial, ?_⟩
  have : ((UInt8.ofNat n.toNat).toNat : Int) = n := by simp [UInt8.toNat_ofNat']; omega
  have h1 := Rc.u8 (w := ‹World›) (ρ := fun x => x) (G := fun b => b < (‹World›).heap.size) (L := fun _ => False) (p := false) (UInt8.ofNat n.toNat)
  rw [this] at h1
  exact h1⟩
theorem Rd.u32 (ht : P.underlying t = some (.int .u32)) (hz : P.cellsOf t = 1) : Rd P t 1 D.u32 (fun _ => True) :=
 ⟨hz,fun _ _ => rfl,fun h _ => by
  obtain ⟨n,rfl,_,hw⟩ := DataW.trod_int ht h
  simp [Lit.wf,IntKind.min,IntKind.max,IntKind.signed,IntKind.bits] at hw
  refine ⟨UInt32.ofNat n.toNat,trivial, ?_⟩
  have : ((UInt32.ofNat n.toNat).toNat : Int) = n := by simp [UInt32.toNat_ofNat']; omega
  have h1 := Rc.u32 (w := ‹World›) (ρ := fun x => x) (G := fun b => b < (‹World›).heap.size) (L := fun _ => False) (p := false) (UInt32.ofNat n.toNat)
  rw [this] at h1
  exact h1⟩
theorem Rd.u64 (ht : P.underlying t = some (.int .u64)) (hz : P.cellsOf t = 1) : Rd P t 1 D.u64 (fun _ => True) :=
 ⟨hz,fun _ _ => rfl,fun h _ => by
  obtain ⟨n,rfl,_,hw⟩ := DataW.trod_int ht h
  simp [Lit.wf,IntKind.min,IntKind.max,IntKind.signed,IntKind.bits] at hw
  refine ⟨UInt64.ofNat n.toNat,trivial, ?_⟩
  have : ((UInt64.ofNat n.toNat).toNat : Int) = n := by simp [UInt64.toNat_ofNat']; omega
  have h1 := Rc.u64 (w := ‹World›) (ρ := fun x => x) (G := fun b => b < (‹World›).heap.size) (L := fun _ => False) (p := false) (UInt64.ofNat n.toNat)
  rw [this] at h1
  exact h1⟩

theorem weightsAll_mem {H : Type} {p : Nat → Bool} {l : List (DataW H)} (h : (DataW.weightsAll P e l).all p = true) : ∀ d ∈ l,(d.weights P e).all p = true := by
 induction l with
 | nil => intro d hd; cases hd
 | cons x r ih =>
  simp only [DataW.weightsAll,List.all_append,Bool.and_eq_true] at h
  intro d hd
  rcases List.mem_cons.1 hd with rfl | hd
  · exact h.1
  · exact ih h.2 d hd
theorem weightsEach_get {H : Type} {p : Nat → Bool} : ∀ {ts : List TypeId} {l : List (DataW H)},(DataW.weightsEach P ts l).all p = true → ∀ (i : Nat) (t : TypeId) (d : DataW H),ts[i]? = some t → l[i]? = some d → (d.weights P t).all p = true := by
 intro ts
 induction ts with
 | nil => intro l _ i t d ht; simp at ht
 | cons t0 ts ih =>
  intro l h i t d ht hd
  cases l with
  | nil => simp at hd
  | cons x r =>
   simp only [DataW.weightsEach,List.all_append,Bool.and_eq_true] at h
   cases i with
   | zero => simp at ht hd; subst ht; subst hd; exact h.1
   | succ i => exact ih h.2 i t d (by simpa using ht) (by simpa using hd)

theorem list_of {α : Type} {n : Nat} {p : Nat → α → Prop} (h : ∀ i,i < n → ∃ a,p i a) : ∃ l : List α,l.length = n ∧ ∀ i (hi : i < l.length),p i l[i] := by
 induction n with
 | zero => exact ⟨[],rfl,fun i hi => by simp at hi⟩
 | succ n ih =>
  obtain ⟨l,hl,hp⟩ := ih (fun i hi => h i (by omega))
  obtain ⟨a,ha⟩ := h n (by omega)
  refine ⟨l ++ [a],by simp [hl],fun i hi => ?_⟩
  rcases Nat.lt_or_ge i l.length with h1 | h1
  · rw [List.getElem_append_left h1]; exact hp i h1
  · have : i = n := by simp at hi; omega
    subst this
    rw [List.getElem_append_right h1]
    simpa [hl] using ha

theorem cells_row {w : World} {b off n : Nat} {c : Array Value} {ty : TypeId} {fz : Nat × Nat} {cs : List Value} (hb : w.heap[b]? = some (.cells c ty fz)) (h : w.cells? 0 ⟨b,off,none⟩ n = some cs) (hn : 0 < n) :
 off + n ≤ c.size ∧ cs = (c.toList.drop off).take n := by
 obtain ⟨_,hl,hc⟩ := World.cells?_some h
 have hc' : ∀ i,i < n → c[off + i]? = cs[i]? := fun i hi => by
  have := hc i hi
  rw [add_lit,cell_of_row w b _ c ty fz hb] at this
  exact this
 have h1 := hc' (n - 1) (by omega)
 have h2 : off + (n - 1) < c.size := by
  rw [List.getElem?_eq_getElem (by omega)] at h1
  exact (Array.getElem?_eq_some_iff.1 h1).1
 refine ⟨by omega, ?_⟩
 apply List.ext_getElem?
 intro i
 rw [List.getElem?_take]
 split
 · rw [List.getElem?_drop]
   rw [← hc' i (by assumption)]
   simp
 · rw [List.getElem?_eq_none (by omega)]

theorem Rd.sl {α : Type} {f : α → D} {q : α → Prop} (ht : P.underlying t = some (.slice e)) (hz : P.cellsOf t = 1) (h0 : 0 < z) (hby : 0 < P.bytesOf e) (he : Rd P e z f q) :
 Rd P t 1 (fun l : List α => .sl none z (l.map f)) (fun l => l.length ≤ 140737488355328 ∧ ∀ x ∈ l,q x) :=
 ⟨hz,fun _ _ => rfl,fun {H enc w n cs x} h hwt => by
  rcases Go.Deep.open_slice ht h with ⟨rfl,_⟩ | ⟨a,len,cap,m,n',Dd,Pl,rfl,_,hlc,hcm,hm,rfl,hx⟩
  · exact ⟨[],⟨by simp,by simp⟩,.slN none z⟩
  · simp only [if_true] at hm
    have hx := fun i (hi : i < cap) => hx i (by omega)
    simp only [DataW.weights,ht,List.all_cons,List.all_append,Bool.and_eq_true,decide_eq_true_eq,List.length_map,List.length_range] at hwt
    obtain ⟨hw1,hw2,hw3⟩ := hwt
    have hw4 : ∀ i,i < len → ((Dd i).weights P e).all (· ≤ reachBytes) = true := fun i hi => weightsAll_mem hw2 _ (List.mem_map.2 ⟨i,List.mem_range.2 hi,rfl⟩)
    have hlen : len ≤ 140737488355328 := by
     have h6 : len * 1 ≤ (len + (m - len)) * P.bytesOf e := Nat.mul_le_mul (by omega) hby
     simp only [reachBytes] at hw1
     omega
    rcases Nat.eq_zero_or_pos cap with rfl | hcap
    · have : len = 0 := by omega
      subst this
      exact ⟨[],⟨by simp,by simp⟩,.slE none z a⟩
    · rw [he.cells] at hx
      obtain ⟨b,off,sp⟩ := a
      obtain ⟨cs0,hc0,_⟩ := hx 0 hcap
      obtain ⟨_,hl0,hv0⟩ := World.cells?_some hc0
      have h1 := hv0 0 h0
      rw [List.getElem?_eq_getElem (by omega)] at h1
      have hblk : ∃ c ty fz,w.heap[b]? = some (.cells c ty fz) ∧ sp = none := by
       have e0 : ((⟨b,off,sp⟩ : Addr).add (0 * z)).add 0 = ⟨b,off,sp⟩ := by simp [Addr.add]
       rw [e0] at h1
       unfold World.cell? at h1
       simp only at h1
       split at h1
       · rename_i c ty fz hh
         cases sp with
         | none => exact ⟨c,ty,fz,hh,rfl⟩
         | some s => simp at h1
       · cases h1
      obtain ⟨c,ty,fz,hb,rfl⟩ := hblk
      have hrow : ∀ i,i < cap → off + i * z + z ≤ c.size ∧ (i < len → ∃ a,q a ∧ Rc w (fun x => x) (fun b => b < w.heap.size) (fun _ => False) false (f a) ((c.toList.drop (off + i * z)).take z) []) := fun i hi => by
       obtain ⟨cs',h2,h3⟩ := hx i hi
       rw [add_lit] at h2
       obtain ⟨h4,rfl⟩ := cells_row hb h2 h0
       exact ⟨h4,fun hi => he.rd h3 (hw4 i hi)⟩
      obtain ⟨l,hl,hp⟩ := list_of (fun i hi => (hrow i (by omega : i < cap)).2 hi : ∀ i,i < len → _)
      have hsz : off + cap * z ≤ c.size := by
       have h5 := (hrow (cap - 1) (by omega)).1
       have : (cap - 1) * z + z = cap * z := by rw [← Nat.succ_mul]; congr 1; omega
       omega
      have hlz : len * z ≤ cap * z := Nat.mul_le_mul_right z hlc
      refine ⟨l,⟨by omega,fun y hy => ?_⟩, ?_⟩
      · obtain ⟨i,hi,rfl⟩ := List.mem_iff_getElem.1 hy
        exact (hp i hi).1
      · have := Rc.slI (w := w) (ρ := fun x => x) (G := fun b => b < w.heap.size) (L := fun _ => False) (p := false) b off c ty fz cap z (l.map f) hb (Array.getElem?_eq_some_iff.1 hb).1 (by simp; omega) (by simp [hl]; omega)
         (fun i hi => by simp only [List.getElem_map]; exact (hp i (by simpa using hi)).2)
        simpa [hl] using this⟩

theorem Rd.arr {α : Type} {f : α → D} {q : α → Prop} {n zz : Nat} (ht : P.underlying t = some (.array n e)) (hz : P.cellsOf t = zz) (hzz : zz = n * z) (he : Rd P e z f q) :
 Rd P t zz (fun l : List α => .arr n z (l.map f)) (fun l => l.length = n ∧ ∀ x ∈ l,q x) :=
 ⟨hz,fun _ _ => by simp [hzz],fun {H enc w m cs x} h hwt => by
  obtain ⟨xs,m',_,rfl,hlen,hxl,hx⟩ := DataW.trod_array ht h
  rw [hz] at hlen
  rw [he.cells] at hx
  obtain ⟨l,hl,hp⟩ := list_of (p := fun i a => q a ∧ Rc w (fun x => x) (fun b => b < w.heap.size) (fun _ => False) false (f a) ((cs.drop (i * z)).take z) []) (n := n) (fun i hi => by
   have := hx i hi
   rw [List.getElem?_eq_getElem (by omega)] at this
   simp only [DataW.weights,ht] at hwt
   exact he.rd this (weightsAll_mem hwt _ (List.mem_map.2 ⟨_,List.getElem_mem _,rfl⟩)))
  refine ⟨l,⟨hl,fun y hy => ?_⟩,.arr n z _ cs (by simpa using hl) (by omega) (fun i hi => by simp only [List.getElem_map]; exact (hp i (by simpa using hi)).2)⟩
  obtain ⟨i,hi,rfl⟩ := List.mem_iff_getElem.1 hy
  exact (hp i hi).1⟩

theorem Rd.map {α β : Type} {f : α → D} {q : α → Prop} {g : β → D} {q' : β → Prop} (h : Rd P t z f q) (m : α → β) (hm : ∀ a,q a → q' (m a) ∧ g (m a) = f a) (hs : ∀ b,q' b → (g b).sz = z) : Rd P t z g q' :=
 ⟨h.cells,hs,fun hx hw => by
  obtain ⟨a,ha,hr⟩ := h.rd hx hw
  obtain ⟨h1,h2⟩ := hm a ha
  exact ⟨m a,h1,by rw [h2]; exact hr⟩⟩

structure RdF (P : Program) (off : Nat) (fs : List Field) (e : Nat) {α : Type} (f : α → List D) (q : α → Prop) : Prop where
 sz : ∀ a,q a → off + D.szs (f a) = e
 rd : ∀ {H : Type} {enc : TypeId × Value → H} {w : World} {n : Nat} {cs : List Value},(∀ fld ∈ fs,∃ x,DataW.trod enc P w 0 (fun _ => true) true n fld.type ((cs.drop fld.offset).take (P.cellsOf fld.type)) = some x ∧ (x.1.weights P fld.type).all (· ≤ reachBytes) = true) →
  ∃ a,q a ∧ ∀ k (hk : k < (f a).length),Rc w (fun x => x) (fun b => b < w.heap.size) (fun _ => False) false (f a)[k] ((cs.drop (off + offk (f a) k)).take (f a)[k].sz) []

theorem RdF.nil {off : Nat} : RdF P off [] off (fun _ : Unit => []) (fun _ => True) :=
 ⟨fun _ _ => by simp,fun _ => ⟨(),trivial,fun k hk => by simp at hk⟩⟩
theorem RdF.cons {α β : Type} {f : α → D} {q : α → Prop} {g : β → List D} {q' : β → Prop} {off e' : Nat} {fld : Field} {fs : List Field} (h : Rd P fld.type z f q) (ho : fld.offset = off) (hr : RdF P (off + z) fs e' g q') :
 RdF P off (fld :: fs) e' (fun a : α × β => f a.1 :: g a.2) (fun a => q a.1 ∧ q' a.2) :=
 ⟨fun a ha => by have := hr.sz a.2 ha.2; have := h.sz a.1 ha.1; simp only [szs_cons]; omega,fun {H enc w n cs} hx => by
  obtain ⟨x,h1,hw⟩ := hx fld (by simp)
  rw [ho,h.cells] at h1
  obtain ⟨a,ha,hra⟩ := h.rd h1 hw
  obtain ⟨b,hb,hrb⟩ := hr.rd (fun f hf => hx f (List.mem_cons_of_mem _ hf))
  refine ⟨(a,b),⟨ha,hb⟩,fun k hk => ?_⟩
  cases k with
  | zero => simpa [offk,h.sz a ha] using hra
  | succ k =>
   have := hrb k (by simpa using hk)
   simp only [offk,List.take_succ_cons,szs_cons,List.getElem_cons_succ,h.sz a ha]
   rw [← Nat.add_assoc]
   exact this⟩
theorem Rd.struct {α : Type} {g : α → List D} {q : α → Prop} {fs : Array Field} (ht : P.underlying t = some (.struct fs)) (hz : P.cellsOf t = z) (h : RdF P 0 fs.toList z g q) : Rd P t z (fun a => .agg (g a)) q :=
 ⟨hz,fun a ha => by have := h.sz a ha; simp; omega,fun {H enc w n cs x} hx hwt => by
  obtain ⟨xs,m,_,rfl,hlen,hxl,hf⟩ := DataW.trod_struct ht hx
  obtain ⟨a,ha,hr⟩ := h.rd (H := H) (enc := enc) (w := w) (n := m) (cs := cs) (fun fld hm => by
   obtain ⟨i,hi,rfl⟩ := List.mem_iff_getElem.1 hm
   have h1 := hf i fs[i] (by simp at hi; simp [hi])
   rw [List.getElem?_eq_getElem (by simp at hi; omega)] at h1
   simp only [DataW.weights,ht] at hwt
   refine ⟨_,by simpa using h1, ?_⟩
   exact weightsEach_get hwt i _ _ (by simp at hi; simp [hi]) (by simp at hi; rw [List.getElem?_map,List.getElem?_eq_getElem (by omega)]; rfl))
  refine ⟨a,ha, ?_⟩
  have := Rc.agg (w := w) (ρ := fun x => x) (G := fun b => b < w.heap.size) (L := fun _ => False) (p := false) (g a) cs (fun _ => []) (by have := h.sz a ha; omega) (fun k hk => by have := hr k hk; rwa [Nat.zero_add] at this)
  rw [flat0] at this
  exact this⟩

def isAggT (P : Program) (t : TypeId) : Bool := match P.underlying t with
 | some (.struct _) => true
 | some (.array _ _) => true
 | _ => false
theorem cells_one {r : Reach} {W : World} {base : Nat} {v : Value} (hu : isAggT P t = false) (hv : Value.okWide P W r base t v) : v.cells = #[v] := by
 cases v with
 | agg cs =>
  exfalso
  unfold isAggT at hu
  unfold Value.okWide at hv
  split at hv
  · rename_i h; simp [h] at hu
  · rename_i h; simp [h] at hu
  · unfold Cell.okWide Cell.ok at hv
    split at hv <;> simp_all
 | _ => rfl
theorem Rd.arg {H : Type} {enc : TypeId × Value → H} {α : Type} {f : α → D} {q : α → Prop} {g : Bool} {r : Reach} {W : World} {base : Nat} {v : Value} {d : DataW H} {ps : List MemPlace} (h : Rd P t z f q) (hu : isAggT P t = g) (hg : ∀ a,q a → (f a).isAgg = g)
 (hv : Value.okWide P W r base t v) (hd : DataW.Trod enc P W 0 (fun _ => true) true t v d ps) (hw : (d.weights P t).all (· ≤ reachBytes) = true) :
 ∃ a,q a ∧ VR W (fun x => x) (fun b => b < W.heap.size) (fun _ => False) (f a) v [] := by
 obtain ⟨fuel,hd⟩ := hd
 obtain ⟨a,ha,hr⟩ := h.rd hd hw
 refine ⟨a,ha, ?_⟩
 have hga := hg a ha
 cases g with
 | true =>
  have : ∃ cs,v = .agg cs := by
   unfold isAggT at hu
   unfold Value.okWide at hv
   split at hv
   · exact ⟨_,hv.choose_spec.1⟩
   · exact ⟨_,hv.choose_spec.1⟩
   · split at hu <;> simp_all
  obtain ⟨cs,rfl⟩ := this
  simp only [VR,hga,if_true]
  exact ⟨cs,rfl,hr.flag⟩
 | false =>
  rw [cells_one hu hv] at hr
  simp only [VR,hga,if_false,Bool.false_eq_true]
  exact hr.flag

theorem trodAll_stays {H : Type} {enc : TypeId × Value → H} {W W' : World} {sp : Nat → Bool} (hl : laidOutB P = true) (hb : ∀ b,b < W.heap.size → W'.heap[b]? = W.heap[b]?) :
 ∀ {ts : List TypeId} {vs : List Value} {ds : List (DataW H)} {ps : List MemPlace},(ts.all fun t => P.readableRec t && decide (t < P.types.size)) = true → (∀ x ∈ ps,x.block < W.heap.size) → (∀ x ∈ ps,sp x.block = true) →
  DataW.TrodAll enc P W 0 (fun _ => true) true ts vs ds ps → DataW.TrodAll enc P W' 0 sp true ts vs ds ps := by
 intro ts
 induction ts with
 | nil => intro vs ds ps _ _ _ h; obtain ⟨rfl,rfl,rfl⟩ := trodAll_nil h; exact trodAll_mk0
 | cons t ts ih =>
  intro vs ds ps ht hlt hs h
  obtain ⟨v,vs1,d,ds1,a,b,rfl,rfl,rfl,h1,h2⟩ := trodAll_cons h
  simp only [List.all_cons,Bool.and_eq_true,decide_eq_true_eq] at ht
  refine trodAll_cons_mk (Go.WideElems.Trod_stays hl ht.1.1 ht.1.2 h1 (fun x hx => ?_) (fun x hx => hs x (List.mem_append.2 (.inl hx)))) (ih ht.2 (fun x hx => hlt x (List.mem_append.2 (.inr hx))) (fun x hx => hs x (List.mem_append.2 (.inr hx))) h2)
  have hx' := hlt x (List.mem_append.2 (.inl hx))
  cases x with
  | cell b o => exact World.cell?_of_block (w := W) (hb b hx')
  | map b => exact hb b hx'

theorem contract_of {H : Type} {enc : TypeId × Value → H} {fn : Func} {f : FuncId} {s : ChangeSpec} {W : World} {args : Array Value} {ds gs : List (DataW H)} {before : List MemPlace} {tb : TypeId} {gl : List (Nat × D)} {Ds : List D}
 (hl : laidOutB P = true) (hpar : (fn.params.toList.all fun t => P.readableRec t && decide (t < P.types.size)) = true) (hres : fn.resultTypes = #[tb]) (htb : P.underlying tb = some .bool) (hsv : s.vars = [])
 (hfn : s.fn H ds = { results := [.lit (.bool true)],args := ds }) (hW : DataW.Whole enc P fn.params.toList s.vars false W args.toList ds gs before)
 (hgl : ∀ g d,(g,d) ∈ gl → g < W.heap.size ∧ ∃ cs e fz,W.heap[g]? = some (.cells cs e fz) ∧ Rc W (fun x => x) (fun _ => False) (fun _ => False) false d cs.toList [])
 (hlen : args.toList.length = Ds.length) (hargs : ∀ k (h : k < Ds.length),VR W (fun x => x) (fun b => b < W.heap.size) (fun _ => False) Ds[k] (args.toList.getD k undef) [])
 (hf : Fn P gl f Ds (.bool true)) : Calls P f args W fun e W' => ∃ v,e = .returned v ∧ s.post enc P fn false true false false W args v W' := by
 have hrun := hf W (fun b => b < W.heap.size) args.toList hgl hlen hargs
 rw [Array.toArray_toList] at hrun
 refine hrun.mono fun ex W' ⟨v,F,he,hext,_,_,hrv⟩ => ⟨v,he, ?_⟩
 have hv : v = .bool true := by
  obtain ⟨_,h2⟩ := hrv
  simp only [VR,D.isAgg,Bool.false_eq_true,if_false] at h2
  cases h2
  rfl
 subst hv
 have hlt := hW.lt
 have hW0 := hW
 obtain ⟨p,q',hA,hV,rfl,hfz,hnd⟩ := hW
 rw [hsv] at hV
 obtain ⟨rfl,rfl⟩ := trodVars_none hV
 simp only [List.append_nil] at hlt hW0
 have hst : ∀ sp : Nat → Bool,(∀ x ∈ p,sp x.block = true) → DataW.TrodAll enc P W' 0 sp true fn.params.toList args.toList ds p := fun sp hs => trodAll_stays hl (fun b hb => hext.block b hb) hpar hlt hs hA
 refine ⟨ds,[],p,[],p,[],hW0, ?_, ?_, ?_,⟨hext.os,hext.output,fun i hi => ?_⟩,fun h => by cases h⟩
 · rw [hres]
   simp only [List.append_nil,hfn]
   exact trodAll_cons_mk (Go.RowKit.shut_bool htb true) trodAll_mk0
 · simp only [List.append_nil,hfn]
   exact hst _ (fun x hx => by simpa using hlt x hx)
 · simp only [List.append_nil,hfn,hsv]
   rfl
 · rw [hext.block i hi]
   cases hh : W.heap[i]? with
   | none => simp
   | some o => cases o <;> simp

theorem rc_tab32 {w : World} {ρ : Nat → Nat} {G L : Nat → Prop} (l : List UInt32) {n : Nat} (hn : l.length = n) : Rc w ρ G L false (.arr n 1 (l.map D.u32)) (l.map fun x => Value.int .u32 x.toNat) [] := by
 refine .arr n 1 _ _ (by simpa using hn) (by simp [hn]) (fun i hi => ?_)
 have hi' : i < l.length := by simpa using hi
 simp only [Nat.mul_one,List.getElem_map]
 rw [List.drop_eq_getElem_cons (by simpa using hi'),List.take_succ_cons,List.take_zero,List.getElem_map]
 exact .u32 _
theorem gl_tab32 {W : World} {name : String} {g n : Nat} (l : List UInt32) (hg : P.globalNamed name = some g) (hn : l.length = n) (h : Lib.TabIs P W name .u32 (l.map fun x => ((x.toNat : Nat) : Int))) :
 g < W.heap.size ∧ ∃ cs e fz,W.heap[g]? = some (.cells cs e fz) ∧ Rc W (fun x => x) (fun _ => False) (fun _ => False) false (.arr n 1 (l.map D.u32)) cs.toList [] := by
 unfold Lib.TabIs World.var? at h
 simp only [hg,Option.bind_some,List.map_map] at h
 split at h
 · rename_i cs e fz hh
   simp only [Option.some.injEq] at h
   refine ⟨(Array.getElem?_eq_some_iff.1 hh).1,cs,e,fz,hh, ?_⟩
   rw [h]
   exact rc_tab32 l hn
 · cases h
end Go.Sx

namespace Go.Sx
open Go.Proofs
structure TxS.arg (t : TxS) : Prop where
 bd : t.bd
 hash : ∀ x ∈ t.ins,x.tx.length = 32
theorem rd_tx : Rd Tryd.prog 26 4 txD TxS.arg := by
 have h32 := Rd.u32 (P := Tryd.prog) Tryd.underlying22 (by kernel_rfl)
 have h64 := Rd.u64 (P := Tryd.prog) Tryd.underlying44 (by kernel_rfl)
 have hb := Rd.sl (P := Tryd.prog) Tryd.underlying29 (by kernel_rfl) (by decide) (of_decide_eq_true (by kernel_rfl)) (Rd.u8 Tryd.underlying5 (by kernel_rfl))
 have hbb := Rd.sl (P := Tryd.prog) Tryd.underlying54 (by kernel_rfl) (by decide) (of_decide_eq_true (by kernel_rfl)) hb
 have hh := Rd.arr (P := Tryd.prog) (n := 32) Tryd.underlying32 (by kernel_rfl) rfl (Rd.u8 Tryd.underlying5 (by kernel_rfl))
 have hpl := Rd.struct (P := Tryd.prog) (z := 33) Tryd.underlying53 (by kernel_rfl) (.cons hh rfl (.cons h32 rfl .nil))
 have hin0 := Rd.struct (P := Tryd.prog) (z := 36) Tryd.underlying56 (by kernel_rfl) (.cons hpl rfl (.cons hb rfl (.cons h32 rfl (.cons hbb rfl .nil))))
 have hin := hin0.map (q' := fun x : InS => x.tx.length = 32 ∧ x.script.length ≤ 140737488355328 ∧ x.wit.length ≤ 140737488355328 ∧ ∀ b ∈ x.wit,b.length ≤ 140737488355328) (g := inD)
  (fun a => ⟨a.1.1,a.1.2.1,a.2.1,a.2.2.1,a.2.2.2.1⟩) (fun a ha => ⟨⟨ha.1.1.1,ha.2.1.1,ha.2.2.2.1.1,fun b hb => (ha.2.2.2.1.2 b hb).1⟩,rfl⟩) (fun b hb => rfl)
 have hout0 := Rd.struct (P := Tryd.prog) (z := 2) Tryd.underlying46 (by kernel_rfl) (.cons h64 rfl (.cons hb rfl .nil))
 have hout := hout0.map (q' := fun x : OutS => x.script.length ≤ 140737488355328) (g := outD) (fun a => ⟨a.1,a.2.1⟩) (fun a ha => ⟨ha.2.1.1,rfl⟩) (fun b hb => rfl)
 have hins := Rd.sl (P := Tryd.prog) Tryd.underlying23 (by kernel_rfl) (by decide) (of_decide_eq_true (by kernel_rfl)) hin
 have houts := Rd.sl (P := Tryd.prog) Tryd.underlying24 (by kernel_rfl) (by decide) (of_decide_eq_true (by kernel_rfl)) hout
 have htx := Rd.struct (P := Tryd.prog) (z := 4) Tryd.underlying26 (by kernel_rfl) (.cons h32 rfl (.cons hins rfl (.cons houts rfl (.cons h32 rfl .nil))))
 exact htx.map (fun a => ⟨a.1,a.2.1,a.2.2.1,a.2.2.2.1⟩) (fun a ha => ⟨⟨⟨ha.2.1.1,ha.2.2.1.1,fun x hx => (ha.2.1.2 x hx).2.1,fun x hx => (ha.2.1.2 x hx).2.2.1,fun x hx => (ha.2.1.2 x hx).2.2.2,fun x hx => ha.2.2.1.2 x hx⟩,fun x hx => (ha.2.1.2 x hx).1⟩,rfl⟩) (fun b hb => rfl)
theorem arg_wf {t : TxS} (h : t.arg) (hh : heavyS t = false) : t.wf := wf_of_sz (Nat.le_trans (heavy_sz hh) (by decide)) h.hash
end Go.Sx

namespace Go.Sx
theorem shN_nat (x : UInt64) (i : Nat) : (shN x i).toNat = x.toNat / 256 ^ i := by
 induction i with
 | zero => simp [shN]
 | succ i ih =>
  simp only [shN,shr_u64_toNat,ih,Nat.pow_succ]
  rw [Nat.div_div_eq_div_mul]
  rfl
theorem val_low (x : UInt64) (i : Nat) : val (lowI x i) = x.toNat % 256 ^ i := by
 induction i with
 | zero => simp [lowI,val,Nat.mod_one]
 | succ i ih =>
  rw [lowI,val_snoc,ih,lowI_len,UInt64.toNat_toUInt8,shN_nat,Nat.pow_succ]
  exact (Nat.mod_mul (a := 256 ^ i) (b := 256)).symm
theorem numI_low (x : UInt64) {n : Nat} (hn : n ≤ 8) (hx : x.toNat < 256 ^ n) : numI (lowI x n) n = x := by
 apply UInt64.toNat_inj.1
 rw [numI_val _ _ (by rw [lowI_len]; omega) hn,List.take_of_length_le (by rw [lowI_len]; omega),val_low,Nat.mod_eq_of_lt hx]
theorem takeO_app {b r : List UInt8} {n : Nat} (h : b.length = n) : takeO (b ++ r) n = some (b,r) := by
 subst h
 unfold takeO
 rw [if_pos (by simp),List.take_left,List.drop_left]
theorem numO_low {x : UInt64} {n : Nat} {r : List UInt8} (hn : n ≤ 8) (hx : x.toNat < 256 ^ n) : numO (lowI x n ++ r) n = some (x,r) := by
 unfold numO
 rw [takeO_app (lowI_len x n)]
 simp only [Option.map_some,lowI_len,numI_low x hn hx]
theorem num32 (x : UInt32) {r : List UInt8} : numO (lowI x.toUInt64 4 ++ r) 4 = some (x.toUInt64,r) :=
 numO_low (by decide) (by have := x.toNat_lt; simp only [UInt32.toNat_toUInt64]; omega)
theorem num64 (x : UInt64) {r : List UInt8} : numO (lowI x 8 ++ r) 8 = some (x,r) := numO_low (by decide) (by have := x.toNat_lt; omega)
theorem u32_back (x : UInt32) : x.toUInt64.toUInt32 = x := by simp
theorem cU_nat {n : Nat} (hn : n < 18446744073709551616) : (cU n).toNat = n := ofInt_nat hn
theorem cU_not {n m : Nat} (h : n ≤ m) (hm : m < 18446744073709551616) : ¬ UInt64.ofInt ((m : Nat) : Int) < cU n := by
 rw [UInt64.lt_iff_toNat_lt,ofInt_nat hm,cU_nat (by omega)]; omega
theorem cnt_fin {n : Nat} {r : List UInt8} (h : n ≤ r.length) (hr : r.length ≤ 100000000) : (if UInt64.ofInt ((r.length : Nat) : Int) < cU n then none else some ((cU n).toNat,r)) = some (n,r) := by
 rw [if_neg (cU_not h (by omega)),cU_nat (by omega)]
theorem cnt_back {n : Nat} {r : List UInt8} (h : n ≤ r.length) (hr : r.length ≤ 100000000) : cntO (countS n ++ r) = some (n,r) := by
 have hn : (cU n).toNat = n := cU_nat (by omega)
 unfold countS
 split
 · rename_i h1
   rw [UInt64.lt_iff_toNat_lt,hn] at h1
   have e : (253 : UInt64).toNat = 253 := rfl
   rw [cntO_small (numO_low (by decide) (by omega)) (by rw [UInt64.le_iff_toNat_le,hn]; omega)]
   exact cnt_fin h hr
 · split
   · rename_i h1
     rw [UInt64.le_iff_toNat_le,hn] at h1
     have e : (65535 : UInt64).toNat = 65535 := rfl
     rw [List.append_assoc,cntO_big (numO_low (x := 253) (by decide) (by decide)) (by decide) (y := cU n) (r2 := r) (numO_low (n := 2) (by decide) (by omega))]
     exact cnt_fin h hr
   · split
     · rw [List.append_assoc,cntO_big (numO_low (x := 254) (by decide) (by decide)) (by decide) (y := cU n) (r2 := r) (numO_low (n := 4) (by decide) (by omega))]
       exact cnt_fin h hr
     · rw [List.append_assoc,cntO_big (numO_low (x := 255) (by decide) (by decide)) (by decide) (y := cU n) (r2 := r) (numO_low (n := 8) (by decide) (by omega))]
       exact cnt_fin h hr
theorem item_back {b r : List UInt8} (h : b.length + r.length ≤ 100000000) : itemO (itemS b ++ r) = some (b,r) := by
 unfold itemO itemS
 rw [List.append_assoc,cnt_back (by simp) (by simpa using h)]
 exact takeO_app rfl
theorem in_back {x : InS} {r : List UInt8} (hx : x.tx.length = 32) (h : x.script.length + r.length ≤ 10000000) : inO (inS x ++ r) = some (plP x,r) := by
 unfold inS
 simp only [List.append_assoc]
 rw [inO_s (takeO_app hx) (num32 x.n) (item_back (by simp [lowI_len]; omega)) (num32 x.seq),u32_back,u32_back]
 rfl
theorem out_back {x : OutS} {r : List UInt8} (h : x.script.length + r.length ≤ 10000000) : outO (outS' x ++ r) = some (x,r) := by
 unfold outS'
 simp only [List.append_assoc]
 rw [outO_s (num64 x.value) (item_back (by omega))]
theorem ins_back {l : List InS} (hh : ∀ x ∈ l,x.tx.length = 32) (hs : ∀ x ∈ l,x.script.length ≤ 1000000) : ∀ i,i ≤ l.length → ∀ {r : List UInt8},(insS l i).length + r.length ≤ 9000000 → insO (insS l i ++ r) i = some ((l.take i).map plP,r) := by
 intro i
 induction i with
 | zero => intro _ r _; simp [insS,insO]
 | succ i ih =>
  intro hi r hr
  have hm : l[i]! ∈ l := get_mem (by omega)
  simp only [insS,List.length_append] at hr
  rw [insS,List.append_assoc,insO_s (ih (by omega) (r := inS l[i]! ++ r) (by simp only [List.length_append]; omega)) (in_back (hh _ hm) (by have := hs _ hm; omega)),take_snoc (by omega)]
  simp
theorem outs_back {l : List OutS} (hs : ∀ x ∈ l,x.script.length ≤ 1000000) : ∀ i,i ≤ l.length → ∀ {r : List UInt8},(outsS l i).length + r.length ≤ 9000000 → outsO (outsS l i ++ r) i = some (l.take i,r) := by
 intro i
 induction i with
 | zero => intro _ r _; simp [outsS,outsO]
 | succ i ih =>
  intro hi r hr
  have hm : l[i]! ∈ l := get_mem (by omega)
  simp only [outsS,List.length_append] at hr
  rw [outsS,List.append_assoc,outsO_s (ih (by omega) (r := outS' l[i]! ++ r) (by simp only [List.length_append]; omega)) (out_back (by have := hs _ hm; omega)),take_snoc (by omega)]
theorem insS_len_ge (l : List InS) : ∀ i,i ≤ (insS l i).length := by
 intro i
 induction i with
 | zero => simp
 | succ i ih => simp only [insS,List.length_append,inS,lowI_len]; omega
theorem outsS_len_ge (l : List OutS) : ∀ i,i ≤ (outsS l i).length := by
 intro i
 induction i with
 | zero => simp
 | succ i ih => simp only [outsS,List.length_append,outS',lowI_len]; omega
theorem body_back' {t : TxS} (hw : t.wf) {c r : List UInt8} (hc : ∀ {u : List UInt8},t.ins.length ≤ u.length → u.length ≤ 9000000 → cntO (c ++ u) = some (t.ins.length,u)) (hr : r.length ≤ 4000000) :
 bodyO (c ++ (insS t.ins t.ins.length ++ (countS t.outs.length ++ (outsS t.outs t.outs.length ++ r)))) = some ((t.ins.map plP,t.outs),r) := by
 have h1 := hw.insb _ (Nat.le_refl _)
 have h2 := hw.outsb _ (Nat.le_refl _)
 have h3 := countS_len t.outs.length
 have h4 := insS_len_ge t.ins t.ins.length
 have h5 := outsS_len_ge t.outs t.outs.length
 unfold bodyO
 rw [hc (by simp only [List.length_append]; omega) (by simp only [List.length_append]; omega),Option.bind_some,
  ins_back hw.hash hw.scr _ (Nat.le_refl _) (by simp only [List.length_append]; omega),Option.bind_some,cnt_back (by simp only [List.length_append]; omega) (by simp only [List.length_append]; omega),Option.bind_some,
  outs_back hw.oscr _ (Nat.le_refl _) (by omega)]
 simp
theorem body_back {t : TxS} (hw : t.wf) {r : List UInt8} (hr : r.length ≤ 4000000) : bodyO (bodyS t ++ r) = some ((t.ins.map plP,t.outs),r) := by
 unfold bodyS
 simp only [List.append_assoc]
 exact body_back' hw (fun h1 h2 => cnt_back h1 (by omega)) hr
theorem seenB_cons {x : UInt8} {r : List UInt8} : seenB (x :: r) = (x == 0) := by simp [seenB]
theorem plI_map (l : List InS) : ∀ i,i ≤ l.length → plI l i = (l.take i).map plP := by
 intro i
 induction i with
 | zero => intro _; simp [plI]
 | succ i ih => intro h; rw [plI,ih (by omega),take_snoc (by omega)]; simp
theorem plain_ins (t : TxS) : (plainS t).ins = t.ins.map plP := by
 show plI t.ins t.ins.length = _
 rw [plI_map _ _ (Nat.le_refl _),List.take_length]
theorem plP_of {x : InS} (h : x.wit = []) : plP x = x := by cases x; simp only [plP] at *; simp [h]
theorem map_pl {l : List InS} (h : ∀ x ∈ l,x.wit = []) : l.map plP = l := by
 induction l with
 | nil => rfl
 | cons x l ih => rw [List.map_cons,plP_of (h x (by simp)),ih (fun y hy => h y (by simp [hy]))]
theorem read_bare {t : TxS} (hw : t.wf) {c : List UInt8} {x : UInt8} {c' : List UInt8} (hx : c = x :: c') (h0 : (x == 0) = false)
 (hc : ∀ {u : List UInt8},t.ins.length ≤ u.length → u.length ≤ 9000000 → cntO (c ++ u) = some (t.ins.length,u)) {b : List UInt8}
 (hb : b = lowI t.ver.toUInt64 4 ++ (c ++ (insS t.ins t.ins.length ++ (countS t.outs.length ++ (outsS t.outs t.outs.length ++ lowI t.lock.toUInt64 4))))) :
 getO b = finO b ⟨t.ver,t.ins.map plP,t.outs,t.lock⟩ [] := by
 have hs : seenB (c ++ (insS t.ins t.ins.length ++ (countS t.outs.length ++ (outsS t.outs t.outs.length ++ lowI t.lock.toUInt64 4)))) = false := by
  rw [hx,List.cons_append,seenB_cons,h0]
 have h1 := num32 t.ver (r := c ++ (insS t.ins t.ins.length ++ (countS t.outs.length ++ (outsS t.outs t.outs.length ++ lowI t.lock.toUInt64 4))))
 rw [← hb] at h1
 have h2 := pre_0 hs
 have h3 := body_back' hw hc (r := lowI t.lock.toUInt64 4) (by simp [lowI_len])
 have h4 := wq_f hs (ins := t.ins.map plP) (r1 := lowI t.lock.toUInt64 4)
 have h5 : numO (lowI t.lock.toUInt64 4) 4 = some (t.lock.toUInt64,[]) := by have := num32 t.lock (r := []); rwa [List.append_nil] at this
 rw [go_6 h1 h2 h3 h4 h5,u32_back,u32_back]
theorem read_seen {t : TxS} (hw : t.wf) {w : List UInt8} {l : List InS} (hl : witsO (t.ins.map plP) (w ++ lowI t.lock.toUInt64 4) = some (l,lowI t.lock.toUInt64 4)) (hwl : w.length ≤ 2000000) {b : List UInt8}
 (hb : b = lowI t.ver.toUInt64 4 ++ ([0,1] ++ (bodyS t ++ (w ++ lowI t.lock.toUInt64 4)))) :
 getO b = finO b ⟨t.ver,l,t.outs,t.lock⟩ [] := by
 have hs : seenB ([0,1] ++ (bodyS t ++ (w ++ lowI t.lock.toUInt64 4))) = true := by rw [List.cons_append,seenB_cons]; rfl
 have h1 := num32 t.ver (r := [0,1] ++ (bodyS t ++ (w ++ lowI t.lock.toUInt64 4)))
 rw [← hb] at h1
 have h2 := pre_s hs (takeO_app (b := [0,1]) rfl)
 have h3 := body_back hw (r := w ++ lowI t.lock.toUInt64 4) (by simp [lowI_len]; omega)
 have h4 := (wq_t hs (ins := t.ins.map plP) (r1 := w ++ lowI t.lock.toUInt64 4)).trans hl
 have h5 : numO (lowI t.lock.toUInt64 4) 4 = some (t.lock.toUInt64,[]) := by have := num32 t.lock (r := []); rwa [List.append_nil] at this
 rw [go_6 h1 h2 h3 h4 h5,u32_back,u32_back]
theorem fin_nil (b : List UInt8) (t : TxS) : finO b t [] = if mayS t = true ∧ putS t = b then some t else none := by
 unfold finO
 simp
end Go.Sx

namespace Go.Sx
theorem insS_pl (l : List InS) : ∀ i,i ≤ l.length → insS (l.map plP) i = insS l i := by
 intro i
 induction i with
 | zero => intro _; rfl
 | succ i ih =>
  intro h
  have : (l.map plP)[i]! = plP l[i]! := by rw [getElem!_pos (l.map plP) i (by rw [List.length_map]; omega),getElem!_pos l i (by omega),List.getElem_map]
  rw [insS,insS,ih (by omega),this]
  rfl
theorem bare_plain (t : TxS) : bareS (plainS t) = bareS t := by
 unfold bareS bodyS
 rw [plain_ins,List.length_map,insS_pl _ _ (Nat.le_refl _)]
 rfl
theorem seen_plain (t : TxS) : seenS (plainS t) = false := by
 unfold seenS
 rw [List.any_eq_false,plain_ins]
 intro x hx
 obtain ⟨y,_,rfl⟩ := List.mem_map.1 hx
 simp [plP]
theorem put_plain (t : TxS) : putS (plainS t) = bareS t := by rw [putS,seen_plain,if_neg (by simp),bare_plain]
theorem plain_wf {t : TxS} (h : szT t ≤ 100000) (hh : ∀ x ∈ t.ins,x.tx.length = 32) : (plainS t).wf := by
 refine wf_of_sz (Nat.le_trans ?_ h) ?_
 · unfold szT
   rw [plain_ins]
   have : ∀ l : List InS,szI (l.map plP) ≤ szI l := by
    intro l
    induction l with
    | nil => exact Nat.le_refl _
    | cons x l ih => simp only [List.map_cons,szI,plP,szW]; omega
   exact Nat.add_le_add_right (this _) _
 · rw [plain_ins]
   intro x hx
   obtain ⟨y,hy,rfl⟩ := List.mem_map.1 hx
   exact hh y hy
theorem lt_cU {n m : Nat} (hn : n ≤ 1000000) {k : UInt64} (hk : k.toNat = m) : cU n < k ↔ n < m := by rw [UInt64.lt_iff_toNat_lt,cU_nat (by omega),hk]
theorem count1 {n : Nat} (h : n ≤ 252) : countS n = lowI (cU n) 1 := by
 unfold countS
 rw [if_pos ((lt_cU (m := 253) (by omega) rfl).2 (by omega))]
theorem app_at {a b : List UInt8} {n i : Nat} (h : a.length = n) : (a ++ b)[n + i]! = b[i]! := by
 subst h
 by_cases hi : i < b.length
 · rw [getElem!_pos (a ++ b) (a.length + i) (by simpa using hi),getElem!_pos b i hi,List.getElem_append_right (by omega)]
   simp
 · rw [getElem!_neg (a ++ b) (a.length + i) (by simpa using hi),getElem!_neg b i hi]
section
variable {s : List UInt8} {k : Nat}
end
theorem wits_hollow (l : List InS) (hl : ∀ x ∈ l,x.wit = []) {r : List UInt8} (hr : l.length + r.length ≤ 9000000) : witsO l (List.replicate l.length 0 ++ r) = some (l,r) := by
 induction l with
 | nil => simp [witsO]
 | cons x l ih =>
  have hc : cntO (lowI (cU 0) 1 ++ (List.replicate l.length 0 ++ r)) = some (0,List.replicate l.length 0 ++ r) := by
   have := cnt_back (n := 0) (r := List.replicate l.length 0 ++ r) (Nat.zero_le _) (by simp only [List.length_append,List.length_replicate,List.length_cons] at *; omega)
   rwa [count1 (by decide)] at this
  have e : List.replicate (x :: l).length (0 : UInt8) ++ r = lowI (cU 0) 1 ++ (List.replicate l.length 0 ++ r) := rfl
  rw [e,witsO,wo_s hc (by rfl),Option.bind_some,ih (fun y hy => hl y (by simp [hy])) (by simp only [List.length_cons] at hr; omega)]
  have hx := hl x (by simp)
  cases x
  simp only [setW] at *
  simp [hx]
theorem hl_none {p : TxS} (hw : p.wf) (hp : ∀ x ∈ p.ins,x.wit = []) {s : List UInt8} (hs : s = (lowI p.ver.toUInt64 4 ++ [0,1]) ++ bodyS p ++ List.replicate p.ins.length 0 ++ lowI p.lock.toUInt64 4) (hl : s.length ≤ 16384) : getS s = (zeroT,5) := by
 have h1 := hw.ins
 refine gt_none (by omega) ?_
 have hb : s = lowI p.ver.toUInt64 4 ++ ([0,1] ++ (bodyS p ++ (List.replicate p.ins.length 0 ++ lowI p.lock.toUInt64 4))) := by rw [hs]; simp only [List.append_assoc]
 have hm := map_pl hp
 rw [read_seen hw (by rw [hm]; exact wits_hollow p.ins hp (by simp [lowI_len]; omega)) (by rw [List.length_replicate]; omega) hb,fin_nil,if_neg]
 intro hc
 have h2 := congrArg List.length hc.2
 have hseen : seenS ⟨p.ver,p.ins,p.outs,p.lock⟩ = false := by
  unfold seenS; rw [List.any_eq_false]; intro x hx; simp [hp x hx]
 rw [putS,hseen,if_neg (by simp),hb] at h2
 simp only [bareS,List.length_append,lowI_len,List.length_cons,List.length_nil,List.length_replicate] at h2
 have h3 : (bodyS ⟨p.ver,p.ins,p.outs,p.lock⟩).length = (bodyS p).length := rfl
 omega
theorem lc_none {p : TxS} (hw : p.wf) (hp : ∀ x ∈ p.ins,x.wit = []) (hi : p.ins.length ≤ 252) {l r : List UInt8} (hr : bodyS p = lowI (cU p.ins.length) 1 ++ r)
 (hl : l = (lowI p.ver.toUInt64 4 ++ [253,(cU p.ins.length).toUInt8,0]) ++ (r ++ lowI p.lock.toUInt64 4)) (hln : l.length ≤ 16384) : getS l = (zeroT,5) := by
 refine gt_none (by omega) ?_
 have hc : ∀ {u : List UInt8},p.ins.length ≤ u.length → u.length ≤ 9000000 → cntO ([253,(cU p.ins.length).toUInt8,0] ++ u) = some (p.ins.length,u) := by
  intro u h1 h2
  have e : [253,(cU p.ins.length).toUInt8,0] = lowI 253 1 ++ lowI (cU p.ins.length) 2 := by
   have h3 : (shN (cU p.ins.length) 1).toUInt8 = 0 := by
    apply UInt8.toNat_inj.1
    rw [UInt64.toNat_toUInt8,shN_nat,cU_nat (by omega)]
    have : p.ins.length / 256 ^ 1 = 0 := by omega
    rw [this]; rfl
   show _ = [253] ++ (([] ++ [(cU p.ins.length).toUInt8]) ++ [(shN (cU p.ins.length) 1).toUInt8])
   rw [h3]
   rfl
  rw [e,List.append_assoc,cntO_big (numO_low (x := 253) (by decide) (by decide)) (by decide) (y := cU p.ins.length) (r2 := u) (numO_low (n := 2) (by decide) (by rw [cU_nat (by omega)]; omega))]
  exact cnt_fin h1 (by omega)
 have hr2 : r = insS p.ins p.ins.length ++ (countS p.outs.length ++ outsS p.outs p.outs.length) := by
  unfold bodyS at hr
  rw [count1 hi] at hr
  simp only [List.append_assoc] at hr
  exact (List.append_cancel_left hr).symm
 have hb : l = lowI p.ver.toUInt64 4 ++ ([253,(cU p.ins.length).toUInt8,0] ++ (insS p.ins p.ins.length ++ (countS p.outs.length ++ (outsS p.outs p.outs.length ++ lowI p.lock.toUInt64 4)))) := by
  rw [hl,hr2]; simp only [List.append_assoc]
 rw [read_bare hw rfl (by decide) hc hb,map_pl hp,fin_nil,if_neg]
 intro hcc
 have h2 := congrArg List.length hcc.2
 have hseen : seenS ⟨p.ver,p.ins,p.outs,p.lock⟩ = false := by
  unfold seenS; rw [List.any_eq_false]; intro x hx; simp [hp x hx]
 rw [putS,hseen,if_neg (by simp),hl] at h2
 have h3 : bodyS ⟨p.ver,p.ins,p.outs,p.lock⟩ = bodyS p := rfl
 simp only [bareS,h3,hr,List.length_append,lowI_len,List.length_cons,List.length_nil] at h2
 omega
end Go.Sx

namespace Go.Sx
section
variable {t : TxS}
theorem plain_nowit (t : TxS) : ∀ x ∈ (plainS t).ins,x.wit = [] := by
 rw [plain_ins]
 intro x hx
 obtain ⟨y,_,rfl⟩ := List.mem_map.1 hx
 rfl
theorem put_plain_len (t : TxS) : (putS (plainS t)).length ≤ (putS t).length := by
 rw [put_plain]
 unfold putS
 split
 · simp only [bareS,List.length_append]; omega
 · exact Nat.le_refl _
theorem plain_len (t : TxS) : (plainS t).ins.length + 8 ≤ (putS (plainS t)).length := by
 rw [put_plain,← bare_plain]
 have := insS_len_ge (plainS t).ins (plainS t).ins.length
 simp only [bareS,bodyS,List.length_append,lowI_len]
 omega
theorem plain_split (t : TxS) : putS (plainS t) = lowI (plainS t).ver.toUInt64 4 ++ (bodyS (plainS t) ++ lowI (plainS t).lock.toUInt64 4) := by
 rw [put_plain,← bare_plain,bareS,List.append_assoc]
theorem plain_ge (t : TxS) : 8 ≤ (putS (plainS t)).length := by
 rw [plain_split]; simp only [List.length_append,lowI_len]; omega
theorem cut_a {a b c : List UInt8} (ha : a.length = 4) : (a ++ (b ++ c)).take 4 = a := by rw [← ha,List.take_left]
theorem cut_b {a b c : List UInt8} (ha : a.length = 4) (hc : c.length = 4) : ((a ++ (b ++ c)).drop 4).take ((a ++ (b ++ c)).length - 8) = b := by
 have h1 : (a ++ (b ++ c)).drop 4 = b ++ c := by rw [← ha,List.drop_left]
 rw [h1,show (a ++ (b ++ c)).length - 8 = b.length by simp only [List.length_append]; omega,List.take_left]
theorem cut_c {a b c : List UInt8} (hc : c.length = 4) : (a ++ (b ++ c)).drop ((a ++ (b ++ c)).length - 4) = c := by
 rw [← List.append_assoc,show (a ++ b ++ c).length - 4 = (a ++ b).length by simp only [List.length_append]; omega,List.drop_left]
theorem hl_app (hw : (plainS t).wf) (hl : (putS t).length ≤ 8192) :
 getS (((((putS (plainS t)).take 4 ++ [0,1]) ++ ((putS (plainS t)).drop 4).take ((putS (plainS t)).length - 8)) ++ List.replicate (plainS t).ins.length 0) ++ (putS (plainS t)).drop ((putS (plainS t)).length - 4)) = (zeroT,5) := by
 have h1 := put_plain_len t
 have h2 := plain_len t
 have h3 := plain_ge t
 refine hl_none hw (plain_nowit t) ?_ (by simp only [List.length_append,List.length_take,List.length_drop,List.length_cons,List.length_nil,List.length_replicate]; omega)
 rw [plain_split,cut_a (lowI_len _ _),cut_b (lowI_len _ _) (lowI_len _ _),cut_c (lowI_len _ _)]
theorem lc_app (hw : (plainS t).wf) (hl : (putS t).length ≤ 8192) (hi : (plainS t).ins.length ≤ 252) :
 getS ((((putS (plainS t)).take 4 ++ ([253,(putS (plainS t))[4]!,0] : List UInt8))) ++ (putS (plainS t)).drop 5) = (zeroT,5) := by
 have h1 := put_plain_len t
 have h3 := plain_ge t
 have hb : bodyS (plainS t) = lowI (cU (plainS t).ins.length) 1 ++ (insS (plainS t).ins (plainS t).ins.length ++ (countS (plainS t).outs.length ++ outsS (plainS t).outs (plainS t).outs.length)) := by
  unfold bodyS
  rw [count1 hi]
  simp only [List.append_assoc]
 have h4 : (putS (plainS t))[4]! = (cU (plainS t).ins.length).toUInt8 := by
  rw [plain_split,hb]
  exact app_at (i := 0) (lowI_len _ 4)
 have h5 : (putS (plainS t)).drop 5 = (insS (plainS t).ins (plainS t).ins.length ++ (countS (plainS t).outs.length ++ outsS (plainS t).outs (plainS t).outs.length)) ++ lowI (plainS t).lock.toUInt64 4 := by
  rw [plain_split,hb,← List.append_assoc,← List.append_assoc]
  rw [List.append_assoc (lowI (plainS t).ver.toUInt64 4 ++ lowI (cU (plainS t).ins.length) 1)]
  rw [show 5 = (lowI (plainS t).ver.toUInt64 4 ++ lowI (cU (plainS t).ins.length) 1).length by simp [lowI_len],List.drop_left]
 refine lc_none hw (plain_nowit t) hi hb ?_ (by simp only [List.length_append,List.length_take,List.length_drop,List.length_cons,List.length_nil]; omega)
 rw [h4,h5]
 rw [show (putS (plainS t)).take 4 = lowI (plainS t).ver.toUInt64 4 by rw [plain_split,cut_a (lowI_len _ _)]]
end
end Go.Sx

namespace Go.Sx

variable {P : Program} {C : Ctx} {σ σ' σ1 : Sg} {a : Act} {w w' : World} {ρ : Nat → Nat} {Fe Fe' Fb : Nat → List Nat}

theorem zeroCells_made (z : Array Value) (n : Nat) : Builtin.zeroCells z n = madeCells z (n * z.size) := rfl

theorem run_append_room_zeros (w : World) (t tn ty e : TypeId) (i : TypeInfo) (z : Value) (kq kn : IntKind) (ht : P.underlying t = some (.slice e)) (htn : P.underlying tn = some (.int kn)) (hi : P.info? e = some i) (hz : i.zero = some z)
 (hzs : z.cells.size = i.size) (hone : z.cells.toList.all Value.oneCell' = true)
 (g sLen sCap : Nat) (cur : Array Value) (hg : w.heap[g]? = some (.cells cur e (0,0))) (k : Nat) (h0 : 0 < k) (hs : 0 < i.size) (h63 : (k : Int) ≤ 9223372036854775807) (h48 : k * i.bytes ≤ 281474976710656)
 (hroom : sLen + k ≤ sCap) (hfit : sLen * i.size + k * i.size ≤ cur.size) :
 (Builtin.append_ #[t,tn] ty #[.slice (some ⟨g,0,none⟩) sLen sCap,.int kq k]).run P w =
  .ok (.slice (some ⟨g,0,none⟩) (sLen + k) sCap) (w.setRow g (cur.toList.take (sLen * i.size) ++ (Builtin.zeroCells z.cells k).toList ++ cur.toList.drop (sLen * i.size + (Builtin.zeroCells z.cells k).toList.length)).toArray) := by
 have hk : k ≠ 0 := by omega
 have hw : IntKind.i64.wrap (k : Int) = k := by rw [IntKind.wrap_i64]; omega
 have h48i : ¬ (281474976710656 < (k : Int) * (i.bytes : Int)) := by
  rw [← Int.natCast_mul]
  omega
 have hneg : ¬ ((k : Int) < 0) := by omega
 have hns : ¬ (k * i.size = 0) := Nat.mul_ne_zero hk (by omega)
 have hst := run_storeCells_at P g (sLen * i.size) e (Builtin.zeroCells z.cells k).toList 0 cur w hg (by simpa [size_zeroCells,hzs] using hfit) (zeroCells_one hone)
 simp only [Nat.add_zero] at hst
 simp [Builtin.append_,run_underlying ht,run_underlying htn,sizeOf,typeInfo,zeroValue,hi,hz,asInt,asIntOf,hw,hneg,hns,h48i,hroom,Addr.add_lit,hst]

theorem zapp_run {G L : Nat → Prop} {t tn e z bytes ty : Nat} {kn : IntKind} {d0 : D} [hT : SlT P t e] [hE : ElT P e z bytes] [hZ : ZrT P e d0] [hI : IkT P tn kn] {l : List D} {v : Value} {F : List Nat} {k : Nat}
 (hd : Rc w ρ G L true (.sl (some e) z l) [v] F) (hFn : F.Nodup) (hGF : ∀ b,G b → b ∉ F) (hbytes : (l.length + k) * bytes ≤ 140737488355328) (hmax : l.length + k ≤ maxLen) :
 ∃ v' w' F',(Builtin.append_ #[t,tn] ty #[v,.int .i64 k]).run P w = .ok v' w' ∧ Turn F w w' ∧ F'.Nodup ∧ (∀ b ∈ F',b ∈ F ∨ w.heap.size ≤ b) ∧
  ∀ G',(∀ b,G b → b < w.heap.size → G' b) → Rc w' ρ G' L true (.sl (some e) z (l ++ List.replicate k d0)) [v'] F' := by
 obtain ⟨i,zv,hi,hsz,hby,hz,hzs,hpos,hone⟩ := hE.i
 obtain ⟨i',zv',hi',hz',hchk,hag⟩ := hZ.i
 rw [hi] at hi'
 cases hi'
 rw [hz] at hz'
 cases hz'
 have h63 : l.length + k ≤ 9223372036854775807 := by simp only [maxLen] at hmax; omega
 have hkb : k * i.bytes ≤ 140737488355328 := by rw [hby]; exact Nat.le_trans (Nat.mul_le_mul_right _ (by omega)) hbytes
 have hzi : zv.cells.size = i.size := hzs.trans hsz.symm
 by_cases hk0 : k = 0
 · subst hk0
   simp only [List.replicate_zero,List.append_nil]
   refine ⟨v,w,F, ?_,Turn.refl _ _,hFn,fun b hb => .inl hb,fun G' hG' => hd.mono (fun _ _ _ => rfl) hG' (fun id hid => ⟨hid,rfl⟩)⟩
   have hw : IntKind.i64.wrap (0 : Int) = 0 := by rw [IntKind.wrap_i64]; omega
   generalize hvv : [v] = cv at hd
   cases hd with
   | slN o z => cases hvv; simp [Builtin.append_,run_underlying hT.u,run_underlying hI.u,sizeOf,typeInfo,hi,asInt,asIntOf,hw]
   | slE o z a0 => cases hvv; simp [Builtin.append_,run_underlying hT.u,run_underlying hI.u,sizeOf,typeInfo,hi,asInt,asIntOf,hw,storeCells]
   | slO b cs e cap z l Fs hb hc hcm hcs ho1 hr =>
    cases hvv
    simp [Builtin.append_,run_underlying hT.u,run_underlying hI.u,sizeOf,typeInfo,hi,asInt,asIntOf,hw,storeCells,hc]
 have hkp : 0 < k := by omega
 have hnl : (Builtin.zeroCells zv.cells k).toList.length = (List.replicate k d0).length * z := by simp [size_zeroCells,hzs]
 have hr2 : ∀ (w2 : World) (G2 : Nat → Prop) j (h : j < (List.replicate k d0).length),Rc w2 ρ G2 L false (List.replicate k d0)[j] (((Builtin.zeroCells zv.cells k).toList.drop (j * z)).take z) [] := by
  intro w2 G2 j hj
  have hj' : j < k := by simpa using hj
  rw [zeroCells_made,← hzs,madeCells_part _ _ _ hj']
  simp only [List.getElem_replicate]
  exact chk_ok _ _ _ _ d0 _ hchk
 have grow : ∀ (old : Nat) (xs : List Value) (Fs : Nat → List Nat),(∀ u ∈ xs,u.oneCell' = true) → xs.length = l.length * z → (∀ j (h : j < l.length),Rc w ρ G L false l[j] ((xs.drop (j * z)).take z) (Fs j)) →
  ((List.range l.length).flatMap Fs).Nodup → (∀ b ∈ (List.range l.length).flatMap Fs,b ∈ F) →
  ∃ F',Turn F w (w.drew.alloc (.cells (xs.toArray ++ Builtin.zeroCells zv.cells k ++ Builtin.zeroCells zv.cells (grownCap w (l.length + k) old e - (l.length + k))) e)) ∧ F'.Nodup ∧
   (∀ b ∈ F',b ∈ F ∨ w.heap.size ≤ b) ∧
   ∀ G',(∀ b,G b → b < w.heap.size → G' b) → Rc (w.drew.alloc (.cells (xs.toArray ++ Builtin.zeroCells zv.cells k ++ Builtin.zeroCells zv.cells (grownCap w (l.length + k) old e - (l.length + k))) e)) ρ G' L true
    (.sl (some e) z (l ++ List.replicate k d0)) [.slice (some ⟨w.heap.size,0,none⟩) (l.length + k : Nat) (grownCap w (l.length + k) old e)] F' := by
  intro old xs Fs hxo hx hr hnd hsub
  have hge := grownCap_ge w (l.length + k) old e
  have hcm : grownCap w (l.length + k) old e ≤ maxLen := grownCap_le_maxLen w (l.length + k) old e hmax
  have hext : Ext w (w.drew.alloc (.cells (xs.toArray ++ Builtin.zeroCells zv.cells k ++ Builtin.zeroCells zv.cells (grownCap w (l.length + k) old e - (l.length + k))) e)) := (Ext.drew w).trans (Ext.alloc _ _)
  have hm : ∀ b ∈ (List.range (l.length + k)).flatMap (fjoin l.length Fs fun _ => []),b ∈ (List.range l.length).flatMap Fs := by
   intro b hb
   rcases fjoin_mem hb with h2 | h2
   · exact h2
   · simp at h2
  refine ⟨w.heap.size :: (List.range (l.length + k)).flatMap (fjoin l.length Fs fun _ => []),Turn.ofExt hext, ?_, ?_,fun G' hG' => ?_⟩
  · refine List.nodup_cons.2 ⟨fun hm' => ?_,fjoin_nodup hnd (flat0_nd _) (flat0_dis _ _)⟩
    obtain ⟨j,hj,h3⟩ := List.mem_flatMap.1 (hm _ hm')
    have := (hr j (List.mem_range.1 hj)).lt _ h3
    omega
  · intro b hb
    rcases List.mem_cons.1 hb with rfl | hb
    · exact .inr (Nat.le_refl _)
    · exact .inl (hsub b (hm b hb))
  · have := slO_app (p := true) (xs := xs) (news := (Builtin.zeroCells zv.cells k).toList) (rest := (Builtin.zeroCells zv.cells (grownCap w (l.length + k) old e - (l.length + k))).toList) (l := l) (l' := List.replicate k d0) (z := z) (cap := grownCap w (l.length + k) old e) (Fs := Fs) (Fs2 := fun _ => [])
     (w := w.drew.alloc (.cells (xs.toArray ++ Builtin.zeroCells zv.cells k ++ Builtin.zeroCells zv.cells (grownCap w (l.length + k) old e - (l.length + k))) e)) (ρ := ρ) (G := G') (L := L)
     (heap_alloc_new w.drew _) (by simp) hx hnl ?_ (by simpa using hge) hcm ?_ (fun j hj => (hr j hj).mono (fun b _ hl => hext.block b hl) hG' (fun id hid => ⟨hid,rfl⟩)) (hr2 _ _)
    · simpa using this
    · simp only [Array.size_append,List.size_toArray,size_zeroCells,hzs,hx,← Nat.add_mul]
      congr 1
      omega
    · intro u hu
      simp only [Array.toList_append,List.mem_append] at hu
      rcases hu with (hu | hu) | hu
      · exact hxo u hu
      · exact zeroCells_one hone u hu
      · exact zeroCells_one hone u hu
 generalize hvv : [v] = cv at hd
 cases hd with
 | slN o z =>
  cases hvv
  have hr := Lib.run_append_nil_zeros (P := P) w t tn ty e i zv .i64 kn hT.u hI.u hi hz k hkp (by omega) (by simp at h63; omega) (by omega)
  obtain ⟨F',q1,q2,q3,q4⟩ := grow 0 [] (fun _ => []) (by simp) (by simp) (fun j hj => by simp at hj) (by simp) (by simp)
  simp only [List.length_nil,Nat.zero_add,List.nil_append] at q1 q2 q3 q4 ⊢
  have e0 : (#[] : Array Value) ++ Builtin.zeroCells zv.cells k = Builtin.zeroCells zv.cells k := by simp
  simp only [e0] at q1 q4
  exact ⟨_,_,F',hr,q1,q2,q3,q4⟩
 | slE o z a0 =>
  cases hvv
  have hgz : Builtin.nextslicecap (0 + k) 0 * i.bytes ≤ 281474976710656 := by
   rw [Nat.zero_add,nextslicecap_zero (by omega)]; omega
  have hr := Lib.run_append_grow_zeros (P := P) w t tn ty e i zv .i64 kn hT.u hI.u hi hz (some a0) 0 0 [] (by simp [Builtin.firstCells,loadCells,loadCellsFrom]) k hkp (by omega) (by omega) (by simp at h63; omega) (by omega) hgz
  obtain ⟨F',q1,q2,q3,q4⟩ := grow 0 [] (fun _ => []) (by simp) (by simp) (fun j hj => by simp at hj) (by simp) (by simp)
  simp only [List.length_nil,Nat.zero_add,List.nil_append] at hr q1 q2 q3 q4 ⊢
  exact ⟨_,_,F',hr,q1,q2,q3,q4⟩
 | slO b cs e cap z l Fs hb hc hcm hcs ho1 hr =>
  cases hvv
  obtain ⟨hn1,hn2⟩ := List.nodup_cons.1 hFn
  have hxl : (cs.toList.take (l.length * z)).length = l.length * z := by
   have := Nat.mul_le_mul_right z hc
   simp; omega
  have hrx : ∀ j (h : j < l.length),Rc w ρ G L false l[j] (((cs.toList.take (l.length * z)).drop (j * z)).take z) (Fs j) := fun j hj => by
   have e1 := part_left (cs.toList.take (l.length * z)) (cs.toList.drop (l.length * z)) j l.length z hxl hj
   rw [List.take_append_drop] at e1
   rw [← e1]; exact hr j hj
  by_cases hroom : l.length + k ≤ cap
  · have hfit : l.length * i.size + k * i.size ≤ cs.size := by rw [hcs,hsz,← Nat.add_mul]; exact Nat.mul_le_mul_right _ hroom
    have hrun := run_append_room_zeros (P := P) w t tn ty e i zv .i64 kn hT.u hI.u hi hz hzi hone b l.length cap cs hb k hkp (by omega) (by omega) (by omega) hroom hfit
    rw [hsz] at hrun
    have hm : ∀ b' ∈ (List.range (l.length + k)).flatMap (fjoin l.length Fs fun _ => []),b' ∈ (List.range l.length).flatMap Fs := by
     intro b' hb'
     rcases fjoin_mem hb' with h2 | h2
     · exact h2
     · simp at h2
    refine ⟨_,_,b :: (List.range (l.length + k)).flatMap (fjoin l.length Fs fun _ => []),hrun,⟨rfl,rfl,rfl,by simp,fun b' _ hb' => setRow_other w b b' _ (fun e => hb' (by simp [e]))⟩, ?_, ?_,fun G' hG' => ?_⟩
    · exact List.nodup_cons.2 ⟨fun hm' => hn1 (hm _ hm'),fjoin_nodup hn2 (flat0_nd _) (flat0_dis _ _)⟩
    · intro b' hb'
      rcases List.mem_cons.1 hb' with rfl | hb'
      · exact .inl (by simp)
      · exact .inl (List.mem_cons_of_mem _ (hm _ hb'))
    · have := slO_app (p := true) (xs := cs.toList.take (l.length * z)) (news := (Builtin.zeroCells zv.cells k).toList) (rest := cs.toList.drop (l.length * z + (Builtin.zeroCells zv.cells k).toList.length)) (l := l) (l' := List.replicate k d0) (z := z) (cap := cap) (Fs := Fs) (Fs2 := fun _ => [])
       (w := w.setRow b (cs.toList.take (l.length * z) ++ (Builtin.zeroCells zv.cells k).toList ++ cs.toList.drop (l.length * z + (Builtin.zeroCells zv.cells k).toList.length)).toArray) (ρ := ρ) (G := G') (L := L)
       (setRow_heap w b cs _ e (0,0) hb) (by simp) hxl hnl ?_ (by simpa using hroom) hcm ?_ (fun j hj => (hrx j hj).mono (fun b' hb' _ => setRow_other w b b' _ (by
        rintro rfl
        rcases hb' with hb' | hb'
        · exact hGF _ hb' (by simp)
        · exact hn1 (List.mem_flatMap.2 ⟨j,List.mem_range.2 hj,hb'⟩))) hG' (fun id hid => ⟨hid,rfl⟩)) (hr2 _ _)
      · simpa using this
      · have e3 : (Builtin.zeroCells zv.cells k).toList.length = k * z := by simpa using hnl
        have e4 : l.length * z + k * z ≤ cap * z := by rw [← Nat.add_mul]; exact Nat.mul_le_mul_right _ hroom
        simp only [List.size_toArray,List.length_append,List.length_drop,Array.length_toList,hxl,e3]
        omega
      · intro u hu
        simp only [List.mem_append] at hu
        rcases hu with (hu | hu) | hu
        · exact ho1 u (List.mem_of_mem_take hu)
        · exact zeroCells_one hone u hu
        · exact ho1 u (List.mem_of_mem_drop hu)
  · have holds : ∀ j u,(cs.toList.take (l.length * z))[j]? = some u → w.drew.cell? ((⟨b,0,none⟩ : Addr).add j) = some u := by
     intro j u hu
     have h9 : w.drew.cell? ((⟨b,0,none⟩ : Addr).add j) = w.cell? ((⟨b,0,none⟩ : Addr).add j) := by simp
     rw [h9,add_lit,cell_of_row w b _ cs e (0,0) hb]
     rw [List.getElem?_take] at hu
     split at hu
     · simpa using hu
     · cases hu
    have hf := run_firstCells_some (P := P) w.drew i.size l.length ⟨b,0,none⟩ l.length cap (cs.toList.take (l.length * z)) (by rw [hsz]; exact hxl) holds
    have hrun := Lib.run_append_grow_zeros (P := P) w t tn ty e i zv .i64 kn hT.u hI.u hi hz (some ⟨b,0,none⟩) l.length cap (cs.toList.take (l.length * z)) hf k hkp (by omega) (by omega) (by omega) (by omega)
     (growslice_fits (by omega) (by rw [hby]; exact hbytes))
    obtain ⟨F',q1,q2,q3,q4⟩ := grow cap (cs.toList.take (l.length * z)) Fs (fun u hu => ho1 u (List.mem_of_mem_take hu)) hxl hrx hn2 (fun b' hb' => List.mem_cons_of_mem _ hb')
    exact ⟨_,_,F',hrun,q1,q2,q3,q4⟩

theorem R.appZ {s s0 t tn e z bytes : Nat} {kn : IntKind} {d0 : D} {x : Operand} {l l2 : List D} {k : Nat} {ty rt : TypeId} {pos : String} {aft : Array Edge} {g : Option (Nat × Bool)} [hT : SlT P ty e] [hE : ElT P e z bytes] [hZ : ZrT P e d0] [hI : IkT P tn kn]
 (ho : ownr σ s s0) (hs : σ.get s0 = some (.sl (some e) z l)) (hx : ev C.gl σ x = some (.int (k : Int))) (he : l ++ List.replicate k d0 = l2) (hn : l.length + k ≤ 1073741824) (ht : t < σ.n) (hst : s0 ≠ t) (hby : bytes ≤ 131072) :
 OpS P C ⟨some t,.call { callee := .builtin .append,args := #[.tmp s,x],argTypes := #[ty,tn] },rt,pos,aft,g⟩ σ ((σ.kill s0).set t (.sl (some e) z l2)) := by
 subst he
 refine OpS.value fun a w ⟨ρ,Fe,Fb,st⟩ => ?_
 obtain ⟨v,hv,hv0,hr⟩ := ownr_val st ho hs
 obtain ⟨Fx,hvx,_⟩ := ev_ok st hx rfl
 simp only [VR,D.isAgg,Bool.false_eq_true,if_false] at hvx
 generalize hex : a.eval x = vx at hvx
 cases hvx
 obtain ⟨f1,f2⟩ := fits hby hn
 obtain ⟨v',w',F',hrun,ht',hnd,hsub,hres⟩ := zapp_run (P := P) (t := ty) (tn := tn) (e := e) (bytes := bytes) (ty := rt) (d0 := d0) (k := k) hr (st.nodE s0) (fun b hb hm => hb.2 (.inl ⟨s0,hm⟩)) f1 f2
 refine ⟨v',w', ?_,ρ,_,Fb,st.take (F := F') ht hst hs ht'.os ht'.tape ht'.output ht'.size ht'.blk hnd hsub ((SR_plain rfl).2 ⟨v',by rw [put_get a t _ t (by rw [st.size]; exact ht)]; simp, ?_⟩)⟩
 · unfold execOp
   simp [resolve,invoke,builtin,eval_tmp hv,hex,hrun]
 · simp only [VR,D.isAgg,Bool.false_eq_true,if_false]
   refine hres _ (fun b hb hl => ⟨hb.1,fun hc => ?_⟩)
   rcases hc with ⟨u,hu⟩ | hid
   · by_cases hut : u = t
     · subst hut
       simp at hu
       rcases hsub b hu with h | h
       · exact hb.2 (.inl ⟨s0,h⟩)
       · omega
     · rw [upd_other hut] at hu
       by_cases hus : u = s0
       · subst hus; simp at hu
       · rw [upd_other hus] at hu; exact hb.2 (.inl ⟨u,hu⟩)
   · exact hb.2 (.inr hid)
end Go.Sx
