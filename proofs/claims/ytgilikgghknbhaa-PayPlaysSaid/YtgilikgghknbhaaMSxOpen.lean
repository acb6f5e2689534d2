/-
 Own library: arguments that a statement's form reads as data,as D; a contract from what a function computes.
-/
import Derived.Test.YtgilikgghknbhaaMSxApp
import Derived.OpenShut
import Derived.Carry
import Derived.Deep.Slices
import Derived.Deep.DeepHandedRow
import Derived.Lib.LaidTab
import Derived.Test.YtgilikgghknbhaaMPyMid11
set_option linter.unusedVariables false
set_option linter.unusedSimpArgs false
set_option linter.unnecessarySimpa false

namespace Go.Sx
open Go.ChangeShapes Go.WideShapes
structure Rd (P : Program) (t : TypeId) (z : Nat) {α : Type} (f : α -> D) (q : α -> Prop) : Prop where
 cells : P.cellsOf t = z
 sz : ∀ a,q a -> (f a).sz = z
 rd : ∀ {H : Type} {enc : TypeId × Value -> H} {w : World} {n : Nat} {cs : List Value} {x : DataW H × List MemPlace},DataW.trod enc P w 0 (fun _=>true) true n t cs = some x ->
  (x.1.weights P t).all (· <= reachBytes) = true -> ∃ a,q a /\ Rc w (fun x=>x) (fun b=>b < w.heap.size) (fun _=>False) false (f a) cs []
variable {P : Program} {t e z : Nat}
theorem Rd.int (ht : P.underlying t = some (.int .i64)) (hz : P.cellsOf t = 1) : Rd P t 1 D.int (fun n=>-9223372036854775808 <= n /\ n <= 9223372036854775807):=
 ⟨hz,fun _ _=>rfl,fun h _=>by
  obtain ⟨n,rfl,_,hw⟩:=DataW.trod_int ht h
  refine ⟨n, ?_,.int n⟩
  simp [Lit.wf,IntKind.min,IntKind.max,IntKind.signed,IntKind.bits] at hw
  omega⟩
theorem Rd.u8 (ht : P.underlying t = some (.int .u8)) (hz : P.cellsOf t = 1) : Rd P t 1 D.u8 (fun _=>True):=
 ⟨hz,fun _ _=>rfl,fun h _=>by
  obtain ⟨n,rfl,_,hw⟩:=DataW.trod_int ht h
  simp [Lit.wf,IntKind.min,IntKind.max,IntKind.signed,IntKind.bits] at hw
  refine ⟨UInt8.ofNat n.toNat,trivial, ?_⟩
  have : ((UInt8.ofNat n.toNat).toNat : Int) = n:=by simp [UInt8.toNat_ofNat']; omega
  have h1:=Rc.u8 (w:=‹World›) (ρ:=fun x=>x) (G:=fun b=>b < (‹World›).heap.size) (L:=fun _=>False) (p:=false) (UInt8.ofNat n.toNat)
  rw [this] at h1
  exact h1⟩
theorem Rd.u32 (ht : P.underlying t = some (.int .u32)) (hz : P.cellsOf t = 1) : Rd P t 1 D.u32 (fun _=>True):=
 ⟨hz,fun _ _=>rfl,fun h _=>by
  obtain ⟨n,rfl,_,hw⟩:=DataW.trod_int ht h
  simp [Lit.wf,IntKind.min,IntKind.max,IntKind.signed,IntKind.bits] at hw
  refine ⟨UInt32.ofNat n.toNat,trivial, ?_⟩
  have : ((UInt32.ofNat n.toNat).toNat : Int) = n:=by simp [UInt32.toNat_ofNat']; omega
  have h1:=Rc.u32 (w:=‹World›) (ρ:=fun x=>x) (G:=fun b=>b < (‹World›).heap.size) (L:=fun _=>False) (p:=false) (UInt32.ofNat n.toNat)
  rw [this] at h1
  exact h1⟩
theorem Rd.u64 (ht : P.underlying t = some (.int .u64)) (hz : P.cellsOf t = 1) : Rd P t 1 D.u64 (fun _=>True):=
 ⟨hz,fun _ _=>rfl,fun h _=>by
  obtain ⟨n,rfl,_,hw⟩:=DataW.trod_int ht h
  simp [Lit.wf,IntKind.min,IntKind.max,IntKind.signed,IntKind.bits] at hw
  refine ⟨UInt64.ofNat n.toNat,trivial, ?_⟩
  have : ((UInt64.ofNat n.toNat).toNat : Int) = n:=by simp [UInt64.toNat_ofNat']; omega
  have h1:=Rc.u64 (w:=‹World›) (ρ:=fun x=>x) (G:=fun b=>b < (‹World›).heap.size) (L:=fun _=>False) (p:=false) (UInt64.ofNat n.toNat)
  rw [this] at h1
  exact h1⟩
theorem weightsAll_mem {H : Type} {p : Nat -> Bool} {l : List (DataW H)} (h : (DataW.weightsAll P e l).all p = true) : ∀ d ∈ l,(d.weights P e).all p = true:=by
 induction l with
 | nil=>intro d hd; cases hd
 | cons x r ih=>
  simp only [DataW.weightsAll,List.all_append,Bool.and_eq_true] at h
  intro d hd
  rcases List.mem_cons.1 hd with rfl | hd
  · exact h.1
  · exact ih h.2 d hd
theorem weightsEach_get {H : Type} {p : Nat -> Bool} : ∀ {ts : List TypeId} {l : List (DataW H)},(DataW.weightsEach P ts l).all p = true -> ∀ (i : Nat) (t : TypeId) (d : DataW H),ts[i]? = some t -> l[i]? = some d -> (d.weights P t).all p = true:=by
 intro ts
 induction ts with
 | nil=>intro l _ i t d ht; simp at ht
 | cons t0 ts ih=>
  intro l h i t d ht hd
  cases l with
  | nil=>simp at hd
  | cons x r=>
   simp only [DataW.weightsEach,List.all_append,Bool.and_eq_true] at h
   cases i with
   | zero=>simp at ht hd; subst ht; subst hd; exact h.1
   | succ i=>exact ih h.2 i t d (by simpa using ht) (by simpa using hd)
theorem list_of {α : Type} {n : Nat} {p : Nat -> α -> Prop} (h : ∀ i,i < n -> ∃ a,p i a) : ∃ l : List α,l.length = n /\ ∀ i (hi : i < l.length),p i l[i]:=by
 induction n with
 | zero=>exact ⟨[],rfl,fun i hi=>by simp at hi⟩
 | succ n ih=>
  obtain ⟨l,hl,hp⟩:=ih (fun i hi=>h i (by omega))
  obtain ⟨a,ha⟩:=h n (by omega)
  refine ⟨l ++ [a],by simp [hl],fun i hi=>?_⟩
  rcases Nat.lt_or_ge i l.length with h1 | h1
  · rw [List.getElem_append_left h1]; exact hp i h1
  · have : i = n:=by simp at hi; omega
    subst this
    rw [List.getElem_append_right h1]
    simpa [hl] using ha
theorem cells_row {w : World} {b off n : Nat} {c : Array Value} {ty : TypeId} {fz : Nat × Nat} {cs : List Value} (hb : w.heap[b]? = some (.cells c ty fz)) (h : w.cells? 0 ⟨b,off,none⟩ n = some cs) (hn : 0 < n) :
 off + n <= c.size /\ cs = (c.toList.drop off).take n:=by
 obtain ⟨_,hl,hc⟩:=World.cells?_some h
 have hc' : ∀ i,i < n -> c[off + i]? = cs[i]?:=fun i hi=>by
  have:=hc i hi
  rw [add_lit,cell_of_row w b _ c ty fz hb] at this
  exact this
 have h1:=hc' (n - 1) (by omega)
 have h2 : off + (n - 1) < c.size:=by
  rw [List.getElem?_eq_getElem (by omega)] at h1
  exact (Array.getElem?_eq_some_iff.1 h1).1
 refine ⟨by omega, ?_⟩
 apply List.ext_getElem?
 intro i
 rw [List.getElem?_take]
 split
 · rw [List.getElem?_drop]
   rw [<- hc' i (by assumption)]
   simp
 · rw [List.getElem?_eq_none (by omega)]
theorem Rd.sl {α : Type} {f : α -> D} {q : α -> Prop} (ht : P.underlying t = some (.slice e)) (hz : P.cellsOf t = 1) (h0 : 0 < z) (hby : 0 < P.bytesOf e) (he : Rd P e z f q) :
 Rd P t 1 (fun l : List α=>.sl none z (l.map f)) (fun l=>l.length <= 140737488355328 /\ ∀ x ∈ l,q x):=
 ⟨hz,fun _ _=>rfl,fun {H enc w n cs x} h hwt=>by
  rcases Go.Deep.open_slice ht h with ⟨rfl,_⟩ | ⟨a,len,cap,m,n',Dd,Pl,rfl,_,hlc,hcm,hm,rfl,hx⟩
  · exact ⟨[],⟨by simp,by simp⟩,.slN none z⟩
  · simp only [if_true] at hm
    have hx:=fun i (hi : i < cap)=>hx i (by omega)
    simp only [DataW.weights,ht,List.all_cons,List.all_append,Bool.and_eq_true,decide_eq_true_eq,List.length_map,List.length_range] at hwt
    obtain ⟨hw1,hw2,hw3⟩:=hwt
    have hw4 : ∀ i,i < len -> ((Dd i).weights P e).all (· <= reachBytes) = true:=fun i hi=>weightsAll_mem hw2 _ (List.mem_map.2 ⟨i,List.mem_range.2 hi,rfl⟩)
    have hlen : len <= 140737488355328:=by
     have h6 : len * 1 <= (len + (m - len)) * P.bytesOf e:=Nat.mul_le_mul (by omega) hby
     simp only [reachBytes] at hw1
     omega
    rcases Nat.eq_zero_or_pos cap with rfl | hcap
    · have : len = 0:=by omega
      subst this
      exact ⟨[],⟨by simp,by simp⟩,.slE none z a⟩
    · rw [he.cells] at hx
      obtain ⟨b,off,sp⟩:=a
      obtain ⟨cs0,hc0,_⟩:=hx 0 hcap
      obtain ⟨_,hl0,hv0⟩:=World.cells?_some hc0
      have h1:=hv0 0 h0
      rw [List.getElem?_eq_getElem (by omega)] at h1
      have hblk : ∃ c ty fz,w.heap[b]? = some (.cells c ty fz) /\ sp = none:=by
       have e0 : ((⟨b,off,sp⟩ : Addr).add (0 * z)).add 0 = ⟨b,off,sp⟩:=by simp [Addr.add]
       rw [e0] at h1
       unfold World.cell? at h1
       simp only at h1
       split at h1
       · rename_i c ty fz hh
         cases sp with
         | none=>exact ⟨c,ty,fz,hh,rfl⟩
         | some s=>simp at h1
       · cases h1
      obtain ⟨c,ty,fz,hb,rfl⟩:=hblk
      have hrow : ∀ i,i < cap -> off + i * z + z <= c.size /\ (i < len -> ∃ a,q a /\ Rc w (fun x=>x) (fun b=>b < w.heap.size) (fun _=>False) false (f a) ((c.toList.drop (off + i * z)).take z) []):=fun i hi=>by
       obtain ⟨cs',h2,h3⟩:=hx i hi
       rw [add_lit] at h2
       obtain ⟨h4,rfl⟩:=cells_row hb h2 h0
       exact ⟨h4,fun hi=>he.rd h3 (hw4 i hi)⟩
      obtain ⟨l,hl,hp⟩:=list_of (fun i hi=>(hrow i (by omega : i < cap)).2 hi : ∀ i,i < len -> _)
      have hsz : off + cap * z <= c.size:=by
       have h5:=(hrow (cap - 1) (by omega)).1
       have : (cap - 1) * z + z = cap * z:=by rw [<- Nat.succ_mul]; congr 1; omega
       omega
      have hlz : len * z <= cap * z:=Nat.mul_le_mul_right z hlc
      refine ⟨l,⟨by omega,fun y hy=>?_⟩, ?_⟩
      · obtain ⟨i,hi,rfl⟩:=List.mem_iff_getElem.1 hy
        exact (hp i hi).1
      · have:=Rc.slI (w:=w) (ρ:=fun x=>x) (G:=fun b=>b < w.heap.size) (L:=fun _=>False) (p:=false) b off c ty fz cap z (l.map f) hb (Array.getElem?_eq_some_iff.1 hb).1 (by simp; omega) (by simp [hl]; omega)
         (fun i hi=>by simp only [List.getElem_map]; exact (hp i (by simpa using hi)).2)
        simpa [hl] using this⟩
theorem Rd.arr {α : Type} {f : α -> D} {q : α -> Prop} {n zz : Nat} (ht : P.underlying t = some (.array n e)) (hz : P.cellsOf t = zz) (hzz : zz = n * z) (he : Rd P e z f q) :
 Rd P t zz (fun l : List α=>.arr n z (l.map f)) (fun l=>l.length = n /\ ∀ x ∈ l,q x):=
 ⟨hz,fun _ _=>by simp [hzz],fun {H enc w m cs x} h hwt=>by
  obtain ⟨xs,m',_,rfl,hlen,hxl,hx⟩:=DataW.trod_array ht h
  rw [hz] at hlen
  rw [he.cells] at hx
  obtain ⟨l,hl,hp⟩:=list_of (p:=fun i a=>q a /\ Rc w (fun x=>x) (fun b=>b < w.heap.size) (fun _=>False) false (f a) ((cs.drop (i * z)).take z) []) (n:=n) (fun i hi=>by
   have:=hx i hi
   rw [List.getElem?_eq_getElem (by omega)] at this
   simp only [DataW.weights,ht] at hwt
   exact he.rd this (weightsAll_mem hwt _ (List.mem_map.2 ⟨_,List.getElem_mem _,rfl⟩)))
  refine ⟨l,⟨hl,fun y hy=>?_⟩,.arr n z _ cs (by simpa using hl) (by omega) (fun i hi=>by simp only [List.getElem_map]; exact (hp i (by simpa using hi)).2)⟩
  obtain ⟨i,hi,rfl⟩:=List.mem_iff_getElem.1 hy
  exact (hp i hi).1⟩
theorem Rd.map {α β : Type} {f : α -> D} {q : α -> Prop} {g : β -> D} {q' : β -> Prop} (h : Rd P t z f q) (m : α -> β) (hm : ∀ a,q a -> q' (m a) /\ g (m a) = f a) (hs : ∀ b,q' b -> (g b).sz = z) : Rd P t z g q':=
 ⟨h.cells,hs,fun hx hw=>by
  obtain ⟨a,ha,hr⟩:=h.rd hx hw
  obtain ⟨h1,h2⟩:=hm a ha
  exact ⟨m a,h1,by rw [h2]; exact hr⟩⟩
structure RdF (P : Program) (off : Nat) (fs : List Field) (e : Nat) {α : Type} (f : α -> List D) (q : α -> Prop) : Prop where
 sz : ∀ a,q a -> off + D.szs (f a) = e
 rd : ∀ {H : Type} {enc : TypeId × Value -> H} {w : World} {n : Nat} {cs : List Value},(∀ fld ∈ fs,∃ x,DataW.trod enc P w 0 (fun _=>true) true n fld.type ((cs.drop fld.offset).take (P.cellsOf fld.type)) = some x /\ (x.1.weights P fld.type).all (· <= reachBytes) = true) ->
  ∃ a,q a /\ ∀ k (hk : k < (f a).length),Rc w (fun x=>x) (fun b=>b < w.heap.size) (fun _=>False) false (f a)[k] ((cs.drop (off + offk (f a) k)).take (f a)[k].sz) []
theorem RdF.nil {off : Nat} : RdF P off [] off (fun _ : Unit=>[]) (fun _=>True):=
 ⟨fun _ _=>by simp,fun _=>⟨(),trivial,fun k hk=>by simp at hk⟩⟩
theorem RdF.cons {α β : Type} {f : α -> D} {q : α -> Prop} {g : β -> List D} {q' : β -> Prop} {off e' : Nat} {fld : Field} {fs : List Field} (h : Rd P fld.type z f q) (ho : fld.offset = off) (hr : RdF P (off + z) fs e' g q') :
 RdF P off (fld :: fs) e' (fun a : α × β=>f a.1 :: g a.2) (fun a=>q a.1 /\ q' a.2):=
 ⟨fun a ha=>by have:=hr.sz a.2 ha.2; have:=h.sz a.1 ha.1; simp only [szs_cons]; omega,fun {H enc w n cs} hx=>by
  obtain ⟨x,h1,hw⟩:=hx fld (by simp)
  rw [ho,h.cells] at h1
  obtain ⟨a,ha,hra⟩:=h.rd h1 hw
  obtain ⟨b,hb,hrb⟩:=hr.rd (fun f hf=>hx f (List.mem_cons_of_mem _ hf))
  refine ⟨(a,b),⟨ha,hb⟩,fun k hk=>?_⟩
  cases k with
  | zero=>simpa [offk,h.sz a ha] using hra
  | succ k=>
   have:=hrb k (by simpa using hk)
   simp only [offk,List.take_succ_cons,szs_cons,List.getElem_cons_succ,h.sz a ha]
   rw [<- Nat.add_assoc]
   exact this⟩
theorem Rd.struct {α : Type} {g : α -> List D} {q : α -> Prop} {fs : Array Field} (ht : P.underlying t = some (.struct fs)) (hz : P.cellsOf t = z) (h : RdF P 0 fs.toList z g q) : Rd P t z (fun a=>.agg (g a)) q:=
 ⟨hz,fun a ha=>by have:=h.sz a ha; simp; omega,fun {H enc w n cs x} hx hwt=>by
  obtain ⟨xs,m,_,rfl,hlen,hxl,hf⟩:=DataW.trod_struct ht hx
  obtain ⟨a,ha,hr⟩:=h.rd (H:=H) (enc:=enc) (w:=w) (n:=m) (cs:=cs) (fun fld hm=>by
   obtain ⟨i,hi,rfl⟩:=List.mem_iff_getElem.1 hm
   have h1:=hf i fs[i] (by simp at hi; simp [hi])
   rw [List.getElem?_eq_getElem (by simp at hi; omega)] at h1
   simp only [DataW.weights,ht] at hwt
   refine ⟨_,by simpa using h1, ?_⟩
   exact weightsEach_get hwt i _ _ (by simp at hi; simp [hi]) (by simp at hi; rw [List.getElem?_map,List.getElem?_eq_getElem (by omega)]; rfl))
  refine ⟨a,ha, ?_⟩
  have:=Rc.agg (w:=w) (ρ:=fun x=>x) (G:=fun b=>b < w.heap.size) (L:=fun _=>False) (p:=false) (g a) cs (fun _=>[]) (by have:=h.sz a ha; omega) (fun k hk=>by have:=hr k hk; rwa [Nat.zero_add] at this)
  rw [flat0] at this
  exact this⟩
def isAggT (P : Program) (t : TypeId) : Bool:=match P.underlying t with
 | some (.struct _)=>true
 | some (.array _ _)=>true
 | _=>false
theorem cells_one {r : Reach} {W : World} {base : Nat} {v : Value} (hu : isAggT P t = false) (hv : Value.okWide P W r base t v) : v.cells = #[v]:=by
 cases v with
 | agg cs=>
  exfalso
  unfold isAggT at hu
  unfold Value.okWide at hv
  split at hv
  · rename_i h; simp [h] at hu
  · rename_i h; simp [h] at hu
  · unfold Cell.okWide Cell.ok at hv
    split at hv <;> simp_all
 | _=>rfl
theorem Rd.arg {H : Type} {enc : TypeId × Value -> H} {α : Type} {f : α -> D} {q : α -> Prop} {g : Bool} {r : Reach} {W : World} {base : Nat} {v : Value} {d : DataW H} {ps : List MemPlace} (h : Rd P t z f q) (hu : isAggT P t = g) (hg : ∀ a,q a -> (f a).isAgg = g)
 (hv : Value.okWide P W r base t v) (hd : DataW.Trod enc P W 0 (fun _=>true) true t v d ps) (hw : (d.weights P t).all (· <= reachBytes) = true) :
 ∃ a,q a /\ VR W (fun x=>x) (fun b=>b < W.heap.size) (fun _=>False) (f a) v []:=by
 obtain ⟨fuel,hd⟩:=hd
 obtain ⟨a,ha,hr⟩:=h.rd hd hw
 refine ⟨a,ha, ?_⟩
 have hga:=hg a ha
 cases g with
 | true=>
  have : ∃ cs,v = .agg cs:=by
   unfold isAggT at hu
   unfold Value.okWide at hv
   split at hv
   · exact ⟨_,hv.choose_spec.1⟩
   · exact ⟨_,hv.choose_spec.1⟩
   · split at hu <;> simp_all
  obtain ⟨cs,rfl⟩:=this
  simp only [VR,hga,if_true]
  exact ⟨cs,rfl,hr.flag⟩
 | false=>
  rw [cells_one hu hv] at hr
  simp only [VR,hga,if_false,Bool.false_eq_true]
  exact hr.flag
theorem trodAll_stays {H : Type} {enc : TypeId × Value -> H} {W W' : World} {sp : Nat -> Bool} (hl : laidOutB P = true) (hb : ∀ b,b < W.heap.size -> W'.heap[b]? = W.heap[b]?) :
 ∀ {ts : List TypeId} {vs : List Value} {ds : List (DataW H)} {ps : List MemPlace},(ts.all fun t=>P.readableRec t && decide (t < P.types.size)) = true -> (∀ x ∈ ps,x.block < W.heap.size) -> (∀ x ∈ ps,sp x.block = true) ->
  DataW.TrodAll enc P W 0 (fun _=>true) true ts vs ds ps -> DataW.TrodAll enc P W' 0 sp true ts vs ds ps:=by
 intro ts
 induction ts with
 | nil=>intro vs ds ps _ _ _ h; obtain ⟨rfl,rfl,rfl⟩:=trodAll_nil h; exact trodAll_mk0
 | cons t ts ih=>
  intro vs ds ps ht hlt hs h
  obtain ⟨v,vs1,d,ds1,a,b,rfl,rfl,rfl,h1,h2⟩:=trodAll_cons h
  simp only [List.all_cons,Bool.and_eq_true,decide_eq_true_eq] at ht
  refine trodAll_cons_mk (Go.WideElems.Trod_stays hl ht.1.1 ht.1.2 h1 (fun x hx=>?_) (fun x hx=>hs x (List.mem_append.2 (.inl hx)))) (ih ht.2 (fun x hx=>hlt x (List.mem_append.2 (.inr hx))) (fun x hx=>hs x (List.mem_append.2 (.inr hx))) h2)
  have hx':=hlt x (List.mem_append.2 (.inl hx))
  cases x with
  | cell b o=>exact World.cell?_of_block (w:=W) (hb b hx')
  | map b=>exact hb b hx'
theorem contract_of {H : Type} {enc : TypeId × Value -> H} {fn : Func} {f : FuncId} {s : ChangeSpec} {W : World} {args : Array Value} {ds gs : List (DataW H)} {before : List MemPlace} {tb : TypeId} {gl : List (Nat × D)} {Ds : List D}
 (hl : laidOutB P = true) (hpar : (fn.params.toList.all fun t=>P.readableRec t && decide (t < P.types.size)) = true) (hres : fn.resultTypes = #[tb]) (htb : P.underlying tb = some .bool) (hsv : s.vars = [])
 (hfn : s.fn H ds = { results:=[.lit (.bool true)],args:=ds }) (hW : DataW.Whole enc P fn.params.toList s.vars false W args.toList ds gs before)
 (hgl : ∀ g d,(g,d) ∈ gl -> g < W.heap.size /\ ∃ cs e fz,W.heap[g]? = some (.cells cs e fz) /\ Rc W (fun x=>x) (fun _=>False) (fun _=>False) false d cs.toList [])
 (hlen : args.toList.length = Ds.length) (hargs : ∀ k (h : k < Ds.length),VR W (fun x=>x) (fun b=>b < W.heap.size) (fun _=>False) Ds[k] (args.toList.getD k undef) [])
 (hf : Fn P gl f Ds (.bool true)) : Calls P f args W fun e W'=>∃ v,e = .returned v /\ s.post enc P fn false true false false W args v W':=by
 have hrun:=hf W (fun b=>b < W.heap.size) args.toList hgl hlen hargs
 rw [Array.toArray_toList] at hrun
 refine hrun.mono fun ex W' ⟨v,F,he,hext,_,_,hrv⟩=>⟨v,he, ?_⟩
 have hv : v = .bool true:=by
  obtain ⟨_,h2⟩:=hrv
  simp only [VR,D.isAgg,Bool.false_eq_true,if_false] at h2
  cases h2
  rfl
 subst hv
 have hlt:=hW.lt
 have hW0:=hW
 obtain ⟨p,q',hA,hV,rfl,hfz,hnd⟩:=hW
 rw [hsv] at hV
 obtain ⟨rfl,rfl⟩:=trodVars_none hV
 simp only [List.append_nil] at hlt hW0
 have hst : ∀ sp : Nat -> Bool,(∀ x ∈ p,sp x.block = true) -> DataW.TrodAll enc P W' 0 sp true fn.params.toList args.toList ds p:=fun sp hs=>trodAll_stays hl (fun b hb=>hext.block b hb) hpar hlt hs hA
 refine ⟨ds,[],p,[],p,[],hW0, ?_, ?_, ?_,⟨hext.os,hext.output,fun i hi=>?_⟩,fun h=>by cases h⟩
 · rw [hres]
   simp only [List.append_nil,hfn]
   exact trodAll_cons_mk (Go.RowKit.shut_bool htb true) trodAll_mk0
 · simp only [List.append_nil,hfn]
   exact hst _ (fun x hx=>by simpa using hlt x hx)
 · simp only [List.append_nil,hfn,hsv]
   rfl
 · rw [hext.block i hi]
   cases hh : W.heap[i]? with
   | none=>simp
   | some o=>cases o <;> simp
end Go.Sx

namespace Go.Sx
open Go.Proofs
theorem rd_u8s : Rd Try.prog 24 1 (fun b : List UInt8=>.sl none 1 (b.map D.u8)) (fun b=>b.length <= 140737488355328 /\ ∀ x ∈ b,True):=
 Rd.sl (P:=Try.prog) Try.underlying24 (by kernel_rfl) (by decide) (of_decide_eq_true (by kernel_rfl)) (Rd.u8 Try.underlying5 (by kernel_rfl))
theorem rd_un : Rd Try.prog 67 35 coD (fun c=>c.tx.length = 32):=by
 have h32:=Rd.u32 (P:=Try.prog) Try.underlying26 (by kernel_rfl)
 have h64:=Rd.u64 (P:=Try.prog) Try.underlying25 (by kernel_rfl)
 have hi:=Rd.int (P:=Try.prog) Try.underlying3 (by kernel_rfl)
 have hh:=Rd.arr (P:=Try.prog) (n:=32) Try.underlying35 (by kernel_rfl) rfl (Rd.u8 Try.underlying5 (by kernel_rfl))
 have hpl:=Rd.struct (P:=Try.prog) (z:=33) Try.underlying43 (by kernel_rfl) (.cons hh rfl (.cons h32 rfl .nil))
 have h:=Rd.struct (P:=Try.prog) (z:=35) Try.underlying67 (by kernel_rfl) (.cons hpl rfl (.cons h64 rfl (.cons hi rfl .nil)))
 exact h.map (q':=fun c : Un=>c.tx.length = 32) (g:=coD) (fun a=>⟨a.1.1,a.1.2.1,a.2.1,a.2.2.1⟩) (fun a ha=>⟨ha.1.1.1,rfl⟩) (fun b hb=>rfl)
theorem rd_uns : Rd Try.prog 22 1 (fun l : List Un=>.sl none 35 (l.map coD)) (fun l=>l.length <= 140737488355328 /\ ∀ c ∈ l,c.tx.length = 32):=
 Rd.sl (P:=Try.prog) Try.underlying22 (by kernel_rfl) (by decide) (of_decide_eq_true (by kernel_rfl)) rd_un
theorem rd_wnt : Rd Try.prog 70 2 wntD (fun w=>w.script.length <= 140737488355328):=by
 have h64:=Rd.u64 (P:=Try.prog) Try.underlying25 (by kernel_rfl)
 have hb:=Rd.sl (P:=Try.prog) Try.underlying24 (by kernel_rfl) (by decide) (of_decide_eq_true (by kernel_rfl)) (Rd.u8 Try.underlying5 (by kernel_rfl))
 have h:=Rd.struct (P:=Try.prog) (z:=2) Try.underlying70 (by kernel_rfl) (.cons hb rfl (.cons h64 rfl .nil))
 exact h.map (q':=fun w : Wnt=>w.script.length <= 140737488355328) (g:=wntD) (fun a=>⟨a.1,a.2.1⟩) (fun a ha=>⟨ha.1.1,rfl⟩) (fun b hb=>rfl)
theorem rd_wns : Rd Try.prog 23 1 (fun l : List Wnt=>.sl none 2 (l.map wntD)) (fun l=>l.length <= 140737488355328 /\ ∀ c ∈ l,c.script.length <= 140737488355328):=
 Rd.sl (P:=Try.prog) Try.underlying23 (by kernel_rfl) (by decide) (of_decide_eq_true (by kernel_rfl)) rd_wnt
theorem rd_tx : Rd Try.prog 30 4 txD TxS.arg:=by
 have h32:=Rd.u32 (P:=Try.prog) Try.underlying26 (by kernel_rfl)
 have h64:=Rd.u64 (P:=Try.prog) Try.underlying25 (by kernel_rfl)
 have hb:=Rd.sl (P:=Try.prog) Try.underlying24 (by kernel_rfl) (by decide) (of_decide_eq_true (by kernel_rfl)) (Rd.u8 Try.underlying5 (by kernel_rfl))
 have hbb:=Rd.sl (P:=Try.prog) Try.underlying44 (by kernel_rfl) (by decide) (of_decide_eq_true (by kernel_rfl)) hb
 have hh:=Rd.arr (P:=Try.prog) (n:=32) Try.underlying35 (by kernel_rfl) rfl (Rd.u8 Try.underlying5 (by kernel_rfl))
 have hpl:=Rd.struct (P:=Try.prog) (z:=33) Try.underlying43 (by kernel_rfl) (.cons hh rfl (.cons h32 rfl .nil))
 have hin0:=Rd.struct (P:=Try.prog) (z:=36) Try.underlying46 (by kernel_rfl) (.cons hpl rfl (.cons hb rfl (.cons h32 rfl (.cons hbb rfl .nil))))
 have hin:=hin0.map (q':=fun x : InS=>x.tx.length = 32 /\ x.script.length <= 140737488355328 /\ x.wit.length <= 140737488355328 /\ ∀ b ∈ x.wit,b.length <= 140737488355328) (g:=inD)
  (fun a=>⟨a.1.1,a.1.2.1,a.2.1,a.2.2.1,a.2.2.2.1⟩) (fun a ha=>⟨⟨ha.1.1.1,ha.2.1.1,ha.2.2.2.1.1,fun b hb=>(ha.2.2.2.1.2 b hb).1⟩,rfl⟩) (fun b hb=>rfl)
 have hout0:=Rd.struct (P:=Try.prog) (z:=2) Try.underlying48 (by kernel_rfl) (.cons h64 rfl (.cons hb rfl .nil))
 have hout:=hout0.map (q':=fun x : OutS=>x.script.length <= 140737488355328) (g:=outD) (fun a=>⟨a.1,a.2.1⟩) (fun a ha=>⟨ha.2.1.1,rfl⟩) (fun b hb=>rfl)
 have hins:=Rd.sl (P:=Try.prog) Try.underlying27 (by kernel_rfl) (by decide) (of_decide_eq_true (by kernel_rfl)) hin
 have houts:=Rd.sl (P:=Try.prog) Try.underlying28 (by kernel_rfl) (by decide) (of_decide_eq_true (by kernel_rfl)) hout
 have htx:=Rd.struct (P:=Try.prog) (z:=4) Try.underlying30 (by kernel_rfl) (.cons h32 rfl (.cons hins rfl (.cons houts rfl (.cons h32 rfl .nil))))
 exact htx.map (fun a=>⟨a.1,a.2.1,a.2.2.1,a.2.2.2.1⟩) (fun a ha=>⟨⟨⟨ha.2.1.1,ha.2.2.1.1,fun x hx=>(ha.2.1.2 x hx).2.1,fun x hx=>(ha.2.1.2 x hx).2.2.1,fun x hx=>(ha.2.1.2 x hx).2.2.2,fun x hx=>ha.2.2.1.2 x hx⟩,fun x hx=>(ha.2.1.2 x hx).1⟩,rfl⟩) (fun b hb=>rfl)
end Go.Sx
