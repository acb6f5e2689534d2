/- Own texts. -/
import Derived.WalkKit
import Derived.OrdersIn
import Derived.TacticsIn
import Derived.LoopIn
import Derived.IntWalk
import Derived.WalkLawsBesides
import Derived.Orders
import Derived.Laws.AppendOwn
import Derived.Laws.OwnMore
import Derived.Laws.MakeOwn
import Derived.Laws.CopyRow
import Derived.ChangeKeysEq
set_option linter.unusedVariables false
set_option linter.unusedSimpArgs false
set_option linter.unnecessarySimpa false

namespace Go.Sx
variable{ρ':Nat->Nat}{live:List Nat}{G' L':Nat->Prop}{gg:Bool}{α:Type}
abbrev B7:=@Array.foldl_toList
abbrev v9:=@Array.getD_eq_getD_getElem?
abbrev X2:=@Array.getElem?_append_left
abbrev O8:=@Array.getElem?_eq_getElem
abbrev I7:=@Array.getElem?_eq_none
abbrev j6:=@Array.getElem?_eq_some_iff
abbrev M6:=@Array.getElem?_push_lt
abbrev C4:=@Array.getElem?_replicate
abbrev M5:=@Array.getElem?_setIfInBounds
abbrev S9:=@Array.getElem_toList
abbrev p6:=@Array.length_toList
abbrev I4:=@BitVec.allOnes_xor
abbrev N9:=@BitVec.eq_of_toNat_eq
abbrev I3:=@BitVec.toNat_ofInt
abbrev u6:=@Bool.and_eq_true
abbrev i8:=@Bool.and_true
abbrev J1:=@Bool.eq_iff_iff
abbrev q7:=@Bool.false_eq_true
abbrev X8:=@Bool.false_ne_true
abbrev X7:=@Bool.not_eq_false'
abbrev D1:=@Bool.not_eq_true'
abbrev Y2:=@Bool.or_eq_true
abbrev U9:=@Bool.true_and
abbrev N8:=@Classical.choose_spec
abbrev C6:=@Classical.not_forall
abbrev G7:=@Classical.not_imp
abbrev J4:=@Go.Code.wpIn_mono
abbrev W1:=@Go.Code.wp_mono
abbrev U6:=@Int.emod_eq_of_lt
abbrev D0:=@Int.fdiv_eq_ediv_of_nonneg
abbrev V0:=@Int.natCast_inj
abbrev Y4:=@Int.natCast_nonneg
abbrev B5:=@Int.tdiv_eq_ediv_of_nonneg
abbrev QM:=@List.all_append
abbrev E6:=@List.all_cons
abbrev o8:=@List.all_eq_true
abbrev i4:=@List.any_eq_false
abbrev Z4:=@List.any_eq_true
abbrev u5:=@List.append_assoc
abbrev m6:=@List.append_nil
abbrev E0:=@List.cons_append
abbrev U5:=@List.contains_iff_mem
abbrev B4:=@List.drop_drop
abbrev p8:=@List.drop_eq_getElem_cons
abbrev P2:=@List.drop_left'
abbrev L9:=@List.drop_take
abbrev K5:=@List.drop_zero
abbrev Z6:=@List.ext_getElem?
abbrev J0:=@List.flatMap_eq_nil_iff
abbrev K8:=@List.getD_eq_getElem?_getD
abbrev J3:=@List.getElem?_append_left
abbrev X1:=@List.getElem?_append_right
abbrev I0:=@List.getElem?_cons_succ
abbrev n4:=@List.getElem?_drop
abbrev j8:=@List.getElem?_eq_getElem
abbrev X0:=@List.getElem?_eq_none
abbrev z8:=@List.getElem?_eq_some_iff
abbrev J2:=@List.getElem?_map
abbrev T9:=@List.getElem?_range
abbrev L8:=@List.getElem?_set
abbrev d9:=@List.getElem?_take
abbrev H0:=@List.getElem?_toArray
abbrev o0:=@List.getElem_append_left
abbrev K1:=@List.getElem_append_right
abbrev J6:=@List.getElem_cons_succ
abbrev Z2:=@List.getElem_cons_zero
abbrev H9:=@List.getElem_drop
abbrev c8:=@List.getElem_map
abbrev g6:=@List.getElem_mem
abbrev I6:=@List.getElem_replicate
abbrev B1:=@List.getElem_set_ne
abbrev D7:=@List.getElem_set_self
abbrev Q7:=@List.getElem_take
abbrev q9:=@List.length_append
abbrev j3:=@List.length_cons
abbrev v8:=@List.length_drop
abbrev Q4:=@List.length_eq_zero_iff
abbrev z9:=@List.length_map
abbrev j5:=@List.length_nil
abbrev G6:=@List.length_range
abbrev d6:=@List.length_replicate
abbrev QP:=@List.length_set
abbrev Q5:=@List.length_singleton
abbrev v5:=@List.length_take
abbrev d5:=@List.map_append
abbrev b9:=@List.map_cons
abbrev S8:=@List.map_drop
abbrev L5:=@List.map_map
abbrev K0:=@List.map_nil
abbrev N1:=@List.map_replicate
abbrev W6:=@List.map_set
abbrev U8:=@List.map_take
abbrev A9:=@List.map_toArray
abbrev Q9:=@List.mem_append
abbrev w5:=@List.mem_cons
abbrev j1:=@List.mem_cons_of_mem
abbrev w8:=@List.mem_flatMap
abbrev Q2:=@List.mem_iff_getElem
abbrev n9:=@List.mem_map
abbrev Y6:=@List.mem_of_getElem?
abbrev Y5:=@List.mem_of_mem_drop
abbrev Q0:=@List.mem_of_mem_take
abbrev j7:=@List.mem_range
abbrev d8:=@List.mem_singleton
abbrev U0:=@List.nil_append
abbrev v3:=@List.nodup_cons
abbrev w9:=@List.nodup_nil
abbrev M2:=@List.not_mem_nil
abbrev N5:=@List.range_succ
abbrev T8:=@List.set_append
abbrev s4:=@List.set_cons_zero
abbrev L7:=@List.size_toArray
abbrev K9:=@List.take_append_drop
abbrev G5:=@List.take_append_of_le_length
abbrev J9:=@List.take_length
abbrev m4:=@List.take_of_length_le
abbrev Z9:=@List.take_succ_cons
abbrev X6:=@List.take_take
abbrev H6:=@List.take_zero
abbrev U7:=@Nat.add_assoc
abbrev W5:=@Nat.add_comm
abbrev v7:=@Nat.add_mul
abbrev J8:=@Nat.add_zero
abbrev Z8:=@Nat.beq_refl
abbrev M1:=@Nat.div_eq_of_lt
abbrev F9:=@Nat.div_le_self
abbrev S7:=@Nat.div_lt_of_lt_mul
abbrev m8:=@Nat.eq_of_beq_eq_true
abbrev I2:=@Nat.eq_zero_or_pos
abbrev g0:=@Nat.le_of_ble_eq_true
abbrev H4:=@Nat.le_of_not_lt
abbrev z7:=@Nat.le_refl
abbrev u9:=@Nat.le_trans
abbrev u0:=@Nat.lt_of_lt_of_le
abbrev X9:=@Nat.lt_or_ge
abbrev I1:=@Nat.lt_or_gt_of_ne
abbrev m5:=@Nat.lt_succ_iff_lt_or_eq
abbrev n6:=@Nat.min_eq_left
abbrev D8:=@Nat.min_eq_right
abbrev f5:=@Nat.min_le_right
abbrev Q6:=@Nat.mod_eq_of_lt
abbrev R1:=@Nat.mod_lt
abbrev L4:=@Nat.mul_comm
abbrev w6:=@Nat.mul_le_mul_right
abbrev S0:=@Nat.mul_mod_left
abbrev Q8:=@Nat.not_lt_zero
abbrev l9:=@Nat.one_mul
abbrev R9:=@Nat.shiftLeft_eq
abbrev D6:=@Nat.shiftRight_eq_div_pow
abbrev L3:=@Nat.sub_self
abbrev O7:=@Nat.sub_zero
abbrev F8:=@Nat.two_pow_pos
abbrev c9:=@Nat.zero_add
abbrev g9:=@Nat.zero_le
abbrev D5:=@Option.isNone_iff_eq_none
abbrev P4:=@Option.isSome_iff_exists
abbrev n3:=@Option.map_eq_none_iff
abbrev p9:=@Option.map_eq_some_iff
abbrev Y1:=@Option.map_some
abbrev z6:=@Option.some.injEq
abbrev b8:=@Prod.mk.injEq
abbrev T7:=@UInt16.toNat_ofNat'
abbrev R8:=@UInt32.toNat_inj
abbrev U3:=@UInt32.toNat_ofNat'
abbrev Y9:=@UInt64.le_iff_toNat_le
abbrev J5:=@UInt64.lt_iff_toNat_lt
abbrev R7:=@UInt64.toNat_inj
abbrev M0:=@UInt64.toNat_ofNat'
abbrev B6:=@UInt8.toNat_ofNat'
abbrev v4:=@beq_eq_false_iff_ne
abbrev p7:=@beq_iff_eq
abbrev D2:=@bne_eq_false_iff_eq
abbrev G9:=@bne_iff_ne
abbrev d7:=@cond_false
abbrev m9:=@cond_true
abbrev g8:=@congrArg
abbrev H3:=@decide_eq_decide
abbrev J7:=@decide_eq_false
abbrev O4:=@decide_eq_true
abbrev Z5:=@decide_eq_true_eq
abbrev Z1:=@getElem!_pos
abbrev q8:=@if_false
abbrev w3:=@if_neg
abbrev u4:=@if_pos
abbrev j9:=@if_true
abbrev F7:=@ne_of_beq_false
abbrev C8:=@not_true_eq_false
abbrev g7:=@of_decide_eq_false
abbrev c3:=@of_decide_eq_true
abbrev QR:=@or_false
inductive D where
 | bool (b:Bool)
 | int (n:Int)
 | u8 (x:UInt8)
 | u16 (x:UInt16)
 | u32 (x:UInt32)
 | u64 (x:UInt64)
 | ik (k:IntKind) (n:Int)
 | str (s:List UInt8)
 | nils
 | sl (o:Option Nat) (z:Nat) (l:List D)
 | agg (l:List D)
 | arr (n z:Nat) (l:List D)
 | ptr (id off:Nat) (path:List Nat)
 | bs (id z n cap:Nat)
 | nilp
 | adr (b:Nat)
 | rp (d:D)
 | map (id:Nat)
 | nilmap
 | fn (f:Nat) (caps:List D)
 | nilf
 | yld (l:Nat)
 | ifc (t:Nat) (d:D)
 | nili
 | al (s:Nat)
 | alb (id off:Nat) (path:List Nat)
 | vw (s z lo n:Nat)
 | va (id off z n:Nat) (path:List Nat) (lo:Nat)
 | ep (s z i off:Nat) (path:List Nat)
 | tup (l:List D)
 | dead
 deriving Inhabited
mutual
def D.sz:D->Nat
 | .agg l=>N6 l
 | .arr n z _=>n*z
 | _=>1
def N6:List D->Nat
 | []=>0
 | d::r=>D.sz d+N6 r
end
@[simp] theorem v00:N6 []=0:=by simp[N6]
@[simp] theorem S1 (d:D) (r:List D):N6 (d::r)=d.sz+N6 r:=by simp[N6]
@[simp] theorem JM (l:List D):(D.agg l).sz=N6 l:=by simp[D.sz]
@[simp] theorem HU (n z:Nat) (l:List D):(D.arr n z l).sz=n*z:=by simp[D.sz]
theorem HX(l r:List D):N6 (l++r)=N6 l+N6 r:=by
 induction l with
 | nil=>simp
 | cons d l ih=>simp[ih];omega
def offk(l:List D)(k:Nat):Nat:=N6 (l.take k)
def D.isAgg:D->Bool
 | .agg _ | .arr _ _ _=>true
 | _=>false
def D.isRef:D->Bool
 | .al _ | .alb _ _ _ | .vw _ _ _ _ | .va _ _ _ _ _ _ | .ep _ _ _ _ _ | .tup _ | .dead=>true
 | _=>false
inductive Rc(w:World)(ρ:Nat->Nat)(G:Nat->Prop)(L:Nat->Prop):Bool->D->List Value->List Nat->Prop
 | bool {p} (b:Bool):Rc w ρ G L p (.bool b) [.bool b] []
 | int {p} (n:Int):Rc w ρ G L p (.int n) [.int .i64 n] []
 | u8 {p} (x:UInt8):Rc w ρ G L p (.u8 x) [.int .u8 x.toNat] []
 | u16 {p} (x:UInt16):Rc w ρ G L p (.u16 x) [.int .u16 x.toNat] []
 | u32 {p} (x:UInt32):Rc w ρ G L p (.u32 x) [.int .u32 x.toNat] []
 | u64 {p} (x:UInt64):Rc w ρ G L p (.u64 x) [.int .u64 x.toNat] []
 | ik {p} (k:IntKind) (n:Int):Rc w ρ G L p (.ik k n) [.int k n] []
 | str {p} (s:List UInt8):Rc w ρ G L p (.str s) [.string ⟨s.toArray⟩] []
 | nils {p}:Rc w ρ G L p .nils [.slice none 0 0] []
 | slN {p} (o:Option Nat) (z:Nat):Rc w ρ G L p (.sl o z []) [.slice none 0 0] []
 | slE {p} (o:Option Nat) (z:Nat) (a:Addr):Rc w ρ G L p (.sl o z []) [.slice (some a) 0 0] []
 | slI {p} (b off:Nat) (cs:Array Value) (e:Nat) (fz:Nat×Nat) (cap z:Nat) (l:List D) (hb:w.heap[b]? = some (.cells cs e fz)) (hG:G b)
  (hc:l.length<=cap) (hs:off+l.length*z<=cs.size) (hr:∀ i (h:i<l.length),Rc w ρ G L false l[i] ((cs.toList.drop (off+i*z)).take z) []) :
  Rc w ρ G L p (.sl none z l) [.slice (some ⟨b,off,none⟩) l.length cap] []
 | slO {p} (b:Nat) (cs:Array Value) (e:Nat) (cap z:Nat) (l:List D) (Fs:Nat->List Nat) (hb:w.heap[b]? = some (.cells cs e (0,0)))
  (hc:l.length<=cap) (hm:cap<=maxLen) (hs:cs.size=cap*z) (ho:∀ u∈cs.toList,u.oneCell'=true) (hr:∀ i (h:i<l.length),Rc w ρ G L false l[i] ((cs.toList.drop (i*z)).take z) (Fs i)) :
  Rc w ρ G L p (.sl (some e) z l) [.slice (some ⟨b,0,none⟩) l.length cap] (b::(List.range l.length).flatMap Fs)
 | agg {p} (l:List D) (cs:List Value) (Fs:Nat->List Nat) (hs:cs.length=N6 l)
  (hr:∀ k (h:k<l.length),Rc w ρ G L p l[k] ((cs.drop (offk l k)).take l[k].sz) (Fs k)):Rc w ρ G L p (.agg l) cs ((List.range l.length).flatMap Fs)
 | arr {p} (n z:Nat) (l:List D) (cs:List Value) (hl:l.length=n) (hs:cs.length=n*z)
  (hr:∀ i (h:i<l.length),Rc w ρ G L false l[i] ((cs.drop (i*z)).take z) []):Rc w ρ G L p (.arr n z l) cs []
 | ptr (id off:Nat) (path:List Nat) (hL:L id):Rc w ρ G L true (.ptr id off path) [.pointer (some ⟨ρ id,off,none⟩)] []
 | bs (id z n cap:Nat) (hL:L id) (hc:n<=cap):Rc w ρ G L true (.bs id z n cap) [.slice (some ⟨ρ id,0,none⟩) n cap] []
 | nilp {p}:Rc w ρ G L p .nilp [.pointer none] []
 | adr {p} (b:Nat):Rc w ρ G L p (.adr b) [.pointer (some ⟨b,0,none⟩)] []
 | rp {p} (d:D) (b off:Nat) (cs:Array Value) (e:Nat) (fz:Nat×Nat) (hb:w.heap[b]? = some (.cells cs e fz)) (hG:G b) (hs:off+d.sz<=cs.size)
  (hr:Rc w ρ G L false d ((cs.toList.drop off).take d.sz) []):Rc w ρ G L p (.rp d) [.pointer (some ⟨b,off,none⟩)] []
 | map (id:Nat) (hL:L id):Rc w ρ G L true (.map id) [.map (some (ρ id))] []
 | nilmap {p}:Rc w ρ G L p .nilmap [.map none] []
 | fn {p} (f:Nat) (caps:List D) (vs:List Value) (hl:vs.length=caps.length) (ha:∀ k (h:k<caps.length),caps[k].isAgg=false)
  (hr:∀ k (h:k<caps.length),Rc w ρ G L p caps[k] [vs.getD k undef] []):Rc w ρ G L p (.fn f caps) [.func (.func f) #[] vs.toArray] []
 | nilf {p}:Rc w ρ G L p .nilf [.nilFunc] []
 | yld {p} (l:Nat):Rc w ρ G L p (.yld l) [.func (.yield l) #[] #[]] []
 | ifc {p} (t:Nat) (d:D) (v:Value) (ha:d.isAgg=false) (hr:Rc w ρ G L p d [v] []):Rc w ρ G L p (.ifc t d) [.iface t v] []
 | nili {p}:Rc w ρ G L p .nili [.nilIface] []
 | dead {p} (v:Value) (h:v.oneCell'=true):Rc w ρ G L p .dead [v] []
theorem Rc.len{w:World}{ρ:Nat->Nat}{G L:Nat->Prop}{p:Bool}{d:D}{cs:List Value}{F:List Nat}(h:Rc w ρ G L p d cs F):cs.length=d.sz:=by
 cases h<;>simp_all [D.sz]
theorem Rc.mono{w w':World}{ρ:Nat->Nat}{G L:Nat->Prop}{p:Bool}{d:D}{cs:List Value}{F:List Nat}(h:Rc w ρ G L p d cs F)
 (hh:∀ b,(G b∨b∈F)->b<w.heap.size->w'.heap[b]? = w.heap[b]?) (hg:∀ b,G b->b<w.heap.size->G' b) (hL:∀ id,L id->L' id/\ρ' id=ρ id):Rc w' ρ' G' L' p d cs F:=by
 induction h with
 | bool b=>exact .bool b
 | int n=>exact .int n
 | u8 x=>exact .u8 x
 | u16 x=>exact .u16 x
 | u32 x=>exact .u32 x
 | u64 x=>exact .u64 x
 | ik k n=>exact .ik k n
 | str s=>exact .str s
 | nils=>exact .nils
 | slN o z=>exact .slN o z
 | slE o z a=>exact .slE o z a
 | slI b off cs e fz cap z l hb hG hc hs hr ih=>
  have hlt:b<w.heap.size:=(j6.1 hb).1;exact .slI b off cs e fz cap z l ((hh b (.inl hG) hlt).trans hb) (hg b hG hlt) hc hs (λi hi=>ih i hi (λb hb=>hh b (.inl (hb.resolve_right (by simp)))))
 | slO b cs e cap z l Fs hb hc hm hs ho hr ih=>
  have hlt:b<w.heap.size:=(j6.1 hb).1;refine .slO b cs e cap z l Fs ((hh b (.inr (by simp)) hlt).trans hb) hc hm hs ho (λi hi=>ih i hi (λb' hb'=>hh b' (hb'.imp id λhm=>?_)));exact j1 _ (w8.2 ⟨i,j7.2 hi,hm⟩)
 | agg l cs Fs hs hr ih=>
  exact .agg l cs Fs hs (λk hk=>ih k hk (λb' hb'=>hh b' (hb'.imp id λhm=>w8.2 ⟨k,j7.2 hk,hm⟩)))
 | arr n z l cs hl hs hr ih=>exact .arr n z l cs hl hs (λi hi=>ih i hi (λb hb=>hh b (.inl (hb.resolve_right (by simp)))))
 | ptr id off path hid=>rw[<- (hL id hid).2];exact .ptr id off path (hL id hid).1
 | bs id z n cap hid hcap=>rw[<- (hL id hid).2];exact .bs id z n cap (hL id hid).1 hcap
 | nilp=>exact .nilp
 | adr b=>exact .adr b
 | rp d b off cs e fz hb hG hs hr ih=>
  have hlt:b<w.heap.size:=(j6.1 hb).1;exact .rp d b off cs e fz ((hh b (.inl hG) hlt).trans hb) (hg b hG hlt) hs (ih (λb hb=>hh b (.inl (hb.resolve_right (by simp)))))
 | map id hid=>rw[<- (hL id hid).2];exact .map id (hL id hid).1
 | nilmap=>exact .nilmap
 | fn f caps vs hl ha hr ih=>exact .fn f caps vs hl ha (λk hk=>ih k hk (λb hb=>hh b (.inl (hb.resolve_right (by simp)))))
 | nilf=>exact .nilf
 | yld l=>exact .yld l
 | ifc t d v ha hr ih=>exact .ifc t d v ha (ih (λb hb=>hh b (.inl (hb.resolve_right (by simp)))))
 | nili=>exact .nili
 | dead v h=>exact .dead v h
theorem Rc.flag{w:World}{ρ:Nat->Nat}{G L:Nat->Prop}{d:D}{cs:List Value}{F:List Nat}(h:Rc w ρ G L false d cs F):Rc w ρ G L true d cs F:=by
 generalize hp:false=p at h
 induction h with
 | bool b=>exact .bool b
 | int n=>exact .int n
 | u8 x=>exact .u8 x
 | u16 x=>exact .u16 x
 | u32 x=>exact .u32 x
 | u64 x=>exact .u64 x
 | ik k n=>exact .ik k n
 | str s=>exact .str s
 | nils=>exact .nils
 | slN o z=>exact .slN o z
 | slE o z a=>exact .slE o z a
 | slI b off cs e fz cap z l hb hG hc hs hr ih=>exact .slI b off cs e fz cap z l hb hG hc hs hr
 | slO b cs e cap z l Fs hb hc hm hs ho hr ih=>exact .slO b cs e cap z l Fs hb hc hm hs ho hr
 | agg l cs Fs hs hr ih=>exact .agg l cs Fs hs (λk hk=>ih k hk hp)
 | arr n z l cs hl hs hr ih=>exact .arr n z l cs hl hs hr
 | ptr id off path hid=>cases hp
 | bs id z n cap hid hcap=>cases hp
 | nilp=>exact .nilp
 | adr b=>exact .adr b
 | rp d b off cs e fz hb hG hs hr ih=>exact .rp d b off cs e fz hb hG hs hr
 | map id hid=>cases hp
 | nilmap=>exact .nilmap
 | fn f caps vs hl ha hr ih=>exact .fn f caps vs hl ha (λk hk=>ih k hk hp)
 | nilf=>exact .nilf
 | yld l=>exact .yld l
 | ifc t d v ha hr ih=>exact .ifc t d v ha (ih hp)
 | nili=>exact .nili
 | dead v h=>exact .dead v h
theorem Rc.lt{w:World}{ρ:Nat->Nat}{G L:Nat->Prop}{p:Bool}{d:D}{cs:List Value}{F:List Nat}(h:Rc w ρ G L p d cs F):∀ b∈F,b<w.heap.size:=by
 induction h with
 | slO b cs e cap z l Fs hb hc hm hs ho hr ih=>
  intro b' hb'
  rcases w5.1 hb' with rfl|hm'
  ·exact(j6.1 hb).1
  ·obtain⟨i,hi,hx⟩:=w8.1 hm';exact ih i (j7.1 hi) b' hx
 | agg l cs Fs hs hr ih=>
  intro b' hb';obtain⟨i,hi,hx⟩:=w8.1 hb';exact ih i (j7.1 hi) b' hx
 | _=>intro b hb;simp at hb
def VR(w:World)(ρ:Nat->Nat)(G L:Nat->Prop)(d:D)(v:Value)(F:List Nat):Prop:=
 if d.isAgg then ∃ cs,v=.agg cs/\Rc w ρ G L true d cs.toList F else Rc w ρ G L true d [v] F
theorem VR.mono{w w':World}{ρ:Nat->Nat}{G L:Nat->Prop}{d:D}{v:Value}{F:List Nat}(h:VR w ρ G L d v F)
 (hh:∀ b,(G b∨b∈F)->b<w.heap.size->w'.heap[b]? = w.heap[b]?) (hg:∀ b,G b->b<w.heap.size->G' b) (hL:∀ id,L id->L' id/\ρ' id=ρ id):VR w' ρ' G' L' d v F:=by
 unfold VR at *
 cases hd:d.isAgg<;>simp only[hd,j9,q8,q7] at h ⊢
 ·exact h.mono hh hg hL
 ·obtain⟨cs,rfl,h⟩:=h;exact⟨cs,rfl,h.mono hh hg hL⟩
theorem VR.cells{w:World}{ρ:Nat->Nat}{G L:Nat->Prop}{d:D}{v:Value}{F:List Nat}(h:VR w ρ G L d v F)(hd:d≠.dead):Rc w ρ G L true d v.cells.toList F:=by
 unfold VR at h;split at h
 ·obtain⟨cs,rfl,h⟩:=h;exact h
 ·rename_i ha
  have:v.cells=#[v]:=by cases h<;>simp_all [Value.cells,D.isAgg]
  rw[this];exact h
theorem VR.lt{w:World}{ρ:Nat->Nat}{G L:Nat->Prop}{d:D}{v:Value}{F:List Nat}(h:VR w ρ G L d v F):∀ b∈F,b<w.heap.size:=by
 unfold VR at h;split at h
 ·obtain⟨cs,rfl,h⟩:=h;exact h.lt
 ·exact h.lt
section
def lk{α:Type}:List (Nat×α)->Nat->Option α
 | [],_=>none
 | (k,d)::r,t=>bif Nat.beq k t then some d else lk r t
def scrub(t:Nat)(d:D):D:=
 match d with
 | .al s=>bif Nat.beq s t then .dead else d
 | .vw s _ _ _=>bif Nat.beq s t then .dead else d
 | .ep s _ _ _ _=>bif Nat.beq s t then .dead else d
 | d=>d
def ZQ(id:Nat)(d:D):D:=
 match d with
 | .alb i _ _=>bif Nat.beq i id then .dead else d
 | d=>d
def scr(t k:Nat)(x:D):Nat×D:=
 match x with
 | .al s=>bif Nat.beq s t then(k,.dead) else(k,x)
 | .vw s _ _ _=>bif Nat.beq s t then(k,.dead) else(k,x)
 | .ep s _ _ _ _=>bif Nat.beq s t then(k,.dead) else(k,x)
 | _=>(k,x)
def w59(id k:Nat)(x:D):Nat×D:=
 match x with
 | .alb i _ _=>bif Nat.beq i id then(k,.dead) else(k,x)
 | _=>(k,x)
theorem w58(t k:Nat)(x:D):scr t k x=(k,scrub t x):=by
 cases x with
 | al s=>simp only[scr,scrub];cases Nat.beq s t<;>rfl
 | vw s _ _ _=>simp only[scr,scrub];cases Nat.beq s t<;>rfl
 | ep s _ _ _ _=>simp only[scr,scrub];cases Nat.beq s t<;>rfl
 | _=>rfl
theorem x28(t k:Nat)(x:D):w59 t k x=(k,ZQ t x):=by
 cases x with
 | alb i _ _=>simp only[w59,ZQ];cases Nat.beq i t<;>rfl
 | _=>rfl
def sets(t:Nat):List (Nat×D)->List (Nat×D)
 | []=>[]
 | (k,x)::r=>bif Nat.beq k t then sets t r else scr t k x::sets t r
def scrubs(id:Nat):List (Nat×D)->List (Nat×D)
 | []=>[]
 | (k,x)::r=>w59 id k x::scrubs id r
inductive Bx where
 | var (d:D)
 | mp (l:List (D×D))
 deriving Inhabited
structure Sg where
 n:Nat
 env:List (Nat×D)
 bx:List (Nat×Bx)
def Sg.get(σ:Sg)(t:Nat):Option D:=lk σ.env t
def Sg.box(σ:Sg)(id:Nat):Option Bx:=lk σ.bx id
def Sg.set(σ:Sg)(t:Nat)(d:D):Sg:={ σ with env:=(t,d)::sets t σ.env }
def setb(id:Nat)(b:Bx):List (Nat×Bx)->List (Nat×Bx)
 | []=>[]
 | (k,x)::r=>bif Nat.beq k id then(k,b)::r else(k,x)::setb id b r
def Sg.putB(σ:Sg)(id:Nat)(b:Bx):Sg:={ σ with env:=scrubs id σ.env,bx:=setb id b σ.bx }
def Sg.newB(σ:Sg)(id:Nat)(b:Bx):Sg:={ σ with bx:=(id,b)::σ.bx }
theorem nbeq{a b:Nat}(h:¬ a=b):Nat.beq a b=false:=by
 cases h':Nat.beq a b with
 | false=>rfl
 | true=>exact absurd (m8 h') h
theorem U2(k:Nat)(d:α)(r:List (Nat×α))(t:Nat):lk ((k,d)::r) t=if k=t then some d else lk r t:=by
 simp only[lk];by_cases h:k=t
 ·subst h;simp
 ·simp[h,nbeq h]
theorem q72(t:Nat)(l:List (Nat×D))(u:Nat):lk (sets t l) u=if u=t then none else(lk l u).map (scrub t):=by
 induction l with
 | nil=>simp[sets,lk]
 | cons x r ih=>
  obtain⟨k,d⟩:=x;simp only[sets,w58];by_cases hk:k=t
  ·subst hk;simp only[Z8,m9,ih,U2];by_cases hu:u=k
   ·simp[hu]
   ·simp[hu,show ¬ k=u from λe=>hu e.symm]
  ·simp only[nbeq hk,d7,U2,ih];by_cases hku:k=u
   ·subst hku;simp[hk]
   ·simp[hku]
theorem GO(id:Nat)(l:List (Nat×D))(u:Nat):lk (scrubs id l) u=(lk l u).map (ZQ id):=by
 induction l with
 | nil=>simp[scrubs,lk]
 | cons x r ih=>
  obtain⟨k,d⟩:=x;simp only[scrubs,x28,U2,ih]
  split<;>simp
theorem DN(id:Nat)(b:Bx)(l:List (Nat×Bx))(u:Nat):lk (setb id b l) u=if u=id then(lk l u).map (λ_=>b) else lk l u:=by
 induction l with
 | nil=>simp[setb,lk]
 | cons x r ih=>
  obtain⟨k,d⟩:=x;simp only[setb];by_cases hk:k=id
  ·subst hk;simp only[Z8,m9,U2];by_cases hu:k=u
   ·subst hu;simp
   ·simp[hu,show ¬ u=k from λe=>hu e.symm]
  ·simp only[nbeq hk,d7,U2,ih];by_cases hku:k=u
   ·subst hku;simp[hk]
   ·simp[hku]
theorem P8(σ:Sg)(t:Nat)(d:D)(u:Nat):(σ.set t d).get u=if u=t then some d else(σ.get u).map (scrub t):=by
 simp only[Sg.get,Sg.set,U2,q72];by_cases h:u=t
 ·simp[h]
 ·simp[h,show ¬ t=u from λe=>h e.symm]
@[simp] theorem x87 (σ:Sg) (t:Nat) (d:D) (id:Nat):(σ.set t d).box id=σ.box id:=rfl
@[simp] theorem v44 (σ:Sg) (t:Nat) (d:D):(σ.set t d).n=σ.n:=rfl
theorem e8(σ:Sg)(id:Nat)(b:Bx)(u:Nat):(σ.putB id b).get u=(σ.get u).map (ZQ id):=by
 simp[Sg.get,Sg.putB,GO]
theorem UK(σ:Sg)(id:Nat)(b:Bx)(u:Nat):(σ.putB id b).box u=if u=id then(σ.box u).map (λ_=>b) else σ.box u:=by
 simp[Sg.box,Sg.putB,DN]
@[simp] theorem v23 (σ:Sg) (id:Nat) (b:Bx):(σ.putB id b).n=σ.n:=rfl
@[simp] theorem u79 (σ:Sg) (id:Nat) (b:Bx) (u:Nat):(σ.newB id b).get u=σ.get u:=rfl
theorem JS(σ:Sg)(id:Nat)(b:Bx)(u:Nat):(σ.newB id b).box u=if id=u then some b else σ.box u:=by
 simp[Sg.box,Sg.newB,U2]
@[simp] theorem v24 (σ:Sg) (id:Nat) (b:Bx):(σ.newB id b).n=σ.n:=rfl
def v69(z lo n:Nat)(v0 v1:Value):Prop:=
 ∃ b0 len cap b1 cap',v0=.slice b0 len cap/\v1=.slice b1 n cap'/\n<=cap'/\lo+n<=len/\cap'<=cap /\
  ((∃ b o o',b0=some ⟨b,o,none⟩/\b1=some ⟨b,o',none⟩/\(o'=o+lo*z∨(o'=o/\n=0))/\cap'+lo=cap)∨(len=0/\cap'=0))
def SR(w:World)(ρ:Nat->Nat)(G L:Nat->Prop)(a:Act)(t:Nat)(d:D)(F:List Nat):Prop:=
 match d with
 | .al s=>F=[]/\∃ v,a.tmps[t]? = some v/\a.tmps[s]? = some v
 | .alb id off _=>F=[]/\L id/\∃ v,a.tmps[t]? = some v/\w.cell? ⟨ρ id,off,none⟩=some v
 | .vw s z lo n=>F=[]/\∃ v0 v1,a.tmps[s]? = some v0/\a.tmps[t]? = some v1/\v69 z lo n v0 v1
 | .va id off z n _ lo=>F=[]/\L id/\∃ cap o',n<=cap/\(o'=off+lo*z∨(o'=off/\n=0))/\a.tmps[t]? = some (.slice (some ⟨ρ id,o',none⟩) n cap)
 | .ep s z i off _=>F=[]/\∃ b o len cap,a.tmps[s]? = some (.slice (some ⟨b,o,none⟩) len cap)/\a.tmps[t]? = some (.pointer (some ⟨b,o+i*z+off,none⟩))/\i<len
 | .tup ds=>∃ (vs:List Value) (Fs:Nat->List Nat),a.tmps[t]? = some (.tuple vs.toArray)/\vs.length=ds.length/\F=(List.range ds.length).flatMap Fs /\
  ∀ k (h:k<ds.length),(ds[k]=.dead/\Fs k=[])∨(ds[k].isRef=false/\VR w ρ G L ds[k] (vs.getD k undef) (Fs k))
 | .dead=>F=[]/\∃ v,a.tmps[t]? = some v
 | d=>∃ v,a.tmps[t]? = some v/\VR w ρ G L d v F
theorem c5{w:World}{ρ:Nat->Nat}{G L:Nat->Prop}{a:Act}{t:Nat}{d:D}{F:List Nat}(hd:d.isRef=false) :
 SR w ρ G L a t d F↔∃ v,a.tmps[t]? = some v/\VR w ρ G L d v F:=by
 cases d<;>first|(exact Iff.rfl)|(simp[D.isRef] at hd)
def BR(w:World)(ρ:Nat->Nat)(G L:Nat->Prop)(b:Nat)(x:Bx)(F:List Nat):Prop:=
 match x with
 | .var d=>∃ cs e F',w.heap[b]? = some (.cells cs e (0,0))/\Rc w ρ G L true d cs.toList F'/\F=b::F'
 | .mp l=>F=[b]/\∃ (es:Array MapEntry) (clock:Nat),w.heap[b]? = some (.map es clock)/\es.size=l.length /\
  (∀ k (h:k<l.length),VR w ρ G L l[k].1 (es.getD k default).key []/\VR w ρ G L l[k].2 (es.getD k default).val [])
structure Ctx where
 w0:World
 keep:Nat->Prop
 ok:Nat->Prop
 gl:List (Nat×D)
 rd:Option Nat
 pin:Nat->Option Nat
 df:List Deferred
def Fx(C:Ctx):Fence:={ Fence.wide with round:=C.rd }
def own(Fe Fb:Nat->List Nat)(b:Nat):Prop:=(∃ t,b∈Fe t)∨∃ id,b∈Fb id
def gd(C:Ctx)(Fe Fb:Nat->List Nat)(b:Nat):Prop:=C.ok b/\¬ own Fe Fb b
structure TpR(w' w:World):Prop where
 tp:w'.tape=w.tape
 dr:w.drawn<=w'.drawn
theorem TpR.trans{a b c:World}(h:TpR a b)(k:TpR b c):TpR a c:=⟨h.tp.trans k.tp,u9 k.dr h.dr⟩
structure StW(C:Ctx)(σ:Sg)(a:Act)(w:World)(ρ:Nat->Nat)(Fe Fb:Nat->List Nat):Prop where
 size:a.tmps.size=σ.n
 defs:a.defers=C.df
 pin:∀ id b,C.pin id=some b->ρ id=b/\(σ.box id).isSome=true
 env:∀ t d,σ.get t=some d->SR w ρ (gd C Fe Fb) (λid=>(σ.box id).isSome) a t d (Fe t)
 envN:∀ t,σ.get t=none->Fe t=[]
 bx:∀ id d,σ.box id=some d->BR w ρ (gd C Fe Fb) (λid=>(σ.box id).isSome) (ρ id) d (Fb id)
 bxN:∀ id,σ.box id=none->Fb id=[]
 nodE:∀ t,(Fe t).Nodup
 nodB:∀ id,(Fb id).Nodup
 dEE:∀ t t',t≠t'->∀ b,b∈Fe t->b∉Fe t'
 dEB:∀ t id b,b∈Fe t->b∉Fb id
 dBB:∀ id id',id≠id'->∀ b,b∈Fb id->b∉Fb id'
 new:∀ b,own Fe Fb b->¬ C.keep b
 kept:∀ b,C.keep b->w.heap[b]? = C.w0.heap[b]?/\b<C.w0.heap.size
 os:w.os=C.w0.os
 tape:TpR w C.w0
 output:w.output=C.w0.output
 grown:C.w0.heap.size<=w.heap.size
 gl:∀ g d,(g,d)∈C.gl->C.keep g/\C.ok g/\∃ cs e fz,C.w0.heap[g]? = some (.cells cs e fz)/\Rc C.w0 (λx=>x) (λ_=>False) (λ_=>False) false d cs.toList []
 okN:∀ b,w.heap.size<=b->C.ok b
 okO:∀ b,own Fe Fb b->C.ok b
def St(C:Ctx)(σ:Sg)(a:Act)(w:World):Prop:=∃ ρ Fe Fb,StW C σ a w ρ Fe Fb
def W(P:Program)(C:Ctx)(c:Code)(Q:Exit->Sg->Prop)(σ:Sg):Prop:=
 ∀ a w,St C σ a w->c.wpIn (Fx C) 3 P (λe a' w'=>∃ σ',St C σ' a' w'/\Q e σ') a w
def WL(P:Program)(C:Ctx)(ops:Array Oper)(l:List Oper)(Q:Exit->Sg->Prop)(σ:Sg):Prop:=
 ∀ a w,St C σ a w->wpListIn (Fx C) 3 P ops (λe a' w'=>∃ σ',St C σ' a' w'/\Q e σ') l a w
def OpS(P:Program)(C:Ctx)(o:Oper)(σ σ':Sg):Prop:=
 ∀ a w,St C σ a w->∀ (K:Act->World->Prop) (Q:Exit->Act->World->Prop),(∀ a' w',St C σ' a' w'->K a' w')->o.wpIn (Fx C) 3 P a w K Q
variable{P:Program}{C:Ctx}{Q:Exit->Sg->Prop}{σ σ':Sg}{ops:Array Oper}
theorem WL.nil(h:Q .normal σ):WL P C ops [] Q σ:=λa w hs=>⟨σ,hs,h⟩
theorem WL.cons{o:Oper}{l:List Oper}(hg:o.guard=none)(h:OpS P C o σ σ')(k:WL P C ops l Q σ'):WL P C ops (o::l) Q σ:=
 λa w hs=>wpListIn_plain hg λK hK=>h a w hs K _ (λa' w' hs'=>hK a' w' (k a' w' hs'))
theorem W.region{id:Nat}{l:List Oper}(h:WL P C l.toArray l Q σ):W P C (.region id l.toArray false) Q σ:=
 λa w hs=>wpIn_region_lit (h a w hs)
theorem W.seq{x y:Code}(h:W P C x (λe s=>match e with | .normal=>W P C y Q s|e=>Q e s) σ):W P C (.seq x y) Q σ:=by
 intro a w hs;refine wpIn_seq ?_;refine J4 ?_ (h a w hs);intro e a' w' ⟨s,hs',hq⟩
 cases e<;>first|exact hq a' w' hs'|exact⟨s,hs',hq⟩
theorem W.skip(h:Q .normal σ):W P C .skip Q σ:=λa w hs=>wpIn_skip ⟨σ,hs,h⟩
theorem W.ret(h:Q .ret σ):W P C .ret Q σ:=λa w hs=>wpIn_ret ⟨σ,hs,h⟩
theorem W.exit{id:Nat}(h:Q (.exit id) σ):W P C (.exit id) Q σ:=λa w hs=>wpIn_exit ⟨σ,hs,h⟩
theorem W.mono{c:Code}{Q':Exit->Sg->Prop}(h:W P C c Q σ)(hq:∀ e s,Q e s->Q' e s):W P C c Q' σ:=
 λa w hs=>J4 (λ_ _ _ ⟨s,hs',h'⟩=>⟨s,hs',hq _ _ h'⟩) (h a w hs)
theorem W.block{id:Nat}{c:Code}(h:W P C c (λe s=>match e with | .exit i=>if i=id then Q .normal s else Q (.exit i) s|e=>Q e s) σ):W P C (.block id c) Q σ:=by
 intro a w hs;refine wpIn_block ?_;refine J4 ?_ (h a w hs);intro e a' w' ⟨s,hs',hq⟩
 cases e with
 | exit i=>
  simp only[Exit.inBlock];split
  ·rename_i hi;exact⟨s,hs',by simpa [hi] using hq⟩
  ·rename_i hi;exact⟨s,hs',by simpa [hi] using hq⟩
 | _=>exact⟨s,hs',hq⟩
theorem W.cond{x y:Code}{t:Nat}{b:Bool}(ht:σ.get t=some (.bool b))(h1:b=true->W P C x Q σ)(h2:b=false->W P C y Q σ):W P C (.cond (.tmp t) x y) Q σ:=by
 intro a w hs
 have hb:a.eval (.tmp t)=.bool b:=by
  obtain⟨ρ,Fe,Fb,s⟩:=hs;obtain⟨v,hv,hr⟩:=(c5 rfl).1 (s.env t _ ht)
  have:v=.bool b:=by
   simp only[VR,D.isAgg,q7,q8] at hr;generalize Fe t=F at hr;cases hr;rfl
  subst this;simp[Act.eval,hv]
 exact wpIn_cond_split hb (λe=>h1 e a w hs) (λe=>h2 e a w hs)
theorem W.loop{c:Code}(I:α->Sg)(μ:α->Nat)(x0:α)(h0:σ=I x0)
 (h:∀ x,W P C c (λe s=>match e with | .normal=>∃ y,s=I y/\μ y<μ x|e=>Q e s) (I x)):W P C (.loop c) Q σ:=by
 subst h0;intro a w hs;intro b k cs hro hbf hr
 have key:∀ n x a w,μ x=n->St C (I x) a w ->
  ∃ e a' w',(∃ s,St C s a' w'/\Q e s)/\ArrivesIn (Machine.fenced P (Fx C)) P (lone (b.atR a (.code c::.inLoop c::k)) cs w) b k cs e a' w':=by
  intro n
  induction n using Nat.strongRecOn with
  | _ n ih=>
   intro x a w hx hs;obtain⟨e,a₁,w₁,⟨s,hs1,hq⟩,harr⟩:=h x a w hs b (.inLoop c::k) cs hro hbf hr
   cases e with
   | normal=>
    obtain⟨y,rfl,hlt⟩:=hq;obtain⟨e₂,a₂,w₂,hq₂,harr₂⟩:=ih (μ y) (hx▸hlt) y a₁ w₁ rfl hs1;exact⟨e₂,a₂,w₂,hq₂,.of_steps (StepsIn.trans harr (.one (fenced_calm hbf hr rfl) stepR_inLoop)) harr₂⟩
   | exit id=>exact⟨_,a₁,w₁,⟨s,hs1,hq⟩,.pass (x:=.inLoop c) rfl (λ_ _=>.inl (by simp)) harr⟩
   | goto l=>exact⟨_,a₁,w₁,⟨s,hs1,hq⟩,.pass (x:=.inLoop c) rfl (λ_ _=>.inl (by simp)) harr⟩
   | ret=>exact⟨_,a₁,w₁,⟨s,hs1,hq⟩,.pass (x:=.inLoop c) rfl (λ_ _=>.inl (by simp)) harr⟩
   | panic ch=>exact⟨_,a₁,w₁,⟨s,hs1,hq⟩,.pass (x:=.inLoop c) rfl (λ_ _=>.inl (by simp)) harr⟩
   | outgrown=>exact⟨_,a₁,w₁,⟨s,hs1,hq⟩,.pass (x:=.inLoop c) rfl (λ_ _=>.inl (by simp)) harr⟩
 obtain⟨e,a',w',hq,harr⟩:=key _ x0 a w rfl hs;exact⟨e,a',w',hq,.of_steps (.one (fenced_calm hbf hr rfl) stepR_loop) harr⟩
theorem z30{o:Oper}{ρ:Operand->Value}{ro:Option Nat}{w w':World}{r:Next}(h:(execOp ρ o).run P w=.ok r w')(hd:∀ d,r≠.defer d):(o.semAt ro ρ).run P w=.ok r w':=by
 cases ro with
 | none=>exact h
 | some l=>
  by_cases hx:∃ c,o.op=.defer c
  ·exfalso;obtain⟨c,hc⟩:=hx;unfold execOp at h;simp only[hc,Sem.run_bind] at h
   cases hres:(resolve ρ c o.type).run P w with
   | ok d w1=>
    rw[hres] at h;simp only[Result.andThen_ok,Sem.run_pure] at h;cases h;exact hd _ rfl
   | halt x w1=>
    rw[hres] at h;simp[Result.andThen] at h
  ·rw[Oper.semAt_some l ρ o (λc hc=>hx ⟨c,hc⟩)];exact h
theorem O0{o:Oper}{a:Act}{w w':World}{r:Next}{K:Act->World->Prop}{Q:Exit->Act->World->Prop}(h:(execOp a.eval o).run P w=.ok r w')(hd:∀ d,r≠.defer d)(hu:o.uponIn (Fx C) 3 P a K Q (.ok r w')) :
 o.wpIn (Fx C) 3 P a w K Q:=by
 refine⟨λ_ _=>trivial, ?_⟩;show o.uponIn (Fx C) 3 P a K Q ((o.semAt C.rd a.eval).run P w);rw[z30 h hd];exact hu
end
section
structure Ext(w w':World):Prop where
 os:w'.os=w.os
 tape:TpR w' w
 output:w'.output=w.output
 size:w.heap.size<=w'.heap.size
 block:∀ b,b<w.heap.size->w'.heap[b]? = w.heap[b]?
theorem Ext.refl(w:World):Ext w w:=⟨rfl,⟨rfl,z7 _⟩,rfl,z7 _,λ_ _=>rfl⟩
theorem Ext.trans{a b c:World}(h:Ext a b)(k:Ext b c):Ext a c:=
 ⟨k.os.trans h.os,k.tape.trans h.tape,k.output.trans h.output,u9 h.size k.size,
  λx hx=>(k.block x (u0 hx h.size)).trans (h.block x hx)⟩
theorem Ext.drew(w:World):Ext w w.drew:=⟨rfl,⟨rfl,Nat.le_succ _⟩,rfl,z7 _,λ_ _=>rfl⟩
theorem Ext.alloc(w:World)(o:Obj):Ext w (w.alloc o):=⟨rfl,⟨rfl,z7 _⟩,rfl,by simp,λb hb=>heap_alloc_old w o hb⟩
theorem Ext.cell{w w':World}(h:Ext w w'){a:Addr}{v:Value}(hv:w.cell? a=some v):w'.cell? a=some v:=by
 have hlt:=block_lt_of_cell hv;rw[<- hv];exact World.cell?_of_block (h.block _ hlt)
def upd(F:Nat->List Nat)(t:Nat)(x:List Nat):Nat->List Nat:=λu=>if u=t then x else F u
@[simp] theorem c7 (F:Nat->List Nat) (t:Nat) (x:List Nat):upd F t x t=x:=by simp[upd]
theorem j2{F:Nat->List Nat}{t u:Nat}{x:List Nat}(h:u≠t):upd F t x u=F u:=by simp[upd,h]
theorem Y0(a:Act)(t:Nat)(v:Value)(u:Nat)(ht:t<a.tmps.size):(a.put (some t) v).tmps[u]? = if u=t then some v else a.tmps[u]?:=by
 simp only[Act.put,M5];by_cases h:t=u
 ·subst h;simp[ht]
 ·simp[h,show ¬ u=t from λe=>h e.symm]
variable{P:Program}{C:Ctx}{σ σ':Sg}{a:Act}{w w':World}{ρ:Nat->Nat}{Fe Fb:Nat->List Nat}
theorem XQ{G L:Nat->Prop}{t u:Nat}{d:D}{v:Value}{F:List Nat}(hu:u≠t)(ht:t<a.tmps.size)(h:SR w ρ G L a u d F)
 (hh:∀ b,(G b∨b∈F)->b<w.heap.size->w'.heap[b]? = w.heap[b]?) (hg:∀ b,G b->b<w.heap.size->G' b) (hL:∀ id,L id->L' id/\ρ' id=ρ id)
 (hc:∀ id off v,L id->w.cell? ⟨ρ id,off,none⟩=some v->w'.cell? ⟨ρ id,off,none⟩=some v) :
 SR w' ρ' G' L' (a.put (some t) v) u (scrub t d) F:=by
 have dead:∀ x,a.tmps[u]? = some x->F=[]->SR w' ρ' G' L' (a.put (some t) v) u .dead F:=by
  intro x hx hF;exact⟨hF,x,by rw[Y0 a t v u ht];simp[hu,hx]⟩
 have same:(a.put (some t) v).tmps[u]? = a.tmps[u]?:=by rw[Y0 a t v u ht];simp[hu]
 have sames:∀ s,s≠t->(a.put (some t) v).tmps[s]? = a.tmps[s]?:=λs hs=>by rw[Y0 a t v s ht];simp[hs]
 cases d with
 | al s=>
  obtain⟨hF,x,hx,hs⟩:=h;simp only[scrub];by_cases hst:s=t
  ·subst hst;simp only[Z8,m9];exact dead x hx hF
  ·simp only[nbeq hst,d7];exact⟨hF,x,by rw[same];exact hx,by rw[sames s hst];exact hs⟩
 | alb id off path=>
  obtain⟨hF,hid,x,hx,hs⟩:=h;simp only[scrub];refine⟨hF,(hL id hid).1,x,by rw[same];exact hx, ?_⟩;rw[(hL id hid).2];exact hc id off x hid hs
 | vw s z lo n=>
  obtain⟨hF,v0,v1,h1,h2,h3⟩:=h;simp only[scrub];by_cases hst:s=t
  ·subst hst;simp only[Z8,m9];exact dead _ h2 hF
  ·simp only[nbeq hst,d7];exact⟨hF,v0,v1,by rw[sames s hst];exact h1,by rw[same];exact h2,h3⟩
 | va id off z n path lo=>
  obtain⟨hF,hid,cap,o',h1,h0,h2⟩:=h;simp only[scrub];refine⟨hF,(hL id hid).1,cap,o',h1,h0,by rw[same,(hL id hid).2];exact h2⟩
 | ep s z i off path=>
  obtain⟨hF,b,o,len,cap,h1,h2,h3⟩:=h;simp only[scrub];by_cases hst:s=t
  ·subst hst;simp only[Z8,m9];exact dead _ h2 hF
  ·simp only[nbeq hst,d7];exact⟨hF,b,o,len,cap,by rw[sames s hst];exact h1,by rw[same];exact h2,h3⟩
 | tup ds=>
  obtain⟨vs,Fs,h1,h2,h3,h4⟩:=h;simp only[scrub];refine⟨vs,Fs,by rw[same];exact h1,h2,h3,λk hk=>(h4 k hk).imp id λhx=>⟨hx.1,hx.2.mono (λb hb=>hh b (hb.imp id λhm=>?_)) hg hL⟩⟩;rw[h3];exact w8.2 ⟨k,j7.2 hk,hm⟩
 | dead=>obtain⟨hF,x,hx⟩:=h;exact dead x hx hF
 | _=>
  obtain⟨x,hx,hr⟩:=h;exact⟨x,by rw[same];exact hx,hr.mono hh hg hL⟩
theorem BR.mono{G L:Nat->Prop}{b:Nat}{x:Bx}{F:List Nat}(h:BR w ρ G L b x F)
 (hh:∀ b,(G b∨b∈F)->b<w.heap.size->w'.heap[b]? = w.heap[b]?) (hg:∀ b,G b->b<w.heap.size->G' b) (hL:∀ id,L id->L' id/\ρ' id=ρ id):BR w' ρ' G' L' b x F:=by
 cases x with
 | var d=>
  obtain⟨cs,e,F',hb,hr,rfl⟩:=h;have hlt:b<w.heap.size:=(j6.1 hb).1;exact⟨cs,e,F',(hh b (.inr (by simp)) hlt).trans hb,hr.mono (λb' hb'=>hh b' (hb'.imp id λhm=>j1 _ hm)) hg hL,rfl⟩
 | mp l=>
  obtain⟨rfl,es,clock,hb,hs,hk⟩:=h;have hlt:b<w.heap.size:=(j6.1 hb).1;refine⟨rfl,es,clock,(hh b (.inr (by simp)) hlt).trans hb,hs,λk hlt=>⟨?_, ?_⟩⟩
  ·exact(hk k hlt).1.mono (λb hb=>hh b (.inl (hb.resolve_right (by simp)))) hg hL
  ·exact(hk k hlt).2.mono (λb hb=>hh b (.inl (hb.resolve_right (by simp)))) hg hL
theorem BR.lt{G L:Nat->Prop}{b:Nat}{x:Bx}{F:List Nat}(h:BR w ρ G L b x F):∀ y∈F,y<w.heap.size:=by
 cases x with
 | var d=>
  obtain⟨cs,e,F',hb,hr,rfl⟩:=h;intro y hy
  rcases w5.1 hy with rfl|hm
  ·exact(j6.1 hb).1
  ·exact hr.lt y hm
 | mp l=>
  obtain⟨rfl,es,clock,hb,hs,hk⟩:=h;intro y hy;simp at hy;subst hy;exact(j6.1 hb).1
theorem BR.mem{G L:Nat->Prop}{b:Nat}{x:Bx}{F:List Nat}(h:BR w ρ G L b x F):b∈F:=by
 cases x with
 | var d=>obtain⟨cs,e,F',hb,hr,rfl⟩:=h;simp
 | mp l=>obtain⟨rfl,_⟩:=h;simp
theorem SR.lt{G L:Nat->Prop}{t:Nat}{d:D}{F:List Nat}(h:SR w ρ G L a t d F):∀ y∈F,y<w.heap.size:=by
 cases d with
 | al s=>obtain⟨rfl,_⟩:=h;simp
 | alb id off path=>obtain⟨rfl,_⟩:=h;simp
 | vw s z lo n=>obtain⟨rfl,_⟩:=h;simp
 | va id off z n path lo=>obtain⟨rfl,_⟩:=h;simp
 | ep s z i off path=>obtain⟨rfl,_⟩:=h;simp
 | tup ds=>
  obtain⟨vs,Fs,h1,h2,rfl,h4⟩:=h;intro y hy;obtain⟨k,hk,hm⟩:=w8.1 hy
  rcases h4 k (j7.1 hk) with ⟨_,h5⟩|h5
  ·rw[h5] at hm;cases hm
  ·exact h5.2.lt y hm
 | dead=>obtain⟨rfl,_⟩:=h;simp
 | _=>obtain⟨x,hx,hr⟩:=h;exact hr.lt
theorem StW.lt(h:StW C σ a w ρ Fe Fb):∀ b,own Fe Fb b->b<w.heap.size:=by
 rintro b (⟨t,ht⟩|⟨id,hid⟩)
 ·cases hg:σ.get t with
  | none=>rw[h.envN t hg] at ht;cases ht
  | some d=>exact(h.env t d hg).lt b ht
 ·cases hg:σ.box id with
  | none=>rw[h.bxN id hg] at hid;cases hid
  | some d=>exact(h.bx id d hg).lt b hid
theorem StW.ext{t:Nat}{d:D}{v:Value}{F:List Nat}(h:StW C σ a w ρ Fe Fb)(ht:t<σ.n)(hw:Ext w w')(hF:F.Nodup)(hnew:∀ b∈F,w.heap.size<=b)
 (hv:SR w' ρ (gd C (upd Fe t F) Fb) (λid=>(σ.box id).isSome) (a.put (some t) v) t d F) :
 StW C (σ.set t d) (a.put (some t) v) w' ρ (upd Fe t F) Fb:=by
 have hsz:t<a.tmps.size:=by rw[h.size];exact ht
 have hlt:=h.lt
 have hg:∀ b,gd C Fe Fb b->b<w.heap.size->gd C (upd Fe t F) Fb b:=by
  rintro b ⟨hok,hb⟩ hlt';refine⟨hok, ?_⟩;rintro (⟨u,hu⟩|⟨id,hid⟩)
  ·by_cases hut:u=t
   ·subst hut;simp at hu;have:=hnew b hu;omega
   ·rw[j2 hut] at hu;exact hb (.inl ⟨u,hu⟩)
  ·exact hb (.inr ⟨id,hid⟩)
 have hh:∀ b,b<w.heap.size->w'.heap[b]? = w.heap[b]?:=hw.block
 have hL:∀ id,(λid=>(σ.box id).isSome=true) id->(λid=>((σ.set t d).box id).isSome=true) id/\ρ id=ρ id:=λid hid=>⟨hid,rfl⟩
 refine⟨?_,h.defs,h.pin, ?_, ?_, ?_,h.bxN, ?_,h.nodB, ?_, ?_,h.dBB, ?_, ?_,hw.os.trans h.os,hw.tape.trans h.tape,hw.output.trans h.output,u9 h.grown hw.size,h.gl,λb hb=>h.okN b (u9 hw.size hb), ?_⟩
 ·simp[Act.put,h.size]
 ·intro u x hx;rw[P8] at hx;by_cases hut:u=t
  ·subst hut;simp at hx;subst hx;simp only[c7];exact hv
  ·simp only[hut,q8] at hx;obtain⟨d0,hd0,rfl⟩:=p9.1 hx;rw[j2 hut];exact XQ hut hsz (h.env u d0 hd0) (λb _ hb=>hh b hb) hg hL (λid off v _ hc=>hw.cell hc)
 ·intro u hu;rw[P8] at hu;by_cases hut:u=t
  ·simp[hut] at hu
  ·simp only[hut,q8,n3] at hu;rw[j2 hut];exact h.envN u hu
 ·intro id x hx;exact(h.bx id x hx).mono (λb _ hb=>hh b hb) hg hL
 ·intro u;by_cases hut:u=t
  ·subst hut;simpa using hF
  ·rw[j2 hut];exact h.nodE u
 ·intro u u' huu b hb hb';by_cases hut:u=t
  ·subst hut;rw[j2 (λe=>huu e.symm)] at hb';simp at hb;have:=hnew b hb;have:=hlt b (.inl ⟨u',hb'⟩);omega
  ·rw[j2 hut] at hb;by_cases hut':u'=t
   ·subst hut';simp at hb';have:=hnew b hb';have:=hlt b (.inl ⟨u,hb⟩);omega
   ·rw[j2 hut'] at hb';exact h.dEE u u' huu b hb hb'
 ·intro u id b hb hb';by_cases hut:u=t
  ·subst hut;simp at hb;have:=hnew b hb;have:=hlt b (.inr ⟨id,hb'⟩);omega
  ·rw[j2 hut] at hb;exact h.dEB u id b hb hb'
 ·rintro b (⟨u,hu⟩|⟨id,hid⟩) hk
  ·by_cases hut:u=t
   ·subst hut;simp at hu;have:=hnew b hu;have:=(h.kept b hk).2;have:=h.grown;omega
   ·rw[j2 hut] at hu;exact h.new b (.inl ⟨u,hu⟩) hk
  ·exact h.new b (.inr ⟨id,hid⟩) hk
 ·intro b hk;have:=h.kept b hk;exact⟨(hh b (u0 this.2 h.grown)).trans this.1,this.2⟩
 ·rintro b (⟨u,hu⟩|⟨id,hid⟩)
  ·by_cases hut:u=t
   ·subst hut;simp at hu;exact h.okN b (hnew b hu)
   ·rw[j2 hut] at hu;exact h.okO b (.inl ⟨u,hu⟩)
  ·exact h.okO b (.inr ⟨id,hid⟩)
theorem StW.setV{t:Nat}{d:D}{v:Value}(h:StW C σ a w ρ Fe Fb)(ht:t<σ.n)(hw:Ext w w')(hd:d.isRef=false)
 (hv:VR w' ρ (gd C (upd Fe t []) Fb) (λid=>(σ.box id).isSome) d v []):St C (σ.set t d) (a.put (some t) v) w':=
 ⟨ρ,upd Fe t [],Fb,h.ext ht hw w9 (by simp) ((c5 hd).2 ⟨v,by rw[Y0 a t v t (by rw[h.size];exact ht)];simp,hv⟩)⟩
theorem St.weaken(h:St C σ a w)(hn:σ'.n=σ.n)(hb:σ'.bx=σ.bx)(he:∀ t d,σ'.get t=some d->σ.get t=some d):St C σ' a w:=by
 obtain⟨ρ,Fe,Fb,h⟩:=h
 have hbox:∀ id,σ'.box id=σ.box id:=λid=>by simp[Sg.box,hb]
 refine⟨ρ,λt=>if(σ'.get t).isSome then Fe t else[],Fb, ?_⟩
 have hsub:∀ t b,b∈(if(σ'.get t).isSome then Fe t else[])->b∈Fe t:=by
  intro t b hb';split at hb'
  ·exact hb'
  ·cases hb'
 have hown:∀ b,own (λt=>if(σ'.get t).isSome then Fe t else[]) Fb b->own Fe Fb b:=by
  rintro b (⟨t,ht⟩|hid)
  ·exact .inl ⟨t,hsub t b ht⟩
  ·exact .inr hid
 have hL:∀ id,(λid=>(σ.box id).isSome=true) id->(λid=>(σ'.box id).isSome=true) id/\ρ id=ρ id:=λid hid=>⟨by simpa [hbox] using hid,rfl⟩
 have hg:∀ b,gd C Fe Fb b->b<w.heap.size->gd C (λt=>if(σ'.get t).isSome then Fe t else[]) Fb b:=λb hb' _=>⟨hb'.1,λho=>hb'.2 (hown b ho)⟩
 refine⟨h.size.trans hn.symm,h.defs,λid b hp=>⟨(h.pin id b hp).1,by rw[hbox];exact(h.pin id b hp).2⟩, ?_, ?_, ?_, ?_, ?_,h.nodB, ?_, ?_,h.dBB, ?_,h.kept,h.os,⟨h.tape.tp,h.tape.dr⟩,h.output,h.grown,h.gl,h.okN,λb hb=>h.okO b (hown b hb)⟩
 ·intro t d hd;have:=h.env t d (he t d hd);simp only[hd,Option.isSome_some,j9]
  cases d with
  | al s=>exact this
  | alb id off path=>exact⟨this.1,(hL id this.2.1).1,this.2.2⟩
  | vw s z lo n=>exact this
  | va id off z n path lo=>exact⟨this.1,(hL id this.2.1).1,this.2.2⟩
  | ep s z i off path=>exact this
  | tup ds=>
   obtain⟨vs,Fs,h1,h2,h3,h4⟩:=this;exact⟨vs,Fs,h1,h2,h3,λk hk=>(h4 k hk).imp id λhx=>⟨hx.1,hx.2.mono (λ_ _ _=>rfl) hg hL⟩⟩
  | dead=>exact this
  | _=>obtain⟨x,hx,hr⟩:=this;exact⟨x,hx,hr.mono (λ_ _ _=>rfl) hg hL⟩
 ·intro t ht;simp[ht]
 ·intro id x hx;exact(h.bx id x (by rw[<- hbox];exact hx)).mono (λ_ _ _=>rfl) hg hL
 ·intro id hid;exact h.bxN id (by rw[<- hbox];exact hid)
 ·intro t;show(if(σ'.get t).isSome then Fe t else[]).Nodup;split
  ·exact h.nodE t
  ·exact w9
 ·intro t t' htt b hb1 hb2;exact h.dEE t t' htt b (hsub t b hb1) (hsub t' b hb2)
 ·intro t id b hb1 hb2;exact h.dEB t id b (hsub t b hb1) hb2
 ·intro b hb';exact h.new b (hown b hb')
end
def II(x:UInt8)(n:Nat):UInt8:=if n<8 then x<<<UInt8.ofNat n else 0
def YO(x:UInt8)(n:Nat):UInt8:=if n<8 then x>>>UInt8.ofNat n else 0
theorem UB(z:Int):IntKind.u8.wrap z=z%256:=by simp[IntKind.wrap,IntKind.bits,IntKind.signed]
theorem PP(x:UInt8):BitVec.ofInt 8 (x.toNat:Int)=x.toBitVec:=by
 apply N9;have:=x.toNat_lt;simp only[I3,UInt8.toNat_toBitVec];omega
theorem RJ(b:BitVec 8):((b.toNat:Int)%256)=((UInt8.ofBitVec b).toNat:Int):=by
 have:=b.isLt;have e:(UInt8.ofBitVec b).toNat=b.toNat:=rfl;rw[e];omega
theorem IF(x:UInt8)(n:Nat):(II x n).toNat=x.toNat*2^(min n 8)%256:=by
 unfold II;split
 ·rename_i h;rw[UInt8.toNat_shiftLeft,B6,Q6 (show n<2^8 by omega),Q6 h,R9,n6 (by omega)]
 ·rename_i h;rw[D8 (by omega)];have:(0:UInt8).toNat=0:=rfl;rw[this];exact(S0 _ _).symm
theorem IE(x:UInt8)(n:Nat):(YO x n).toNat=x.toNat/2^(min n 8):=by
 unfold YO;split
 ·rename_i h;rw[UInt8.toNat_shiftRight,B6,Q6 (show n<2^8 by omega),Q6 h,D6,n6 (by omega)]
 ·rename_i h;rw[D8 (by omega)];have:=x.toNat_lt;have e:(0:UInt8).toNat=0:=rfl;rw[e];exact(M1 (by omega)).symm
def GY(op:BinOp)(a b:UInt8):Option (Prop×D):=
 match op with
 | .add=>some (True,.u8 (a+b))
 | .sub=>some (True,.u8 (a-b))
 | .mul=>some (True,.u8 (a*b))
 | .quo=>some (b≠0,.u8 (a/b))
 | .rem=>some (b≠0,.u8 (a%b))
 | .and=>some (True,.u8 (a&&&b))
 | .or=>some (True,.u8 (a|||b))
 | .xor=>some (True,.u8 (a^^^b))
 | .andNot=>some (True,.u8 (a &&& ~~~b))
 | .eql=>some (True,.bool (a==b))
 | .neq=>some (True,.bool (a != b))
 | .lss=>some (True,.bool (decide (a<b)))
 | .leq=>some (True,.bool (decide (a<=b)))
 | .gtr=>some (True,.bool (decide (b<a)))
 | .geq=>some (True,.bool (decide (b<=a)))
 | _=>none
def WP(op:BinOp)(a b:UInt8):Value:=
 match op with
 | .add=>.int .u8 (a+b).toNat
 | .sub=>.int .u8 (a-b).toNat
 | .mul=>.int .u8 (a*b).toNat
 | .quo=>.int .u8 (a/b).toNat
 | .rem=>.int .u8 (a%b).toNat
 | .and=>.int .u8 (a&&&b).toNat
 | .or=>.int .u8 (a|||b).toNat
 | .xor=>.int .u8 (a^^^b).toNat
 | .andNot=>.int .u8 (a &&& ~~~b).toNat
 | .eql=>.bool (a==b)
 | .neq=>.bool (a != b)
 | .lss=>.bool (decide (a<b))
 | .leq=>.bool (decide (a<=b))
 | .gtr=>.bool (decide (b<a))
 | .geq=>.bool (decide (b<=a))
 | _=>undef
theorem q35(a b:UInt8):((a.toNat:Int)==(b.toNat:Int))=(a==b):=by
 rw[J1];simp only[p7,V0];exact UInt8.toNat_inj
theorem w26(a b:UInt8):decide ((a.toNat:Int)<(b.toNat:Int))=decide (a<b):=by
 rw[H3,UInt8.lt_iff_toNat_lt];omega
theorem w30(a b:UInt8):decide ((a.toNat:Int)<=(b.toNat:Int))=decide (a<=b):=by
 rw[H3,UInt8.le_iff_toNat_le];omega
theorem w22(b:UInt8)(h:b≠0):(b.toNat:Int)≠0:=by
 intro e;apply h;apply UInt8.toNat_inj.1;have:(0:UInt8).toNat=0:=rfl;rw[this];omega
theorem k24(P:Program)(w:World)(op:BinOp)(ty:TypeId)(a b:UInt8){s:Prop}{d:D}(h:GY op a b=some (s,d))(hs:s) :
 (binOp op ty (.int .u8 a.toNat) (.int .u8 b.toNat)).run P w=.ok (WP op a b) w:=by
 have ha:=a.toNat_lt;have hb:=b.toNat_lt
 cases op<;>simp only[GY,z6,b8,reduceCtorEq] at h<;>obtain⟨rfl,rfl⟩:=h <;>
  simp only[binOp,ne_eq,C8,q8,Op.intArith,Op.intDiv,Op.intBits,Op.intCmp,WP,Sem.run_pure,UB,IntKind.bits]
 ·exact g8 (λz=>Result.ok (Value.int .u8 z) w) (by rw[UInt8.toNat_add];omega)
 ·exact g8 (λz=>Result.ok (Value.int .u8 z) w) (by rw[UInt8.toNat_sub];omega)
 ·exact g8 (λz=>Result.ok (Value.int .u8 z) w) (by rw[UInt8.toNat_mul];rfl)
 ·rw[w3 (w22 b hs)]
  exact g8 (λz=>Result.ok (Value.int .u8 z) w) (by
   rw[UInt8.toNat_div,B5 (Y4 _)];have:a.toNat/b.toNat<=a.toNat:=F9 _ _;have e:((a.toNat:Int)/(b.toNat:Int))=((a.toNat/b.toNat:Nat):Int):=rfl;rw[e];generalize a.toNat/b.toNat=q at this ⊢
   omega)
 ·rw[w3 (w22 b hs)];congr 2
 ·rw[PP,PP,RJ];rfl
 ·rw[PP,PP,RJ];rfl
 ·rw[PP,PP,RJ];rfl
 ·rw[PP,PP,RJ];rfl
 ·rw[q35]
 ·congr 2
  have:=q35 a b;simp only[bne,this]
 ·congr 2;exact w26 a b
 ·congr 2;exact w30 a b
 ·congr 2;exact w26 b a
 ·congr 2;exact w30 b a
theorem q01(P:Program)(w:World)(ty:TypeId)(a:UInt8)(k:IntKind)(n:Int)(hn:0<=n) :
 (binOp .shl ty (.int .u8 a.toNat) (.int k n)).run P w=.ok (.int .u8 (II a n.toNat).toNat) w:=by
 simp only[binOp,Op.shift,w3 (show ¬ n<0 by omega),Sem.run_pure,UB,IntKind.bits,IF]
 congr 2
theorem q00(P:Program)(w:World)(ty:TypeId)(a:UInt8)(k:IntKind)(n:Int)(hn:0<=n) :
 (binOp .shr ty (.int .u8 a.toNat) (.int k n)).run P w=.ok (.int .u8 (YO a n.toNat).toNat) w:=by
 simp only[binOp,Op.shift,w3 (show ¬ n<0 by omega),Sem.run_pure,IntKind.bits,IE]
 congr 2
 have:(a.toNat:Int).fdiv (2^min n.toNat 8)=(a.toNat:Int)/(2^min n.toNat 8):=D0 _ (by exact_mod_cast g9 _);rw[this];rfl
def MZ(x:UInt16)(n:Nat):UInt16:=if n<16 then x<<<UInt16.ofNat n else 0
def MQ(x:UInt16)(n:Nat):UInt16:=if n<16 then x>>>UInt16.ofNat n else 0
theorem YH(z:Int):IntKind.u16.wrap z=z%65536:=by simp[IntKind.wrap,IntKind.bits,IntKind.signed]
theorem GJ(x:UInt16):BitVec.ofInt 16 (x.toNat:Int)=x.toBitVec:=by
 apply N9;have:=x.toNat_lt;simp only[I3,UInt16.toNat_toBitVec];omega
theorem MA(b:BitVec 16):((b.toNat:Int)%65536)=((UInt16.ofBitVec b).toNat:Int):=by
 have:=b.isLt;have e:(UInt16.ofBitVec b).toNat=b.toNat:=rfl;rw[e];omega
theorem AS(x:UInt16)(n:Nat):(MZ x n).toNat=x.toNat*2^(min n 16)%65536:=by
 unfold MZ;split
 ·rename_i h;rw[UInt16.toNat_shiftLeft,T7,Q6 (show n<2^16 by omega),Q6 h,R9,n6 (by omega)]
 ·rename_i h;rw[D8 (by omega)];have:(0:UInt16).toNat=0:=rfl;rw[this];exact(S0 _ _).symm
theorem AI(x:UInt16)(n:Nat):(MQ x n).toNat=x.toNat/2^(min n 16):=by
 unfold MQ;split
 ·rename_i h;rw[UInt16.toNat_shiftRight,T7,Q6 (show n<2^16 by omega),Q6 h,D6,n6 (by omega)]
 ·rename_i h;rw[D8 (by omega)];have:=x.toNat_lt;have e:(0:UInt16).toNat=0:=rfl;rw[e];exact(M1 (by omega)).symm
def UU(op:BinOp)(a b:UInt16):Option (Prop×D):=
 match op with
 | .add=>some (True,.u16 (a+b))
 | .sub=>some (True,.u16 (a-b))
 | .mul=>some (True,.u16 (a*b))
 | .quo=>some (b≠0,.u16 (a/b))
 | .rem=>some (b≠0,.u16 (a%b))
 | .and=>some (True,.u16 (a&&&b))
 | .or=>some (True,.u16 (a|||b))
 | .xor=>some (True,.u16 (a^^^b))
 | .andNot=>some (True,.u16 (a &&& ~~~b))
 | .eql=>some (True,.bool (a==b))
 | .neq=>some (True,.bool (a != b))
 | .lss=>some (True,.bool (decide (a<b)))
 | .leq=>some (True,.bool (decide (a<=b)))
 | .gtr=>some (True,.bool (decide (b<a)))
 | .geq=>some (True,.bool (decide (b<=a)))
 | _=>none
def IC(op:BinOp)(a b:UInt16):Value:=
 match op with
 | .add=>.int .u16 (a+b).toNat
 | .sub=>.int .u16 (a-b).toNat
 | .mul=>.int .u16 (a*b).toNat
 | .quo=>.int .u16 (a/b).toNat
 | .rem=>.int .u16 (a%b).toNat
 | .and=>.int .u16 (a&&&b).toNat
 | .or=>.int .u16 (a|||b).toNat
 | .xor=>.int .u16 (a^^^b).toNat
 | .andNot=>.int .u16 (a &&& ~~~b).toNat
 | .eql=>.bool (a==b)
 | .neq=>.bool (a != b)
 | .lss=>.bool (decide (a<b))
 | .leq=>.bool (decide (a<=b))
 | .gtr=>.bool (decide (b<a))
 | .geq=>.bool (decide (b<=a))
 | _=>undef
theorem z03(a b:UInt16):((a.toNat:Int)==(b.toNat:Int))=(a==b):=by
 rw[J1];simp only[p7,V0];exact UInt16.toNat_inj
theorem k86(a b:UInt16):decide ((a.toNat:Int)<(b.toNat:Int))=decide (a<b):=by
 rw[H3,UInt16.lt_iff_toNat_lt];omega
theorem k90(a b:UInt16):decide ((a.toNat:Int)<=(b.toNat:Int))=decide (a<=b):=by
 rw[H3,UInt16.le_iff_toNat_le];omega
theorem k68(b:UInt16)(h:b≠0):(b.toNat:Int)≠0:=by
 intro e;apply h;apply UInt16.toNat_inj.1;have:(0:UInt16).toNat=0:=rfl;rw[this];omega
theorem q57(P:Program)(w:World)(op:BinOp)(ty:TypeId)(a b:UInt16){s:Prop}{d:D}(h:UU op a b=some (s,d))(hs:s) :
 (binOp op ty (.int .u16 a.toNat) (.int .u16 b.toNat)).run P w=.ok (IC op a b) w:=by
 have ha:=a.toNat_lt;have hb:=b.toNat_lt
 cases op<;>simp only[UU,z6,b8,reduceCtorEq] at h<;>obtain⟨rfl,rfl⟩:=h <;>
  simp only[binOp,ne_eq,C8,q8,Op.intArith,Op.intDiv,Op.intBits,Op.intCmp,IC,Sem.run_pure,YH,IntKind.bits]
 ·exact g8 (λz=>Result.ok (Value.int .u16 z) w) (by rw[UInt16.toNat_add];omega)
 ·exact g8 (λz=>Result.ok (Value.int .u16 z) w) (by rw[UInt16.toNat_sub];omega)
 ·exact g8 (λz=>Result.ok (Value.int .u16 z) w) (by rw[UInt16.toNat_mul];rfl)
 ·rw[w3 (k68 b hs)]
  exact g8 (λz=>Result.ok (Value.int .u16 z) w) (by
   rw[UInt16.toNat_div,B5 (Y4 _)];have:a.toNat/b.toNat<=a.toNat:=F9 _ _;have e:((a.toNat:Int)/(b.toNat:Int))=((a.toNat/b.toNat:Nat):Int):=rfl;rw[e];generalize a.toNat/b.toNat=q at this ⊢
   omega)
 ·rw[w3 (k68 b hs)];congr 2
 ·rw[GJ,GJ,MA];rfl
 ·rw[GJ,GJ,MA];rfl
 ·rw[GJ,GJ,MA];rfl
 ·rw[GJ,GJ,MA];rfl
 ·rw[z03]
 ·congr 2
  have:=z03 a b;simp only[bne,this]
 ·congr 2;exact k86 a b
 ·congr 2;exact k90 a b
 ·congr 2;exact k86 b a
 ·congr 2;exact k90 b a
theorem SA(P:Program)(w:World)(ty:TypeId)(a:UInt16)(k:IntKind)(n:Int)(hn:0<=n) :
 (binOp .shl ty (.int .u16 a.toNat) (.int k n)).run P w=.ok (.int .u16 (MZ a n.toNat).toNat) w:=by
 simp only[binOp,Op.shift,w3 (show ¬ n<0 by omega),Sem.run_pure,YH,IntKind.bits,AS]
 congr 2
theorem SM(P:Program)(w:World)(ty:TypeId)(a:UInt16)(k:IntKind)(n:Int)(hn:0<=n) :
 (binOp .shr ty (.int .u16 a.toNat) (.int k n)).run P w=.ok (.int .u16 (MQ a n.toNat).toNat) w:=by
 simp only[binOp,Op.shift,w3 (show ¬ n<0 by omega),Sem.run_pure,IntKind.bits,AI]
 congr 2
 have:(a.toNat:Int).fdiv (2^min n.toNat 16)=(a.toNat:Int)/(2^min n.toNat 16):=D0 _ (by exact_mod_cast g9 _);rw[this];rfl
def s5(x:UInt32)(n:Nat):UInt32:=if n<32 then x<<<UInt32.ofNat n else 0
def K6(x:UInt32)(n:Nat):UInt32:=if n<32 then x>>>UInt32.ofNat n else 0
theorem JB(z:Int):IntKind.u32.wrap z=z%4294967296:=by simp[IntKind.wrap,IntKind.bits,IntKind.signed]
theorem GK(x:UInt32):BitVec.ofInt 32 (x.toNat:Int)=x.toBitVec:=by
 apply N9;have:=x.toNat_lt;simp only[I3,UInt32.toNat_toBitVec];omega
theorem MO(b:BitVec 32):((b.toNat:Int)%4294967296)=((UInt32.ofBitVec b).toNat:Int):=by
 have:=b.isLt;have e:(UInt32.ofBitVec b).toNat=b.toNat:=rfl;rw[e];omega
theorem AR(x:UInt32)(n:Nat):(s5 x n).toNat=x.toNat*2^(min n 32)%4294967296:=by
 unfold s5;split
 ·rename_i h;rw[UInt32.toNat_shiftLeft,U3,Q6 (show n<2^32 by omega),Q6 h,R9,n6 (by omega)]
 ·rename_i h;rw[D8 (by omega)];have:(0:UInt32).toNat=0:=rfl;rw[this];exact(S0 _ _).symm
theorem AF(x:UInt32)(n:Nat):(K6 x n).toNat=x.toNat/2^(min n 32):=by
 unfold K6;split
 ·rename_i h;rw[UInt32.toNat_shiftRight,U3,Q6 (show n<2^32 by omega),Q6 h,D6,n6 (by omega)]
 ·rename_i h;rw[D8 (by omega)];have:=x.toNat_lt;have e:(0:UInt32).toNat=0:=rfl;rw[e];exact(M1 (by omega)).symm
def UX(op:BinOp)(a b:UInt32):Option (Prop×D):=
 match op with
 | .add=>some (True,.u32 (a+b))
 | .sub=>some (True,.u32 (a-b))
 | .mul=>some (True,.u32 (a*b))
 | .quo=>some (b≠0,.u32 (a/b))
 | .rem=>some (b≠0,.u32 (a%b))
 | .and=>some (True,.u32 (a&&&b))
 | .or=>some (True,.u32 (a|||b))
 | .xor=>some (True,.u32 (a^^^b))
 | .andNot=>some (True,.u32 (a &&& ~~~b))
 | .eql=>some (True,.bool (a==b))
 | .neq=>some (True,.bool (a != b))
 | .lss=>some (True,.bool (decide (a<b)))
 | .leq=>some (True,.bool (decide (a<=b)))
 | .gtr=>some (True,.bool (decide (b<a)))
 | .geq=>some (True,.bool (decide (b<=a)))
 | _=>none
def ID(op:BinOp)(a b:UInt32):Value:=
 match op with
 | .add=>.int .u32 (a+b).toNat
 | .sub=>.int .u32 (a-b).toNat
 | .mul=>.int .u32 (a*b).toNat
 | .quo=>.int .u32 (a/b).toNat
 | .rem=>.int .u32 (a%b).toNat
 | .and=>.int .u32 (a&&&b).toNat
 | .or=>.int .u32 (a|||b).toNat
 | .xor=>.int .u32 (a^^^b).toNat
 | .andNot=>.int .u32 (a &&& ~~~b).toNat
 | .eql=>.bool (a==b)
 | .neq=>.bool (a != b)
 | .lss=>.bool (decide (a<b))
 | .leq=>.bool (decide (a<=b))
 | .gtr=>.bool (decide (b<a))
 | .geq=>.bool (decide (b<=a))
 | _=>undef
theorem RG(a b:UInt32):((a.toNat:Int)==(b.toNat:Int))=(a==b):=by
 rw[J1];simp only[p7,V0];exact R8
theorem k85(a b:UInt32):decide ((a.toNat:Int)<(b.toNat:Int))=decide (a<b):=by
 rw[H3,UInt32.lt_iff_toNat_lt];omega
theorem k89(a b:UInt32):decide ((a.toNat:Int)<=(b.toNat:Int))=decide (a<=b):=by
 rw[H3,UInt32.le_iff_toNat_le];omega
theorem k67(b:UInt32)(h:b≠0):(b.toNat:Int)≠0:=by
 intro e;apply h;apply R8.1;have:(0:UInt32).toNat=0:=rfl;rw[this];omega
theorem q56(P:Program)(w:World)(op:BinOp)(ty:TypeId)(a b:UInt32){s:Prop}{d:D}(h:UX op a b=some (s,d))(hs:s) :
 (binOp op ty (.int .u32 a.toNat) (.int .u32 b.toNat)).run P w=.ok (ID op a b) w:=by
 have ha:=a.toNat_lt;have hb:=b.toNat_lt
 cases op<;>simp only[UX,z6,b8,reduceCtorEq] at h<;>obtain⟨rfl,rfl⟩:=h <;>
  simp only[binOp,ne_eq,C8,q8,Op.intArith,Op.intDiv,Op.intBits,Op.intCmp,ID,Sem.run_pure,JB,IntKind.bits]
 ·exact g8 (λz=>Result.ok (Value.int .u32 z) w) (by rw[UInt32.toNat_add];omega)
 ·exact g8 (λz=>Result.ok (Value.int .u32 z) w) (by rw[UInt32.toNat_sub];omega)
 ·exact g8 (λz=>Result.ok (Value.int .u32 z) w) (by rw[UInt32.toNat_mul];rfl)
 ·rw[w3 (k67 b hs)]
  exact g8 (λz=>Result.ok (Value.int .u32 z) w) (by
   rw[UInt32.toNat_div,B5 (Y4 _)];have:a.toNat/b.toNat<=a.toNat:=F9 _ _;have e:((a.toNat:Int)/(b.toNat:Int))=((a.toNat/b.toNat:Nat):Int):=rfl;rw[e];generalize a.toNat/b.toNat=q at this ⊢
   omega)
 ·rw[w3 (k67 b hs)];congr 2
 ·rw[GK,GK,MO];rfl
 ·rw[GK,GK,MO];rfl
 ·rw[GK,GK,MO];rfl
 ·rw[GK,GK,MO];rfl
 ·rw[RG]
 ·congr 2
  have:=RG a b;simp only[bne,this]
 ·congr 2;exact k85 a b
 ·congr 2;exact k89 a b
 ·congr 2;exact k85 b a
 ·congr 2;exact k89 b a
theorem SO(P:Program)(w:World)(ty:TypeId)(a:UInt32)(k:IntKind)(n:Int)(hn:0<=n) :
 (binOp .shl ty (.int .u32 a.toNat) (.int k n)).run P w=.ok (.int .u32 (s5 a n.toNat).toNat) w:=by
 simp only[binOp,Op.shift,w3 (show ¬ n<0 by omega),Sem.run_pure,JB,IntKind.bits,AR]
 congr 2
theorem SP(P:Program)(w:World)(ty:TypeId)(a:UInt32)(k:IntKind)(n:Int)(hn:0<=n) :
 (binOp .shr ty (.int .u32 a.toNat) (.int k n)).run P w=.ok (.int .u32 (K6 a n.toNat).toNat) w:=by
 simp only[binOp,Op.shift,w3 (show ¬ n<0 by omega),Sem.run_pure,IntKind.bits,AF]
 congr 2
 have:(a.toNat:Int).fdiv (2^min n.toNat 32)=(a.toNat:Int)/(2^min n.toNat 32):=D0 _ (by exact_mod_cast g9 _);rw[this];rfl
def QV(x:UInt64)(n:Nat):UInt64:=if n<64 then x<<<UInt64.ofNat n else 0
def E2(x:UInt64)(n:Nat):UInt64:=if n<64 then x>>>UInt64.ofNat n else 0
theorem JC(z:Int):IntKind.u64.wrap z=z%18446744073709551616:=by simp[IntKind.wrap,IntKind.bits,IntKind.signed]
theorem GZ(x:UInt64):BitVec.ofInt 64 (x.toNat:Int)=x.toBitVec:=by
 apply N9;have:=x.toNat_lt;simp only[I3,UInt64.toNat_toBitVec];omega
theorem MN(b:BitVec 64):((b.toNat:Int)%18446744073709551616)=((UInt64.ofBitVec b).toNat:Int):=by
 have:=b.isLt;have e:(UInt64.ofBitVec b).toNat=b.toNat:=rfl;rw[e];omega
theorem AL(x:UInt64)(n:Nat):(QV x n).toNat=x.toNat*2^(min n 64)%18446744073709551616:=by
 unfold QV;split
 ·rename_i h;rw[UInt64.toNat_shiftLeft,M0,Q6 (show n<2^64 by omega),Q6 h,R9,n6 (by omega)]
 ·rename_i h;rw[D8 (by omega)];have:(0:UInt64).toNat=0:=rfl;rw[this];exact(S0 _ _).symm
theorem KU(x:UInt64)(n:Nat):(E2 x n).toNat=x.toNat/2^(min n 64):=by
 unfold E2;split
 ·rename_i h;rw[UInt64.toNat_shiftRight,M0,Q6 (show n<2^64 by omega),Q6 h,D6,n6 (by omega)]
 ·rename_i h;rw[D8 (by omega)];have:=x.toNat_lt;have e:(0:UInt64).toNat=0:=rfl;rw[e];exact(M1 (by omega)).symm
def UJ(op:BinOp)(a b:UInt64):Option (Prop×D):=
 match op with
 | .add=>some (True,.u64 (a+b))
 | .sub=>some (True,.u64 (a-b))
 | .mul=>some (True,.u64 (a*b))
 | .quo=>some (b≠0,.u64 (a/b))
 | .rem=>some (b≠0,.u64 (a%b))
 | .and=>some (True,.u64 (a&&&b))
 | .or=>some (True,.u64 (a|||b))
 | .xor=>some (True,.u64 (a^^^b))
 | .andNot=>some (True,.u64 (a &&& ~~~b))
 | .eql=>some (True,.bool (a==b))
 | .neq=>some (True,.bool (a != b))
 | .lss=>some (True,.bool (decide (a<b)))
 | .leq=>some (True,.bool (decide (a<=b)))
 | .gtr=>some (True,.bool (decide (b<a)))
 | .geq=>some (True,.bool (decide (b<=a)))
 | _=>none
def IH(op:BinOp)(a b:UInt64):Value:=
 match op with
 | .add=>.int .u64 (a+b).toNat
 | .sub=>.int .u64 (a-b).toNat
 | .mul=>.int .u64 (a*b).toNat
 | .quo=>.int .u64 (a/b).toNat
 | .rem=>.int .u64 (a%b).toNat
 | .and=>.int .u64 (a&&&b).toNat
 | .or=>.int .u64 (a|||b).toNat
 | .xor=>.int .u64 (a^^^b).toNat
 | .andNot=>.int .u64 (a &&& ~~~b).toNat
 | .eql=>.bool (a==b)
 | .neq=>.bool (a != b)
 | .lss=>.bool (decide (a<b))
 | .leq=>.bool (decide (a<=b))
 | .gtr=>.bool (decide (b<a))
 | .geq=>.bool (decide (b<=a))
 | _=>undef
theorem RY(a b:UInt64):((a.toNat:Int)==(b.toNat:Int))=(a==b):=by
 rw[J1];simp only[p7,V0];exact R7
theorem k84(a b:UInt64):decide ((a.toNat:Int)<(b.toNat:Int))=decide (a<b):=by
 rw[H3,J5];omega
theorem k88(a b:UInt64):decide ((a.toNat:Int)<=(b.toNat:Int))=decide (a<=b):=by
 rw[H3,Y9];omega
theorem k66(b:UInt64)(h:b≠0):(b.toNat:Int)≠0:=by
 intro e;apply h;apply R7.1;have:(0:UInt64).toNat=0:=rfl;rw[this];omega
theorem q55(P:Program)(w:World)(op:BinOp)(ty:TypeId)(a b:UInt64){s:Prop}{d:D}(h:UJ op a b=some (s,d))(hs:s) :
 (binOp op ty (.int .u64 a.toNat) (.int .u64 b.toNat)).run P w=.ok (IH op a b) w:=by
 have ha:=a.toNat_lt;have hb:=b.toNat_lt
 cases op<;>simp only[UJ,z6,b8,reduceCtorEq] at h<;>obtain⟨rfl,rfl⟩:=h <;>
  simp only[binOp,ne_eq,C8,q8,Op.intArith,Op.intDiv,Op.intBits,Op.intCmp,IH,Sem.run_pure,JC,IntKind.bits]
 ·exact g8 (λz=>Result.ok (Value.int .u64 z) w) (by rw[UInt64.toNat_add];omega)
 ·exact g8 (λz=>Result.ok (Value.int .u64 z) w) (by rw[UInt64.toNat_sub];omega)
 ·exact g8 (λz=>Result.ok (Value.int .u64 z) w) (by rw[UInt64.toNat_mul];rfl)
 ·rw[w3 (k66 b hs)]
  exact g8 (λz=>Result.ok (Value.int .u64 z) w) (by
   rw[UInt64.toNat_div,B5 (Y4 _)];have:a.toNat/b.toNat<=a.toNat:=F9 _ _;have e:((a.toNat:Int)/(b.toNat:Int))=((a.toNat/b.toNat:Nat):Int):=rfl;rw[e];generalize a.toNat/b.toNat=q at this ⊢
   omega)
 ·rw[w3 (k66 b hs)];congr 2
 ·rw[GZ,GZ,MN];rfl
 ·rw[GZ,GZ,MN];rfl
 ·rw[GZ,GZ,MN];rfl
 ·rw[GZ,GZ,MN];rfl
 ·rw[RY]
 ·congr 2
  have:=RY a b;simp only[bne,this]
 ·congr 2;exact k84 a b
 ·congr 2;exact k88 a b
 ·congr 2;exact k84 b a
 ·congr 2;exact k88 b a
theorem SN(P:Program)(w:World)(ty:TypeId)(a:UInt64)(k:IntKind)(n:Int)(hn:0<=n) :
 (binOp .shl ty (.int .u64 a.toNat) (.int k n)).run P w=.ok (.int .u64 (QV a n.toNat).toNat) w:=by
 simp only[binOp,Op.shift,w3 (show ¬ n<0 by omega),Sem.run_pure,JC,IntKind.bits,AL]
 congr 2
theorem SB(P:Program)(w:World)(ty:TypeId)(a:UInt64)(k:IntKind)(n:Int)(hn:0<=n) :
 (binOp .shr ty (.int .u64 a.toNat) (.int k n)).run P w=.ok (.int .u64 (E2 a n.toNat).toNat) w:=by
 simp only[binOp,Op.shift,w3 (show ¬ n<0 by omega),Sem.run_pure,IntKind.bits,KU]
 congr 2
 have:(a.toNat:Int).fdiv (2^min n.toNat 64)=(a.toNat:Int)/(2^min n.toNat 64):=D0 _ (by exact_mod_cast g9 _);rw[this];rfl
section
variable{pos:String}{aft:Array Edge}{g:Option (Nat×Bool)}
abbrev wr(n:Int):Int:=IntKind.i64.wrap n
def PM(op:BinOp)(a b:Int):Int:=
 wr (match op with
  | .and=>((BitVec.ofInt 64 a&&&BitVec.ofInt 64 b).toNat:Int)
  | .or=>((BitVec.ofInt 64 a|||BitVec.ofInt 64 b).toNat:Int)
  | .xor=>((BitVec.ofInt 64 a^^^BitVec.ofInt 64 b).toNat:Int)
  | _=>((BitVec.ofInt 64 a &&& ~~~ BitVec.ofInt 64 b).toNat:Int))
def OV(op:BinOp)(a b:Int):Option (Prop×D):=
 match op with
 | .add=>some (True,.int (wr (a+b)))
 | .sub=>some (True,.int (wr (a-b)))
 | .mul=>some (True,.int (wr (a*b)))
 | .quo=>some (b≠0,.int (wr (a.tdiv b)))
 | .rem=>some (b≠0,.int (a.tmod b))
 | .and=>some (True,.int (PM .and a b))
 | .or=>some (True,.int (PM .or a b))
 | .xor=>some (True,.int (PM .xor a b))
 | .andNot=>some (True,.int (PM .andNot a b))
 | .shl=>some (0<=b,.int (wr (a*2^min b.toNat 64)))
 | .shr=>some (0<=b,.int (a.fdiv (2^min b.toNat 64)))
 | .eql=>some (True,.bool (a==b))
 | .neq=>some (True,.bool (a != b))
 | .lss=>some (True,.bool (decide (a<b)))
 | .leq=>some (True,.bool (decide (a<=b)))
 | .gtr=>some (True,.bool (decide (b<a)))
 | .geq=>some (True,.bool (decide (b<=a)))
def v12(op:BinOp)(a b:Int):Value:=
 match op with
 | .add=>.int .i64 (wr (a+b))
 | .sub=>.int .i64 (wr (a-b))
 | .mul=>.int .i64 (wr (a*b))
 | .quo=>.int .i64 (wr (a.tdiv b))
 | .rem=>.int .i64 (a.tmod b)
 | .and=>.int .i64 (PM .and a b)
 | .or=>.int .i64 (PM .or a b)
 | .xor=>.int .i64 (PM .xor a b)
 | .andNot=>.int .i64 (PM .andNot a b)
 | .shl=>.int .i64 (wr (a*2^min b.toNat 64))
 | .shr=>.int .i64 (a.fdiv (2^min b.toNat 64))
 | .eql=>.bool (a==b)
 | .neq=>.bool (a != b)
 | .lss=>.bool (decide (a<b))
 | .leq=>.bool (decide (a<=b))
 | .gtr=>.bool (decide (b<a))
 | .geq=>.bool (decide (b<=a))
theorem x29(P:Program)(w:World)(op:BinOp)(ty:TypeId)(a b:Int){s:Prop}{d:D}(h:OV op a b=some (s,d))(hs:s) :
 (binOp op ty (.int .i64 a) (.int .i64 b)).run P w=.ok (v12 op a b) w:=by
 cases op<;>simp only[OV,z6,b8] at h<;>obtain⟨rfl,rfl⟩:=h
 case quo=>simp only[binOp,ne_eq,C8,q8,Op.intDiv,w3 hs];rfl
 case rem=>simp only[binOp,ne_eq,C8,q8,Op.intDiv,w3 hs];rfl
 case shl=>simp only[binOp,Op.shift,w3 (show ¬ b<0 by omega)];rfl
 case shr=>simp only[binOp,Op.shift,w3 (show ¬ b<0 by omega)];rfl
 all_goals rfl
def D.cnt:D->Option Int
 | .int n=>some n
 | .u8 x=>some x.toNat
 | .u16 x=>some x.toNat
 | .u32 x=>some x.toNat
 | .u64 x=>some x.toNat
 | _=>none
def OT(op:BinOp)(x:D)(n:Int):Option (Prop×D):=
 match op,x with
 | .shl,.u8 a=>some (0<=n,.u8 (II a n.toNat))
 | .shl,.u16 a=>some (0<=n,.u16 (MZ a n.toNat))
 | .shl,.u32 a=>some (0<=n,.u32 (s5 a n.toNat))
 | .shl,.u64 a=>some (0<=n,.u64 (QV a n.toNat))
 | .shl,.int a=>some (0<=n,.int (wr (a*2^min n.toNat 64)))
 | .shr,.u8 a=>some (0<=n,.u8 (YO a n.toNat))
 | .shr,.u16 a=>some (0<=n,.u16 (MQ a n.toNat))
 | .shr,.u32 a=>some (0<=n,.u32 (K6 a n.toNat))
 | .shr,.u64 a=>some (0<=n,.u64 (E2 a n.toNat))
 | .shr,.int a=>some (0<=n,.int (a.fdiv (2^min n.toNat 64)))
 | _,_=>none
def x55:BinOp->Bool
 | .shl | .shr=>true
 | _=>false
def q36(op:BinOp)(k k':IntKind)(a b:Int):Option (Prop×D):=
 match op with
 | .eql=>some (k=k',.bool (a==b))
 | .neq=>some (k=k',.bool (a != b))
 | .lss=>some (k=k',.bool (decide (a<b)))
 | .leq=>some (k=k',.bool (decide (a<=b)))
 | .gtr=>some (k=k',.bool (decide (b<a)))
 | .geq=>some (k=k',.bool (decide (b<=a)))
 | .add=>some (k=k',.ik k (k.wrap (a+b)))
 | .sub=>some (k=k',.ik k (k.wrap (a-b)))
 | _=>none
def OS(op:BinOp)(a b:List UInt8):Option (Prop×D):=
 match op with
 | .eql=>some (True,.bool (a==b))
 | .neq=>some (True,.bool (a != b))
 | .add=>some (a.length+b.length<=9223372036854775807,.str (a++b))
 | .lss=>some (True,.bool (Op.bytesLess a b))
 | _=>none
def arith(op:BinOp)(x y:D):Option (Prop×D):=
 if x55 op then(match y.cnt with|some n=>OT op x n|none=>none) else
 match x,y with
 | .int a,.int b=>OV op a b
 | .u8 a,.u8 b=>GY op a b
 | .u16 a,.u16 b=>UU op a b
 | .u32 a,.u32 b=>UX op a b
 | .u64 a,.u64 b=>UJ op a b
 | .ik k a,.ik k' b=>q36 op k k' a b
 | .str a,.str b=>OS op a b
 | _,_=>none
def Good(P:Program)(w:World)(op:BinOp)(ty:TypeId)(x y:Value)(d:D):Prop:=
 ∃ v,(binOp op ty x y).run P w=.ok v w/\(∀ ρ G L,Rc w ρ G L true d [v] [])/\d.isAgg=false/\d.isRef=false
section
variable{P:Program}{w:World}{op:BinOp}{d:D}{s:Prop}(ty:TypeId)
theorem j07{a b:Int}(h:OV op a b=some (s,d))(hs:s):Good P w op ty (.int .i64 a) (.int .i64 b) d:=by
 refine⟨_,x29 P w op ty a b h hs, ?_⟩
 cases op<;>(simp only[OV,z6,b8] at h;obtain⟨rfl,rfl⟩:=h;first|exact⟨λ_ _ _=>.int _,rfl,rfl⟩|exact⟨λ_ _ _=>.bool _,rfl,rfl⟩)
theorem x62{a b:UInt8}(h:GY op a b=some (s,d))(hs:s):Good P w op ty (.int .u8 a.toNat) (.int .u8 b.toNat) d:=by
 refine⟨_,k24 P w op ty a b h hs, ?_⟩
 cases op<;>(simp only[GY,reduceCtorEq,z6,b8] at h)<;>(obtain⟨rfl,rfl⟩:=h;first|exact⟨λ_ _ _=>.u8 _,rfl,rfl⟩|exact⟨λ_ _ _=>.bool _,rfl,rfl⟩)
theorem j05{a b:UInt16}(h:UU op a b=some (s,d))(hs:s):Good P w op ty (.int .u16 a.toNat) (.int .u16 b.toNat) d:=by
 refine⟨_,q57 P w op ty a b h hs, ?_⟩
 cases op<;>(simp only[UU,reduceCtorEq,z6,b8] at h)<;>(obtain⟨rfl,rfl⟩:=h;first|exact⟨λ_ _ _=>.u16 _,rfl,rfl⟩|exact⟨λ_ _ _=>.bool _,rfl,rfl⟩)
theorem j04{a b:UInt32}(h:UX op a b=some (s,d))(hs:s):Good P w op ty (.int .u32 a.toNat) (.int .u32 b.toNat) d:=by
 refine⟨_,q56 P w op ty a b h hs, ?_⟩
 cases op<;>(simp only[UX,reduceCtorEq,z6,b8] at h)<;>(obtain⟨rfl,rfl⟩:=h;first|exact⟨λ_ _ _=>.u32 _,rfl,rfl⟩|exact⟨λ_ _ _=>.bool _,rfl,rfl⟩)
theorem j03{a b:UInt64}(h:UJ op a b=some (s,d))(hs:s):Good P w op ty (.int .u64 a.toNat) (.int .u64 b.toNat) d:=by
 refine⟨_,q55 P w op ty a b h hs, ?_⟩
 cases op<;>(simp only[UJ,reduceCtorEq,z6,b8] at h)<;>(obtain⟨rfl,rfl⟩:=h;first|exact⟨λ_ _ _=>.u64 _,rfl,rfl⟩|exact⟨λ_ _ _=>.bool _,rfl,rfl⟩)
theorem x63{k k':IntKind}{a b:Int}(h:q36 op k k' a b=some (s,d))(hs:s):Good P w op ty (.int k a) (.int k' b) d:=by
 cases op<;>(simp only[q36,reduceCtorEq,z6,b8] at h) <;>
  (obtain⟨rfl,rfl⟩:=h;subst hs;refine⟨_,(by simp only[binOp,ne_eq,C8,q8];rfl), ?_⟩;first|exact⟨λ_ _ _=>.bool _,rfl,rfl⟩|exact⟨λ_ _ _=>.ik _ _,rfl,rfl⟩)
theorem j06{a b:List UInt8}(h:OS op a b=some (s,d))(hs:s):Good P w op ty (.string ⟨a.toArray⟩) (.string ⟨b.toArray⟩) d:=by
 cases op<;>(simp only[OS,reduceCtorEq,z6,b8] at h)<;>(obtain⟨rfl,rfl⟩:=h)
 ·refine⟨.string ⟨(a++b).toArray⟩, ?_,λ_ _ _=>.str _,rfl,rfl⟩
  have e:(⟨a.toArray⟩++⟨b.toArray⟩:ByteArray)=⟨(a++b).toArray⟩:=by
   apply ByteArray.ext;simp
  have h1:(ByteArray.mk a.toArray).size=a.length:=by simp[ByteArray.size]
  have h2:(ByteArray.mk b.toArray).size=b.length:=by simp[ByteArray.size]
  have h3:IntKind.i64.max=9223372036854775807:=by decide
  simp only[binOp,Op.stringOp,h1,h2,h3,e];rw[w3 (by omega)];rfl
 ·refine⟨.bool (a==b), ?_,λ_ _ _=>.bool _,rfl,rfl⟩;simp only[binOp,Op.stringOp,ByteArray.toList_mk];rfl
 ·refine⟨.bool (a != b), ?_,λ_ _ _=>.bool _,rfl,rfl⟩;simp only[binOp,Op.stringOp,ByteArray.toList_mk];rfl
 ·refine⟨.bool (Op.bytesLess a b), ?_,λ_ _ _=>.bool _,rfl,rfl⟩;simp only[binOp,Op.stringOp,ByteArray.toList_mk];rfl
theorem LO{a:Int}{k:IntKind}{n:Int}(hn:0<=n):Good P w .shl ty (.int .i64 a) (.int k n) (.int (wr (a*2^min n.toNat 64))):=by
 refine⟨_, ?_,λ_ _ _=>.int _,rfl,rfl⟩;simp only[binOp,Op.shift,w3 (show ¬ n<0 by omega)];rfl
theorem LN{a:Int}{k:IntKind}{n:Int}(hn:0<=n):Good P w .shr ty (.int .i64 a) (.int k n) (.int (a.fdiv (2^min n.toNat 64))):=by
 refine⟨_, ?_,λ_ _ _=>.int _,rfl,rfl⟩;simp only[binOp,Op.shift,w3 (show ¬ n<0 by omega)];rfl
theorem q17{x:D}{v:Value}{k:IntKind}{n:Int}{ρ:Nat->Nat}{G L:Nat->Prop}{p:Bool}{F:List Nat}(h:OT op x n=some (s,d))(hs:s)(hx:Rc w ρ G L p x [v] F) :
 Good P w op ty v (.int k n) d:=by
 unfold OT at h;split at h
 case h_11=>cases h
 all_goals
  simp only[z6,b8] at h;obtain⟨rfl,rfl⟩:=h;cases hx
 ·exact⟨_,q01 P w ty _ k n hs,λ_ _ _=>.u8 _,rfl,rfl⟩
 ·exact⟨_,SA P w ty _ k n hs,λ_ _ _=>.u16 _,rfl,rfl⟩
 ·exact⟨_,SO P w ty _ k n hs,λ_ _ _=>.u32 _,rfl,rfl⟩
 ·exact⟨_,SN P w ty _ k n hs,λ_ _ _=>.u64 _,rfl,rfl⟩
 ·exact LO ty hs
 ·exact⟨_,q00 P w ty _ k n hs,λ_ _ _=>.u8 _,rfl,rfl⟩
 ·exact⟨_,SM P w ty _ k n hs,λ_ _ _=>.u16 _,rfl,rfl⟩
 ·exact⟨_,SP P w ty _ k n hs,λ_ _ _=>.u32 _,rfl,rfl⟩
 ·exact⟨_,SB P w ty _ k n hs,λ_ _ _=>.u64 _,rfl,rfl⟩
 ·exact LN ty hs
end
theorem OE(P:Program)(w:World)(op:BinOp)(t:TypeId)(x y:Operand)(a b:Value)(ha:∀ cs,a≠.agg cs)(hn:a≠.nilIface) :
 (eqGuard op t x y a b).run P w=.ok () w:=by
 cases op<;>(try rfl)<;>cases a<;>first|(exact absurd rfl (ha _))|(exact absurd rfl hn)|rfl
theorem q94{w:World}{ρ:Nat->Nat}{G L:Nat->Prop}{p:Bool}{d:D}{n:Int}{v:Value}{F:List Nat}(h:d.cnt=some n)(hr:Rc w ρ G L p d [v] F):∃ k,v=.int k n:=by
 cases d<;>(simp only[D.cnt,reduceCtorEq,z6] at h)<;>(subst h;cases hr;exact⟨_,rfl⟩)
theorem z81{P:Program}{w:World}{ρ:Nat->Nat}{G L:Nat->Prop}{op:BinOp}{dx dy d:D}{s:Prop}(ty:TypeId)(h:arith op dx dy=some (s,d))(hs:s){x y:Value}{Fx Fy:List Nat}
 (hx:Rc w ρ G L true dx [x] Fx) (hy:Rc w ρ G L true dy [y] Fy):Good P w op ty x y d:=by
 unfold arith at h;split at h
 ·cases hc:dy.cnt with
  | none=>simp[hc] at h
  | some n=>
   simp only[hc] at h;obtain⟨k,rfl⟩:=q94 hc hy;exact q17 ty h hs hx
 ·split at h
  ·cases hx;cases hy;exact j07 ty h hs
  ·cases hx;cases hy;exact x62 ty h hs
  ·cases hx;cases hy;exact j05 ty h hs
  ·cases hx;cases hy;exact j04 ty h hs
  ·cases hx;cases hy;exact j03 ty h hs
  ·cases hx;cases hy;exact x63 ty h hs
  ·cases hx;cases hy;exact j06 ty h hs
  ·cases h
theorem VT{w:World}{ρ:Nat->Nat}{G L:Nat->Prop}{op:BinOp}{dx dy d:D}{s:Prop}(h:arith op dx dy=some (s,d)){x:Value}{Fx:List Nat}
 (hx:Rc w ρ G L true dx [x] Fx):(∀ cs,x≠.agg cs)/\x≠.nilIface/\dx.isAgg=false/\dx.isRef=false/\dy.isAgg=false/\dy.isRef=false:=by
 unfold arith at h;split at h
 ·cases hc:dy.cnt with
  | none=>simp[hc] at h
  | some n=>
   simp only[hc] at h
   have hy:dy.isAgg=false/\dy.isRef=false:=by cases dy<;>simp_all [D.cnt,D.isAgg,D.isRef]
   unfold OT at h;split at h
   case h_11=>cases h
   all_goals cases hx;exact⟨by simp,by simp,rfl,rfl,hy⟩
 ·split at h
  case h_8=>cases h
  all_goals cases hx;exact⟨by simp,by simp,rfl,rfl,rfl,rfl⟩
def v22(v:Value):Option D:=
 match v with
 | .bool b=>some (.bool b)
 | .int .i64 n=>some (.int n)
 | .int .u8 n=>if 0<=n/\n<256 then some (.u8 (.ofNat n.toNat)) else none
 | .int .u16 n=>if 0<=n/\n<65536 then some (.u16 (.ofNat n.toNat)) else none
 | .int .u32 n=>if 0<=n/\n<4294967296 then some (.u32 (.ofNat n.toNat)) else none
 | .int .u64 n=>if 0<=n/\n<18446744073709551616 then some (.u64 (.ofNat n.toNat)) else none
 | .int k n=>some (.ik k n)
 | .string s=>some (.str s.data.toList)
 | .slice none 0 0=>some .nils
 | .pointer none=>some .nilp
 | .map none=>some .nilmap
 | .nilFunc=>some .nilf
 | .nilIface=>some .nili
 | _=>none
theorem w70{v:Value}{d:D}(h:v22 v=some d)(w:World)(ρ:Nat->Nat)(G L:Nat->Prop):Rc w ρ G L true d [v] []/\d.isAgg=false/\d.isRef=false:=by
 unfold v22 at h;split at h
 ·cases h;exact⟨.bool _,rfl,rfl⟩
 ·cases h;exact⟨.int _,rfl,rfl⟩
 ·rename_i n;split at h
  ·rename_i hn;cases h
   have e:((UInt8.ofNat n.toNat).toNat:Int)=n:=by rw[B6];omega
   have:=Rc.u8 (w:=w) (ρ:=ρ) (G:=G) (L:=L) (p:=true) (UInt8.ofNat n.toNat);rw[e] at this;exact⟨this,rfl,rfl⟩
  ·cases h
 ·rename_i n;split at h
  ·rename_i hn;cases h
   have e:((UInt16.ofNat n.toNat).toNat:Int)=n:=by rw[T7];omega
   have:=Rc.u16 (w:=w) (ρ:=ρ) (G:=G) (L:=L) (p:=true) (UInt16.ofNat n.toNat);rw[e] at this;exact⟨this,rfl,rfl⟩
  ·cases h
 ·rename_i n;split at h
  ·rename_i hn;cases h
   have e:((UInt32.ofNat n.toNat).toNat:Int)=n:=by rw[U3];omega
   have:=Rc.u32 (w:=w) (ρ:=ρ) (G:=G) (L:=L) (p:=true) (UInt32.ofNat n.toNat);rw[e] at this;exact⟨this,rfl,rfl⟩
  ·cases h
 ·rename_i n;split at h
  ·rename_i hn;cases h
   have e:((UInt64.ofNat n.toNat).toNat:Int)=n:=by rw[M0];omega
   have:=Rc.u64 (w:=w) (ρ:=ρ) (G:=G) (L:=L) (p:=true) (UInt64.ofNat n.toNat);rw[e] at this;exact⟨this,rfl,rfl⟩
  ·cases h
 ·cases h;exact⟨.ik _ _,rfl,rfl⟩
 ·rename_i s;cases h
  have e:(⟨s.data.toList.toArray⟩:ByteArray)=s:=by cases s;simp
  have:=Rc.str (w:=w) (ρ:=ρ) (G:=G) (L:=L) (p:=true) s.data.toList;rw[e] at this;exact⟨this,rfl,rfl⟩
 ·cases h;exact⟨.nils,rfl,rfl⟩
 ·cases h;exact⟨.nilp,rfl,rfl⟩
 ·cases h;exact⟨.nilmap,rfl,rfl⟩
 ·cases h;exact⟨.nilf,rfl,rfl⟩
 ·cases h;exact⟨.nili,rfl,rfl⟩
 ·cases h
def ev(gl:List (Nat×D))(σ:Sg)(x:Operand):Option D:=
 match x with
 | .tmp s=>σ.get s
 | .const v=>v22 v
 | .global g=>(lk gl g).map .rp
 | .func f=>some (.fn f [])
mutual
def D.pur:D->Bool
 | .sl o _ _=>o.isNone
 | .agg l=>HF l
 | .tup _=>false
 | .al _=>false
 | .alb _ _ _=>false
 | .vw _ _ _ _=>false
 | .va _ _ _ _ _ _=>false
 | .ep _ _ _ _ _=>false
 | .dead=>false
 | _=>true
def HF:List D->Bool
 | []=>true
 | d::r=>D.pur d&&HF r
end
theorem NP(l:List D)(h:HF l=true):∀ k (hk:k<l.length),l[k].pur=true:=by
 induction l with
 | nil=>intro k hk;simp at hk
 | cons d r ih=>
  simp only[HF,u6] at h;intro k hk
  cases k with
  | zero=>exact h.1
  | succ k=>simpa using ih h.2 k (by simpa using hk)
theorem Rc.pur{w:World}{ρ:Nat->Nat}{G L:Nat->Prop}{p:Bool}{d:D}{cs:List Value}{F:List Nat}(h:Rc w ρ G L p d cs F)(hd:d.pur=true):F=[]:=by
 induction h with
 | slO b cs e cap z l Fs hb hc hm hs ho1 hr ih=>simp[D.pur] at hd
 | agg l cs Fs hs hr ih=>
  simp only[D.pur] at hd;rw[J0];intro k hk;exact ih k (j7.1 hk) (NP l hd k (j7.1 hk))
 | _=>rfl
theorem D9{d:D}(h:d.pur=true):d.isRef=false:=by cases d<;>simp_all [D.pur,D.isRef]
theorem VR.pur{w:World}{ρ:Nat->Nat}{G L:Nat->Prop}{d:D}{v:Value}{F:List Nat}(h:VR w ρ G L d v F)(hd:d.pur=true):F=[]:=by
 unfold VR at h;split at h
 ·obtain⟨cs,_,h⟩:=h;exact h.pur hd
 ·exact h.pur hd
variable{P:Program}{C:Ctx}{σ σ':Sg}{a:Act}{w:World}{ρ:Nat->Nat}{Fe Fb:Nat->List Nat}
theorem FY{l:List (Nat×α)}{g:Nat}{d:α}(h:lk l g=some d):(g,d)∈l:=by
 induction l with
 | nil=>cases h
 | cons x r ih=>
  obtain⟨k,y⟩:=x;rw[U2] at h;split at h
  ·rename_i hk;cases h;subst hk;simp
  ·exact j1 _ (ih h)
theorem H5(hs:StW C σ a w ρ Fe Fb){x:Operand}{d:D}(h:ev C.gl σ x=some d)(hr:d.isRef=false) :
 ∃ F,VR w ρ (gd C Fe Fb) (λid=>(σ.box id).isSome) d (a.eval x) F/\(∀ b∈F,own Fe Fb b):=by
 cases x with
 | tmp s=>
  obtain⟨v,hv,hvr⟩:=(c5 hr).1 (hs.env s d h);refine⟨Fe s, ?_,λb hb=>.inl ⟨s,hb⟩⟩
  have:a.eval (.tmp s)=v:=by simp[Act.eval,hv]
  rw[this];exact hvr
 | const v=>
  obtain⟨h1,h2,h3⟩:=w70 h w ρ (gd C Fe Fb) (λid=>(σ.box id).isSome);refine⟨[], ?_,by simp⟩;simp only[VR,h2,Act.eval];exact h1
 | global g=>
  simp only[ev,p9] at h;obtain⟨d0,hd0,rfl⟩:=h;obtain⟨hk,hok,cs,e,fz,hb,hrc⟩:=hs.gl g d0 (FY hd0);refine⟨[], ?_,by simp⟩;simp only[VR,D.isAgg,Act.eval];have hlen:=hrc.len;refine .rp d0 g 0 cs e fz ((hs.kept g hk).1.trans hb) ⟨hok,λho=>hs.new g ho hk⟩ (by simp[<- hlen]) ?_
  have hcs:(cs.toList.drop 0).take d0.sz=cs.toList:=by rw[<- hlen,K5];exact J9
  rw[hcs];refine hrc.mono (λb hb' hlt=>?_) (λb hb' _=>hb'.elim) (λid hid=>hid.elim)
  rcases hb' with hb'|hb'
  ·exact hb'.elim
  ·cases hb'
 | func f=>
  cases h;refine⟨[], ?_,by simp⟩;simp only[VR,D.isAgg,Act.eval];exact .fn f [] [] rfl (by simp) (by simp)
theorem OpS.value{o:Oper}(h:∀ a w,St C σ a w->∃ v w',(execOp a.eval o).run P w=.ok (.value v) w'/\St C σ' (a.put o.dst v) w'):OpS P C o σ σ':=by
 intro a w hs K Q hK;obtain⟨v,w',hr,hs'⟩:=h a w hs;exact O0 hr (by simp) (hK _ _ hs')
theorem R.bin{op:BinOp}{xt yt ty:TypeId}{x y:Operand}{t:Nat}{dx dy d:D}{s:Prop}
 (hx:ev C.gl σ x=some dx) (hy:ev C.gl σ y=some dy) (ha:arith op dx dy=some (s,d)) (hs:s) (ht:t<σ.n) :
 OpS P C ⟨some t,.binOp op xt x y yt,ty,pos,aft,g⟩ σ (σ.set t d):=by
 refine OpS.value λa w ⟨ρ,Fe,Fb,st⟩=>?_
 have hdx:dx.isAgg=false/\dx.isRef=false/\dy.isAgg=false/\dy.isRef=false:=by
  unfold arith at ha;split at ha
  ·cases hc:dy.cnt with
   | none=>simp[hc] at ha
   | some n=>
    simp only[hc] at ha
    have hy:dy.isAgg=false/\dy.isRef=false:=by cases dy<;>simp_all [D.cnt,D.isAgg,D.isRef]
    unfold OT at ha;split at ha
    case h_11=>cases ha
    all_goals exact⟨rfl,rfl,hy⟩
  ·split at ha
   case h_8=>cases ha
   all_goals exact⟨rfl,rfl,rfl,rfl⟩
 obtain⟨Fx,vx,_⟩:=H5 st hx hdx.2.1;obtain⟨Fy,vy,_⟩:=H5 st hy hdx.2.2.2;simp only[VR,hdx.1,hdx.2.2.1,q7,q8] at vx vy;obtain⟨v,hv,hrc,h1,h2⟩:=z81 (P:=P) xt ha hs vx vy;obtain⟨p1,p2,_⟩:=VT ha vx;refine⟨v,w, ?_,st.setV ht (Ext.refl w) h2 ?_⟩
 ·unfold execOp;simp only[Sem.run_bind,OE P w op xt x y _ _ p1 p2,Result.andThen_ok,hv,Sem.run_pure]
 ·simp only[VR,h1,q7,q8];exact hrc _ _ _
theorem DQ(ro:Option Nat)(ρ:Operand->Value)(x:Operand)(t:Option Nat)(ty:TypeId)(pos:String)(aft:Array Edge)(g:Option (Nat×Bool)) :
 (Oper.semAt ro ρ ⟨t,.move x,ty,pos,aft,g⟩=pure (.value (ρ x)))/\(Oper.semAt ro ρ ⟨t,.assign x,ty,pos,aft,g⟩=pure (.value (ρ x))):=by
 cases ro<;>exact⟨rfl,rfl⟩
theorem AG{x:Operand}{t:Option Nat}{ty:TypeId}(h:OpS P C ⟨t,.move x,ty,pos,aft,g⟩ σ σ'):OpS P C ⟨t,.assign x,ty,pos,aft,g⟩ σ σ':=by
 intro a w hs K Q hK;have h2:=(h a w hs K Q hK).2;rw[(DQ _ _ x t ty pos aft g).1] at h2;refine⟨λ_ _=>trivial, ?_⟩;rw[(DQ _ _ x t ty pos aft g).2];exact h2
theorem AY{x:Operand}{t:Option Nat}{ty:TypeId}(h:OpS P C ⟨t,.assign x,ty,pos,aft,g⟩ σ σ'):OpS P C ⟨t,.move x,ty,pos,aft,g⟩ σ σ':=by
 intro a w hs K Q hK;have h2:=(h a w hs K Q hK).2;rw[(DQ _ _ x t ty pos aft g).2] at h2;refine⟨λ_ _=>trivial, ?_⟩;rw[(DQ _ _ x t ty pos aft g).1];exact h2
theorem R.mov{x:Operand}{t:Nat}{ty:TypeId}{d:D}
 (hx:ev C.gl σ x=some d) (hp:d.pur=true) (ht:t<σ.n):OpS P C ⟨some t,.move x,ty,pos,aft,g⟩ σ (σ.set t d):=by
 refine OpS.value λa w ⟨ρ,Fe,Fb,st⟩=>?_;obtain⟨F,hv,_⟩:=H5 st hx (D9 hp);have hF:=hv.pur hp;subst hF;refine⟨a.eval x,w,rfl,st.setV ht (Ext.refl w) (D9 hp) (hv.mono (λ_ _ _=>rfl) (λb hb _=>⟨hb.1,λho=>hb.2 ?_⟩) (λid hid=>⟨hid,rfl⟩))⟩
 rcases ho with ⟨u,hu⟩|ho
 ·by_cases hut:u=t
  ·subst hut;simp at hu
  ·rw[j2 hut] at hu;exact .inl ⟨u,hu⟩
 ·exact .inr ho
theorem Z3{x:Operand}{t:Nat}{ty:TypeId}{d:D}
 (hx:ev C.gl σ x=some d) (hp:d.pur=true) (ht:t<σ.n):OpS P C ⟨some t,.assign x,ty,pos,aft,g⟩ σ (σ.set t d):=
 AG (R.mov (P:=P) (ty:=ty) (pos:=pos) (aft:=aft) (g:=g) hx hp ht)
end
section
def D.loc:D->List Nat->Option (Nat×D)
 | d,[]=>some (0,d)
 | .agg l,k::p=>match l[k]? with
  | some d=>match D.loc d p with
   | some (o,d')=>some (offk l k+o,d')
   | none=>none
  | none=>none
 | .arr _ z l,k::p=>match l[k]? with
  | some d=>match D.loc d p with
   | some (o,d')=>some (k*z+o,d')
   | none=>none
  | none=>none
 | _,_::_=>none
theorem XG(cs:List Value)(a n b m:Nat)(h:b+m<=n):((((cs.drop a).take n).drop b).take m)=(cs.drop (a+b)).take m:=by
 rw[L9,X6,B4,n6 (by omega)]
theorem T3(l:List D)(k:Nat)(h:k<l.length):offk l k+l[k].sz<=N6 l:=by
 unfold offk
 induction l generalizing k with
 | nil=>simp at h
 | cons d r ih=>
  cases k with
  | zero=>simp
  | succ k=>
   have:=ih k (by simpa using h);simp only[Z9,S1,J6];omega
theorem Rc.loc{w:World}{ρ:Nat->Nat}{G L:Nat->Prop}{p:Bool}{d d':D}{cs:List Value}{F:List Nat}(h:Rc w ρ G L p d cs F){path:List Nat}{off:Nat}
 (hl:d.loc path=some (off,d')):∃ F',Rc w ρ G L true d' ((cs.drop off).take d'.sz) F'/\(∀ b∈F',b∈F)/\off+d'.sz<=cs.length:=by
 induction path generalizing d cs F p off d' with
 | nil=>
  simp only[D.loc,z6,b8] at hl;obtain⟨rfl,rfl⟩:=hl;refine⟨F, ?_,λ_ h=>h,by simp[h.len]⟩
  have:(cs.drop 0).take d.sz=cs:=by rw[K5,<- h.len];exact J9
  rw[this]
  cases p with
  | true=>exact h
  | false=>exact h.flag
 | cons k path ih=>
  cases h with
  | agg l cs Fs hs hr=>
   simp only[D.loc] at hl
   cases hk:l[k]? with
   | none=>simp[hk] at hl
   | some d1=>
    obtain⟨hklt,rfl⟩:=z8.1 hk;simp only[hk] at hl
    cases hd:D.loc l[k] path with
    | none=>simp[hd] at hl
    | some od=>
     obtain⟨o,d2⟩:=od;simp only[hd,z6,b8] at hl;obtain⟨rfl,rfl⟩:=hl;obtain⟨F',h1,h2,h3⟩:=ih (hr k hklt) hd;have hlt:=T3 l k hklt;have hlen:((cs.drop (offk l k)).take l[k].sz).length=l[k].sz:=(hr k hklt).len;refine⟨F', ?_,λb hb=>w8.2 ⟨k,j7.2 hklt,h2 b hb⟩,by omega⟩;rw[XG _ _ _ _ _ (by omega)] at h1;exact h1
  | arr n z l cs hn hs hr=>
   simp only[D.loc] at hl
   cases hk:l[k]? with
   | none=>simp[hk] at hl
   | some d1=>
    obtain⟨hklt,rfl⟩:=z8.1 hk;simp only[hk] at hl
    cases hd:D.loc l[k] path with
    | none=>simp[hd] at hl
    | some od=>
     obtain⟨o,d2⟩:=od;simp only[hd,z6,b8] at hl;obtain⟨rfl,rfl⟩:=hl;obtain⟨F',h1,h2,h3⟩:=ih (hr k hklt) hd
     have hlen:((cs.drop (k*z)).take z).length<=z:=by simp;omega
     have hkz:k*z+z<=n*z:=by
      have:=w6 z (show k+1<=n by omega);rw[v7] at this;omega
     refine⟨F', ?_,λb hb=>absurd (h2 b hb) (by simp),by omega⟩;rw[XG _ _ _ _ _ (by omega)] at h1;exact h1
  | _=>simp[D.loc] at hl
theorem R6(b o n:Nat):(⟨b,o,none⟩:Addr).add n=⟨b,o+n,none⟩:=by
 unfold Addr.add;split<;>simp_all
def v03(w:World)(ρ:Nat->Nat)(G L:Nat->Prop)(base:Option Addr)(len cap z:Nat)(l:List D):Prop:=
 len=l.length/\((len=0/\cap=0)∨∃ b o cs e fz,base=some ⟨b,o,none⟩/\w.heap[b]? = some (.cells cs e fz)/\len<=cap/\o+len*z<=cs.size /\
  ∀ i (h:i<l.length),∃ F,Rc w ρ G L false l[i] ((cs.toList.drop (o+i*z)).take z) F)
inductive SC(σ:Sg):Nat->Nat->List D->Prop
 | sl {t z:Nat} {o:Option Nat} {l:List D} (h:σ.get t=some (.sl o z l)):SC σ t z l
 | nil {t z:Nat} (h:σ.get t=some .nils):SC σ t z []
 | al {t s z:Nat} {o:Option Nat} {l:List D} (h:σ.get t=some (.al s)) (h':σ.get s=some (.sl o z l)):SC σ t z l
 | alnil {t s z:Nat} (h:σ.get t=some (.al s)) (h':σ.get s=some .nils):SC σ t z []
 | alb {t id off z:Nat} {path:List Nat} {d:D} {o:Option Nat} {l:List D} (h:σ.get t=some (.alb id off path)) (h':σ.box id=some (.var d)) (hl:d.loc path=some (off,.sl o z l)):SC σ t z l
 | albnil {t id off z:Nat} {path:List Nat} {d:D} (h:σ.get t=some (.alb id off path)) (h':σ.box id=some (.var d)) (hl:d.loc path=some (off,.nils)):SC σ t z []
 | vw {t s z lo n:Nat} {l:List D} (h:σ.get t=some (.vw s z lo n)) (h':SC σ s z l) (hn:lo+n<=l.length):SC σ t z ((l.drop lo).take n)
 | va {t id off z n lo m:Nat} {path:List Nat} {d:D} {l:List D} (h:σ.get t=some (.va id off z n path lo)) (h':σ.box id=some (.var d)) (hl:d.loc path=some (off,.arr m z l)) (hn:lo+n<=m) :
  SC σ t z ((l.drop lo).take n)
variable{P:Program}{C:Ctx}{σ σ':Sg}{a:Act}{w w':World}{ρ:Nat->Nat}{Fe Fb:Nat->List Nat}
theorem PZ{G L:Nat->Prop}{p:Bool}{o:Option Nat}{z:Nat}{l:List D}{v:Value}{F:List Nat}(h:Rc w ρ G L p (.sl o z l) [v] F) :
 ∃ base len cap,v=.slice base len cap/\v03 w ρ G L base len cap z l:=by
 cases h with
 | slN=>exact⟨none,0,0,rfl,rfl,.inl ⟨rfl,rfl⟩⟩
 | slE _ _ a=>exact⟨some a,0,0,rfl,rfl,.inl ⟨rfl,rfl⟩⟩
 | slI b off cs e fz cap _ _ hb hG hc hs hr=>exact⟨_,_,_,rfl,rfl,.inr ⟨b,off,cs,e,fz,rfl,hb,hc,hs,λi hi=>⟨[],hr i hi⟩⟩⟩
 | slO b cs e cap _ _ Fs hb hc hm hs ho1 hr=>
  refine⟨_,_,_,rfl,rfl,.inr ⟨b,0,cs,_,_,rfl,hb,hc, ?_,λi hi=>⟨Fs i,by simpa using hr i hi⟩⟩⟩;have:=w6 z hc;omega
theorem Rc.nil_val{G L:Nat->Prop}{p:Bool}{v:Value}{F:List Nat}(h:Rc w ρ G L p .nils [v] F):v=.slice none 0 0:=by
 generalize he:[v]=cs at h;cases h;simpa using he
theorem CC(hs:StW C σ a w ρ Fe Fb){t z:Nat}{l:List D}(h:SC σ t z l) :
 ∃ base len cap,a.tmps[t]? = some (.slice base len cap)/\v03 w ρ (gd C Fe Fb) (λid=>(σ.box id).isSome) base len cap z l:=by
 induction h with
 | sl h=>
  obtain⟨v,hv,hr⟩:=(c5 rfl).1 (hs.env _ _ h);simp only[VR,D.isAgg,q7,q8] at hr;obtain⟨base,len,cap,rfl,hl⟩:=PZ hr;exact⟨base,len,cap,hv,hl⟩
 | nil h=>
  obtain⟨v,hv,hr⟩:=(c5 rfl).1 (hs.env _ _ h);simp only[VR,D.isAgg,q7,q8] at hr;generalize Fe _=F at hr;cases hr;exact⟨none,0,0,hv,rfl,.inl ⟨rfl,rfl⟩⟩
 | al h h'=>
  obtain⟨_,x,hx,hs'⟩:=hs.env _ _ h;obtain⟨v,hv,hr⟩:=(c5 rfl).1 (hs.env _ _ h');simp only[VR,D.isAgg,q7,q8] at hr;obtain⟨base,len,cap,rfl,hl⟩:=PZ hr;rw[hv] at hs';cases hs';exact⟨base,len,cap,hx,hl⟩
 | alnil h h'=>
  obtain⟨_,x,hx,hs'⟩:=hs.env _ _ h;obtain⟨v,hv,hr⟩:=(c5 rfl).1 (hs.env _ _ h');simp only[VR,D.isAgg,q7,q8] at hr;generalize Fe _=F at hr;cases hr;rw[hv] at hs';cases hs';exact⟨none,0,0,hx,rfl,.inl ⟨rfl,rfl⟩⟩
 | alb h h' hl=>
  obtain⟨_,hid,x,hx,hc⟩:=hs.env _ _ h;obtain⟨cs,e,F',hb,hr,_⟩:=hs.bx _ _ h';obtain⟨F2,h1,h2,h3⟩:=hr.loc hl;rw[cell_of_row w _ _ cs e (0,0) hb] at hc;obtain⟨hlt,rfl⟩:=j6.1 hc;simp only[D.sz] at h1;rw[p8 (by simpa using hlt),Z9,H6,S9] at h1;obtain⟨base,len,cap,he,hl⟩:=PZ h1;rw[he] at hx;exact⟨base,len,cap,hx,hl⟩
 | albnil h h' hl=>
  obtain⟨_,hid,x,hx,hc⟩:=hs.env _ _ h;obtain⟨cs,e,F',hb,hr,_⟩:=hs.bx _ _ h';obtain⟨F2,h1,h2,h3⟩:=hr.loc hl;rw[cell_of_row w _ _ cs e (0,0) hb] at hc;obtain⟨hlt,rfl⟩:=j6.1 hc;simp only[D.sz] at h1;rw[p8 (by simpa using hlt),Z9,H6,S9] at h1;rw[h1.nil_val] at hx;exact⟨none,0,0,hx,rfl,.inl ⟨rfl,rfl⟩⟩
 | @vw t s z lo n l h h' hn ih=>
  obtain⟨base,len,cap,hs1,hl,hd⟩:=ih;obtain⟨_,v0,v1,h1,h2,b0,len',cap',b1,cap2,rfl,rfl,h3,h4,h45,h5⟩:=hs.env _ _ h;rw[hs1] at h1;simp only[z6,Value.slice.injEq] at h1;obtain⟨rfl,rfl,rfl⟩:=h1;refine⟨_,_,_,h2,by simp;omega, ?_⟩
  rcases h5 with ⟨b,o,o',rfl,rfl,h5,_⟩|⟨rfl,rfl⟩
  ·rcases hd with ⟨h6,h7⟩|⟨b',o2,cs,e,fz,hb,hh,h6,h7,h8⟩
   ·exact .inl ⟨by omega,by omega⟩
   ·cases hb
    have hoff:o'+n*z<=cs.size:=by
     rcases h5 with rfl|⟨rfl,rfl⟩
     ·have:(lo+n)*z<=len*z:=w6 z (by omega);rw[v7] at this;omega
     ·omega
    refine .inr ⟨b,o',cs,e,fz,rfl,hh,h3,hoff,λi hi=>?_⟩;simp only[v5,v8] at hi
    rcases h5 with rfl|⟨rfl,rfl⟩
    ·obtain⟨F,hF⟩:=h8 (lo+i) (by omega);refine⟨F, ?_⟩;simp only[Q7,H9];rw[v7,<- U7] at hF;exact hF
    ·omega
  ·refine .inl ⟨by omega,rfl⟩
 | @va t id off z n lo m path d l h h' hl hn=>
  obtain⟨_,hid,cap,o',h1,h0,h2⟩:=hs.env _ _ h;obtain⟨cs,e,F',hb,hr,_⟩:=hs.bx _ _ h';obtain⟨F2,h3,h4,h5⟩:=hr.loc hl
  cases h3 with
  | arr _ _ _ _ hlm hsz hrr=>
   simp only[HU] at h5 hsz
   have hoff:o'+n*z<=cs.size:=by
    rcases h0 with rfl|⟨rfl,rfl⟩
    ·have:(lo+n)*z<=m*z:=w6 z (by omega);rw[v7] at this;simp only[p6] at h5;omega
    ·simp only[p6] at h5;omega
   refine⟨_,_,_,h2,by simp;omega,.inr ⟨ρ id,o',cs,e,_,rfl,hb,h1,hoff,λi hi=>?_⟩⟩;simp only[v5,v8] at hi;refine⟨[], ?_⟩
   rcases h0 with rfl|⟨rfl,rfl⟩
   ·simp only[Q7,H9];have:=hrr (lo+i) (by omega);rw[HU,XG _ _ _ _ _ ?_] at this
    ·rw[v7,<- U7] at this;exact this
    ·have:(lo+i+1)*z<=m*z:=w6 z (by omega);rw[v7] at this;omega
   ·omega
end
section
variable{pos:String}{aft:Array Edge}{g:Option (Nat×Bool)}
def w90:TypeDesc->Bool
 | .struct _ | .array _ _=>true
 | _=>false
class SlT(P:Program)(t:TypeId)(e:outParam TypeId):Prop where
 u:P.underlying t=some (.slice e)
class ElT(P:Program)(e:TypeId)(z bytes:outParam Nat):Prop where
 i:∃ i zv,P.info? e=some i/\i.size=z/\i.bytes=bytes/\i.zero=some zv/\zv.cells.size=z/\0<z/\zv.cells.toList.all Value.oneCell'=true
class LdT(P:Program)(t:TypeId)(n:outParam Nat)(g:outParam Bool):Prop where
 i:∃ d i,P.underlying t=some d/\w90 d=g/\P.info? t=some i/\i.size=n
class FdT(P:Program)(s f:Nat)(off:outParam Nat):Prop where
 i:∃ fs fld i,P.underlying s=some (.struct fs)/\fs[f]? = some fld/\fld.offset=off/\P.info? fld.type=some i/\i.size≠0
class ArT(P:Program)(t:TypeId)(n e:outParam Nat):Prop where
 u:P.underlying t=some (.array n e)
variable{P:Program}{C:Ctx}{σ σ':Sg}{a:Act}{w w':World}{ρ:Nat->Nat}{Fe Fb:Nat->List Nat}
theorem ElT.size{e z b:Nat}[h:ElT P e z b](w:World):(sizeOf e).run P w=.ok z w:=by
 obtain⟨i,zv,hi,rfl,_⟩:=h.i;simp[sizeOf,typeInfo,hi]
theorem LdT.size{t n:Nat}{g:Bool}[h:LdT P t n g](w:World):(sizeOf t).run P w=.ok n w:=by
 obtain⟨d,i,_,_,hi,rfl⟩:=h.i;simp[sizeOf,typeInfo,hi]
theorem LdT.agg{t n:Nat}{g:Bool}[h:LdT P t n g](w:World):(isAgg t).run P w=.ok g w:=by
 obtain⟨d,i,hd,hg,_,_⟩:=h.i;unfold isAgg;rw[Sem.run_bind,run_underlying hd w];subst hg
 cases d<;>rfl
theorem i6{G L:Nat->Prop}{p:Bool}{d:D}{F:List Nat}{ty n:Nat}{g:Bool}[LdT P ty n g]{b off:Nat}{cs:Array Value}{e:Nat}{fz:Nat×Nat}
 (hb:w.heap[b]? = some (.cells cs e fz)) (hr:Rc w ρ G L p d ((cs.toList.drop off).take d.sz) F) (hs:off+d.sz<=cs.size) (hn:d.sz=n) (hg:d.isAgg=g) :
 ∃ v,(loadVar ty ⟨b,off,none⟩).run P w=.ok v w/\VR w ρ G L d v F:=by
 have hr':Rc w ρ G L true d ((cs.toList.drop off).take d.sz) F:=by
  cases p with
  | true=>exact hr
  | false=>exact hr.flag
 have hl:((cs.toList.drop off).take d.sz).length=n:=by rw[hr.len,hn]
 have hcell:∀ j v,((cs.toList.drop off).take d.sz)[j]? = some v->w.cell? ((⟨b,off,none⟩:Addr).add j)=some v:=by
  intro j v hv;rw[R6,cell_of_row w b _ cs e fz hb];rw[d9] at hv;split at hv
  ·rw[n4] at hv;simpa using hv
  ·cases hv
 cases g with
 | true=>
  refine⟨.agg ((cs.toList.drop off).take d.sz).toArray, ?_, ?_⟩
  ·have:=run_loadCells_list (P:=P) w ⟨b,off,none⟩ ((cs.toList.drop off).take d.sz) hcell;rw[hl] at this;simp[loadVar,LdT.agg (P:=P) (t:=ty),LdT.size (P:=P) (t:=ty),this]
  ·simp only[VR,hg,j9];exact⟨_,rfl,by simpa using hr'⟩
 | false=>
  have h1:d.sz=1:=by cases d<;>simp_all [D.sz,D.isAgg]
  obtain⟨v,hv⟩:∃ v,(cs.toList.drop off).take d.sz=[v]:=by
   rw[h1] at hl hn ⊢;rw[<- hn] at hl;exact List.length_eq_one_iff.1 hl
  refine⟨v, ?_, ?_⟩
  ·have hc:=hcell 0 v (by rw[hv];rfl);simp only[Addr.add,j9] at hc;simp[loadVar,LdT.agg (P:=P) (t:=ty),hc]
  ·simp only[VR,hg,q7,q8];rw[hv] at hr';exact hr'
theorem MX{t b:Nat}(h:own (upd Fe t []) Fb b):own Fe Fb b:=by
 rcases h with ⟨u,hu⟩|h
 ·by_cases hut:u=t
  ·subst hut;simp at hu
  ·rw[j2 hut] at hu;exact .inl ⟨u,hu⟩
 ·exact .inr h
theorem StW.put{t:Nat}{d:D}{v:Value}(h:StW C σ a w ρ Fe Fb)(ht:t<σ.n)(hd:d.isRef=false)
 (hv:VR w ρ (gd C Fe Fb) (λid=>(σ.box id).isSome) d v []):St C (σ.set t d) (a.put (some t) v) w:=
 h.setV ht (Ext.refl w) hd (hv.mono (λ_ _ _=>rfl) (λb hb _=>⟨hb.1,λho=>hb.2 (MX ho)⟩) (λid hid=>⟨hid,rfl⟩))
theorem StW.putRef{t:Nat}{d:D}{v:Value}(h:StW C σ a w ρ Fe Fb)(ht:t<σ.n)
 (hv:SR w ρ (gd C (upd Fe t []) Fb) (λid=>(σ.box id).isSome) (a.put (some t) v) t d []):St C (σ.set t d) (a.put (some t) v) w:=
 ⟨ρ,upd Fe t [],Fb,h.ext ht (Ext.refl w) w9 (by simp) hv⟩
theorem Q3{s:Nat}{v:Value}(h:a.tmps[s]? = some v):a.eval (.tmp s)=v:=by simp[Act.eval,h]
theorem R.len{s t z:Nat}{l:List D}{ty e rt:TypeId}[hT:SlT P ty e]
 (h:SC σ s z l) (ht:t<σ.n):OpS P C ⟨some t,.call { callee:=.builtin .len,args:=#[.tmp s],argTypes:=#[ty] },rt,pos,aft,g⟩ σ (σ.set t (.int l.length)):=by
 refine OpS.value λa w ⟨ρ,Fe,Fb,st⟩=>?_;obtain⟨base,len,cap,hv,rfl,_⟩:=CC st h;refine⟨.int .i64 l.length,w, ?_,st.put ht rfl ?_⟩
 ·unfold execOp;simp[resolve,invoke,builtin,Builtin.len_,run_underlying hT.u,Q3 hv,goInt]
 ·simp only[VR,D.isAgg,q7,q8];exact .int _
theorem R.ldE{p t z i off:Nat}{s:Nat}{path:List Nat}{l:List D}{d0 d:D}{ty n rt:TypeId}[LdT P ty n gg]
 (h:σ.get p=some (.ep s z i off path)) (hs:SC σ s z l) (hi:l[i]? = some d0) (hl:d0.loc path=some (off,d)) (hp:d.pur=true) (hn:d.sz=n) (hg:d.isAgg=gg) (ht:t<σ.n) :
 OpS P C ⟨some t,.load ty (.tmp p),rt,pos,aft,g⟩ σ (σ.set t d):=by
 refine OpS.value λa w ⟨ρ,Fe,Fb,st⟩=>?_;obtain⟨base,len,cap,hv,rfl,hd⟩:=CC st hs;obtain⟨_,b,o,len',cap',h1,h2,h3⟩:=st.env _ _ h;rw[hv] at h1;simp only[z6,Value.slice.injEq] at h1;obtain⟨rfl,rfl,rfl⟩:=h1;obtain⟨hilt,rfl⟩:=z8.1 hi
 rcases hd with ⟨h4,_⟩|⟨b',o',cs,e',fz,h4,hb,hc,hsz,hr⟩
 ·omega
 cases h4;obtain⟨F,hF⟩:=hr i hilt;obtain⟨F',h5,h6,h7⟩:=hF.loc hl
 have hlen:off+d.sz<=z:=by
  have:((cs.toList.drop (o+i*z)).take z).length<=z:=by simp;omega
  omega
 rw[XG _ _ _ _ _ hlen] at h5;have hF':=h5.pur hp;subst hF'
 have hbound:o+i*z+off+d.sz<=cs.size:=by
  have:(i+1)*z<=l.length*z:=w6 z hilt;rw[v7] at this;omega
 obtain⟨v,hv1,hv2⟩:=i6 (P:=P) (ty:=ty) hb h5 hbound hn hg;refine⟨v,w, ?_,st.put ht (D9 hp) hv2⟩;unfold execOp;simp[Instr.loadAt,Instr.sureAddr,Q3 h2,hv1]
theorem R.ldP{p t id off:Nat}{path:List Nat}{d0 d:D}{ty n rt:TypeId}[LdT P ty n gg]
 (h:σ.get p=some (.ptr id off path)) (hb:σ.box id=some (.var d0)) (hl:d0.loc path=some (off,d)) (hp:d.pur=true) (hn:d.sz=n) (hg:d.isAgg=gg) (ht:t<σ.n) :
 OpS P C ⟨some t,.load ty (.tmp p),rt,pos,aft,g⟩ σ (σ.set t d):=by
 refine OpS.value λa w ⟨ρ,Fe,Fb,st⟩=>?_;obtain⟨v,hv,hr⟩:=(c5 rfl).1 (st.env _ _ h);simp only[VR,D.isAgg,q7,q8] at hr;generalize Fe p=F at hr;cases hr;obtain⟨cs,e,F',hb',hr,_⟩:=st.bx _ _ hb;obtain⟨F2,h1,h2,h3⟩:=hr.loc hl;have hF':=h1.pur hp;subst hF';obtain⟨v,hv1,hv2⟩:=i6 (P:=P) (ty:=ty) hb' h1 (by simpa using h3) hn hg;refine⟨v,w, ?_,st.put ht (D9 hp) hv2⟩;unfold execOp;simp[Instr.loadAt,Instr.sureAddr,Q3 hv,hv1]
theorem R.ldO{p t id off z:Nat}{path:List Nat}{d0:D}{o:Option Nat}{l:List D}{ty rt:TypeId}[LdT P ty 1 false]
 (h:σ.get p=some (.ptr id off path)) (hb:σ.box id=some (.var d0)) (hl:d0.loc path=some (off,.sl o z l)) (ht:t<σ.n) :
 OpS P C ⟨some t,.load ty (.tmp p),rt,pos,aft,g⟩ σ (σ.set t (.alb id off path)):=by
 refine OpS.value λa w ⟨ρ,Fe,Fb,st⟩=>?_;obtain⟨v,hv,hr⟩:=(c5 rfl).1 (st.env _ _ h);simp only[VR,D.isAgg,q7,q8] at hr;generalize Fe p=F at hr;cases hr;obtain⟨cs,e,F',hb',hr,_⟩:=st.bx _ _ hb;obtain⟨F2,h1,h2,h3⟩:=hr.loc hl;obtain⟨v,hv1,hv2⟩:=i6 (P:=P) (ty:=ty) hb' h1 (by simpa using h3) rfl rfl;have hsz:=st.size
 have hc:w.cell? ⟨ρ id,off,none⟩=some v:=by
  simp only[D.sz] at h1 h3
  have hlt:off<cs.size:=by simp at h3;omega
  rw[cell_of_row w _ _ cs e (0,0) hb']
  have hv3:(loadVar ty ⟨ρ id,off,none⟩).run P w=.ok cs[off] w:=by
   simp[loadVar,LdT.agg (P:=P) (t:=ty),cell_of_row w _ _ cs e (0,0) hb',hlt]
  rw[hv3] at hv1;cases hv1;simp[hlt]
 refine⟨v,w, ?_,st.putRef ht ⟨rfl,by simp[hb],v,by rw[Y0 a t _ t (by omega)];simp,hc⟩⟩;unfold execOp;simp[Instr.loadAt,Instr.sureAddr,Q3 hv,hv1]
theorem R.ldR{x:Operand}{t:Nat}{d:D}{ty n rt:TypeId}[LdT P ty n gg]
 (h:ev C.gl σ x=some (.rp d)) (hp:d.pur=true) (hn:d.sz=n) (hg:d.isAgg=gg) (ht:t<σ.n) :
 OpS P C ⟨some t,.load ty x,rt,pos,aft,g⟩ σ (σ.set t d):=by
 refine OpS.value λa w ⟨ρ,Fe,Fb,st⟩=>?_;obtain⟨F,hv,_⟩:=H5 st h rfl;simp only[VR,D.isAgg,q7,q8] at hv;generalize he:a.eval x=v at hv
 cases hv with
 | rp _ b off cs e fz hb hG hs hr=>
  obtain⟨v,hv1,hv2⟩:=i6 (P:=P) (ty:=ty) hb hr hs hn hg;refine⟨v,w, ?_,st.put ht (D9 hp) hv2⟩;unfold execOp;simp[Instr.loadAt,Instr.sureAddr,he,hv1]
theorem YA{s f off:Nat}[h:FdT P s f off](w:World)(b o:Nat):(Instr.fieldAt s (.pointer (some ⟨b,o,none⟩)) f).run P w=.ok (.pointer (some ⟨b,o+off,none⟩)) w:=by
 obtain⟨fs,fld,i,h1,h2,rfl,h4,h5⟩:=h.i;simp[Instr.fieldAt,run_underlying h1,h2,Instr.sureAddr,fieldPlace,sizeOf,typeInfo,h4,h5,R6]
theorem R.fdP{x t id off off':Nat}{path:List Nat}{s f:Nat}{rt:TypeId}[FdT P s f off']
 (h:σ.get x=some (.ptr id off path)) (ht:t<σ.n):OpS P C ⟨some t,.fieldAddr s (.tmp x) f,rt,pos,aft,g⟩ σ (σ.set t (.ptr id (off+off') (path++[f]))):=by
 refine OpS.value λa w ⟨ρ,Fe,Fb,st⟩=>?_;obtain⟨v,hv,hr⟩:=(c5 rfl).1 (st.env _ _ h);simp only[VR,D.isAgg,q7,q8] at hr;generalize Fe x=F at hr
 cases hr with
 | ptr _ _ _ hL=>
 refine⟨.pointer (some ⟨ρ id,off+off',none⟩),w, ?_,st.put ht rfl ?_⟩
 ·unfold execOp;simp[Q3 hv,YA (P:=P) (s:=s) (f:=f)]
 ·simp only[VR,D.isAgg,q7,q8];exact .ptr _ _ _ hL
theorem R.fdE{x t s' z i off off':Nat}{path:List Nat}{s f:Nat}{rt:TypeId}[FdT P s f off']
 (h:σ.get x=some (.ep s' z i off path)) (ht:t<σ.n) (hst:s'≠t):OpS P C ⟨some t,.fieldAddr s (.tmp x) f,rt,pos,aft,g⟩ σ (σ.set t (.ep s' z i (off+off') (path++[f]))):=by
 refine OpS.value λa w ⟨ρ,Fe,Fb,st⟩=>?_;obtain⟨_,b,o,len,cap,h1,h2,h3⟩:=st.env _ _ h;have hsz:=st.size;refine⟨.pointer (some ⟨b,o+i*z+off+off',none⟩),w, ?_,st.putRef ht ⟨rfl,b,o,len,cap, ?_, ?_,h3⟩⟩
 ·unfold execOp;simp[Q3 h2,YA (P:=P) (s:=s) (f:=f)]
 ·rw[Y0 a t _ s' (by omega)];simp[hst,h1]
 ·rw[Y0 a t _ t (by omega)];simp[U7]
theorem R.fdR{x:Operand}{t:Nat}{l:List D}{d:D}{s f off':Nat}{rt:TypeId}[FdT P s f off']
 (h:ev C.gl σ x=some (.rp (.agg l))) (hf:l[f]? = some d) (ho:offk l f=off') (ht:t<σ.n):OpS P C ⟨some t,.fieldAddr s x f,rt,pos,aft,g⟩ σ (σ.set t (.rp d)):=by
 refine OpS.value λa w ⟨ρ,Fe,Fb,st⟩=>?_;obtain⟨F,hv,_⟩:=H5 st h rfl;simp only[VR,D.isAgg,q7,q8] at hv;generalize he:a.eval x=v at hv
 cases hv with
 | rp _ b off cs e fz hb hG hs hr=>
  obtain⟨hlt,rfl⟩:=z8.1 hf;have hlo:=T3 l f hlt;refine⟨.pointer (some ⟨b,off+off',none⟩),w, ?_,st.put ht rfl ?_⟩
  ·unfold execOp;simp[he,YA (P:=P) (s:=s) (f:=f)]
  ·simp only[VR,D.isAgg,q7,q8];simp only[JM] at hs;refine .rp _ b (off+off') cs e fz hb hG (by omega) ?_;generalize hFs:([]:List Nat)=F0 at hr
   cases hr with
   | agg _ _ Fs hs' hr'=>
    have h1:=hr' f hlt;rw[JM,XG _ _ _ _ _ (by omega),ho] at h1
    have hF:Fs f=[]:=by
     have:=(J0.1 hFs.symm) f (j7.2 hlt);exact this
    rw[hF] at h1;rw[<- hFs];exact h1
end
section
variable{pos:String}{aft:Array Edge}{g:Option (Nat×Bool)}
variable{P:Program}{C:Ctx}{σ σ':Sg}{a:Act}{w w':World}{ρ:Nat->Nat}{Fe Fb:Nat->List Nat}
def Sg.kill(σ:Sg)(s:Nat):Sg:={ σ with env:=(s,.dead)::σ.env }
theorem JE(σ:Sg)(s u:Nat):(σ.kill s).get u=if u=s then some .dead else σ.get u:=by
 simp only[Sg.get,Sg.kill,U2];by_cases h:u=s
 ·simp[h]
 ·simp[h,show ¬ s=u from λe=>h e.symm]
@[simp] theorem u92 (σ:Sg) (s id:Nat):(σ.kill s).box id=σ.box id:=rfl
@[simp] theorem v25 (σ:Sg) (s:Nat):(σ.kill s).n=σ.n:=rfl
theorem SR.there{G L:Nat->Prop}{t:Nat}{d:D}{F:List Nat}(h:SR w ρ G L a t d F):∃ v,a.tmps[t]? = some v:=by
 cases d with
 | al s=>obtain⟨_,x,h1,_⟩:=h;exact⟨x,h1⟩
 | alb id off path=>obtain⟨_,_,x,h1,h2⟩:=h;exact⟨x,h1⟩
 | vw s z lo n=>obtain⟨_,v0,v1,h1,h2,_⟩:=h;exact⟨_,h2⟩
 | va id off z n path lo=>obtain⟨_,_,cap,_,_,_,h1⟩:=h;exact⟨_,h1⟩
 | ep s z i off path=>obtain⟨_,b,o,len,cap,h1,h2,_⟩:=h;exact⟨_,h2⟩
 | tup ds=>obtain⟨vs,Fs,h1,_⟩:=h;exact⟨_,h1⟩
 | dead=>exact h.2
 | _=>obtain⟨x,hx,hr⟩:=h;exact⟨x,hx⟩
theorem StW.take{s t:Nat}{d d0:D}{v:Value}{F:List Nat}(h:StW C σ a w ρ Fe Fb)(ht:t<σ.n)(hst:s≠t)(hg0:σ.get s=some d0)
 (hos:w'.os=w.os) (htape:TpR w' w) (hout:w'.output=w.output) (hsize:w.heap.size<=w'.heap.size)
 (hblk:∀ b,b<w.heap.size->b∉Fe s->w'.heap[b]? = w.heap[b]?)
 (hF:F.Nodup) (hFs:∀ b∈F,b∈Fe s∨w.heap.size<=b)
 (hv:SR w' ρ (gd C (upd (upd Fe s []) t F) Fb) (λid=>(σ.box id).isSome) (a.put (some t) v) t d F) :
 StW C ((σ.kill s).set t d) (a.put (some t) v) w' ρ (upd (upd Fe s []) t F) Fb:=by
 have hsz:t<a.tmps.size:=by rw[h.size];exact ht
 have hlt:=h.lt;have hso:∀ b,b∈Fe s->own Fe Fb b:=λb hb=>.inl ⟨s,hb⟩
 have ho:∀ b,own (upd (upd Fe s []) t F) Fb b->own Fe Fb b∨w.heap.size<=b:=by
  rintro b (⟨u,hu⟩|hid)
  ·by_cases hut:u=t
   ·subst hut;simp at hu;exact(hFs b hu).imp (hso b) id
   ·rw[j2 hut] at hu;by_cases hus:u=s
    ·subst hus;simp at hu
    ·rw[j2 hus] at hu;exact .inl (.inl ⟨u,hu⟩)
  ·exact .inl (.inr hid)
 have hg:∀ b,gd C Fe Fb b->b<w.heap.size->gd C (upd (upd Fe s []) t F) Fb b:=λb hb hl=>⟨hb.1,λhc=>by
  rcases ho b hc with h1|h1
  ·exact hb.2 h1
  ·omega⟩
 have hh:∀ b,gd C Fe Fb b->b<w.heap.size->w'.heap[b]? = w.heap[b]?:=λb hb hl=>hblk b hl (λhm=>hb.2 (hso b hm))
 have hL:∀ id,(λid=>(σ.box id).isSome=true) id->(λid=>(((σ.kill s).set t d).box id).isSome=true) id/\ρ id=ρ id:=λid hid=>⟨hid,rfl⟩
 have hne:∀ u,u≠t->u≠s->upd (upd Fe s []) t F u=Fe u:=λu h1 h2=>by rw[j2 h1,j2 h2]
 have hc:∀ id off v,(σ.box id).isSome=true->w.cell? ⟨ρ id,off,none⟩=some v->w'.cell? ⟨ρ id,off,none⟩=some v:=by
  intro id off v hid hc;have hl:=block_lt_of_cell hc;rw[<- hc];refine World.cell?_of_block (hblk _ hl ?_);intro hm
  cases hb:σ.box id with
  | none=>simp[hb] at hid
  | some x=>exact h.dEB s id _ hm (h.bx id x hb).mem
 refine⟨?_,h.defs,h.pin, ?_, ?_, ?_,h.bxN, ?_,h.nodB, ?_, ?_,h.dBB, ?_, ?_,hos.trans h.os,htape.trans h.tape,hout.trans h.output,u9 h.grown hsize,h.gl,λb hb=>h.okN b (u9 hsize hb),λb hb=>(ho b hb).elim (h.okO b) (λh1=>h.okN b h1)⟩
 ·simp[Act.put,h.size]
 ·intro u x hx;rw[P8] at hx;by_cases hut:u=t
  ·subst hut;simp at hx;subst hx;simp only[c7];exact hv
  ·simp only[hut,q8] at hx;obtain⟨d1,hd1,rfl⟩:=p9.1 hx;rw[JE] at hd1;by_cases hus:u=s
   ·subst hus;simp at hd1;subst hd1;rw[j2 hut,c7];have hv0:∃ v0,a.tmps[u]? = some v0:=(h.env u d0 hg0).there;obtain⟨v0,hv0⟩:=hv0;exact⟨rfl,v0,by rw[Y0 a t v u hsz];simp[hut,hv0]⟩
   ·simp only[hus,q8] at hd1;rw[hne u hut hus]
    exact XQ hut hsz (h.env u d1 hd1) (λb hb hl=>by
     rcases hb with hb|hb
     ·exact hh b hb hl
     ·exact hblk b hl (λhm=>h.dEE u s hus b hb hm)) hg hL hc
 ·intro u hu;rw[P8] at hu;by_cases hut:u=t
  ·simp[hut] at hu
  ·simp only[hut,q8,n3] at hu;rw[JE] at hu;by_cases hus:u=s
   ·simp[hus] at hu
   ·simp only[hus,q8] at hu;rw[hne u hut hus];exact h.envN u hu
 ·intro id x hx;refine(h.bx id x hx).mono (λb hb hl=>?_) hg hL
  rcases hb with hb|hb
  ·exact hh b hb hl
  ·exact hblk b hl (λhm=>h.dEB s id b hm hb)
 ·intro u;by_cases hut:u=t
  ·subst hut;simpa using hF
  ·rw[j2 hut];by_cases hus:u=s
   ·subst hus;simp
   ·rw[j2 hus];exact h.nodE u
 ·intro u u' huu b hb hb'
  have key:∀ u,u≠t->b∈upd (upd Fe s []) t F u->b∈F->False:=by
   intro u hut hb hbF;rw[j2 hut] at hb;by_cases hus:u=s
   ·subst hus;simp at hb
   ·rw[j2 hus] at hb
    rcases hFs b hbF with h1|h1
    ·exact h.dEE u s hus b hb h1
    ·have:=hlt b (.inl ⟨u,hb⟩);omega
  by_cases hut:u=t
  ·subst hut;simp at hb;exact key u' (λe=>huu e.symm) hb' hb
  ·by_cases hut':u'=t
   ·subst hut';simp at hb';exact key u hut hb hb'
   ·rw[j2 hut] at hb;rw[j2 hut'] at hb';by_cases hus:u=s
    ·subst hus;simp at hb
    ·by_cases hus':u'=s
     ·subst hus';simp at hb'
     ·rw[j2 hus] at hb;rw[j2 hus'] at hb';exact h.dEE u u' huu b hb hb'
 ·intro u id b hb hb';by_cases hut:u=t
  ·subst hut;simp at hb
   rcases hFs b hb with h1|h1
   ·exact h.dEB s id b h1 hb'
   ·have:=hlt b (.inr ⟨id,hb'⟩);omega
  ·rw[j2 hut] at hb;by_cases hus:u=s
   ·subst hus;simp at hb
   ·rw[j2 hus] at hb;exact h.dEB u id b hb hb'
 ·intro b hb hk
  rcases ho b hb with h1|h1
  ·exact h.new b h1 hk
  ·have:=(h.kept b hk).2;have:=h.grown;omega
 ·intro b hk;have hkb:=h.kept b hk;exact⟨(hblk b (u0 hkb.2 h.grown) (λhm=>h.new b (hso b hm) hk)).trans hkb.1,hkb.2⟩
theorem R.al{s t z:Nat}{e:Nat}{l:List D}{ty:TypeId}
 (hx:σ.get s=some (.sl (some e) z l)) (ht:t<σ.n) (hst:s≠t):OpS P C ⟨some t,.move (.tmp s),ty,pos,aft,g⟩ σ (σ.set t (.al s)):=by
 refine OpS.value λa w ⟨ρ,Fe,Fb,st⟩=>?_;obtain⟨v,hv,hr⟩:=(c5 rfl).1 (st.env _ _ hx);have hsz:=st.size;refine⟨v,w, ?_,st.putRef ht ⟨rfl,v,by rw[Y0 a t _ t (by omega)];simp,by rw[Y0 a t _ s (by omega)];simp[hst,hv]⟩⟩;unfold execOp;simp[Q3 hv]
theorem R.asgO{s t:Nat}{d:D}{ty:TypeId}
 (hx:σ.get s=some d) (hd:d.isRef=false) (ht:t<σ.n) (hst:s≠t):OpS P C ⟨some t,.assign (.tmp s),ty,pos,aft,g⟩ σ ((σ.kill s).set t d):=by
 refine OpS.value λa w ⟨ρ,Fe,Fb,st⟩=>?_;obtain⟨v,hv,hr⟩:=(c5 hd).1 (st.env _ _ hx);have hsz:=st.size;refine⟨v,w, ?_,ρ,_,Fb,st.take (F:=Fe s) ht hst hx rfl ⟨rfl,z7 _⟩ rfl (z7 _) (λ_ _ _=>rfl) (st.nodE s) (λb hb=>.inl hb) ((c5 hd).2 ⟨v,by rw[Y0 a t _ t (by omega)];simp, ?_⟩)⟩
 ·unfold execOp;simp[Q3 hv]
 ·refine hr.mono (λ_ _ _=>rfl) (λb hb _=>⟨hb.1,λhc=>hb.2 ?_⟩) (λid hid=>⟨hid,rfl⟩)
  rcases hc with ⟨u,hu⟩|hid
  ·by_cases hut:u=t
   ·subst hut;simp at hu;exact .inl ⟨s,hu⟩
   ·rw[j2 hut] at hu;by_cases hus:u=s
    ·subst hus;simp at hu
    ·rw[j2 hus] at hu;exact .inl ⟨u,hu⟩
  ·exact .inr hid
theorem KK{s t:Nat}{d:D}{ty:TypeId}
 (hx:σ.get s=some d) (hd:d.isRef=false) (ht:t<σ.n) (hst:s≠t):OpS P C ⟨some t,.move (.tmp s),ty,pos,aft,g⟩ σ ((σ.kill s).set t d):=
 AY (R.asgO (P:=P) (ty:=ty) (pos:=pos) (aft:=aft) (g:=g) hx hd ht hst)
def u50(op:UnOp)(x:D):Option D:=
 match op,x with
 | .not,.bool b=>some (.bool !b)
 | .xor,.u8 a=>some (.u8 (~~~a))
 | .xor,.u16 a=>some (.u16 (~~~a))
 | .xor,.u32 a=>some (.u32 (~~~a))
 | .xor,.u64 a=>some (.u64 (~~~a))
 | .neg,.int a=>some (.int (wr (0-a)))
 | _,_=>none
theorem j91(x:UInt8):(255:UInt8)^^^x = ~~~x:=by
 apply UInt8.toBitVec_inj.1;show BitVec.ofNat 8 255^^^x.toBitVec = ~~~x.toBitVec;rw[show BitVec.ofNat 8 255=BitVec.allOnes 8 from by decide];exact I4
theorem z97(x:UInt16):(65535:UInt16)^^^x = ~~~x:=by
 apply UInt16.toBitVec_inj.1;show BitVec.ofNat 16 65535^^^x.toBitVec = ~~~x.toBitVec;rw[show BitVec.ofNat 16 65535=BitVec.allOnes 16 from by decide];exact I4
theorem z96(x:UInt32):(4294967295:UInt32)^^^x = ~~~x:=by
 apply UInt32.toBitVec_inj.1;show BitVec.ofNat 32 4294967295^^^x.toBitVec = ~~~x.toBitVec;rw[show BitVec.ofNat 32 4294967295=BitVec.allOnes 32 from by decide];exact I4
theorem z95(x:UInt64):(18446744073709551615:UInt64)^^^x = ~~~x:=by
 apply UInt64.toBitVec_inj.1;show BitVec.ofNat 64 18446744073709551615^^^x.toBitVec = ~~~x.toBitVec;rw[show BitVec.ofNat 64 18446744073709551615=BitVec.allOnes 64 from by decide];exact I4
theorem x04{op:UnOp}{x d:D}{v:Value}{G L:Nat->Prop}{F:List Nat}(h:u50 op x=some d)(hx:Rc w ρ G L true x [v] F) :
 (∃ u,(Op.unary op v).run P w=.ok u w/\(∀ ρ G L,Rc w ρ G L true d [u] []))/\d.isAgg=false/\d.isRef=false/\x.isAgg=false/\x.isRef=false:=by
 unfold u50 at h;split at h
 case h_7=>cases h
 all_goals
  cases h;cases hx;refine⟨?_,rfl,rfl,rfl,rfl⟩
 ·exact⟨_,rfl,λ_ _ _=>.bool _⟩
 ·rename_i x;refine⟨.int .u8 (~~~x).toNat, ?_,λ_ _ _=>.u8 _⟩;have hr:=k24 P w .xor 0 (255:UInt8) x rfl trivial;rw[WP,j91] at hr;exact hr
 ·rename_i x;refine⟨.int .u16 (~~~x).toNat, ?_,λ_ _ _=>.u16 _⟩;have hr:=q57 P w .xor 0 (65535:UInt16) x rfl trivial;rw[IC,z97] at hr;exact hr
 ·rename_i x;refine⟨.int .u32 (~~~x).toNat, ?_,λ_ _ _=>.u32 _⟩;have hr:=q56 P w .xor 0 (4294967295:UInt32) x rfl trivial;rw[ID,z96] at hr;exact hr
 ·rename_i x;refine⟨.int .u64 (~~~x).toNat, ?_,λ_ _ _=>.u64 _⟩;have hr:=q55 P w .xor 0 (18446744073709551615:UInt64) x rfl trivial;rw[IH,z95] at hr;exact hr
 ·exact⟨_,rfl,λ_ _ _=>.int _⟩
theorem R.un{op:UnOp}{xt ty:TypeId}{x:Operand}{t:Nat}{dx d:D}
 (hx:ev C.gl σ x=some dx) (ha:u50 op dx=some d) (ht:t<σ.n):OpS P C ⟨some t,.unOp op xt x,ty,pos,aft,g⟩ σ (σ.set t d):=by
 refine OpS.value λa w ⟨ρ,Fe,Fb,st⟩=>?_
 have hdx:dx.isAgg=false/\dx.isRef=false:=by
  unfold u50 at ha;split at ha
  case h_7=>cases ha
  all_goals exact⟨rfl,rfl⟩
 obtain⟨Fx,vx,_⟩:=H5 st hx hdx.2;simp only[VR,hdx.1,q7,q8] at vx;obtain⟨⟨v,hv,hrc⟩,h1,h2,_⟩:=x04 (P:=P) ha vx;refine⟨v,w, ?_,st.put ht h2 ?_⟩
 ·unfold execOp;simp only[Sem.run_bind,hv,Result.andThen_ok,Sem.run_pure]
 ·simp only[VR,h1,q7,q8];exact hrc _ _ _
def FI(k:IntKind)(x:D):Option D:=
 match k,x with
 | .i64,.int a=>some (.int (wr a))
 | .i64,.u8 a=>some (.int a.toNat)
 | .i64,.u16 a=>some (.int a.toNat)
 | .i64,.u32 a=>some (.int a.toNat)
 | .i64,.u64 a=>some (.int (wr a.toNat))
 | .i64,.ik _ n=>some (.int (wr n))
 | .u8,.int a=>some (.u8 (UInt8.ofInt a))
 | .u8,.u8 a=>some (.u8 a)
 | .u8,.u16 a=>some (.u8 a.toUInt8)
 | .u8,.u32 a=>some (.u8 a.toUInt8)
 | .u8,.u64 a=>some (.u8 a.toUInt8)
 | .u16,.int a=>some (.u16 (UInt16.ofInt a))
 | .u16,.u8 a=>some (.u16 a.toUInt16)
 | .u16,.u16 a=>some (.u16 a)
 | .u32,.int a=>some (.u32 (UInt32.ofInt a))
 | .u32,.u8 a=>some (.u32 a.toUInt32)
 | .u32,.u16 a=>some (.u32 a.toUInt32)
 | .u32,.u32 a=>some (.u32 a)
 | .u32,.u64 a=>some (.u32 a.toUInt32)
 | .u64,.int a=>some (.u64 (UInt64.ofInt a))
 | .u64,.u8 a=>some (.u64 a.toUInt64)
 | .u64,.u16 a=>some (.u64 a.toUInt64)
 | .u64,.u32 a=>some (.u64 a.toUInt64)
 | .u64,.u64 a=>some (.u64 a)
 | _,_=>none
theorem k58(a:Int):((UInt8.ofInt a).toNat:Int)=a%256:=by
 have:(UInt8.ofInt a).toNat=(a%256).toNat:=by simp[UInt8.ofInt];omega
 rw[this];omega
theorem z44(a:Int):((UInt16.ofInt a).toNat:Int)=a%65536:=by
 have:(UInt16.ofInt a).toNat=(a%65536).toNat:=by simp[UInt16.ofInt];omega
 rw[this];omega
theorem z43(a:Int):((UInt32.ofInt a).toNat:Int)=a%4294967296:=by
 have:(UInt32.ofInt a).toNat=(a%4294967296).toNat:=by simp[UInt32.ofInt];omega
 rw[this];omega
theorem z42(a:Int):((UInt64.ofInt a).toNat:Int)=a%18446744073709551616:=by
 have:(UInt64.ofInt a).toNat=(a%18446744073709551616).toNat:=by simp[UInt64.ofInt];omega
 rw[this];omega
theorem j43{k:IntKind}{x d:D}{v:Value}{G L:Nat->Prop}{F:List Nat}(h:FI k x=some d)(hx:Rc w ρ G L true x [v] F) :
 (∃ j n,v=.int j n/\∀ ρ G L,Rc w ρ G L true d [.int k (k.wrap n)] [])/\d.isAgg=false/\d.isRef=false/\x.isAgg=false/\x.isRef=false:=by
 unfold FI at h;split at h
 case h_25=>cases h
 all_goals
  cases h;cases hx;refine⟨⟨_,_,rfl,λρ G L=>?_⟩,rfl,rfl,rfl,rfl⟩
 ·exact .int _
 ·rename_i a;have:=a.toNat_lt;rw[show IntKind.i64.wrap (a.toNat:Int)=a.toNat from IntWalk.i64_in _ (by omega)];exact .int _
 ·rename_i a;have:=a.toNat_lt;rw[show IntKind.i64.wrap (a.toNat:Int)=a.toNat from IntWalk.i64_in _ (by omega)];exact .int _
 ·rename_i a;have:=a.toNat_lt;rw[show IntKind.i64.wrap (a.toNat:Int)=a.toNat from IntWalk.i64_in _ (by omega)];exact .int _
 ·exact .int _
 ·exact .int _
 ·rw[UB,<- k58];exact .u8 _
 ·rename_i a;have:=a.toNat_lt;rw[UB,U6 (by omega) (by omega)];exact .u8 _
 ·rename_i a;rw[UB,show((a.toNat:Int)%256)=(a.toUInt8.toNat:Int) from by simp];exact .u8 _
 ·rename_i a;rw[UB,show((a.toNat:Int)%256)=(a.toUInt8.toNat:Int) from by simp];exact .u8 _
 ·rename_i a;rw[UB,show((a.toNat:Int)%256)=(a.toUInt8.toNat:Int) from by simp];exact .u8 _
 ·rw[YH,<- z44];exact .u16 _
 ·rename_i a;have:=a.toNat_lt;rw[YH,U6 (by omega) (by omega),show((a.toNat:Int))=(a.toUInt16.toNat:Int) from by simp];exact .u16 _
 ·rename_i a;have:=a.toNat_lt;rw[YH,U6 (by omega) (by omega)];exact .u16 _
 ·rw[JB,<- z43];exact .u32 _
 ·rename_i a;have:=a.toNat_lt;rw[JB,U6 (by omega) (by omega),show((a.toNat:Int))=(a.toUInt32.toNat:Int) from by simp];exact .u32 _
 ·rename_i a;have:=a.toNat_lt;rw[JB,U6 (by omega) (by omega),show((a.toNat:Int))=(a.toUInt32.toNat:Int) from by simp];exact .u32 _
 ·rename_i a;have:=a.toNat_lt;rw[JB,U6 (by omega) (by omega)];exact .u32 _
 ·rename_i a;rw[JB,show((a.toNat:Int)%4294967296)=(a.toUInt32.toNat:Int) from by simp];exact .u32 _
 ·rw[JC,<- z42];exact .u64 _
 ·rename_i a;have:=a.toNat_lt;rw[JC,U6 (by omega) (by omega),show((a.toNat:Int))=(a.toUInt64.toNat:Int) from by simp];exact .u64 _
 ·rename_i a;have:=a.toNat_lt;rw[JC,U6 (by omega) (by omega),show((a.toNat:Int))=(a.toUInt64.toNat:Int) from by simp];exact .u64 _
 ·rename_i a;have:=a.toNat_lt;rw[JC,U6 (by omega) (by omega),show((a.toNat:Int))=(a.toUInt64.toNat:Int) from by simp];exact .u64 _
 ·rename_i a;have:=a.toNat_lt;rw[JC,U6 (by omega) (by omega)];exact .u64 _
class IkT(P:Program)(t:TypeId)(k:outParam IntKind):Prop where
 u:P.underlying t=some (.int k)
theorem R.conv{src dst ty:TypeId}{k k0:IntKind}{x:Operand}{t:Nat}{dx d:D}[h0:IkT P src k0][hT:IkT P dst k]
 (hx:ev C.gl σ x=some dx) (ha:FI k dx=some d) (ht:t<σ.n):OpS P C ⟨some t,.convert src dst x,ty,pos,aft,g⟩ σ (σ.set t d):=by
 refine OpS.value λa w ⟨ρ,Fe,Fb,st⟩=>?_
 have hdx:dx.isAgg=false/\dx.isRef=false:=by
  unfold FI at ha;split at ha
  case h_25=>cases ha
  all_goals exact⟨rfl,rfl⟩
 obtain⟨Fx,vx,_⟩:=H5 st hx hdx.2;simp only[VR,hdx.1,q7,q8] at vx;obtain⟨⟨j,n,hv,hrc⟩,h1,h2,_⟩:=j43 ha vx;refine⟨.int k (k.wrap n),w, ?_,st.put ht h2 ?_⟩
 ·unfold execOp;simp[convert,run_underlying h0.u,run_underlying hT.u,hv,Conv.intToInt]
 ·simp only[VR,h1,q7,q8];exact hrc _ _ _
end
section
def D.upd:D->List Nat->D->Option D
 | _,[],x=>some x
 | .agg l,k::p,x=>match l[k]? with
  | some d=>match D.upd d p x with
   | some d'=>some (.agg (l.set k d'))
   | none=>none
  | none=>none
 | .arr n z l,k::p,x=>match l[k]? with
  | some d=>match D.upd d p x with
   | some d'=>some (.arr n z (l.set k d'))
   | none=>none
  | none=>none
 | _,_::_,_=>none
def D.noArr:D->List Nat->Bool
 | _,[]=>true
 | .agg l,k::p=>match l[k]? with
  | some d=>D.noArr d p
  | none=>false
 | _,_::_=>false
mutual
def D.np:D->Bool
 | .ptr _ _ _=>false
 | .bs _ _ _ _=>false
 | .map _=>false
 | .agg l=>IU l
 | .fn _ l=>IU l
 | .ifc _ d=>D.np d
 | _=>true
def IU:List D->Bool
 | []=>true
 | d::r=>D.np d&&IU r
end
theorem LJ(l:List D)(h:IU l=true):∀ k (hk:k<l.length),l[k].np=true:=by
 induction l with
 | nil=>intro k hk;simp at hk
 | cons d r ih=>
  simp only[IU,u6] at h;intro k hk
  cases k with
  | zero=>exact h.1
  | succ k=>simpa using ih h.2 k (by simpa using hk)
variable{P:Program}{C:Ctx}{σ σ':Sg}{a:Act}{w w':World}{ρ:Nat->Nat}{Fe Fb:Nat->List Nat}
theorem Rc.unflag{G L:Nat->Prop}{p:Bool}{d:D}{cs:List Value}{F:List Nat}(h:Rc w ρ G L p d cs F)(hd:d.np=true):Rc w ρ G L false d cs F:=by
 induction h with
 | bool b=>exact .bool b
 | int n=>exact .int n
 | u8 x=>exact .u8 x
 | u16 x=>exact .u16 x
 | u32 x=>exact .u32 x
 | u64 x=>exact .u64 x
 | ik k n=>exact .ik k n
 | str s=>exact .str s
 | nils=>exact .nils
 | slN o z=>exact .slN o z
 | slE o z a=>exact .slE o z a
 | slI b off cs e fz cap z l hb hG hc hs hr ih=>exact .slI b off cs e fz cap z l hb hG hc hs hr
 | slO b cs e cap z l Fs hb hc hm hs ho1 hr ih=>exact .slO b cs e cap z l Fs hb hc hm hs ho1 hr
 | agg l cs Fs hs hr ih=>exact .agg l cs Fs hs (λk hk=>ih k hk (LJ l (by simpa [D.np] using hd) k hk))
 | arr n z l cs hl hs hr ih=>exact .arr n z l cs hl hs hr
 | ptr id off path hid=>simp[D.np] at hd
 | bs id z n cap hid hcap=>simp[D.np] at hd
 | nilp=>exact .nilp
 | adr b=>exact .adr b
 | rp d b off cs e fz hb hG hs hr ih=>exact .rp d b off cs e fz hb hG hs hr
 | map id hid=>simp[D.np] at hd
 | nilmap=>exact .nilmap
 | fn f caps vs hl ha hr ih=>exact .fn f caps vs hl ha (λk hk=>ih k hk (LJ caps (by simpa [D.np] using hd) k hk))
 | nilf=>exact .nilf
 | yld l=>exact .yld l
 | ifc t d v ha hr ih=>exact .ifc t d v ha (ih (by simpa [D.np] using hd))
 | nili=>exact .nili
 | dead v h=>exact .dead v h
theorem z63(l:List D)(j:Nat)(h:j<N6 l):∃ k,∃ hk:k<l.length,offk l k<=j/\j<offk l k+l[k].sz:=by
 induction l generalizing j with
 | nil=>simp at h
 | cons d r ih=>
  by_cases hd:j<d.sz
  ·exact⟨0,by simp,by simp[offk],by simpa [offk] using hd⟩
  ·simp only[S1] at h;obtain⟨k,hk,h1,h2⟩:=ih (j-d.sz) (by omega);refine⟨k+1,by simp;omega, ?_, ?_⟩
   ·simp only[offk,Z9,S1] at h1 ⊢;omega
   ·simp only[offk,Z9,S1,J6] at h1 h2 ⊢;omega
theorem Rc.one{G L:Nat->Prop}{p:Bool}{d:D}{cs:List Value}{F:List Nat}(h:Rc w ρ G L p d cs F):∀ u∈cs,u.oneCell'=true:=by
 induction h with
 | agg l cs Fs hs hr ih=>
  intro u hu;obtain⟨j,hj,rfl⟩:=Q2.1 hu;obtain⟨k,hk,h1,h2⟩:=z63 l j (by omega);refine ih k hk _ (Q2.2 ⟨j-offk l k, ?_, ?_⟩)
  ·have:=(hr k hk).len;omega
  ·simp only[Q7,H9]
   congr 1;omega
 | arr n z l cs hl hs hr ih=>
  intro u hu;obtain⟨j,hj,rfl⟩:=Q2.1 hu
  have hz:0<z:=by
   rcases I2 z with h0|h0
   ·subst h0;rw[Nat.mul_zero] at hs;omega
   ·exact h0
  have hk:j/z<l.length:=by rw[hl];exact S7 (by rw[L4,<- hs];exact hj)
  have hlen:((cs.drop (j/z*z)).take z).length=z:=by
   simp only[v5,v8,hs];have h1:(j/z+1)*z<=n*z:=w6 z (by omega);rw[v7] at h1;omega
  have h1:=Nat.div_add_mod j z;have h2:=R1 j hz;have h3:z*(j/z)=j/z*z:=L4 _ _;refine ih (j/z) hk _ (Q2.2 ⟨j%z,by omega, ?_⟩);simp only[Q7,H9]
  congr 1;omega
 | dead v h=>intro u hu;simp at hu;subst hu;exact h
 | _=>intro u hu;simp at hu;subst hu;rfl
theorem YL(l:List D)(k j:Nat)(x:D)(hk:k<l.length)(hz:x.sz=l[k].sz):offk (l.set k x) j=offk l j:=by
 unfold offk
 induction l generalizing k j with
 | nil=>simp at hk
 | cons d r ih=>
  cases j with
  | zero=>simp
  | succ j=>
   cases k with
   | zero=>simp at hz;simp[hz]
   | succ k=>
    simp only[List.set_cons_succ,Z9,S1];rw[ih k j (by simpa using hk) (by simpa using hz)]
theorem UP(l:List D)(k:Nat)(x:D)(hk:k<l.length)(hz:x.sz=l[k].sz):N6 (l.set k x)=N6 l:=by
 have h1:=YL l k l.length x hk hz;unfold offk at h1;rw[J9,m4 (by simp)] at h1;exact h1
theorem l7{n:Nat}{Fs:Nat->List Nat}(h:((List.range n).flatMap Fs).Nodup):(∀ k,k<n->(Fs k).Nodup)/\∀ j k,j<n->k<n->j≠k->∀ b,b∈Fs j->b∉Fs k:=by
 induction n with
 | zero=>exact⟨by simp,by simp⟩
 | succ n ih=>
  rw[N5,List.flatMap_append,List.flatMap_cons,List.flatMap_nil,m6,List.nodup_append] at h;obtain⟨h1,h2,h3⟩:=h;obtain⟨i1,i2⟩:=ih h1;refine⟨λk hk=>?_,λj k hj hk hjk b hb hb'=>?_⟩
  ·by_cases hkn:k=n
   ·subst hkn;exact h2
   ·exact i1 k (by omega)
  ·by_cases hkn:k=n
   ·subst hkn;exact h3 b (w8.2 ⟨j,j7.2 (by omega),hb⟩) b hb' rfl
   ·by_cases hjn:j=n
    ·subst hjn;exact h3 b (w8.2 ⟨k,j7.2 (by omega),hb'⟩) b hb rfl
    ·exact i2 j k (by omega) (by omega) hjk b hb hb'
theorem N7{n:Nat}{Fs:Nat->List Nat}(h1:∀ k,k<n->(Fs k).Nodup)(h2:∀ j k,j<n->k<n->j≠k->∀ b,b∈Fs j->b∉Fs k):((List.range n).flatMap Fs).Nodup:=by
 induction n with
 | zero=>simp
 | succ n ih=>
  rw[N5,List.flatMap_append,List.flatMap_cons,List.flatMap_nil,m6,List.nodup_append];refine⟨ih (λk hk=>h1 k (by omega)) (λj k hj hk=>h2 j k (by omega) (by omega)),h1 n (by omega), ?_⟩;intro b hb b' hb' e;subst e;obtain⟨j,hj,hm⟩:=w8.1 hb;have:=j7.1 hj;exact h2 j n (by omega) (by omega) (by omega) b hm hb'
theorem T1(cs xs:List Value)(o:Nat)(h:o+xs.length<=cs.length):(cs.take o++xs++cs.drop (o+xs.length)).length=cs.length:=by
 simp;omega
theorem l3(cs xs:List Value)(o a n:Nat)(h:o+xs.length<=cs.length)(hd:a+n<=o∨o+xs.length<=a) :
 ((cs.take o++xs++cs.drop (o+xs.length)).drop a).take n=(cs.drop a).take n:=by
 apply Z6;intro j;simp only[d9,n4];split
 ·rcases hd with hd|hd
  ·rw[u5,J3 (by simp;omega),d9,u4 (by omega)]
  ·rw[X1 (by simp;omega),n4]
   congr 1
   simp;omega
 ·rfl
theorem GP(cs xs:List Value)(o a n:Nat)(h:a+o+xs.length<=a+n)(hl:a+n<=cs.length) :
 ((cs.take (a+o)++xs++cs.drop (a+o+xs.length)).drop a).take n=((cs.drop a).take n).take o++xs++((cs.drop a).take n).drop (o+xs.length):=by
 apply Z6;intro j;simp only[d9,n4,u5];by_cases h1:j<o
 ·rw[u4 (by omega),J3 (by simp;omega),J3 (by simp;omega)];simp only[d9,n4];rw[u4 (by omega),u4 h1,u4 (by omega)]
 ·rw[X1 (l₁:=((cs.drop a).take n).take o) (by simp;omega)];by_cases h2:j<o+xs.length
  ·rw[u4 (by omega),X1 (by simp;omega),J3 (by simp;omega),J3 (by simp;omega)]
   congr 1
   simp;omega
  ·rw[X1 (l₁:=xs) (by simp;omega)];simp only[n4,d9,v5,v8];by_cases h3:j<n
   ·rw[u4 h3,X1 (by simp;omega),X1 (by simp;omega)];rw[u4 (by omega),n4]
    congr 1
    simp;omega
   ·rw[w3 h3,w3 (by omega)]
theorem Rc.upd{G L:Nat->Prop}{p:Bool}{d d1 d' x:D}{cs xs:List Value}{F Fx:List Nat}(h:Rc w ρ G L p d cs F){path:List Nat}{off:Nat}
 (hl:d.loc path=some (off,d1)) (hu:d.upd path x=some d') (hz:x.sz=d1.sz) (hx:Rc w ρ G L false x xs Fx) (hF:F.Nodup) (hFx:Fx.Nodup) (hdis:∀ b∈Fx,b∉F)
 (harr:Fx=[]∨d.noArr path=true) :
 ∃ F',Rc w ρ G L p d' (cs.take off++xs++cs.drop (off+xs.length)) F'/\(∀ b∈F',b∈F∨b∈Fx)/\F'.Nodup/\d'.sz=d.sz/\d'.isAgg=(if path=[] then x.isAgg else d.isAgg):=by
 induction path generalizing d cs F p off d1 d' with
 | nil=>
  simp only[D.loc,z6,b8] at hl;simp only[D.upd,z6] at hu;obtain⟨rfl,rfl⟩:=hl;subst hu;have h1:=h.len;have h2:=hx.len
  have e:cs.take 0++xs++cs.drop (0+xs.length)=xs:=by simp;omega
  rw[e];refine⟨Fx, ?_,λ_ h=>.inr h,hFx,hz,by simp⟩
  cases p with
  | true=>exact hx.flag
  | false=>exact hx
 | cons k path ih=>
  cases h with
  | agg l cs Fs hs hr=>
   simp only[D.loc] at hl;simp only[D.upd] at hu
   cases hk:l[k]? with
   | none=>simp[hk] at hl
   | some d2=>
    obtain⟨hklt,rfl⟩:=z8.1 hk;simp only[hk] at hl hu
    cases hd:D.loc l[k] path with
    | none=>simp[hd] at hl
    | some od=>
     obtain⟨o,d3⟩:=od;simp only[hd,z6,b8] at hl;obtain⟨rfl,rfl⟩:=hl
     cases hud:D.upd l[k] path x with
     | none=>simp[hud] at hu
     | some d4=>
      simp only[hud,z6] at hu;subst hu;obtain⟨hn1,hn2⟩:=l7 hF;have hkm:∀ b∈Fs k,b∈(List.range l.length).flatMap Fs:=λb hb=>w8.2 ⟨k,j7.2 hklt,hb⟩
      obtain⟨F',h1,h2,h3,h4,h5⟩:=ih (hr k hklt) hd hud hz (hn1 k hklt) (λb hb hb'=>hdis b hb (hkm b hb')) (by
       rcases harr with h0|h0
       ·exact .inl h0
       ·simp only[D.noArr,hk] at h0;exact .inr h0)
      obtain⟨_,_,_,hl3⟩:=(hr k hklt).loc hd;have hlen:=(hr k hklt).len;have hxl:=hx.len;have hlo:=T3 l k hklt
      have hxo:o+xs.length<=l[k].sz:=by omega
      refine⟨(List.range (l.set k d4).length).flatMap (λj=>if j=k then F' else Fs j), ?_, ?_, ?_, ?_, ?_⟩
      ·refine .agg (l.set k d4) _ _ ?_ (λj hj=>?_)
       ·rw[T1 _ _ _ (by omega),hs,UP l k d4 hklt h4]
       ·have hj':j<l.length:=by simpa using hj
        rw[YL l k j d4 hklt h4];by_cases hjk:j=k
        ·subst hjk;simp only[D7,j9,h4];rw[GP _ _ _ _ _ (by omega) (by omega)];exact h1
        ·have hjj:(l.set k d4)[j]=l[j]:=by rw[B1 (λe=>hjk e.symm)]
         simp only[hjj,hjk,q8];rw[l3 _ _ _ _ _ (by omega) ?_]
         ·exact hr j hj'
         ·have h6:=T3 l j hj'
          rcases I1 hjk with hlt|hlt
          ·left
           have:offk l j+l[j].sz<=offk l k:=by
            have:=T3 (l.take k) j (by simp;omega);simp only[Q7] at this;unfold offk at this ⊢;rw[X6,n6 (by omega)] at this;exact this
           omega
          ·right
           have:offk l k+l[k].sz<=offk l j:=by
            have:=T3 (l.take j) k (by simp;omega);simp only[Q7] at this;unfold offk at this ⊢;rw[X6,n6 (by omega)] at this;exact this
           omega
      ·intro b hb;obtain⟨j,hj,hm⟩:=w8.1 hb
       have hj':j<l.length:=by simpa using j7.1 hj
       by_cases hjk:j=k
       ·subst hjk;simp at hm;exact(h2 b hm).imp (hkm b) id
       ·simp only[hjk,q8] at hm;exact .inl (w8.2 ⟨j,j7.2 hj',hm⟩)
      ·refine N7 (λj hj=>?_) (λi j hi hj hij b hb hb'=>?_)
       ·have hj':j<l.length:=by simpa using hj
        by_cases hjk:j=k
        ·simp[hjk,h3]
        ·simp only[hjk,q8];exact hn1 j hj'
       ·have hi':i<l.length:=by simpa using hi
        have hj':j<l.length:=by simpa using hj
        have key:∀ m,m<l.length->m≠k->b∈Fs m->b∈F'->False:=λm hm hmk h6 h7=>by
         rcases h2 b h7 with h8|h8
         ·exact hn2 m k hm hklt hmk b h6 h8
         ·exact hdis b h8 (w8.2 ⟨m,j7.2 hm,h6⟩)
        by_cases hik:i=k
        ·subst hik;simp only[j9] at hb;simp only[show ¬ j=i from λe=>hij e.symm,q8] at hb';exact key j hj' (λe=>hij e.symm) hb' hb
        ·simp only[hik,q8] at hb;by_cases hjk:j=k
         ·simp only[hjk,j9] at hb';exact key i hi' hik hb hb'
         ·simp only[hjk,q8] at hb';exact hn2 i j hi' hj' hij b hb hb'
      ·simp only[JM];exact UP l k d4 hklt h4
      ·simp[D.isAgg]
  | arr n z l cs hn hs hr=>
   simp only[D.loc] at hl;simp only[D.upd] at hu
   cases hk:l[k]? with
   | none=>simp[hk] at hl
   | some d2=>
    obtain⟨hklt,rfl⟩:=z8.1 hk;simp only[hk] at hl hu
    cases hd:D.loc l[k] path with
    | none=>simp[hd] at hl
    | some od=>
     obtain⟨o,d3⟩:=od;simp only[hd,z6,b8] at hl;obtain⟨rfl,rfl⟩:=hl
     cases hud:D.upd l[k] path x with
     | none=>simp[hud] at hu
     | some d4=>
      simp only[hud,z6] at hu;subst hu
      have hFx0:Fx=[]:=by
       rcases harr with h0|h0
       ·exact h0
       ·simp[D.noArr] at h0
      subst hFx0;obtain⟨F',h1,h2,h3,h4,h5⟩:=ih (hr k hklt) hd hud hz w9 (by simp) (.inl rfl)
      have hF':F'=[]:=by
       cases F' with
       | nil=>rfl
       | cons b r=>have:=h2 b (by simp);simp at this
      subst hF';obtain⟨_,_,_,hl3⟩:=(hr k hklt).loc hd
      have hlen:((cs.drop (k*z)).take z).length<=z:=by simp;omega
      have hxl:=hx.len
      have hkz:k*z+z<=n*z:=by
       have:=w6 z (show k+1<=n by omega);rw[v7] at this;omega
      have hxo:o+xs.length<=z:=by omega
      refine⟨[], ?_,by simp,w9,by simp,by simp[D.isAgg]⟩;refine .arr n z (l.set k d4) _ (by simpa using hn) (by rw[T1 _ _ _ (by omega),hs]) (λj hj=>?_)
      have hj':j<l.length:=by simpa using hj
      by_cases hjk:j=k
      ·subst hjk;simp only[D7];rw[GP _ _ _ _ _ (by omega) (by omega)];exact h1
      ·have hjj:(l.set k d4)[j]=l[j]:=by rw[B1 (λe=>hjk e.symm)]
       simp only[hjj];rw[l3 _ _ _ _ _ (by omega) ?_]
       ·exact hr j hj'
       ·rcases I1 hjk with hlt|hlt
        ·left;have:(j+1)*z<=k*z:=w6 z hlt;rw[v7] at this;omega
        ·right;have:(k+1)*z<=j*z:=w6 z hlt;rw[v7] at this;omega
  | _=>simp[D.loc] at hl
end
section
variable{pos:String}{aft:Array Edge}{g:Option (Nat×Bool)}
variable{P:Program}{C:Ctx}{σ σ' σ1:Sg}{a:Act}{w w':World}{ρ:Nat->Nat}{Fe Fe' Fb:Nat->List Nat}
theorem j80{G L:Nat->Prop}{u id:Nat}{d:D}{F:List Nat}(h:SR w ρ G L a u d F)
 (hh:∀ b,(G b∨b∈F)->b<w.heap.size->w'.heap[b]? = w.heap[b]?) (hg:∀ b,G b->b<w.heap.size->G' b) (hL:∀ i,L i->L' i)
 (hc:∀ i off v,i≠id->L i->w.cell? ⟨ρ i,off,none⟩=some v->w'.cell? ⟨ρ i,off,none⟩=some v) :
 SR w' ρ G' L' a u (ZQ id d) F:=by
 have hL2:∀ i,L i->L' i/\ρ i=ρ i:=λi hi=>⟨hL i hi,rfl⟩
 cases d with
 | al s=>exact h
 | alb i off path=>
  obtain⟨hF,hid,x,hx,hs⟩:=h;simp only[ZQ];by_cases hi:i=id
  ·subst hi;simp only[Z8,m9];exact⟨hF,x,hx⟩
  ·simp only[nbeq hi,d7];exact⟨hF,hL i hid,x,hx,hc i off x hi hid hs⟩
 | vw s z lo n=>exact h
 | va i off z n path lo=>exact⟨h.1,hL i h.2.1,h.2.2⟩
 | ep s z i off path=>exact h
 | tup ds=>
  obtain⟨vs,Fs,h1,h2,h3,h4⟩:=h;refine⟨vs,Fs,h1,h2,h3,λk hk=>(h4 k hk).imp (λhx=>hx) λhx=>⟨hx.1,hx.2.mono (λb hb=>hh b (hb.imp (λhx=>hx) λhm=>?_)) hg hL2⟩⟩;rw[h3];exact w8.2 ⟨k,j7.2 hk,hm⟩
 | dead=>exact h
 | _=>obtain⟨x,hx,hr⟩:=h;exact⟨x,hx,hr.mono hh hg hL2⟩
theorem StW.putB{id:Nat}{x:Bx}{y:Bx}{F':List Nat}(h:StW C σ a w ρ Fe Fb)(hbox:σ.box id=some y)
 (hn:σ1.n=σ.n) (hbx:σ1.bx=σ.bx)
 (hgets:∀ u d,σ1.get u=some d->(σ.get u=some d/\Fe' u=Fe u)∨(d=.dead/\Fe' u=[]/\∃ v,a.tmps[u]? = some v))
 (hnone:∀ u,σ1.get u=none->Fe' u=[]) (hFe:∀ u,Fe' u=Fe u∨Fe' u=[])
 (hos:w'.os=w.os) (htape:TpR w' w) (hout:w'.output=w.output) (hsize:w'.heap.size=w.heap.size)
 (hblk:∀ b,b≠ρ id->w'.heap[b]? = w.heap[b]?)
 (hF':F'.Nodup) (hin:ρ id∈F') (hsub:∀ b∈F',b∈Fb id∨∃ s,b∈Fe s/\Fe' s=[])
 (hx:BR w' ρ (gd C Fe' (upd Fb id F')) (λi=>(σ.box i).isSome) (ρ id) x F') :
 StW C (σ1.putB id x) a w' ρ Fe' (upd Fb id F'):=by
 have hmem:ρ id∈Fb id:=(h.bx id y hbox).mem
 have ho:∀ b,own Fe' (upd Fb id F') b->own Fe Fb b:=by
  rintro b (⟨u,hu⟩|⟨i,hi⟩)
  ·rcases hFe u with h1|h1
   ·rw[h1] at hu;exact .inl ⟨u,hu⟩
   ·rw[h1] at hu;cases hu
  ·by_cases hid:i=id
   ·subst hid;rw[c7] at hi
    rcases hsub b hi with h1|⟨s,h1,_⟩
    ·exact .inr ⟨i,h1⟩
    ·exact .inl ⟨s,h1⟩
   ·rw[j2 hid] at hi;exact .inr ⟨i,hi⟩
 have hg:∀ b,gd C Fe Fb b->b<w.heap.size->gd C Fe' (upd Fb id F') b:=λb hb _=>⟨hb.1,λhc=>hb.2 (ho b hc)⟩
 have hh:∀ b,gd C Fe Fb b->w'.heap[b]? = w.heap[b]?:=λb hb=>hblk b (λe=>hb.2 (.inr ⟨id,e▸hmem⟩))
 have hb1:∀ i,(σ1.putB id x).box i=if i=id then some x else σ.box i:=λi=>by
  rw[UK]
  have:σ1.box i=σ.box i:=by simp[Sg.box,hbx]
  rw[this];by_cases hi:i=id
  ·subst hi;simp[hbox]
  ·simp[hi]
 have hL:∀ i,(σ.box i).isSome=true->((σ1.putB id x).box i).isSome=true:=λi hi=>by
  rw[hb1];by_cases hid:i=id
  ·simp[hid]
  ·simpa [hid] using hi
 have hL':∀ i,((σ1.putB id x).box i).isSome=true->(σ.box i).isSome=true:=λi hi=>by
  rw[hb1] at hi;by_cases hid:i=id
  ·subst hid;simp[hbox]
  ·simpa [hid] using hi
 have hc:∀ i off v,i≠id->(σ.box i).isSome=true->w.cell? ⟨ρ i,off,none⟩=some v->w'.cell? ⟨ρ i,off,none⟩=some v:=by
  intro i off v hi hs hv;rw[<- hv];refine World.cell?_of_block (hblk _ ?_);intro e
  cases hb:σ.box i with
  | none=>simp[hb] at hs
  | some z=>exact h.dBB i id hi _ (h.bx i z hb).mem (by show ρ i∈Fb id;rw[show ρ i=ρ id from e];exact hmem)
 refine⟨h.size.trans (by simp[hn]),h.defs,λi b hp=>⟨(h.pin i b hp).1,hL i (h.pin i b hp).2⟩, ?_, ?_, ?_, ?_, ?_, ?_, ?_, ?_, ?_, ?_, ?_,hos.trans h.os,htape.trans h.tape,hout.trans h.output,by rw[hsize];exact h.grown,h.gl,λb hb=>h.okN b (by rw[hsize] at hb;exact hb),λb hb=>h.okO b (ho b hb)⟩
 ·intro u d hd;rw[e8] at hd;obtain⟨d0,hd0,rfl⟩:=p9.1 hd
  rcases hgets u d0 hd0 with ⟨h1,h2⟩|⟨rfl,h2,h3⟩
  ·rw[h2]
   exact j80 (h.env u d0 h1) (λb hb hl=>by
    rcases hb with hb|hb
    ·exact hh b hb
    ·exact hblk b (λe=>h.dEB u id b hb (e▸hmem))) hg hL hc
  ·exact⟨h2,h3⟩
 ·intro u hu;rw[e8,n3] at hu;exact hnone u hu
 ·intro i z hz;rw[hb1] at hz;by_cases hid:i=id
  ·subst hid;simp at hz;subst hz;rw[c7];refine hx.mono (λ_ _ _=>rfl) (λb hb _=>hb) (λj hj=>⟨hL j hj,rfl⟩)
  ·simp only[hid,q8] at hz;rw[j2 hid];refine(h.bx i z hz).mono (λb hb _=>?_) hg (λj hj=>⟨hL j hj,rfl⟩)
   rcases hb with hb|hb
   ·exact hh b hb
   ·exact hblk b (λe=>h.dBB i id hid b hb (e▸hmem))
 ·intro i hi;rw[hb1] at hi;by_cases hid:i=id
  ·simp[hid] at hi
  ·simp only[hid,q8] at hi;rw[j2 hid];exact h.bxN i hi
 ·intro u
  rcases hFe u with h1|h1
  ·rw[h1];exact h.nodE u
  ·rw[h1];exact w9
 ·intro i;by_cases hid:i=id
  ·subst hid;simpa using hF'
  ·rw[j2 hid];exact h.nodB i
 ·intro u u' huu b hb hb'
  rcases hFe u with h1|h1
  ·rcases hFe u' with h2|h2
   ·rw[h1] at hb;rw[h2] at hb';exact h.dEE u u' huu b hb hb'
   ·rw[h2] at hb';cases hb'
  ·rw[h1] at hb;cases hb
 ·intro u i b hb hb'
  have hbu:b∈Fe u:=by
   rcases hFe u with h1|h1
   ·rwa [h1] at hb
   ·rw[h1] at hb;cases hb
  by_cases hid:i=id
  ·subst hid;rw[c7] at hb'
   rcases hsub b hb' with h1|⟨s,h1,h2⟩
   ·exact h.dEB u i b hbu h1
   ·by_cases hus:u=s
    ·subst hus;rw[h2] at hb;cases hb
    ·exact h.dEE u s hus b hbu h1
  ·rw[j2 hid] at hb';exact h.dEB u i b hbu hb'
 ·have key:∀ i,i≠id->∀ b,b∈F'->b∉Fb i:=λi hi b hb hb'=>by
   rcases hsub b hb with h1|⟨s,h1,_⟩
   ·exact h.dBB i id hi b hb' h1
   ·exact h.dEB s i b h1 hb'
  intro i i' hii b hb hb';by_cases hid:i=id
  ·subst hid;rw[c7] at hb;rw[j2 (λe=>hii e.symm)] at hb';exact key i' (λe=>hii e.symm) b hb hb'
  ·by_cases hid':i'=id
   ·subst hid';rw[c7] at hb';rw[j2 hid] at hb;exact key i hid b hb' hb
   ·rw[j2 hid] at hb;rw[j2 hid'] at hb';exact h.dBB i i' hii b hb hb'
 ·intro b hb;exact h.new b (ho b hb)
 ·intro b hk;have:=h.kept b hk;exact⟨(hblk b (λe=>h.new b (.inr ⟨id,e▸hmem⟩) hk)).trans this.1,this.2⟩
theorem OpS.skip{o:Oper}(hd:o.dst=none)(h:∀ a w,St C σ a w->∃ w',(execOp a.eval o).run P w=.ok .skip w'/\St C σ' a w'):OpS P C o σ σ':=by
 intro a w hs K Q hK;obtain⟨w',hr,hs'⟩:=h a w hs;refine O0 hr (by simp) ?_;simp only[Oper.uponIn,hd,Act.put];exact hK _ _ hs'
theorem KS{ty n:Nat}{g:Bool}[LdT P ty n g]{v:Value}{b off e:Nat}{cs:Array Value}(hb:w.heap[b]? = some (.cells cs e (0,0)))(hn:v.cells.size=n)
 (hs:off+n<=cs.size) (h1:∀ u∈v.cells.toList,u.oneCell'=true) :
 (storeVar ty ⟨b,off,none⟩ v).run P w=.ok () (w.setRow b (cs.toList.take off++v.cells.toList++cs.toList.drop (off+v.cells.toList.length)).toArray):=by
 have:=run_storeCells_at P b off e v.cells.toList 0 cs w hb (by simp;omega) h1;simp only[J8] at this;simp[storeVar,LdT.size (P:=P) (t:=ty),hn,this]
theorem R.st{p id off:Nat}{path:List Nat}{x:Operand}{d0 d1 d' dx:D}{ty n rt:TypeId}{gg:Bool}[LdT P ty n gg]
 (h:σ.get p=some (.ptr id off path)) (hb:σ.box id=some (.var d0)) (hl:d0.loc path=some (off,d1)) (hx:ev C.gl σ x=some dx) (hp:dx.pur=true) (hnp:dx.np=true)
 (hn:dx.sz=n) (hz:dx.sz=d1.sz) (hu:d0.upd path dx=some d') :
 OpS P C ⟨none,.store ty (.tmp p) x,rt,pos,aft,g⟩ σ (σ.putB id (.var d')):=by
 refine OpS.skip rfl λa w ⟨ρ,Fe,Fb,st⟩=>?_;obtain⟨v,hv,hr⟩:=(c5 rfl).1 (st.env _ _ h);simp only[VR,D.isAgg,q7,q8] at hr;generalize Fe p=F at hr;cases hr;obtain⟨cs,e,F',hb',hr,hFb⟩:=st.bx _ _ hb;obtain⟨Fx,hvx,_⟩:=H5 st hx (D9 hp);have hFx:=hvx.pur hp;subst hFx
 have hdead:dx≠.dead:=by rintro rfl;simp[D.pur] at hp
 have hxc:=hvx.cells hdead;obtain⟨_,_,_,h3⟩:=hr.loc hl
 have hnd:F'.Nodup:=by have:=st.nodB id;rw[hFb] at this;exact(v3.1 this).2
 obtain⟨F2,g1,g2,g3,g4,g5⟩:=hr.upd hl hu hz (hxc.unflag hnp) hnd w9 (by simp) (.inl rfl);have hlen:=hxc.len
 have hvs:(a.eval x).cells.size=n:=by simp at hlen;omega
 have hbnd:off+n<=cs.size:=by simp at h3;omega
 refine⟨w.setRow (ρ id) (cs.toList.take off++(a.eval x).cells.toList++cs.toList.drop (off+(a.eval x).cells.toList.length)).toArray, ?_,ρ,Fe,_,st.putB (Fe':=Fe) (σ1:=σ) (F':=ρ id::F2) hb rfl rfl (λu d hd=>.inl ⟨hd,rfl⟩) st.envN (λu=>.inl rfl) rfl ⟨rfl,z7 _⟩ rfl (by simp)
  (λb hbne=>setRow_other w (ρ id) b _ hbne) ?_ (by simp) ?_ ?_⟩
 ·unfold execOp;simp only[Instr.storeAt,Instr.sureAddr,Q3 hv,Sem.run_bind,Sem.run_pure,Result.andThen_ok,KS (P:=P) (ty:=ty) hb' hvs hbnd hxc.one]
 ·refine v3.2 ⟨λhm=>?_,g3⟩;have:=st.nodB id;rw[hFb] at this
  rcases g2 _ hm with h4|h4
  ·exact(v3.1 this).1 h4
  ·cases h4
 ·intro b hbm
  rcases w5.1 hbm with rfl|hm
  ·exact .inl (by rw[hFb];simp)
  ·rcases g2 b hm with h4|h4
   ·exact .inl (by rw[hFb];exact j1 _ h4)
   ·cases h4
 ·refine⟨_,e,F2,setRow_heap w (ρ id) cs _ e (0,0) hb', ?_,rfl⟩;simp only;refine g1.mono (λb hbb _=>setRow_other w (ρ id) b _ ?_) (λb hbb _=>⟨hbb.1,λho=>hbb.2 ?_⟩) (λi hi=>⟨hi,rfl⟩)
  ·rintro rfl
   rcases hbb with hbb|hbb
   ·exact hbb.2 (.inr ⟨id,by rw[hFb];simp⟩)
   ·have:=st.nodB id;rw[hFb] at this
    rcases g2 _ hbb with h4|h4
    ·exact(v3.1 this).1 h4
    ·cases h4
  ·rcases ho with ⟨u,hu⟩|⟨i,hi⟩
   ·exact .inl ⟨u,hu⟩
   ·by_cases hid:i=id
    ·subst hid;rw[c7] at hi;refine .inr ⟨i, ?_⟩;rw[hFb]
     rcases w5.1 hi with rfl|hm
     ·simp
     ·rcases g2 b hm with h4|h4
      ·exact j1 _ h4
      ·cases h4
    ·rw[j2 hid] at hi;exact .inr ⟨i,hi⟩
theorem R.stO{p s id off:Nat}{path:List Nat}{d0 d1 d' dx:D}{ty n rt:TypeId}[LdT P ty n gg]
 (h:σ.get p=some (.ptr id off path)) (hb:σ.box id=some (.var d0)) (hl:d0.loc path=some (off,d1)) (hx:σ.get s=some dx) (hrf:dx.isRef=false) (hnp:dx.np=true)
 (hn:dx.sz=n) (hz:dx.sz=d1.sz) (hu:d0.upd path dx=some d') (hna:d0.noArr path=true) :
 OpS P C ⟨none,.store ty (.tmp p) (.tmp s),rt,pos,aft,g⟩ σ ((σ.kill s).putB id (.var d')):=by
 refine OpS.skip rfl λa w ⟨ρ,Fe,Fb,st⟩=>?_;obtain⟨v,hv,hr⟩:=(c5 rfl).1 (st.env _ _ h);simp only[VR,D.isAgg,q7,q8] at hr;generalize Fe p=F at hr;cases hr;obtain⟨cs,e,F',hb',hr,hFb⟩:=st.bx _ _ hb;obtain⟨vx,hvx0,hvx⟩:=(c5 hrf).1 (st.env _ _ hx)
 have hdead:dx≠.dead:=by rintro rfl;simp[D.isRef] at hrf
 have hxc:=hvx.cells hdead;obtain⟨_,_,_,h3⟩:=hr.loc hl
 have hnd:F'.Nodup:=by have:=st.nodB id;rw[hFb] at this;exact(v3.1 this).2
 have hdis:∀ b∈Fe s,b∉ρ id::F':=λb hb' hb2=>by rw[<- hFb] at hb2;exact st.dEB s id b hb' hb2
 obtain⟨F2,g1,g2,g3,g4,g5⟩:=hr.upd hl hu hz (hxc.unflag hnp) hnd (st.nodE s) (λb hb' hb2=>hdis b hb' (j1 _ hb2)) (.inr hna);have hlen:=hxc.len
 have hvs:vx.cells.size=n:=by simp at hlen;omega
 have hbnd:off+n<=cs.size:=by simp at h3;omega
 have hnotin:ρ id∉F2:=λhm=>by
  have:=st.nodB id;rw[hFb] at this
  rcases g2 _ hm with h4|h4
  ·exact(v3.1 this).1 h4
  ·exact hdis _ h4 (by simp)
 refine⟨w.setRow (ρ id) (cs.toList.take off++vx.cells.toList++cs.toList.drop (off+vx.cells.toList.length)).toArray, ?_,ρ,upd Fe s [],_,st.putB (Fe':=upd Fe s []) (σ1:=σ.kill s) (F':=ρ id::F2) hb rfl rfl ?_ ?_ ?_ rfl ⟨rfl,z7 _⟩ rfl (by simp)
  (λb hbne=>setRow_other w (ρ id) b _ hbne) ?_ (by simp) ?_ ?_⟩
 ·unfold execOp;simp only[Instr.storeAt,Instr.sureAddr,Q3 hv,Q3 hvx0,Sem.run_bind,Sem.run_pure,Result.andThen_ok,KS (P:=P) (ty:=ty) hb' hvs hbnd hxc.one]
 ·intro u d hd;rw[JE] at hd;by_cases hus:u=s
  ·subst hus;simp at hd;exact .inr ⟨hd.symm,by simp,vx,hvx0⟩
  ·simp only[hus,q8] at hd;exact .inl ⟨hd,j2 hus⟩
 ·intro u hu;rw[JE] at hu;by_cases hus:u=s
  ·simp[hus] at hu
  ·simp only[hus,q8] at hu;rw[j2 hus];exact st.envN u hu
 ·intro u;by_cases hus:u=s
  ·subst hus;exact .inr (by simp)
  ·exact .inl (j2 hus)
 ·exact v3.2 ⟨hnotin,g3⟩
 ·intro b hbm
  rcases w5.1 hbm with rfl|hm
  ·exact .inl (by rw[hFb];simp)
  ·rcases g2 b hm with h4|h4
   ·exact .inl (by rw[hFb];exact j1 _ h4)
   ·exact .inr ⟨s,h4,by simp⟩
 ·refine⟨_,e,F2,setRow_heap w (ρ id) cs _ e (0,0) hb', ?_,rfl⟩;simp only;refine g1.mono (λb hbb _=>setRow_other w (ρ id) b _ ?_) (λb hbb _=>⟨hbb.1,λho=>hbb.2 ?_⟩) (λi hi=>⟨hi,rfl⟩)
  ·rintro rfl
   rcases hbb with hbb|hbb
   ·exact hbb.2 (.inr ⟨id,by rw[hFb];simp⟩)
   ·exact hnotin hbb
  ·rcases ho with ⟨u,hu⟩|⟨i,hi⟩
   ·by_cases hus:u=s
    ·subst hus;simp at hu
    ·rw[j2 hus] at hu;exact .inl ⟨u,hu⟩
   ·by_cases hid:i=id
    ·subst hid;rw[c7] at hi
     rcases w5.1 hi with rfl|hm
     ·exact .inr ⟨i,by rw[hFb];simp⟩
     ·rcases g2 b hm with h4|h4
      ·exact .inr ⟨i,by rw[hFb];exact j1 _ h4⟩
      ·exact .inl ⟨s,h4⟩
    ·rw[j2 hid] at hi;exact .inr ⟨i,hi⟩
def HK(ρ:Nat->Nat)(id b:Nat):Nat->Nat:=λi=>if i=id then b else ρ i
@[simp] theorem GB (ρ:Nat->Nat) (id b:Nat):HK ρ id b id=b:=by simp[HK]
theorem QU{ρ:Nat->Nat}{id b i:Nat}(h:i≠id):HK ρ id b i=ρ i:=by simp[HK,h]
theorem StW.newB{id:Nat}{x:Bx}{o:Obj}(h:StW C σ a w ρ Fe Fb)(hid:σ.box id=none)
 (hx:BR (w.alloc o) (HK ρ id w.heap.size) (gd C Fe (upd Fb id [w.heap.size])) (λi=>((σ.newB id x).box i).isSome) w.heap.size x [w.heap.size]) :
 StW C (σ.newB id x) a (w.alloc o) (HK ρ id w.heap.size) Fe (upd Fb id [w.heap.size]):=by
 have hlt:=h.lt;have hext:=Ext.alloc w o
 have hg:∀ b,gd C Fe Fb b->b<w.heap.size->gd C Fe (upd Fb id [w.heap.size]) b:=by
  rintro b ⟨hok,hb⟩ hl;refine⟨hok, ?_⟩;rintro (⟨u,hu⟩|⟨i,hi⟩)
  ·exact hb (.inl ⟨u,hu⟩)
  ·by_cases hii:i=id
   ·subst hii;simp at hi;omega
   ·rw[j2 hii] at hi;exact hb (.inr ⟨i,hi⟩)
 have hL:∀ i,(σ.box i).isSome=true->((σ.newB id x).box i).isSome=true/\HK ρ id w.heap.size i=ρ i:=by
  intro i hi
  have hii:i≠id:=by rintro rfl;simp[hid] at hi
  exact⟨by rw[JS];simp[show ¬ id=i from λe=>hii e.symm,hi],QU hii⟩
 have hh:∀ b,b<w.heap.size->(w.alloc o).heap[b]? = w.heap[b]?:=hext.block;have hFid:=h.bxN id hid;refine⟨h.size,h.defs,λi b hp=>⟨(hL i (h.pin i b hp).2).2.trans (h.pin i b hp).1,(hL i (h.pin i b hp).2).1⟩, ?_,h.envN, ?_, ?_,h.nodE, ?_,h.dEE, ?_, ?_, ?_, ?_,h.os,⟨h.tape.tp,h.tape.dr⟩,h.output,u9 h.grown hext.size,h.gl,λb hb=>h.okN b (u9 hext.size hb), ?_⟩
 ·intro u d hd;have hs:=h.env u d hd
  cases d with
  | al s=>exact hs
  | alb i off path=>exact⟨hs.1,(hL i hs.2.1).1,by obtain⟨v,h1,h2⟩:=hs.2.2;exact⟨v,h1,by rw[(hL i hs.2.1).2];exact hext.cell h2⟩⟩
  | vw s z lo n=>exact hs
  | va i off z n path lo=>exact⟨hs.1,(hL i hs.2.1).1,by rw[(hL i hs.2.1).2];exact hs.2.2⟩
  | ep s z i off path=>exact hs
  | tup ds=>
   obtain⟨vs,Fs,h1,h2,h3,h4⟩:=hs;exact⟨vs,Fs,h1,h2,h3,λk hk=>(h4 k hk).imp (λhx=>hx) λhx=>⟨hx.1,hx.2.mono (λb _ hl=>hh b hl) hg hL⟩⟩
  | dead=>exact hs
  | _=>obtain⟨v,hv,hr⟩:=hs;exact⟨v,hv,hr.mono (λb _ hl=>hh b hl) hg hL⟩
 ·intro i z hz;rw[JS] at hz;by_cases hii:id=i
  ·subst hii;simp at hz;subst hz;rw[c7,GB];exact hx
  ·simp only[hii,q8] at hz;rw[j2 (λe=>hii e.symm),QU (λe=>hii e.symm)];exact(h.bx i z hz).mono (λb _ hl=>hh b hl) hg hL
 ·intro i hi;rw[JS] at hi;by_cases hii:id=i
  ·simp[hii] at hi
  ·simp only[hii,q8] at hi;rw[j2 (λe=>hii e.symm)];exact h.bxN i hi
 ·intro i;by_cases hii:i=id
  ·subst hii;simp
  ·rw[j2 hii];exact h.nodB i
 ·intro u i b hb hb';by_cases hii:i=id
  ·subst hii;simp at hb';have:=hlt b (.inl ⟨u,hb⟩);omega
  ·rw[j2 hii] at hb';exact h.dEB u i b hb hb'
 ·intro i i' hne b hb hb';by_cases hii:i=id
  ·subst hii;simp at hb;rw[j2 (λe=>hne e.symm)] at hb';have:=hlt b (.inr ⟨i',hb'⟩);omega
  ·rw[j2 hii] at hb;by_cases hii':i'=id
   ·subst hii';simp at hb';have:=hlt b (.inr ⟨i,hb⟩);omega
   ·rw[j2 hii'] at hb';exact h.dBB i i' hne b hb hb'
 ·rintro b (⟨u,hu⟩|⟨i,hi⟩) hk
  ·exact h.new b (.inl ⟨u,hu⟩) hk
  ·by_cases hii:i=id
   ·subst hii;simp at hi;have:=(h.kept b hk).2;have:=h.grown;omega
   ·rw[j2 hii] at hi;exact h.new b (.inr ⟨i,hi⟩) hk
 ·intro b hk;have:=h.kept b hk;exact⟨(hh b (u0 this.2 h.grown)).trans this.1,this.2⟩
 ·rintro b (⟨u,hu⟩|⟨i,hi⟩)
  ·exact h.okO b (.inl ⟨u,hu⟩)
  ·by_cases hii:i=id
   ·subst hii;simp at hi;subst hi;exact h.okN _ (z7 _)
   ·rw[j2 hii] at hi;exact h.okO b (.inr ⟨i,hi⟩)
theorem IJ{id t e:Nat}{d:D}{cs:Array Value}(st:StW C σ a w ρ Fe Fb)(hid:σ.box id=none)(ht:t<σ.n)
 (hr:Rc w ρ (gd C Fe Fb) (λi=>(σ.box i).isSome) true d cs.toList []) :
 St C ((σ.newB id (.var d)).set t (.ptr id 0 [])) (a.put (some t) (.pointer (some ⟨w.heap.size,0,none⟩))) (w.alloc (.cells cs e)):=by
 have hlt:=st.lt
 have hg:∀ b,gd C Fe Fb b->b<w.heap.size->gd C Fe (upd Fb id [w.heap.size]) b:=by
  rintro b ⟨hok,hb⟩ hl;refine⟨hok, ?_⟩;rintro (⟨u,hu⟩|⟨i,hi⟩)
  ·exact hb (.inl ⟨u,hu⟩)
  ·by_cases hii:i=id
   ·subst hii;simp at hi;omega
   ·rw[j2 hii] at hi;exact hb (.inr ⟨i,hi⟩)
 have h1:=st.newB (id:=id) (x:=.var d) (o:=.cells cs e) hid ⟨cs,e,[],heap_alloc_new w _,hr.mono (λb _ hl=>(Ext.alloc w _).block b hl) hg (λi hi=>by
  have hii:i≠id:=by rintro rfl;simp[hid] at hi
  exact⟨by rw[JS];simp[show ¬ id=i from λe=>hii e.symm,hi],QU hii⟩),rfl⟩
 have h2:=h1.put (t:=t) (d:=.ptr id 0 []) (v:=.pointer (some ⟨w.heap.size,0,none⟩)) (by simpa using ht) rfl (by
  simp only[VR,D.isAgg,q7,q8];have:=Rc.ptr (w:=w.alloc (.cells cs e)) (ρ:=HK ρ id w.heap.size) (G:=gd C Fe (upd Fb id [w.heap.size])) (L:=λi=>((σ.newB id (.var d)).box i).isSome) id 0 [] (by simp[JS])
  simpa using this)
 exact h2
def u08(d:D)(v:Value):Bool:=
 match d,v with
 | .bool b,.bool c=>b==c
 | .int n,.int .i64 m=>decide (n=m)
 | .u8 x,.int .u8 m=>decide ((x.toNat:Int)=m)
 | .u16 x,.int .u16 m=>decide ((x.toNat:Int)=m)
 | .u32 x,.int .u32 m=>decide ((x.toNat:Int)=m)
 | .u64 x,.int .u64 m=>decide ((x.toNat:Int)=m)
 | .ik k n,.int k' m=>decide (k=k')&&decide (n=m)
 | .str s,.string t=>t.data.toList==s
 | .nils,.slice none 0 0=>true
 | .nilp,.pointer none=>true
 | .nilmap,.map none=>true
 | .nilf,.nilFunc=>true
 | .nili,.nilIface=>true
 | _,_=>false
theorem x79(w:World)(ρ:Nat->Nat)(G L:Nat->Prop)(d:D)(v:Value)(h:u08 d v=true):Rc w ρ G L false d [v] []:=by
 unfold u08 at h;split at h
 ·rw[p7] at h;subst h;exact .bool _
 ·rw[Z5] at h;subst h;exact .int _
 ·rw[Z5] at h;subst h;exact .u8 _
 ·rw[Z5] at h;subst h;exact .u16 _
 ·rw[Z5] at h;subst h;exact .u32 _
 ·rw[Z5] at h;subst h;exact .u64 _
 ·rw[u6,Z5,Z5] at h;obtain⟨rfl,rfl⟩:=h;exact .ik _ _
 ·rename_i s t;rw[p7] at h;subst h;have:=Rc.str (w:=w) (ρ:=ρ) (G:=G) (L:=L) (p:=false) t.data.toList;simpa using this
 ·exact .nils
 ·exact .nilp
 ·exact .nilmap
 ·exact .nilf
 ·exact .nili
 ·cases h
mutual
def chk:D->List Value->Bool
 | .agg l,cs=>chks l cs
 | .arr n z l,cs=>decide (l.length=n)&&chkr z l cs
 | d,cs=>match cs with
  | [v]=>u08 d v
  | _=>false
def chks:List D->List Value->Bool
 | [],cs=>cs.isEmpty
 | d::r,cs=>decide (d.sz<=cs.length)&&chk d (cs.take d.sz)&&chks r (cs.drop d.sz)
def chkr(z:Nat):List D->List Value->Bool
 | [],cs=>cs.isEmpty
 | d::r,cs=>decide (z<=cs.length)&&chk d (cs.take z)&&chkr z r (cs.drop z)
end
theorem XV(d:D)(r:List D)(k:Nat):offk (d::r) (k+1)=d.sz+offk r k:=by simp[offk]
theorem GN(l:List D):offk l 0=0:=by simp[offk]
mutual
theorem XO(w:World)(ρ:Nat->Nat)(G L:Nat->Prop):∀ (d:D) (cs:List Value),chk d cs=true->Rc w ρ G L false d cs []:=by
 intro d cs h
 cases d with
 | agg l=>
  rw[chk] at h;obtain⟨h1,h2⟩:=q95 w ρ G L l cs h;have:=Rc.agg (w:=w) (ρ:=ρ) (G:=G) (L:=L) (p:=false) l cs (λ_=>[]) h1 h2
  have e:(List.range l.length).flatMap (λ_=>([]:List Nat))=[]:=by simp
  rw[e] at this;exact this
 | arr n z l=>
  rw[chk,u6,Z5] at h;obtain⟨h1,h2⟩:=q96 w ρ G L z l cs h.2;exact .arr n z l cs h.1 (by rw[h1,h.1]) h2
 | _=>
  simp only[chk] at h;split at h
  ·exact x79 w ρ G L _ _ h
  ·cases h
theorem q95(w:World)(ρ:Nat->Nat)(G L:Nat->Prop):∀ (l:List D) (cs:List Value),chks l cs=true ->
 cs.length=N6 l/\∀ k (h:k<l.length),Rc w ρ G L false l[k] ((cs.drop (offk l k)).take l[k].sz) []:=by
 intro l cs h
 cases l with
 | nil=>
  simp only[chks,List.isEmpty_iff] at h;subst h;exact⟨by simp,λk hk=>by simp at hk⟩
 | cons d r=>
  simp only[chks,u6,Z5] at h;obtain⟨⟨h0,h1⟩,h2⟩:=h;have i1:=XO w ρ G L d _ h1;obtain⟨i2,i3⟩:=q95 w ρ G L r _ h2;refine⟨by simp at i2 ⊢;omega,λk hk=>?_⟩
  cases k with
  | zero=>rw[GN];exact i1
  | succ k=>
   have:=i3 k (by simpa using hk);rw[B4] at this;rw[XV];exact this
theorem q96(w:World)(ρ:Nat->Nat)(G L:Nat->Prop)(z:Nat):∀ (l:List D) (cs:List Value),chkr z l cs=true ->
 cs.length=l.length*z/\∀ k (h:k<l.length),Rc w ρ G L false l[k] ((cs.drop (k*z)).take z) []:=by
 intro l cs h
 cases l with
 | nil=>
  simp only[chkr,List.isEmpty_iff] at h;subst h;exact⟨by simp,λk hk=>by simp at hk⟩
 | cons d r=>
  simp only[chkr,u6,Z5] at h;obtain⟨⟨h0,h1⟩,h2⟩:=h;have i1:=XO w ρ G L d _ h1;obtain⟨i2,i3⟩:=q96 w ρ G L z r _ h2;refine⟨by simp only[v8,j3,v7] at i2 ⊢;omega,λk hk=>?_⟩
  cases k with
  | zero=>rw[Nat.zero_mul];exact i1
  | succ k=>
   have:=i3 k (by simpa using hk);rw[B4] at this
   have e:(k+1)*z=z+k*z:=by rw[v7,l9,W5]
   simp only[e];exact this
end
def ZH:Value->Bool
 | .agg _=>true
 | _=>false
class ZrT(P:Program)(t:TypeId)(d:outParam D):Prop where
 i:∃ i v,P.info? t=some i/\i.zero=some v/\chk d v.cells.toList=true/\ZH v=d.isAgg
theorem j50{G L:Nat->Prop}{d:D}{v:Value}(h:chk d v.cells.toList=true)(hg:ZH v=d.isAgg):VR w ρ G L d v []:=by
 have:=(XO w ρ G L d _ h).flag;unfold VR;cases hd:d.isAgg
 ·rw[hd] at hg;simp only[q7,q8]
  cases v<;>first|exact this|simp[ZH] at hg
 ·rw[hd] at hg;simp only[j9]
  cases v<;>first|exact⟨_,rfl,this⟩|simp[ZH] at hg
theorem R.alloc{t ty rt:TypeId}{d:D}[hZ:ZrT P ty d](hid:σ.box t=none)(ht:t<σ.n) :
 OpS P C ⟨some t,.alloc ty,rt,pos,aft,g⟩ σ ((σ.newB t (.var d)).set t (.ptr t 0 [])):=by
 refine OpS.value λa w ⟨ρ,Fe,Fb,st⟩=>?_;obtain⟨i,v,h1,h2,h3,h4⟩:=hZ.i;refine⟨_,_, ?_,IJ (e:=ty) (cs:=v.cells) st hid ht ((XO _ _ _ _ d _ h3).flag)⟩;unfold execOp;simp[Instr.alloc,zeroValue,typeInfo,h1,h2,newVar,newRow,newObj,Sem.run]
theorem R.box{t ty rt:TypeId}{x:Operand}{d:D}(hx:ev C.gl σ x=some d)(hp:d.pur=true)(hid:σ.box t=none)(ht:t<σ.n) :
 OpS P C ⟨some t,.box ty x,rt,pos,aft,g⟩ σ ((σ.newB t (.var d)).set t (.ptr t 0 [])):=by
 refine OpS.value λa w ⟨ρ,Fe,Fb,st⟩=>?_;obtain⟨F,hv,_⟩:=H5 st hx (D9 hp);have hF:=hv.pur hp;subst hF
 have hdead:d≠.dead:=by rintro rfl;simp[D.pur] at hp
 refine⟨_,_, ?_,IJ (e:=ty) (cs:=(a.eval x).cells) st hid ht (hv.cells hdead)⟩;unfold execOp;simp[Instr.box,newVar,newRow,newObj,Sem.run]
end
section
variable{P:Program}{C:Ctx}{σ σ' σ1:Sg}{a:Act}{w w':World}{ρ:Nat->Nat}{Fe Fe' Fb:Nat->List Nat}
theorem Rc.noL{G L:Nat->Prop}{d:D}{cs:List Value}{F:List Nat}(h:Rc w ρ G L false d cs F):Rc w ρ' G L' false d cs F:=by
 generalize hp:false=p at h
 induction h with
 | bool b=>exact .bool b
 | int n=>exact .int n
 | u8 x=>exact .u8 x
 | u16 x=>exact .u16 x
 | u32 x=>exact .u32 x
 | u64 x=>exact .u64 x
 | ik k n=>exact .ik k n
 | str s=>exact .str s
 | nils=>exact .nils
 | slN o z=>exact .slN o z
 | slE o z a=>exact .slE o z a
 | slI b off cs e fz cap z l hb hG hc hs hr ih=>exact .slI b off cs e fz cap z l hb hG hc hs (λi hi=>ih i hi rfl)
 | slO b cs e cap z l Fs hb hc hm hs ho1 hr ih=>exact .slO b cs e cap z l Fs hb hc hm hs ho1 (λi hi=>ih i hi rfl)
 | agg l cs Fs hs hr ih=>exact .agg l cs Fs hs (λk hk=>ih k hk hp)
 | arr n z l cs hl hs hr ih=>exact .arr n z l cs hl hs (λi hi=>ih i hi rfl)
 | ptr id off path hid=>cases hp
 | bs id z n cap hid hcap=>cases hp
 | nilp=>exact .nilp
 | adr b=>exact .adr b
 | rp d b off cs e fz hb hG hs hr ih=>exact .rp d b off cs e fz hb hG hs (ih rfl)
 | map id hid=>cases hp
 | nilmap=>exact .nilmap
 | fn f caps vs hl ha hr ih=>exact .fn f caps vs hl ha (λk hk=>ih k hk hp)
 | nilf=>exact .nilf
 | yld l=>exact .yld l
 | ifc t d v ha hr ih=>exact .ifc t d v ha (ih hp)
 | nili=>exact .nili
 | dead v h=>exact .dead v h
theorem VR.noL{G L:Nat->Prop}{d:D}{v:Value}{F:List Nat}(h:VR w ρ G L d v F)(hn:d.np=true):VR w ρ' G L' d v F:=by
 unfold VR at *
 cases hd:d.isAgg<;>simp only[hd,j9,q8,q7] at h ⊢
 ·exact(h.unflag hn).noL.flag
 ·obtain⟨cs,rfl,h⟩:=h;exact⟨cs,rfl,(h.unflag hn).noL.flag⟩
inductive Frs:D->Prop
 | bool (b:Bool):Frs (.bool b)
 | int (n:Int):Frs (.int n)
 | u8 (x:UInt8):Frs (.u8 x)
 | u16 (x:UInt16):Frs (.u16 x)
 | u32 (x:UInt32):Frs (.u32 x)
 | u64 (x:UInt64):Frs (.u64 x)
 | ik (k:IntKind) (n:Int):Frs (.ik k n)
 | str (s:List UInt8):Frs (.str s)
 | nils:Frs .nils
 | nilp:Frs .nilp
 | adr (b:Nat):Frs (.adr b)
 | nilmap:Frs .nilmap
 | nilf:Frs .nilf
 | nili:Frs .nili
 | sl (e z:Nat) (l:List D) (h:∀ x∈l,Frs x):Frs (.sl (some e) z l)
 | agg (l:List D) (h:∀ x∈l,Frs x):Frs (.agg l)
 | arr (n z:Nat) (l:List D) (h:∀ x∈l,Frs x):Frs (.arr n z l)
 | ifc (t:Nat) (d:D) (h:Frs d):Frs (.ifc t d)
theorem Rc.frs{G L:Nat->Prop}{p:Bool}{d:D}{cs:List Value}{F:List Nat}(h:Rc w ρ G L p d cs F)(hf:Frs d):Rc w ρ G' L p d cs F:=by
 induction h with
 | bool b=>exact .bool b
 | int n=>exact .int n
 | u8 x=>exact .u8 x
 | u16 x=>exact .u16 x
 | u32 x=>exact .u32 x
 | u64 x=>exact .u64 x
 | ik k n=>exact .ik k n
 | str s=>exact .str s
 | nils=>exact .nils
 | slN o z=>exact .slN o z
 | slE o z a=>exact .slE o z a
 | slI b off cs e fz cap z l hb hG hc hs hr ih=>cases hf
 | slO b cs e cap z l Fs hb hc hm hs ho1 hr ih=>
  cases hf with
  | sl _ _ _ hf=>exact .slO b cs e cap z l Fs hb hc hm hs ho1 (λi hi=>ih i hi (hf _ (g6 hi)))
 | agg l cs Fs hs hr ih=>
  cases hf with
  | agg _ hf=>exact .agg l cs Fs hs (λk hk=>ih k hk (hf _ (g6 hk)))
 | arr n z l cs hl hs hr ih=>
  cases hf with
  | arr _ _ _ hf=>exact .arr n z l cs hl hs (λi hi=>ih i hi (hf _ (g6 hi)))
 | ptr id off path hid=>cases hf
 | bs id z n cap hid hcap=>cases hf
 | nilp=>exact .nilp
 | adr b=>exact .adr b
 | rp d b off cs e fz hb hG hs hr ih=>cases hf
 | map id hid=>cases hf
 | nilmap=>exact .nilmap
 | fn f caps vs hl ha hr ih=>cases hf
 | nilf=>exact .nilf
 | yld l=>cases hf
 | ifc t d v ha hr ih=>
  cases hf with
  | ifc _ _ hf=>exact .ifc t d v ha (ih hf)
 | nili=>exact .nili
 | dead v h=>cases hf
theorem VR.frs{G L:Nat->Prop}{d:D}{v:Value}{F:List Nat}(h:VR w ρ G L d v F)(hf:Frs d):VR w ρ G' L d v F:=by
 unfold VR at *
 cases hd:d.isAgg<;>simp only[hd,j9,q8,q7] at h ⊢
 ·exact h.frs hf
 ·obtain⟨cs,rfl,h⟩:=h;exact⟨cs,rfl,h.frs hf⟩
def RV(w:World)(ρ:Nat->Nat)(G L:Nat->Prop)(r:D)(v:Value)(F:List Nat):Prop:=
 match r with
 | .tup ds=>∃ (vs:List Value) (Fs:Nat->List Nat),v=.tuple vs.toArray/\vs.length=ds.length/\F=(List.range ds.length).flatMap Fs /\
  ∀ k (h:k<ds.length),ds[k].isRef=false/\VR w ρ G L ds[k] (vs.getD k undef) (Fs k)
 | r=>r.isRef=false/\VR w ρ G L r v F
theorem CB{G L:Nat->Prop}{r:D}{v:Value}{F:List Nat}(hr:r.isRef=false):RV w ρ G L r v F↔VR w ρ G L r v F:=by
 cases r<;>first|(simp[D.isRef] at hr;done)|exact⟨λh=>h.2,λh=>⟨hr,h⟩⟩
theorem RV.map{G L:Nat->Prop}{r:D}{v:Value}{F:List Nat}(h:RV w ρ G L r v F)(q:D->Prop)(hq:(∃ ds,r=.tup ds/\∀ d∈ds,q d)∨(∀ ds,r≠.tup ds)/\q r)
 (hv:∀ d v F',(∀ b∈F',b∈F)->q d->VR w ρ G L d v F'->VR w' ρ' G' L' d v F'):RV w' ρ' G' L' r v F:=by
 rcases hq with ⟨ds,rfl,hq⟩|⟨hr,hq⟩
 ·obtain⟨vs,Fs,rfl,h1,rfl,h2⟩:=h;exact⟨vs,Fs,rfl,h1,rfl,λk hk=>⟨(h2 k hk).1,hv _ _ _ (λb hb=>w8.2 ⟨k,j7.2 hk,hb⟩) (hq _ (g6 hk)) (h2 k hk).2⟩⟩
 ·cases r<;>first|exact absurd rfl (hr _)|exact⟨h.1,hv _ _ _ (λ_ h=>h) hq h.2⟩
theorem RV.mono{G L:Nat->Prop}{r:D}{v:Value}{F:List Nat}(h:RV w ρ G L r v F)
 (hh:∀ b,(G b∨b∈F)->b<w.heap.size->w'.heap[b]? = w.heap[b]?) (hg:∀ b,G b->b<w.heap.size->G' b) (hL:∀ id,L id->L' id/\ρ' id=ρ id):RV w' ρ' G' L' r v F:=by
 refine h.map (λ_=>True) ?_ (λd v F' hF _ hv=>hv.mono (λb hb=>hh b (hb.imp id (hF b))) hg hL)
 cases r<;>first|exact .inl ⟨_,rfl,λ_ _=>trivial⟩|exact .inr ⟨by simp,trivial⟩
def FrsR(r:D):Prop:=(∃ ds,r=.tup ds/\∀ d∈ds,Frs d)∨(∀ ds,r≠.tup ds)/\Frs r
theorem CP{G L:Nat->Prop}{r:D}{v:Value}{F:List Nat}{t:Nat}(h:RV w ρ G L r v F)(ht:a.tmps[t]? = some v):SR w ρ G L a t r F:=by
 cases r with
 | tup ds=>
  obtain⟨vs,Fs,rfl,h1,h2,h3⟩:=h;exact⟨vs,Fs,ht,h1,h2,λk hk=>.inr (h3 k hk)⟩
 | _=>first|(exact⟨v,ht,h.2⟩)|(have:=h.1;simp[D.isRef] at this)
def Fn(P:Program)(gl:List (Nat×D))(f:FuncId)(ds:List D)(r:D):Prop:=
 ∀ (w:World) (G:Nat->Prop) (vs:List Value),
  (∀ g d,(g,d)∈gl->G g/\∃ cs e fz,w.heap[g]? = some (.cells cs e fz)/\Rc w (λx=>x) (λ_=>False) (λ_=>False) false d cs.toList []) ->
  vs.length=ds.length->(∀ k (h:k<ds.length),VR w (λx=>x) G (λ_=>False) ds[k] (vs.getD k undef) []) ->
  Calls P f vs.toArray w (λe w'=>∃ v F,e=.returned v/\Ext w w'/\F.Nodup/\(∀ b∈F,w.heap.size<=b) /\
   RV w' (λx=>x) (λb=>(G b∨w.heap.size<=b)/\b∉F) (λ_=>False) r v F)
def ini:Nat->List D->List (Nat×D)
 | _,[]=>[]
 | k,d::r=>(k,d)::ini (k+1) r
theorem OH(ds:List D)(k t:Nat):lk (ini k ds) t=if k<=t then ds[t-k]? else none:=by
 induction ds generalizing k with
 | nil=>simp[ini,lk]
 | cons d r ih=>
  simp only[ini,U2,ih];by_cases h:k=t
  ·subst h;simp
  ·simp only[h,q8];by_cases h1:k<=t
   ·simp only[h1,show k+1<=t by omega,j9]
    have:t-k=(t-(k+1))+1:=by omega
    rw[this,I0]
   ·simp[h1,show ¬ k+1<=t by omega]
def YI(σ:Sg):ResultVar->Option D
 | .tmp t=>σ.get t
 | .cell t _=>match σ.get t with
  | some (.ptr id 0 [])=>match σ.box id with
   | some (.var d)=>some d
   | _=>none
  | _=>none
def R4(σ:Sg):ResultVar->Nat×Bool
 | .tmp t=>(t,true)
 | .cell t _=>match σ.get t with
  | some (.ptr id _ _)=>(id,false)
  | _=>(0,false)
def WY(P:Program)(d:D):ResultVar->Prop
 | .tmp _=>True
 | .cell _ ty=>LdT P ty d.sz d.isAgg
def SL(tmps:Array Value):ResultVar->Sem Value
 | .tmp t=>pure (tmps.getD t undef)
 | .cell a t=>do loadVar t (<- asAddr (tmps.getD a undef))
theorem k82{β:Type}(f:α->Sem β)(vf:Nat->β)(w:World):∀ (l:List α) (n:Nat),(∀ k (h:k<l.length),(f l[k]).run P w=.ok (vf (n+k)) w) ->
 (l.mapM f).run P w=.ok ((List.range' n l.length).map vf) w:=by
 intro l
 induction l with
 | nil=>intro n h;simp
 | cons x l ih=>
  intro n h;have h0:=h 0 (by simp);have:=ih (n+1) (λk hk=>by have:=h (k+1) (by simpa using hk);simpa [U7,W5 1 k] using this);simp only[Z2,J8] at h0;simp[List.mapM_cons,h0,this,List.range'_succ]
theorem QO{fn:Func}{tmps:Array Value}{rs:List ResultVar}(hrs:fn.results.toList=rs)(vf:Nat->Value)(w:World)
 (h:∀ k (h:k<rs.length),(SL tmps rs[k]).run P w=.ok (vf k) w) :
 (results fn tmps).run P w=.ok (if rs.length=1 then vf 0 else .tuple ((List.range rs.length).map vf).toArray) w:=by
 have h1:=k82 (P:=P) (SL tmps) vf w rs 0 (λk hk=>by simpa using h k hk)
 have e:results fn tmps=(do let vs <- fn.results.mapM (SL tmps);pure (if h:vs.size=1 then vs[0] else .tuple vs)):=by
  unfold results
  congr 1
 rw[e,Array.mapM_eq_mapM_toList,hrs];simp only[map_eq_pure_bind,Sem.run_bind,h1,Result.andThen_ok,Sem.run_pure,List.range_eq_range'];by_cases hl:rs.length=1
 ·simp[hl]
 ·simp[hl]
theorem MU(st:StW C σ a w ρ Fe Fb){rv:ResultVar}{d:D}(h:YI σ rv=some d)(hr:d.isRef=false)(hT:WY P d rv) :
 ∃ v F,(SL a.tmps rv).run P w=.ok v w /\
  VR w ρ (gd C Fe Fb) (λid=>(σ.box id).isSome) d v F/\F.Nodup/\(∀ b∈F,b∈(if(R4 σ rv).2 then Fe (R4 σ rv).1 else Fb (R4 σ rv).1)):=by
 cases rv with
 | tmp t=>
  simp only[YI] at h;obtain⟨v,hv,hvr⟩:=(c5 hr).1 (st.env t d h);refine⟨v,Fe t, ?_,hvr,st.nodE t,λb hb=>by simpa [R4] using hb⟩;simp[SL,v9,hv]
 | cell t ty=>
  simp only[YI] at h;split at h
  ·rename_i id hg;split at h
   ·rename_i d' hb;cases h;obtain⟨v,hv,hvr⟩:=(c5 rfl).1 (st.env t _ hg);simp only[VR,D.isAgg,q7,q8] at hvr;generalize Fe t=F at hvr;cases hvr;obtain⟨cs,e,F',hb',hrc,hFb⟩:=st.bx _ _ hb;have:=hT;simp only[WY] at this;have hlen:=hrc.len
    have hcs:(cs.toList.drop 0).take d.sz=cs.toList:=by rw[<- hlen,K5];exact J9
    obtain⟨v,hv1,hv2⟩:=i6 (P:=P) (ty:=ty) (off:=0) hb' (by rw[hcs];exact hrc) (by simp at hlen;omega) rfl rfl;refine⟨v,F', ?_,hv2, ?_,λb hb=>by simp[R4,hg,hFb,hb]⟩
    ·simp[SL,v9,hv,asAddr,hv1]
    ·have:=st.nodB id;rw[hFb] at this;exact(v3.1 this).2
   ·cases h
  ·cases h
def N3(ids:List Nat)(i:Nat):Bool:=ids.any (Nat.beq i)
def Ends(rs:List ResultVar)(P:Program)(r:D)(e:Exit)(σ:Sg):Prop:=
 (e=.normal∨e=.ret) /\
 match rs with
 | [rv]=>YI σ rv=some r/\r.isRef=false/\r.np=true/\WY P r rv
 | rs=>∃ ds,r=.tup ds/\ds.length=rs.length/\(rs.map (R4 σ)).Nodup/\∀ k (h:k<rs.length) (h':k<ds.length),YI σ rs[k]=some ds[k]/\ds[k].isRef=false/\ds[k].np=true/\WY P ds[k] rs[k]
theorem Ends.out{fn:Func}{r:D}{e:Exit}(st:StW C σ a w ρ Fe Fb)(hends:Ends fn.results.toList P r e σ) :
 ∃ v,(results fn a.tmps).run P w=.ok v w/\∃ F,F.Nodup/\(∀ b∈F,own Fe Fb b)/\RV w (λx=>x) (λb=>C.ok b/\b∉F) (λ_=>False) r v F:=by
 obtain⟨he,hend⟩:=hends
 have one:∀ rv,fn.results.toList=[rv]->YI σ rv=some r/\r.isRef=false/\r.np=true/\WY P r rv ->
  ∃ v,(results fn a.tmps).run P w=.ok v w/\∃ F,F.Nodup/\(∀ b∈F,own Fe Fb b)/\RV w (λx=>x) (λb=>C.ok b/\b∉F) (λ_=>False) r v F:=by
  rintro rv hrs ⟨h1,h2,h3,h4⟩;obtain⟨v,F,hv1,hv2,hv3,hv4⟩:=MU (P:=P) st h1 h2 h4
  have hFo:∀ b∈F,own Fe Fb b:=by
   intro b hb;have:=hv4 b hb;split at this
   ·exact .inl ⟨_,this⟩
   ·exact .inr ⟨_,this⟩
  refine⟨v, ?_,F,hv3,λb hb=>hFo b hb,(CB h2).2 ?_⟩
  ·rw[QO hrs (λ_=>v) w (λk hk=>by
    have:k=0:=by simp at hk;omega
    subst this;exact hv1)]
   rfl
  ·exact(hv2.noL (ρ':=λx=>x) (L':=λ_=>False) h3).mono (λ_ _ _=>rfl) (λb hb _=>⟨hb.1,λhm=>hb.2 (hFo b hm)⟩) (λid hid=>hid.elim)
 have many:∀ rs,fn.results.toList=rs->rs.length≠1->(∃ ds,r=.tup ds/\ds.length=rs.length/\(rs.map (R4 σ)).Nodup/\∀ k (h:k<rs.length) (h':k<ds.length),YI σ rs[k]=some ds[k]/\ds[k].isRef=false/\ds[k].np=true/\WY P ds[k] rs[k]) ->
  ∃ v,(results fn a.tmps).run P w=.ok v w/\∃ F,F.Nodup/\(∀ b∈F,own Fe Fb b)/\RV w (λx=>x) (λb=>C.ok b/\b∉F) (λ_=>False) r v F:=by
  rintro rs hrs hne ⟨ds',rfl,hl',hnd,hall⟩
  have hk:∀ k,∃ vF:Value×List Nat,k<rs.length->∃ (h:k<rs.length) (h':k<ds'.length),
   (SL a.tmps rs[k]).run P w=.ok vF.1 w /\
   VR w ρ (gd C Fe Fb) (λid=>(σ.box id).isSome) ds'[k] vF.1 vF.2/\vF.2.Nodup/\(∀ b∈vF.2,b∈(if(R4 σ rs[k]).2 then Fe (R4 σ rs[k]).1 else Fb (R4 σ rs[k]).1)):=by
   intro k;by_cases hk:k<rs.length
   ·have hk':k<ds'.length:=by omega
    obtain⟨h1,h2,h3,h4⟩:=hall k hk hk';obtain⟨v,F,q⟩:=MU (P:=P) st h1 h2 h4;exact⟨(v,F),λ_=>⟨hk,hk',q⟩⟩
   ·exact⟨(undef,[]),λh=>absurd h hk⟩
  obtain⟨vF,hk⟩:=Classical.skolem.1 hk
  have hFo:∀ k,k<rs.length->∀ b∈(vF k).2,own Fe Fb b:=by
   intro k hlt b hb;obtain⟨h,h',q1,q2,q3,q4⟩:=hk k hlt;have:=q4 b hb;split at this
   ·exact .inl ⟨_,this⟩
   ·exact .inr ⟨_,this⟩
  have hdis:∀ j k,j<rs.length->k<rs.length->j≠k->∀ b,b∈(vF j).2->b∉(vF k).2:=by
   intro j k hj hkk hjk b hb hb';obtain⟨h,h',q1,q2,q3,q4⟩:=hk j hj;obtain⟨g,g',p1,p2,p3,p4⟩:=hk k hkk;have e1:=q4 b hb;have e2:=p4 b hb'
   have hne:R4 σ rs[j]≠R4 σ rs[k]:=by
    intro he;have:=(List.getElem_inj (h₀:=by simpa using hj) (h₁:=by simpa using hkk) hnd).1 (by simpa using he);exact hjk this
   generalize R4 σ rs[j]=x at e1 hne;generalize R4 σ rs[k]=y at e2 hne;obtain⟨x1,x2⟩:=x;obtain⟨y1,y2⟩:=y
   cases x2<;>cases y2<;>simp at e1 e2 hne
   ·exact st.dBB x1 y1 hne b e1 e2
   ·exact st.dEB y1 x1 b e2 e1
   ·exact st.dEB x1 y1 b e1 e2
   ·exact st.dEE x1 y1 hne b e1 e2
  refine⟨.tuple ((List.range rs.length).map (λk=>(vF k).1)).toArray, ?_,(List.range ds'.length).flatMap (λk=>(vF k).2), ?_, ?_,_,(λk=>(vF k).2),rfl,by simp[hl'],rfl, ?_⟩
  ·rw[QO hrs (λk=>(vF k).1) w (λk hk'=>by obtain⟨_,_,q,_⟩:=hk k hk';exact q),w3 hne]
  ·refine N7 (λk hkk=>?_) (λj k hj hkk=>hdis j k (by omega) (by omega));obtain⟨h,h',q1,q2,q3,q4⟩:=hk k (by omega);exact q3
  ·intro b hb;obtain⟨k,hk1,hk2⟩:=w8.1 hb;exact hFo k (by have:=j7.1 hk1;omega) b hk2
  ·intro k hkk;obtain⟨h,h',q1,q2,q3,q4⟩:=hk k (by omega);obtain⟨h1,h2,h3,h4⟩:=hall k (by omega) hkk;refine⟨h2, ?_⟩
   have e:((List.range rs.length).map (λk=>(vF k).1)).getD k undef=(vF k).1:=by
    have:k<rs.length:=by omega
    simp[K8,J2,T9 this]
   rw[e]
   exact(q2.noL (ρ':=λx=>x) (L':=λ_=>False) h3).mono (λ_ _ _=>rfl) (λb hb _=>⟨hb.1,λhm=>hb.2 (by
    obtain⟨j,hj1,hj2⟩:=w8.1 hm
    exact hFo j (by have:=j7.1 hj1;omega) b hj2)⟩) (λid hid=>hid.elim)
 cases hrs:fn.results.toList with
 | nil=>rw[hrs] at hend;exact many [] hrs (by simp) hend
 | cons rv rest=>
  cases rest with
  | nil=>rw[hrs] at hend;exact one rv hrs hend
  | cons rv2 rest=>rw[hrs] at hend;exact many _ hrs (by simp) hend
theorem Fn.of{gl:List (Nat×D)}{f:FuncId}{fn:Func}{c:Code}{ds:List D}{r:D}{n:Nat}(hf:P.funcs[f]? = some fn)(hb:fn.body=some c)(hnn:fn.ntmps=n)
 (hd:ds.all (λd=>!d.isRef)=true) (hn:ds.length<=n)
 (h:∀ C:Ctx,C.gl=gl->(∀ id b,C.pin id=some b->N3 [] id=true)->W P C c (Ends fn.results.toList P r) ⟨n,ini 0 ds,[]⟩):Fn P gl f ds r:=by
 subst hnn;intro w G vs hgl hl hv;refine calls_of_wp hf hb ?_
 let C:Ctx:=⟨w,λb=>b<w.heap.size,λb=>G b∨w.heap.size<=b,gl,none,λ_=>none,[]⟩
 have hget:∀ t d,(⟨fn.ntmps,ini 0 ds,[]⟩:Sg).get t=some d->∃ h:t<ds.length,ds[t]=d:=by
  intro t d hd;simp only[Sg.get,OH,g9,j9,O7] at hd;obtain⟨h,e⟩:=z8.1 hd;exact⟨h,e⟩
 have hown:∀ b,¬ own (λ_=>[]) (λ_=>[]) b:=by rintro b (⟨_,h⟩|⟨_,h⟩)<;>cases h
 have hbox:∀ id,(⟨fn.ntmps,ini 0 ds,[]⟩:Sg).box id=none:=λid=>rfl
 have st:StW C ⟨fn.ntmps,ini 0 ds,[]⟩ { tmps:=vs.toArray++Array.replicate (fn.ntmps-vs.toArray.size) undef,defers:=[] } w (λx=>x) (λ_=>[]) (λ_=>[]):=by
  refine⟨?_,rfl,(λ_ _ hp=>by cases hp), ?_,λ_ _=>rfl, ?_,λ_ _=>rfl,λ_=>w9,λ_=>w9,(λ_ _ _ _ h=>by cases h),(λ_ _ _ h=>by cases h),(λ_ _ _ _ h=>by cases h),λb hb=>absurd hb (hown b), ?_,rfl,⟨rfl,z7 _⟩,rfl,z7 _, ?_,λb hb=>.inr hb,λb hb=>absurd hb (hown b)⟩
  ·simp[hl];omega
  ·intro t d hd';obtain⟨ht,rfl⟩:=hget t d hd'
   have hr:ds[t].isRef=false:=by
    have:=o8.1 hd ds[t] (g6 ht);simpa using this
   refine(c5 hr).2 ⟨vs.getD t undef, ?_,(hv t ht).mono (λ_ _ _=>rfl) (λb hb _=>⟨.inl hb,hown b⟩) (λid hid=>hid.elim)⟩
   have htv:t<vs.length:=by omega
   rw[X2 (by simpa using htv)];simp[htv]
  ·intro id d hd';rw[hbox] at hd';cases hd'
  ·intro b hb;exact⟨rfl,hb⟩
  ·intro g d hg;obtain⟨h1,cs,e,fz,h2,h3⟩:=hgl g d hg;exact⟨(j6.1 h2).1,.inl h1,cs,e,fz,h2,h3⟩
 refine W1 ?_ (wpIn_wide.1 (h C rfl (λ_ _ hp=>by cases hp) _ w ⟨_,_,_,st⟩));rintro e a' w' ⟨σ',⟨ρ,Fe,Fb,st'⟩,he,hend⟩
 have hext:Ext w w':=⟨st'.os,⟨st'.tape.tp,st'.tape.dr⟩,st'.output,st'.grown,λb hb=>(st'.kept b hb).1⟩
 have hnew:∀ b,own Fe Fb b->w.heap.size<=b:=λb hb=>H4 (st'.new b hb)
 have key:∃ v,(results fn a'.tmps).run P w'=.ok v w'/\∃ F,F.Nodup/\(∀ b∈F,w.heap.size<=b)/\RV w' (λx=>x) (λb=>(G b∨w.heap.size<=b)/\b∉F) (λ_=>False) r v F:=by
  obtain⟨v,h1,F,h2,h3,h4⟩:=Ends.out st' ⟨he,hend⟩;have hco:∀ b,C.ok b->G b∨w.heap.size<=b:=λb hb=>hb;exact⟨v,h1,F,h2,λb hb=>hnew b (h3 b hb),h4.mono (λ_ _ _=>rfl) (λb hb _=>⟨hco b hb.1,hb.2⟩) (λid hid=>hid.elim)⟩
 obtain⟨v,h1,F,h2,h3,h4⟩:=key
 rcases he with rfl|rfl
 ·exact⟨st'.defs,v,h1,v,F,rfl,hext,h2,h3,h4⟩
 ·exact⟨st'.defs,v,h1,v,F,rfl,hext,h2,h3,h4⟩
end
section
variable{pos:String}{aft:Array Edge}{g:Option (Nat×Bool)}
variable{P:Program}{C:Ctx}{σ σ' σ1:Sg}{a:Act}{w w':World}{ρ:Nat->Nat}{Fe Fe' Fb:Nat->List Nat}
mutual
def D.brw:D->D
 | .sl _ z l=>.sl none z (QC l)
 | .agg l=>.agg (QC l)
 | .arr n z l=>.arr n z (QC l)
 | d=>d
def QC:List D->List D
 | []=>[]
 | d::r=>D.brw d::QC r
end
theorem G4(l:List D):QC l=l.map D.brw:=by
 induction l with
 | nil=>simp[QC]
 | cons d r ih=>simp[QC,ih]
mutual
theorem CL(d:D):d.brw.sz=d.sz:=by
 cases d with
 | sl o z l=>simp[D.brw,D.sz]
 | agg l=>simp only[D.brw,JM];exact PW l
 | arr n z l=>simp[D.brw]
 | _=>simp[D.brw]
theorem PW(l:List D):N6 (QC l)=N6 l:=by
 cases l with
 | nil=>simp[QC]
 | cons d r=>simp only[QC,S1,CL d,PW r]
end
theorem k55(l:List D)(k:Nat):offk (l.map D.brw) k=offk l k:=by
 unfold offk;rw[<- U8,<- G4,PW]
theorem z48(d:D):d.brw.isAgg=d.isAgg:=by cases d<;>simp[D.brw,D.isAgg]
theorem BG(d:D):d.brw.isRef=d.isRef:=by cases d<;>simp[D.brw,D.isRef]
theorem Rc.brw{G L:Nat->Prop}{p:Bool}{d:D}{cs:List Value}{F:List Nat}(h:Rc w ρ G L p d cs F)(hF:∀ b∈F,G' b)(hG:∀ b,G b->b<w.heap.size->G' b):Rc w ρ G' L p d.brw cs []:=by
 induction h with
 | bool b=>simp only[D.brw];exact .bool b
 | int n=>simp only[D.brw];exact .int n
 | u8 x=>simp only[D.brw];exact .u8 x
 | u16 x=>simp only[D.brw];exact .u16 x
 | u32 x=>simp only[D.brw];exact .u32 x
 | u64 x=>simp only[D.brw];exact .u64 x
 | ik k n=>simp only[D.brw];exact .ik k n
 | str s=>simp only[D.brw];exact .str s
 | nils=>simp only[D.brw];exact .nils
 | slN o z=>simp only[D.brw,QC];exact .slN none z
 | slE o z a=>simp only[D.brw,QC];exact .slE none z a
 | slI b off cs e fz cap z l hb hGb hc hs hr ih=>
  simp only[D.brw,G4];have hlt:b<w.heap.size:=(j6.1 hb).1
  have:=Rc.slI (ρ:=ρ) (G:=G') (L:=L) (p:=‹Bool›) b off cs e fz cap z (l.map D.brw) hb (hG b hGb hlt) (by simpa using hc) (by simpa using hs) (λi hi=>by
   have:=ih i (by simpa using hi) (by simp)
   simpa using this)
  simpa using this
 | slO b cs e cap z l Fs hb hc hm hs ho1 hr ih=>
  simp only[D.brw,G4]
  have:=Rc.slI (ρ:=ρ) (G:=G') (L:=L) (p:=‹Bool›) b 0 cs e (0,0) cap z (l.map D.brw) hb (hF b (by simp)) (by simpa using hc) (by
   have:=w6 z hc
   simp;omega) (λi hi=>by
   have:=ih i (by simpa using hi) (λb' hb'=>hF b' (j1 _ (w8.2 ⟨i,j7.2 (by simpa using hi),hb'⟩)))
   simpa using this)
  simpa using this
 | agg l cs Fs hs hr ih=>
  simp only[D.brw,G4]
  have:=Rc.agg (w:=w) (ρ:=ρ) (G:=G') (L:=L) (p:=‹Bool›) (l.map D.brw) cs (λ_=>[]) (by rw[<- G4,PW];exact hs) (λk hk=>by
   have hk':k<l.length:=by simpa using hk
   have:=ih k hk' (λb' hb'=>hF b' (w8.2 ⟨k,j7.2 hk',hb'⟩));simp only[c8,k55,CL]
   exact this)
  have e:(List.range (l.map D.brw).length).flatMap (λ_=>([]:List Nat))=[]:=by rw[J0];intros;rfl
  rw[e] at this;exact this
 | arr n z l cs hl hs hr ih=>
  simp only[D.brw,G4]
  exact .arr n z (l.map D.brw) cs (by simpa using hl) hs (λi hi=>by
   have:=ih i (by simpa using hi) (by simp)
   simpa using this)
 | ptr id off path hid=>simp only[D.brw];exact .ptr id off path hid
 | bs id z n cap hid hcap=>simp only[D.brw];exact .bs id z n cap hid hcap
 | nilp=>simp only[D.brw];exact .nilp
 | adr b=>simp only[D.brw];exact .adr b
 | rp d b off cs e fz hb hGb hs hr ih=>
  have hlt:b<w.heap.size:=(j6.1 hb).1;simp only[D.brw];exact .rp d b off cs e fz hb (hG b hGb hlt) hs (hr.mono (λ_ _ _=>rfl) (λb hb hlt=>hG b hb hlt) (λid hid=>⟨hid,rfl⟩))
 | map id hid=>simp only[D.brw];exact .map id hid
 | nilmap=>simp only[D.brw];exact .nilmap
 | fn f caps vs hl ha hr ih=>
  simp only[D.brw];exact .fn f caps vs hl ha (λk hk=>(hr k hk).mono (λ_ _ _=>rfl) (λb hb hlt=>hG b hb hlt) (λid hid=>⟨hid,rfl⟩))
 | nilf=>simp only[D.brw];exact .nilf
 | yld l=>simp only[D.brw];exact .yld l
 | ifc t d v ha hr ih=>
  simp only[D.brw];exact .ifc t d v ha (hr.mono (λ_ _ _=>rfl) (λb hb hlt=>hG b hb hlt) (λid hid=>⟨hid,rfl⟩))
 | nili=>simp only[D.brw];exact .nili
 | dead v h=>simp only[D.brw];exact .dead v h
theorem VR.brw{G L:Nat->Prop}{d:D}{v:Value}{F:List Nat}(h:VR w ρ G L d v F)(hF:∀ b∈F,G' b)(hG:∀ b,G b->b<w.heap.size->G' b):VR w ρ G' L d.brw v []:=by
 unfold VR at *;rw[z48]
 cases hd:d.isAgg<;>simp only[hd,j9,q8,q7] at h ⊢
 ·exact h.brw hF hG
 ·obtain⟨cs,rfl,h⟩:=h;exact⟨cs,rfl,h.brw hF hG⟩
inductive Bor(gl:List (Nat×D))(σ:Sg):Operand->D->Prop
 | pur {x:Operand} {d:D} (h:ev gl σ x=some d) (hp:d.pur=true) (hn:d.np=true):Bor gl σ x d
 | nils {x:Operand} {z:Nat} (h:ev gl σ x=some .nils):Bor gl σ x (.sl none z [])
 | own {x:Operand} {d d':D} (h:ev gl σ x=some d) (hr:d.isRef=false) (he:d.brw=d') (hn:d'.np=true):Bor gl σ x d'
 | al {t s:Nat} {d d':D} (h:σ.get t=some (.al s)) (h':σ.get s=some d) (hr:d.isRef=false) (he:d.brw=d') (hn:d'.np=true):Bor gl σ (.tmp t) d'
 | sc {t z:Nat} {l l':List D} (h:SC σ t z l) (he:l.map D.brw=l'):Bor gl σ (.tmp t) (.sl none z l')
 | ptr {t id off:Nat} {path:List Nat} {d0 d d':D} (h:σ.get t=some (.ptr id off path)) (hb:σ.box id=some (.var d0)) (hl:d0.loc path=some (off,d)) (he:d.brw=d') (hn:d'.np=true):Bor gl σ (.tmp t) (.rp d')
theorem Bor.ok(st:StW C σ a w ρ Fe Fb){x:Operand}{d:D}(h:Bor C.gl σ x d):VR w (λx=>x) (λb=>b<w.heap.size) (λ_=>False) d (a.eval x) []:=by
 have hlt:=st.lt
 cases h with
 | pur h hp hn=>
  obtain⟨F,hv,hF⟩:=H5 st h (D9 hp);have:=hv.pur hp;subst this;exact(hv.noL (ρ':=λx=>x) (L':=λ_=>False) hn).mono (λ_ _ _=>rfl) (λb _ hl=>hl) (λid hid=>hid.elim)
 | nils h=>
  obtain⟨F,hv,_⟩:=H5 st h rfl;simp only[VR,D.isAgg,q7,q8] at hv ⊢;rw[hv.nil_val];exact .slN none _
 | own h hr he hn=>
  obtain⟨F,hv,hF⟩:=H5 st h hr;subst he;exact(hv.brw (G':=λb=>b<w.heap.size) (λb hb=>hlt b (hF b hb)) (λb _ hl=>hl)).noL hn
 | @al t s d d' h h' hr he hn=>
  obtain⟨_,v,h1,h2⟩:=st.env _ _ h;obtain⟨v',hv',hvr⟩:=(c5 hr).1 (st.env _ _ h');rw[h2] at hv';cases hv';subst he;rw[Q3 h1];exact(hvr.brw (G':=λb=>b<w.heap.size) (λb hb=>hlt b (.inl ⟨s,hb⟩)) (λb _ hl=>hl)).noL hn
 | @sc t z l l' h he=>
  obtain⟨base,len,cap,hv,rfl,hd⟩:=CC st h;subst he;rw[Q3 hv];simp only[VR,D.isAgg,q7,q8]
  rcases hd with ⟨h1,rfl⟩|⟨b,o,cs,e,fz,rfl,hb,hc,hs,hr⟩
  ·have:l=[]:=Q4.1 h1;subst this
   cases base with
   | none=>exact .slN none z
   | some a=>exact .slE none z a
  ·have hltb:b<w.heap.size:=(j6.1 hb).1
   have:=Rc.slI (w:=w) (ρ:=λx=>x) (G:=λb=>b<w.heap.size) (L:=λ_=>False) (p:=true) b o cs e fz cap z (l.map D.brw) hb hltb (by simpa using hc) (by simpa using hs) (λi hi=>by
    obtain⟨F,hF⟩:=hr i (by simpa using hi);have:=(hF.brw (G':=λb=>b<w.heap.size) hF.lt (λb _ hl=>hl)).noL (ρ':=λx=>x) (L':=λ_=>False)
    simpa using this)
   simpa using this
 | @ptr t id off path d0 d d' h hb hl he hn=>
  obtain⟨v,hv,hr⟩:=(c5 rfl).1 (st.env _ _ h);simp only[VR,D.isAgg,q7,q8] at hr;generalize Fe t=F at hr;cases hr;obtain⟨cs,e,F',hb',hrc,_⟩:=st.bx _ _ hb;obtain⟨F2,h1,h2,h3⟩:=hrc.loc hl;subst he;rw[Q3 hv];simp only[VR,D.isAgg,q7,q8];have hltb:ρ id<w.heap.size:=(j6.1 hb').1;have h4:=h1.brw (G':=λb=>b<w.heap.size) h1.lt (λb _ hl=>hl);refine .rp _ (ρ id) off cs e _ hb' hltb (by rw[CL];simpa using h3) ?_;rw[CL];exact(h4.unflag hn).noL
inductive Bors(gl:List (Nat×D))(σ:Sg):List Operand->List D->Prop
 | nil:Bors gl σ [] []
 | cons {x:Operand} {d:D} {xs:List Operand} {ds:List D} (h:Bor gl σ x d) (t:Bors gl σ xs ds):Bors gl σ (x::xs) (d::ds)
theorem Bors.len{gl:List (Nat×D)}{xs:List Operand}{ds:List D}(h:Bors gl σ xs ds):xs.length=ds.length:=by
 induction h with
 | nil=>rfl
 | cons h t ih=>simp[ih]
theorem Bors.ok(st:StW C σ a w ρ Fe Fb){xs:List Operand}{ds:List D}(h:Bors C.gl σ xs ds) :
 ∀ k (hk:k<ds.length),VR w (λx=>x) (λb=>b<w.heap.size) (λ_=>False) ds[k] ((xs.map a.eval).getD k undef) []:=by
 induction h with
 | nil=>intro k hk;simp at hk
 | cons h t ih=>
  intro k hk
  cases k with
  | zero=>simpa using h.ok st
  | succ k=>simpa using ih k (by simpa using hk)
theorem KT{f:FuncId}{fn:Func}(hf:P.funcs[f]? = some fn)(hb:fn.body.isSome=true)(hn:(fn.name == "runtime.NumGoroutine")=false)(vs:Array Value)(w:World) :
 (callFunc f vs).run P w=.ok (.enter f vs) w:=by
 unfold callFunc
 have h1:fn.body≠none:=by intro h;simp[h] at hb
 have h2:¬ fn.name = "runtime.NumGoroutine":=by simpa using hn
 simp[program,hf,h1,h2,Sem.run]
class CaT(P:Program)(f:FuncId):Prop where
 i:∃ fn,P.funcs[f]? = some fn/\fn.body.isSome=true/\(fn.name == "runtime.NumGoroutine")=false
theorem DK{f:FuncId}[h:CaT P f]{t:Option Nat}{args:Array Operand}{tys:Array TypeId}{rt:TypeId}(a:Act)(w:World) :
 (execOp a.eval ⟨t,.call { callee:=.value (.func f),args:=args,argTypes:=tys },rt,pos,aft,g⟩).run P w=.ok (.enter f (args.map a.eval)) w:=by
 obtain⟨fn,h1,h2,h3⟩:=h.i;unfold execOp;simp[resolve,Act.eval,Deferred.ofValue,invoke,KT h1 h2 h3]
theorem JL{C:Ctx}{n:Nat}{f:FuncId}{args:Array Value}{w:World}{R:Ending->World->Prop}(h:Calls P f args w R):CallsIn (Fx C) n P f args w R:=(callsIn_wide (n:=n)).2 h
theorem PD(st:StW C σ a w ρ Fe Fb)(g:Nat)(d:D)(h:(g,d)∈C.gl) :
 gd C Fe Fb g/\∃ cs e fz,w.heap[g]? = some (.cells cs e fz)/\Rc w (λx=>x) (λ_=>False) (λ_=>False) false d cs.toList []:=by
 obtain⟨h1,h2,cs,e,fz,h3,h4⟩:=st.gl g d h;refine⟨⟨h2,λho=>st.new g ho h1⟩,cs,e,fz,(st.kept g h1).1.trans h3,h4.mono (λb hb _=>?_) (λ_ h _=>h.elim) (λ_ h=>h.elim)⟩
 rcases hb with hb|hb
 ·exact hb.elim
 ·cases hb
theorem R.call{f:FuncId}[CaT P f]{t:Nat}{args:List Operand}{tys:Array TypeId}{rt:TypeId}{ds:List D}{r:D}
 (hF:Fn P C.gl f ds r) (hb:Bors C.gl σ args ds) (hr:FrsR r) (ht:t<σ.n) :
 OpS P C ⟨some t,.call { callee:=.value (.func f),args:=args.toArray,argTypes:=tys },rt,pos,aft,g⟩ σ (σ.set t r):=by
 intro a w ⟨ρ,Fe,Fb,st⟩ K Q hK;refine O0 (DK a w) (by simp) ?_;rw[Oper.uponIn_enter]
 have hc:=hF w (λb=>b<w.heap.size) (args.map a.eval) (λg d hg=>by
  obtain⟨_,cs,e,fz,h1,h2⟩:=PD st g d hg
  exact⟨(j6.1 h1).1,cs,e,fz,h1,h2⟩) (by simp[hb.len]) (hb.ok st)
 simp only[A9];refine⟨(λh=>by cases h),(JL (Calls.mono hc ?_))⟩;rintro e w' ⟨v,F,rfl,hext,hnd,hnew,hv⟩;refine hK _ _ ⟨ρ,upd Fe t F,Fb,st.ext ht hext hnd hnew ?_⟩
 have hput:(a.put (some t) v).tmps[t]? = some v:=by rw[Y0 a t v t (by rw[st.size];exact ht)];simp
 refine CP ?_ hput;refine hv.map Frs hr (λd v F' hF' hd hx=>?_);have h1:=hx.frs (G':=λ_=>False) hd;exact h1.mono (λ_ _ _=>rfl) (λb hb _=>hb.elim) (λid hid=>hid.elim)
theorem R.callP{f:FuncId}[CaT P f]{t:Nat}{args:List Operand}{tys:Array TypeId}{rt:TypeId}{ds:List D}{r:D}
 (hF:Fn P C.gl f ds r) (hl:args.length=ds.length) (hb:∀ k (h:k<args.length) (h':k<ds.length),ev C.gl σ args[k]=some ds[k]/\ds[k].pur=true/\ds[k].np=true) (ht:t<σ.n) :
 OpS P C ⟨some t,.call { callee:=.value (.func f),args:=args.toArray,argTypes:=tys },rt,pos,aft,g⟩ σ (σ.set t r):=by
 intro a w ⟨ρ,Fe,Fb,st⟩ K Q hK;refine O0 (DK a w) (by simp) ?_;rw[Oper.uponIn_enter]
 have hc:=hF w (gd C Fe Fb) (args.map a.eval) (PD st) (by simp[hl]) (λk hk=>by
  have hk':k<args.length:=by omega
  obtain⟨h1,h2,h3⟩:=hb k hk' hk;obtain⟨F,hv,_⟩:=H5 st h1 (D9 h2);have:=hv.pur h2;subst this
  have e:(args.map a.eval).getD k undef=a.eval args[k]:=by simp[K8,hk']
  rw[e]
  exact hv.noL h3)
 simp only[A9];refine⟨(λh=>by cases h),(JL (Calls.mono hc ?_))⟩;rintro e w' ⟨v,F,rfl,hext,hnd,hnew,hv⟩;refine hK _ _ ⟨ρ,upd Fe t F,Fb,st.ext ht hext hnd hnew ?_⟩
 have hput:(a.put (some t) v).tmps[t]? = some v:=by rw[Y0 a t v t (by rw[st.size];exact ht)];simp
 refine CP ?_ hput;refine hv.mono (λ_ _ _=>rfl) (λb hb hl=>?_) (λid hid=>hid.elim);have hlt:=st.lt
 have hno:∀ b,own Fe Fb b->¬ ((gd C Fe Fb b∨w.heap.size<=b)):=λb ho hb=>by
  rcases hb with hb|hb
  ·exact hb.2 ho
  ·have:=hlt b ho;omega
 refine⟨hb.1.elim (λh=>h.1) (λh=>st.okN b h), ?_⟩;rintro (⟨u,hu⟩|ho)
 ·by_cases hut:u=t
  ·subst hut;simp at hu;exact hb.2 hu
  ·rw[j2 hut] at hu;exact hno b (.inl ⟨u,hu⟩) hb.1
 ·exact hno b (.inr ho) hb.1
end
section
variable{P:Program}{C:Ctx}{σ σ' σ1:Sg}{a:Act}{w w':World}{ρ:Nat->Nat}{Fe Fe' Fb:Nat->List Nat}
theorem w08{G L:Nat->Prop}{u:Nat}{d:D}{F:List Nat}(h:SR w ρ G L a u d F)
 (hh:∀ b,b<w.heap.size->w'.heap[b]? = w.heap[b]?) (hg:∀ b,G b->b<w.heap.size->G' b) (hL:∀ i,L i->L' i):SR w' ρ G' L' a u d F:=by
 have hL2:∀ i,L i->L' i/\ρ i=ρ i:=λi hi=>⟨hL i hi,rfl⟩
 cases d with
 | al s=>exact h
 | alb i off path=>
  obtain⟨hF,hid,x,hx,hs⟩:=h;exact⟨hF,hL i hid,x,hx,by rw[<- hs];exact World.cell?_of_block (hh _ (block_lt_of_cell hs))⟩
 | vw s z lo n=>exact h
 | va i off z n path lo=>exact⟨h.1,hL i h.2.1,h.2.2⟩
 | ep s z i off path=>exact h
 | tup ds=>
  obtain⟨vs,Fs,h1,h2,h3,h4⟩:=h;exact⟨vs,Fs,h1,h2,h3,λk hk=>(h4 k hk).imp (λhx=>hx) λhx=>⟨hx.1,hx.2.mono (λb _=>hh b) hg hL2⟩⟩
 | dead=>exact h
 | _=>obtain⟨x,hx,hr⟩:=h;exact⟨x,hx,hr.mono (λb _=>hh b) hg hL2⟩
theorem St.ext(h:St C σ a w)(hw:Ext w w'):St C σ a w':=by
 obtain⟨ρ,Fe,Fb,h⟩:=h
 exact⟨ρ,Fe,Fb,h.size,h.defs,h.pin,λt d hd=>w08 (h.env t d hd) hw.block (λ_ hb _=>hb) (λ_ hi=>hi),h.envN,
  λid d hd=>(h.bx id d hd).mono (λb _=>hw.block b) (λ_ hb _=>hb) (λ_ hi=>⟨hi,rfl⟩),h.bxN,h.nodE,h.nodB,h.dEE,h.dEB,h.dBB,h.new,
  λb hb=>⟨(hw.block b (u0 (h.kept b hb).2 h.grown)).trans (h.kept b hb).1,(h.kept b hb).2⟩,hw.os.trans h.os,hw.tape.trans h.tape,hw.output.trans h.output,u9 h.grown hw.size,h.gl,λb hb=>h.okN b (u9 hw.size hb),h.okO⟩
theorem St.unwanted{t:Nat}(h:St C σ a w)(ht:t<σ.n):St C (σ.set t (.tup [])) (a.put (some t) undef) w:=by
 obtain⟨ρ,Fe,Fb,h⟩:=h;refine h.putRef ht ⟨[],λ_=>[], ?_,rfl,rfl,λk hk=>absurd hk (Q8 _)⟩;rw[Y0 a t _ t (by rw[h.size];exact ht)];simp[undef]
theorem St.bool{t:Nat}{b:Bool}(h:St C σ a w)(hg:σ.get t=some (.bool b)):a.tmps[t]? = some (.bool b):=by
 obtain⟨ρ,Fe,Fb,h⟩:=h;obtain⟨v,hv,hr⟩:=(c5 rfl).1 (h.env t _ hg);simp only[VR,D.isAgg,q7,q8] at hr;generalize Fe t=F at hr;cases hr;exact hv
theorem St.tup0{t:Nat}(h:St C σ a w)(hg:σ.get t=some (.tup [])):a.tmps[t]? = some (.tuple #[]):=by
 obtain⟨ρ,Fe,Fb,h⟩:=h;obtain⟨vs,Fs,h1,h2,_⟩:=h.env t _ hg;have:vs=[]:=Q4.1 h2;subst this;exact h1
def Wt(ops:List Oper)(look:Nat->Option D)(o:Oper)(wt:Bool):Prop:=
 match o.guard with
 | none=>wt=true
 | some (g,want)=>∃ og tg,ops[g]? = some og/\og.dst=some tg/\((∃ b,look tg=some (.bool b)/\wt=(b==want))∨(look tg=some (.tup [])/\wt=false))
theorem Wt.ok{ops:List Oper}{look:Nat->Option D}{o:Oper}{wt:Bool}(h:Wt ops look o wt)(hs:St C σ a w)(hl:∀ u x,look u=some x->σ.get u=some x) :
 Region.wanted o (yielded ops.toArray a.tmps)=wt:=by
 unfold Wt at h;unfold Region.wanted
 cases hg:o.guard with
 | none=>rw[hg] at h;exact h.symm
 | some gw=>
  obtain⟨g,want⟩:=gw;rw[hg] at h;obtain⟨og,tg,h1,h2,h3⟩:=h;simp only[yielded,H0,h1,Option.bind_some,h2]
  rcases h3 with ⟨b,h4,rfl⟩|⟨h4,rfl⟩
  ·rw[hs.bool (hl _ _ h4)]
   cases b<;>cases want<;>rfl
  ·rw[hs.tup0 (hl _ _ h4)]
   cases want<;>rfl
theorem U4{ops:List Oper}{o:Oper}{l:List Oper}{Q:Exit->Sg->Prop}(hw:Wt ops σ.get o true)(h:OpS P C o σ σ')(k:WL P C ops.toArray l Q σ'):WL P C ops.toArray (o::l) Q σ:=by
 intro a w hs;simp only[wpListIn,hw.ok hs (λ_ _ h=>h),j9];exact h a w hs _ _ (λa' w' hs'=>k a' w' hs')
def tb(m n:Nat):Bool:=Nat.beq (Nat.mod (Nat.div m (Nat.pow 2 n)) 2) 1
def nth(an:List Nat)(i:Nat):Nat:=
 match an,i with
 | [],_=>0
 | x::_,0=>x
 | _::r,i+1=>nth r i
structure It where
 t:Nat
 d:D
 w:Bool
def looks(f:Nat->Nat)(env:List (Nat×D)):List It->Nat->Nat->Option D
 | [],_,u=>lk env u
 | ⟨t,d,w⟩::r,j,u=>bif Nat.beq t u then
  (match f j with
  | 0=>none
  | 1=>lk env u
  | _=>bif w then some d else some (.tup []))
  else looks f env r (j+1) u
def bads(f:Nat->Bool):List (Nat×Nat)->Nat->Bool
 | [],_=>false
 | (k,s)::r,u=>bif Nat.beq s u then(bif f k then true else bads f r u) else bads f r u
def q16:List It->Nat->Nat->Option Nat
 | [],_,_=>none
 | ⟨t,_,_⟩::r,j,u=>bif Nat.beq t u then some j else q16 r (j+1) u
def cov(an:List Nat)(g:Nat->Bool)(its:List It)(u k:Nat):Bool:=
 match q16 its 0 u with
 | some j=>g j&&tb (nth an j) k
 | none=>false
def facts(an:List Nat)(ks:List (Nat×Nat))(env:List (Nat×D))(its:List It)(i u:Nat):Option D:=
 bif bads (λk=>!(Nat.beq k i)&&!(tb (nth an k) i)&&!(cov an (λj=>tb (nth an i) j) its u k)) ks u then none
 else looks (λj=>bif tb (nth an i) j then 2 else bif tb (nth an j) i then 1 else 0) env its 0 u
def afts(an:List Nat)(dn:Nat->Bool)(ks:List (Nat×Nat))(env:List (Nat×D))(its:List It)(u:Nat):Option D:=
 bif bads (λk=>dn k&&!(cov an dn its u k)) ks u then none else looks (λj=>bif dn j then 2 else 1) env its 0 u
def ZX(σ:Sg):List (Nat×Nat)->Nat->Sg
 | [],_=>σ
 | (k,s)::r,i=>bif Nat.beq k i then ZX (σ.kill s) r i else ZX σ r i
def AllOps(P:Program)(C:Ctx)(σ:Sg)(ops:List Oper)(an:List Nat)(ks kk:List (Nat×Nat))(its:List It):List Oper->List It->Nat->Prop
 | o::os,⟨t,d,wt⟩::r,i=>(o.dst=some t/\Wt ops (facts an ks σ.env its i) o wt /\
  (wt=true->∀ τ:Sg,(∀ id x,lk σ.bx id=some x->τ.box id=some x)->t<τ.n->(∀ u x,facts an ks σ.env its i u=some x->τ.get u=some x)->OpS P C o τ ((ZX τ kk i).set t d)))/\AllOps P C σ ops an ks kk its os r (i+1)
 | [],_::_,_=>False
 | _,[],_=>True
def picks(f:Nat->Option D):List Nat->List (Nat×D)
 | []=>[]
 | u::r=>match f u with
  | some d=>(u,d)::picks f r
  | none=>picks f r
theorem l5{f:Nat->Option D}{l:List Nat}{u:Nat}{x:D}(h:lk (picks f l) u=some x):f u=some x:=by
 induction l with
 | nil=>cases h
 | cons v r ih=>
  simp only[picks] at h
  cases hf:f v with
  | none=>rw[hf] at h;exact ih h
  | some d=>
   rw[hf] at h;rw[U2] at h;split at h
   ·rename_i hv;subst hv;rw[hf];exact h
   ·exact ih h
theorem St.picks{env':List (Nat×D)}{bx':List (Nat×Bx)}{n':Nat}(hs:St C σ a w)(hE:picks σ.get live=env')(hb:σ.bx=bx')(hn:σ.n=n'):St C ⟨n',env',bx'⟩ a w:=
 hs.weaken hn.symm hb.symm λt d hd=>l5 (f:=σ.get) (l:=live) (by rw[hE];exact hd)
def TL(P:Program)(C:Ctx)(Q:Exit->Sg->Prop):List Oper->Sg->Prop
 | [],σ=>∃ (live:List Nat) (env':List (Nat×D)) (bx':List (Nat×Bx)) (n':Nat),picks σ.get live=env'/\σ.bx=bx'/\σ.n=n'/\Q .normal ⟨n',env',bx'⟩
 | o::r,σ=>o.guard=none/\∃ σ',OpS P C o σ σ'/\TL P C Q r σ'
def YU(ops:List Oper)(an:List Nat)(m:Nat):Bool:=
 (List.range ops.length).all λi=>match ops[i]? with
  | none=>true
  | some o=>(o.after.toList.all λe=>!Region.binds .any e||Nat.blt e.on i) &&
   (List.range ops.length).all λj=>(!tb (nth an i) j||o.after.toList.any λe=>Region.binds .any e&&(Nat.beq e.on j||tb (nth an e.on) j))&&(Nat.blt i m||!Nat.blt j i||tb (nth an i) j)
def TY(n:Nat):List Nat->Bool
 | []=>true
 | t::r=>Nat.blt t n&&!(r.contains t)&&TY n r
def slots:List It->List Nat
 | []=>[]
 | ⟨t,_,_⟩::r=>t::slots r
def D.rf:D->Option Nat
 | .al s=>some s
 | .vw s _ _ _=>some s
 | .ep s _ _ _ _=>some s
 | _=>none
def has:List (Nat×Nat)->Nat->Nat->Bool
 | [],_,_=>false
 | (a,b)::r,x,y=>bif Nat.beq a x then(bif Nat.beq b y then true else has r x y) else has r x y
def subs:List (Nat×Nat)->List (Nat×Nat)->Bool
 | [],_=>true
 | (a,b)::r,l=>has l a b&&subs r l
theorem BD{l:List (Nat×Nat)}{x y:Nat}(h:has l x y=true):(x,y)∈l:=by
 induction l with
 | nil=>cases h
 | cons p r ih=>
  obtain⟨a,b⟩:=p;simp only[has] at h;by_cases h1:a=x
  ·subst h1;simp only[Z8,m9] at h;by_cases h2:b=y
   ·subst h2;simp
   ·rw[nbeq h2] at h;exact j1 _ (ih h)
  ·rw[nbeq h1] at h;exact j1 _ (ih h)
theorem IA{l m:List (Nat×Nat)}(h:subs l m=true):∀ k s,(k,s)∈l->(k,s)∈m:=by
 induction l with
 | nil=>intro k s hm;cases hm
 | cons p r ih=>
  obtain⟨a,b⟩:=p;simp only[subs,u6] at h;intro k s hm
  rcases w5.1 hm with he|hm
  ·cases he;exact BD h.1
  ·exact ih h.2 k s hm
def q63(an:List Nat)(ks:List (Nat×Nat))(j tj s:Nat):List Nat->Nat->Bool
 | [],_=>true
 | t::r,i=>(bif Nat.beq t s then(bif tb (nth an j) i then true else has ks i tj) else true)&&q63 an ks j tj s r (i+1)
def PG(an:List Nat)(ks:List (Nat×Nat))(ts:List Nat):List It->Nat->Bool
 | [],_=>true
 | ⟨t,d,_⟩::r,j=>(match d.rf with
  | none=>true
  | some s=>q63 an ks j t s ts 0)&&PG an ks ts r (j+1)
def q69(s:Nat):List Nat->Bool
 | []=>true
 | t::r=>!(Nat.beq t s)&&q69 s r
def PH(ts:List Nat):List (Nat×D)->Bool
 | []=>true
 | (_,d)::r=>(match d.rf with
  | none=>true
  | some s=>q69 s ts)&&PH ts r
theorem SH{t:Nat}{d:D}(h:d.rf≠some t):scrub t d=d:=by
 cases d with
 | al s=>simp only[scrub];rw[nbeq (λe=>h (by simp[D.rf,e]))];rfl
 | vw s _ _ _=>simp only[scrub];rw[nbeq (λe=>h (by simp[D.rf,e]))];rfl
 | ep s _ _ _ _=>simp only[scrub];rw[nbeq (λe=>h (by simp[D.rf,e]))];rfl
 | _=>rfl
theorem k62{s:Nat}{ts:List Nat}(h:q69 s ts=true):s∉ts:=by
 induction ts with
 | nil=>simp
 | cons t r ih=>
  simp only[q69,u6,D1] at h;intro hm
  rcases w5.1 hm with rfl|hm
  ·simp at h
  ·exact ih h.2 hm
theorem DH{ts:List Nat}{env:List (Nat×D)}(h:PH ts env=true){u:Nat}{x:D}(hx:lk env u=some x){t:Nat}(ht:t∈ts):x.rf≠some t:=by
 induction env with
 | nil=>cases hx
 | cons y r ih=>
  obtain⟨k,d⟩:=y;simp only[PH,u6] at h;rw[U2] at hx;split at hx
  ·cases hx;intro he;rw[he] at h;exact k62 h.1 ht
  ·exact ih h.2 hx
theorem k38{an:List Nat}{ks:List (Nat×Nat)}{j tj s:Nat}{ts:List Nat}{i0:Nat}(h:q63 an ks j tj s ts i0=true){i:Nat}(hi:ts[i]? = some s):tb (nth an j) (i0+i)=true∨(i0+i,tj)∈ks:=by
 induction ts generalizing i0 i with
 | nil=>simp at hi
 | cons t r ih=>
  simp only[q63,u6] at h
  cases i with
  | zero=>
   simp at hi;subst hi;have h1:=h.1;simp only[Z8,m9] at h1
   cases ht:tb (nth an j) i0 with
   | true=>exact .inl (by simp)
   | false=>rw[ht] at h1;exact .inr (by simpa using BD h1)
  | succ i=>have:=ih h.2 (i:=i) (by simpa using hi);rw[show i0+(i+1)=i0+1+i by omega];exact this
theorem TG{an:List Nat}{ks:List (Nat×Nat)}{ts:List Nat}{its:List It}{j0:Nat}(h:PG an ks ts its j0=true){k t i s:Nat}{d:D}{wt:Bool}(hk:its[k]? = some ⟨t,d,wt⟩)(hs:d.rf=some s)(hi:ts[i]? = some s) :
 tb (nth an (j0+k)) i=true∨(i,t)∈ks:=by
 induction its generalizing j0 k with
 | nil=>simp at hk
 | cons y r ih=>
  obtain⟨t',d',w'⟩:=y;simp only[PG,u6] at h
  cases k with
  | zero=>
   simp at hk;obtain⟨rfl,rfl,rfl⟩:=hk;rw[hs] at h;have:=k38 h.1 hi;simpa using this
  | succ k=>have:=ih h.2 (k:=k) (by simpa using hk);rw[show j0+(k+1)=j0+1+k by omega];exact this
theorem I8(its:List It)(k:Nat):(slots its)[k]? = (its[k]?).map (·.t):=by
 induction its generalizing k with
 | nil=>simp[slots]
 | cons y r ih=>
  obtain⟨t,d,wt⟩:=y
  cases k with
  | zero=>simp[slots]
  | succ k=>simp[slots,ih]
theorem T2{n:Nat}{ts:List Nat}(h:TY n ts=true):ts.Nodup/\∀ t∈ts,t<n:=by
 induction ts with
 | nil=>simp
 | cons t r ih=>
  simp only[TY,u6,D1] at h;have h1:=ih h.2
  have h2:t<n:=by simpa [Nat.blt_eq] using h.1.1
  refine⟨v3.2 ⟨by simpa using h.1.2,h1.1⟩,λx hx=>?_⟩
  rcases w5.1 hx with rfl|hx
  ·exact h2
  ·exact h1.2 x hx
theorem P0{f:Nat->Nat}{env:List (Nat×D)}{its:List It}{j u:Nat}(h:u∉slots its):looks f env its j u=lk env u:=by
 induction its generalizing j with
 | nil=>rfl
 | cons y r ih=>
  obtain⟨t,d,wt⟩:=y;simp only[slots,w5,not_or] at h;simp only[looks];rw[nbeq (λe=>h.1 e.symm)];exact ih h.2
theorem O1{f:Nat->Nat}{env:List (Nat×D)}{its:List It}{j u k:Nat}{d:D}{wt:Bool}(hn:(slots its).Nodup)(hk:its[k]? = some ⟨u,d,wt⟩) :
 looks f env its j u=(match f (j+k) with
  | 0=>none
  | 1=>lk env u
  | _=>bif wt then some d else some (.tup [])):=by
 induction its generalizing j k with
 | nil=>simp at hk
 | cons y r ih=>
  obtain⟨t,d',wt'⟩:=y;simp only[slots,v3] at hn
  cases k with
  | zero=>
   simp at hk;obtain⟨rfl,rfl,rfl⟩:=hk;simp[looks]
  | succ k=>
   have hk':r[k]? = some ⟨u,d,wt⟩:=by simpa using hk
   have hm:u∈slots r:=by
    have:=I8 r k;rw[hk'] at this;exact Y6 this
   simp only[looks];rw[nbeq (show ¬ t=u from λe=>hn.1 (by rw[e];exact hm))];simp only[d7];rw[ih hn.2 hk',show j+(k+1)=j+1+k by omega]
theorem B9(its:List It)(u:Nat):u∉slots its∨∃ (k:Nat) (d:D) (wt:Bool),its[k]? = some (⟨u,d,wt⟩:It):=by
 by_cases h:u∈slots its
 ·obtain⟨k,hk⟩:=List.getElem?_of_mem h;rw[I8] at hk
  cases hi:its[k]? with
  | none=>rw[hi] at hk;simp at hk
  | some it=>
   rw[hi] at hk;obtain⟨t,d,wt⟩:=it;simp at hk;subst hk;exact .inr ⟨k,d,wt,hi⟩
 ·exact .inl h
theorem T4{f:Nat->Bool}{ks:List (Nat×Nat)}{u:Nat}:bads f ks u=false↔∀ k s,(k,s)∈ks->s=u->f k=false:=by
 induction ks with
 | nil=>simp[bads]
 | cons y r ih=>
  obtain⟨k,s⟩:=y;simp only[bads];by_cases hs:s=u
  ·subst hs;simp only[Z8,m9]
   cases hf:f k with
   | true=>
    simp only[m9];constructor
    ·intro h;cases h
    ·intro h;have:=h k s (by simp) rfl;rw[hf] at this;exact this
   | false=>
    simp only[d7,ih];constructor
    ·intro h k' s' hm hs'
     rcases w5.1 hm with he|hm
     ·cases he;exact hf
     ·exact h k' s' hm hs'
    ·intro h k' s' hm hs';exact h k' s' (j1 _ hm) hs'
  ·simp only[nbeq hs,d7,ih];constructor
   ·intro h k' s' hm hs'
    rcases w5.1 hm with he|hm
    ·cases he;exact absurd hs' hs
    ·exact h k' s' hm hs'
   ·intro h k' s' hm hs';exact h k' s' (j1 _ hm) hs'
theorem BU{σ:Sg}{ks:List (Nat×Nat)}{i u:Nat}(h:∀ k s,(k,s)∈ks->s=u->k≠i):(ZX σ ks i).get u=σ.get u:=by
 induction ks generalizing σ with
 | nil=>rfl
 | cons y r ih=>
  obtain⟨k,s⟩:=y;simp only[ZX];by_cases hk:k=i
  ·subst hk;simp only[Z8,m9];rw[ih (λk' s' hm hs'=>h k' s' (j1 _ hm) hs'),JE];have:¬ u=s:=λe=>h k s (by simp) e.symm rfl;simp[this]
  ·simp only[nbeq hk,d7];exact ih (λk' s' hm hs'=>h k' s' (j1 _ hm) hs')
theorem LH(σ:Sg)(ks:List (Nat×Nat))(i:Nat):(ZX σ ks i).n=σ.n/\(ZX σ ks i).bx=σ.bx:=by
 induction ks generalizing σ with
 | nil=>exact⟨rfl,rfl⟩
 | cons y r ih=>
  obtain⟨k,s⟩:=y;simp only[ZX];by_cases hk:k=i
  ·subst hk;simp only[Z8,m9];exact ih _
  ·simp only[nbeq hk,d7];exact ih _
theorem AllOps.at{ops:List Oper}{an:List Nat}{ks kk:List (Nat×Nat)}{its:List It}:∀ {os:List Oper} {r:List It} {i0:Nat},AllOps P C σ ops an ks kk its os r i0->∀ {k:Nat} {t:Nat} {d:D} {wt:Bool},r[k]? = some ⟨t,d,wt⟩ ->
 ∃ o,os[k]? = some o/\o.dst=some t/\Wt ops (facts an ks σ.env its (i0+k)) o wt /\
  (wt=true->∀ τ:Sg,(∀ id x,lk σ.bx id=some x->τ.box id=some x)->t<τ.n->(∀ u x,facts an ks σ.env its (i0+k) u=some x->τ.get u=some x)->OpS P C o τ ((ZX τ kk (i0+k)).set t d)):=by
 intro os r
 induction r generalizing os with
 | nil=>intro i0 _ k t d wt hk;simp at hk
 | cons y r ih=>
  intro i0 h k t d wt hk;obtain⟨t',d',w'⟩:=y
  cases os with
  | nil=>exact h.elim
  | cons o os=>
   cases k with
   | zero=>
    simp at hk;obtain⟨rfl,rfl,rfl⟩:=hk;exact⟨o,rfl,h.1⟩
   | succ k=>
    obtain⟨o',h1,h2⟩:=ih h.2 (k:=k) (by simpa using hk);rw[show i0+(k+1)=i0+1+k by omega];exact⟨o',by simpa using h1,h2⟩
structure ItOk(P:Program)(C:Ctx)(σ:Sg)(ops:List Oper)(an:List Nat)(ks kk:List (Nat×Nat))(its:List It):Prop where
 len:its.length<=ops.length
 ts:TY σ.n (slots its)=true
 all:AllOps P C σ ops an ks kk its ops its 0
 ref:PG an ks (slots its) its 0=true
 sub:subs kk ks=true
 env:PH (slots its) σ.env=true
section
variable{listed:Array Bool}{ops:List Oper}{an:List Nat}{ks kk:List (Nat×Nat)}{its:List It}{Q:Exit->Sg->Prop}
theorem I9{m:Nat}(h:YU ops an m=true){i:Nat}{o:Oper}(ho:ops[i]? = some o) :
 (∀ e∈o.after,Region.binds .any e=true->e.on<i) /\
 ∀ j,j<ops.length->(tb (nth an i) j=true->∃ e∈o.after,Region.binds .any e=true/\(e.on=j∨tb (nth an e.on) j=true))/\(m<=i->j<i->tb (nth an i) j=true):=by
 have hi:i<ops.length:=(z8.1 ho).1;have:=o8.1 h i (j7.2 hi);rw[ho] at this;simp only[u6,o8,j7] at this;obtain⟨h1,h2⟩:=this;refine⟨λe he hb=>?_,λj hj=>?_⟩
 ·have:=h1 e (by simpa using he);simpa [hb,Nat.blt_eq] using this
 ·obtain⟨h3,h4⟩:=h2 j hj;refine⟨λht=>?_,λhm hj'=>?_⟩
  ·rw[ht] at h3;simp only[Bool.not_true,Bool.false_or,Z4,u6,Y2] at h3;obtain⟨e,he,hb,h5⟩:=h3;exact⟨e,by simpa using he,hb,h5.imp (λh=>m8 h) id⟩
  ·have e1:Nat.blt i m=false:=by
    cases hb:Nat.blt i m with
    | false=>rfl
    | true=>rw[Nat.blt_eq] at hb;omega
   have e2:Nat.blt j i=true:=by rw[Nat.blt_eq];exact hj'
   simpa [e1,e2] using h4
structure Cl(ops:List Oper)(listed:Array Bool):Prop where
 size:listed.size=ops.length
 cl:∀ i o,ops[i]? = some o->listed.getD i false=true->∀ e∈o.after,Region.binds .any e=true->listed.getD e.on false=true
theorem Cl.anc{m:Nat}(hc:Cl ops listed)(h:YU ops an m=true):∀ i,i<ops.length->listed.getD i false=true->∀ j,j<ops.length->tb (nth an i) j=true->listed.getD j false=true:=by
 intro i
 induction i using Nat.strongRecOn with
 | _ i ih=>
  intro hi hd j hj ht;have ho:ops[i]? = some ops[i]:=j8 hi;obtain⟨h1,h2⟩:=I9 h ho;obtain⟨e,he,hb,h3⟩:=(h2 j hj).1 ht;have hd':=hc.cl i _ ho hd e he hb
  rcases h3 with rfl|h3
  ·exact hd'
  ·have:=h1 e he hb;exact ih e.on this (by omega) hd' j hj h3
theorem N4{listed:Array Bool}{i:Nat}(h:listed.getD i false=true):i<listed.size:=by
 rcases X9 i listed.size with h'|h'
 ·exact h'
 ·simp[I7 h'] at h
theorem undone{listed:Array Bool}{i:Nat}(h:listed.getD i true=false):i<listed.size/\listed.getD i false=false:=by
 rcases X9 i listed.size with h'|h'
 ·simp[h'] at h ⊢;exact h
 ·simp[I7 h'] at h
theorem Cl.set(hc:Cl ops listed){i:Nat}{o:Oper}(ho:ops[i]? = some o)(hr:∀ e∈o.after,Region.binds .any e=true->listed.getD e.on false=true):Cl ops (listed.setIfInBounds i true):=by
 refine⟨by simp[hc.size],λj oj hj hd e he hb=>?_⟩;by_cases hji:i=j
 ·subst hji;rw[ho] at hj;cases hj;exact getD_set_true (hr e he hb)
 ·rw[getD_set_ne false hji] at hd;exact getD_set_true (hc.cl j oj hj hd e he hb)
theorem count_set{listed:Array Bool}{i:Nat}(h:listed.getD i true=false):(listed.setIfInBounds i true).toList.count false+1=listed.toList.count false:=by
 obtain⟨h1,h2⟩:=undone h;simp only[Array.toList_setIfInBounds];rw[List.count_set (by simpa using h1)]
 have h3:listed.toList[i]'(by simpa using h1)=false:=by simp[h1] at h2;simpa using h2
 have h4:0<listed.toList.count false:=List.count_pos_iff.2 (by rw[<- h3];exact g6 _);have e1:(false==false)=true:=rfl;have e2:(true==false)=false:=rfl;simp only[h3,e1,e2,j9,q7,q8];omega
theorem UA{listed:Array Bool}(h:listed.toList.count false=0)(i:Nat):listed.getD i true=true:=by
 rcases X9 i listed.size with h'|h'
 ·cases hb:listed[i] with
  | true=>simp[h',hb]
  | false=>
   have:=List.count_eq_zero.1 h;exact absurd (by rw[<- hb];simp) this
 ·simp[I7 h']
theorem JH{m:Nat}(hok:YU ops an m=true):∀ (l:List Oper) (k:Nat) (fuel:Nat) (listed:Array Bool) (a:Act) (w:World) (σ:Sg),ops.drop k=l->m<=k->k<=ops.length->Cl ops listed->listed.toList.count false<=fuel ->
 (∀ j,j<k->listed.getD j false=true)->(∀ j,k<=j->j<ops.length->listed.getD j true=false)->St C σ a w->TL P C Q l σ ->
 wpAnyIn (Fx C) 3 P .any ops.toArray (λe a' w'=>∃ σ',St C σ' a' w'/\Q e σ') fuel listed a w:=by
 intro l
 induction l with
 | nil=>
  intro k fuel listed a w σ hl hmk hkl hc hf h1 h2 hs ht
  have hk:k=ops.length:=by
   have:=g8 List.length hl;simp at this;omega
  have hr:Region.ready .any ops.toArray listed=[]:=by
   rw[List.eq_nil_iff_forall_not_mem];intro i hi;obtain⟨h3,o,h4,h5⟩:=mem_ready.1 hi;obtain⟨h6,h7⟩:=undone h3;rw[hc.size] at h6;rw[h1 i (by omega)] at h7;cases h7
  obtain⟨live,env',bx',n',p1,p2,p4,p3⟩:=ht;exact wpAnyIn_done hr ⟨_,hs.picks p1 p2 p4,p3⟩ fuel
 | cons o l ih=>
  intro k fuel listed a w σ hl hmk hkl hc hf h1 h2 hs ⟨hg,σ',hop,ht⟩
  have hk:k<ops.length:=by
   rcases X9 k ops.length with h|h
   ·exact h
   ·rw[List.drop_eq_nil_of_le h] at hl;cases hl
  have ho:ops[k]? = some o:=by
   have:=p8 hk;rw[this] at hl;rw[j8 hk];exact g8 some (List.cons.inj hl).1
  have hl':ops.drop (k+1)=l:=by
   have:=p8 hk;rw[this] at hl;exact(List.cons.inj hl).2
  have hun:=h2 k (z7 _) hk
  have hpos:0<listed.toList.count false:=by have:=count_set hun;omega
  obtain⟨fuel,rfl⟩:∃ n,fuel=n+1:=⟨fuel-1,by omega⟩
  refine⟨λhr=>?_,λi hi=>?_⟩
  ·exfalso;have:k∈Region.ready .any ops.toArray listed:=mem_ready.2 ⟨hun,o,by simpa using ho,λe he hb=>h1 e.on ((I9 hok ho).1 e he hb)⟩;rw[hr] at this;cases this
  ·obtain⟨h3,oi,h4,h5⟩:=mem_ready.1 hi
   have hi4:ops[i]? = some oi:=by simpa using h4
   obtain⟨h6,h7⟩:=undone h3;rw[hc.size] at h6
   have hik:i=k:=by
    rcases Nat.lt_trichotomy i k with h|h|h
    ·rw[h1 i h] at h7;cases h7
    ·exact h
    ·exfalso;obtain⟨_,h9⟩:=I9 hok hi4;obtain⟨h10,h11⟩:=h9 k hk;obtain⟨e,he,hb,h12⟩:=h10 (h11 (by omega) h);have hd:=h5 e he hb
     have hkd:listed.getD k false=true:=by
      rcases h12 with rfl|h12
      ·exact hd
      ·exact hc.anc hok e.on (by rw[<- hc.size];exact N4 hd) hd k hk h12
     rw[(undone hun).2] at hkd;cases hkd
   subst hik;rw[ho] at hi4;cases hi4;unfold Go.wpOpIn;simp only[h4,Region.wanted,hg,j9];refine(hop a w hs _ _ λa' w' hs'=>?_);refine ih (i+1) fuel _ a' w' σ' hl' (by omega) (by omega) (hc.set ho h5) (by have:=count_set h3;omega) ?_ ?_ hs' ht
   ·intro j hj;by_cases hji:i=j
    ·subst hji;simp[hc.size,hk]
    ·rw[getD_set_ne false hji];exact h1 j (by omega)
   ·intro j hj hj2;rw[getD_set_ne true (by omega)];exact h2 j (by omega) hj2
theorem z50{its:List It}{j0 u j:Nat}(h:q16 its j0 u=some j):∃ (k:Nat) (d:D) (wt:Bool),j=j0+k/\its[k]? = some (⟨u,d,wt⟩:It):=by
 induction its generalizing j0 with
 | nil=>cases h
 | cons y r ih=>
  obtain⟨t,d,wt⟩:=y;simp only[q16] at h;by_cases ht:t=u
  ·subst ht;simp only[Z8,m9,z6] at h;exact⟨0,d,wt,by omega,rfl⟩
  ·rw[nbeq ht] at h;obtain⟨k,d',w',h1,h2⟩:=ih h;exact⟨k+1,d',w',by omega,by simpa using h2⟩
theorem JI{an:List Nat}{g:Nat->Bool}{its:List It}{u k:Nat}(h:cov an g its u k=true):∃ (j:Nat) (d:D) (wt:Bool),q16 its 0 u=some j/\its[j]? = some (⟨u,d,wt⟩:It)/\g j=true/\tb (nth an j) k=true:=by
 unfold cov at h
 cases hi:q16 its 0 u with
 | none=>rw[hi] at h;cases h
 | some j=>
  rw[hi] at h;simp only[u6] at h;obtain⟨k',d,wt,h1,h2⟩:=z50 hi
  have:j=k':=by omega
  subst this;exact⟨j,d,wt,rfl,h2,h.1,h.2⟩
theorem BF{an:List Nat}{g:Nat->Bool}{its:List It}{u k j:Nat}(hi:q16 its 0 u=some j)(h1:g j=true)(h2:tb (nth an j) k=true):cov an g its u k=true:=by
 unfold cov;rw[hi];simp[h1,h2]
def WK(σ:Sg)(an:List Nat)(ks:List (Nat×Nat))(its:List It)(listed:Array Bool)(τ:Sg):Prop:=
 τ.n=σ.n/\τ.bx=σ.bx/\∀ u x,afts an (λj=>listed.getD j false) ks σ.env its u=some x->τ.get u=some x
theorem FA(H:ItOk P C σ ops an ks kk its)(hsize:listed.size=ops.length){i:Nat}{oi:Oper}(hi:i<its.length)(ho:ops[i]? = some oi)(hun:listed.getD i true=false)
 (hanc:∀ j,j<ops.length->tb (nth an i) j=true->listed.getD j false=true) (hnot:∀ j,j<ops.length->tb (nth an j) i=true->listed.getD j false=false)
 {τ:Sg} (hs:St C τ a w) (hinv:WK σ an ks its listed τ) {K:Act->World->Prop} {Q':Exit->Act->World->Prop}
 (hK:∀ a' w' τ',St C τ' a' w'->WK σ an ks its (listed.setIfInBounds i true) τ'->K a' w') :
 Region.wanted oi (yielded ops.toArray a.tmps)=true/\oi.wpIn (Fx C) 3 P a w K Q'∨Region.wanted oi (yielded ops.toArray a.tmps)=false/\K (a.put oi.dst undef) w:=by
 obtain⟨hnd,hlt⟩:=T2 H.ts
 obtain⟨⟨t,d,wt⟩,hit⟩:∃ it,its[i]? = some it:=⟨its[i],j8 hi⟩
 obtain⟨o,ho',hdst,hwt,hop⟩:=H.all.at hit;rw[ho] at ho';cases ho';simp only[c9] at hwt hop;obtain⟨hin,hif⟩:=undone hun
 have hil:i<ops.length:=by rw[<- hsize];exact hin
 have hfact:∀ u x,facts an ks σ.env its i u=some x->τ.get u=some x:=by
  intro u x hx;refine hinv.2.2 u x ?_;unfold facts at hx;unfold afts
  cases hb:bads (λk=>!(Nat.beq k i)&&!(tb (nth an k) i)&&!(cov an (λj=>tb (nth an i) j) its u k)) ks u with
  | true=>rw[hb] at hx;cases hx
  | false=>
   rw[hb] at hx;simp only[d7] at hx
   have hb2:bads (λj=>listed.getD j false&&!(cov an (λj=>listed.getD j false) its u j)) ks u=false:=by
    rw[T4] at hb ⊢;intro k s hm hsu;have:=hb k s hm hsu
    cases hd:listed.getD k false with
    | false=>rfl
    | true=>
     have hk:k<ops.length:=by rw[<- hsize];exact N4 hd
     have hki:k≠i:=by rintro rfl;rw[hif] at hd;cases hd
     rw[nbeq hki] at this
     cases ht:tb (nth an k) i with
     | true=>rw[hnot k hk ht] at hd;cases hd
     | false=>
      rw[ht] at this;simp only[Bool.not_false,U9,X7] at this;obtain⟨j,dj,wj,h1,h2,h3,h4⟩:=JI this;have hjl:j<ops.length:=u0 (z8.1 h2).1 H.len;rw[BF (g:=λj=>listed.getD j false) h1 (hanc j hjl h3) h4];rfl
   rw[hb2];simp only[d7]
   rcases B9 its u with hu|⟨k,dk,wk,hk⟩
   ·rw[P0 hu] at hx ⊢;exact hx
   ·rw[O1 hnd hk] at hx ⊢;simp only[c9] at hx ⊢;have hkl:k<ops.length:=u0 (z8.1 hk).1 H.len
    cases h1:tb (nth an i) k with
    | true=>rw[h1] at hx;rw[hanc k hkl h1];exact hx
    | false=>
     rw[h1] at hx
     cases h2:tb (nth an k) i with
     | true=>rw[h2] at hx;rw[hnot k hkl h2];exact hx
     | false=>rw[h2] at hx;cases hx
 have htn:t<τ.n:=by
  rw[hinv.1];exact hlt t (Y6 (i:=i) (by rw[I8,hit];rfl))
 -- what holds afterwards
 have hafter:∀ (x:D),x=(bif wt then d else .tup [])->∀ τ2:Sg,τ2.n=τ.n->τ2.bx=τ.bx->(∀ u,(∀ k s,(k,s)∈ks->s=u->k≠i)->τ2.get u=τ.get u)->WK σ an ks its (listed.setIfInBounds i true) (τ2.set t x):=by
  intro x hx τ2 hn2 hb2 hg2;refine⟨hn2.trans hinv.1,hb2.trans hinv.2.1,λu y hy=>?_⟩;unfold afts at hy
  cases hbd:bads (λj=>(listed.setIfInBounds i true).getD j false&&!(cov an (λj=>(listed.setIfInBounds i true).getD j false) its u j)) ks u with
  | true=>rw[hbd] at hy;cases hy
  | false=>
   rw[hbd] at hy;simp only[d7] at hy;rw[T4] at hbd;rw[P8]
   have hcov:u≠t->∀ k,cov an (λj=>(listed.setIfInBounds i true).getD j false) its u k=true->cov an (λj=>listed.getD j false) its u k=true/\k≠i:=by
    intro hut k hc;obtain⟨j,dj,wj,h1,h2,h3,h4⟩:=JI hc
    have hji:i≠j:=by
     rintro rfl;rw[hit] at h2;cases h2;exact hut rfl
    rw[getD_set_ne false hji] at h3;refine⟨BF h1 h3 h4, ?_⟩;rintro rfl;have hjl:j<ops.length:=u0 (z8.1 h2).1 H.len;rw[hnot j hjl h4] at h3;cases h3
   have hki:u≠t->∀ k s,(k,s)∈ks->s=u->k≠i:=by
    rintro hut k s hm hsu rfl;have h1:=hbd k s hm hsu
    have h2:(listed.setIfInBounds k true).getD k false=true:=by simp[hin]
    rw[h2] at h1;simp only[U9,X7] at h1;exact(hcov hut k h1).2 rfl
   have hbd2:u≠t->bads (λj=>listed.getD j false&&!(cov an (λj=>listed.getD j false) its u j)) ks u=false:=by
    intro hut;rw[T4];intro k s hm hsu;have h1:=hbd k s hm hsu;have h2:=hki hut k s hm hsu;rw[getD_set_ne false (λe=>h2 e.symm)] at h1
    cases hd:listed.getD k false with
    | false=>rfl
    | true=>
     rw[hd] at h1;simp only[U9,X7] at h1 ⊢;exact(hcov hut k h1).1
   by_cases hut:u=t
   ·subst hut;rw[O1 hnd hit] at hy
    have e:(listed.setIfInBounds i true).getD (0+i) false=true:=by simp[hin]
    rw[e] at hy;simp only[m9] at hy;simp only[j9,hx]
    cases wt<;>exact hy
   ·have hki:=hki hut;have hbd2:=hbd2 hut;simp only[hut,q8,hg2 u hki]
    have hold:afts an (λj=>listed.getD j false) ks σ.env its u=some y/\y.rf≠some t:=by
     unfold afts;rw[hbd2];simp only[d7]
     rcases B9 its u with hu|⟨k,dk,wk,hk⟩
     ·rw[P0 hu] at hy ⊢;exact⟨hy,DH H.env hy (Y6 (i:=i) (by rw[I8,hit];rfl))⟩
     ·rw[O1 hnd hk] at hy ⊢;simp only[c9] at hy ⊢
      have hne:i≠k:=by
       rintro rfl;rw[hit] at hk;cases hk;exact hut rfl
      rw[getD_set_ne false hne] at hy;refine⟨hy, ?_⟩
      cases hd:listed.getD k false with
      | false=>
       rw[hd] at hy;exact DH H.env hy (Y6 (i:=i) (by rw[I8,hit];rfl))
      | true=>
       rw[hd] at hy;simp only[m9] at hy
       cases wk with
       | false=>simp at hy;subst hy;simp[D.rf]
       | true=>
        simp at hy;subst hy;intro hrf;have:=TG H.ref hk hrf (i:=i) (by rw[I8,hit];rfl);simp only[c9] at this
        rcases this with this|this
        ·rw[hnot k (by rw[<- hsize];exact N4 hd) this] at hd;cases hd
        ·exact hki i u this rfl rfl
    rw[hinv.2.2 u y hold.1];simp only[Y1,SH hold.2]
 rw[hwt.ok hs hfact]
 cases hwt2:wt with
 | false=>
  refine .inr ⟨rfl, ?_⟩;rw[hdst];exact hK _ _ _ (hs.unwanted htn) (hafter (.tup []) (by rw[hwt2];rfl) τ rfl rfl (λ_ _=>rfl))
 | true=>
  refine .inl ⟨rfl,hop hwt2 τ (λid x hx=>by simp only[Sg.box,hinv.2.1];exact hx) htn hfact a w hs _ _ λa' w' hs'=>?_⟩;have hkn:=LH τ kk i;exact hK _ _ _ hs' (hafter d (by rw[hwt2];rfl) _ hkn.1 hkn.2 (λu hu=>BU (λk s hm=>hu k s (IA H.sub k s hm))))
theorem GU{t:Nat}(hall:∀ j d wt,its[j]? = some (⟨t,d,wt⟩:It)->listed.getD j false=true)(hb:bads (λk=>true&&!(cov an (λ_=>true) its t k)) ks t=false) :
 bads (λj=>listed.getD j false&&!(cov an (λj=>listed.getD j false) its t j)) ks t=false:=by
 rw[T4] at hb ⊢;intro k s hm hsu;have:=hb k s hm hsu;simp only[U9,X7] at this;obtain⟨j,dj,wj,h1,h2,_,h4⟩:=JI this;rw[BF (g:=λj=>listed.getD j false) h1 (hall j dj wj h2) h4];simp
theorem FE(hA:YU ops an its.length=true)(H:ItOk P C σ ops an ks kk its){env':List (Nat×D)}(hE:picks (afts an (λ_=>true) ks σ.env its) live=env')
 (hT:TL P C Q (ops.drop its.length) ⟨σ.n,env',σ.bx⟩):∀ (fuel:Nat) (listed:Array Bool) (a:Act) (w:World) (τ:Sg),Cl ops listed->listed.toList.count false<=fuel ->
 (∀ j,its.length<=j->j<ops.length->listed.getD j true=false)->St C τ a w->WK σ an ks its listed τ ->
 wpAnyIn (Fx C) 3 P .any ops.toArray (λe a' w'=>∃ σ',St C σ' a' w'/\Q e σ') fuel listed a w:=by
 intro fuel
 induction fuel with
 | zero=>
  intro listed a w τ hc hf h2 hs hinv;by_cases hall:∀ j,j<its.length->listed.getD j false=true
  ·refine JH hA _ its.length 0 listed a w ⟨σ.n,env',σ.bx⟩ rfl (z7 _) H.len hc hf hall h2 (hs.weaken hinv.1.symm hinv.2.1.symm λt d hd=>hinv.2.2 t d ?_) hT;have:=l5 (f:=afts an (λ_=>true) ks σ.env its) (l:=live) (by rw[hE];exact hd);have hz:∀ j,listed.getD j true=true:=UA (by omega);unfold afts at this ⊢
   cases hb:bads (λk=>true&&!(cov an (λ_=>true) its t k)) ks t with
   | true=>rw[hb] at this;cases this
   | false=>
    rw[hb] at this;rw[GU (λj dj wj hj=>hall j (z8.1 hj).1) hb];simp only[d7] at this ⊢
    rcases B9 its t with hu|⟨k,dk,wk,hk⟩
    ·rw[P0 hu] at this ⊢;exact this
    ·rw[O1 (T2 H.ts).1 hk] at this ⊢;simp only[c9] at this ⊢;rw[hall k (z8.1 hk).1];exact this
  ·exfalso;apply hall;intro j hj;have:=UA (listed:=listed) (by omega) j
   have hjl:j<listed.size:=by rw[hc.size];have:=H.len;omega
   simp[hjl] at this ⊢;exact this
 | succ fuel ih=>
  intro listed a w τ hc hf h2 hs hinv;by_cases hall:∀ j,j<its.length->listed.getD j false=true
  ·refine JH hA _ its.length (fuel+1) listed a w ⟨σ.n,env',σ.bx⟩ rfl (z7 _) H.len hc hf hall h2 (hs.weaken hinv.1.symm hinv.2.1.symm λt d hd=>hinv.2.2 t d ?_) hT;have:=l5 (f:=afts an (λ_=>true) ks σ.env its) (l:=live) (by rw[hE];exact hd);unfold afts at this ⊢
   cases hb:bads (λk=>true&&!(cov an (λ_=>true) its t k)) ks t with
   | true=>rw[hb] at this;cases this
   | false=>
    rw[hb] at this;rw[GU (λj dj wj hj=>hall j (z8.1 hj).1) hb];simp only[d7] at this ⊢
    rcases B9 its t with hu|⟨k,dk,wk,hk⟩
    ·rw[P0 hu] at this ⊢;exact this
    ·rw[O1 (T2 H.ts).1 hk] at this ⊢;simp only[c9] at this ⊢;rw[hall k (z8.1 hk).1];exact this
  ·-- some one is not yet done
   have hsome:∃ j,j<its.length/\listed.getD j true=false:=by
    rcases C6.1 hall with ⟨j,hj⟩
    rcases G7.1 hj with ⟨hj1,hj2⟩
    refine⟨j,hj1, ?_⟩
    have hjl:j<listed.size:=by rw[hc.size];have:=H.len;omega
    simp[hjl] at hj2 ⊢;exact hj2
   have key:∀ n j,j=n->j<its.length->listed.getD j true=false->∃ k,k∈Region.ready .any ops.toArray listed:=by
    intro n
    induction n using Nat.strongRecOn with
    | _ n ihn=>
     intro j hjn hj hu;have hjl:j<ops.length:=u0 hj H.len;have ho:ops[j]? = some ops[j]:=j8 hjl;by_cases hr:∀ e∈ops[j].after,Region.binds .any e=true->listed.getD e.on false=true
     ·exact⟨j,mem_ready.2 ⟨hu,_,by simp,hr⟩⟩
     ·rcases C6.1 hr with ⟨e,he⟩
      rcases G7.1 he with ⟨he1,he2⟩
      rcases G7.1 he2 with ⟨he3,he4⟩
      have hlt:=(I9 hA ho).1 e he1 he3;refine ihn e.on (by omega) e.on rfl (by omega) ?_
      have hel:e.on<listed.size:=by rw[hc.size];omega
      simp[hel] at he4 ⊢;exact he4
   obtain⟨j0,hj0,hu0⟩:=hsome;refine⟨λhr=>?_,λi hi=>?_⟩
   ·obtain⟨k,hk⟩:=key j0 j0 rfl hj0 hu0;rw[hr] at hk;cases hk
   ·obtain⟨h3,oi,h4,h5⟩:=mem_ready.1 hi
    have ho:ops[i]? = some oi:=by simpa using h4
    have hil:i<ops.length:=(z8.1 ho).1
    have him:i<its.length:=by
     rcases X9 i its.length with h|h
     ·exact h
     ·exfalso;obtain⟨_,h9⟩:=I9 hA ho;have hj0l:j0<ops.length:=u0 hj0 H.len;obtain⟨h10,h11⟩:=h9 j0 hj0l;obtain⟨e,he,hb,h12⟩:=h10 (h11 h (by omega));have hd:=h5 e he hb
      have hkd:listed.getD j0 false=true:=by
       rcases h12 with rfl|h12
       ·exact hd
       ·exact hc.anc hA e.on (by rw[<- hc.size];exact N4 hd) hd j0 hj0l h12
      rw[(undone hu0).2] at hkd;cases hkd
    have hsp:=(I9 hA ho).2;have hif:=(undone h3).2
    have hanc:∀ j,j<ops.length->tb (nth an i) j=true->listed.getD j false=true:=by
     intro j hj ht;obtain⟨e,he,hb,h1⟩:=(hsp j hj).1 ht;have hd:=h5 e he hb
     rcases h1 with rfl|h1
     ·exact hd
     ·exact hc.anc hA e.on (by rw[<- hc.size];exact N4 hd) hd j hj h1
    have hnot:∀ j,j<ops.length->tb (nth an j) i=true->listed.getD j false=false:=by
     intro j hj ht
     cases hd:listed.getD j false with
     | false=>rfl
     | true=>have:=hc.anc hA j hj hd i hil ht;rw[hif] at this;cases this
    suffices hK:∀ a' w' τ',St C τ' a' w'->WK σ an ks its (listed.setIfInBounds i true) τ'->wpAnyIn (Fx C) 3 P .any ops.toArray (λe a' w'=>∃ σ',St C σ' a' w'/\Q e σ') fuel (listed.setIfInBounds i true) a' w' by
     unfold Go.wpOpIn;simp only[h4]
     rcases FA H hc.size him ho h3 hanc hnot hs hinv hK with ⟨e1,e2⟩|⟨e1,e2⟩
     ·simp only[e1,j9];exact e2
     ·simp only[e1,q7,q8];exact⟨λ_ _=>trivial,e2⟩
    intro a' w' τ' hs' hinv';refine ih _ a' w' τ' (hc.set ho h5) (by have:=count_set h3;omega) (λj hj hjl=>?_) hs' hinv';rw[getD_set_ne true (by omega)];exact h2 j hj hjl
theorem q38{id m n':Nat}{bx':List (Nat×Bx)}(hm:P.follows .mixedOrders=true)(hA0:YU ops an m=true)(hlen:its.length=m)(H:ItOk P C σ ops an ks kk its){env':List (Nat×D)}(hE:picks (afts an (λ_=>true) ks σ.env its) live=env')
 (hb:σ.bx=bx') (hn:σ.n=n') (hT:TL P C Q (ops.drop its.length) ⟨n',env',bx'⟩):W P C (.region id ops.toArray true) Q σ:=by
 intro a w hs;refine wpIn_region_any hm ?_
 have hc:Cl ops (Array.replicate ops.toArray.size false):=⟨by simp,λi o _ hd=>by
  have:=N4 hd;simp at this
  simp[this] at hd⟩
 have hA:YU ops an its.length=true:=by rw[hlen];exact hA0
 subst hb;subst hn;refine FE hA H hE hT _ _ a _ σ hc ?_ ?_ (hs.ext (Ext.drew w)) ⟨rfl,rfl,λu x hx=>?_⟩
 ·simp
 ·intro j _ hj;simp[hj]
 ·unfold afts at hx;generalize hb:bads _ ks u=bb at hx
  cases bb with
  | true=>cases hx
  | false=>
   simp only[d7] at hx
   rcases B9 its u with hu|⟨k,dk,wk,hk⟩
   ·rw[P0 hu] at hx;exact hx
   ·rw[O1 (T2 H.ts).1 hk] at hx
    have e:(Array.replicate ops.toArray.size false).getD (0+k) false=false:=by
     simp only[v9,C4]
     split<;>rfl
    rw[e] at hx;exact hx
def W2:Nat->Nat->List Nat
 | 0,_=>[]
 | n+1,m=>m::W2 n (2*m+1)
theorem k60(n m i:Nat)(h:i<n):nth (W2 n (2^m-1)) i=2^(m+i)-1:=by
 induction n generalizing m i with
 | zero=>omega
 | succ n ih=>
  simp only[W2]
  have e:2*(2^m-1)+1=2^(m+1)-1:=by
   have:=F8 m;rw[Nat.pow_succ];omega
  cases i with
  | zero=>rfl
  | succ i=>
   simp only[nth];rw[e,ih (m+1) i (by omega),show m+1+i=m+(i+1) by omega]
theorem LK(n m i:Nat)(h:n<=i):nth (W2 n m) i=0:=by
 induction n generalizing m i with
 | zero=>cases i<;>rfl
 | succ n ih=>
  cases i with
  | zero=>omega
  | succ i=>simp only[W2,nth];exact ih _ _ (by omega)
theorem x09(i j:Nat):tb (2^i-1) j=true↔j<i:=by
 unfold tb;have e:Nat.mod (Nat.div (2^i-1) (Nat.pow 2 j)) 2=(2^i-1)/2^j%2:=rfl;rw[e,Nat.beq_eq];constructor
 ·intro h
  rcases X9 j i with h1|h1
  ·exact h1
  ·exfalso
   have h2:(2^i-1)/2^j=0:=M1 (by
    have:=Nat.pow_le_pow_right (show 0<2 by omega) h1;have:=F8 i
    omega)
   rw[h2] at h;omega
 ·intro h
  obtain⟨k,rfl⟩:∃ k,i=j+(k+1):=⟨i-j-1,by omega⟩
  have h2:(2^(j+(k+1))-1)/2^j=2^(k+1)-1:=by
   rw[Nat.pow_add];have hp:=F8 j;have hq:=F8 (k+1)
   obtain⟨q,hq'⟩:∃ q,2^(k+1)=q+1:=⟨2^(k+1)-1,by omega⟩
   rw[hq']
   have:2^j*(q+1)-1=(2^j-1)+2^j*q:=by rw[Nat.mul_add];omega
   rw[this,Nat.add_mul_div_left _ _ hp,M1 (by omega)];omega
  rw[h2,Nat.pow_succ];have hq:=F8 k;omega
theorem PU{n i j:Nat}:tb (nth (W2 n 0) i) j=true↔j<i/\i<n:=by
 by_cases h:i<n
 ·have:=k60 n 0 i h;simp only[Nat.pow_zero,L3,c9] at this;rw[this,x09];exact⟨λh1=>⟨h1,h⟩,λh1=>h1.1⟩
 ·rw[LK n 0 i (by omega)];constructor
  ·intro h1;exfalso;unfold tb at h1;have e:Nat.mod (Nat.div 0 (Nat.pow 2 j)) 2=0/2^j%2:=rfl;rw[e] at h1;simp at h1
  ·intro h1;omega
theorem TL.wpList{l:List Oper}(h:TL P C Q l σ):WL P C ops.toArray l Q σ:=by
 induction l generalizing σ with
 | nil=>
  obtain⟨live,env',bx',n',p1,p2,p4,p3⟩:=h
  exact λa w hs=>⟨_,hs.picks p1 p2 p4,p3⟩
 | cons o l ih=>
  obtain⟨h1,σ',h2,h3⟩:=h;exact WL.cons h1 h2 (ih h3)
theorem z47{n:Nat}(hn:ops.length<=n)(H:ItOk P C σ ops (W2 n 0) ks kk its){env':List (Nat×D)}(hE:picks (afts (W2 n 0) (λ_=>true) ks σ.env its) live=env')
 (hT:TL P C Q (ops.drop its.length) ⟨σ.n,env',σ.bx⟩):∀ (l:List Oper) (k:Nat) (listed:Array Bool) (a:Act) (w:World) (τ:Sg),ops.drop k=l->k<=its.length->listed.size=ops.length ->
 (∀ j,j<k->listed.getD j false=true)->(∀ j,k<=j->j<ops.length->listed.getD j true=false)->St C τ a w->WK σ (W2 n 0) ks its listed τ ->
 wpListIn (Fx C) 3 P ops.toArray (λe a' w'=>∃ σ',St C σ' a' w'/\Q e σ') l a w:=by
 intro l
 have fin:∀ (listed:Array Bool) (τ:Sg) (a:Act) (w:World),(∀ j,j<its.length->listed.getD j false=true)->St C τ a w->WK σ (W2 n 0) ks its listed τ->St C ⟨σ.n,env',σ.bx⟩ a w:=by
  intro listed τ a w hall hs hinv;refine hs.weaken hinv.1.symm hinv.2.1.symm λt d hd=>hinv.2.2 t d ?_;have:=l5 (f:=afts (W2 n 0) (λ_=>true) ks σ.env its) (l:=live) (by rw[hE];exact hd);unfold afts at this ⊢
  cases hb:bads (λk=>true&&!(cov (W2 n 0) (λ_=>true) its t k)) ks t with
  | true=>rw[hb] at this;cases this
  | false=>
   rw[hb] at this;rw[GU (λj dj wj hj=>hall j (z8.1 hj).1) hb];simp only[d7] at this ⊢
   rcases B9 its t with hu|⟨k,dk,wk,hk⟩
   ·rw[P0 hu] at this ⊢;exact this
   ·rw[O1 (T2 H.ts).1 hk] at this ⊢;simp only[c9] at this ⊢;rw[hall k (z8.1 hk).1];exact this
 induction l with
 | nil=>
  intro k listed a w τ hl hk hsz h1 h2 hs hinv
  have hkl:ops.length<=k:=by
   have:=g8 List.length hl;simp at this;omega
  have hke:k=its.length:=by have:=H.len;omega
  subst hke;rw[hl] at hT;obtain⟨live,env',bx',n',p1,p2,p4,p3⟩:=hT;exact⟨_,(fin listed τ a w h1 hs hinv).picks p1 p2 p4,p3⟩
 | cons o l ih=>
  intro k listed a w τ hl hk hsz h1 h2 hs hinv;by_cases hke:k=its.length
  ·subst hke;rw[<- hl];exact hT.wpList (ops:=ops) a w (fin listed τ a w h1 hs hinv)
  ·have hki:k<its.length:=by omega
   have hkl:k<ops.length:=u0 hki H.len;have hd:=p8 hkl;rw[hd] at hl;obtain⟨ho,hl'⟩:=List.cons.inj hl
   have ho':ops[k]? = some o:=by rw[j8 hkl,ho]
   have hun:=h2 k (z7 _) hkl
   have hK:∀ a' w' τ',St C τ' a' w'->WK σ (W2 n 0) ks its (listed.setIfInBounds k true) τ'->wpListIn (Fx C) 3 P ops.toArray (λe a' w'=>∃ σ',St C σ' a' w'/\Q e σ') l a' w':=by
    intro a' w' τ' hs' hinv';refine ih (k+1) _ a' w' τ' hl' (by omega) (by simp[hsz]) (λj hj=>?_) (λj hj hjl=>?_) hs' hinv'
    ·by_cases hjk:k=j
     ·subst hjk;simp[hsz,hkl]
     ·rw[getD_set_ne false hjk];exact h1 j (by omega)
    ·rw[getD_set_ne true (by omega)];exact h2 j (by omega) hjl
   have hst:=FA H hsz hki ho' hun (λj hj ht=>h1 j (PU.1 ht).1) (λj hj ht=>by
    have:=(PU.1 ht).1
    exact(undone (h2 j (by omega) hj)).2) hs hinv hK (Q':=λe a' w'=>∃ σ',St C σ' a' w'/\Q e σ')
   simp only[wpListIn]
   rcases hst with ⟨e1,e2⟩|⟨e1,e2⟩
   ·simp only[e1,j9];exact e2
   ·simp only[e1,q7,q8];exact⟨λ_ _=>trivial,e2⟩
theorem PQ{id n n':Nat}{bx':List (Nat×Bx)}(hn:ops.length<=n)(H:ItOk P C σ ops (W2 n 0) ks kk its){env':List (Nat×D)}(hE:picks (afts (W2 n 0) (λ_=>true) ks σ.env its) live=env')
 (hb:σ.bx=bx') (hn':σ.n=n') (hT:TL P C Q (ops.drop its.length) ⟨n',env',bx'⟩):W P C (.region id ops.toArray false) Q σ:=by
 subst hb;subst hn';intro a w hs;refine wpIn_region_lit ?_;refine z47 hn H hE hT ops 0 (Array.replicate ops.length false) a w σ rfl (g9 _) (by simp) (λj hj=>absurd hj (Q8 _)) (λj _ hj=>by simp[hj]) hs ⟨rfl,rfl,λu x hx=>?_⟩;unfold afts at hx;generalize hb:bads _ ks u=bb at hx
 cases bb with
 | true=>cases hx
 | false=>
  simp only[d7] at hx
  rcases B9 its u with hu|⟨k,dk,wk,hk⟩
  ·rw[P0 hu] at hx;exact hx
  ·rw[O1 (T2 H.ts).1 hk] at hx
   have e:(Array.replicate ops.length false).getD (0+k) false=false:=by
    simp only[v9,C4]
    split<;>rfl
   rw[e] at hx;exact hx
theorem W.drop{c:Code}{env':List (Nat×D)}{bx':List (Nat×Bx)}{n':Nat}(hE:picks σ.get live=env')(hb:σ.bx=bx')(hn:σ.n=n')(h:W P C c Q ⟨n',env',bx'⟩):W P C c Q σ:=by
 intro a w hs;refine h a w (hs.weaken hn.symm hb.symm λt d hd=>?_);exact l5 (f:=σ.get) (l:=live) (by rw[hE];exact hd)
end
def seta{α:Type}(id:Nat)(b:α):List (Nat×α)->List (Nat×α)
 | []=>[]
 | (k,x)::r=>bif Nat.beq k id then(k,b)::r else(k,x)::seta id b r
theorem x49(id:Nat)(b:α)(l:List (Nat×α))(u:Nat):lk (seta id b l) u=if u=id then(lk l u).map (λ_=>b) else lk l u:=by
 induction l with
 | nil=>simp[seta,lk]
 | cons x r ih=>
  obtain⟨k,d⟩:=x;simp only[seta];by_cases hk:k=id
  ·subst hk;simp only[Z8,m9,U2];by_cases hu:k=u
   ·subst hu;simp
   ·simp[hu,show ¬ u=k from λe=>hu e.symm]
  ·simp only[nbeq hk,d7,U2,ih];by_cases hku:k=u
   ·subst hku;simp[hk]
   ·simp[hku]
def Sg.upd(σ:Sg)(s:Nat)(d:D):Sg:={ σ with env:=seta s d σ.env }
theorem JQ(σ:Sg)(s:Nat)(d:D)(u:Nat):(σ.upd s d).get u=if u=s then(σ.get u).map (λ_=>d) else σ.get u:=by simp[Sg.get,Sg.upd,x49]
@[simp] theorem q98 (σ:Sg) (s:Nat) (d:D) (id:Nat):(σ.upd s d).box id=σ.box id:=rfl
@[simp] theorem v43 (σ:Sg) (s:Nat) (d:D):(σ.upd s d).n=σ.n:=rfl
theorem MV{G L:Nat->Prop}{u:Nat}{d:D}{F:List Nat}(h:SR w ρ G L a u d F)
 (hh:∀ b,(G b∨b∈F)->b<w.heap.size->w'.heap[b]? = w.heap[b]?) (hg:∀ b,G b->b<w.heap.size->G' b) (hL:∀ i,L i->L' i)
 (hc:∀ i off v,L i->w.cell? ⟨ρ i,off,none⟩=some v->w'.cell? ⟨ρ i,off,none⟩=some v):SR w' ρ G' L' a u d F:=by
 have hL2:∀ i,L i->L' i/\ρ i=ρ i:=λi hi=>⟨hL i hi,rfl⟩
 cases d with
 | al s=>exact h
 | alb i off path=>
  obtain⟨hF,hid,x,hx,hs⟩:=h;exact⟨hF,hL i hid,x,hx,hc i off x hid hs⟩
 | vw s z lo n=>exact h
 | va i off z n path lo=>exact⟨h.1,hL i h.2.1,h.2.2⟩
 | ep s z i off path=>exact h
 | tup ds=>
  obtain⟨vs,Fs,h1,h2,h3,h4⟩:=h;refine⟨vs,Fs,h1,h2,h3,λk hk=>(h4 k hk).imp (λhx=>hx) λhx=>⟨hx.1,hx.2.mono (λb hb=>hh b (hb.imp (λhx=>hx) λhm=>?_)) hg hL2⟩⟩;rw[h3];exact w8.2 ⟨k,j7.2 hk,hm⟩
 | dead=>exact h
 | _=>obtain⟨x,hx,hr⟩:=h;exact⟨x,hx,hr.mono hh hg hL2⟩
theorem StW.turn{s:Nat}{d d':D}{F:List Nat}(h:StW C σ a w ρ Fe Fb)(hg0:σ.get s=some d)
 (hos:w'.os=w.os) (htape:TpR w' w) (hout:w'.output=w.output) (hsize:w.heap.size<=w'.heap.size)
 (hblk:∀ b,b<w.heap.size->b∉Fe s->w'.heap[b]? = w.heap[b]?)
 (hF:F.Nodup) (hFs:∀ b∈F,b∈Fe s∨w.heap.size<=b)
 (hv:SR w' ρ (gd C (Go.Sx.upd Fe s F) Fb) (λid=>(σ.box id).isSome) a s d' F) :
 StW C (σ.upd s d') a w' ρ (Go.Sx.upd Fe s F) Fb:=by
 have hlt:=h.lt;have hso:∀ b,b∈Fe s->own Fe Fb b:=λb hb=>.inl ⟨s,hb⟩
 have ho:∀ b,own (Go.Sx.upd Fe s F) Fb b->own Fe Fb b∨w.heap.size<=b:=by
  rintro b (⟨u,hu⟩|hid)
  ·by_cases hus:u=s
   ·subst hus;simp at hu;exact(hFs b hu).imp (hso b) id
   ·rw[j2 hus] at hu;exact .inl (.inl ⟨u,hu⟩)
  ·exact .inl (.inr hid)
 have hg:∀ b,gd C Fe Fb b->b<w.heap.size->gd C (Go.Sx.upd Fe s F) Fb b:=λb hb hl=>⟨hb.1,λhc=>by
  rcases ho b hc with h1|h1
  ·exact hb.2 h1
  ·omega⟩
 have hh:∀ b,gd C Fe Fb b->b<w.heap.size->w'.heap[b]? = w.heap[b]?:=λb hb hl=>hblk b hl (λhm=>hb.2 (hso b hm))
 have hc:∀ id off v,(σ.box id).isSome=true->w.cell? ⟨ρ id,off,none⟩=some v->w'.cell? ⟨ρ id,off,none⟩=some v:=by
  intro id off v hid hc;have hl:=block_lt_of_cell hc;rw[<- hc];refine World.cell?_of_block (hblk _ hl ?_);intro hm
  cases hb:σ.box id with
  | none=>simp[hb] at hid
  | some x=>exact h.dEB s id _ hm (h.bx id x hb).mem
 refine⟨h.size,h.defs,h.pin, ?_, ?_, ?_,h.bxN, ?_,h.nodB, ?_, ?_,h.dBB, ?_, ?_,hos.trans h.os,htape.trans h.tape,hout.trans h.output,u9 h.grown hsize,h.gl,λb hb=>h.okN b (u9 hsize hb),λb hb=>(ho b hb).elim (h.okO b) (λh1=>h.okN b h1)⟩
 ·intro u x hx;rw[JQ] at hx;by_cases hus:u=s
  ·subst hus;simp[hg0] at hx;subst hx;rw[c7];exact hv
  ·simp only[hus,q8] at hx;rw[j2 hus]
   exact MV (h.env u x hx) (λb hb hl=>by
    rcases hb with hb|hb
    ·exact hh b hb hl
    ·exact hblk b hl (λhm=>h.dEE u s hus b hb hm)) hg (λ_ hi=>hi) hc
 ·intro u hu;rw[JQ] at hu;by_cases hus:u=s
  ·subst hus;simp[hg0] at hu
  ·simp only[hus,q8] at hu;rw[j2 hus];exact h.envN u hu
 ·intro id x hx;refine(h.bx id x hx).mono (λb hb hl=>?_) hg (λ_ hi=>⟨hi,rfl⟩)
  rcases hb with hb|hb
  ·exact hh b hb hl
  ·exact hblk b hl (λhm=>h.dEB s id b hm hb)
 ·intro u;by_cases hus:u=s
  ·subst hus;simpa using hF
  ·rw[j2 hus];exact h.nodE u
 ·intro u u' huu b hb hb'
  have key:∀ u,u≠s->b∈Fe u->b∈F->False:=by
   intro u hus hb hbF
   rcases hFs b hbF with h1|h1
   ·exact h.dEE u s hus b hb h1
   ·have:=hlt b (.inl ⟨u,hb⟩);omega
  by_cases hus:u=s
  ·subst hus;simp at hb;rw[j2 (λe=>huu e.symm)] at hb';exact key u' (λe=>huu e.symm) hb' hb
  ·rw[j2 hus] at hb;by_cases hus':u'=s
   ·subst hus';simp at hb';exact key u hus hb hb'
   ·rw[j2 hus'] at hb';exact h.dEE u u' huu b hb hb'
 ·intro u id b hb hb';by_cases hus:u=s
  ·subst hus;simp at hb
   rcases hFs b hb with h1|h1
   ·exact h.dEB u id b h1 hb'
   ·have:=hlt b (.inr ⟨id,hb'⟩);omega
  ·rw[j2 hus] at hb;exact h.dEB u id b hb hb'
 ·intro b hb hk
  rcases ho b hb with h1|h1
  ·exact h.new b h1 hk
  ·have:=(h.kept b hk).2;have:=h.grown;omega
 ·intro b hk;have hkb:=h.kept b hk;exact⟨(hblk b (u0 hkb.2 h.grown) (λhm=>h.new b (hso b hm) hk)).trans hkb.1,hkb.2⟩
def ownr(σ:Sg)(s s0:Nat):Prop:=s=s0∨σ.get s=some (.al s0)
theorem YF(st:StW C σ a w ρ Fe Fb){s s0 e z:Nat}{l:List D}(h:ownr σ s s0)(hs:σ.get s0=some (.sl (some e) z l)) :
 ∃ v,a.tmps[s]? = some v/\a.tmps[s0]? = some v/\Rc w ρ (gd C Fe Fb) (λid=>(σ.box id).isSome) true (.sl (some e) z l) [v] (Fe s0):=by
 obtain⟨v,hv,hr⟩:=(c5 rfl).1 (st.env _ _ hs);simp only[VR,D.isAgg,q7,q8] at hr
 rcases h with rfl|h
 ·exact⟨v,hv,hv,hr⟩
 ·obtain⟨_,x,h1,h2⟩:=st.env _ _ h;rw[hv] at h2;cases h2;exact⟨v,h1,hv,hr⟩
theorem w10{G L:Nat->Prop}{z i off:Nat}{path:List Nat}{l:List D}{d1 d' x:D}{cs xs:List Value}{Fs:Nat->List Nat}{Fx:List Nat}
 (hr:∀ j (h:j<l.length),Rc w ρ G L false l[j] ((cs.drop (j*z)).take z) (Fs j)) (hF:((List.range l.length).flatMap Fs).Nodup) (hlen:l.length*z<=cs.length) (hi:i<l.length)
 (hl:l[i].loc path=some (off,d1)) (hu:l[i].upd path x=some d') (hz:x.sz=d1.sz) (hx:Rc w ρ G L false x xs Fx) (hFx:Fx.Nodup) (hdis:∀ b∈Fx,b∉(List.range l.length).flatMap Fs)
 (harr:Fx=[]∨l[i].noArr path=true) :
 i*z+off+xs.length<=cs.length/\∃ Fs':Nat->List Nat,(∀ j (h:j<(l.set i d').length),Rc w ρ G L false (l.set i d')[j] (((cs.take (i*z+off)++xs++cs.drop (i*z+off+xs.length)).drop (j*z)).take z) (Fs' j)) /\
  (∀ b∈(List.range l.length).flatMap Fs',b∈(List.range l.length).flatMap Fs∨b∈Fx)/\((List.range l.length).flatMap Fs').Nodup:=by
 obtain⟨hn1,hn2⟩:=l7 hF;have him:∀ b∈Fs i,b∈(List.range l.length).flatMap Fs:=λb hb=>w8.2 ⟨i,j7.2 hi,hb⟩;obtain⟨F',h1,h2,h3,h4,h5⟩:=(hr i hi).upd hl hu hz hx (hn1 i hi) hFx (λb hb hb'=>hdis b hb (him b hb')) harr;obtain⟨_,_,_,hl3⟩:=(hr i hi).loc hl;have hxl:=hx.len
 have hkz:i*z+z<=l.length*z:=by
  have:=w6 z (show i+1<=l.length by omega);rw[v7] at this;omega
 have hel:((cs.drop (i*z)).take z).length=z:=by simp;omega
 have hxo:off+xs.length<=z:=by omega
 refine⟨by omega,λj=>if j=i then F' else Fs j,λj hj=>?_,λb hb=>?_, ?_⟩
 ·have hj':j<l.length:=by simpa using hj
  by_cases hji:j=i
  ·subst hji;simp only[D7,j9];rw[GP _ _ _ _ _ (by omega) (by omega)];exact h1
  ·simp only[B1 (λe=>hji e.symm),hji,q8];rw[l3 _ _ _ _ _ (by omega) ?_]
   ·exact hr j hj'
   ·rcases I1 hji with hlt|hlt
    ·left;have:(j+1)*z<=i*z:=w6 z hlt;rw[v7] at this;omega
    ·right;have:(i+1)*z<=j*z:=w6 z hlt;rw[v7] at this;omega
 ·obtain⟨j,hj,hm⟩:=w8.1 hb;by_cases hji:j=i
  ·subst hji;simp at hm;exact(h2 b hm).imp (him b) id
  ·simp only[hji,q8] at hm;exact .inl (w8.2 ⟨j,hj,hm⟩)
 ·refine N7 (λj hj=>?_) (λj k hj hk hjk b hb hb'=>?_)
  ·by_cases hji:j=i
   ·simp[hji,h3]
   ·simp only[hji,q8];exact hn1 j hj
  ·have key:∀ m,m<l.length->m≠i->b∈Fs m->b∈F'->False:=λm hm hmi h6 h7=>by
    rcases h2 b h7 with h8|h8
    ·exact hn2 m i hm hi hmi b h6 h8
    ·exact hdis b h8 (w8.2 ⟨m,j7.2 hm,h6⟩)
   by_cases hji:j=i
   ·subst hji;simp only[j9] at hb;simp only[show ¬ k=j from λe=>hjk e.symm,q8] at hb';exact key k hk (λe=>hjk e.symm) hb' hb
   ·simp only[hji,q8] at hb;by_cases hki:k=i
    ·simp only[hki,j9] at hb';exact key j hj hji hb hb'
    ·simp only[hki,q8] at hb';exact hn2 j k hj hk hjk b hb hb'
theorem R.stE{p s s0 e z i off:Nat}{path:List Nat}{x:Operand}{l:List D}{d0 d1 d' dx:D}{ty n rt:TypeId}{pos:String}{aft:Array Edge}{g:Option (Nat×Bool)}[LdT P ty n gg]
 (h:σ.get p=some (.ep s z i off path)) (ho:ownr σ s s0) (hs:σ.get s0=some (.sl (some e) z l)) (hi:l[i]? = some d0) (hl:d0.loc path=some (off,d1))
 (hx:ev C.gl σ x=some dx) (hxp:dx.pur=true) (hxn:dx.np=true) (hz:dx.sz=n) (hz1:dx.sz=d1.sz) (hu:d0.upd path dx=some d') :
 OpS P C ⟨none,.store ty (.tmp p) x,rt,pos,aft,g⟩ σ (σ.upd s0 (.sl (some e) z (l.set i d'))):=by
 refine OpS.skip rfl λa w ⟨ρ,Fe,Fb,st⟩=>?_;obtain⟨v,hv,hv0,hr⟩:=YF st ho hs;obtain⟨_,b,o,len,cap,h1,h2,h3⟩:=st.env _ _ h;rw[hv] at h1;cases h1;obtain⟨hilt,rfl⟩:=z8.1 hi;generalize hFe:Fe s0=F0 at hr;have hnd:=st.nodE s0;rw[hFe] at hnd
 cases hr with
 | slE=>exact absurd hilt (Q8 _)
 | slO b cs e cap z l Fs hb hc hm hsz ho1 hr=>
 obtain⟨hn1,hn2⟩:=v3.1 hnd;obtain⟨Fx,hvx,_⟩:=H5 st hx (D9 hxp);have hFx:=hvx.pur hxp;subst hFx
 have hdead:dx≠.dead:=by rintro rfl;simp[D.pur] at hxp
 have hxc:=hvx.cells hdead
 have hcl:l.length*z<=cs.toList.length:=by
  have:=w6 z hc;simp;omega
 obtain⟨hb1,Fs',g1,g2,g3⟩:=w10 hr hn2 hcl hilt hl hu hz1 (hxc.unflag hxn) w9 (by simp) (.inl rfl);have hlen:=hxc.len
 have hvs:(a.eval x).cells.size=n:=by simp at hlen;omega
 have hbl:b<w.heap.size:=(j6.1 hb).1;simp only[c9] at h2;have hin:∀ y∈(List.range l.length).flatMap Fs',y∈(List.range l.length).flatMap Fs:=λy hy=>(g2 y hy).resolve_right (by simp)
 refine⟨w.setRow b (cs.toList.take (i*z+off)++(a.eval x).cells.toList++cs.toList.drop (i*z+off+(a.eval x).cells.toList.length)).toArray, ?_,ρ,_,Fb,
  st.turn (F:=b::(List.range l.length).flatMap Fs') hs rfl ⟨rfl,z7 _⟩ rfl (by simp) (λb' _ hb'=>setRow_other w b b' _ (λe=>hb' (by rw[hFe,e];simp))) ?_ ?_ ?_⟩
 ·unfold execOp
  have hbnd:i*z+off+n<=cs.size:=by simp at hb1;omega
  simp only[Instr.storeAt,Instr.sureAddr,Q3 h2,Sem.run_bind,Sem.run_pure,Result.andThen_ok,KS (P:=P) (ty:=ty) hb hvs hbnd hxc.one]
 ·exact v3.2 ⟨λhm'=>hn1 (hin b hm'),g3⟩
 ·intro y hy;left;rw[hFe]
  rcases w5.1 hy with rfl|hy
  ·simp
  ·exact j1 _ (hin y hy)
 ·refine(c5 rfl).2 ⟨_,hv0, ?_⟩;simp only[VR,D.isAgg,q7,q8];have:=Rc.slO (w:=w.setRow b (cs.toList.take (i*z+off)++(a.eval x).cells.toList++cs.toList.drop (i*z+off+(a.eval x).cells.toList.length)).toArray) (ρ:=ρ)
   (G:=gd C (Go.Sx.upd Fe s0 (b::(List.range l.length).flatMap Fs')) Fb) (L:=λid=>(σ.box id).isSome) (p:=true) b _ e cap z (l.set i d') Fs' (setRow_heap w b cs _ e (0,0) hb) (by simpa using hc) hm
   (by
    simp only[L7]
    rw[T1 _ _ _ (by omega)];simp[hsz]) (λu hu=>by
    simp only[Q9] at hu
    rcases hu with (hu|hu)|hu
    ·exact ho1 u (Q0 hu)
    ·exact hxc.one u hu
    ·exact ho1 u (Y5 hu)) (λj hj=>by
    have hj':j<l.length:=by simpa using hj
    refine(g1 j hj).mono (λy hy hyl=>setRow_other w b y _ ?_) (λy hy _=>⟨hy.1,λho'=>hy.2 ?_⟩) (λid hid=>⟨hid,rfl⟩)
    ·rintro rfl
     rcases hy with hy|hy
     ·exact hy.2 (.inl ⟨s0,by rw[hFe];simp⟩)
     ·exact hn1 (hin _ (w8.2 ⟨j,j7.2 hj',hy⟩))
    ·rcases ho' with ⟨u,hu'⟩|hid
     ·by_cases hus:u=s0
      ·subst hus;rw[c7] at hu';refine .inl ⟨u, ?_⟩;rw[hFe]
       rcases w5.1 hu' with rfl|hu'
       ·simp
       ·exact j1 _ (hin y hu')
      ·rw[j2 hus] at hu';exact .inl ⟨u,hu'⟩
     ·exact .inr hid)
  simpa using this
theorem XS(xs r:List Value)(i n z:Nat)(hx:xs.length=n*z)(hi:i<n):((xs++r).drop (i*z)).take z=(xs.drop (i*z)).take z:=by
 have:(i+1)*z<=n*z:=w6 z hi;rw[v7] at this;rw[List.drop_append_of_le_length (by omega),G5 (by simp;omega)]
theorem HY(xs news r:List Value)(j n m z:Nat)(hx:xs.length=n*z)(hn:news.length=m*z)(hj:j<m) :
 ((xs++(news++r)).drop ((n+j)*z)).take z=(news.drop (j*z)).take z:=by
 rw[show(n+j)*z=n*z+j*z from v7 _ _ _,<- B4,P2 hx];exact XS news r j m z hn hj
def fjoin(n:Nat)(Fs Fs2:Nat->List Nat)(i:Nat):List Nat:=if i<n then Fs i else Fs2 (i-n)
theorem GA{n m:Nat}{Fs Fs2:Nat->List Nat}{b:Nat}(h:b∈(List.range (n+m)).flatMap (fjoin n Fs Fs2)):b∈(List.range n).flatMap Fs∨b∈(List.range m).flatMap Fs2:=by
 obtain⟨i,hi,hm⟩:=w8.1 h;have hi':=j7.1 hi;unfold fjoin at hm;split at hm
 ·rename_i h1;exact .inl (w8.2 ⟨i,j7.2 h1,hm⟩)
 ·exact .inr (w8.2 ⟨i-n,j7.2 (by omega),hm⟩)
theorem PB{n m:Nat}{Fs Fs2:Nat->List Nat}(h1:((List.range n).flatMap Fs).Nodup)(h2:((List.range m).flatMap Fs2).Nodup)(hd:∀ b∈(List.range m).flatMap Fs2,b∉(List.range n).flatMap Fs) :
 ((List.range (n+m)).flatMap (fjoin n Fs Fs2)).Nodup:=by
 obtain⟨a1,a2⟩:=l7 h1;obtain⟨b1,b2⟩:=l7 h2;refine N7 (λi hi=>?_) (λi j hi hj hij b hb hb'=>?_)
 ·unfold fjoin;split
  ·rename_i h;exact a1 i h
  ·exact b1 (i-n) (by omega)
 ·unfold fjoin at hb hb'
  split at hb<;>split at hb'
  ·rename_i h h';exact a2 i j h h' hij b hb hb'
  ·rename_i h h';exact hd b (w8.2 ⟨_,j7.2 (by omega),hb'⟩) (w8.2 ⟨_,j7.2 h,hb⟩)
  ·rename_i h h';exact hd b (w8.2 ⟨_,j7.2 (by omega),hb⟩) (w8.2 ⟨_,j7.2 h',hb'⟩)
  ·rename_i h h';exact b2 (i-n) (j-n) (by omega) (by omega) (by omega) b hb hb'
theorem q53{G L:Nat->Prop}{p:Bool}{b e z cap:Nat}{cur:Array Value}{xs news rest:List Value}{l l':List D}{Fs Fs2:Nat->List Nat}(hb:w.heap[b]? = some (.cells cur e (0,0)))
 (hcur:cur.toList=xs++(news++rest)) (hx:xs.length=l.length*z) (hn:news.length=l'.length*z) (hsz:cur.size=cap*z) (hc:l.length+l'.length<=cap) (hm:cap<=maxLen) (ho:∀ u∈cur.toList,u.oneCell'=true)
 (hr1:∀ i (h:i<l.length),Rc w ρ G L false l[i] ((xs.drop (i*z)).take z) (Fs i)) (hr2:∀ j (h:j<l'.length),Rc w ρ G L false l'[j] ((news.drop (j*z)).take z) (Fs2 j)) :
 Rc w ρ G L p (.sl (some e) z (l++l')) [.slice (some ⟨b,0,none⟩) (l.length+l'.length:Nat) cap] (b::(List.range (l.length+l'.length)).flatMap (fjoin l.length Fs Fs2)):=by
 have:=Rc.slO (w:=w) (ρ:=ρ) (G:=G) (L:=L) (p:=p) b cur e cap z (l++l') (fjoin l.length Fs Fs2) hb (by simpa using hc) hm hsz ho (λi hi=>by
  rw[hcur];by_cases hil:i<l.length
  ·simp only[o0 hil,fjoin,hil,j9];rw[XS _ _ _ _ _ hx hil];exact hr1 i hil
  ·have hi':i<l.length+l'.length:=by simpa using hi
   simp only[K1 (H4 hil),fjoin,hil,q8];have e1:=HY xs news rest (i-l.length) l.length l'.length z hx hn (by omega);rw[show l.length+(i-l.length)=i by omega] at e1;rw[e1]
   exact hr2 (i-l.length) (by omega))
 simpa using this
structure Turn(F:List Nat)(w w':World):Prop where
 os:w'.os=w.os
 tape:TpR w' w
 output:w'.output=w.output
 size:w.heap.size<=w'.heap.size
 blk:∀ b,b<w.heap.size->b∉F->w'.heap[b]? = w.heap[b]?
theorem Turn.refl(F:List Nat)(w:World):Turn F w w:=⟨rfl,⟨rfl,z7 _⟩,rfl,z7 _,λ_ _ _=>rfl⟩
theorem q39{F:List Nat}(h:Ext w w'):Turn F w w':=⟨h.os,⟨h.tape.tp,h.tape.dr⟩,h.output,h.size,λb hb _=>h.block b hb⟩
theorem AD{zv:Array Value}{n:Nat}(h:zv.toList.all Value.oneCell'=true):∀ u∈(Builtin.zeroCells zv n).toList,u.oneCell'=true:=by
 intro u hu;simp only[Builtin.zeroCells,Array.toList_map,n9,Array.mem_toList_iff,Array.mem_range] at hu;obtain⟨i,hi,rfl⟩:=hu
 have hpos:0<zv.size:=by
  rcases I2 zv.size with h0|h0
  ·rw[h0] at hi;omega
  ·exact h0
 have hlt:=R1 i hpos;rw[Z1 zv (i%zv.size) hlt];exact o8.1 h _ (by simp)
theorem z07{G L:Nat->Prop}{t e z bytes ty:Nat}[hT:SlT P t e][hE:ElT P e z bytes]{d:D}{l l':List D}{v:Value}{F:List Nat}{base:Option Addr}{cap2:Nat}{news:List Value}{Fs2:Nat->List Nat}
 (hd:Rc w ρ G L true d [v] F) (hdd:(d=.nils/\l=[])∨d=.sl (some e) z l) (hFn:F.Nodup)
 (hs:(base=none/\l'=[]/\cap2=0)∨∃ a,base=some a/\∀ j u,news[j]? = some u->w.cell? (a.add j)=some u) (hnl:news.length=l'.length*z) (h1:∀ u∈news,u.oneCell'=true)
 (hr2:∀ j (h:j<l'.length),Rc w ρ G L false l'[j] ((news.drop (j*z)).take z) (Fs2 j)) (hF2:((List.range l'.length).flatMap Fs2).Nodup) (hdis:∀ b∈(List.range l'.length).flatMap Fs2,b∉F) (hGF:∀ b,G b->b∉F)
 (hbytes:(l.length+l'.length)*bytes<=140737488355328) (hmax:l.length+l'.length<=maxLen) :
 ∃ v' w' F',(Builtin.append_ #[t,t] ty #[v,.slice base l'.length cap2]).run P w=.ok v' w'/\Turn F w w'/\F'.Nodup/\(∀ b∈F',b∈F∨b∈(List.range l'.length).flatMap Fs2∨w.heap.size<=b) /\
  ∀ G',(∀ b,G b->b<w.heap.size->G' b)->Rc w' ρ G' L true (.sl (some e) z (l++l')) [v'] F':=by
 obtain⟨i,zv,hi,hsz,hby,hz,hzs,hpos,hone⟩:=hE.i
 have h63:l.length+l'.length<=9223372036854775807:=by simp only[maxLen] at hmax;omega
 -- the new block,when one is made
 have grow:∀ (old:Nat) (xs:List Value) (Fs:Nat->List Nat),(∀ u∈xs,u.oneCell'=true)->xs.length=l.length*z->(∀ j (h:j<l.length),Rc w ρ G L false l[j] ((xs.drop (j*z)).take z) (Fs j)) ->
  ((List.range l.length).flatMap Fs).Nodup->(∀ b∈(List.range l.length).flatMap Fs,b∈F) ->
  ∃ F',Turn F w (w.drew.alloc (.cells (xs.toArray++news.toArray++Builtin.zeroCells zv.cells (grownCap w (l.length+l'.length) old e-(l.length+l'.length))) e))/\F'.Nodup /\
   (∀ b∈F',b∈F∨b∈(List.range l'.length).flatMap Fs2∨w.heap.size<=b) /\
   ∀ G',(∀ b,G b->b<w.heap.size->G' b)->Rc (w.drew.alloc (.cells (xs.toArray++news.toArray++Builtin.zeroCells zv.cells (grownCap w (l.length+l'.length) old e-(l.length+l'.length))) e)) ρ G' L true
    (.sl (some e) z (l++l')) [.slice (some ⟨w.heap.size,0,none⟩) (l.length+l'.length:Nat) (grownCap w (l.length+l'.length) old e)] F':=by
  intro old xs Fs hxo hx hr hnd hsub;have hge:=grownCap_ge w (l.length+l'.length) old e;have hcm:grownCap w (l.length+l'.length) old e<=maxLen:=grownCap_le_maxLen w (l.length+l'.length) old e hmax;have hext:Ext w (w.drew.alloc (.cells (xs.toArray++news.toArray++Builtin.zeroCells zv.cells (grownCap w (l.length+l'.length) old e-(l.length+l'.length))) e)):=(Ext.drew w).trans (Ext.alloc _ _)
  have hnew:∀ b∈(List.range (l.length+l'.length)).flatMap (fjoin l.length Fs Fs2),b<w.heap.size:=by
   intro b hb
   rcases GA hb with h2|h2
   ·obtain⟨j,hj,hm⟩:=w8.1 h2;exact(hr j (j7.1 hj)).lt b hm
   ·obtain⟨j,hj,hm⟩:=w8.1 h2;exact(hr2 j (j7.1 hj)).lt b hm
  refine⟨w.heap.size::(List.range (l.length+l'.length)).flatMap (fjoin l.length Fs Fs2),q39 hext, ?_, ?_,λG' hG'=>?_⟩
  ·refine v3.2 ⟨λhm=>?_,PB hnd hF2 (λb hb hb'=>hdis b hb (hsub b hb'))⟩;have:=hnew _ hm;omega
  ·intro b hb
   rcases w5.1 hb with rfl|hb
   ·exact .inr (.inr (z7 _))
   ·rcases GA hb with h2|h2
    ·exact .inl (hsub b h2)
    ·exact .inr (.inl h2)
  ·refine q53 (xs:=xs) (news:=news) (rest:=(Builtin.zeroCells zv.cells (grownCap w (l.length+l'.length) old e-(l.length+l'.length))).toList) (heap_alloc_new w.drew _) ?_ hx hnl ?_ hge hcm ?_ ?_ ?_
   ·simp
   ·simp only[Array.size_append,L7,size_zeroCells,hzs,hx,hnl,<- v7]
    congr 1
    omega
   ·intro u hu;simp only[Array.toList_append,Q9] at hu
    rcases hu with (hu|hu)|hu
    ·exact hxo u hu
    ·exact h1 u hu
    ·exact AD hone u hu
   ·exact λj hj=>(hr j hj).mono (λb _ hl=>hext.block b hl) hG' (λid hid=>⟨hid,rfl⟩)
   ·exact λj hj=>(hr2 j hj).mono (λb _ hl=>hext.block b hl) hG' (λid hid=>⟨hid,rfl⟩)
 -- nothing is added
 have stay:∀ (b cap:Nat) (cs:Array Value) (Fs:Nat->List Nat),l'=[]->True:=λ_ _ _ _ _=>trivial
 have nilcase:v=.slice none 0 0->l=[]->F=[] ->
  ∃ v' w' F',(Builtin.append_ #[t,t] ty #[v,.slice base l'.length cap2]).run P w=.ok v' w'/\Turn F w w'/\F'.Nodup/\(∀ b∈F',b∈F∨b∈(List.range l'.length).flatMap Fs2∨w.heap.size<=b) /\
  ∀ G',(∀ b,G b->b<w.heap.size->G' b)->Rc w' ρ G' L true (.sl (some e) z (l++l')) [v'] F':=by
  rintro rfl rfl rfl;by_cases hm:l'.length=0
  ·have hl0:l'=[]:=Q4.1 hm;subst hl0;have hn0:news=[]:=Q4.1 (by simpa using hnl);subst hn0;refine⟨.slice none 0 0,w,[], ?_,Turn.refl _ _,w9,by simp,λG' _=>?_⟩
   ·rcases hs with ⟨rfl,_,rfl⟩|⟨a,rfl,_⟩ <;>
     simp[Builtin.append_,run_underlying hT.u,sizeOf,typeInfo,hi,Builtin.lenOf,Builtin.firstCells,loadCells,loadCellsFrom]
   ·exact .slN (some e) z
  ·rcases hs with ⟨_,rfl,_⟩|⟨a,rfl,hnews⟩
   ·simp at hm
   ·have hr:=run_append_nil (P:=P) w t ty e i zv hT.u hi hz a l'.length cap2 news (by rw[hsz];exact hnl) hnews (by omega) (by simp at h63;omega) (by rw[hby];simp at hbytes;omega);obtain⟨F',q1,q2,q3,q4⟩:=grow 0 [] (λ_=>[]) (by simp) (by simp) (λj hj=>by simp at hj) (by simp) (by simp);simp only[j5,c9,U0] at q1 q2 q3 q4 ⊢
    have e0:(#[]:Array Value)++news.toArray=news.toArray:=by simp
    simp only[e0] at q1 q4;exact⟨_,_,F',hr,q1,q2,q3,q4⟩
 have empcase:∀ a0:Addr,v=.slice (some a0) 0 0->l=[]->F=[] ->
  ∃ v' w' F',(Builtin.append_ #[t,t] ty #[v,.slice base l'.length cap2]).run P w=.ok v' w'/\Turn F w w'/\F'.Nodup/\(∀ b∈F',b∈F∨b∈(List.range l'.length).flatMap Fs2∨w.heap.size<=b) /\
  ∀ G',(∀ b,G b->b<w.heap.size->G' b)->Rc w' ρ G' L true (.sl (some e) z (l++l')) [v'] F':=by
  rintro a0 rfl rfl rfl;by_cases hm:l'.length=0
  ·have hl0:l'=[]:=Q4.1 hm;subst hl0;have hn0:news=[]:=Q4.1 (by simpa using hnl);subst hn0;refine⟨.slice (some a0) 0 0,w,[], ?_,Turn.refl _ _,w9,by simp,λG' _=>?_⟩
   ·rcases hs with ⟨rfl,_,rfl⟩|⟨a,rfl,_⟩ <;>
     simp[Builtin.append_,run_underlying hT.u,sizeOf,typeInfo,hi,Builtin.lenOf,Builtin.firstCells,loadCells,loadCellsFrom,storeCells]
   ·exact .slE (some e) z a0
  ·rcases hs with ⟨_,rfl,_⟩|⟨a,rfl,hnews⟩
   ·simp at hm
   ·have hgz:Builtin.nextslicecap (0+l'.length) 0*i.bytes<=281474976710656:=by
     rw[c9,nextslicecap_zero (by omega)];rw[hby];simp at hbytes;omega
    have hr:=run_append_grow (P:=P) (w:=w) t ty e i zv hT.u hi hz a0 0 0 [] (by simp) (by simp) a l'.length cap2 news (by rw[hsz];exact hnl) hnews (by omega) (by simp at h63;omega) hgz;obtain⟨F',q1,q2,q3,q4⟩:=grow 0 [] (λ_=>[]) (by simp) (by simp) (λj hj=>by simp at hj) (by simp) (by simp);simp only[j5,c9,U0] at hr q1 q2 q3 q4 ⊢;exact⟨_,_,F',hr,q1,q2,q3,q4⟩
 rcases hdd with ⟨rfl,rfl⟩|rfl
 ·have hv:=hd.nil_val;subst hv;have hF:=hd.pur rfl;exact nilcase rfl rfl hF
 ·generalize hvv:[v]=cv at hd
  cases hd with
  | slN o z=>
   cases hvv;exact nilcase rfl rfl rfl
  | slE o z a0=>
   cases hvv;exact empcase a0 rfl rfl rfl
  | slO b cs e cap z l Fs hb hc hcm hcs ho1 hr=>
   cases hvv;obtain⟨hn1,hn2⟩:=v3.1 hFn;have hbl:b<w.heap.size:=(j6.1 hb).1
   have hxl:(cs.toList.take (l.length*z)).length=l.length*z:=by
    have:=w6 z hc;simp;omega
   have hrx:∀ j (h:j<l.length),Rc w ρ G L false l[j] (((cs.toList.take (l.length*z)).drop (j*z)).take z) (Fs j):=λj hj=>by
    have e1:=XS (cs.toList.take (l.length*z)) (cs.toList.drop (l.length*z)) j l.length z hxl hj;rw[K9] at e1;rw[<- e1];exact hr j hj
   rcases hs with ⟨rfl,rfl,rfl⟩|⟨a,rfl,hnews⟩
   ·refine⟨_,w,b::(List.range l.length).flatMap Fs,run_append_owned_none (P:=P) (w:=w) 0 t ty e i z hT.u hi _ l.length (cs.toList.take (l.length*z)) ⟨hxl,.inr ⟨b,cap,cs,rfl,g9 _,hb,hc,hcm,hcs,rfl⟩⟩,
     Turn.refl _ _,hFn,λb hb=>.inl hb,λG' hG'=>?_⟩
    rw[m6];exact(Rc.slO (w:=w) (ρ:=ρ) (G:=G) (L:=L) (p:=true) b cs e cap z l Fs hb hc hcm hcs ho1 hr).mono (λ_ _ _=>rfl) hG' (λid hid=>⟨hid,rfl⟩)
   ·by_cases hroom:l.length+l'.length<=cap
    ·have hfit:l.length*i.size+news.length<=cs.size:=by rw[hnl,hcs,hsz,<- v7];exact w6 _ hroom
     have hrun:=run_append_room (P:=P) w t ty e i hT.u hi b l.length cap cs hb a l'.length cap2 news (by rw[hsz];exact hnl) hnews h1 hroom hfit;rw[hsz] at hrun hfit;have hdb:∀ b',b'∈(List.range l'.length).flatMap Fs2->b'≠b:=λb' hb' he=>hdis b' hb' (by simp[he]);refine⟨_,_,b::(List.range (l.length+l'.length)).flatMap (fjoin l.length Fs Fs2),hrun,⟨rfl,⟨rfl,z7 _⟩,rfl,by simp,λb' _ hb'=>setRow_other w b b' _ (λe=>hb' (by simp[e]))⟩, ?_, ?_,λG' hG'=>?_⟩
     ·refine v3.2 ⟨λhm=>?_,PB hn2 hF2 (λb hb hb'=>hdis b hb (j1 _ hb'))⟩
      rcases GA hm with h2|h2
      ·exact hn1 h2
      ·exact hdb _ h2 rfl
     ·intro b' hb'
      rcases w5.1 hb' with rfl|hb'
      ·exact .inl (by simp)
      ·rcases GA hb' with h2|h2
       ·exact .inl (j1 _ h2)
       ·exact .inr (.inl h2)
     ·refine q53 (xs:=cs.toList.take (l.length*z)) (news:=news) (rest:=cs.toList.drop (l.length*z+news.length)) (setRow_heap w b cs _ e (0,0) hb) (by simp) hxl hnl ?_ hroom hcm ?_ ?_ ?_
      ·simp only[L7,q9,v5,v8,p6];omega
      ·intro u hu;simp only[Q9] at hu
       rcases hu with (hu|hu)|hu
       ·exact ho1 u (Q0 hu)
       ·exact h1 u hu
       ·exact ho1 u (Y5 hu)
      ·exact λj hj=>(hrx j hj).mono (λb' hb' _=>setRow_other w b b' _ (by
        rintro rfl
        rcases hb' with hb'|hb'
        ·exact hGF _ hb' (by simp)
        ·exact hn1 (w8.2 ⟨j,j7.2 hj,hb'⟩))) hG' (λid hid=>⟨hid,rfl⟩)
      ·exact λj hj=>(hr2 j hj).mono (λb' hb' _=>setRow_other w b b' _ (by
        rintro rfl
        rcases hb' with hb'|hb'
        ·exact hGF _ hb' (by simp)
        ·exact hdb _ (w8.2 ⟨j,j7.2 hj,hb'⟩) rfl)) hG' (λid hid=>⟨hid,rfl⟩)
    ·have holds:∀ j u,(cs.toList.take (l.length*z))[j]? = some u->w.cell? ((⟨b,0,none⟩:Addr).add j)=some u:=by
      intro j u hu;rw[R6,cell_of_row w b _ cs e (0,0) hb];rw[d9] at hu;split at hu
      ·simpa using hu
      ·cases hu
     have hrun:=run_append_grow (P:=P) w t ty e i zv hT.u hi hz ⟨b,0,none⟩ l.length cap (cs.toList.take (l.length*z)) (by rw[hsz];exact hxl) holds a l'.length cap2 news (by rw[hsz];exact hnl) hnews (by omega) (by omega)
      (growslice_fits (by omega) (by rw[hby];exact hbytes))
     obtain⟨F',q1,q2,q3,q4⟩:=grow cap (cs.toList.take (l.length*z)) Fs (λu hu=>ho1 u (Q0 hu)) hxl hrx hn2 (λb' hb'=>j1 _ hb');exact⟨_,_,F',hrun,q1,q2,q3,q4⟩
end
section
variable{pos:String}{aft:Array Edge}{g:Option (Nat×Bool)}
variable{P:Program}{C:Ctx}{σ σ' σ1:Sg}{a:Act}{w w':World}{ρ:Nat->Nat}{Fe Fe' Fb:Nat->List Nat}
theorem x57{news:List Value}{m z:Nat}(hl:news.length=m*z){u:Value}(hu:u∈news):∃ j,j<m/\u∈(news.drop (j*z)).take z:=by
 obtain⟨k,hk,rfl⟩:=Q2.1 hu
 have hz:0<z:=by
  rcases I2 z with rfl|h
  ·simp at hl;subst hl;simp at hk
  ·exact h
 have h1:k<m*z:=by omega
 have h2:k/z<m:=S7 (by rw[L4];exact h1);refine⟨k/z,h2, ?_⟩;have h3:=Nat.div_add_mod k z;have h4:=R1 k hz;rw[L4] at h3;refine List.mem_iff_getElem?.2 ⟨k%z, ?_⟩;rw[d9,u4 h4,n4,show k/z*z+k%z=k by omega];exact j8 hk
theorem FO(n:Nat):(List.range n).flatMap (λ_=>([]:List Nat))=[]:=by rw[J0];intros;rfl
theorem j33(n:Nat):((List.range n).flatMap (λ_=>([]:List Nat))).Nodup:=by rw[FO];exact w9
theorem z62(n:Nat)(F:List Nat):∀ b∈(List.range n).flatMap (λ_=>([]:List Nat)),b∉F:=by rw[FO];intro b hb;cases hb
theorem WI{G L:Nat->Prop}{base:Option Addr}{len cap z:Nat}{l:List D}(h:v03 w ρ G L base len cap z l)(hp:∀ y∈l,y.pur=true) :
 len=l.length/\∃ news:List Value,((base=none/\l=[]/\cap=0)∨∃ a,base=some a/\∀ j u,news[j]? = some u->w.cell? (a.add j)=some u)/\news.length=l.length*z/\(∀ u∈news,u.oneCell'=true) /\
  ∀ j (h:j<l.length),Rc w ρ G L false l[j] ((news.drop (j*z)).take z) []:=by
 obtain⟨rfl,h⟩:=h;refine⟨rfl, ?_⟩
 rcases h with ⟨h1,rfl⟩|⟨b,o,cs,e,fz,rfl,hb,hc,hs,hr⟩
 ·have:l=[]:=Q4.1 h1;subst this
  cases base with
  | none=>exact⟨[],.inl ⟨rfl,rfl,rfl⟩,by simp,by simp,λj hj=>by simp at hj⟩
  | some a=>exact⟨[],.inr ⟨a,rfl,by simp⟩,by simp,by simp,λj hj=>by simp at hj⟩
 ·have hl:((cs.toList.drop o).take (l.length*z)).length=l.length*z:=by simp;omega
  have hr2:∀ j (h:j<l.length),Rc w ρ G L false l[j] ((((cs.toList.drop o).take (l.length*z)).drop (j*z)).take z) []:=by
   intro j hj;obtain⟨F,hF⟩:=hr j hj;have hFn:=hF.pur (hp _ (g6 hj));subst hFn
   have:j*z+z<=l.length*z:=by
    have:=w6 z (show j+1<=l.length by omega);rw[v7] at this;omega
   rw[XG _ _ _ _ _ this];exact hF
  refine⟨(cs.toList.drop o).take (l.length*z),.inr ⟨_,rfl,λj u hu=>?_⟩,hl,λu hu=>?_,hr2⟩
  ·rw[R6,cell_of_row w b _ cs e fz hb];rw[d9] at hu;split at hu
   ·rw[n4] at hu;simpa using hu
   ·cases hu
  ·obtain⟨j,hj,hm⟩:=x57 hl hu;exact(hr2 j hj).one u hm
inductive SrcO(gl:List (Nat×D))(σ:Sg):Operand->Nat->List D->Prop
 | sc {t z:Nat} {l:List D} (h:SC σ t z l) (hp:∀ y∈l,y.pur=true):SrcO gl σ (.tmp t) z l
 | nil {x:Operand} {z:Nat} (h:ev gl σ x=some .nils):SrcO gl σ x z []
theorem SrcO.ok(st:StW C σ a w ρ Fe Fb){x:Operand}{z:Nat}{l:List D}(h:SrcO C.gl σ x z l) :
 ∃ base cap,a.eval x=.slice base l.length cap/\v03 w ρ (gd C Fe Fb) (λid=>(σ.box id).isSome) base l.length cap z l/\∀ y∈l,y.pur=true:=by
 cases h with
 | sc h hp=>
  obtain⟨base,len,cap,hv,hr⟩:=CC st h;have:=hr.1;subst this;exact⟨base,cap,Q3 hv,hr,hp⟩
 | nil h=>
  obtain⟨F,hv,_⟩:=H5 st h rfl;simp only[VR,D.isAgg,q7,q8] at hv;refine⟨none,0,hv.nil_val,⟨rfl,.inl ⟨rfl,rfl⟩⟩,by simp⟩
theorem fits{n bytes:Nat}(hby:bytes<=131072)(hn:n<=1073741824):n*bytes<=140737488355328/\n<=maxLen:=by
 refine⟨?_,by simp only[maxLen];omega⟩
 calc n*bytes<=1073741824*131072:=Nat.mul_le_mul hn hby
  _<=140737488355328:=by decide
theorem R.app{s s0 t e z bytes:Nat}{x:Operand}{l l':List D}{ty rt:TypeId}[hT:SlT P ty e][hE:ElT P e z bytes]
 (ho:ownr σ s s0) (hs:σ.get s0=some (.sl (some e) z l)) (hx:SrcO C.gl σ x z l') (hn:l.length+l'.length<=1073741824) (ht:t<σ.n) (hst:s0≠t) (hby:bytes<=131072) :
 OpS P C ⟨some t,.call { callee:=.builtin .append,args:=#[.tmp s,x],argTypes:=#[ty,ty] },rt,pos,aft,g⟩ σ ((σ.kill s0).set t (.sl (some e) z (l++l'))):=by
 refine OpS.value λa w ⟨ρ,Fe,Fb,st⟩=>?_;obtain⟨v,hv,hv0,hr⟩:=YF st ho hs;obtain⟨base,cap,hxe,hsr,hp⟩:=hx.ok st;obtain⟨_,news,q1,q2,q3,q4⟩:=WI hsr hp;obtain⟨f1,f2⟩:=fits hby hn;obtain⟨v',w',F',hrun,ht',hnd,hsub,hres⟩:=z07 (P:=P) (t:=ty) (e:=e) (bytes:=bytes) (ty:=rt) (Fs2:=λ_=>[]) hr (.inr rfl) (st.nodE s0) q1 q2 q3 q4 (j33 _) (z62 _ _) (λb hb hm=>hb.2 (.inl ⟨s0,hm⟩)) f1 f2;refine⟨v',w', ?_,ρ,_,Fb,st.take (F:=F') ht hst hs ht'.os ht'.tape ht'.output ht'.size ht'.blk hnd (λb hb=>?_) ((c5 rfl).2 ⟨v',by rw[Y0 a t _ t (by rw[st.size];exact ht)];simp, ?_⟩)⟩
 ·unfold execOp;simp[resolve,invoke,builtin,Q3 hv,hxe,hrun]
 ·rcases hsub b hb with h|h|h
  ·exact .inl h
  ·simp at h
  ·exact .inr h
 ·simp only[VR,D.isAgg,q7,q8];refine hres _ (λb hb hl=>⟨hb.1,λhc=>?_⟩)
  rcases hc with ⟨u,hu⟩|hid
  ·by_cases hut:u=t
   ·subst hut;simp at hu
    rcases hsub b hu with h|h|h
    ·exact hb.2 (.inl ⟨s0,h⟩)
    ·simp at h
    ·omega
   ·rw[j2 hut] at hu;by_cases hus:u=s0
    ·subst hus;simp at hu
    ·rw[j2 hus] at hu;exact hb.2 (.inl ⟨u,hu⟩)
  ·exact hb.2 (.inr hid)
theorem StW.newSl{t e z:Nat}{l:List D}{cs:Array Value}(st:StW C σ a w ρ Fe Fb)(ht:t<σ.n)(hl:l.length<=maxLen)(hs:cs.size=l.length*z)
 (hr:∀ i (h:i<l.length),Rc w ρ (gd C Fe Fb) (λid=>(σ.box id).isSome) false l[i] ((cs.toList.drop (i*z)).take z) []) :
 St C (σ.set t (.sl (some e) z l)) (a.put (some t) (.slice (some ⟨w.heap.size,0,none⟩) l.length l.length)) (w.alloc (.cells cs e)):=by
 have hlt:=st.lt;refine⟨ρ,upd Fe t [w.heap.size],Fb,st.ext ht (Ext.alloc w _) (by simp) (by simp) ((c5 rfl).2 ⟨.slice (some ⟨w.heap.size,0,none⟩) l.length l.length,by rw[Y0 a t _ t (by rw[st.size];exact ht)];simp, ?_⟩)⟩;simp only[VR,D.isAgg,q7,q8];have hone:=(Rc.arr (p:=false) l.length z l cs.toList rfl (by simpa using hs) hr).one;have:=Rc.slO (w:=w.alloc (.cells cs e)) (ρ:=ρ) (G:=gd C (upd Fe t [w.heap.size]) Fb) (L:=λid=>(σ.box id).isSome) (p:=true) w.heap.size cs e l.length z l (λ_=>[]) (heap_alloc_new w _) (z7 _) hl hs hone
  (λi hi=>(hr i hi).mono (λb _ hb=>heap_alloc_old w _ hb) (λb hb hbl=>⟨hb.1,λhc=>by
   rcases hc with ⟨u,hu⟩|hid
   ·by_cases hut:u=t
    ·subst hut;simp at hu;omega
    ·rw[j2 hut] at hu;exact hb.2 (.inl ⟨u,hu⟩)
   ·exact hb.2 (.inr hid)⟩) (λid hid=>⟨hid,rfl⟩))
 have e0:(List.range l.length).flatMap (λ_=>([]:List Nat))=[]:=by rw[J0];intros;rfl
 rw[e0] at this;exact this
def evs(gl:List (Nat×D))(σ:Sg):List (Nat×Operand)->Nat->Option (List D)
 | [],_=>some []
 | (i,x)::r,k=>bif Nat.beq i k then(match ev gl σ x with
  | some d=>match evs gl σ r (k+1) with
   | some ds=>some (d::ds)
   | none=>none
  | none=>none) else none
def z86(z:Nat):List D->Prop
 | []=>True
 | d::r=>(d.pur=true/\d.np=true/\d.sz=z)/\z86 z r
theorem JG(cs:Array Value)(vs:List Value)(off k:Nat)(h:off+k+vs.length<=cs.size) :
 ((vs.zipIdx k).foldl (λ(c:Array Value) (p:Value×Nat)=>c.setIfInBounds (off+p.2) p.1) cs).toList=cs.toList.take (off+k)++vs++cs.toList.drop (off+k+vs.length):=by
 induction vs generalizing cs k with
 | nil=>simp
 | cons v vs ih=>
  simp only[List.zipIdx_cons,List.foldl_cons];simp only[j3] at h;rw[ih _ _ (by simp;omega)];simp only[Array.toList_setIfInBounds];apply Z6;intro j;simp only[u5,List.getElem?_append,v5,QP,p6,d9,L8,j3,n4,E0]
  have e1:min (off+(k+1)) cs.size=off+k+1:=by omega
  have e2:min (off+k) cs.size=off+k:=by omega
  rw[e1,e2]
  rcases Nat.lt_trichotomy j (off+k) with h1|h1|h1
  ·simp[h1,show j<off+k+1 by omega,show ¬ off+k=j by omega,show j<off+(k+1) by omega]
  ·subst h1;simp[show off+k<off+k+1 by omega,show off+k<off+(k+1) by omega,show off+k<cs.size by omega]
  ·simp only[show ¬ j<off+k+1 by omega,show ¬ j<off+k by omega,q8]
   have e3:j-(off+k)=(j-(off+k+1))+1:=by omega
   rw[e3];simp only[I0];rw[List.getElem?_append];by_cases h2:j-(off+k+1)<vs.length
   ·simp[h2]
   ·simp only[h2,q8,n4];rw[w3 (by omega)]
    congr 1
    omega
theorem VJ{G L:Nat->Prop}{gl:List (Nat×D)}{z:Nat}(hv:∀ x d,ev gl σ x=some d->d.pur=true->∃ cs:List Value,(a.eval x).cells.toList=cs/\Rc w ρ G L true d cs []) :
 ∀ (ps:List (Nat×Operand)) (k:Nat) (ds:List D) (cs:Array Value),evs gl σ ps k=some ds->z86 z ds->(k+ds.length)*z<=cs.size ->
  ∃ out:Array Value,Instr.fill (λi=>some (i*z,z)) cs (ps.map (λp=>(p.1,a.eval p.2)))=some out/\out.size=cs.size/\out.toList.take (k*z)=cs.toList.take (k*z) /\
   ∀ i (h:i<ds.length),Rc w ρ G L false ds[i] ((out.toList.drop ((k+i)*z)).take z) []:=by
 intro ps
 induction ps with
 | nil=>
  intro k ds cs h hp hs;simp only[evs,z6] at h;subst h;exact⟨cs,rfl,rfl,rfl,λi hi=>by simp at hi⟩
 | cons p ps ih=>
  intro k ds cs h hp hs;obtain⟨i0,x⟩:=p;simp only[evs] at h;by_cases hik:i0=k
  ·subst hik;simp only[Z8,m9] at h
   cases hx:ev gl σ x with
   | none=>rw[hx] at h;cases h
   | some d=>
    rw[hx] at h
    cases hr:evs gl σ ps (i0+1) with
    | none=>simp only[hr] at h;cases h
    | some ds'=>
     simp only[hr,z6] at h;subst h;obtain⟨⟨p1,p2,p3⟩,p4⟩:=hp;obtain⟨xc,hxc,hrc⟩:=hv x d hx p1;have hlen:=hrc.len
     have hsz:(a.eval x).cells.size=z:=by rw[<- p6,hxc,hlen,p3]
     have hkz:(i0+1)*z<=cs.size:=u9 (w6 z (by simp)) hs;rw[v7,l9] at hkz;have hfold:=JG cs xc (i0*z) 0 (by omega);simp only[J8] at hfold
     have hcs2:((a.eval x).cells.zipIdx.foldl (λ(c:Array Value) (p:Value×Nat)=>c.setIfInBounds (i0*z+p.2) p.1) cs).toList=cs.toList.take (i0*z)++xc++cs.toList.drop (i0*z+xc.length):=by
      rw[<- hfold,<- hxc,<- B7];simp
     generalize hc2:((a.eval x).cells.zipIdx.foldl (λ(c:Array Value) (p:Value×Nat)=>c.setIfInBounds (i0*z+p.2) p.1) cs)=cs2 at hcs2
     have hs2:cs2.size=cs.size:=by
      have:=g8 List.length hcs2;rw[T1 _ _ _ (by simp;omega)] at this;simpa using this
     obtain⟨out,q1,q2,q3,q4⟩:=ih (i0+1) ds' cs2 hr p4 (by rw[hs2];simp at hs ⊢;rw[show i0+1+ds'.length=i0+(ds'.length+1) by omega];exact hs)
     have hmid:(cs2.toList.drop (i0*z)).take z=xc:=by
      rw[hcs2,u5,P2 (by simp;omega),G5 (by omega),m4 (by omega)]
     have q3':∀ j:Nat,(out.toList.take ((i0+1)*z))[j]? = (cs2.toList.take ((i0+1)*z))[j]?:=λj=>by rw[q3]
     refine⟨out, ?_,q2.trans hs2, ?_,λi hi=>?_⟩
     ·simp only[b9,Instr.fill]
      have hcond:¬ ((a.eval x).cells.size≠z∨i0*z+(a.eval x).cells.size>cs.size):=by rw[hsz];simp;omega
      simp only[ne_eq,Y2,Z5];rw[w3 (by simpa using hcond)];rw[hc2];exact q1
     ·apply Z6;intro j;by_cases hj:j<i0*z
      ·have:=q3' j
       have hj2:j<(i0+1)*z:=by rw[v7];omega
       simp only[d9,hj2,j9] at this;simp only[d9,hj,j9,this,hcs2];rw[u5,J3 (by simp;omega),d9,u4 hj]
      ·simp[d9,hj]
     ·cases i with
      | zero=>
       simp only[J8,Z2]
       have:(out.toList.drop (i0*z)).take z=(cs2.toList.drop (i0*z)).take z:=by
        apply Z6;intro j;by_cases hj:j<z
        ·have:=q3' (i0*z+j)
         have hj2:i0*z+j<(i0+1)*z:=by rw[v7];omega
         simp only[d9,hj2,j9] at this;simp only[d9,hj,j9,n4,this]
        ·simp[d9,hj]
       rw[this,hmid];exact hrc.unflag p2
      | succ i=>
       have:=q4 i (by simpa using hi);rw[show i0+(i+1)=i0+1+i by omega];simpa using this
  ·rw[nbeq hik] at h;cases h
theorem KC(st:StW C σ a w ρ Fe Fb){x:Operand}{d:D}(h:ev C.gl σ x=some d)(hp:d.pur=true) :
 ∃ cs:List Value,(a.eval x).cells.toList=cs/\Rc w ρ (gd C Fe Fb) (λid=>(σ.box id).isSome) true d cs []:=by
 obtain⟨F,hv,_⟩:=H5 st h (D9 hp);have:=hv.pur hp;subst this;exact⟨_,rfl,hv.cells (by rintro rfl;simp[D.pur] at hp)⟩
theorem R.bsl{t e z bytes k:Nat}{ps:List (Nat×Operand)}{ds:List D}{ty rt:TypeId}[hT:SlT P ty e][hE:ElT P e z bytes]
 (hps:evs C.gl σ ps 0=some ds) (hp:z86 z ds) (hk:ds.length=k) (ht:t<σ.n) (hsm:k*z<=16777216) :
 OpS P C ⟨some t,.buildSlice ty k ps.toArray,rt,pos,aft,g⟩ σ (σ.set t (.sl (some e) z ds)):=by
 refine OpS.value λa w ⟨ρ,Fe,Fb,st⟩=>?_;obtain⟨i,zv,hi,hsz,hby,hz,hzs,hpos,hone⟩:=hE.i;subst hk;obtain⟨out,q1,q2,q3,q4⟩:=VJ (w:=w) (ρ:=ρ) (z:=z) (λx d h hp=>KC st h hp) ps 0 ds ((Array.range (ds.length*z)).map (zv.cells[·%zv.cells.size]!)) hps hp (by simp);simp only[c9] at q4
 have hml:ds.length<=maxLen:=by
  have:ds.length*1<=ds.length*z:=Nat.mul_le_mul_left _ hpos;simp only[maxLen];omega
 refine⟨_,_, ?_,st.newSl (e:=e) (cs:=out) ht hml (by rw[q2];simp) q4⟩;unfold execOp
 have hps2:(ps.toArray.map λx=>(x.1,a.eval x.2)).toList=ps.map (λp=>(p.1,a.eval p.2)):=by simp
 by_cases h0:ds.length*z=0
 ·have q1':=q1;simp only[h0] at q1'
  have e0:(Array.range 0).map (λx=>zv.cells[x%zv.cells.size]!)=(#[]:Array Value):=by simp[Array.range_zero']
  rw[e0] at q1';have e1:Array.range 0=#[]:=rfl;simp[Instr.buildSlice,run_underlying hT.u,ElT.size (P:=P) (e:=e),h0,hps2,e1,q1',newRow,newObj,Sem.run]
 ·simp[Instr.buildSlice,run_underlying hT.u,ElT.size (P:=P) (e:=e),h0,hps2,q1,newRow,newObj,Sem.run,zeroValue,typeInfo,hi,hz,show ¬ (16777216<ds.length*z) by omega]
theorem OX(z:Array Value)(n i:Nat)(hi:i<n):((madeCells z (n*z.size)).toList.drop (i*z.size)).take z.size=z.toList:=by
 have h1:i*z.size+z.size<=n*z.size:=by
  have:=w6 z.size (show i+1<=n by omega);rw[v7] at this;omega
 apply Z6;intro j;by_cases hj:j<z.size
 ·rw[d9,u4 hj,n4]
  have h2:i*z.size+j<n*z.size:=by omega
  have h3:(i*z.size+j)%z.size=j:=by rw[W5,Nat.add_mul_mod_self_right,Q6 hj]
  simp[madeCells,h2,h3,hj]
 ·rw[d9,w3 hj];simp;omega
theorem R.mk{t e z bytes:Nat}{x y:Operand}{n:Nat}{d:D}{ty rt:TypeId}[hT:SlT P ty e][hE:ElT P e z bytes][hZ:ZrT P e d]
 (hx:ev C.gl σ x=some (.int (n:Int))) (hy:ev C.gl σ y=some (.int (n:Int))) (hn:n<=1073741824) (hby:bytes<=131072) (ht:t<σ.n) :
 OpS P C ⟨some t,.makeSlice ty x y,rt,pos,aft,g⟩ σ (σ.set t (.sl (some e) z (List.replicate n d))):=by
 refine OpS.value λa w ⟨ρ,Fe,Fb,st⟩=>?_;obtain⟨i,zv,hi,hsz,hbyt,hz,hzs,hpos,hone⟩:=hE.i;obtain⟨i',zv',hi',hz',hchk,hag⟩:=hZ.i;rw[hi] at hi';cases hi';rw[hz] at hz';cases hz';obtain⟨Fx,hvx,_⟩:=H5 st hx rfl;obtain⟨Fy,hvy,_⟩:=H5 st hy rfl;simp only[VR,D.isAgg,q7,q8] at hvx hvy;generalize hex:a.eval x=vx at hvx;generalize hey:a.eval y=vy at hvy;cases hvx;cases hvy
 have hb:(i.bytes:Int)*(n:Int)<=281474976710656:=by
  rw[hbyt];have:bytes*n<=131072*1073741824:=Nat.mul_le_mul hby hn
  have h2:((bytes*n:Nat):Int)<=281474976710656:=by omega
  rwa [Int.natCast_mul] at h2
 have hrun:=run_make (P:=P) w ty e i zv hT.u hi hz .i64 .i64 n n (by omega) (Int.le_refl _) hb (by omega);simp only[Int.toNat_natCast,hsz] at hrun
 have hst:=st.newSl (e:=e) (z:=z) (l:=List.replicate n d) (cs:=madeCells zv.cells (n*z)) ht (by simp only[d6,maxLen];omega) (by simp[size_madeCells]) (λj hj=>by
  have hj':j<n:=by simpa using hj
  rw[<- hzs,OX _ _ _ hj'];simp only[I6]
  exact XO _ _ _ _ d _ hchk)
 simp only[d6] at hst;refine⟨_,_, ?_,hst⟩;unfold execOp;simp[hex,hey,hrun]
def evo(gl:List (Nat×D))(σ:Sg)(x:Option Operand)(n:Int):Option Int:=
 match x with
 | none=>some n
 | some x=>match ev gl σ x with
  | some d=>d.cnt
  | none=>none
theorem VM(st:StW C σ a w ρ Fe Fb){x:Operand}{n:Int}(h:(match ev C.gl σ x with|some d=>d.cnt|none=>none)=some n):∃ k,a.eval x=.int k n:=by
 cases hx:ev C.gl σ x with
 | none=>rw[hx] at h;cases h
 | some d=>
  rw[hx] at h
  have hr:d.isRef=false/\d.isAgg=false:=by cases d<;>simp_all [D.cnt,D.isRef,D.isAgg]
  obtain⟨F,hv,_⟩:=H5 st hx hr.1;simp only[VR,hr.2,q7,q8] at hv;exact q94 h hv
theorem ZO(st:StW C σ a w ρ Fe Fb){b:Bool}{lo hi:Option Operand}{i j:Int}{len cap:Nat}(hl:evo C.gl σ lo 0=some i)(hh:evo C.gl σ hi len=some j)(h0:0<=i)(h1:i<=j)(h2:j<=len)(hc:len<=cap) :
 (Instr.sliceBounds b len cap (lo.map a.eval) (hi.map a.eval) none).run P w=.ok (i.toNat,j.toNat,cap) w:=by
 have hb:∀ (x:Operand) (n:Int) (y:Nat) (code:BoundsCode),(match ev C.gl σ x with|some d=>d.cnt|none=>none)=some n->0<=n->n<=y->(Instr.sliceBound (a.eval x) y code).run P w=.ok n.toNat w:=by
  intro x n y code hx h0 h1;obtain⟨k,hk⟩:=VM st hx;rw[hk];exact run_sliceBound w k n y code h0 h1
 cases lo with
 | none=>
  simp only[evo,z6] at hl;subst hl
  cases hi with
  | none=>
   simp only[evo,z6] at hh;subst hh;simp[Instr.sliceBounds]
  | some y=>
   simp only[evo] at hh;simp[Instr.sliceBounds,hb y j cap _ hh (by omega) (by omega)]
 | some x=>
  simp only[evo] at hl
  cases hi with
  | none=>
   simp only[evo,z6] at hh;subst hh;simp[Instr.sliceBounds,hb x i len _ hl (by omega) (by omega)]
  | some y=>
   simp only[evo] at hh;simp[Instr.sliceBounds,hb y j cap _ hh (by omega) (by omega),hb x i j.toNat _ hl (by omega) (by omega)]
theorem R.slI{t e z bytes:Nat}{x:Operand}{l:List D}{lo hi:Option Operand}{i j:Int}{ty rt:TypeId}[hT:SlT P ty e][hE:ElT P e z bytes]
 (hx:ev C.gl σ x=some (.sl none z l)) (hl:evo C.gl σ lo 0=some i) (hh:evo C.gl σ hi l.length=some j) (h0:0<=i) (h1:i<=j) (h2:j<=l.length) (ht:t<σ.n) :
 OpS P C ⟨some t,.slice ty x lo hi none,rt,pos,aft,g⟩ σ (σ.set t (.sl none z ((l.drop i.toNat).take (j-i).toNat))):=by
 refine OpS.value λa w ⟨ρ,Fe,Fb,st⟩=>?_;obtain⟨F,hv,_⟩:=H5 st hx rfl;have hF:=hv.pur rfl;subst hF;simp only[VR,D.isAgg,q7,q8] at hv;generalize hex:a.eval x=vx at hv
 have hlen:((l.drop i.toNat).take (j-i).toNat).length=(j-i).toNat:=by simp;omega
 cases hv with
 | slN=>
  simp only[j5] at hh h2;have hb:=ZO (P:=P) st (b:=true) (len:=0) (cap:=0) hl hh h0 h1 h2 (z7 _)
  have hj:j=0:=by omega
  have hi0:i=0:=by omega
  subst hj;subst hi0;refine⟨.slice none 0 0,w, ?_,st.put ht rfl ?_⟩
  ·unfold execOp
   cases lo<;>cases hi<;>simp_all [Instr.sliceAt,Instr.slice,run_underlying hT.u,ElT.size (P:=P) (e:=e)]
  ·simp only[VR,D.isAgg,q7,q8];exact .slN none z
 | slE _ _ aa=>
  simp only[j5] at hh h2;have hb:=ZO (P:=P) st (b:=true) (len:=0) (cap:=0) hl hh h0 h1 h2 (z7 _)
  have hj:j=0:=by omega
  have hi0:i=0:=by omega
  subst hj;subst hi0;refine⟨.slice (some aa) 0 0,w, ?_,st.put ht rfl ?_⟩
  ·unfold execOp
   cases lo<;>cases hi<;>simp_all [Instr.sliceAt,Instr.slice,run_underlying hT.u,ElT.size (P:=P) (e:=e)]
  ·simp only[VR,D.isAgg,q7,q8];exact .slE none z aa
 | slI b off cs e' fz cap _ _ hb hG hc hs hr=>
  have hbd:=ZO (P:=P) st (b:=true) (len:=l.length) (cap:=cap) hl hh h0 h1 h2 hc;refine⟨.slice (some (if cap=i.toNat then⟨b,off,none⟩ else⟨b,off+i.toNat*z,none⟩)) (j-i).toNat (cap-i.toNat),w, ?_,st.put ht rfl ?_⟩
  ·unfold execOp
   have e1:j.toNat-i.toNat=(j-i).toNat:=by omega
   have hA:(λx=>(⟨b,off,none⟩:Addr).add (i.toNat*z)) ()=⟨b,off+i.toNat*z,none⟩:=R6 _ _ _
   cases lo<;>cases hi<;>simp_all [Instr.sliceAt,Instr.slice,run_underlying hT.u,ElT.size (P:=P) (e:=e),R6]<;>split<;>simp_all
  ·simp only[VR,D.isAgg,q7,q8]
   have hjz:((j-i).toNat)*z+i.toNat*z<=l.length*z:=by
    rw[<- v7];exact w6 z (by omega)
   by_cases hci:cap=i.toNat
   ·simp only[hci,j9,L3]
    have h3:(j-i).toNat=0:=by omega
    have:=Rc.slI (w:=w) (ρ:=ρ) (G:=gd C Fe Fb) (L:=λid=>(σ.box id).isSome) (p:=true) b off cs e' fz 0 z [] hb hG (g9 _) (by simp;omega) (λk hk=>by simp at hk);simpa [h3] using this
   ·simp only[hci,q8];have:=Rc.slI (w:=w) (ρ:=ρ) (G:=gd C Fe Fb) (L:=λid=>(σ.box id).isSome) (p:=true) b (off+i.toNat*z) cs e' fz (cap-i.toNat) z ((l.drop i.toNat).take (j-i).toNat) hb hG (by rw[hlen];omega)
     (by rw[hlen];omega) (λk hk=>by
      rw[hlen] at hk;simp only[Q7,H9];have:=hr (i.toNat+k) (by omega);rw[v7,<- U7] at this
      exact this)
    rw[hlen] at this;exact this
theorem R.slV{s t e z bytes:Nat}{l:List D}{lo hi:Option Operand}{i j:Int}{ty rt:TypeId}[hT:SlT P ty e][hE:ElT P e z bytes]
 (hx:SC σ s z l) (hl:evo C.gl σ lo 0=some i) (hh:evo C.gl σ hi l.length=some j) (h0:0<=i) (h1:i<=j) (h2:j<=l.length) (ht:t<σ.n) (hst:s≠t) :
 OpS P C ⟨some t,.slice ty (.tmp s) lo hi none,rt,pos,aft,g⟩ σ (σ.set t (.vw s z i.toNat (j-i).toNat)):=by
 refine OpS.value λa w ⟨ρ,Fe,Fb,st⟩=>?_;obtain⟨base,len,cap,hv,rfl,hd⟩:=CC st hx;have hsz:=st.size
 have e1:j.toNat-i.toNat=(j-i).toNat:=by omega
 have hcap:l.length<=cap:=by
  rcases hd with ⟨h3,h4⟩|⟨b,o,cs,e',fz,_,_,h3,_⟩<;>omega
 have hbd:=ZO (P:=P) st (b:=true) (len:=l.length) (cap:=cap) hl hh h0 h1 h2 hcap
 rcases hd with ⟨h3,rfl⟩|⟨b,o,cs,e',fz,rfl,hb,hc,hs,hr⟩
 ·have hj:j=0:=by omega
  have hi0:i=0:=by omega
  subst hj;subst hi0;refine⟨.slice base 0 0,w, ?_,st.putRef ht ⟨rfl,.slice base l.length 0,.slice base 0 0,by rw[Y0 a t _ s (by omega)];simp[hst,hv],by rw[Y0 a t _ t (by omega)];simp, ?_⟩⟩
  ·unfold execOp
   cases base<;>cases lo<;>cases hi<;>simp_all [Instr.sliceAt,Instr.slice,run_underlying hT.u,ElT.size (P:=P) (e:=e),Q3 hv]
  ·exact⟨_,_,_,_,_,rfl,rfl,z7 _,by simp,z7 _,.inr ⟨by omega,rfl⟩⟩
 ·refine⟨.slice (some (if cap=i.toNat then⟨b,o,none⟩ else⟨b,o+i.toNat*z,none⟩)) (j-i).toNat (cap-i.toNat),w, ?_,st.putRef ht ⟨rfl,.slice (some ⟨b,o,none⟩) l.length cap,.slice (some (if cap=i.toNat then⟨b,o,none⟩ else⟨b,o+i.toNat*z,none⟩)) (j-i).toNat (cap-i.toNat),by rw[Y0 a t _ s (by omega)];simp[hst,hv],by rw[Y0 a t _ t (by omega)];simp, ?_⟩⟩
  ·unfold execOp
   cases lo<;>cases hi<;>simp_all [Instr.sliceAt,Instr.slice,run_underlying hT.u,ElT.size (P:=P) (e:=e),Q3 hv,R6]<;>split<;>simp_all
  ·refine⟨_,_,_,_,_,rfl,rfl,by omega,by omega,by omega,.inl ?_⟩;by_cases hci:cap=i.toNat
   ·exact⟨b,o,o,rfl,by simp[hci],.inr ⟨rfl,by omega⟩,by omega⟩
   ·exact⟨b,o,_,rfl,by simp[hci],.inl rfl,by omega⟩
theorem R.slA{s t e z bytes m id off:Nat}{path:List Nat}{d0:D}{l:List D}{lo hi:Option Operand}{i j:Int}{ty rt:TypeId}[hT:ArT P ty m e][hE:ElT P e z bytes]
 (hx:σ.get s=some (.ptr id off path)) (hb:σ.box id=some (.var d0)) (hloc:d0.loc path=some (off,.arr m z l)) (hl:evo C.gl σ lo 0=some i) (hh:evo C.gl σ hi m=some j) (h0:0<=i) (h1:i<=j) (h2:j<=m) (ht:t<σ.n) :
 OpS P C ⟨some t,.slice ty (.tmp s) lo hi none,rt,pos,aft,g⟩ σ (σ.set t (.va id off z (j-i).toNat path i.toNat)):=by
 refine OpS.value λa w ⟨ρ,Fe,Fb,st⟩=>?_;obtain⟨v,hv,hr⟩:=(c5 rfl).1 (st.env _ _ hx);simp only[VR,D.isAgg,q7,q8] at hr;generalize Fe s=F at hr;cases hr;have hsz:=st.size
 have e1:j.toNat-i.toNat=(j-i).toNat:=by omega
 have hbd:=ZO (P:=P) st (b:=false) (len:=m) (cap:=m) hl hh h0 h1 h2 (z7 _);refine⟨.slice (some (if m=i.toNat then⟨ρ id,off,none⟩ else⟨ρ id,off+i.toNat*z,none⟩)) (j-i).toNat (m-i.toNat),w, ?_,st.putRef ht ⟨rfl,by simp[hb],m-i.toNat,if m=i.toNat then off else off+i.toNat*z,by omega, ?_, ?_⟩⟩
 ·unfold execOp
  cases lo<;>cases hi<;>simp_all [Instr.sliceAt,Instr.sureAddr,run_underlying hT.u,ElT.size (P:=P) (e:=e),Q3 hv,R6]<;>split<;>simp_all
 ·by_cases hm:m=i.toNat
  ·simp[hm];omega
  ·simp[hm]
 ·rw[Y0 a t _ t (by omega)]
  by_cases hm:m=i.toNat<;>simp[hm]
theorem BH(st:StW C σ a w ρ Fe Fb){x:Operand}{n:Int}(h:evo C.gl σ (some x) 0=some n):∃ k,a.eval x=.int k n:=VM st h
theorem R.idxP{s t e z b m id off:Nat}{path:List Nat}{ix:Operand}{n:Int}{ty rt:TypeId}[hT:ArT P ty m e][hE:ElT P e z b](k:Nat)
 (h:σ.get s=some (.ptr id off path)) (hi:evo C.gl σ (some ix) 0=some n) (hk:n=(k:Int)) (h1:k<m) (ht:t<σ.n) :
 OpS P C ⟨some t,.indexAddr ty (.tmp s) ix,rt,pos,aft,g⟩ σ (σ.set t (.ptr id (off+k*z) (path++[k]))):=by
 subst hk;refine OpS.value λa w ⟨ρ,Fe,Fb,st⟩=>?_;obtain⟨v,hv,hr⟩:=(c5 rfl).1 (st.env _ _ h);simp only[VR,D.isAgg,q7,q8] at hr;generalize Fe s=F at hr
 cases hr with
 | ptr _ _ _ hL=>
 obtain⟨kk,he⟩:=BH st hi;refine⟨.pointer (some ⟨ρ id,off+k*z,none⟩),w, ?_,st.put ht rfl ?_⟩
 ·unfold execOp;simp[Instr.indexAt,Instr.sureAddr,asIntOf,run_underlying hT.u,Q3 hv,he,h1,ElT.size (P:=P) (e:=e),R6]
 ·simp only[VR,D.isAgg,q7,q8];exact .ptr _ _ _ hL
theorem R.idxN{s t z:Nat}{l:List D}{ix:Operand}{n:Int}{ty e b rt:TypeId}[hT:SlT P ty e][hE:ElT P e z b](k:Nat)
 (h:SC σ s z l) (hi:evo C.gl σ (some ix) 0=some n) (hk:n=(k:Int)) (h1:k<l.length) (ht:t<σ.n) (hst:s≠t) :
 OpS P C ⟨some t,.indexAddr ty (.tmp s) ix,rt,pos,aft,g⟩ σ (σ.set t (.ep s z k 0 [])):=by
 subst hk;refine OpS.value λa w ⟨ρ,Fe,Fb,st⟩=>?_;obtain⟨base,len,cap,hv,rfl,hd⟩:=CC st h;obtain⟨kk,he⟩:=BH st hi
 rcases hd with ⟨h2,_⟩|⟨b,o,cs,e',fz,rfl,hb,hc,hsz,hr⟩
 ·omega
 have hsz':=st.size;refine⟨.pointer (some ⟨b,o+k*z,none⟩),w, ?_,st.putRef ht ?_⟩
 ·unfold execOp;simp[Instr.indexAt,asIntOf,run_underlying hT.u,Q3 hv,he,h1,ElT.size (P:=P) (e:=e),R6]
 ·refine⟨rfl,b,o,l.length,cap, ?_, ?_,by omega⟩
  ·rw[Y0 a t _ s (by omega)];simp[hst,hv]
  ·rw[Y0 a t _ t (by omega)];simp
theorem XL{e z off:Nat}[hL:LdT P e z gg]{G L:Nat->Prop}{p:Bool}{d:D}{cs:Array Value}{F:List Nat}(hr:Rc w ρ G L p d ((cs.toList.drop off).take z) F)(hz:d.sz=z)(hg:d.isAgg=gg)(hs:off+z<=cs.size) :
 ∃ v,(part e cs off).run P w=.ok v w/\VR w ρ G L d v F:=by
 have hr':Rc w ρ G L true d ((cs.toList.drop off).take z) F:=by
  cases p with
  | true=>exact hr
  | false=>exact hr.flag
 cases gg with
 | true=>
  refine⟨.agg (cs.extract off (off+z)), ?_, ?_⟩
  ·simp[part,LdT.agg (P:=P) (t:=e),LdT.size (P:=P) (t:=e)]
  ·simp only[VR,hg,j9];refine⟨_,rfl, ?_⟩
   have e1:(cs.extract off (off+z)).toList=(cs.toList.drop off).take z:=by
    rw[Array.toList_extract];simp[List.extract_eq_take_drop]
   rw[e1];exact hr'
 | false=>
  have h1:d.sz=1:=by cases d<;>simp_all [D.sz,D.isAgg]
  have hz1:z=1:=by omega
  subst hz1
  have hlt:off<cs.size:=by omega
  refine⟨cs[off], ?_, ?_⟩
  ·simp[part,LdT.agg (P:=P) (t:=e),hlt]
  ·simp only[VR,hg,q7,q8];rw[p8 (by simpa using hlt),Z9,H6,S9] at hr';exact hr'
theorem R.ixA{x ix:Operand}{t e z m:Nat}{l:List D}{d:D}{n:Int}{ty rt:TypeId}[hT:ArT P ty m e][hL:LdT P e z gg](k:Nat)
 (hx:ev C.gl σ x=some (.arr m z l)) (hi:evo C.gl σ (some ix) 0=some n) (hk:n=(k:Int)) (h1:l[k]? = some d) (hp:d.pur=true) (hz:d.sz=z) (hg:d.isAgg=gg) (ht:t<σ.n) :
 OpS P C ⟨some t,.index ty x ix,rt,pos,aft,g⟩ σ (σ.set t d):=by
 subst hk;refine OpS.value λa w ⟨ρ,Fe,Fb,st⟩=>?_;obtain⟨F,hv,_⟩:=H5 st hx rfl;simp only[VR,D.isAgg,j9] at hv;obtain⟨cs,hex,hv⟩:=hv;obtain⟨kk,he⟩:=BH st hi;obtain⟨hkl,rfl⟩:=z8.1 h1
 cases hv with
 | arr _ _ _ _ hl hsz hrr=>
  have hkm:k<m:=by omega
  have hkz:k*z+z<=m*z:=by
   have:=w6 z (show k+1<=m by omega);rw[v7] at this;omega
  obtain⟨v,hrun,hvr⟩:=XL (P:=P) (e:=e) (hrr k hkl) hz hg (by simp at hsz;omega);refine⟨v,w, ?_,st.put ht (D9 hp) hvr⟩;unfold execOp;simp[Instr.index,asIntOf,run_underlying hT.u,hex,he,hkm,LdT.size (P:=P) (t:=e),hrun]
theorem R.pick{c x y:Operand}{t:Nat}{d:D}{b:Bool}{rt:TypeId}
 (hc:ev C.gl σ c=some (.bool b)) (hx:(bif b then ev C.gl σ x else ev C.gl σ y)=some d) (hp:d.pur=true) (ht:t<σ.n) :
 OpS P C ⟨some t,.pick c x y,rt,pos,aft,g⟩ σ (σ.set t d):=by
 refine OpS.value λa w ⟨ρ,Fe,Fb,st⟩=>?_;obtain⟨Fc,hvc,_⟩:=H5 st hc rfl;simp only[VR,D.isAgg,q7,q8] at hvc;generalize hec:a.eval c=vc at hvc;cases hvc
 cases b with
 | true=>
  simp only[m9] at hx;obtain⟨F,hv,_⟩:=H5 st hx (D9 hp);have hF:=hv.pur hp;subst hF;refine⟨a.eval x,w, ?_,st.put ht (D9 hp) hv⟩;unfold execOp;simp[hec,asBool]
 | false=>
  simp only[d7] at hx;obtain⟨F,hv,_⟩:=H5 st hx (D9 hp);have hF:=hv.pur hp;subst hF;refine⟨a.eval y,w, ?_,st.put ht (D9 hp) hv⟩;unfold execOp;simp[hec,asBool]
theorem E4{c x y:Operand}{t:Nat}{d:D}{b:Bool}{rt:TypeId}
 (hc:ev C.gl σ c=some (.bool b)) (hb:b=true) (hx:ev C.gl σ x=some d) (hp:d.pur=true) (ht:t<σ.n) :
 OpS P C ⟨some t,.pick c x y,rt,pos,aft,g⟩ σ (σ.set t d):=R.pick hc (by rw[hb];exact hx) hp ht
theorem KG{c x y:Operand}{t:Nat}{d:D}{b:Bool}{rt:TypeId}
 (hc:ev C.gl σ c=some (.bool b)) (hb:b=false) (hx:ev C.gl σ y=some d) (hp:d.pur=true) (ht:t<σ.n) :
 OpS P C ⟨some t,.pick c x y,rt,pos,aft,g⟩ σ (σ.set t d):=R.pick hc (by rw[hb];exact hx) hp ht
theorem P1{op:BinOp}{xt yt ty:TypeId}{x y:Operand}{t:Nat}{dx dy d d':D}{s:Prop}
 (hx:ev C.gl σ x=some dx) (hy:ev C.gl σ y=some dy) (ha:arith op dx dy=some (s,d')) (hs:s) (he:d'=d) (ht:t<σ.n) :
 OpS P C ⟨some t,.binOp op xt x y yt,ty,pos,aft,g⟩ σ (σ.set t d):=by subst he;exact R.bin hx hy ha hs ht
theorem T6{src dst ty:TypeId}{k k0:IntKind}{x:Operand}{t:Nat}{dx d d':D}[h0:IkT P src k0][hT:IkT P dst k]
 (hx:ev C.gl σ x=some dx) (hc:FI k dx=some d') (he:d'=d) (ht:t<σ.n):OpS P C ⟨some t,.convert src dst x,ty,pos,aft,g⟩ σ (σ.set t d):=by subst he;exact R.conv hx hc ht
theorem KH{a c:Int}(h:a=c)(h0:-9223372036854775808<=c)(h1:c<9223372036854775808):D.int (wr a)=D.int c:=by
 subst h
 have:wr a=a:=by unfold wr;rw[IntKind.wrap_i64];omega
 rw[this]
class EqT(P:Program)(t:TypeId):Prop where
 i:P.eqGuardType P.depth t=false
theorem YE{e:TypeId}[hk:IkT P e .u8][hL:LdT P e 1 false](w:World)(d:Nat)(xs ys:List UInt8)(n:Nat)(hx:xs.length=n)(hy:ys.length=n)(cx cy:Array Value)
 (h1:cx.toList=xs.map (λb=>Value.int .u8 b.toNat)) (h2:cy.toList=ys.map (λb=>Value.int .u8 b.toNat)):∀ (l:List Nat),(∀ i∈l,i<n) ->
 (Op.eqItems (d+1) e 1 cx cy l).run P w=.ok (l.all λi=>xs[i]? == ys[i]?) w:=by
 intro l
 induction l with
 | nil=>intro _;simp[Op.eqItems]
 | cons i l ih=>
  intro h;have hi:=h i (by simp)
  have hp:∀ (cs:Array Value) (zs:List UInt8) (hz:zs.length=n),cs.toList=zs.map (λb=>Value.int .u8 b.toNat)->(part e cs (i*1)).run P w=.ok (.int .u8 (zs[i]'(by omega)).toNat) w:=by
   intro cs zs hz hc
   have hi':i<cs.size:=by
    have:=g8 List.length hc;simp at this;omega
   have:cs[i]=.int .u8 (zs[i]'(by omega)).toNat:=by
    have e1:cs.toList[i]'(by simpa using hi')=(zs.map (λb=>Value.int .u8 b.toNat))[i]'(by simp;omega):=by simp only[hc]
    simpa using e1
   simp[part,LdT.agg (P:=P) (t:=e),hi',this]
  have e3:=hp cx xs hx h1;have e4:=hp cy ys hy h2
  obtain⟨k,hku⟩:∃ k,P.underlying e=some (.int k):=⟨_,hk.u⟩
  have e5:=run_equalIn_int (P:=P) w d e .u8 k (xs[i]'(by omega)).toNat (ys[i]'(by omega)).toNat hku;have ex:xs[i]? = some (xs[i]'(by omega)):=j8 _;have ey:ys[i]? = some (ys[i]'(by omega)):=j8 _
  have eb:((((xs[i]'(by omega)).toNat:Int))==(((ys[i]'(by omega)).toNat:Int)))=(xs[i]? == ys[i]?):=by
   rw[ex,ey,q35];rfl
  have ih':=ih (λj hj=>h j (j1 _ hj));simp only[Op.eqItems,Sem.run_bind,e3,e4,e5,Result.andThen_ok,eb,E6]
  cases hb:(xs[i]? == ys[i]?) with
  | true=>simpa using ih'
  | false=>simp
theorem j65(n:Nat)(xs ys:List UInt8)(hx:xs.length=n)(hy:ys.length=n):((List.range n).all λi=>xs[i]? == ys[i]?)=(xs==ys):=by
 rw[J1];simp only[o8,j7,p7];constructor
 ·intro h;apply Z6;intro i;by_cases hi:i<n
  ·exact h i hi
  ·rw[X0 (by omega),X0 (by omega)]
 ·rintro rfl i _;rfl
theorem RH{G L:Nat->Prop}{p:Bool}{n:Nat}{xs:List UInt8}{cs:List Value}{F:List Nat}(h:Rc w ρ G L p (.arr n 1 (xs.map .u8)) cs F):xs.length=n/\cs=xs.map (λb=>Value.int .u8 b.toNat):=by
 cases h with
 | arr _ _ _ _ hl hs hr=>
  have hl':xs.length=n:=by simpa using hl
  refine⟨hl', ?_⟩;apply Z6;intro i;by_cases hi:i<n
  ·have hic:i<cs.length:=by omega
   have:=hr i (by simp;omega);rw[Nat.mul_one,p8 hic,Z9,H6] at this;simp only[c8] at this;rw[j8 hic,j8 (by simp;omega)];generalize hc:[cs[i]]=c at this;cases this;simp at hc;simp[hc]
  ·rw[X0 (by omega),X0 (by simp;omega)]
theorem R.eqA{neg:Bool}{x y:Operand}{t e n:Nat}{xs ys:List UInt8}{xt yt ty:TypeId}[hT:ArT P xt n e][hk:IkT P e .u8][hL:LdT P e 1 false][hE:EqT P xt]
 (hx:ev C.gl σ x=some (.arr n 1 (xs.map .u8))) (hy:ev C.gl σ y=some (.arr n 1 (ys.map .u8))) (ht:t<σ.n) :
 OpS P C ⟨some t,.binOp (bif neg then .neq else .eql) xt x y yt,ty,pos,aft,g⟩ σ (σ.set t (.bool (bif neg then xs != ys else xs==ys))):=by
 refine OpS.value λa w ⟨ρ,Fe,Fb,st⟩=>?_;obtain⟨Fx,hvx,_⟩:=H5 st hx rfl;obtain⟨Fy,hvy,_⟩:=H5 st hy rfl;simp only[VR,D.isAgg,j9] at hvx hvy;obtain⟨cx,hex,hvx⟩:=hvx;obtain⟨cy,hey,hvy⟩:=hvy;obtain⟨hlx,hcx⟩:=RH hvx;obtain⟨hly,hcy⟩:=RH hvy;obtain⟨d,i,_,_,hi,hsz⟩:=hL.i
 have hce:P.cellsOf e=1:=by simp[Program.cellsOf,hi,hsz]
 have heq:(Op.equalIn 10000 xt (.agg cx) (.agg cy)).run P w=.ok (xs==ys) w:=by
  rw[show(10000:Nat)=9999+1 from rfl,run_equalIn_array w 9999 cx cy hT.u hi,hce,show(9999:Nat)=9998+1 from rfl,
   YE (P:=P) w 9998 xs ys n hlx hly cx cy hcx hcy _ (λi hi=>j7.1 hi),j65 n xs ys hlx hly]
 refine⟨.bool (bif neg then xs != ys else xs==ys),w, ?_,st.put ht rfl ?_⟩
 ·unfold execOp
  cases neg with
  | false=>simp only[d7,hex,hey,Sem.run_bind,run_eqGuard_agg w .eql xt x y cx cy hE.i,run_eql_struct,heq,Result.andThen_ok,Sem.run_pure]
  | true=>simp only[m9,hex,hey,Sem.run_bind,run_eqGuard_agg w .neq xt x y cx cy hE.i,run_neq_struct,heq,Result.andThen_ok,Sem.run_pure];rfl
 ·simp only[VR,D.isAgg,q7,q8];exact .bool _
end
section
variable{P:Program}{C:Ctx}{σ σ' σ1:Sg}{a:Act}{w w':World}{ρ:Nat->Nat}{Fe Fe' Fb:Nat->List Nat}
theorem SY(cs xs:List Value)(off M p:Nat)(h1:off+M<=cs.length)(h2:p+xs.length<=M) :
 cs.take off++(((cs.drop off).take M).take p++xs++((cs.drop off).take M).drop (p+xs.length))++cs.drop (off+M)=cs.take (off+p)++xs++cs.drop (off+p+xs.length):=by
 have e1:cs.take off++((cs.drop off).take M).take p=cs.take (off+p):=by
  rw[X6,n6 (by omega),<- List.take_add]
 have e2:((cs.drop off).take M).drop (p+xs.length)++cs.drop (off+M)=cs.drop (off+p+xs.length):=by
  rw[L9,B4];have:=K9 (M-(p+xs.length)) (cs.drop (off+(p+xs.length)));rw[B4,show off+(p+xs.length)+(M-(p+xs.length))=off+M by omega] at this;rw[this,U7]
 rw[<- e1,<- e2];simp only[u5]
theorem R.cpA{s t e z bytes id off n lo m:Nat}{path:List Nat}{d0 d':D}{l l':List D}{x:Operand}{ty ty2 rt:TypeId}{pos:String}{aft:Array Edge}{g:Option (Nat×Bool)}[hT:SlT P ty e][hE:ElT P e z bytes]
 (h:σ.get s=some (.va id off z n path lo)) (hb:σ.box id=some (.var d0)) (hl:d0.loc path=some (off,.arr m z l)) (hlo:lo+n<=m) (hx:SrcO C.gl σ x z l') (hnp:∀ y∈l',y.np=true) (ht:t<σ.n)
 (hu:d0.upd path (.arr m z (l.take lo++l'.take (min l'.length n)++l.drop (lo+min l'.length n)))=some d') :
 OpS P C ⟨some t,.call { callee:=.builtin .copy,args:=#[.tmp s,x],argTypes:=#[ty,ty2] },rt,pos,aft,g⟩ σ ((σ.putB id (.var d')).set t (.int (min l'.length n:Nat))):=by
 refine OpS.value λa w ⟨ρ,Fe,Fb,st⟩=>?_;obtain⟨_,hid,cap,o',hcap,ho',hv⟩:=st.env _ _ h;obtain⟨cs,e',F',hb',hr,hFb⟩:=st.bx _ _ hb;obtain⟨base,cap2,hxe,hsr,hp⟩:=hx.ok st;obtain⟨_,news,q1,q2,q3,q4⟩:=WI hsr hp;obtain⟨Fa,h1,h2,h3⟩:=hr.loc hl;have hFa:=h1.pur rfl;subst hFa
 have hnd:F'.Nodup:=by have:=st.nodB id;rw[hFb] at this;exact(v3.1 this).2
 generalize hk:min l'.length n=k at hu
 have hkn:k<=n:=by omega
 have hkl:k<=l'.length:=by omega
 have hkz:k*z<=l'.length*z:=w6 z hkl
 have hxl:(news.take (k*z)).length=k*z:=by simp;omega
 have hlm:lo*z+k*z<=m*z:=by rw[<- v7];exact w6 z (by omega)
 cases h1 with
 | arr _ _ _ A hlm' hA hrA=>
 simp only[HU] at h3 hA hrA
 -- the array behind
 have hrc:Rc w ρ (gd C Fe Fb) (λid=>(σ.box id).isSome) false (.arr m z (l.take lo++l'.take k++l.drop (lo+k)))
  (((cs.toList.drop off).take (m*z)).take (lo*z)++news.take (k*z)++((cs.toList.drop off).take (m*z)).drop (lo*z+(news.take (k*z)).length)) []:=by
  have hp0:lo*z+(news.take (k*z)).length<=((cs.toList.drop off).take (m*z)).length:=by rw[hxl,hA];exact hlm
  refine .arr m z _ _ (by simp;omega) (by rw[T1 _ _ _ hp0,hA]) (λi hi=>?_)
  have hi':i<m:=by simp at hi;omega
  have hiz:i*z+z<=m*z:=by
   have:=w6 z (show i+1<=m by omega);rw[v7] at this;omega
  rcases X9 i lo with h5|h5
  ·have e1:(l.take lo++l'.take k++l.drop (lo+k))[i]=l[i]'(by omega):=by
    rw[o0 (by simp;omega),o0 (by simp;omega),Q7]
   have h6:(i+1)*z<=lo*z:=w6 z h5;rw[v7] at h6;rw[e1,l3 _ _ _ _ _ hp0 (.inl (by omega))];exact hrA i (by omega)
  ·rcases X9 i (lo+k) with h6|h6
   ·have e1:(l.take lo++l'.take k++l.drop (lo+k))[i]=l'[i-lo]'(by omega):=by
     have h7:(l.take lo).length=lo:=by simp;omega
     rw[o0 (by simp;omega),K1 (by omega),Q7];simp only[h7]
    have h8:=HY (((cs.toList.drop off).take (m*z)).take (lo*z)) (news.take (k*z)) (((cs.toList.drop off).take (m*z)).drop (lo*z+(news.take (k*z)).length)) (i-lo) lo k z (by rw[v5,hA];omega) hxl (by omega);rw[show lo+(i-lo)=i by omega,<- u5] at h8;rw[e1,h8];have h9:=XS (news.take (k*z)) (news.drop (k*z)) (i-lo) k z hxl (by omega);rw[K9] at h9;rw[<- h9];exact q4 (i-lo) (by omega)
   ·have e1:(l.take lo++l'.take k++l.drop (lo+k))[i]=l[i]'(by omega):=by
     have h7:(l.take lo++l'.take k).length=lo+k:=by simp;omega
     rw[K1 (by omega),H9];simp only[h7,show lo+k+(i-(lo+k))=i by omega]
    have h7:(lo+k)*z<=i*z:=w6 z h6;rw[v7] at h7;rw[e1,l3 _ _ _ _ _ hp0 (.inr (by rw[hxl];exact h7))];exact hrA i (by omega)
 obtain⟨F2,g1,g2,g3,g4,g5⟩:=hr.upd hl hu (by simp) hrc hnd w9 (by simp) (.inl rfl)
 have hsp:(((cs.toList.drop off).take (m*z)).take (lo*z)++news.take (k*z)++((cs.toList.drop off).take (m*z)).drop (lo*z+(news.take (k*z)).length)).length=m*z:=by
  rw[T1 _ _ _ (by rw[hxl,hA];exact hlm),hA]
 rw[hsp,SY _ _ _ _ _ h3 (by rw[hxl];exact hlm)] at g1
 have hnode:ρ id∉F2:=λhm=>by
  have:=st.nodB id;rw[hFb] at this;exact(v3.1 this).1 ((g2 _ hm).resolve_right (by simp))
 have st2:=st.putB (x:=.var d') (Fe':=Fe) (σ1:=σ) (F':=ρ id::F2) (w':=w.setRow (ρ id) (cs.toList.take (off+lo*z)++news.take (k*z)++cs.toList.drop (off+lo*z+(news.take (k*z)).length)).toArray)
  hb rfl rfl (λu d hd=>.inl ⟨hd,rfl⟩) st.envN (λu=>.inl rfl) rfl ⟨rfl,z7 _⟩ rfl (by simp) (λb hbne=>setRow_other w (ρ id) b _ hbne) (v3.2 ⟨hnode,g3⟩) (by simp)
  (λb hbm=>.inl (by
   rw[hFb]
   rcases w5.1 hbm with rfl|hm
   ·simp
   ·exact j1 _ ((g2 b hm).resolve_right (by simp))))
  ⟨_,e',F2,setRow_heap w (ρ id) cs _ e' (0,0) hb',by
   simp only;refine g1.mono (λb hbb _=>setRow_other w (ρ id) b _ ?_) (λb hbb _=>⟨hbb.1,λho=>hbb.2 ?_⟩) (λi hi=>⟨hi,rfl⟩)
   ·rintro rfl
    rcases hbb with hbb|hbb
    ·exact hbb.2 (.inr ⟨id,by rw[hFb];simp⟩)
    ·exact hnode hbb
   ·rcases ho with ⟨u,hu⟩|⟨i,hi⟩
    ·exact .inl ⟨u,hu⟩
    ·by_cases hid:i=id
     ·subst hid;rw[c7] at hi;refine .inr ⟨i, ?_⟩;rw[hFb]
      rcases w5.1 hi with rfl|hm
      ·simp
      ·exact j1 _ ((g2 b hm).resolve_right (by simp))
     ·rw[j2 hid] at hi;exact .inr ⟨i,hi⟩,rfl⟩
 refine⟨.int .i64 (k:Nat),w.setRow (ρ id) (cs.toList.take (off+lo*z)++news.take (k*z)++cs.toList.drop (off+lo*z+(news.take (k*z)).length)).toArray, ?_, ?_⟩
 rotate_left
 ·exact st2.put (t:=t) (d:=.int (k:Nat)) (v:=.int .i64 (k:Nat)) (by simpa using ht) rfl (by simp only[VR,D.isAgg,q7,q8];exact .int _)
 ·have hfc:(Builtin.firstCells z k (.slice base l'.length cap2)).run P w=.ok (news.take (k*z)).toArray w:=by
   rcases q1 with ⟨rfl,rfl,rfl⟩|⟨ad,rfl,hn⟩
   ·have:k=0:=by simp at hkl;exact hkl
    subst this;simp[Builtin.firstCells]
   ·refine run_firstCells_some w z k ad l'.length cap2 _ hxl (λj u hu=>hn j u ?_);rw[d9] at hu;split at hu
    ·exact hu
    ·cases hu
  have hst:(storeCells ⟨ρ id,o',none⟩ (news.take (k*z)) 0).run P w=.ok () (w.setRow (ρ id) (cs.toList.take (off+lo*z)++news.take (k*z)++cs.toList.drop (off+lo*z+(news.take (k*z)).length)).toArray):=by
   rcases ho' with rfl|⟨rfl,rfl⟩
   ·have:=run_storeCells_at P (ρ id) (off+lo*z) e' (news.take (k*z)) 0 cs w hb' (by
     rw[hxl];simp only[p6] at h3
     omega) (λu hu=>q3 u (Q0 hu))
    simpa using this
   ·have hk0:k=0:=by omega
    subst hk0;simp only[Nat.zero_mul,H6,m6,j5,J8,K9,Array.toArray_toList];rw[setRow_self w (ρ id) cs e' (0,0) hb'];rfl
  unfold execOp;have hmin:Nat.min l'.length n=k:=hk;simp[resolve,invoke,builtin,Builtin.copy_,run_underlying hT.u,Q3 hv,hxe,Builtin.lenOf,ElT.size (P:=P) (e:=e),hmin,hfc,hst,goInt]
end
end Go.Sx
