/- Proved: what functions of the given program compute (used by the theorem of this claim). Conditions: none but those that each theorem states. -/
import Derived.WalkKit
import Derived.OrdersIn
import Derived.TacticsIn
import Derived.LoopIn
import Derived.IntWalk
import Derived.WalkLawsBesides
set_option linter.unusedVariables false
set_option linter.unusedSimpArgs false
set_option linter.unnecessarySimpa false

namespace Go.Sx
inductive D where
 | bool (b:Bool)
 | int (n:Int)
 | u8 (x:UInt8)
 | u16 (x:UInt16)
 | u32 (x:UInt32)
 | u64 (x:UInt64)
 | ik (k:IntKind) (n:Int)
 | str (s:List UInt8)
 | nils
 | sl (o:Option Nat) (z:Nat) (l:List D)
 | agg (l:List D)
 | arr (n z:Nat) (l:List D)
 | ptr (id off:Nat) (path:List Nat)
 | bs (id z n cap:Nat)
 | nilp
 | rp (d:D)
 | map (id:Nat)
 | nilmap
 | fn (f:Nat) (caps:List D)
 | nilf
 | yld (l:Nat)
 | ifc (t:Nat) (d:D)
 | nili
 | al (s:Nat)
 | alb (id off:Nat) (path:List Nat)
 | vw (s z lo n:Nat)
 | va (id off z n:Nat) (path:List Nat) (lo:Nat)
 | ep (s z i off:Nat) (path:List Nat)
 | tup (l:List D)
 | dead
 deriving Inhabited
mutual
def D.sz:D->Nat
 | .agg l=>D.szs l
 | .arr n z _=>n*z
 | _=>1
def D.szs:List D->Nat
 | []=>0
 | d::r=>D.sz d+D.szs r
end
@[simp] theorem szs_nil:D.szs []=0:=by simp[D.szs]
@[simp] theorem K5 (d:D) (r:List D):D.szs (d::r)=d.sz+D.szs r:=by simp[D.szs]
@[simp] theorem E0 (l:List D):(D.agg l).sz=D.szs l:=by simp[D.sz]
@[simp] theorem UN (n z:Nat) (l:List D):(D.arr n z l).sz=n*z:=by simp[D.sz]
def offk(l:List D)(k:Nat):Nat:=D.szs (l.take k)
def D.isAgg:D->Bool
 | .agg _ | .arr _ _ _=>true
 | _=>false
def D.isRef:D->Bool
 | .al _ | .alb _ _ _ | .vw _ _ _ _ | .va _ _ _ _ _ _ | .ep _ _ _ _ _ | .tup _ | .dead=>true
 | _=>false
inductive Rc(w:World)(ρ:Nat->Nat)(G:Nat->Prop)(L:Nat->Prop):Bool->D->List Value->List Nat->Prop
 | bool {p} (b:Bool):Rc w ρ G L p (.bool b) [.bool b] []
 | int {p} (n:Int):Rc w ρ G L p (.int n) [.int .i64 n] []
 | u8 {p} (x:UInt8):Rc w ρ G L p (.u8 x) [.int .u8 x.toNat] []
 | u16 {p} (x:UInt16):Rc w ρ G L p (.u16 x) [.int .u16 x.toNat] []
 | u32 {p} (x:UInt32):Rc w ρ G L p (.u32 x) [.int .u32 x.toNat] []
 | u64 {p} (x:UInt64):Rc w ρ G L p (.u64 x) [.int .u64 x.toNat] []
 | ik {p} (k:IntKind) (n:Int):Rc w ρ G L p (.ik k n) [.int k n] []
 | str {p} (s:List UInt8):Rc w ρ G L p (.str s) [.string ⟨s.toArray⟩] []
 | nils {p}:Rc w ρ G L p .nils [.slice none 0 0] []
 | slN {p} (o:Option Nat) (z:Nat):Rc w ρ G L p (.sl o z []) [.slice none 0 0] []
 | slE {p} (o:Option Nat) (z:Nat) (a:Addr):Rc w ρ G L p (.sl o z []) [.slice (some a) 0 0] []
 | slI {p} (b off:Nat) (cs:Array Value) (e:Nat) (fz:Nat×Nat) (cap z:Nat) (l:List D) (hb:w.heap[b]? = some (.cells cs e fz)) (hG:G b)
  (hc:l.length<=cap) (hs:off+l.length*z<=cs.size) (hr:∀ i (h:i<l.length),Rc w ρ G L false l[i] ((cs.toList.drop (off+i*z)).take z) []) :
  Rc w ρ G L p (.sl none z l) [.slice (some ⟨b,off,none⟩) l.length cap] []
 | slO {p} (b:Nat) (cs:Array Value) (e:Nat) (cap z:Nat) (l:List D) (Fs:Nat->List Nat) (hb:w.heap[b]? = some (.cells cs e (0,0)))
  (hc:l.length<=cap) (hm:cap<=maxLen) (hs:cs.size=cap*z) (ho:∀ u∈cs.toList,u.oneCell'=true) (hr:∀ i (h:i<l.length),Rc w ρ G L false l[i] ((cs.toList.drop (i*z)).take z) (Fs i)) :
  Rc w ρ G L p (.sl (some e) z l) [.slice (some ⟨b,0,none⟩) l.length cap] (b::(List.range l.length).flatMap Fs)
 | agg {p} (l:List D) (cs:List Value) (Fs:Nat->List Nat) (hs:cs.length=D.szs l)
  (hr:∀ k (h:k<l.length),Rc w ρ G L p l[k] ((cs.drop (offk l k)).take l[k].sz) (Fs k)):Rc w ρ G L p (.agg l) cs ((List.range l.length).flatMap Fs)
 | arr {p} (n z:Nat) (l:List D) (cs:List Value) (hl:l.length=n) (hs:cs.length=n*z)
  (hr:∀ i (h:i<l.length),Rc w ρ G L false l[i] ((cs.drop (i*z)).take z) []):Rc w ρ G L p (.arr n z l) cs []
 | ptr (id off:Nat) (path:List Nat) (hL:L id):Rc w ρ G L true (.ptr id off path) [.pointer (some ⟨ρ id,off,none⟩)] []
 | bs (id z n cap:Nat) (hL:L id) (hc:n<=cap):Rc w ρ G L true (.bs id z n cap) [.slice (some ⟨ρ id,0,none⟩) n cap] []
 | nilp {p}:Rc w ρ G L p .nilp [.pointer none] []
 | rp {p} (d:D) (b off:Nat) (cs:Array Value) (e:Nat) (fz:Nat×Nat) (hb:w.heap[b]? = some (.cells cs e fz)) (hG:G b) (hs:off+d.sz<=cs.size)
  (hr:Rc w ρ G L false d ((cs.toList.drop off).take d.sz) []):Rc w ρ G L p (.rp d) [.pointer (some ⟨b,off,none⟩)] []
 | map (id:Nat) (hL:L id):Rc w ρ G L true (.map id) [.map (some (ρ id))] []
 | nilmap {p}:Rc w ρ G L p .nilmap [.map none] []
 | fn {p} (f:Nat) (caps:List D) (vs:List Value) (hl:vs.length=caps.length) (ha:∀ k (h:k<caps.length),caps[k].isAgg=false)
  (hr:∀ k (h:k<caps.length),Rc w ρ G L p caps[k] [vs.getD k undef] []):Rc w ρ G L p (.fn f caps) [.func (.func f) #[] vs.toArray] []
 | nilf {p}:Rc w ρ G L p .nilf [.nilFunc] []
 | yld {p} (l:Nat):Rc w ρ G L p (.yld l) [.func (.yield l) #[] #[]] []
 | ifc {p} (t:Nat) (d:D) (v:Value) (ha:d.isAgg=false) (hr:Rc w ρ G L p d [v] []):Rc w ρ G L p (.ifc t d) [.iface t v] []
 | nili {p}:Rc w ρ G L p .nili [.nilIface] []
 | dead {p} (v:Value) (h:v.oneCell'=true):Rc w ρ G L p .dead [v] []
theorem Rc.len{w:World}{ρ:Nat->Nat}{G L:Nat->Prop}{p:Bool}{d:D}{cs:List Value}{F:List Nat}(h:Rc w ρ G L p d cs F):cs.length=d.sz:=by
 cases h<;>simp_all [D.sz]
theorem Rc.mono{w w':World}{ρ ρ':Nat->Nat}{G G' L L':Nat->Prop}{p:Bool}{d:D}{cs:List Value}{F:List Nat}(h:Rc w ρ G L p d cs F)
 (hh:∀ b,(G b∨b∈F)->b<w.heap.size->w'.heap[b]? = w.heap[b]?) (hg:∀ b,G b->b<w.heap.size->G' b) (hL:∀ id,L id->L' id/\ρ' id=ρ id):Rc w' ρ' G' L' p d cs F:=by
 induction h with
 | bool b=>exact .bool b
 | int n=>exact .int n
 | u8 x=>exact .u8 x
 | u16 x=>exact .u16 x
 | u32 x=>exact .u32 x
 | u64 x=>exact .u64 x
 | ik k n=>exact .ik k n
 | str s=>exact .str s
 | nils=>exact .nils
 | slN o z=>exact .slN o z
 | slE o z a=>exact .slE o z a
 | slI b off cs e fz cap z l hb hG hc hs hr ih=>
  have hlt:b<w.heap.size:=(Array.getElem?_eq_some_iff.1 hb).1;exact .slI b off cs e fz cap z l ((hh b (.inl hG) hlt).trans hb) (hg b hG hlt) hc hs (fun i hi=>ih i hi (fun b hb=>hh b (.inl (hb.resolve_right (by simp)))))
 | slO b cs e cap z l Fs hb hc hm hs ho hr ih=>
  have hlt:b<w.heap.size:=(Array.getElem?_eq_some_iff.1 hb).1;refine .slO b cs e cap z l Fs ((hh b (.inr (by simp)) hlt).trans hb) hc hm hs ho (fun i hi=>ih i hi (fun b' hb'=>hh b' (hb'.imp id fun hm=>?_)));exact List.mem_cons_of_mem _ (List.mem_flatMap.2 ⟨i,List.mem_range.2 hi,hm⟩)
 | agg l cs Fs hs hr ih=>
  exact .agg l cs Fs hs (fun k hk=>ih k hk (fun b' hb'=>hh b' (hb'.imp id fun hm=>List.mem_flatMap.2 ⟨k,List.mem_range.2 hk,hm⟩)))
 | arr n z l cs hl hs hr ih=>exact .arr n z l cs hl hs (fun i hi=>ih i hi (fun b hb=>hh b (.inl (hb.resolve_right (by simp)))))
 | ptr id off path hid=>rw[<- (hL id hid).2];exact .ptr id off path (hL id hid).1
 | bs id z n cap hid hcap=>rw[<- (hL id hid).2];exact .bs id z n cap (hL id hid).1 hcap
 | nilp=>exact .nilp
 | rp d b off cs e fz hb hG hs hr ih=>
  have hlt:b<w.heap.size:=(Array.getElem?_eq_some_iff.1 hb).1;exact .rp d b off cs e fz ((hh b (.inl hG) hlt).trans hb) (hg b hG hlt) hs (ih (fun b hb=>hh b (.inl (hb.resolve_right (by simp)))))
 | map id hid=>rw[<- (hL id hid).2];exact .map id (hL id hid).1
 | nilmap=>exact .nilmap
 | fn f caps vs hl ha hr ih=>exact .fn f caps vs hl ha (fun k hk=>ih k hk (fun b hb=>hh b (.inl (hb.resolve_right (by simp)))))
 | nilf=>exact .nilf
 | yld l=>exact .yld l
 | ifc t d v ha hr ih=>exact .ifc t d v ha (ih (fun b hb=>hh b (.inl (hb.resolve_right (by simp)))))
 | nili=>exact .nili
 | dead v h=>exact .dead v h
theorem Rc.flag{w:World}{ρ:Nat->Nat}{G L:Nat->Prop}{d:D}{cs:List Value}{F:List Nat}(h:Rc w ρ G L false d cs F):Rc w ρ G L true d cs F:=by
 generalize hp:false=p at h
 induction h with
 | bool b=>exact .bool b
 | int n=>exact .int n
 | u8 x=>exact .u8 x
 | u16 x=>exact .u16 x
 | u32 x=>exact .u32 x
 | u64 x=>exact .u64 x
 | ik k n=>exact .ik k n
 | str s=>exact .str s
 | nils=>exact .nils
 | slN o z=>exact .slN o z
 | slE o z a=>exact .slE o z a
 | slI b off cs e fz cap z l hb hG hc hs hr ih=>exact .slI b off cs e fz cap z l hb hG hc hs hr
 | slO b cs e cap z l Fs hb hc hm hs ho hr ih=>exact .slO b cs e cap z l Fs hb hc hm hs ho hr
 | agg l cs Fs hs hr ih=>exact .agg l cs Fs hs (fun k hk=>ih k hk hp)
 | arr n z l cs hl hs hr ih=>exact .arr n z l cs hl hs hr
 | ptr id off path hid=>cases hp
 | bs id z n cap hid hcap=>cases hp
 | nilp=>exact .nilp
 | rp d b off cs e fz hb hG hs hr ih=>exact .rp d b off cs e fz hb hG hs hr
 | map id hid=>cases hp
 | nilmap=>exact .nilmap
 | fn f caps vs hl ha hr ih=>exact .fn f caps vs hl ha (fun k hk=>ih k hk hp)
 | nilf=>exact .nilf
 | yld l=>exact .yld l
 | ifc t d v ha hr ih=>exact .ifc t d v ha (ih hp)
 | nili=>exact .nili
 | dead v h=>exact .dead v h
theorem Rc.lt{w:World}{ρ:Nat->Nat}{G L:Nat->Prop}{p:Bool}{d:D}{cs:List Value}{F:List Nat}(h:Rc w ρ G L p d cs F):∀ b∈F,b<w.heap.size:=by
 induction h with
 | slO b cs e cap z l Fs hb hc hm hs ho hr ih=>
  intro b' hb'
  rcases List.mem_cons.1 hb' with rfl|hm'
  ·exact(Array.getElem?_eq_some_iff.1 hb).1
  ·obtain⟨i,hi,hx⟩:=List.mem_flatMap.1 hm';exact ih i (List.mem_range.1 hi) b' hx
 | agg l cs Fs hs hr ih=>
  intro b' hb';obtain⟨i,hi,hx⟩:=List.mem_flatMap.1 hb';exact ih i (List.mem_range.1 hi) b' hx
 | _=>intro b hb;simp at hb
def VR(w:World)(ρ:Nat->Nat)(G L:Nat->Prop)(d:D)(v:Value)(F:List Nat):Prop:=
 if d.isAgg then ∃ cs,v=.agg cs/\Rc w ρ G L true d cs.toList F else Rc w ρ G L true d [v] F
theorem VR.mono{w w':World}{ρ ρ':Nat->Nat}{G G' L L':Nat->Prop}{d:D}{v:Value}{F:List Nat}(h:VR w ρ G L d v F)
 (hh:∀ b,(G b∨b∈F)->b<w.heap.size->w'.heap[b]? = w.heap[b]?) (hg:∀ b,G b->b<w.heap.size->G' b) (hL:∀ id,L id->L' id/\ρ' id=ρ id):VR w' ρ' G' L' d v F:=by
 unfold VR at *
 cases hd:d.isAgg<;>simp only[hd,if_true,if_false,Bool.false_eq_true] at h ⊢
 ·exact h.mono hh hg hL
 ·obtain⟨cs,rfl,h⟩:=h;exact⟨cs,rfl,h.mono hh hg hL⟩
theorem VR.cells{w:World}{ρ:Nat->Nat}{G L:Nat->Prop}{d:D}{v:Value}{F:List Nat}(h:VR w ρ G L d v F)(hd:d≠.dead):Rc w ρ G L true d v.cells.toList F:=by
 unfold VR at h;split at h
 ·obtain⟨cs,rfl,h⟩:=h;exact h
 ·rename_i ha
  have:v.cells=#[v]:=by cases h<;>simp_all [Value.cells,D.isAgg]
  rw[this];exact h
theorem VR.lt{w:World}{ρ:Nat->Nat}{G L:Nat->Prop}{d:D}{v:Value}{F:List Nat}(h:VR w ρ G L d v F):∀ b∈F,b<w.heap.size:=by
 unfold VR at h;split at h
 ·obtain⟨cs,rfl,h⟩:=h;exact h.lt
 ·exact h.lt
end Go.Sx

namespace Go.Sx
def lk{α:Type}:List (Nat×α)->Nat->Option α
 | [],_=>none
 | (k,d)::r,t=>bif Nat.beq k t then some d else lk r t
def scrub(t:Nat)(d:D):D:=
 match d with
 | .al s=>bif Nat.beq s t then .dead else d
 | .vw s _ _ _=>bif Nat.beq s t then .dead else d
 | .ep s _ _ _ _=>bif Nat.beq s t then .dead else d
 | d=>d
def H3(id:Nat)(d:D):D:=
 match d with
 | .alb i _ _=>bif Nat.beq i id then .dead else d
 | d=>d
def scr(t k:Nat)(x:D):Nat×D:=
 match x with
 | .al s=>bif Nat.beq s t then(k,.dead) else(k,x)
 | .vw s _ _ _=>bif Nat.beq s t then(k,.dead) else(k,x)
 | .ep s _ _ _ _=>bif Nat.beq s t then(k,.dead) else(k,x)
 | _=>(k,x)
def scrB(id k:Nat)(x:D):Nat×D:=
 match x with
 | .alb i _ _=>bif Nat.beq i id then(k,.dead) else(k,x)
 | _=>(k,x)
theorem scr_eq(t k:Nat)(x:D):scr t k x=(k,scrub t x):=by
 cases x with
 | al s=>simp only[scr,scrub];cases Nat.beq s t<;>rfl
 | vw s _ _ _=>simp only[scr,scrub];cases Nat.beq s t<;>rfl
 | ep s _ _ _ _=>simp only[scr,scrub];cases Nat.beq s t<;>rfl
 | _=>rfl
theorem scrB_eq(t k:Nat)(x:D):scrB t k x=(k,H3 t x):=by
 cases x with
 | alb i _ _=>simp only[scrB,H3];cases Nat.beq i t<;>rfl
 | _=>rfl
def sets(t:Nat):List (Nat×D)->List (Nat×D)
 | []=>[]
 | (k,x)::r=>bif Nat.beq k t then sets t r else scr t k x::sets t r
def scrubs(id:Nat):List (Nat×D)->List (Nat×D)
 | []=>[]
 | (k,x)::r=>scrB id k x::scrubs id r
inductive Bx where
 | var (d:D)
 | mp (l:List (D×D))
 deriving Inhabited
structure Sg where
 n:Nat
 env:List (Nat×D)
 bx:List (Nat×Bx)
def Sg.get(σ:Sg)(t:Nat):Option D:=lk σ.env t
def Sg.box(σ:Sg)(id:Nat):Option Bx:=lk σ.bx id
def Sg.set(σ:Sg)(t:Nat)(d:D):Sg:={ σ with env:=(t,d)::sets t σ.env }
def setb(id:Nat)(b:Bx):List (Nat×Bx)->List (Nat×Bx)
 | []=>[]
 | (k,x)::r=>bif Nat.beq k id then(k,b)::r else(k,x)::setb id b r
def Sg.putB(σ:Sg)(id:Nat)(b:Bx):Sg:={ σ with env:=scrubs id σ.env,bx:=setb id b σ.bx }
def Sg.newB(σ:Sg)(id:Nat)(b:Bx):Sg:={ σ with bx:=(id,b)::σ.bx }
theorem nbeq{a b:Nat}(h:¬ a=b):Nat.beq a b=false:=by
 cases h':Nat.beq a b with
 | false=>rfl
 | true=>exact absurd (Nat.eq_of_beq_eq_true h') h
theorem v4{α:Type}(k:Nat)(d:α)(r:List (Nat×α))(t:Nat):lk ((k,d)::r) t=if k=t then some d else lk r t:=by
 simp only[lk];by_cases h:k=t
 ·subst h;simp
 ·simp[h,nbeq h]
theorem RJ(t:Nat)(l:List (Nat×D))(u:Nat):lk (sets t l) u=if u=t then none else(lk l u).map (scrub t):=by
 induction l with
 | nil=>simp[sets,lk]
 | cons x r ih=>
  obtain⟨k,d⟩:=x;simp only[sets,scr_eq];by_cases hk:k=t
  ·subst hk;simp only[Nat.beq_refl,cond_true,ih,v4];by_cases hu:u=k
   ·simp[hu]
   ·simp[hu,show ¬ k=u from fun e=>hu e.symm]
  ·simp only[nbeq hk,cond_false,v4,ih];by_cases hku:k=u
   ·subst hku;simp[hk]
   ·simp[hku]
theorem KM(id:Nat)(l:List (Nat×D))(u:Nat):lk (scrubs id l) u=(lk l u).map (H3 id):=by
 induction l with
 | nil=>simp[scrubs,lk]
 | cons x r ih=>
  obtain⟨k,d⟩:=x;simp only[scrubs,scrB_eq,v4,ih]
  split<;>simp
theorem RX(id:Nat)(b:Bx)(l:List (Nat×Bx))(u:Nat):lk (setb id b l) u=if u=id then(lk l u).map (fun _=>b) else lk l u:=by
 induction l with
 | nil=>simp[setb,lk]
 | cons x r ih=>
  obtain⟨k,d⟩:=x;simp only[setb];by_cases hk:k=id
  ·subst hk;simp only[Nat.beq_refl,cond_true,v4];by_cases hu:k=u
   ·subst hu;simp
   ·simp[hu,show ¬ u=k from fun e=>hu e.symm]
  ·simp only[nbeq hk,cond_false,v4,ih];by_cases hku:k=u
   ·subst hku;simp[hk]
   ·simp[hku]
theorem m7(σ:Sg)(t:Nat)(d:D)(u:Nat):(σ.set t d).get u=if u=t then some d else(σ.get u).map (scrub t):=by
 simp only[Sg.get,Sg.set,v4,RJ];by_cases h:u=t
 ·simp[h]
 ·simp[h,show ¬ t=u from fun e=>h e.symm]
@[simp] theorem box_set (σ:Sg) (t:Nat) (d:D) (id:Nat):(σ.set t d).box id=σ.box id:=rfl
@[simp] theorem n_set (σ:Sg) (t:Nat) (d:D):(σ.set t d).n=σ.n:=rfl
theorem Y2(σ:Sg)(id:Nat)(b:Bx)(u:Nat):(σ.putB id b).get u=(σ.get u).map (H3 id):=by
 simp[Sg.get,Sg.putB,KM]
theorem F9(σ:Sg)(id:Nat)(b:Bx)(u:Nat):(σ.putB id b).box u=if u=id then(σ.box u).map (fun _=>b) else σ.box u:=by
 simp[Sg.box,Sg.putB,RX]
@[simp] theorem n_putB (σ:Sg) (id:Nat) (b:Bx):(σ.putB id b).n=σ.n:=rfl
@[simp] theorem get_newB (σ:Sg) (id:Nat) (b:Bx) (u:Nat):(σ.newB id b).get u=σ.get u:=rfl
theorem O3(σ:Sg)(id:Nat)(b:Bx)(u:Nat):(σ.newB id b).box u=if id=u then some b else σ.box u:=by
 simp[Sg.box,Sg.newB,v4]
@[simp] theorem n_newB (σ:Sg) (id:Nat) (b:Bx):(σ.newB id b).n=σ.n:=rfl
def VwR(z lo n:Nat)(v0 v1:Value):Prop:=
 ∃ b0 len cap b1 cap',v0=.slice b0 len cap/\v1=.slice b1 n cap'/\n<=cap'/\lo+n<=len/\cap'<=cap /\
  ((∃ b o o',b0=some ⟨b,o,none⟩/\b1=some ⟨b,o',none⟩/\(o'=o+lo*z∨(o'=o/\n=0)))∨(len=0/\cap'=0))
def SR(w:World)(ρ:Nat->Nat)(G L:Nat->Prop)(a:Act)(t:Nat)(d:D)(F:List Nat):Prop:=
 match d with
 | .al s=>F=[]/\∃ v,a.tmps[t]? = some v/\a.tmps[s]? = some v
 | .alb id off _=>F=[]/\L id/\∃ v,a.tmps[t]? = some v/\w.cell? ⟨ρ id,off,none⟩=some v
 | .vw s z lo n=>F=[]/\∃ v0 v1,a.tmps[s]? = some v0/\a.tmps[t]? = some v1/\VwR z lo n v0 v1
 | .va id off z n _ lo=>F=[]/\L id/\∃ cap o',n<=cap/\(o'=off+lo*z∨(o'=off/\n=0))/\a.tmps[t]? = some (.slice (some ⟨ρ id,o',none⟩) n cap)
 | .ep s z i off _=>F=[]/\∃ b o len cap,a.tmps[s]? = some (.slice (some ⟨b,o,none⟩) len cap)/\a.tmps[t]? = some (.pointer (some ⟨b,o+i*z+off,none⟩))/\i<len
 | .tup ds=>∃ (vs:List Value) (Fs:Nat->List Nat),a.tmps[t]? = some (.tuple vs.toArray)/\vs.length=ds.length/\F=(List.range ds.length).flatMap Fs /\
  ∀ k (h:k<ds.length),(ds[k]=.dead/\Fs k=[])∨(ds[k].isRef=false/\VR w ρ G L ds[k] (vs.getD k undef) (Fs k))
 | .dead=>F=[]/\∃ v,a.tmps[t]? = some v
 | d=>∃ v,a.tmps[t]? = some v/\VR w ρ G L d v F
theorem j2{w:World}{ρ:Nat->Nat}{G L:Nat->Prop}{a:Act}{t:Nat}{d:D}{F:List Nat}(hd:d.isRef=false) :
 SR w ρ G L a t d F↔∃ v,a.tmps[t]? = some v/\VR w ρ G L d v F:=by
 cases d<;>first|(exact Iff.rfl)|(simp[D.isRef] at hd)
def BR(w:World)(ρ:Nat->Nat)(G L:Nat->Prop)(b:Nat)(x:Bx)(F:List Nat):Prop:=
 match x with
 | .var d=>∃ cs e F',w.heap[b]? = some (.cells cs e (0,0))/\Rc w ρ G L true d cs.toList F'/\F=b::F'
 | .mp l=>F=[b]/\∃ (es:Array MapEntry) (clock:Nat),w.heap[b]? = some (.map es clock)/\(es.size=l.length/\clock=l.length) /\
  (∀ k (h:k<l.length),VR w ρ G L l[k].1 (es.getD k default).key []/\VR w ρ G L l[k].2 (es.getD k default).val []/\(es.getD k default).born=k)
structure Ctx where
 w0:World
 keep:Nat->Prop
 ok:Nat->Prop
 gl:List (Nat×D)
 rd:Option Nat
 pin:Nat->Option Nat
 df:List Deferred
def Fx(C:Ctx):Fence:={ Fence.wide with round:=C.rd }
def own(Fe Fb:Nat->List Nat)(b:Nat):Prop:=(∃ t,b∈Fe t)∨∃ id,b∈Fb id
def gd(C:Ctx)(Fe Fb:Nat->List Nat)(b:Nat):Prop:=C.ok b/\¬ own Fe Fb b
structure TpR(w' w:World):Prop where
 tp:w'.tape=w.tape
 dr:w.drawn<=w'.drawn
theorem TpR.trans{a b c:World}(h:TpR a b)(k:TpR b c):TpR a c:=⟨h.tp.trans k.tp,Nat.le_trans k.dr h.dr⟩
structure StW(C:Ctx)(σ:Sg)(a:Act)(w:World)(ρ:Nat->Nat)(Fe Fb:Nat->List Nat):Prop where
 size:a.tmps.size=σ.n
 defs:a.defers=C.df
 pin:∀ id b,C.pin id=some b->ρ id=b/\(σ.box id).isSome=true
 env:∀ t d,σ.get t=some d->SR w ρ (gd C Fe Fb) (fun id=>(σ.box id).isSome) a t d (Fe t)
 envN:∀ t,σ.get t=none->Fe t=[]
 bx:∀ id d,σ.box id=some d->BR w ρ (gd C Fe Fb) (fun id=>(σ.box id).isSome) (ρ id) d (Fb id)
 bxN:∀ id,σ.box id=none->Fb id=[]
 nodE:∀ t,(Fe t).Nodup
 nodB:∀ id,(Fb id).Nodup
 dEE:∀ t t',t≠t'->∀ b,b∈Fe t->b∉Fe t'
 dEB:∀ t id b,b∈Fe t->b∉Fb id
 dBB:∀ id id',id≠id'->∀ b,b∈Fb id->b∉Fb id'
 new:∀ b,own Fe Fb b->¬ C.keep b
 kept:∀ b,C.keep b->w.heap[b]? = C.w0.heap[b]?/\b<C.w0.heap.size
 os:w.os=C.w0.os
 tape:TpR w C.w0
 output:w.output=C.w0.output
 grown:C.w0.heap.size<=w.heap.size
 gl:∀ g d,(g,d)∈C.gl->C.keep g/\C.ok g/\∃ cs e fz,C.w0.heap[g]? = some (.cells cs e fz)/\Rc C.w0 (fun x=>x) (fun _=>False) (fun _=>False) false d cs.toList []
 okN:∀ b,w.heap.size<=b->C.ok b
 okO:∀ b,own Fe Fb b->C.ok b
def St(C:Ctx)(σ:Sg)(a:Act)(w:World):Prop:=∃ ρ Fe Fb,StW C σ a w ρ Fe Fb
def W(P:Program)(C:Ctx)(c:Code)(Q:Exit->Sg->Prop)(σ:Sg):Prop:=
 ∀ a w,St C σ a w->c.wpIn (Fx C) 3 P (fun e a' w'=>∃ σ',St C σ' a' w'/\Q e σ') a w
def WL(P:Program)(C:Ctx)(ops:Array Oper)(l:List Oper)(Q:Exit->Sg->Prop)(σ:Sg):Prop:=
 ∀ a w,St C σ a w->wpListIn (Fx C) 3 P ops (fun e a' w'=>∃ σ',St C σ' a' w'/\Q e σ') l a w
def OpS(P:Program)(C:Ctx)(o:Oper)(σ σ':Sg):Prop:=
 ∀ a w,St C σ a w->∀ (K:Act->World->Prop) (Q:Exit->Act->World->Prop),(∀ a' w',St C σ' a' w'->K a' w')->o.wpIn (Fx C) 3 P a w K Q
variable{P:Program}{C:Ctx}{Q:Exit->Sg->Prop}{σ σ':Sg}{ops:Array Oper}
theorem WL.cons{o:Oper}{l:List Oper}(hg:o.guard=none)(h:OpS P C o σ σ')(k:WL P C ops l Q σ'):WL P C ops (o::l) Q σ:=
 fun a w hs=>wpListIn_plain hg fun K hK=>h a w hs K _ (fun a' w' hs'=>hK a' w' (k a' w' hs'))
theorem W.region{id:Nat}{l:List Oper}(h:WL P C l.toArray l Q σ):W P C (.region id l.toArray false) Q σ:=
 fun a w hs=>wpIn_region_lit (h a w hs)
theorem W.seq{x y:Code}(h:W P C x (fun e s=>match e with | .normal=>W P C y Q s|e=>Q e s) σ):W P C (.seq x y) Q σ:=by
 intro a w hs;refine wpIn_seq ?_;refine Go.Code.wpIn_mono ?_ (h a w hs);intro e a' w' ⟨s,hs',hq⟩
 cases e<;>first|exact hq a' w' hs'|exact⟨s,hs',hq⟩
theorem W.skip(h:Q .normal σ):W P C .skip Q σ:=fun a w hs=>wpIn_skip ⟨σ,hs,h⟩
theorem W.ret(h:Q .ret σ):W P C .ret Q σ:=fun a w hs=>wpIn_ret ⟨σ,hs,h⟩
theorem W.exit{id:Nat}(h:Q (.exit id) σ):W P C (.exit id) Q σ:=fun a w hs=>wpIn_exit ⟨σ,hs,h⟩
theorem W.mono{c:Code}{Q':Exit->Sg->Prop}(h:W P C c Q σ)(hq:∀ e s,Q e s->Q' e s):W P C c Q' σ:=
 fun a w hs=>Go.Code.wpIn_mono (fun _ _ _ ⟨s,hs',h'⟩=>⟨s,hs',hq _ _ h'⟩) (h a w hs)
theorem W.block{id:Nat}{c:Code}(h:W P C c (fun e s=>match e with | .exit i=>if i=id then Q .normal s else Q (.exit i) s|e=>Q e s) σ):W P C (.block id c) Q σ:=by
 intro a w hs;refine wpIn_block ?_;refine Go.Code.wpIn_mono ?_ (h a w hs);intro e a' w' ⟨s,hs',hq⟩
 cases e with
 | exit i=>
  simp only[Exit.inBlock];split
  ·rename_i hi;exact⟨s,hs',by simpa [hi] using hq⟩
  ·rename_i hi;exact⟨s,hs',by simpa [hi] using hq⟩
 | _=>exact⟨s,hs',hq⟩
theorem W.cond{x y:Code}{t:Nat}{b:Bool}(ht:σ.get t=some (.bool b))(h1:b=true->W P C x Q σ)(h2:b=false->W P C y Q σ):W P C (.cond (.tmp t) x y) Q σ:=by
 intro a w hs
 have hb:a.eval (.tmp t)=.bool b:=by
  obtain⟨ρ,Fe,Fb,s⟩:=hs;obtain⟨v,hv,hr⟩:=(j2 rfl).1 (s.env t _ ht)
  have:v=.bool b:=by
   simp only[VR,D.isAgg,Bool.false_eq_true,if_false] at hr;generalize Fe t=F at hr;cases hr;rfl
  subst this;simp[Act.eval,hv]
 exact wpIn_cond_split hb (fun e=>h1 e a w hs) (fun e=>h2 e a w hs)
theorem W.loop{α:Type}{c:Code}(I:α->Sg)(μ:α->Nat)(x0:α)(h0:σ=I x0)
 (h:∀ x,W P C c (fun e s=>match e with | .normal=>∃ y,s=I y/\μ y<μ x|e=>Q e s) (I x)):W P C (.loop c) Q σ:=by
 subst h0;intro a w hs;intro b k cs hro hbf hr
 have key:∀ n x a w,μ x=n->St C (I x) a w ->
  ∃ e a' w',(∃ s,St C s a' w'/\Q e s)/\ArrivesIn (Machine.fenced P (Fx C)) P (lone (b.atR a (.code c::.inLoop c::k)) cs w) b k cs e a' w':=by
  intro n
  induction n using Nat.strongRecOn with
  | _ n ih=>
   intro x a w hx hs;obtain⟨e,a₁,w₁,⟨s,hs1,hq⟩,harr⟩:=h x a w hs b (.inLoop c::k) cs hro hbf hr
   cases e with
   | normal=>
    obtain⟨y,rfl,hlt⟩:=hq;obtain⟨e₂,a₂,w₂,hq₂,harr₂⟩:=ih (μ y) (hx▸hlt) y a₁ w₁ rfl hs1;exact⟨e₂,a₂,w₂,hq₂,.of_steps (StepsIn.trans harr (.one (fenced_calm hbf hr rfl) stepR_inLoop)) harr₂⟩
   | exit id=>exact⟨_,a₁,w₁,⟨s,hs1,hq⟩,.pass (x:=.inLoop c) rfl (fun _ _=>.inl (by simp)) harr⟩
   | goto l=>exact⟨_,a₁,w₁,⟨s,hs1,hq⟩,.pass (x:=.inLoop c) rfl (fun _ _=>.inl (by simp)) harr⟩
   | ret=>exact⟨_,a₁,w₁,⟨s,hs1,hq⟩,.pass (x:=.inLoop c) rfl (fun _ _=>.inl (by simp)) harr⟩
   | panic ch=>exact⟨_,a₁,w₁,⟨s,hs1,hq⟩,.pass (x:=.inLoop c) rfl (fun _ _=>.inl (by simp)) harr⟩
   | outgrown=>exact⟨_,a₁,w₁,⟨s,hs1,hq⟩,.pass (x:=.inLoop c) rfl (fun _ _=>.inl (by simp)) harr⟩
 obtain⟨e,a',w',hq,harr⟩:=key _ x0 a w rfl hs;exact⟨e,a',w',hq,.of_steps (.one (fenced_calm hbf hr rfl) stepR_loop) harr⟩
theorem TG{o:Oper}{ρ:Operand->Value}{ro:Option Nat}{w w':World}{r:Next}(h:(execOp ρ o).run P w=.ok r w')(hd:∀ d,r≠.defer d):(o.semAt ro ρ).run P w=.ok r w':=by
 cases ro with
 | none=>exact h
 | some l=>
  by_cases hx:∃ c,o.op=.defer c
  ·exfalso;obtain⟨c,hc⟩:=hx;unfold execOp at h;simp only[hc,Sem.run_bind] at h
   cases hres:(resolve ρ c o.type).run P w with
   | ok d w1=>
    rw[hres] at h;simp only[Result.andThen_ok,Sem.run_pure] at h;cases h;exact hd _ rfl
   | halt x w1=>
    rw[hres] at h;simp[Result.andThen] at h
  ·rw[Oper.semAt_some l ρ o (fun c hc=>hx ⟨c,hc⟩)];exact h
theorem Z7{o:Oper}{a:Act}{w w':World}{r:Next}{K:Act->World->Prop}{Q:Exit->Act->World->Prop}(h:(execOp a.eval o).run P w=.ok r w')(hd:∀ d,r≠.defer d)(hu:o.uponIn (Fx C) 3 P a K Q (.ok r w')) :
 o.wpIn (Fx C) 3 P a w K Q:=by
 refine⟨fun _ _=>trivial, ?_⟩;show o.uponIn (Fx C) 3 P a K Q ((o.semAt C.rd a.eval).run P w);rw[TG h hd];exact hu
end Go.Sx

namespace Go.Sx
structure Ext(w w':World):Prop where
 os:w'.os=w.os
 tape:TpR w' w
 output:w'.output=w.output
 size:w.heap.size<=w'.heap.size
 block:∀ b,b<w.heap.size->w'.heap[b]? = w.heap[b]?
theorem Ext.refl(w:World):Ext w w:=⟨rfl,⟨rfl,Nat.le_refl _⟩,rfl,Nat.le_refl _,fun _ _=>rfl⟩
theorem Ext.trans{a b c:World}(h:Ext a b)(k:Ext b c):Ext a c:=
 ⟨k.os.trans h.os,k.tape.trans h.tape,k.output.trans h.output,Nat.le_trans h.size k.size,
  fun x hx=>(k.block x (Nat.lt_of_lt_of_le hx h.size)).trans (h.block x hx)⟩
theorem Ext.drew(w:World):Ext w w.drew:=⟨rfl,⟨rfl,Nat.le_succ _⟩,rfl,Nat.le_refl _,fun _ _=>rfl⟩
theorem Ext.alloc(w:World)(o:Obj):Ext w (w.alloc o):=⟨rfl,⟨rfl,Nat.le_refl _⟩,rfl,by simp,fun b hb=>heap_alloc_old w o hb⟩
theorem Ext.cell{w w':World}(h:Ext w w'){a:Addr}{v:Value}(hv:w.cell? a=some v):w'.cell? a=some v:=by
 have hlt:=block_lt_of_cell hv;rw[<- hv];exact World.cell?_of_block (h.block _ hlt)
def upd(F:Nat->List Nat)(t:Nat)(x:List Nat):Nat->List Nat:=fun u=>if u=t then x else F u
@[simp] theorem j3 (F:Nat->List Nat) (t:Nat) (x:List Nat):upd F t x t=x:=by simp[upd]
theorem q8{F:Nat->List Nat}{t u:Nat}{x:List Nat}(h:u≠t):upd F t x u=F u:=by simp[upd,h]
theorem v7(a:Act)(t:Nat)(v:Value)(u:Nat)(ht:t<a.tmps.size):(a.put (some t) v).tmps[u]? = if u=t then some v else a.tmps[u]?:=by
 simp only[Act.put,Array.getElem?_setIfInBounds];by_cases h:t=u
 ·subst h;simp[ht]
 ·simp[h,show ¬ u=t from fun e=>h e.symm]
variable{P:Program}{C:Ctx}{σ σ':Sg}{a:Act}{w w':World}{ρ:Nat->Nat}{Fe Fb:Nat->List Nat}
theorem O7{G G' L L':Nat->Prop}{t u:Nat}{d:D}{v:Value}{ρ':Nat->Nat}{F:List Nat}(hu:u≠t)(ht:t<a.tmps.size)(h:SR w ρ G L a u d F)
 (hh:∀ b,(G b∨b∈F)->b<w.heap.size->w'.heap[b]? = w.heap[b]?) (hg:∀ b,G b->b<w.heap.size->G' b) (hL:∀ id,L id->L' id/\ρ' id=ρ id)
 (hc:∀ id off v,L id->w.cell? ⟨ρ id,off,none⟩=some v->w'.cell? ⟨ρ id,off,none⟩=some v) :
 SR w' ρ' G' L' (a.put (some t) v) u (scrub t d) F:=by
 have dead:∀ x,a.tmps[u]? = some x->F=[]->SR w' ρ' G' L' (a.put (some t) v) u .dead F:=by
  intro x hx hF;exact⟨hF,x,by rw[v7 a t v u ht];simp[hu,hx]⟩
 have same:(a.put (some t) v).tmps[u]? = a.tmps[u]?:=by rw[v7 a t v u ht];simp[hu]
 have sames:∀ s,s≠t->(a.put (some t) v).tmps[s]? = a.tmps[s]?:=fun s hs=>by rw[v7 a t v s ht];simp[hs]
 cases d with
 | al s=>
  obtain⟨hF,x,hx,hs⟩:=h;simp only[scrub];by_cases hst:s=t
  ·subst hst;simp only[Nat.beq_refl,cond_true];exact dead x hx hF
  ·simp only[nbeq hst,cond_false];exact⟨hF,x,by rw[same];exact hx,by rw[sames s hst];exact hs⟩
 | alb id off path=>
  obtain⟨hF,hid,x,hx,hs⟩:=h;simp only[scrub];refine⟨hF,(hL id hid).1,x,by rw[same];exact hx, ?_⟩;rw[(hL id hid).2];exact hc id off x hid hs
 | vw s z lo n=>
  obtain⟨hF,v0,v1,h1,h2,h3⟩:=h;simp only[scrub];by_cases hst:s=t
  ·subst hst;simp only[Nat.beq_refl,cond_true];exact dead _ h2 hF
  ·simp only[nbeq hst,cond_false];exact⟨hF,v0,v1,by rw[sames s hst];exact h1,by rw[same];exact h2,h3⟩
 | va id off z n path lo=>
  obtain⟨hF,hid,cap,o',h1,h0,h2⟩:=h;simp only[scrub];refine⟨hF,(hL id hid).1,cap,o',h1,h0,by rw[same,(hL id hid).2];exact h2⟩
 | ep s z i off path=>
  obtain⟨hF,b,o,len,cap,h1,h2,h3⟩:=h;simp only[scrub];by_cases hst:s=t
  ·subst hst;simp only[Nat.beq_refl,cond_true];exact dead _ h2 hF
  ·simp only[nbeq hst,cond_false];exact⟨hF,b,o,len,cap,by rw[sames s hst];exact h1,by rw[same];exact h2,h3⟩
 | tup ds=>
  obtain⟨vs,Fs,h1,h2,h3,h4⟩:=h;simp only[scrub];refine⟨vs,Fs,by rw[same];exact h1,h2,h3,fun k hk=>(h4 k hk).imp id fun hx=>⟨hx.1,hx.2.mono (fun b hb=>hh b (hb.imp id fun hm=>?_)) hg hL⟩⟩;rw[h3];exact List.mem_flatMap.2 ⟨k,List.mem_range.2 hk,hm⟩
 | dead=>obtain⟨hF,x,hx⟩:=h;exact dead x hx hF
 | _=>
  obtain⟨x,hx,hr⟩:=h;exact⟨x,by rw[same];exact hx,hr.mono hh hg hL⟩
theorem BR.mono{ρ':Nat->Nat}{G G' L L':Nat->Prop}{b:Nat}{x:Bx}{F:List Nat}(h:BR w ρ G L b x F)
 (hh:∀ b,(G b∨b∈F)->b<w.heap.size->w'.heap[b]? = w.heap[b]?) (hg:∀ b,G b->b<w.heap.size->G' b) (hL:∀ id,L id->L' id/\ρ' id=ρ id):BR w' ρ' G' L' b x F:=by
 cases x with
 | var d=>
  obtain⟨cs,e,F',hb,hr,rfl⟩:=h;have hlt:b<w.heap.size:=(Array.getElem?_eq_some_iff.1 hb).1;exact⟨cs,e,F',(hh b (.inr (by simp)) hlt).trans hb,hr.mono (fun b' hb'=>hh b' (hb'.imp id fun hm=>List.mem_cons_of_mem _ hm)) hg hL,rfl⟩
 | mp l=>
  obtain⟨rfl,es,clock,hb,hs,hk⟩:=h;have hlt:b<w.heap.size:=(Array.getElem?_eq_some_iff.1 hb).1;refine⟨rfl,es,clock,(hh b (.inr (by simp)) hlt).trans hb,hs,fun k hlt=>⟨?_, ?_,(hk k hlt).2.2⟩⟩
  ·exact(hk k hlt).1.mono (fun b hb=>hh b (.inl (hb.resolve_right (by simp)))) hg hL
  ·exact(hk k hlt).2.1.mono (fun b hb=>hh b (.inl (hb.resolve_right (by simp)))) hg hL
theorem BR.lt{G L:Nat->Prop}{b:Nat}{x:Bx}{F:List Nat}(h:BR w ρ G L b x F):∀ y∈F,y<w.heap.size:=by
 cases x with
 | var d=>
  obtain⟨cs,e,F',hb,hr,rfl⟩:=h;intro y hy
  rcases List.mem_cons.1 hy with rfl|hm
  ·exact(Array.getElem?_eq_some_iff.1 hb).1
  ·exact hr.lt y hm
 | mp l=>
  obtain⟨rfl,es,clock,hb,hs,hk⟩:=h;intro y hy;simp at hy;subst hy;exact(Array.getElem?_eq_some_iff.1 hb).1
theorem BR.mem{G L:Nat->Prop}{b:Nat}{x:Bx}{F:List Nat}(h:BR w ρ G L b x F):b∈F:=by
 cases x with
 | var d=>obtain⟨cs,e,F',hb,hr,rfl⟩:=h;simp
 | mp l=>obtain⟨rfl,_⟩:=h;simp
theorem SR.lt{G L:Nat->Prop}{t:Nat}{d:D}{F:List Nat}(h:SR w ρ G L a t d F):∀ y∈F,y<w.heap.size:=by
 cases d with
 | al s=>obtain⟨rfl,_⟩:=h;simp
 | alb id off path=>obtain⟨rfl,_⟩:=h;simp
 | vw s z lo n=>obtain⟨rfl,_⟩:=h;simp
 | va id off z n path lo=>obtain⟨rfl,_⟩:=h;simp
 | ep s z i off path=>obtain⟨rfl,_⟩:=h;simp
 | tup ds=>
  obtain⟨vs,Fs,h1,h2,rfl,h4⟩:=h;intro y hy;obtain⟨k,hk,hm⟩:=List.mem_flatMap.1 hy
  rcases h4 k (List.mem_range.1 hk) with ⟨_,h5⟩|h5
  ·rw[h5] at hm;cases hm
  ·exact h5.2.lt y hm
 | dead=>obtain⟨rfl,_⟩:=h;simp
 | _=>obtain⟨x,hx,hr⟩:=h;exact hr.lt
theorem StW.lt(h:StW C σ a w ρ Fe Fb):∀ b,own Fe Fb b->b<w.heap.size:=by
 rintro b (⟨t,ht⟩|⟨id,hid⟩)
 ·cases hg:σ.get t with
  | none=>rw[h.envN t hg] at ht;cases ht
  | some d=>exact(h.env t d hg).lt b ht
 ·cases hg:σ.box id with
  | none=>rw[h.bxN id hg] at hid;cases hid
  | some d=>exact(h.bx id d hg).lt b hid
theorem StW.ext{t:Nat}{d:D}{v:Value}{F:List Nat}(h:StW C σ a w ρ Fe Fb)(ht:t<σ.n)(hw:Ext w w')(hF:F.Nodup)(hnew:∀ b∈F,w.heap.size<=b)
 (hv:SR w' ρ (gd C (upd Fe t F) Fb) (fun id=>(σ.box id).isSome) (a.put (some t) v) t d F) :
 StW C (σ.set t d) (a.put (some t) v) w' ρ (upd Fe t F) Fb:=by
 have hsz:t<a.tmps.size:=by rw[h.size];exact ht
 have hlt:=h.lt
 have hg:∀ b,gd C Fe Fb b->b<w.heap.size->gd C (upd Fe t F) Fb b:=by
  rintro b ⟨hok,hb⟩ hlt';refine⟨hok, ?_⟩;rintro (⟨u,hu⟩|⟨id,hid⟩)
  ·by_cases hut:u=t
   ·subst hut;simp at hu;have:=hnew b hu;omega
   ·rw[q8 hut] at hu;exact hb (.inl ⟨u,hu⟩)
  ·exact hb (.inr ⟨id,hid⟩)
 have hh:∀ b,b<w.heap.size->w'.heap[b]? = w.heap[b]?:=hw.block
 have hL:∀ id,(fun id=>(σ.box id).isSome=true) id->(fun id=>((σ.set t d).box id).isSome=true) id/\ρ id=ρ id:=fun id hid=>⟨hid,rfl⟩
 refine⟨?_,h.defs,h.pin, ?_, ?_, ?_,h.bxN, ?_,h.nodB, ?_, ?_,h.dBB, ?_, ?_,hw.os.trans h.os,hw.tape.trans h.tape,hw.output.trans h.output,Nat.le_trans h.grown hw.size,h.gl,fun b hb=>h.okN b (Nat.le_trans hw.size hb), ?_⟩
 ·simp[Act.put,h.size]
 ·intro u x hx;rw[m7] at hx;by_cases hut:u=t
  ·subst hut;simp at hx;subst hx;simp only[j3];exact hv
  ·simp only[hut,if_false] at hx;obtain⟨d0,hd0,rfl⟩:=Option.map_eq_some_iff.1 hx;rw[q8 hut];exact O7 hut hsz (h.env u d0 hd0) (fun b _ hb=>hh b hb) hg hL (fun id off v _ hc=>hw.cell hc)
 ·intro u hu;rw[m7] at hu;by_cases hut:u=t
  ·simp[hut] at hu
  ·simp only[hut,if_false,Option.map_eq_none_iff] at hu;rw[q8 hut];exact h.envN u hu
 ·intro id x hx;exact(h.bx id x hx).mono (fun b _ hb=>hh b hb) hg hL
 ·intro u;by_cases hut:u=t
  ·subst hut;simpa using hF
  ·rw[q8 hut];exact h.nodE u
 ·intro u u' huu b hb hb';by_cases hut:u=t
  ·subst hut;rw[q8 (fun e=>huu e.symm)] at hb';simp at hb;have:=hnew b hb;have:=hlt b (.inl ⟨u',hb'⟩);omega
  ·rw[q8 hut] at hb;by_cases hut':u'=t
   ·subst hut';simp at hb';have:=hnew b hb';have:=hlt b (.inl ⟨u,hb⟩);omega
   ·rw[q8 hut'] at hb';exact h.dEE u u' huu b hb hb'
 ·intro u id b hb hb';by_cases hut:u=t
  ·subst hut;simp at hb;have:=hnew b hb;have:=hlt b (.inr ⟨id,hb'⟩);omega
  ·rw[q8 hut] at hb;exact h.dEB u id b hb hb'
 ·rintro b (⟨u,hu⟩|⟨id,hid⟩) hk
  ·by_cases hut:u=t
   ·subst hut;simp at hu;have:=hnew b hu;have:=(h.kept b hk).2;have:=h.grown;omega
   ·rw[q8 hut] at hu;exact h.new b (.inl ⟨u,hu⟩) hk
  ·exact h.new b (.inr ⟨id,hid⟩) hk
 ·intro b hk;have:=h.kept b hk;exact⟨(hh b (Nat.lt_of_lt_of_le this.2 h.grown)).trans this.1,this.2⟩
 ·rintro b (⟨u,hu⟩|⟨id,hid⟩)
  ·by_cases hut:u=t
   ·subst hut;simp at hu;exact h.okN b (hnew b hu)
   ·rw[q8 hut] at hu;exact h.okO b (.inl ⟨u,hu⟩)
  ·exact h.okO b (.inr ⟨id,hid⟩)
theorem StW.setV{t:Nat}{d:D}{v:Value}(h:StW C σ a w ρ Fe Fb)(ht:t<σ.n)(hw:Ext w w')(hd:d.isRef=false)
 (hv:VR w' ρ (gd C (upd Fe t []) Fb) (fun id=>(σ.box id).isSome) d v []):St C (σ.set t d) (a.put (some t) v) w':=
 ⟨ρ,upd Fe t [],Fb,h.ext ht hw List.nodup_nil (by simp) ((j2 hd).2 ⟨v,by rw[v7 a t v t (by rw[h.size];exact ht)];simp,hv⟩)⟩
theorem St.weaken(h:St C σ a w)(hn:σ'.n=σ.n)(hb:σ'.bx=σ.bx)(he:∀ t d,σ'.get t=some d->σ.get t=some d):St C σ' a w:=by
 obtain⟨ρ,Fe,Fb,h⟩:=h
 have hbox:∀ id,σ'.box id=σ.box id:=fun id=>by simp[Sg.box,hb]
 refine⟨ρ,fun t=>if(σ'.get t).isSome then Fe t else[],Fb, ?_⟩
 have hsub:∀ t b,b∈(if(σ'.get t).isSome then Fe t else[])->b∈Fe t:=by
  intro t b hb';split at hb'
  ·exact hb'
  ·cases hb'
 have hown:∀ b,own (fun t=>if(σ'.get t).isSome then Fe t else[]) Fb b->own Fe Fb b:=by
  rintro b (⟨t,ht⟩|hid)
  ·exact .inl ⟨t,hsub t b ht⟩
  ·exact .inr hid
 have hL:∀ id,(fun id=>(σ.box id).isSome=true) id->(fun id=>(σ'.box id).isSome=true) id/\ρ id=ρ id:=fun id hid=>⟨by simpa [hbox] using hid,rfl⟩
 have hg:∀ b,gd C Fe Fb b->b<w.heap.size->gd C (fun t=>if(σ'.get t).isSome then Fe t else[]) Fb b:=fun b hb' _=>⟨hb'.1,fun ho=>hb'.2 (hown b ho)⟩
 refine⟨h.size.trans hn.symm,h.defs,fun id b hp=>⟨(h.pin id b hp).1,by rw[hbox];exact(h.pin id b hp).2⟩, ?_, ?_, ?_, ?_, ?_,h.nodB, ?_, ?_,h.dBB, ?_,h.kept,h.os,⟨h.tape.tp,h.tape.dr⟩,h.output,h.grown,h.gl,h.okN,fun b hb=>h.okO b (hown b hb)⟩
 ·intro t d hd;have:=h.env t d (he t d hd);simp only[hd,Option.isSome_some,if_true]
  cases d with
  | al s=>exact this
  | alb id off path=>exact⟨this.1,(hL id this.2.1).1,this.2.2⟩
  | vw s z lo n=>exact this
  | va id off z n path lo=>exact⟨this.1,(hL id this.2.1).1,this.2.2⟩
  | ep s z i off path=>exact this
  | tup ds=>
   obtain⟨vs,Fs,h1,h2,h3,h4⟩:=this;exact⟨vs,Fs,h1,h2,h3,fun k hk=>(h4 k hk).imp id fun hx=>⟨hx.1,hx.2.mono (fun _ _ _=>rfl) hg hL⟩⟩
  | dead=>exact this
  | _=>obtain⟨x,hx,hr⟩:=this;exact⟨x,hx,hr.mono (fun _ _ _=>rfl) hg hL⟩
 ·intro t ht;simp[ht]
 ·intro id x hx;exact(h.bx id x (by rw[<- hbox];exact hx)).mono (fun _ _ _=>rfl) hg hL
 ·intro id hid;exact h.bxN id (by rw[<- hbox];exact hid)
 ·intro t;show(if(σ'.get t).isSome then Fe t else[]).Nodup;split
  ·exact h.nodE t
  ·exact List.nodup_nil
 ·intro t t' htt b hb1 hb2;exact h.dEE t t' htt b (hsub t b hb1) (hsub t' b hb2)
 ·intro t id b hb1 hb2;exact h.dEB t id b (hsub t b hb1) hb2
 ·intro b hb';exact h.new b (hown b hb')
end Go.Sx

namespace Go.Sx
def BZ(x:UInt8)(n:Nat):UInt8:=if n<8 then x<<<UInt8.ofNat n else 0
def T1(x:UInt8)(n:Nat):UInt8:=if n<8 then x>>>UInt8.ofNat n else 0
theorem L0(z:Int):IntKind.u8.wrap z=z%256:=by simp[IntKind.wrap,IntKind.bits,IntKind.signed]
theorem JP(x:UInt8):BitVec.ofInt 8 (x.toNat:Int)=x.toBitVec:=by
 apply BitVec.eq_of_toNat_eq;have:=x.toNat_lt;simp only[BitVec.toNat_ofInt,UInt8.toNat_toBitVec];omega
theorem PD(b:BitVec 8):((b.toNat:Int)%256)=((UInt8.ofBitVec b).toNat:Int):=by
 have:=b.isLt;have e:(UInt8.ofBitVec b).toNat=b.toNat:=rfl;rw[e];omega
theorem BQ(x:UInt8)(n:Nat):(BZ x n).toNat=x.toNat*2^(min n 8)%256:=by
 unfold BZ;split
 ·rename_i h;rw[UInt8.toNat_shiftLeft,UInt8.toNat_ofNat',Nat.mod_eq_of_lt (show n<2^8 by omega),Nat.mod_eq_of_lt h,Nat.shiftLeft_eq,Nat.min_eq_left (by omega)]
 ·rename_i h;rw[Nat.min_eq_right (by omega)];have:(0:UInt8).toNat=0:=rfl;rw[this];exact(Nat.mul_mod_left _ _).symm
theorem CW(x:UInt8)(n:Nat):(T1 x n).toNat=x.toNat/2^(min n 8):=by
 unfold T1;split
 ·rename_i h;rw[UInt8.toNat_shiftRight,UInt8.toNat_ofNat',Nat.mod_eq_of_lt (show n<2^8 by omega),Nat.mod_eq_of_lt h,Nat.shiftRight_eq_div_pow,Nat.min_eq_left (by omega)]
 ·rename_i h;rw[Nat.min_eq_right (by omega)];have:=x.toNat_lt;have e:(0:UInt8).toNat=0:=rfl;rw[e];exact(Nat.div_eq_of_lt (by omega)).symm
def W7(op:BinOp)(a b:UInt8):Option (Prop×D):=
 match op with
 | .add=>some (True,.u8 (a+b))
 | .sub=>some (True,.u8 (a-b))
 | .mul=>some (True,.u8 (a*b))
 | .quo=>some (b≠0,.u8 (a/b))
 | .rem=>some (b≠0,.u8 (a%b))
 | .and=>some (True,.u8 (a&&&b))
 | .or=>some (True,.u8 (a|||b))
 | .xor=>some (True,.u8 (a^^^b))
 | .andNot=>some (True,.u8 (a &&& ~~~b))
 | .eql=>some (True,.bool (a==b))
 | .neq=>some (True,.bool (a != b))
 | .lss=>some (True,.bool (decide (a<b)))
 | .leq=>some (True,.bool (decide (a<=b)))
 | .gtr=>some (True,.bool (decide (b<a)))
 | .geq=>some (True,.bool (decide (b<=a)))
 | _=>none
def AW(op:BinOp)(a b:UInt8):Value:=
 match op with
 | .add=>.int .u8 (a+b).toNat
 | .sub=>.int .u8 (a-b).toNat
 | .mul=>.int .u8 (a*b).toNat
 | .quo=>.int .u8 (a/b).toNat
 | .rem=>.int .u8 (a%b).toNat
 | .and=>.int .u8 (a&&&b).toNat
 | .or=>.int .u8 (a|||b).toNat
 | .xor=>.int .u8 (a^^^b).toNat
 | .andNot=>.int .u8 (a &&& ~~~b).toNat
 | .eql=>.bool (a==b)
 | .neq=>.bool (a != b)
 | .lss=>.bool (decide (a<b))
 | .leq=>.bool (decide (a<=b))
 | .gtr=>.bool (decide (b<a))
 | .geq=>.bool (decide (b<=a))
 | _=>undef
theorem IA(a b:UInt8):((a.toNat:Int)==(b.toNat:Int))=(a==b):=by
 rw[Bool.eq_iff_iff];simp only[beq_iff_eq,Int.natCast_inj];exact UInt8.toNat_inj
theorem lt_u8(a b:UInt8):decide ((a.toNat:Int)<(b.toNat:Int))=decide (a<b):=by
 rw[decide_eq_decide,UInt8.lt_iff_toNat_lt];omega
theorem le_u8(a b:UInt8):decide ((a.toNat:Int)<=(b.toNat:Int))=decide (a<=b):=by
 rw[decide_eq_decide,UInt8.le_iff_toNat_le];omega
theorem ne_u8(b:UInt8)(h:b≠0):(b.toNat:Int)≠0:=by
 intro e;apply h;apply UInt8.toNat_inj.1;have:(0:UInt8).toNat=0:=rfl;rw[this];omega
theorem run_u8(P:Program)(w:World)(op:BinOp)(ty:TypeId)(a b:UInt8){s:Prop}{d:D}(h:W7 op a b=some (s,d))(hs:s) :
 (binOp op ty (.int .u8 a.toNat) (.int .u8 b.toNat)).run P w=.ok (AW op a b) w:=by
 have ha:=a.toNat_lt;have hb:=b.toNat_lt
 cases op<;>simp only[W7,Option.some.injEq,Prod.mk.injEq,reduceCtorEq] at h<;>obtain⟨rfl,rfl⟩:=h <;>
  simp only[binOp,ne_eq,not_true_eq_false,if_false,Op.intArith,Op.intDiv,Op.intBits,Op.intCmp,AW,Sem.run_pure,L0,IntKind.bits]
 ·exact congrArg (fun z=>Result.ok (Value.int .u8 z) w) (by rw[UInt8.toNat_add];omega)
 ·exact congrArg (fun z=>Result.ok (Value.int .u8 z) w) (by rw[UInt8.toNat_sub];omega)
 ·exact congrArg (fun z=>Result.ok (Value.int .u8 z) w) (by rw[UInt8.toNat_mul];rfl)
 ·rw[if_neg (ne_u8 b hs)]
  exact congrArg (fun z=>Result.ok (Value.int .u8 z) w) (by
   rw[UInt8.toNat_div,Int.tdiv_eq_ediv_of_nonneg (Int.natCast_nonneg _)];have:a.toNat/b.toNat<=a.toNat:=Nat.div_le_self _ _;have e:((a.toNat:Int)/(b.toNat:Int))=((a.toNat/b.toNat:Nat):Int):=rfl;rw[e];generalize a.toNat/b.toNat=q at this ⊢
   omega)
 ·rw[if_neg (ne_u8 b hs)];congr 2
 ·rw[JP,JP,PD];rfl
 ·rw[JP,JP,PD];rfl
 ·rw[JP,JP,PD];rfl
 ·rw[JP,JP,PD];rfl
 ·rw[IA]
 ·congr 2
  have:=IA a b;simp only[bne,this]
 ·congr 2;exact lt_u8 a b
 ·congr 2;exact le_u8 a b
 ·congr 2;exact lt_u8 b a
 ·congr 2;exact le_u8 b a
theorem EM(P:Program)(w:World)(ty:TypeId)(a:UInt8)(k:IntKind)(n:Int)(hn:0<=n) :
 (binOp .shl ty (.int .u8 a.toNat) (.int k n)).run P w=.ok (.int .u8 (BZ a n.toNat).toNat) w:=by
 simp only[binOp,Op.shift,if_neg (show ¬ n<0 by omega),Sem.run_pure,L0,IntKind.bits,BQ]
 congr 2
theorem EP(P:Program)(w:World)(ty:TypeId)(a:UInt8)(k:IntKind)(n:Int)(hn:0<=n) :
 (binOp .shr ty (.int .u8 a.toNat) (.int k n)).run P w=.ok (.int .u8 (T1 a n.toNat).toNat) w:=by
 simp only[binOp,Op.shift,if_neg (show ¬ n<0 by omega),Sem.run_pure,IntKind.bits,CW]
 congr 2
 have:(a.toNat:Int).fdiv (2^min n.toNat 8)=(a.toNat:Int)/(2^min n.toNat 8):=Int.fdiv_eq_ediv_of_nonneg _ (by exact_mod_cast Nat.zero_le _);rw[this];rfl
def XX(x:UInt16)(n:Nat):UInt16:=if n<16 then x<<<UInt16.ofNat n else 0
def XJ(x:UInt16)(n:Nat):UInt16:=if n<16 then x>>>UInt16.ofNat n else 0
theorem S4(z:Int):IntKind.u16.wrap z=z%65536:=by simp[IntKind.wrap,IntKind.bits,IntKind.signed]
theorem W5(x:UInt16):BitVec.ofInt 16 (x.toNat:Int)=x.toBitVec:=by
 apply BitVec.eq_of_toNat_eq;have:=x.toNat_lt;simp only[BitVec.toNat_ofInt,UInt16.toNat_toBitVec];omega
theorem XS(b:BitVec 16):((b.toNat:Int)%65536)=((UInt16.ofBitVec b).toNat:Int):=by
 have:=b.isLt;have e:(UInt16.ofBitVec b).toNat=b.toNat:=rfl;rw[e];omega
theorem HP(x:UInt16)(n:Nat):(XX x n).toNat=x.toNat*2^(min n 16)%65536:=by
 unfold XX;split
 ·rename_i h;rw[UInt16.toNat_shiftLeft,UInt16.toNat_ofNat',Nat.mod_eq_of_lt (show n<2^16 by omega),Nat.mod_eq_of_lt h,Nat.shiftLeft_eq,Nat.min_eq_left (by omega)]
 ·rename_i h;rw[Nat.min_eq_right (by omega)];have:(0:UInt16).toNat=0:=rfl;rw[this];exact(Nat.mul_mod_left _ _).symm
theorem HD(x:UInt16)(n:Nat):(XJ x n).toNat=x.toNat/2^(min n 16):=by
 unfold XJ;split
 ·rename_i h;rw[UInt16.toNat_shiftRight,UInt16.toNat_ofNat',Nat.mod_eq_of_lt (show n<2^16 by omega),Nat.mod_eq_of_lt h,Nat.shiftRight_eq_div_pow,Nat.min_eq_left (by omega)]
 ·rename_i h;rw[Nat.min_eq_right (by omega)];have:=x.toNat_lt;have e:(0:UInt16).toNat=0:=rfl;rw[e];exact(Nat.div_eq_of_lt (by omega)).symm
def I3(op:BinOp)(a b:UInt16):Option (Prop×D):=
 match op with
 | .add=>some (True,.u16 (a+b))
 | .sub=>some (True,.u16 (a-b))
 | .mul=>some (True,.u16 (a*b))
 | .quo=>some (b≠0,.u16 (a/b))
 | .rem=>some (b≠0,.u16 (a%b))
 | .and=>some (True,.u16 (a&&&b))
 | .or=>some (True,.u16 (a|||b))
 | .xor=>some (True,.u16 (a^^^b))
 | .andNot=>some (True,.u16 (a &&& ~~~b))
 | .eql=>some (True,.bool (a==b))
 | .neq=>some (True,.bool (a != b))
 | .lss=>some (True,.bool (decide (a<b)))
 | .leq=>some (True,.bool (decide (a<=b)))
 | .gtr=>some (True,.bool (decide (b<a)))
 | .geq=>some (True,.bool (decide (b<=a)))
 | _=>none
def CL(op:BinOp)(a b:UInt16):Value:=
 match op with
 | .add=>.int .u16 (a+b).toNat
 | .sub=>.int .u16 (a-b).toNat
 | .mul=>.int .u16 (a*b).toNat
 | .quo=>.int .u16 (a/b).toNat
 | .rem=>.int .u16 (a%b).toNat
 | .and=>.int .u16 (a&&&b).toNat
 | .or=>.int .u16 (a|||b).toNat
 | .xor=>.int .u16 (a^^^b).toNat
 | .andNot=>.int .u16 (a &&& ~~~b).toNat
 | .eql=>.bool (a==b)
 | .neq=>.bool (a != b)
 | .lss=>.bool (decide (a<b))
 | .leq=>.bool (decide (a<=b))
 | .gtr=>.bool (decide (b<a))
 | .geq=>.bool (decide (b<=a))
 | _=>undef
theorem SP(a b:UInt16):((a.toNat:Int)==(b.toNat:Int))=(a==b):=by
 rw[Bool.eq_iff_iff];simp only[beq_iff_eq,Int.natCast_inj];exact UInt16.toNat_inj
theorem lt_u16(a b:UInt16):decide ((a.toNat:Int)<(b.toNat:Int))=decide (a<b):=by
 rw[decide_eq_decide,UInt16.lt_iff_toNat_lt];omega
theorem le_u16(a b:UInt16):decide ((a.toNat:Int)<=(b.toNat:Int))=decide (a<=b):=by
 rw[decide_eq_decide,UInt16.le_iff_toNat_le];omega
theorem ne_u16(b:UInt16)(h:b≠0):(b.toNat:Int)≠0:=by
 intro e;apply h;apply UInt16.toNat_inj.1;have:(0:UInt16).toNat=0:=rfl;rw[this];omega
theorem LN(P:Program)(w:World)(op:BinOp)(ty:TypeId)(a b:UInt16){s:Prop}{d:D}(h:I3 op a b=some (s,d))(hs:s) :
 (binOp op ty (.int .u16 a.toNat) (.int .u16 b.toNat)).run P w=.ok (CL op a b) w:=by
 have ha:=a.toNat_lt;have hb:=b.toNat_lt
 cases op<;>simp only[I3,Option.some.injEq,Prod.mk.injEq,reduceCtorEq] at h<;>obtain⟨rfl,rfl⟩:=h <;>
  simp only[binOp,ne_eq,not_true_eq_false,if_false,Op.intArith,Op.intDiv,Op.intBits,Op.intCmp,CL,Sem.run_pure,S4,IntKind.bits]
 ·exact congrArg (fun z=>Result.ok (Value.int .u16 z) w) (by rw[UInt16.toNat_add];omega)
 ·exact congrArg (fun z=>Result.ok (Value.int .u16 z) w) (by rw[UInt16.toNat_sub];omega)
 ·exact congrArg (fun z=>Result.ok (Value.int .u16 z) w) (by rw[UInt16.toNat_mul];rfl)
 ·rw[if_neg (ne_u16 b hs)]
  exact congrArg (fun z=>Result.ok (Value.int .u16 z) w) (by
   rw[UInt16.toNat_div,Int.tdiv_eq_ediv_of_nonneg (Int.natCast_nonneg _)];have:a.toNat/b.toNat<=a.toNat:=Nat.div_le_self _ _;have e:((a.toNat:Int)/(b.toNat:Int))=((a.toNat/b.toNat:Nat):Int):=rfl;rw[e];generalize a.toNat/b.toNat=q at this ⊢
   omega)
 ·rw[if_neg (ne_u16 b hs)];congr 2
 ·rw[W5,W5,XS];rfl
 ·rw[W5,W5,XS];rfl
 ·rw[W5,W5,XS];rfl
 ·rw[W5,W5,XS];rfl
 ·rw[SP]
 ·congr 2
  have:=SP a b;simp only[bne,this]
 ·congr 2;exact lt_u16 a b
 ·congr 2;exact le_u16 a b
 ·congr 2;exact lt_u16 b a
 ·congr 2;exact le_u16 b a
theorem NZ(P:Program)(w:World)(ty:TypeId)(a:UInt16)(k:IntKind)(n:Int)(hn:0<=n) :
 (binOp .shl ty (.int .u16 a.toNat) (.int k n)).run P w=.ok (.int .u16 (XX a n.toNat).toNat) w:=by
 simp only[binOp,Op.shift,if_neg (show ¬ n<0 by omega),Sem.run_pure,S4,IntKind.bits,HP]
 congr 2
theorem MV(P:Program)(w:World)(ty:TypeId)(a:UInt16)(k:IntKind)(n:Int)(hn:0<=n) :
 (binOp .shr ty (.int .u16 a.toNat) (.int k n)).run P w=.ok (.int .u16 (XJ a n.toNat).toNat) w:=by
 simp only[binOp,Op.shift,if_neg (show ¬ n<0 by omega),Sem.run_pure,IntKind.bits,HD]
 congr 2
 have:(a.toNat:Int).fdiv (2^min n.toNat 16)=(a.toNat:Int)/(2^min n.toNat 16):=Int.fdiv_eq_ediv_of_nonneg _ (by exact_mod_cast Nat.zero_le _);rw[this];rfl
def c5(x:UInt32)(n:Nat):UInt32:=if n<32 then x<<<UInt32.ofNat n else 0
def u0(x:UInt32)(n:Nat):UInt32:=if n<32 then x>>>UInt32.ofNat n else 0
theorem N5(z:Int):IntKind.u32.wrap z=z%4294967296:=by simp[IntKind.wrap,IntKind.bits,IntKind.signed]
theorem W4(x:UInt32):BitVec.ofInt 32 (x.toNat:Int)=x.toBitVec:=by
 apply BitVec.eq_of_toNat_eq;have:=x.toNat_lt;simp only[BitVec.toNat_ofInt,UInt32.toNat_toBitVec];omega
theorem XR(b:BitVec 32):((b.toNat:Int)%4294967296)=((UInt32.ofBitVec b).toNat:Int):=by
 have:=b.isLt;have e:(UInt32.ofBitVec b).toNat=b.toNat:=rfl;rw[e];omega
theorem HB(x:UInt32)(n:Nat):(c5 x n).toNat=x.toNat*2^(min n 32)%4294967296:=by
 unfold c5;split
 ·rename_i h;rw[UInt32.toNat_shiftLeft,UInt32.toNat_ofNat',Nat.mod_eq_of_lt (show n<2^32 by omega),Nat.mod_eq_of_lt h,Nat.shiftLeft_eq,Nat.min_eq_left (by omega)]
 ·rename_i h;rw[Nat.min_eq_right (by omega)];have:(0:UInt32).toNat=0:=rfl;rw[this];exact(Nat.mul_mod_left _ _).symm
theorem HH(x:UInt32)(n:Nat):(u0 x n).toNat=x.toNat/2^(min n 32):=by
 unfold u0;split
 ·rename_i h;rw[UInt32.toNat_shiftRight,UInt32.toNat_ofNat',Nat.mod_eq_of_lt (show n<2^32 by omega),Nat.mod_eq_of_lt h,Nat.shiftRight_eq_div_pow,Nat.min_eq_left (by omega)]
 ·rename_i h;rw[Nat.min_eq_right (by omega)];have:=x.toNat_lt;have e:(0:UInt32).toNat=0:=rfl;rw[e];exact(Nat.div_eq_of_lt (by omega)).symm
def I2(op:BinOp)(a b:UInt32):Option (Prop×D):=
 match op with
 | .add=>some (True,.u32 (a+b))
 | .sub=>some (True,.u32 (a-b))
 | .mul=>some (True,.u32 (a*b))
 | .quo=>some (b≠0,.u32 (a/b))
 | .rem=>some (b≠0,.u32 (a%b))
 | .and=>some (True,.u32 (a&&&b))
 | .or=>some (True,.u32 (a|||b))
 | .xor=>some (True,.u32 (a^^^b))
 | .andNot=>some (True,.u32 (a &&& ~~~b))
 | .eql=>some (True,.bool (a==b))
 | .neq=>some (True,.bool (a != b))
 | .lss=>some (True,.bool (decide (a<b)))
 | .leq=>some (True,.bool (decide (a<=b)))
 | .gtr=>some (True,.bool (decide (b<a)))
 | .geq=>some (True,.bool (decide (b<=a)))
 | _=>none
def CI(op:BinOp)(a b:UInt32):Value:=
 match op with
 | .add=>.int .u32 (a+b).toNat
 | .sub=>.int .u32 (a-b).toNat
 | .mul=>.int .u32 (a*b).toNat
 | .quo=>.int .u32 (a/b).toNat
 | .rem=>.int .u32 (a%b).toNat
 | .and=>.int .u32 (a&&&b).toNat
 | .or=>.int .u32 (a|||b).toNat
 | .xor=>.int .u32 (a^^^b).toNat
 | .andNot=>.int .u32 (a &&& ~~~b).toNat
 | .eql=>.bool (a==b)
 | .neq=>.bool (a != b)
 | .lss=>.bool (decide (a<b))
 | .leq=>.bool (decide (a<=b))
 | .gtr=>.bool (decide (b<a))
 | .geq=>.bool (decide (b<=a))
 | _=>undef
theorem PN(a b:UInt32):((a.toNat:Int)==(b.toNat:Int))=(a==b):=by
 rw[Bool.eq_iff_iff];simp only[beq_iff_eq,Int.natCast_inj];exact UInt32.toNat_inj
theorem lt_u32(a b:UInt32):decide ((a.toNat:Int)<(b.toNat:Int))=decide (a<b):=by
 rw[decide_eq_decide,UInt32.lt_iff_toNat_lt];omega
theorem le_u32(a b:UInt32):decide ((a.toNat:Int)<=(b.toNat:Int))=decide (a<=b):=by
 rw[decide_eq_decide,UInt32.le_iff_toNat_le];omega
theorem ne_u32(b:UInt32)(h:b≠0):(b.toNat:Int)≠0:=by
 intro e;apply h;apply UInt32.toNat_inj.1;have:(0:UInt32).toNat=0:=rfl;rw[this];omega
theorem LM(P:Program)(w:World)(op:BinOp)(ty:TypeId)(a b:UInt32){s:Prop}{d:D}(h:I2 op a b=some (s,d))(hs:s) :
 (binOp op ty (.int .u32 a.toNat) (.int .u32 b.toNat)).run P w=.ok (CI op a b) w:=by
 have ha:=a.toNat_lt;have hb:=b.toNat_lt
 cases op<;>simp only[I2,Option.some.injEq,Prod.mk.injEq,reduceCtorEq] at h<;>obtain⟨rfl,rfl⟩:=h <;>
  simp only[binOp,ne_eq,not_true_eq_false,if_false,Op.intArith,Op.intDiv,Op.intBits,Op.intCmp,CI,Sem.run_pure,N5,IntKind.bits]
 ·exact congrArg (fun z=>Result.ok (Value.int .u32 z) w) (by rw[UInt32.toNat_add];omega)
 ·exact congrArg (fun z=>Result.ok (Value.int .u32 z) w) (by rw[UInt32.toNat_sub];omega)
 ·exact congrArg (fun z=>Result.ok (Value.int .u32 z) w) (by rw[UInt32.toNat_mul];rfl)
 ·rw[if_neg (ne_u32 b hs)]
  exact congrArg (fun z=>Result.ok (Value.int .u32 z) w) (by
   rw[UInt32.toNat_div,Int.tdiv_eq_ediv_of_nonneg (Int.natCast_nonneg _)];have:a.toNat/b.toNat<=a.toNat:=Nat.div_le_self _ _;have e:((a.toNat:Int)/(b.toNat:Int))=((a.toNat/b.toNat:Nat):Int):=rfl;rw[e];generalize a.toNat/b.toNat=q at this ⊢
   omega)
 ·rw[if_neg (ne_u32 b hs)];congr 2
 ·rw[W4,W4,XR];rfl
 ·rw[W4,W4,XR];rfl
 ·rw[W4,W4,XR];rfl
 ·rw[W4,W4,XR];rfl
 ·rw[PN]
 ·congr 2
  have:=PN a b;simp only[bne,this]
 ·congr 2;exact lt_u32 a b
 ·congr 2;exact le_u32 a b
 ·congr 2;exact lt_u32 b a
 ·congr 2;exact le_u32 b a
theorem NQ(P:Program)(w:World)(ty:TypeId)(a:UInt32)(k:IntKind)(n:Int)(hn:0<=n) :
 (binOp .shl ty (.int .u32 a.toNat) (.int k n)).run P w=.ok (.int .u32 (c5 a n.toNat).toNat) w:=by
 simp only[binOp,Op.shift,if_neg (show ¬ n<0 by omega),Sem.run_pure,N5,IntKind.bits,HB]
 congr 2
theorem MT(P:Program)(w:World)(ty:TypeId)(a:UInt32)(k:IntKind)(n:Int)(hn:0<=n) :
 (binOp .shr ty (.int .u32 a.toNat) (.int k n)).run P w=.ok (.int .u32 (u0 a n.toNat).toNat) w:=by
 simp only[binOp,Op.shift,if_neg (show ¬ n<0 by omega),Sem.run_pure,IntKind.bits,HH]
 congr 2
 have:(a.toNat:Int).fdiv (2^min n.toNat 32)=(a.toNat:Int)/(2^min n.toNat 32):=Int.fdiv_eq_ediv_of_nonneg _ (by exact_mod_cast Nat.zero_le _);rw[this];rfl
def H0(x:UInt64)(n:Nat):UInt64:=if n<64 then x<<<UInt64.ofNat n else 0
def o6(x:UInt64)(n:Nat):UInt64:=if n<64 then x>>>UInt64.ofNat n else 0
theorem N4(z:Int):IntKind.u64.wrap z=z%18446744073709551616:=by simp[IntKind.wrap,IntKind.bits,IntKind.signed]
theorem W3(x:UInt64):BitVec.ofInt 64 (x.toNat:Int)=x.toBitVec:=by
 apply BitVec.eq_of_toNat_eq;have:=x.toNat_lt;simp only[BitVec.toNat_ofInt,UInt64.toNat_toBitVec];omega
theorem XL(b:BitVec 64):((b.toNat:Int)%18446744073709551616)=((UInt64.ofBitVec b).toNat:Int):=by
 have:=b.isLt;have e:(UInt64.ofBitVec b).toNat=b.toNat:=rfl;rw[e];omega
theorem HC(x:UInt64)(n:Nat):(H0 x n).toNat=x.toNat*2^(min n 64)%18446744073709551616:=by
 unfold H0;split
 ·rename_i h;rw[UInt64.toNat_shiftLeft,UInt64.toNat_ofNat',Nat.mod_eq_of_lt (show n<2^64 by omega),Nat.mod_eq_of_lt h,Nat.shiftLeft_eq,Nat.min_eq_left (by omega)]
 ·rename_i h;rw[Nat.min_eq_right (by omega)];have:(0:UInt64).toNat=0:=rfl;rw[this];exact(Nat.mul_mod_left _ _).symm
theorem B3(x:UInt64)(n:Nat):(o6 x n).toNat=x.toNat/2^(min n 64):=by
 unfold o6;split
 ·rename_i h;rw[UInt64.toNat_shiftRight,UInt64.toNat_ofNat',Nat.mod_eq_of_lt (show n<2^64 by omega),Nat.mod_eq_of_lt h,Nat.shiftRight_eq_div_pow,Nat.min_eq_left (by omega)]
 ·rename_i h;rw[Nat.min_eq_right (by omega)];have:=x.toNat_lt;have e:(0:UInt64).toNat=0:=rfl;rw[e];exact(Nat.div_eq_of_lt (by omega)).symm
def I1(op:BinOp)(a b:UInt64):Option (Prop×D):=
 match op with
 | .add=>some (True,.u64 (a+b))
 | .sub=>some (True,.u64 (a-b))
 | .mul=>some (True,.u64 (a*b))
 | .quo=>some (b≠0,.u64 (a/b))
 | .rem=>some (b≠0,.u64 (a%b))
 | .and=>some (True,.u64 (a&&&b))
 | .or=>some (True,.u64 (a|||b))
 | .xor=>some (True,.u64 (a^^^b))
 | .andNot=>some (True,.u64 (a &&& ~~~b))
 | .eql=>some (True,.bool (a==b))
 | .neq=>some (True,.bool (a != b))
 | .lss=>some (True,.bool (decide (a<b)))
 | .leq=>some (True,.bool (decide (a<=b)))
 | .gtr=>some (True,.bool (decide (b<a)))
 | .geq=>some (True,.bool (decide (b<=a)))
 | _=>none
def CF(op:BinOp)(a b:UInt64):Value:=
 match op with
 | .add=>.int .u64 (a+b).toNat
 | .sub=>.int .u64 (a-b).toNat
 | .mul=>.int .u64 (a*b).toNat
 | .quo=>.int .u64 (a/b).toNat
 | .rem=>.int .u64 (a%b).toNat
 | .and=>.int .u64 (a&&&b).toNat
 | .or=>.int .u64 (a|||b).toNat
 | .xor=>.int .u64 (a^^^b).toNat
 | .andNot=>.int .u64 (a &&& ~~~b).toNat
 | .eql=>.bool (a==b)
 | .neq=>.bool (a != b)
 | .lss=>.bool (decide (a<b))
 | .leq=>.bool (decide (a<=b))
 | .gtr=>.bool (decide (b<a))
 | .geq=>.bool (decide (b<=a))
 | _=>undef
theorem XW(a b:UInt64):((a.toNat:Int)==(b.toNat:Int))=(a==b):=by
 rw[Bool.eq_iff_iff];simp only[beq_iff_eq,Int.natCast_inj];exact UInt64.toNat_inj
theorem lt_u64(a b:UInt64):decide ((a.toNat:Int)<(b.toNat:Int))=decide (a<b):=by
 rw[decide_eq_decide,UInt64.lt_iff_toNat_lt];omega
theorem le_u64(a b:UInt64):decide ((a.toNat:Int)<=(b.toNat:Int))=decide (a<=b):=by
 rw[decide_eq_decide,UInt64.le_iff_toNat_le];omega
theorem ne_u64(b:UInt64)(h:b≠0):(b.toNat:Int)≠0:=by
 intro e;apply h;apply UInt64.toNat_inj.1;have:(0:UInt64).toNat=0:=rfl;rw[this];omega
theorem LP(P:Program)(w:World)(op:BinOp)(ty:TypeId)(a b:UInt64){s:Prop}{d:D}(h:I1 op a b=some (s,d))(hs:s) :
 (binOp op ty (.int .u64 a.toNat) (.int .u64 b.toNat)).run P w=.ok (CF op a b) w:=by
 have ha:=a.toNat_lt;have hb:=b.toNat_lt
 cases op<;>simp only[I1,Option.some.injEq,Prod.mk.injEq,reduceCtorEq] at h<;>obtain⟨rfl,rfl⟩:=h <;>
  simp only[binOp,ne_eq,not_true_eq_false,if_false,Op.intArith,Op.intDiv,Op.intBits,Op.intCmp,CF,Sem.run_pure,N4,IntKind.bits]
 ·exact congrArg (fun z=>Result.ok (Value.int .u64 z) w) (by rw[UInt64.toNat_add];omega)
 ·exact congrArg (fun z=>Result.ok (Value.int .u64 z) w) (by rw[UInt64.toNat_sub];omega)
 ·exact congrArg (fun z=>Result.ok (Value.int .u64 z) w) (by rw[UInt64.toNat_mul];rfl)
 ·rw[if_neg (ne_u64 b hs)]
  exact congrArg (fun z=>Result.ok (Value.int .u64 z) w) (by
   rw[UInt64.toNat_div,Int.tdiv_eq_ediv_of_nonneg (Int.natCast_nonneg _)];have:a.toNat/b.toNat<=a.toNat:=Nat.div_le_self _ _;have e:((a.toNat:Int)/(b.toNat:Int))=((a.toNat/b.toNat:Nat):Int):=rfl;rw[e];generalize a.toNat/b.toNat=q at this ⊢
   omega)
 ·rw[if_neg (ne_u64 b hs)];congr 2
 ·rw[W3,W3,XL];rfl
 ·rw[W3,W3,XL];rfl
 ·rw[W3,W3,XL];rfl
 ·rw[W3,W3,XL];rfl
 ·rw[XW]
 ·congr 2
  have:=XW a b;simp only[bne,this]
 ·congr 2;exact lt_u64 a b
 ·congr 2;exact le_u64 a b
 ·congr 2;exact lt_u64 b a
 ·congr 2;exact le_u64 b a
theorem MW(P:Program)(w:World)(ty:TypeId)(a:UInt64)(k:IntKind)(n:Int)(hn:0<=n) :
 (binOp .shl ty (.int .u64 a.toNat) (.int k n)).run P w=.ok (.int .u64 (H0 a n.toNat).toNat) w:=by
 simp only[binOp,Op.shift,if_neg (show ¬ n<0 by omega),Sem.run_pure,N4,IntKind.bits,HC]
 congr 2
theorem MS(P:Program)(w:World)(ty:TypeId)(a:UInt64)(k:IntKind)(n:Int)(hn:0<=n) :
 (binOp .shr ty (.int .u64 a.toNat) (.int k n)).run P w=.ok (.int .u64 (o6 a n.toNat).toNat) w:=by
 simp only[binOp,Op.shift,if_neg (show ¬ n<0 by omega),Sem.run_pure,IntKind.bits,B3]
 congr 2
 have:(a.toNat:Int).fdiv (2^min n.toNat 64)=(a.toNat:Int)/(2^min n.toNat 64):=Int.fdiv_eq_ediv_of_nonneg _ (by exact_mod_cast Nat.zero_le _);rw[this];rfl
end Go.Sx

namespace Go.Sx
variable{pos:String}{aft:Array Edge}{g:Option (Nat×Bool)}
abbrev wr(n:Int):Int:=IntKind.i64.wrap n
def JN(op:BinOp)(a b:Int):Int:=
 wr (match op with
  | .and=>((BitVec.ofInt 64 a&&&BitVec.ofInt 64 b).toNat:Int)
  | .or=>((BitVec.ofInt 64 a|||BitVec.ofInt 64 b).toNat:Int)
  | .xor=>((BitVec.ofInt 64 a^^^BitVec.ofInt 64 b).toNat:Int)
  | _=>((BitVec.ofInt 64 a &&& ~~~ BitVec.ofInt 64 b).toNat:Int))
def GN(op:BinOp)(a b:Int):Option (Prop×D):=
 match op with
 | .add=>some (True,.int (wr (a+b)))
 | .sub=>some (True,.int (wr (a-b)))
 | .mul=>some (True,.int (wr (a*b)))
 | .quo=>some (b≠0,.int (wr (a.tdiv b)))
 | .rem=>some (b≠0,.int (a.tmod b))
 | .and=>some (True,.int (JN .and a b))
 | .or=>some (True,.int (JN .or a b))
 | .xor=>some (True,.int (JN .xor a b))
 | .andNot=>some (True,.int (JN .andNot a b))
 | .shl=>some (0<=b,.int (wr (a*2^min b.toNat 64)))
 | .shr=>some (0<=b,.int (a.fdiv (2^min b.toNat 64)))
 | .eql=>some (True,.bool (a==b))
 | .neq=>some (True,.bool (a != b))
 | .lss=>some (True,.bool (decide (a<b)))
 | .leq=>some (True,.bool (decide (a<=b)))
 | .gtr=>some (True,.bool (decide (b<a)))
 | .geq=>some (True,.bool (decide (b<=a)))
def valI(op:BinOp)(a b:Int):Value:=
 match op with
 | .add=>.int .i64 (wr (a+b))
 | .sub=>.int .i64 (wr (a-b))
 | .mul=>.int .i64 (wr (a*b))
 | .quo=>.int .i64 (wr (a.tdiv b))
 | .rem=>.int .i64 (a.tmod b)
 | .and=>.int .i64 (JN .and a b)
 | .or=>.int .i64 (JN .or a b)
 | .xor=>.int .i64 (JN .xor a b)
 | .andNot=>.int .i64 (JN .andNot a b)
 | .shl=>.int .i64 (wr (a*2^min b.toNat 64))
 | .shr=>.int .i64 (a.fdiv (2^min b.toNat 64))
 | .eql=>.bool (a==b)
 | .neq=>.bool (a != b)
 | .lss=>.bool (decide (a<b))
 | .leq=>.bool (decide (a<=b))
 | .gtr=>.bool (decide (b<a))
 | .geq=>.bool (decide (b<=a))
theorem run_int(P:Program)(w:World)(op:BinOp)(ty:TypeId)(a b:Int){s:Prop}{d:D}(h:GN op a b=some (s,d))(hs:s) :
 (binOp op ty (.int .i64 a) (.int .i64 b)).run P w=.ok (valI op a b) w:=by
 cases op<;>simp only[GN,Option.some.injEq,Prod.mk.injEq] at h<;>obtain⟨rfl,rfl⟩:=h
 case quo=>simp only[binOp,ne_eq,not_true_eq_false,if_false,Op.intDiv,if_neg hs];rfl
 case rem=>simp only[binOp,ne_eq,not_true_eq_false,if_false,Op.intDiv,if_neg hs];rfl
 case shl=>simp only[binOp,Op.shift,if_neg (show ¬ b<0 by omega)];rfl
 case shr=>simp only[binOp,Op.shift,if_neg (show ¬ b<0 by omega)];rfl
 all_goals rfl
def D.cnt:D->Option Int
 | .int n=>some n
 | .u8 x=>some x.toNat
 | .u16 x=>some x.toNat
 | .u32 x=>some x.toNat
 | .u64 x=>some x.toNat
 | _=>none
def GM(op:BinOp)(x:D)(n:Int):Option (Prop×D):=
 match op,x with
 | .shl,.u8 a=>some (0<=n,.u8 (BZ a n.toNat))
 | .shl,.u16 a=>some (0<=n,.u16 (XX a n.toNat))
 | .shl,.u32 a=>some (0<=n,.u32 (c5 a n.toNat))
 | .shl,.u64 a=>some (0<=n,.u64 (H0 a n.toNat))
 | .shl,.int a=>some (0<=n,.int (wr (a*2^min n.toNat 64)))
 | .shr,.u8 a=>some (0<=n,.u8 (T1 a n.toNat))
 | .shr,.u16 a=>some (0<=n,.u16 (XJ a n.toNat))
 | .shr,.u32 a=>some (0<=n,.u32 (u0 a n.toNat))
 | .shr,.u64 a=>some (0<=n,.u64 (o6 a n.toNat))
 | .shr,.int a=>some (0<=n,.int (a.fdiv (2^min n.toNat 64)))
 | _,_=>none
def isShift:BinOp->Bool
 | .shl | .shr=>true
 | _=>false
def IE(op:BinOp)(k k':IntKind)(a b:Int):Option (Prop×D):=
 match op with
 | .eql=>some (k=k',.bool (a==b))
 | .neq=>some (k=k',.bool (a != b))
 | .lss=>some (k=k',.bool (decide (a<b)))
 | .leq=>some (k=k',.bool (decide (a<=b)))
 | .gtr=>some (k=k',.bool (decide (b<a)))
 | .geq=>some (k=k',.bool (decide (b<=a)))
 | .add=>some (k=k',.ik k (k.wrap (a+b)))
 | .sub=>some (k=k',.ik k (k.wrap (a-b)))
 | _=>none
def GP(op:BinOp)(a b:List UInt8):Option (Prop×D):=
 match op with
 | .eql=>some (True,.bool (a==b))
 | .neq=>some (True,.bool (a != b))
 | .add=>some (a.length+b.length<=9223372036854775807,.str (a++b))
 | .lss=>some (True,.bool (Op.bytesLess a b))
 | _=>none
def arith(op:BinOp)(x y:D):Option (Prop×D):=
 if isShift op then(match y.cnt with|some n=>GM op x n|none=>none) else
 match x,y with
 | .int a,.int b=>GN op a b
 | .u8 a,.u8 b=>W7 op a b
 | .u16 a,.u16 b=>I3 op a b
 | .u32 a,.u32 b=>I2 op a b
 | .u64 a,.u64 b=>I1 op a b
 | .ik k a,.ik k' b=>IE op k k' a b
 | .str a,.str b=>GP op a b
 | _,_=>none
def Good(P:Program)(w:World)(op:BinOp)(ty:TypeId)(x y:Value)(d:D):Prop:=
 ∃ v,(binOp op ty x y).run P w=.ok v w/\(∀ ρ G L,Rc w ρ G L true d [v] [])/\d.isAgg=false/\d.isRef=false
section
variable{P:Program}{w:World}{op:BinOp}{d:D}{s:Prop}(ty:TypeId)
theorem good_int{a b:Int}(h:GN op a b=some (s,d))(hs:s):Good P w op ty (.int .i64 a) (.int .i64 b) d:=by
 refine⟨_,run_int P w op ty a b h hs, ?_⟩
 cases op<;>(simp only[GN,Option.some.injEq,Prod.mk.injEq] at h;obtain⟨rfl,rfl⟩:=h;first|exact⟨fun _ _ _=>.int _,rfl,rfl⟩|exact⟨fun _ _ _=>.bool _,rfl,rfl⟩)
theorem good_u8{a b:UInt8}(h:W7 op a b=some (s,d))(hs:s):Good P w op ty (.int .u8 a.toNat) (.int .u8 b.toNat) d:=by
 refine⟨_,run_u8 P w op ty a b h hs, ?_⟩
 cases op<;>(simp only[W7,reduceCtorEq,Option.some.injEq,Prod.mk.injEq] at h)<;>(obtain⟨rfl,rfl⟩:=h;first|exact⟨fun _ _ _=>.u8 _,rfl,rfl⟩|exact⟨fun _ _ _=>.bool _,rfl,rfl⟩)
theorem good_u16{a b:UInt16}(h:I3 op a b=some (s,d))(hs:s):Good P w op ty (.int .u16 a.toNat) (.int .u16 b.toNat) d:=by
 refine⟨_,LN P w op ty a b h hs, ?_⟩
 cases op<;>(simp only[I3,reduceCtorEq,Option.some.injEq,Prod.mk.injEq] at h)<;>(obtain⟨rfl,rfl⟩:=h;first|exact⟨fun _ _ _=>.u16 _,rfl,rfl⟩|exact⟨fun _ _ _=>.bool _,rfl,rfl⟩)
theorem good_u32{a b:UInt32}(h:I2 op a b=some (s,d))(hs:s):Good P w op ty (.int .u32 a.toNat) (.int .u32 b.toNat) d:=by
 refine⟨_,LM P w op ty a b h hs, ?_⟩
 cases op<;>(simp only[I2,reduceCtorEq,Option.some.injEq,Prod.mk.injEq] at h)<;>(obtain⟨rfl,rfl⟩:=h;first|exact⟨fun _ _ _=>.u32 _,rfl,rfl⟩|exact⟨fun _ _ _=>.bool _,rfl,rfl⟩)
theorem good_u64{a b:UInt64}(h:I1 op a b=some (s,d))(hs:s):Good P w op ty (.int .u64 a.toNat) (.int .u64 b.toNat) d:=by
 refine⟨_,LP P w op ty a b h hs, ?_⟩
 cases op<;>(simp only[I1,reduceCtorEq,Option.some.injEq,Prod.mk.injEq] at h)<;>(obtain⟨rfl,rfl⟩:=h;first|exact⟨fun _ _ _=>.u64 _,rfl,rfl⟩|exact⟨fun _ _ _=>.bool _,rfl,rfl⟩)
theorem good_ik{k k':IntKind}{a b:Int}(h:IE op k k' a b=some (s,d))(hs:s):Good P w op ty (.int k a) (.int k' b) d:=by
 cases op<;>(simp only[IE,reduceCtorEq,Option.some.injEq,Prod.mk.injEq] at h) <;>
  (obtain⟨rfl,rfl⟩:=h;subst hs;refine⟨_,(by simp only[binOp,ne_eq,not_true_eq_false,if_false];rfl), ?_⟩;first|exact⟨fun _ _ _=>.bool _,rfl,rfl⟩|exact⟨fun _ _ _=>.ik _ _,rfl,rfl⟩)
theorem good_str{a b:List UInt8}(h:GP op a b=some (s,d))(hs:s):Good P w op ty (.string ⟨a.toArray⟩) (.string ⟨b.toArray⟩) d:=by
 cases op<;>(simp only[GP,reduceCtorEq,Option.some.injEq,Prod.mk.injEq] at h)<;>(obtain⟨rfl,rfl⟩:=h)
 ·refine⟨.string ⟨(a++b).toArray⟩, ?_,fun _ _ _=>.str _,rfl,rfl⟩
  have e:(⟨a.toArray⟩++⟨b.toArray⟩:ByteArray)=⟨(a++b).toArray⟩:=by
   apply ByteArray.ext;simp
  have h1:(ByteArray.mk a.toArray).size=a.length:=by simp[ByteArray.size]
  have h2:(ByteArray.mk b.toArray).size=b.length:=by simp[ByteArray.size]
  have h3:IntKind.i64.max=9223372036854775807:=by decide
  simp only[binOp,Op.stringOp,h1,h2,h3,e];rw[if_neg (by omega)];rfl
 ·refine⟨.bool (a==b), ?_,fun _ _ _=>.bool _,rfl,rfl⟩;simp only[binOp,Op.stringOp,ByteArray.toList_mk];rfl
 ·refine⟨.bool (a != b), ?_,fun _ _ _=>.bool _,rfl,rfl⟩;simp only[binOp,Op.stringOp,ByteArray.toList_mk];rfl
 ·refine⟨.bool (Op.bytesLess a b), ?_,fun _ _ _=>.bool _,rfl,rfl⟩;simp only[binOp,Op.stringOp,ByteArray.toList_mk];rfl
theorem BS{a:Int}{k:IntKind}{n:Int}(hn:0<=n):Good P w .shl ty (.int .i64 a) (.int k n) (.int (wr (a*2^min n.toNat 64))):=by
 refine⟨_, ?_,fun _ _ _=>.int _,rfl,rfl⟩;simp only[binOp,Op.shift,if_neg (show ¬ n<0 by omega)];rfl
theorem BL{a:Int}{k:IntKind}{n:Int}(hn:0<=n):Good P w .shr ty (.int .i64 a) (.int k n) (.int (a.fdiv (2^min n.toNat 64))):=by
 refine⟨_, ?_,fun _ _ _=>.int _,rfl,rfl⟩;simp only[binOp,Op.shift,if_neg (show ¬ n<0 by omega)];rfl
theorem FP{x:D}{v:Value}{k:IntKind}{n:Int}{ρ:Nat->Nat}{G L:Nat->Prop}{p:Bool}{F:List Nat}(h:GM op x n=some (s,d))(hs:s)(hx:Rc w ρ G L p x [v] F) :
 Good P w op ty v (.int k n) d:=by
 unfold GM at h;split at h
 case h_11=>cases h
 all_goals
  simp only[Option.some.injEq,Prod.mk.injEq] at h;obtain⟨rfl,rfl⟩:=h;cases hx
 ·exact⟨_,EM P w ty _ k n hs,fun _ _ _=>.u8 _,rfl,rfl⟩
 ·exact⟨_,NZ P w ty _ k n hs,fun _ _ _=>.u16 _,rfl,rfl⟩
 ·exact⟨_,NQ P w ty _ k n hs,fun _ _ _=>.u32 _,rfl,rfl⟩
 ·exact⟨_,MW P w ty _ k n hs,fun _ _ _=>.u64 _,rfl,rfl⟩
 ·exact BS ty hs
 ·exact⟨_,EP P w ty _ k n hs,fun _ _ _=>.u8 _,rfl,rfl⟩
 ·exact⟨_,MV P w ty _ k n hs,fun _ _ _=>.u16 _,rfl,rfl⟩
 ·exact⟨_,MT P w ty _ k n hs,fun _ _ _=>.u32 _,rfl,rfl⟩
 ·exact⟨_,MS P w ty _ k n hs,fun _ _ _=>.u64 _,rfl,rfl⟩
 ·exact BL ty hs
end
theorem GC(P:Program)(w:World)(op:BinOp)(t:TypeId)(x y:Operand)(a b:Value)(ha:∀ cs,a≠.agg cs)(hn:a≠.nilIface) :
 (eqGuard op t x y a b).run P w=.ok () w:=by
 cases op<;>(try rfl)<;>cases a<;>first|(exact absurd rfl (ha _))|(exact absurd rfl hn)|rfl
theorem SZ{w:World}{ρ:Nat->Nat}{G L:Nat->Prop}{p:Bool}{d:D}{n:Int}{v:Value}{F:List Nat}(h:d.cnt=some n)(hr:Rc w ρ G L p d [v] F):∃ k,v=.int k n:=by
 cases d<;>(simp only[D.cnt,reduceCtorEq,Option.some.injEq] at h)<;>(subst h;cases hr;exact⟨_,rfl⟩)
theorem WB{P:Program}{w:World}{ρ:Nat->Nat}{G L:Nat->Prop}{op:BinOp}{dx dy d:D}{s:Prop}(ty:TypeId)(h:arith op dx dy=some (s,d))(hs:s){x y:Value}{Fx Fy:List Nat}
 (hx:Rc w ρ G L true dx [x] Fx) (hy:Rc w ρ G L true dy [y] Fy):Good P w op ty x y d:=by
 unfold arith at h;split at h
 ·cases hc:dy.cnt with
  | none=>simp[hc] at h
  | some n=>
   simp only[hc] at h;obtain⟨k,rfl⟩:=SZ hc hy;exact FP ty h hs hx
 ·split at h
  ·cases hx;cases hy;exact good_int ty h hs
  ·cases hx;cases hy;exact good_u8 ty h hs
  ·cases hx;cases hy;exact good_u16 ty h hs
  ·cases hx;cases hy;exact good_u32 ty h hs
  ·cases hx;cases hy;exact good_u64 ty h hs
  ·cases hx;cases hy;exact good_ik ty h hs
  ·cases hx;cases hy;exact good_str ty h hs
  ·cases h
theorem AO{w:World}{ρ:Nat->Nat}{G L:Nat->Prop}{op:BinOp}{dx dy d:D}{s:Prop}(h:arith op dx dy=some (s,d)){x:Value}{Fx:List Nat}
 (hx:Rc w ρ G L true dx [x] Fx):(∀ cs,x≠.agg cs)/\x≠.nilIface/\dx.isAgg=false/\dx.isRef=false/\dy.isAgg=false/\dy.isRef=false:=by
 unfold arith at h;split at h
 ·cases hc:dy.cnt with
  | none=>simp[hc] at h
  | some n=>
   simp only[hc] at h
   have hy:dy.isAgg=false/\dy.isRef=false:=by cases dy<;>simp_all [D.cnt,D.isAgg,D.isRef]
   unfold GM at h;split at h
   case h_11=>cases h
   all_goals cases hx;exact⟨by simp,by simp,rfl,rfl,hy⟩
 ·split at h
  case h_8=>cases h
  all_goals cases hx;exact⟨by simp,by simp,rfl,rfl,rfl,rfl⟩
def ofV(v:Value):Option D:=
 match v with
 | .bool b=>some (.bool b)
 | .int .i64 n=>some (.int n)
 | .int .u8 n=>if 0<=n/\n<256 then some (.u8 (.ofNat n.toNat)) else none
 | .int .u16 n=>if 0<=n/\n<65536 then some (.u16 (.ofNat n.toNat)) else none
 | .int .u32 n=>if 0<=n/\n<4294967296 then some (.u32 (.ofNat n.toNat)) else none
 | .int .u64 n=>if 0<=n/\n<18446744073709551616 then some (.u64 (.ofNat n.toNat)) else none
 | .int k n=>some (.ik k n)
 | .string s=>some (.str s.data.toList)
 | .slice none 0 0=>some .nils
 | .pointer none=>some .nilp
 | .map none=>some .nilmap
 | .nilFunc=>some .nilf
 | .nilIface=>some .nili
 | _=>none
theorem ofV_ok{v:Value}{d:D}(h:ofV v=some d)(w:World)(ρ:Nat->Nat)(G L:Nat->Prop):Rc w ρ G L true d [v] []/\d.isAgg=false/\d.isRef=false:=by
 unfold ofV at h;split at h
 ·cases h;exact⟨.bool _,rfl,rfl⟩
 ·cases h;exact⟨.int _,rfl,rfl⟩
 ·rename_i n;split at h
  ·rename_i hn;cases h
   have e:((UInt8.ofNat n.toNat).toNat:Int)=n:=by rw[UInt8.toNat_ofNat'];omega
   have:=Rc.u8 (w:=w) (ρ:=ρ) (G:=G) (L:=L) (p:=true) (UInt8.ofNat n.toNat);rw[e] at this;exact⟨this,rfl,rfl⟩
  ·cases h
 ·rename_i n;split at h
  ·rename_i hn;cases h
   have e:((UInt16.ofNat n.toNat).toNat:Int)=n:=by rw[UInt16.toNat_ofNat'];omega
   have:=Rc.u16 (w:=w) (ρ:=ρ) (G:=G) (L:=L) (p:=true) (UInt16.ofNat n.toNat);rw[e] at this;exact⟨this,rfl,rfl⟩
  ·cases h
 ·rename_i n;split at h
  ·rename_i hn;cases h
   have e:((UInt32.ofNat n.toNat).toNat:Int)=n:=by rw[UInt32.toNat_ofNat'];omega
   have:=Rc.u32 (w:=w) (ρ:=ρ) (G:=G) (L:=L) (p:=true) (UInt32.ofNat n.toNat);rw[e] at this;exact⟨this,rfl,rfl⟩
  ·cases h
 ·rename_i n;split at h
  ·rename_i hn;cases h
   have e:((UInt64.ofNat n.toNat).toNat:Int)=n:=by rw[UInt64.toNat_ofNat'];omega
   have:=Rc.u64 (w:=w) (ρ:=ρ) (G:=G) (L:=L) (p:=true) (UInt64.ofNat n.toNat);rw[e] at this;exact⟨this,rfl,rfl⟩
  ·cases h
 ·cases h;exact⟨.ik _ _,rfl,rfl⟩
 ·rename_i s;cases h
  have e:(⟨s.data.toList.toArray⟩:ByteArray)=s:=by cases s;simp
  have:=Rc.str (w:=w) (ρ:=ρ) (G:=G) (L:=L) (p:=true) s.data.toList;rw[e] at this;exact⟨this,rfl,rfl⟩
 ·cases h;exact⟨.nils,rfl,rfl⟩
 ·cases h;exact⟨.nilp,rfl,rfl⟩
 ·cases h;exact⟨.nilmap,rfl,rfl⟩
 ·cases h;exact⟨.nilf,rfl,rfl⟩
 ·cases h;exact⟨.nili,rfl,rfl⟩
 ·cases h
def ev(gl:List (Nat×D))(σ:Sg)(x:Operand):Option D:=
 match x with
 | .tmp s=>σ.get s
 | .const v=>ofV v
 | .global g=>(lk gl g).map .rp
 | .func f=>some (.fn f [])
mutual
def D.pur:D->Bool
 | .sl o _ _=>o.isNone
 | .agg l=>D.purs l
 | .tup _=>false
 | .al _=>false
 | .alb _ _ _=>false
 | .vw _ _ _ _=>false
 | .va _ _ _ _ _ _=>false
 | .ep _ _ _ _ _=>false
 | .dead=>false
 | _=>true
def D.purs:List D->Bool
 | []=>true
 | d::r=>D.pur d&&D.purs r
end
theorem US(l:List D)(h:D.purs l=true):∀ k (hk:k<l.length),l[k].pur=true:=by
 induction l with
 | nil=>intro k hk;simp at hk
 | cons d r ih=>
  simp only[D.purs,Bool.and_eq_true] at h;intro k hk
  cases k with
  | zero=>exact h.1
  | succ k=>simpa using ih h.2 k (by simpa using hk)
theorem Rc.pur{w:World}{ρ:Nat->Nat}{G L:Nat->Prop}{p:Bool}{d:D}{cs:List Value}{F:List Nat}(h:Rc w ρ G L p d cs F)(hd:d.pur=true):F=[]:=by
 induction h with
 | slO b cs e cap z l Fs hb hc hm hs ho1 hr ih=>simp[D.pur] at hd
 | agg l cs Fs hs hr ih=>
  simp only[D.pur] at hd;rw[List.flatMap_eq_nil_iff];intro k hk;exact ih k (List.mem_range.1 hk) (US l hd k (List.mem_range.1 hk))
 | _=>rfl
theorem c6{d:D}(h:d.pur=true):d.isRef=false:=by cases d<;>simp_all [D.pur,D.isRef]
theorem VR.pur{w:World}{ρ:Nat->Nat}{G L:Nat->Prop}{d:D}{v:Value}{F:List Nat}(h:VR w ρ G L d v F)(hd:d.pur=true):F=[]:=by
 unfold VR at h;split at h
 ·obtain⟨cs,_,h⟩:=h;exact h.pur hd
 ·exact h.pur hd
variable{P:Program}{C:Ctx}{σ σ':Sg}{a:Act}{w:World}{ρ:Nat->Nat}{Fe Fb:Nat->List Nat}
theorem DE{α:Type}{l:List (Nat×α)}{g:Nat}{d:α}(h:lk l g=some d):(g,d)∈l:=by
 induction l with
 | nil=>cases h
 | cons x r ih=>
  obtain⟨k,y⟩:=x;rw[v4] at h;split at h
  ·rename_i hk;cases h;subst hk;simp
  ·exact List.mem_cons_of_mem _ (ih h)
theorem c3(hs:StW C σ a w ρ Fe Fb){x:Operand}{d:D}(h:ev C.gl σ x=some d)(hr:d.isRef=false) :
 ∃ F,VR w ρ (gd C Fe Fb) (fun id=>(σ.box id).isSome) d (a.eval x) F/\(∀ b∈F,own Fe Fb b):=by
 cases x with
 | tmp s=>
  obtain⟨v,hv,hvr⟩:=(j2 hr).1 (hs.env s d h);refine⟨Fe s, ?_,fun b hb=>.inl ⟨s,hb⟩⟩
  have:a.eval (.tmp s)=v:=by simp[Act.eval,hv]
  rw[this];exact hvr
 | const v=>
  obtain⟨h1,h2,h3⟩:=ofV_ok h w ρ (gd C Fe Fb) (fun id=>(σ.box id).isSome);refine⟨[], ?_,by simp⟩;simp only[VR,h2,Act.eval];exact h1
 | global g=>
  simp only[ev,Option.map_eq_some_iff] at h;obtain⟨d0,hd0,rfl⟩:=h;obtain⟨hk,hok,cs,e,fz,hb,hrc⟩:=hs.gl g d0 (DE hd0);refine⟨[], ?_,by simp⟩;simp only[VR,D.isAgg,Act.eval];have hlen:=hrc.len;refine .rp d0 g 0 cs e fz ((hs.kept g hk).1.trans hb) ⟨hok,fun ho=>hs.new g ho hk⟩ (by simp[<- hlen]) ?_
  have hcs:(cs.toList.drop 0).take d0.sz=cs.toList:=by rw[<- hlen,List.drop_zero];exact List.take_length
  rw[hcs];refine hrc.mono (fun b hb' hlt=>?_) (fun b hb' _=>hb'.elim) (fun id hid=>hid.elim)
  rcases hb' with hb'|hb'
  ·exact hb'.elim
  ·cases hb'
 | func f=>
  cases h;refine⟨[], ?_,by simp⟩;simp only[VR,D.isAgg,Act.eval];exact .fn f [] [] rfl (by simp) (by simp)
theorem OpS.value{o:Oper}(h:∀ a w,St C σ a w->∃ v w',(execOp a.eval o).run P w=.ok (.value v) w'/\St C σ' (a.put o.dst v) w'):OpS P C o σ σ':=by
 intro a w hs K Q hK;obtain⟨v,w',hr,hs'⟩:=h a w hs;exact Z7 hr (by simp) (hK _ _ hs')
theorem R.bin{op:BinOp}{xt yt ty:TypeId}{x y:Operand}{t:Nat}{dx dy d:D}{s:Prop}
 (hx:ev C.gl σ x=some dx) (hy:ev C.gl σ y=some dy) (ha:arith op dx dy=some (s,d)) (hs:s) (ht:t<σ.n) :
 OpS P C ⟨some t,.binOp op xt x y yt,ty,pos,aft,g⟩ σ (σ.set t d):=by
 refine OpS.value fun a w ⟨ρ,Fe,Fb,st⟩=>?_
 have hdx:dx.isAgg=false/\dx.isRef=false/\dy.isAgg=false/\dy.isRef=false:=by
  unfold arith at ha;split at ha
  ·cases hc:dy.cnt with
   | none=>simp[hc] at ha
   | some n=>
    simp only[hc] at ha
    have hy:dy.isAgg=false/\dy.isRef=false:=by cases dy<;>simp_all [D.cnt,D.isAgg,D.isRef]
    unfold GM at ha;split at ha
    case h_11=>cases ha
    all_goals exact⟨rfl,rfl,hy⟩
  ·split at ha
   case h_8=>cases ha
   all_goals exact⟨rfl,rfl,rfl,rfl⟩
 obtain⟨Fx,vx,_⟩:=c3 st hx hdx.2.1;obtain⟨Fy,vy,_⟩:=c3 st hy hdx.2.2.2;simp only[VR,hdx.1,hdx.2.2.1,Bool.false_eq_true,if_false] at vx vy;obtain⟨v,hv,hrc,h1,h2⟩:=WB (P:=P) xt ha hs vx vy;obtain⟨p1,p2,_⟩:=AO ha vx;refine⟨v,w, ?_,st.setV ht (Ext.refl w) h2 ?_⟩
 ·unfold execOp;simp only[Sem.run_bind,GC P w op xt x y _ _ p1 p2,Result.andThen_ok,hv,Sem.run_pure]
 ·simp only[VR,h1,Bool.false_eq_true,if_false];exact hrc _ _ _
theorem QC(ro:Option Nat)(ρ:Operand->Value)(x:Operand)(t:Option Nat)(ty:TypeId)(pos:String)(aft:Array Edge)(g:Option (Nat×Bool)) :
 (Oper.semAt ro ρ ⟨t,.move x,ty,pos,aft,g⟩=pure (.value (ρ x)))/\(Oper.semAt ro ρ ⟨t,.assign x,ty,pos,aft,g⟩=pure (.value (ρ x))):=by
 cases ro<;>exact⟨rfl,rfl⟩
theorem GT{x:Operand}{t:Option Nat}{ty:TypeId}(h:OpS P C ⟨t,.move x,ty,pos,aft,g⟩ σ σ'):OpS P C ⟨t,.assign x,ty,pos,aft,g⟩ σ σ':=by
 intro a w hs K Q hK;have h2:=(h a w hs K Q hK).2;rw[(QC _ _ x t ty pos aft g).1] at h2;refine⟨fun _ _=>trivial, ?_⟩;rw[(QC _ _ x t ty pos aft g).2];exact h2
theorem GS{x:Operand}{t:Option Nat}{ty:TypeId}(h:OpS P C ⟨t,.assign x,ty,pos,aft,g⟩ σ σ'):OpS P C ⟨t,.move x,ty,pos,aft,g⟩ σ σ':=by
 intro a w hs K Q hK;have h2:=(h a w hs K Q hK).2;rw[(QC _ _ x t ty pos aft g).2] at h2;refine⟨fun _ _=>trivial, ?_⟩;rw[(QC _ _ x t ty pos aft g).1];exact h2
theorem R.mov{x:Operand}{t:Nat}{ty:TypeId}{d:D}
 (hx:ev C.gl σ x=some d) (hp:d.pur=true) (ht:t<σ.n):OpS P C ⟨some t,.move x,ty,pos,aft,g⟩ σ (σ.set t d):=by
 refine OpS.value fun a w ⟨ρ,Fe,Fb,st⟩=>?_;obtain⟨F,hv,_⟩:=c3 st hx (c6 hp);have hF:=hv.pur hp;subst hF;refine⟨a.eval x,w,rfl,st.setV ht (Ext.refl w) (c6 hp) (hv.mono (fun _ _ _=>rfl) (fun b hb _=>⟨hb.1,fun ho=>hb.2 ?_⟩) (fun id hid=>⟨hid,rfl⟩))⟩
 rcases ho with ⟨u,hu⟩|ho
 ·by_cases hut:u=t
  ·subst hut;simp at hu
  ·rw[q8 hut] at hu;exact .inl ⟨u,hu⟩
 ·exact .inr ho
theorem v3{x:Operand}{t:Nat}{ty:TypeId}{d:D}
 (hx:ev C.gl σ x=some d) (hp:d.pur=true) (ht:t<σ.n):OpS P C ⟨some t,.assign x,ty,pos,aft,g⟩ σ (σ.set t d):=
 GT (R.mov (P:=P) (ty:=ty) (pos:=pos) (aft:=aft) (g:=g) hx hp ht)
end Go.Sx

namespace Go.Sx
def D.loc:D->List Nat->Option (Nat×D)
 | d,[]=>some (0,d)
 | .agg l,k::p=>match l[k]? with
  | some d=>match D.loc d p with
   | some (o,d')=>some (offk l k+o,d')
   | none=>none
  | none=>none
 | .arr _ z l,k::p=>match l[k]? with
  | some d=>match D.loc d p with
   | some (o,d')=>some (k*z+o,d')
   | none=>none
  | none=>none
 | _,_::_=>none
theorem L5(cs:List Value)(a n b m:Nat)(h:b+m<=n):((((cs.drop a).take n).drop b).take m)=(cs.drop (a+b)).take m:=by
 rw[List.drop_take,List.take_take,List.drop_drop,Nat.min_eq_left (by omega)]
theorem K2(l:List D)(k:Nat)(h:k<l.length):offk l k+l[k].sz<=D.szs l:=by
 unfold offk
 induction l generalizing k with
 | nil=>simp at h
 | cons d r ih=>
  cases k with
  | zero=>simp
  | succ k=>
   have:=ih k (by simpa using h);simp only[List.take_succ_cons,K5,List.getElem_cons_succ];omega
theorem Rc.loc{w:World}{ρ:Nat->Nat}{G L:Nat->Prop}{p:Bool}{d d':D}{cs:List Value}{F:List Nat}(h:Rc w ρ G L p d cs F){path:List Nat}{off:Nat}
 (hl:d.loc path=some (off,d')):∃ F',Rc w ρ G L true d' ((cs.drop off).take d'.sz) F'/\(∀ b∈F',b∈F)/\off+d'.sz<=cs.length:=by
 induction path generalizing d cs F p off d' with
 | nil=>
  simp only[D.loc,Option.some.injEq,Prod.mk.injEq] at hl;obtain⟨rfl,rfl⟩:=hl;refine⟨F, ?_,fun _ h=>h,by simp[h.len]⟩
  have:(cs.drop 0).take d.sz=cs:=by rw[List.drop_zero,<- h.len];exact List.take_length
  rw[this]
  cases p with
  | true=>exact h
  | false=>exact h.flag
 | cons k path ih=>
  cases h with
  | agg l cs Fs hs hr=>
   simp only[D.loc] at hl
   cases hk:l[k]? with
   | none=>simp[hk] at hl
   | some d1=>
    obtain⟨hklt,rfl⟩:=List.getElem?_eq_some_iff.1 hk;simp only[hk] at hl
    cases hd:D.loc l[k] path with
    | none=>simp[hd] at hl
    | some od=>
     obtain⟨o,d2⟩:=od;simp only[hd,Option.some.injEq,Prod.mk.injEq] at hl;obtain⟨rfl,rfl⟩:=hl;obtain⟨F',h1,h2,h3⟩:=ih (hr k hklt) hd;have hlt:=K2 l k hklt;have hlen:((cs.drop (offk l k)).take l[k].sz).length=l[k].sz:=(hr k hklt).len;refine⟨F', ?_,fun b hb=>List.mem_flatMap.2 ⟨k,List.mem_range.2 hklt,h2 b hb⟩,by omega⟩;rw[L5 _ _ _ _ _ (by omega)] at h1;exact h1
  | arr n z l cs hn hs hr=>
   simp only[D.loc] at hl
   cases hk:l[k]? with
   | none=>simp[hk] at hl
   | some d1=>
    obtain⟨hklt,rfl⟩:=List.getElem?_eq_some_iff.1 hk;simp only[hk] at hl
    cases hd:D.loc l[k] path with
    | none=>simp[hd] at hl
    | some od=>
     obtain⟨o,d2⟩:=od;simp only[hd,Option.some.injEq,Prod.mk.injEq] at hl;obtain⟨rfl,rfl⟩:=hl;obtain⟨F',h1,h2,h3⟩:=ih (hr k hklt) hd
     have hlen:((cs.drop (k*z)).take z).length<=z:=by simp;omega
     have hkz:k*z+z<=n*z:=by
      have:=Nat.mul_le_mul_right z (show k+1<=n by omega);rw[Nat.add_mul] at this;omega
     refine⟨F', ?_,fun b hb=>absurd (h2 b hb) (by simp),by omega⟩;rw[L5 _ _ _ _ _ (by omega)] at h1;exact h1
  | _=>simp[D.loc] at hl
theorem J6(b o n:Nat):(⟨b,o,none⟩:Addr).add n=⟨b,o+n,none⟩:=by
 unfold Addr.add;split<;>simp_all
def SlR(w:World)(ρ:Nat->Nat)(G L:Nat->Prop)(base:Option Addr)(len cap z:Nat)(l:List D):Prop:=
 len=l.length/\((len=0/\cap=0)∨∃ b o cs e fz,base=some ⟨b,o,none⟩/\w.heap[b]? = some (.cells cs e fz)/\len<=cap/\o+len*z<=cs.size /\
  ∀ i (h:i<l.length),∃ F,Rc w ρ G L false l[i] ((cs.toList.drop (o+i*z)).take z) F)
inductive SC(σ:Sg):Nat->Nat->List D->Prop
 | sl {t z:Nat} {o:Option Nat} {l:List D} (h:σ.get t=some (.sl o z l)):SC σ t z l
 | nil {t z:Nat} (h:σ.get t=some .nils):SC σ t z []
 | al {t s z:Nat} {o:Option Nat} {l:List D} (h:σ.get t=some (.al s)) (h':σ.get s=some (.sl o z l)):SC σ t z l
 | alnil {t s z:Nat} (h:σ.get t=some (.al s)) (h':σ.get s=some .nils):SC σ t z []
 | alb {t id off z:Nat} {path:List Nat} {d:D} {o:Option Nat} {l:List D} (h:σ.get t=some (.alb id off path)) (h':σ.box id=some (.var d)) (hl:d.loc path=some (off,.sl o z l)):SC σ t z l
 | albnil {t id off z:Nat} {path:List Nat} {d:D} (h:σ.get t=some (.alb id off path)) (h':σ.box id=some (.var d)) (hl:d.loc path=some (off,.nils)):SC σ t z []
 | vw {t s z lo n:Nat} {l:List D} (h:σ.get t=some (.vw s z lo n)) (h':SC σ s z l) (hn:lo+n<=l.length):SC σ t z ((l.drop lo).take n)
 | va {t id off z n lo m:Nat} {path:List Nat} {d:D} {l:List D} (h:σ.get t=some (.va id off z n path lo)) (h':σ.box id=some (.var d)) (hl:d.loc path=some (off,.arr m z l)) (hn:lo+n<=m) :
  SC σ t z ((l.drop lo).take n)
variable{P:Program}{C:Ctx}{σ σ':Sg}{a:Act}{w w':World}{ρ:Nat->Nat}{Fe Fb:Nat->List Nat}
theorem JU{G L:Nat->Prop}{p:Bool}{o:Option Nat}{z:Nat}{l:List D}{v:Value}{F:List Nat}(h:Rc w ρ G L p (.sl o z l) [v] F) :
 ∃ base len cap,v=.slice base len cap/\SlR w ρ G L base len cap z l:=by
 cases h with
 | slN=>exact⟨none,0,0,rfl,rfl,.inl ⟨rfl,rfl⟩⟩
 | slE _ _ a=>exact⟨some a,0,0,rfl,rfl,.inl ⟨rfl,rfl⟩⟩
 | slI b off cs e fz cap _ _ hb hG hc hs hr=>exact⟨_,_,_,rfl,rfl,.inr ⟨b,off,cs,e,fz,rfl,hb,hc,hs,fun i hi=>⟨[],hr i hi⟩⟩⟩
 | slO b cs e cap _ _ Fs hb hc hm hs ho1 hr=>
  refine⟨_,_,_,rfl,rfl,.inr ⟨b,0,cs,_,_,rfl,hb,hc, ?_,fun i hi=>⟨Fs i,by simpa using hr i hi⟩⟩⟩;have:=Nat.mul_le_mul_right z hc;omega
theorem Rc.nil_val{G L:Nat->Prop}{p:Bool}{v:Value}{F:List Nat}(h:Rc w ρ G L p .nils [v] F):v=.slice none 0 0:=by
 generalize he:[v]=cs at h;cases h;simpa using he
theorem JO(hs:StW C σ a w ρ Fe Fb){t z:Nat}{l:List D}(h:SC σ t z l) :
 ∃ base len cap,a.tmps[t]? = some (.slice base len cap)/\SlR w ρ (gd C Fe Fb) (fun id=>(σ.box id).isSome) base len cap z l:=by
 induction h with
 | sl h=>
  obtain⟨v,hv,hr⟩:=(j2 rfl).1 (hs.env _ _ h);simp only[VR,D.isAgg,Bool.false_eq_true,if_false] at hr;obtain⟨base,len,cap,rfl,hl⟩:=JU hr;exact⟨base,len,cap,hv,hl⟩
 | nil h=>
  obtain⟨v,hv,hr⟩:=(j2 rfl).1 (hs.env _ _ h);simp only[VR,D.isAgg,Bool.false_eq_true,if_false] at hr;generalize Fe _=F at hr;cases hr;exact⟨none,0,0,hv,rfl,.inl ⟨rfl,rfl⟩⟩
 | al h h'=>
  obtain⟨_,x,hx,hs'⟩:=hs.env _ _ h;obtain⟨v,hv,hr⟩:=(j2 rfl).1 (hs.env _ _ h');simp only[VR,D.isAgg,Bool.false_eq_true,if_false] at hr;obtain⟨base,len,cap,rfl,hl⟩:=JU hr;rw[hv] at hs';cases hs';exact⟨base,len,cap,hx,hl⟩
 | alnil h h'=>
  obtain⟨_,x,hx,hs'⟩:=hs.env _ _ h;obtain⟨v,hv,hr⟩:=(j2 rfl).1 (hs.env _ _ h');simp only[VR,D.isAgg,Bool.false_eq_true,if_false] at hr;generalize Fe _=F at hr;cases hr;rw[hv] at hs';cases hs';exact⟨none,0,0,hx,rfl,.inl ⟨rfl,rfl⟩⟩
 | alb h h' hl=>
  obtain⟨_,hid,x,hx,hc⟩:=hs.env _ _ h;obtain⟨cs,e,F',hb,hr,_⟩:=hs.bx _ _ h';obtain⟨F2,h1,h2,h3⟩:=hr.loc hl;rw[cell_of_row w _ _ cs e (0,0) hb] at hc;obtain⟨hlt,rfl⟩:=Array.getElem?_eq_some_iff.1 hc;simp only[D.sz] at h1;rw[List.drop_eq_getElem_cons (by simpa using hlt),List.take_succ_cons,List.take_zero,Array.getElem_toList] at h1;obtain⟨base,len,cap,he,hl⟩:=JU h1;rw[he] at hx;exact⟨base,len,cap,hx,hl⟩
 | albnil h h' hl=>
  obtain⟨_,hid,x,hx,hc⟩:=hs.env _ _ h;obtain⟨cs,e,F',hb,hr,_⟩:=hs.bx _ _ h';obtain⟨F2,h1,h2,h3⟩:=hr.loc hl;rw[cell_of_row w _ _ cs e (0,0) hb] at hc;obtain⟨hlt,rfl⟩:=Array.getElem?_eq_some_iff.1 hc;simp only[D.sz] at h1;rw[List.drop_eq_getElem_cons (by simpa using hlt),List.take_succ_cons,List.take_zero,Array.getElem_toList] at h1;rw[h1.nil_val] at hx;exact⟨none,0,0,hx,rfl,.inl ⟨rfl,rfl⟩⟩
 | @vw t s z lo n l h h' hn ih=>
  obtain⟨base,len,cap,hs1,hl,hd⟩:=ih;obtain⟨_,v0,v1,h1,h2,b0,len',cap',b1,cap2,rfl,rfl,h3,h4,h45,h5⟩:=hs.env _ _ h;rw[hs1] at h1;simp only[Option.some.injEq,Value.slice.injEq] at h1;obtain⟨rfl,rfl,rfl⟩:=h1;refine⟨_,_,_,h2,by simp;omega, ?_⟩
  rcases h5 with ⟨b,o,o',rfl,rfl,h5⟩|⟨rfl,rfl⟩
  ·rcases hd with ⟨h6,h7⟩|⟨b',o2,cs,e,fz,hb,hh,h6,h7,h8⟩
   ·exact .inl ⟨by omega,by omega⟩
   ·cases hb
    have hoff:o'+n*z<=cs.size:=by
     rcases h5 with rfl|⟨rfl,rfl⟩
     ·have:(lo+n)*z<=len*z:=Nat.mul_le_mul_right z (by omega);rw[Nat.add_mul] at this;omega
     ·omega
    refine .inr ⟨b,o',cs,e,fz,rfl,hh,h3,hoff,fun i hi=>?_⟩;simp only[List.length_take,List.length_drop] at hi
    rcases h5 with rfl|⟨rfl,rfl⟩
    ·obtain⟨F,hF⟩:=h8 (lo+i) (by omega);refine⟨F, ?_⟩;simp only[List.getElem_take,List.getElem_drop];rw[Nat.add_mul,<- Nat.add_assoc] at hF;exact hF
    ·omega
  ·refine .inl ⟨by omega,rfl⟩
 | @va t id off z n lo m path d l h h' hl hn=>
  obtain⟨_,hid,cap,o',h1,h0,h2⟩:=hs.env _ _ h;obtain⟨cs,e,F',hb,hr,_⟩:=hs.bx _ _ h';obtain⟨F2,h3,h4,h5⟩:=hr.loc hl
  cases h3 with
  | arr _ _ _ _ hlm hsz hrr=>
   simp only[UN] at h5 hsz
   have hoff:o'+n*z<=cs.size:=by
    rcases h0 with rfl|⟨rfl,rfl⟩
    ·have:(lo+n)*z<=m*z:=Nat.mul_le_mul_right z (by omega);rw[Nat.add_mul] at this;simp only[Array.length_toList] at h5;omega
    ·simp only[Array.length_toList] at h5;omega
   refine⟨_,_,_,h2,by simp;omega,.inr ⟨ρ id,o',cs,e,_,rfl,hb,h1,hoff,fun i hi=>?_⟩⟩;simp only[List.length_take,List.length_drop] at hi;refine⟨[], ?_⟩
   rcases h0 with rfl|⟨rfl,rfl⟩
   ·simp only[List.getElem_take,List.getElem_drop];have:=hrr (lo+i) (by omega);rw[UN,L5 _ _ _ _ _ ?_] at this
    ·rw[Nat.add_mul,<- Nat.add_assoc] at this;exact this
    ·have:(lo+i+1)*z<=m*z:=Nat.mul_le_mul_right z (by omega);rw[Nat.add_mul] at this;omega
   ·omega
end Go.Sx

namespace Go.Sx
variable{pos:String}{aft:Array Edge}{g:Option (Nat×Bool)}
def isAggB:TypeDesc->Bool
 | .struct _ | .array _ _=>true
 | _=>false
class SlT(P:Program)(t:TypeId)(e:outParam TypeId):Prop where
 u:P.underlying t=some (.slice e)
class ElT(P:Program)(e:TypeId)(z bytes:outParam Nat):Prop where
 i:∃ i zv,P.info? e=some i/\i.size=z/\i.bytes=bytes/\i.zero=some zv/\zv.cells.size=z/\0<z/\zv.cells.toList.all Value.oneCell'=true
class LdT(P:Program)(t:TypeId)(n:outParam Nat)(g:outParam Bool):Prop where
 i:∃ d i,P.underlying t=some d/\isAggB d=g/\P.info? t=some i/\i.size=n
class FdT(P:Program)(s f:Nat)(off:outParam Nat):Prop where
 i:∃ fs fld i,P.underlying s=some (.struct fs)/\fs[f]? = some fld/\fld.offset=off/\P.info? fld.type=some i/\i.size≠0
class ArT(P:Program)(t:TypeId)(n e:outParam Nat):Prop where
 u:P.underlying t=some (.array n e)
variable{P:Program}{C:Ctx}{σ σ':Sg}{a:Act}{w w':World}{ρ:Nat->Nat}{Fe Fb:Nat->List Nat}
theorem ElT.size{e z b:Nat}[h:ElT P e z b](w:World):(sizeOf e).run P w=.ok z w:=by
 obtain⟨i,zv,hi,rfl,_⟩:=h.i;simp[sizeOf,typeInfo,hi]
theorem LdT.size{t n:Nat}{g:Bool}[h:LdT P t n g](w:World):(sizeOf t).run P w=.ok n w:=by
 obtain⟨d,i,_,_,hi,rfl⟩:=h.i;simp[sizeOf,typeInfo,hi]
theorem LdT.agg{t n:Nat}{g:Bool}[h:LdT P t n g](w:World):(isAgg t).run P w=.ok g w:=by
 obtain⟨d,i,hd,hg,_,_⟩:=h.i;unfold isAgg;rw[Sem.run_bind,run_underlying hd w];subst hg
 cases d<;>rfl
theorem U1{G L:Nat->Prop}{p:Bool}{d:D}{F:List Nat}{ty n:Nat}{g:Bool}[LdT P ty n g]{b off:Nat}{cs:Array Value}{e:Nat}{fz:Nat×Nat}
 (hb:w.heap[b]? = some (.cells cs e fz)) (hr:Rc w ρ G L p d ((cs.toList.drop off).take d.sz) F) (hs:off+d.sz<=cs.size) (hn:d.sz=n) (hg:d.isAgg=g) :
 ∃ v,(loadVar ty ⟨b,off,none⟩).run P w=.ok v w/\VR w ρ G L d v F:=by
 have hr':Rc w ρ G L true d ((cs.toList.drop off).take d.sz) F:=by
  cases p with
  | true=>exact hr
  | false=>exact hr.flag
 have hl:((cs.toList.drop off).take d.sz).length=n:=by rw[hr.len,hn]
 have hcell:∀ j v,((cs.toList.drop off).take d.sz)[j]? = some v->w.cell? ((⟨b,off,none⟩:Addr).add j)=some v:=by
  intro j v hv;rw[J6,cell_of_row w b _ cs e fz hb];rw[List.getElem?_take] at hv;split at hv
  ·rw[List.getElem?_drop] at hv;simpa using hv
  ·cases hv
 cases g with
 | true=>
  refine⟨.agg ((cs.toList.drop off).take d.sz).toArray, ?_, ?_⟩
  ·have:=run_loadCells_list (P:=P) w ⟨b,off,none⟩ ((cs.toList.drop off).take d.sz) hcell;rw[hl] at this;simp[loadVar,LdT.agg (P:=P) (t:=ty),LdT.size (P:=P) (t:=ty),this]
  ·simp only[VR,hg,if_true];exact⟨_,rfl,by simpa using hr'⟩
 | false=>
  have h1:d.sz=1:=by cases d<;>simp_all [D.sz,D.isAgg]
  obtain⟨v,hv⟩:∃ v,(cs.toList.drop off).take d.sz=[v]:=by
   rw[h1] at hl hn ⊢;rw[<- hn] at hl;exact List.length_eq_one_iff.1 hl
  refine⟨v, ?_, ?_⟩
  ·have hc:=hcell 0 v (by rw[hv];rfl);simp only[Addr.add,if_true] at hc;simp[loadVar,LdT.agg (P:=P) (t:=ty),hc]
  ·simp only[VR,hg,Bool.false_eq_true,if_false];rw[hv] at hr';exact hr'
theorem XH{t b:Nat}(h:own (upd Fe t []) Fb b):own Fe Fb b:=by
 rcases h with ⟨u,hu⟩|h
 ·by_cases hut:u=t
  ·subst hut;simp at hu
  ·rw[q8 hut] at hu;exact .inl ⟨u,hu⟩
 ·exact .inr h
theorem StW.put{t:Nat}{d:D}{v:Value}(h:StW C σ a w ρ Fe Fb)(ht:t<σ.n)(hd:d.isRef=false)
 (hv:VR w ρ (gd C Fe Fb) (fun id=>(σ.box id).isSome) d v []):St C (σ.set t d) (a.put (some t) v) w:=
 h.setV ht (Ext.refl w) hd (hv.mono (fun _ _ _=>rfl) (fun b hb _=>⟨hb.1,fun ho=>hb.2 (XH ho)⟩) (fun id hid=>⟨hid,rfl⟩))
theorem StW.putRef{t:Nat}{d:D}{v:Value}(h:StW C σ a w ρ Fe Fb)(ht:t<σ.n)
 (hv:SR w ρ (gd C (upd Fe t []) Fb) (fun id=>(σ.box id).isSome) (a.put (some t) v) t d []):St C (σ.set t d) (a.put (some t) v) w:=
 ⟨ρ,upd Fe t [],Fb,h.ext ht (Ext.refl w) List.nodup_nil (by simp) hv⟩
theorem w3{s:Nat}{v:Value}(h:a.tmps[s]? = some v):a.eval (.tmp s)=v:=by simp[Act.eval,h]
theorem R.len{s t z:Nat}{l:List D}{ty e rt:TypeId}[hT:SlT P ty e]
 (h:SC σ s z l) (ht:t<σ.n):OpS P C ⟨some t,.call { callee:=.builtin .len,args:=#[.tmp s],argTypes:=#[ty] },rt,pos,aft,g⟩ σ (σ.set t (.int l.length)):=by
 refine OpS.value fun a w ⟨ρ,Fe,Fb,st⟩=>?_;obtain⟨base,len,cap,hv,rfl,_⟩:=JO st h;refine⟨.int .i64 l.length,w, ?_,st.put ht rfl ?_⟩
 ·unfold execOp;simp[resolve,invoke,builtin,Builtin.len_,run_underlying hT.u,w3 hv,goInt]
 ·simp only[VR,D.isAgg,Bool.false_eq_true,if_false];exact .int _
theorem R.ldE{p t z i off:Nat}{s:Nat}{path:List Nat}{l:List D}{d0 d:D}{ty n rt:TypeId}{gg:Bool}[LdT P ty n gg]
 (h:σ.get p=some (.ep s z i off path)) (hs:SC σ s z l) (hi:l[i]? = some d0) (hl:d0.loc path=some (off,d)) (hp:d.pur=true) (hn:d.sz=n) (hg:d.isAgg=gg) (ht:t<σ.n) :
 OpS P C ⟨some t,.load ty (.tmp p),rt,pos,aft,g⟩ σ (σ.set t d):=by
 refine OpS.value fun a w ⟨ρ,Fe,Fb,st⟩=>?_;obtain⟨base,len,cap,hv,rfl,hd⟩:=JO st hs;obtain⟨_,b,o,len',cap',h1,h2,h3⟩:=st.env _ _ h;rw[hv] at h1;simp only[Option.some.injEq,Value.slice.injEq] at h1;obtain⟨rfl,rfl,rfl⟩:=h1;obtain⟨hilt,rfl⟩:=List.getElem?_eq_some_iff.1 hi
 rcases hd with ⟨h4,_⟩|⟨b',o',cs,e',fz,h4,hb,hc,hsz,hr⟩
 ·omega
 cases h4;obtain⟨F,hF⟩:=hr i hilt;obtain⟨F',h5,h6,h7⟩:=hF.loc hl
 have hlen:off+d.sz<=z:=by
  have:((cs.toList.drop (o+i*z)).take z).length<=z:=by simp;omega
  omega
 rw[L5 _ _ _ _ _ hlen] at h5;have hF':=h5.pur hp;subst hF'
 have hbound:o+i*z+off+d.sz<=cs.size:=by
  have:(i+1)*z<=l.length*z:=Nat.mul_le_mul_right z hilt;rw[Nat.add_mul] at this;omega
 obtain⟨v,hv1,hv2⟩:=U1 (P:=P) (ty:=ty) hb h5 hbound hn hg;refine⟨v,w, ?_,st.put ht (c6 hp) hv2⟩;unfold execOp;simp[Instr.loadAt,Instr.sureAddr,w3 h2,hv1]
theorem R.ldP{p t id off:Nat}{path:List Nat}{d0 d:D}{ty n rt:TypeId}{gg:Bool}[LdT P ty n gg]
 (h:σ.get p=some (.ptr id off path)) (hb:σ.box id=some (.var d0)) (hl:d0.loc path=some (off,d)) (hp:d.pur=true) (hn:d.sz=n) (hg:d.isAgg=gg) (ht:t<σ.n) :
 OpS P C ⟨some t,.load ty (.tmp p),rt,pos,aft,g⟩ σ (σ.set t d):=by
 refine OpS.value fun a w ⟨ρ,Fe,Fb,st⟩=>?_;obtain⟨v,hv,hr⟩:=(j2 rfl).1 (st.env _ _ h);simp only[VR,D.isAgg,Bool.false_eq_true,if_false] at hr;generalize Fe p=F at hr;cases hr;obtain⟨cs,e,F',hb',hr,_⟩:=st.bx _ _ hb;obtain⟨F2,h1,h2,h3⟩:=hr.loc hl;have hF':=h1.pur hp;subst hF';obtain⟨v,hv1,hv2⟩:=U1 (P:=P) (ty:=ty) hb' h1 (by simpa using h3) hn hg;refine⟨v,w, ?_,st.put ht (c6 hp) hv2⟩;unfold execOp;simp[Instr.loadAt,Instr.sureAddr,w3 hv,hv1]
theorem R.ldO{p t id off z:Nat}{path:List Nat}{d0:D}{o:Option Nat}{l:List D}{ty rt:TypeId}[LdT P ty 1 false]
 (h:σ.get p=some (.ptr id off path)) (hb:σ.box id=some (.var d0)) (hl:d0.loc path=some (off,.sl o z l)) (ht:t<σ.n) :
 OpS P C ⟨some t,.load ty (.tmp p),rt,pos,aft,g⟩ σ (σ.set t (.alb id off path)):=by
 refine OpS.value fun a w ⟨ρ,Fe,Fb,st⟩=>?_;obtain⟨v,hv,hr⟩:=(j2 rfl).1 (st.env _ _ h);simp only[VR,D.isAgg,Bool.false_eq_true,if_false] at hr;generalize Fe p=F at hr;cases hr;obtain⟨cs,e,F',hb',hr,_⟩:=st.bx _ _ hb;obtain⟨F2,h1,h2,h3⟩:=hr.loc hl;obtain⟨v,hv1,hv2⟩:=U1 (P:=P) (ty:=ty) hb' h1 (by simpa using h3) rfl rfl;have hsz:=st.size
 have hc:w.cell? ⟨ρ id,off,none⟩=some v:=by
  simp only[D.sz] at h1 h3
  have hlt:off<cs.size:=by simp at h3;omega
  rw[cell_of_row w _ _ cs e (0,0) hb']
  have hv3:(loadVar ty ⟨ρ id,off,none⟩).run P w=.ok cs[off] w:=by
   simp[loadVar,LdT.agg (P:=P) (t:=ty),cell_of_row w _ _ cs e (0,0) hb',hlt]
  rw[hv3] at hv1;cases hv1;simp[hlt]
 refine⟨v,w, ?_,st.putRef ht ⟨rfl,by simp[hb],v,by rw[v7 a t _ t (by omega)];simp,hc⟩⟩;unfold execOp;simp[Instr.loadAt,Instr.sureAddr,w3 hv,hv1]
theorem R.ldR{x:Operand}{t:Nat}{d:D}{ty n rt:TypeId}{gg:Bool}[LdT P ty n gg]
 (h:ev C.gl σ x=some (.rp d)) (hp:d.pur=true) (hn:d.sz=n) (hg:d.isAgg=gg) (ht:t<σ.n) :
 OpS P C ⟨some t,.load ty x,rt,pos,aft,g⟩ σ (σ.set t d):=by
 refine OpS.value fun a w ⟨ρ,Fe,Fb,st⟩=>?_;obtain⟨F,hv,_⟩:=c3 st h rfl;simp only[VR,D.isAgg,Bool.false_eq_true,if_false] at hv;generalize he:a.eval x=v at hv
 cases hv with
 | rp _ b off cs e fz hb hG hs hr=>
  obtain⟨v,hv1,hv2⟩:=U1 (P:=P) (ty:=ty) hb hr hs hn hg;refine⟨v,w, ?_,st.put ht (c6 hp) hv2⟩;unfold execOp;simp[Instr.loadAt,Instr.sureAddr,he,hv1]
theorem T3{s f off:Nat}[h:FdT P s f off](w:World)(b o:Nat):(Instr.fieldAt s (.pointer (some ⟨b,o,none⟩)) f).run P w=.ok (.pointer (some ⟨b,o+off,none⟩)) w:=by
 obtain⟨fs,fld,i,h1,h2,rfl,h4,h5⟩:=h.i;simp[Instr.fieldAt,run_underlying h1,h2,Instr.sureAddr,fieldPlace,sizeOf,typeInfo,h4,h5,J6]
theorem R.fdP{x t id off off':Nat}{path:List Nat}{s f:Nat}{rt:TypeId}[FdT P s f off']
 (h:σ.get x=some (.ptr id off path)) (ht:t<σ.n):OpS P C ⟨some t,.fieldAddr s (.tmp x) f,rt,pos,aft,g⟩ σ (σ.set t (.ptr id (off+off') (path++[f]))):=by
 refine OpS.value fun a w ⟨ρ,Fe,Fb,st⟩=>?_;obtain⟨v,hv,hr⟩:=(j2 rfl).1 (st.env _ _ h);simp only[VR,D.isAgg,Bool.false_eq_true,if_false] at hr;generalize Fe x=F at hr
 cases hr with
 | ptr _ _ _ hL=>
 refine⟨.pointer (some ⟨ρ id,off+off',none⟩),w, ?_,st.put ht rfl ?_⟩
 ·unfold execOp;simp[w3 hv,T3 (P:=P) (s:=s) (f:=f)]
 ·simp only[VR,D.isAgg,Bool.false_eq_true,if_false];exact .ptr _ _ _ hL
theorem R.fdE{x t s' z i off off':Nat}{path:List Nat}{s f:Nat}{rt:TypeId}[FdT P s f off']
 (h:σ.get x=some (.ep s' z i off path)) (ht:t<σ.n) (hst:s'≠t):OpS P C ⟨some t,.fieldAddr s (.tmp x) f,rt,pos,aft,g⟩ σ (σ.set t (.ep s' z i (off+off') (path++[f]))):=by
 refine OpS.value fun a w ⟨ρ,Fe,Fb,st⟩=>?_;obtain⟨_,b,o,len,cap,h1,h2,h3⟩:=st.env _ _ h;have hsz:=st.size;refine⟨.pointer (some ⟨b,o+i*z+off+off',none⟩),w, ?_,st.putRef ht ⟨rfl,b,o,len,cap, ?_, ?_,h3⟩⟩
 ·unfold execOp;simp[w3 h2,T3 (P:=P) (s:=s) (f:=f)]
 ·rw[v7 a t _ s' (by omega)];simp[hst,h1]
 ·rw[v7 a t _ t (by omega)];simp[Nat.add_assoc]
theorem R.fdR{x:Operand}{t:Nat}{l:List D}{d:D}{s f off':Nat}{rt:TypeId}[FdT P s f off']
 (h:ev C.gl σ x=some (.rp (.agg l))) (hf:l[f]? = some d) (ho:offk l f=off') (ht:t<σ.n):OpS P C ⟨some t,.fieldAddr s x f,rt,pos,aft,g⟩ σ (σ.set t (.rp d)):=by
 refine OpS.value fun a w ⟨ρ,Fe,Fb,st⟩=>?_;obtain⟨F,hv,_⟩:=c3 st h rfl;simp only[VR,D.isAgg,Bool.false_eq_true,if_false] at hv;generalize he:a.eval x=v at hv
 cases hv with
 | rp _ b off cs e fz hb hG hs hr=>
  obtain⟨hlt,rfl⟩:=List.getElem?_eq_some_iff.1 hf;have hlo:=K2 l f hlt;refine⟨.pointer (some ⟨b,off+off',none⟩),w, ?_,st.put ht rfl ?_⟩
  ·unfold execOp;simp[he,T3 (P:=P) (s:=s) (f:=f)]
  ·simp only[VR,D.isAgg,Bool.false_eq_true,if_false];simp only[E0] at hs;refine .rp _ b (off+off') cs e fz hb hG (by omega) ?_;generalize hFs:([]:List Nat)=F0 at hr
   cases hr with
   | agg _ _ Fs hs' hr'=>
    have h1:=hr' f hlt;rw[E0,L5 _ _ _ _ _ (by omega),ho] at h1
    have hF:Fs f=[]:=by
     have:=(List.flatMap_eq_nil_iff.1 hFs.symm) f (List.mem_range.2 hlt);exact this
    rw[hF] at h1;rw[<- hFs];exact h1
end Go.Sx

namespace Go.Sx
variable{pos:String}{aft:Array Edge}{g:Option (Nat×Bool)}
variable{P:Program}{C:Ctx}{σ σ':Sg}{a:Act}{w w':World}{ρ:Nat->Nat}{Fe Fb:Nat->List Nat}
def Sg.kill(σ:Sg)(s:Nat):Sg:={ σ with env:=(s,.dead)::σ.env }
theorem O0(σ:Sg)(s u:Nat):(σ.kill s).get u=if u=s then some .dead else σ.get u:=by
 simp only[Sg.get,Sg.kill,v4];by_cases h:u=s
 ·simp[h]
 ·simp[h,show ¬ s=u from fun e=>h e.symm]
@[simp] theorem box_kill (σ:Sg) (s id:Nat):(σ.kill s).box id=σ.box id:=rfl
@[simp] theorem n_kill (σ:Sg) (s:Nat):(σ.kill s).n=σ.n:=rfl
theorem SR.there{G L:Nat->Prop}{t:Nat}{d:D}{F:List Nat}(h:SR w ρ G L a t d F):∃ v,a.tmps[t]? = some v:=by
 cases d with
 | al s=>obtain⟨_,x,h1,_⟩:=h;exact⟨x,h1⟩
 | alb id off path=>obtain⟨_,_,x,h1,h2⟩:=h;exact⟨x,h1⟩
 | vw s z lo n=>obtain⟨_,v0,v1,h1,h2,_⟩:=h;exact⟨_,h2⟩
 | va id off z n path lo=>obtain⟨_,_,cap,_,_,_,h1⟩:=h;exact⟨_,h1⟩
 | ep s z i off path=>obtain⟨_,b,o,len,cap,h1,h2,_⟩:=h;exact⟨_,h2⟩
 | tup ds=>obtain⟨vs,Fs,h1,_⟩:=h;exact⟨_,h1⟩
 | dead=>exact h.2
 | _=>obtain⟨x,hx,hr⟩:=h;exact⟨x,hx⟩
theorem StW.take{s t:Nat}{d d0:D}{v:Value}{F:List Nat}(h:StW C σ a w ρ Fe Fb)(ht:t<σ.n)(hst:s≠t)(hg0:σ.get s=some d0)
 (hos:w'.os=w.os) (htape:TpR w' w) (hout:w'.output=w.output) (hsize:w.heap.size<=w'.heap.size)
 (hblk:∀ b,b<w.heap.size->b∉Fe s->w'.heap[b]? = w.heap[b]?)
 (hF:F.Nodup) (hFs:∀ b∈F,b∈Fe s∨w.heap.size<=b)
 (hv:SR w' ρ (gd C (upd (upd Fe s []) t F) Fb) (fun id=>(σ.box id).isSome) (a.put (some t) v) t d F) :
 StW C ((σ.kill s).set t d) (a.put (some t) v) w' ρ (upd (upd Fe s []) t F) Fb:=by
 have hsz:t<a.tmps.size:=by rw[h.size];exact ht
 have hlt:=h.lt;have hso:∀ b,b∈Fe s->own Fe Fb b:=fun b hb=>.inl ⟨s,hb⟩
 have ho:∀ b,own (upd (upd Fe s []) t F) Fb b->own Fe Fb b∨w.heap.size<=b:=by
  rintro b (⟨u,hu⟩|hid)
  ·by_cases hut:u=t
   ·subst hut;simp at hu;exact(hFs b hu).imp (hso b) id
   ·rw[q8 hut] at hu;by_cases hus:u=s
    ·subst hus;simp at hu
    ·rw[q8 hus] at hu;exact .inl (.inl ⟨u,hu⟩)
  ·exact .inl (.inr hid)
 have hg:∀ b,gd C Fe Fb b->b<w.heap.size->gd C (upd (upd Fe s []) t F) Fb b:=fun b hb hl=>⟨hb.1,fun hc=>by
  rcases ho b hc with h1|h1
  ·exact hb.2 h1
  ·omega⟩
 have hh:∀ b,gd C Fe Fb b->b<w.heap.size->w'.heap[b]? = w.heap[b]?:=fun b hb hl=>hblk b hl (fun hm=>hb.2 (hso b hm))
 have hL:∀ id,(fun id=>(σ.box id).isSome=true) id->(fun id=>(((σ.kill s).set t d).box id).isSome=true) id/\ρ id=ρ id:=fun id hid=>⟨hid,rfl⟩
 have hne:∀ u,u≠t->u≠s->upd (upd Fe s []) t F u=Fe u:=fun u h1 h2=>by rw[q8 h1,q8 h2]
 have hc:∀ id off v,(σ.box id).isSome=true->w.cell? ⟨ρ id,off,none⟩=some v->w'.cell? ⟨ρ id,off,none⟩=some v:=by
  intro id off v hid hc;have hl:=block_lt_of_cell hc;rw[<- hc];refine World.cell?_of_block (hblk _ hl ?_);intro hm
  cases hb:σ.box id with
  | none=>simp[hb] at hid
  | some x=>exact h.dEB s id _ hm (h.bx id x hb).mem
 refine⟨?_,h.defs,h.pin, ?_, ?_, ?_,h.bxN, ?_,h.nodB, ?_, ?_,h.dBB, ?_, ?_,hos.trans h.os,htape.trans h.tape,hout.trans h.output,Nat.le_trans h.grown hsize,h.gl,fun b hb=>h.okN b (Nat.le_trans hsize hb),fun b hb=>(ho b hb).elim (h.okO b) (fun h1=>h.okN b h1)⟩
 ·simp[Act.put,h.size]
 ·intro u x hx;rw[m7] at hx;by_cases hut:u=t
  ·subst hut;simp at hx;subst hx;simp only[j3];exact hv
  ·simp only[hut,if_false] at hx;obtain⟨d1,hd1,rfl⟩:=Option.map_eq_some_iff.1 hx;rw[O0] at hd1;by_cases hus:u=s
   ·subst hus;simp at hd1;subst hd1;rw[q8 hut,j3];have hv0:∃ v0,a.tmps[u]? = some v0:=(h.env u d0 hg0).there;obtain⟨v0,hv0⟩:=hv0;exact⟨rfl,v0,by rw[v7 a t v u hsz];simp[hut,hv0]⟩
   ·simp only[hus,if_false] at hd1;rw[hne u hut hus]
    exact O7 hut hsz (h.env u d1 hd1) (fun b hb hl=>by
     rcases hb with hb|hb
     ·exact hh b hb hl
     ·exact hblk b hl (fun hm=>h.dEE u s hus b hb hm)) hg hL hc
 ·intro u hu;rw[m7] at hu;by_cases hut:u=t
  ·simp[hut] at hu
  ·simp only[hut,if_false,Option.map_eq_none_iff] at hu;rw[O0] at hu;by_cases hus:u=s
   ·simp[hus] at hu
   ·simp only[hus,if_false] at hu;rw[hne u hut hus];exact h.envN u hu
 ·intro id x hx;refine(h.bx id x hx).mono (fun b hb hl=>?_) hg hL
  rcases hb with hb|hb
  ·exact hh b hb hl
  ·exact hblk b hl (fun hm=>h.dEB s id b hm hb)
 ·intro u;by_cases hut:u=t
  ·subst hut;simpa using hF
  ·rw[q8 hut];by_cases hus:u=s
   ·subst hus;simp
   ·rw[q8 hus];exact h.nodE u
 ·intro u u' huu b hb hb'
  have key:∀ u,u≠t->b∈upd (upd Fe s []) t F u->b∈F->False:=by
   intro u hut hb hbF;rw[q8 hut] at hb;by_cases hus:u=s
   ·subst hus;simp at hb
   ·rw[q8 hus] at hb
    rcases hFs b hbF with h1|h1
    ·exact h.dEE u s hus b hb h1
    ·have:=hlt b (.inl ⟨u,hb⟩);omega
  by_cases hut:u=t
  ·subst hut;simp at hb;exact key u' (fun e=>huu e.symm) hb' hb
  ·by_cases hut':u'=t
   ·subst hut';simp at hb';exact key u hut hb hb'
   ·rw[q8 hut] at hb;rw[q8 hut'] at hb';by_cases hus:u=s
    ·subst hus;simp at hb
    ·by_cases hus':u'=s
     ·subst hus';simp at hb'
     ·rw[q8 hus] at hb;rw[q8 hus'] at hb';exact h.dEE u u' huu b hb hb'
 ·intro u id b hb hb';by_cases hut:u=t
  ·subst hut;simp at hb
   rcases hFs b hb with h1|h1
   ·exact h.dEB s id b h1 hb'
   ·have:=hlt b (.inr ⟨id,hb'⟩);omega
  ·rw[q8 hut] at hb;by_cases hus:u=s
   ·subst hus;simp at hb
   ·rw[q8 hus] at hb;exact h.dEB u id b hb hb'
 ·intro b hb hk
  rcases ho b hb with h1|h1
  ·exact h.new b h1 hk
  ·have:=(h.kept b hk).2;have:=h.grown;omega
 ·intro b hk;have hkb:=h.kept b hk;exact⟨(hblk b (Nat.lt_of_lt_of_le hkb.2 h.grown) (fun hm=>h.new b (hso b hm) hk)).trans hkb.1,hkb.2⟩
theorem R.al{s t z:Nat}{e:Nat}{l:List D}{ty:TypeId}
 (hx:σ.get s=some (.sl (some e) z l)) (ht:t<σ.n) (hst:s≠t):OpS P C ⟨some t,.move (.tmp s),ty,pos,aft,g⟩ σ (σ.set t (.al s)):=by
 refine OpS.value fun a w ⟨ρ,Fe,Fb,st⟩=>?_;obtain⟨v,hv,hr⟩:=(j2 rfl).1 (st.env _ _ hx);have hsz:=st.size;refine⟨v,w, ?_,st.putRef ht ⟨rfl,v,by rw[v7 a t _ t (by omega)];simp,by rw[v7 a t _ s (by omega)];simp[hst,hv]⟩⟩;unfold execOp;simp[w3 hv]
theorem R.asgO{s t:Nat}{d:D}{ty:TypeId}
 (hx:σ.get s=some d) (hd:d.isRef=false) (ht:t<σ.n) (hst:s≠t):OpS P C ⟨some t,.assign (.tmp s),ty,pos,aft,g⟩ σ ((σ.kill s).set t d):=by
 refine OpS.value fun a w ⟨ρ,Fe,Fb,st⟩=>?_;obtain⟨v,hv,hr⟩:=(j2 hd).1 (st.env _ _ hx);have hsz:=st.size;refine⟨v,w, ?_,ρ,_,Fb,st.take (F:=Fe s) ht hst hx rfl ⟨rfl,Nat.le_refl _⟩ rfl (Nat.le_refl _) (fun _ _ _=>rfl) (st.nodE s) (fun b hb=>.inl hb) ((j2 hd).2 ⟨v,by rw[v7 a t _ t (by omega)];simp, ?_⟩)⟩
 ·unfold execOp;simp[w3 hv]
 ·refine hr.mono (fun _ _ _=>rfl) (fun b hb _=>⟨hb.1,fun hc=>hb.2 ?_⟩) (fun id hid=>⟨hid,rfl⟩)
  rcases hc with ⟨u,hu⟩|hid
  ·by_cases hut:u=t
   ·subst hut;simp at hu;exact .inl ⟨s,hu⟩
   ·rw[q8 hut] at hu;by_cases hus:u=s
    ·subst hus;simp at hu
    ·rw[q8 hus] at hu;exact .inl ⟨u,hu⟩
  ·exact .inr hid
theorem G3{s t:Nat}{d:D}{ty:TypeId}
 (hx:σ.get s=some d) (hd:d.isRef=false) (ht:t<σ.n) (hst:s≠t):OpS P C ⟨some t,.move (.tmp s),ty,pos,aft,g⟩ σ ((σ.kill s).set t d):=
 GS (R.asgO (P:=P) (ty:=ty) (pos:=pos) (aft:=aft) (g:=g) hx hd ht hst)
def unD(op:UnOp)(x:D):Option D:=
 match op,x with
 | .not,.bool b=>some (.bool !b)
 | .xor,.u8 a=>some (.u8 (~~~a))
 | .xor,.u16 a=>some (.u16 (~~~a))
 | .xor,.u32 a=>some (.u32 (~~~a))
 | .xor,.u64 a=>some (.u64 (~~~a))
 | .neg,.int a=>some (.int (wr (0-a)))
 | _,_=>none
theorem xmax_u8(x:UInt8):(255:UInt8)^^^x = ~~~x:=by
 apply UInt8.toBitVec_inj.1;show BitVec.ofNat 8 255^^^x.toBitVec = ~~~x.toBitVec;rw[show BitVec.ofNat 8 255=BitVec.allOnes 8 from by decide];exact BitVec.allOnes_xor
theorem WT(x:UInt16):(65535:UInt16)^^^x = ~~~x:=by
 apply UInt16.toBitVec_inj.1;show BitVec.ofNat 16 65535^^^x.toBitVec = ~~~x.toBitVec;rw[show BitVec.ofNat 16 65535=BitVec.allOnes 16 from by decide];exact BitVec.allOnes_xor
theorem WS(x:UInt32):(4294967295:UInt32)^^^x = ~~~x:=by
 apply UInt32.toBitVec_inj.1;show BitVec.ofNat 32 4294967295^^^x.toBitVec = ~~~x.toBitVec;rw[show BitVec.ofNat 32 4294967295=BitVec.allOnes 32 from by decide];exact BitVec.allOnes_xor
theorem WR(x:UInt64):(18446744073709551615:UInt64)^^^x = ~~~x:=by
 apply UInt64.toBitVec_inj.1;show BitVec.ofNat 64 18446744073709551615^^^x.toBitVec = ~~~x.toBitVec;rw[show BitVec.ofNat 64 18446744073709551615=BitVec.allOnes 64 from by decide];exact BitVec.allOnes_xor
theorem unD_run{op:UnOp}{x d:D}{v:Value}{G L:Nat->Prop}{F:List Nat}(h:unD op x=some d)(hx:Rc w ρ G L true x [v] F) :
 (∃ u,(Op.unary op v).run P w=.ok u w/\(∀ ρ G L,Rc w ρ G L true d [u] []))/\d.isAgg=false/\d.isRef=false/\x.isAgg=false/\x.isRef=false:=by
 unfold unD at h;split at h
 case h_7=>cases h
 all_goals
  cases h;cases hx;refine⟨?_,rfl,rfl,rfl,rfl⟩
 ·exact⟨_,rfl,fun _ _ _=>.bool _⟩
 ·rename_i x;refine⟨.int .u8 (~~~x).toNat, ?_,fun _ _ _=>.u8 _⟩;have hr:=run_u8 P w .xor 0 (255:UInt8) x rfl trivial;rw[AW,xmax_u8] at hr;exact hr
 ·rename_i x;refine⟨.int .u16 (~~~x).toNat, ?_,fun _ _ _=>.u16 _⟩;have hr:=LN P w .xor 0 (65535:UInt16) x rfl trivial;rw[CL,WT] at hr;exact hr
 ·rename_i x;refine⟨.int .u32 (~~~x).toNat, ?_,fun _ _ _=>.u32 _⟩;have hr:=LM P w .xor 0 (4294967295:UInt32) x rfl trivial;rw[CI,WS] at hr;exact hr
 ·rename_i x;refine⟨.int .u64 (~~~x).toNat, ?_,fun _ _ _=>.u64 _⟩;have hr:=LP P w .xor 0 (18446744073709551615:UInt64) x rfl trivial;rw[CF,WR] at hr;exact hr
 ·exact⟨_,rfl,fun _ _ _=>.int _⟩
theorem R.un{op:UnOp}{xt ty:TypeId}{x:Operand}{t:Nat}{dx d:D}
 (hx:ev C.gl σ x=some dx) (ha:unD op dx=some d) (ht:t<σ.n):OpS P C ⟨some t,.unOp op xt x,ty,pos,aft,g⟩ σ (σ.set t d):=by
 refine OpS.value fun a w ⟨ρ,Fe,Fb,st⟩=>?_
 have hdx:dx.isAgg=false/\dx.isRef=false:=by
  unfold unD at ha;split at ha
  case h_7=>cases ha
  all_goals exact⟨rfl,rfl⟩
 obtain⟨Fx,vx,_⟩:=c3 st hx hdx.2;simp only[VR,hdx.1,Bool.false_eq_true,if_false] at vx;obtain⟨⟨v,hv,hrc⟩,h1,h2,_⟩:=unD_run (P:=P) ha vx;refine⟨v,w, ?_,st.put ht h2 ?_⟩
 ·unfold execOp;simp only[Sem.run_bind,hv,Result.andThen_ok,Sem.run_pure]
 ·simp only[VR,h1,Bool.false_eq_true,if_false];exact hrc _ _ _
def CY(k:IntKind)(x:D):Option D:=
 match k,x with
 | .i64,.int a=>some (.int (wr a))
 | .i64,.u8 a=>some (.int a.toNat)
 | .i64,.u16 a=>some (.int a.toNat)
 | .i64,.u32 a=>some (.int a.toNat)
 | .i64,.u64 a=>some (.int (wr a.toNat))
 | .i64,.ik _ n=>some (.int (wr n))
 | .u8,.int a=>some (.u8 (UInt8.ofInt a))
 | .u8,.u8 a=>some (.u8 a)
 | .u8,.u16 a=>some (.u8 a.toUInt8)
 | .u8,.u32 a=>some (.u8 a.toUInt8)
 | .u8,.u64 a=>some (.u8 a.toUInt8)
 | .u16,.int a=>some (.u16 (UInt16.ofInt a))
 | .u16,.u8 a=>some (.u16 a.toUInt16)
 | .u16,.u16 a=>some (.u16 a)
 | .u32,.int a=>some (.u32 (UInt32.ofInt a))
 | .u32,.u8 a=>some (.u32 a.toUInt32)
 | .u32,.u16 a=>some (.u32 a.toUInt32)
 | .u32,.u32 a=>some (.u32 a)
 | .u32,.u64 a=>some (.u32 a.toUInt32)
 | .u64,.int a=>some (.u64 (UInt64.ofInt a))
 | .u64,.u8 a=>some (.u64 a.toUInt64)
 | .u64,.u16 a=>some (.u64 a.toUInt64)
 | .u64,.u32 a=>some (.u64 a.toUInt64)
 | .u64,.u64 a=>some (.u64 a)
 | _,_=>none
theorem ofInt_u8(a:Int):((UInt8.ofInt a).toNat:Int)=a%256:=by
 have:(UInt8.ofInt a).toNat=(a%256).toNat:=by simp[UInt8.ofInt];omega
 rw[this];omega
theorem TS(a:Int):((UInt16.ofInt a).toNat:Int)=a%65536:=by
 have:(UInt16.ofInt a).toNat=(a%65536).toNat:=by simp[UInt16.ofInt];omega
 rw[this];omega
theorem TR(a:Int):((UInt32.ofInt a).toNat:Int)=a%4294967296:=by
 have:(UInt32.ofInt a).toNat=(a%4294967296).toNat:=by simp[UInt32.ofInt];omega
 rw[this];omega
theorem F6(a:Int):((UInt64.ofInt a).toNat:Int)=a%18446744073709551616:=by
 have:(UInt64.ofInt a).toNat=(a%18446744073709551616).toNat:=by simp[UInt64.ofInt];omega
 rw[this];omega
theorem convD_ok{k:IntKind}{x d:D}{v:Value}{G L:Nat->Prop}{F:List Nat}(h:CY k x=some d)(hx:Rc w ρ G L true x [v] F) :
 (∃ j n,v=.int j n/\∀ ρ G L,Rc w ρ G L true d [.int k (k.wrap n)] [])/\d.isAgg=false/\d.isRef=false/\x.isAgg=false/\x.isRef=false:=by
 unfold CY at h;split at h
 case h_25=>cases h
 all_goals
  cases h;cases hx;refine⟨⟨_,_,rfl,fun ρ G L=>?_⟩,rfl,rfl,rfl,rfl⟩
 ·exact .int _
 ·rename_i a;have:=a.toNat_lt;rw[show IntKind.i64.wrap (a.toNat:Int)=a.toNat from IntWalk.i64_in _ (by omega)];exact .int _
 ·rename_i a;have:=a.toNat_lt;rw[show IntKind.i64.wrap (a.toNat:Int)=a.toNat from IntWalk.i64_in _ (by omega)];exact .int _
 ·rename_i a;have:=a.toNat_lt;rw[show IntKind.i64.wrap (a.toNat:Int)=a.toNat from IntWalk.i64_in _ (by omega)];exact .int _
 ·exact .int _
 ·exact .int _
 ·rw[L0,<- ofInt_u8];exact .u8 _
 ·rename_i a;have:=a.toNat_lt;rw[L0,Int.emod_eq_of_lt (by omega) (by omega)];exact .u8 _
 ·rename_i a;rw[L0,show((a.toNat:Int)%256)=(a.toUInt8.toNat:Int) from by simp];exact .u8 _
 ·rename_i a;rw[L0,show((a.toNat:Int)%256)=(a.toUInt8.toNat:Int) from by simp];exact .u8 _
 ·rename_i a;rw[L0,show((a.toNat:Int)%256)=(a.toUInt8.toNat:Int) from by simp];exact .u8 _
 ·rw[S4,<- TS];exact .u16 _
 ·rename_i a;have:=a.toNat_lt;rw[S4,Int.emod_eq_of_lt (by omega) (by omega),show((a.toNat:Int))=(a.toUInt16.toNat:Int) from by simp];exact .u16 _
 ·rename_i a;have:=a.toNat_lt;rw[S4,Int.emod_eq_of_lt (by omega) (by omega)];exact .u16 _
 ·rw[N5,<- TR];exact .u32 _
 ·rename_i a;have:=a.toNat_lt;rw[N5,Int.emod_eq_of_lt (by omega) (by omega),show((a.toNat:Int))=(a.toUInt32.toNat:Int) from by simp];exact .u32 _
 ·rename_i a;have:=a.toNat_lt;rw[N5,Int.emod_eq_of_lt (by omega) (by omega),show((a.toNat:Int))=(a.toUInt32.toNat:Int) from by simp];exact .u32 _
 ·rename_i a;have:=a.toNat_lt;rw[N5,Int.emod_eq_of_lt (by omega) (by omega)];exact .u32 _
 ·rename_i a;rw[N5,show((a.toNat:Int)%4294967296)=(a.toUInt32.toNat:Int) from by simp];exact .u32 _
 ·rw[N4,<- F6];exact .u64 _
 ·rename_i a;have:=a.toNat_lt;rw[N4,Int.emod_eq_of_lt (by omega) (by omega),show((a.toNat:Int))=(a.toUInt64.toNat:Int) from by simp];exact .u64 _
 ·rename_i a;have:=a.toNat_lt;rw[N4,Int.emod_eq_of_lt (by omega) (by omega),show((a.toNat:Int))=(a.toUInt64.toNat:Int) from by simp];exact .u64 _
 ·rename_i a;have:=a.toNat_lt;rw[N4,Int.emod_eq_of_lt (by omega) (by omega),show((a.toNat:Int))=(a.toUInt64.toNat:Int) from by simp];exact .u64 _
 ·rename_i a;have:=a.toNat_lt;rw[N4,Int.emod_eq_of_lt (by omega) (by omega)];exact .u64 _
class IkT(P:Program)(t:TypeId)(k:outParam IntKind):Prop where
 u:P.underlying t=some (.int k)
theorem R.conv{src dst ty:TypeId}{k k0:IntKind}{x:Operand}{t:Nat}{dx d:D}[h0:IkT P src k0][hT:IkT P dst k]
 (hx:ev C.gl σ x=some dx) (ha:CY k dx=some d) (ht:t<σ.n):OpS P C ⟨some t,.convert src dst x,ty,pos,aft,g⟩ σ (σ.set t d):=by
 refine OpS.value fun a w ⟨ρ,Fe,Fb,st⟩=>?_
 have hdx:dx.isAgg=false/\dx.isRef=false:=by
  unfold CY at ha;split at ha
  case h_25=>cases ha
  all_goals exact⟨rfl,rfl⟩
 obtain⟨Fx,vx,_⟩:=c3 st hx hdx.2;simp only[VR,hdx.1,Bool.false_eq_true,if_false] at vx;obtain⟨⟨j,n,hv,hrc⟩,h1,h2,_⟩:=convD_ok ha vx;refine⟨.int k (k.wrap n),w, ?_,st.put ht h2 ?_⟩
 ·unfold execOp;simp[convert,run_underlying h0.u,run_underlying hT.u,hv,Conv.intToInt]
 ·simp only[VR,h1,Bool.false_eq_true,if_false];exact hrc _ _ _
end Go.Sx

namespace Go.Sx
def D.upd:D->List Nat->D->Option D
 | _,[],x=>some x
 | .agg l,k::p,x=>match l[k]? with
  | some d=>match D.upd d p x with
   | some d'=>some (.agg (l.set k d'))
   | none=>none
  | none=>none
 | .arr n z l,k::p,x=>match l[k]? with
  | some d=>match D.upd d p x with
   | some d'=>some (.arr n z (l.set k d'))
   | none=>none
  | none=>none
 | _,_::_,_=>none
def D.noArr:D->List Nat->Bool
 | _,[]=>true
 | .agg l,k::p=>match l[k]? with
  | some d=>D.noArr d p
  | none=>false
 | _,_::_=>false
mutual
def D.np:D->Bool
 | .ptr _ _ _=>false
 | .bs _ _ _ _=>false
 | .map _=>false
 | .agg l=>D.nps l
 | .fn _ l=>D.nps l
 | .ifc _ d=>D.np d
 | _=>true
def D.nps:List D->Bool
 | []=>true
 | d::r=>D.np d&&D.nps r
end
theorem BH(l:List D)(h:D.nps l=true):∀ k (hk:k<l.length),l[k].np=true:=by
 induction l with
 | nil=>intro k hk;simp at hk
 | cons d r ih=>
  simp only[D.nps,Bool.and_eq_true] at h;intro k hk
  cases k with
  | zero=>exact h.1
  | succ k=>simpa using ih h.2 k (by simpa using hk)
variable{P:Program}{C:Ctx}{σ σ':Sg}{a:Act}{w w':World}{ρ:Nat->Nat}{Fe Fb:Nat->List Nat}
theorem Rc.unflag{G L:Nat->Prop}{p:Bool}{d:D}{cs:List Value}{F:List Nat}(h:Rc w ρ G L p d cs F)(hd:d.np=true):Rc w ρ G L false d cs F:=by
 induction h with
 | bool b=>exact .bool b
 | int n=>exact .int n
 | u8 x=>exact .u8 x
 | u16 x=>exact .u16 x
 | u32 x=>exact .u32 x
 | u64 x=>exact .u64 x
 | ik k n=>exact .ik k n
 | str s=>exact .str s
 | nils=>exact .nils
 | slN o z=>exact .slN o z
 | slE o z a=>exact .slE o z a
 | slI b off cs e fz cap z l hb hG hc hs hr ih=>exact .slI b off cs e fz cap z l hb hG hc hs hr
 | slO b cs e cap z l Fs hb hc hm hs ho1 hr ih=>exact .slO b cs e cap z l Fs hb hc hm hs ho1 hr
 | agg l cs Fs hs hr ih=>exact .agg l cs Fs hs (fun k hk=>ih k hk (BH l (by simpa [D.np] using hd) k hk))
 | arr n z l cs hl hs hr ih=>exact .arr n z l cs hl hs hr
 | ptr id off path hid=>simp[D.np] at hd
 | bs id z n cap hid hcap=>simp[D.np] at hd
 | nilp=>exact .nilp
 | rp d b off cs e fz hb hG hs hr ih=>exact .rp d b off cs e fz hb hG hs hr
 | map id hid=>simp[D.np] at hd
 | nilmap=>exact .nilmap
 | fn f caps vs hl ha hr ih=>exact .fn f caps vs hl ha (fun k hk=>ih k hk (BH caps (by simpa [D.np] using hd) k hk))
 | nilf=>exact .nilf
 | yld l=>exact .yld l
 | ifc t d v ha hr ih=>exact .ifc t d v ha (ih (by simpa [D.np] using hd))
 | nili=>exact .nili
 | dead v h=>exact .dead v h
theorem VF(l:List D)(j:Nat)(h:j<D.szs l):∃ k,∃ hk:k<l.length,offk l k<=j/\j<offk l k+l[k].sz:=by
 induction l generalizing j with
 | nil=>simp at h
 | cons d r ih=>
  by_cases hd:j<d.sz
  ·exact⟨0,by simp,by simp[offk],by simpa [offk] using hd⟩
  ·simp only[K5] at h;obtain⟨k,hk,h1,h2⟩:=ih (j-d.sz) (by omega);refine⟨k+1,by simp;omega, ?_, ?_⟩
   ·simp only[offk,List.take_succ_cons,K5] at h1 ⊢;omega
   ·simp only[offk,List.take_succ_cons,K5,List.getElem_cons_succ] at h1 h2 ⊢;omega
theorem Rc.one{G L:Nat->Prop}{p:Bool}{d:D}{cs:List Value}{F:List Nat}(h:Rc w ρ G L p d cs F):∀ u∈cs,u.oneCell'=true:=by
 induction h with
 | agg l cs Fs hs hr ih=>
  intro u hu;obtain⟨j,hj,rfl⟩:=List.mem_iff_getElem.1 hu;obtain⟨k,hk,h1,h2⟩:=VF l j (by omega);refine ih k hk _ (List.mem_iff_getElem.2 ⟨j-offk l k, ?_, ?_⟩)
  ·have:=(hr k hk).len;omega
  ·simp only[List.getElem_take,List.getElem_drop]
   congr 1;omega
 | arr n z l cs hl hs hr ih=>
  intro u hu;obtain⟨j,hj,rfl⟩:=List.mem_iff_getElem.1 hu
  have hz:0<z:=by
   rcases Nat.eq_zero_or_pos z with h0|h0
   ·subst h0;rw[Nat.mul_zero] at hs;omega
   ·exact h0
  have hk:j/z<l.length:=by rw[hl];exact Nat.div_lt_of_lt_mul (by rw[Nat.mul_comm,<- hs];exact hj)
  have hlen:((cs.drop (j/z*z)).take z).length=z:=by
   simp only[List.length_take,List.length_drop,hs];have h1:(j/z+1)*z<=n*z:=Nat.mul_le_mul_right z (by omega);rw[Nat.add_mul] at h1;omega
  have h1:=Nat.div_add_mod j z;have h2:=Nat.mod_lt j hz;have h3:z*(j/z)=j/z*z:=Nat.mul_comm _ _;refine ih (j/z) hk _ (List.mem_iff_getElem.2 ⟨j%z,by omega, ?_⟩);simp only[List.getElem_take,List.getElem_drop]
  congr 1;omega
 | dead v h=>intro u hu;simp at hu;subst hu;exact h
 | _=>intro u hu;simp at hu;subst hu;rfl
theorem T7(l:List D)(k j:Nat)(x:D)(hk:k<l.length)(hz:x.sz=l[k].sz):offk (l.set k x) j=offk l j:=by
 unfold offk
 induction l generalizing k j with
 | nil=>simp at hk
 | cons d r ih=>
  cases j with
  | zero=>simp
  | succ j=>
   cases k with
   | zero=>simp at hz;simp[hz]
   | succ k=>
    simp only[List.set_cons_succ,List.take_succ_cons,K5];rw[ih k j (by simpa using hk) (by simpa using hz)]
theorem L4(l:List D)(k:Nat)(x:D)(hk:k<l.length)(hz:x.sz=l[k].sz):D.szs (l.set k x)=D.szs l:=by
 have h1:=T7 l k l.length x hk hz;unfold offk at h1;rw[List.take_length,List.take_of_length_le (by simp)] at h1;exact h1
theorem Y9{n:Nat}{Fs:Nat->List Nat}(h:((List.range n).flatMap Fs).Nodup):(∀ k,k<n->(Fs k).Nodup)/\∀ j k,j<n->k<n->j≠k->∀ b,b∈Fs j->b∉Fs k:=by
 induction n with
 | zero=>exact⟨by simp,by simp⟩
 | succ n ih=>
  rw[List.range_succ,List.flatMap_append,List.flatMap_cons,List.flatMap_nil,List.append_nil,List.nodup_append] at h;obtain⟨h1,h2,h3⟩:=h;obtain⟨i1,i2⟩:=ih h1;refine⟨fun k hk=>?_,fun j k hj hk hjk b hb hb'=>?_⟩
  ·by_cases hkn:k=n
   ·subst hkn;exact h2
   ·exact i1 k (by omega)
  ·by_cases hkn:k=n
   ·subst hkn;exact h3 b (List.mem_flatMap.2 ⟨j,List.mem_range.2 (by omega),hb⟩) b hb' rfl
   ·by_cases hjn:j=n
    ·subst hjn;exact h3 b (List.mem_flatMap.2 ⟨k,List.mem_range.2 (by omega),hb'⟩) b hb rfl
    ·exact i2 j k (by omega) (by omega) hjk b hb hb'
theorem o9{n:Nat}{Fs:Nat->List Nat}(h1:∀ k,k<n->(Fs k).Nodup)(h2:∀ j k,j<n->k<n->j≠k->∀ b,b∈Fs j->b∉Fs k):((List.range n).flatMap Fs).Nodup:=by
 induction n with
 | zero=>simp
 | succ n ih=>
  rw[List.range_succ,List.flatMap_append,List.flatMap_cons,List.flatMap_nil,List.append_nil,List.nodup_append];refine⟨ih (fun k hk=>h1 k (by omega)) (fun j k hj hk=>h2 j k (by omega) (by omega)),h1 n (by omega), ?_⟩;intro b hb b' hb' e;subst e;obtain⟨j,hj,hm⟩:=List.mem_flatMap.1 hb;have:=List.mem_range.1 hj;exact h2 j n (by omega) (by omega) (by omega) b hm hb'
theorem K1(cs xs:List Value)(o:Nat)(h:o+xs.length<=cs.length):(cs.take o++xs++cs.drop (o+xs.length)).length=cs.length:=by
 simp;omega
theorem X4(cs xs:List Value)(o a n:Nat)(h:o+xs.length<=cs.length)(hd:a+n<=o∨o+xs.length<=a) :
 ((cs.take o++xs++cs.drop (o+xs.length)).drop a).take n=(cs.drop a).take n:=by
 apply List.ext_getElem?;intro j;simp only[List.getElem?_take,List.getElem?_drop];split
 ·rcases hd with hd|hd
  ·rw[List.append_assoc,List.getElem?_append_left (by simp;omega),List.getElem?_take,if_pos (by omega)]
  ·rw[List.getElem?_append_right (by simp;omega),List.getElem?_drop]
   congr 1
   simp;omega
 ·rfl
theorem r9(cs xs:List Value)(o a n:Nat)(h:a+o+xs.length<=a+n)(hl:a+n<=cs.length) :
 ((cs.take (a+o)++xs++cs.drop (a+o+xs.length)).drop a).take n=((cs.drop a).take n).take o++xs++((cs.drop a).take n).drop (o+xs.length):=by
 apply List.ext_getElem?;intro j;simp only[List.getElem?_take,List.getElem?_drop,List.append_assoc];by_cases h1:j<o
 ·rw[if_pos (by omega),List.getElem?_append_left (by simp;omega),List.getElem?_append_left (by simp;omega)];simp only[List.getElem?_take,List.getElem?_drop];rw[if_pos (by omega),if_pos h1,if_pos (by omega)]
 ·rw[List.getElem?_append_right (l₁:=((cs.drop a).take n).take o) (by simp;omega)];by_cases h2:j<o+xs.length
  ·rw[if_pos (by omega),List.getElem?_append_right (by simp;omega),List.getElem?_append_left (by simp;omega),List.getElem?_append_left (by simp;omega)]
   congr 1
   simp;omega
  ·rw[List.getElem?_append_right (l₁:=xs) (by simp;omega)];simp only[List.getElem?_drop,List.getElem?_take,List.length_take,List.length_drop];by_cases h3:j<n
   ·rw[if_pos h3,List.getElem?_append_right (by simp;omega),List.getElem?_append_right (by simp;omega)];rw[if_pos (by omega),List.getElem?_drop]
    congr 1
    simp;omega
   ·rw[if_neg h3,if_neg (by omega)]
theorem Rc.upd{G L:Nat->Prop}{p:Bool}{d d1 d' x:D}{cs xs:List Value}{F Fx:List Nat}(h:Rc w ρ G L p d cs F){path:List Nat}{off:Nat}
 (hl:d.loc path=some (off,d1)) (hu:d.upd path x=some d') (hz:x.sz=d1.sz) (hx:Rc w ρ G L false x xs Fx) (hF:F.Nodup) (hFx:Fx.Nodup) (hdis:∀ b∈Fx,b∉F)
 (harr:Fx=[]∨d.noArr path=true) :
 ∃ F',Rc w ρ G L p d' (cs.take off++xs++cs.drop (off+xs.length)) F'/\(∀ b∈F',b∈F∨b∈Fx)/\F'.Nodup/\d'.sz=d.sz/\d'.isAgg=(if path=[] then x.isAgg else d.isAgg):=by
 induction path generalizing d cs F p off d1 d' with
 | nil=>
  simp only[D.loc,Option.some.injEq,Prod.mk.injEq] at hl;simp only[D.upd,Option.some.injEq] at hu;obtain⟨rfl,rfl⟩:=hl;subst hu;have h1:=h.len;have h2:=hx.len
  have e:cs.take 0++xs++cs.drop (0+xs.length)=xs:=by simp;omega
  rw[e];refine⟨Fx, ?_,fun _ h=>.inr h,hFx,hz,by simp⟩
  cases p with
  | true=>exact hx.flag
  | false=>exact hx
 | cons k path ih=>
  cases h with
  | agg l cs Fs hs hr=>
   simp only[D.loc] at hl;simp only[D.upd] at hu
   cases hk:l[k]? with
   | none=>simp[hk] at hl
   | some d2=>
    obtain⟨hklt,rfl⟩:=List.getElem?_eq_some_iff.1 hk;simp only[hk] at hl hu
    cases hd:D.loc l[k] path with
    | none=>simp[hd] at hl
    | some od=>
     obtain⟨o,d3⟩:=od;simp only[hd,Option.some.injEq,Prod.mk.injEq] at hl;obtain⟨rfl,rfl⟩:=hl
     cases hud:D.upd l[k] path x with
     | none=>simp[hud] at hu
     | some d4=>
      simp only[hud,Option.some.injEq] at hu;subst hu;obtain⟨hn1,hn2⟩:=Y9 hF;have hkm:∀ b∈Fs k,b∈(List.range l.length).flatMap Fs:=fun b hb=>List.mem_flatMap.2 ⟨k,List.mem_range.2 hklt,hb⟩
      obtain⟨F',h1,h2,h3,h4,h5⟩:=ih (hr k hklt) hd hud hz (hn1 k hklt) (fun b hb hb'=>hdis b hb (hkm b hb')) (by
       rcases harr with h0|h0
       ·exact .inl h0
       ·simp only[D.noArr,hk] at h0;exact .inr h0)
      obtain⟨_,_,_,hl3⟩:=(hr k hklt).loc hd;have hlen:=(hr k hklt).len;have hxl:=hx.len;have hlo:=K2 l k hklt
      have hxo:o+xs.length<=l[k].sz:=by omega
      refine⟨(List.range (l.set k d4).length).flatMap (fun j=>if j=k then F' else Fs j), ?_, ?_, ?_, ?_, ?_⟩
      ·refine .agg (l.set k d4) _ _ ?_ (fun j hj=>?_)
       ·rw[K1 _ _ _ (by omega),hs,L4 l k d4 hklt h4]
       ·have hj':j<l.length:=by simpa using hj
        rw[T7 l k j d4 hklt h4];by_cases hjk:j=k
        ·subst hjk;simp only[List.getElem_set_self,if_true,h4];rw[r9 _ _ _ _ _ (by omega) (by omega)];exact h1
        ·have hjj:(l.set k d4)[j]=l[j]:=by rw[List.getElem_set_ne (fun e=>hjk e.symm)]
         simp only[hjj,hjk,if_false];rw[X4 _ _ _ _ _ (by omega) ?_]
         ·exact hr j hj'
         ·have h6:=K2 l j hj'
          rcases Nat.lt_or_gt_of_ne hjk with hlt|hlt
          ·left
           have:offk l j+l[j].sz<=offk l k:=by
            have:=K2 (l.take k) j (by simp;omega);simp only[List.getElem_take] at this;unfold offk at this ⊢;rw[List.take_take,Nat.min_eq_left (by omega)] at this;exact this
           omega
          ·right
           have:offk l k+l[k].sz<=offk l j:=by
            have:=K2 (l.take j) k (by simp;omega);simp only[List.getElem_take] at this;unfold offk at this ⊢;rw[List.take_take,Nat.min_eq_left (by omega)] at this;exact this
           omega
      ·intro b hb;obtain⟨j,hj,hm⟩:=List.mem_flatMap.1 hb
       have hj':j<l.length:=by simpa using List.mem_range.1 hj
       by_cases hjk:j=k
       ·subst hjk;simp at hm;exact(h2 b hm).imp (hkm b) id
       ·simp only[hjk,if_false] at hm;exact .inl (List.mem_flatMap.2 ⟨j,List.mem_range.2 hj',hm⟩)
      ·refine o9 (fun j hj=>?_) (fun i j hi hj hij b hb hb'=>?_)
       ·have hj':j<l.length:=by simpa using hj
        by_cases hjk:j=k
        ·simp[hjk,h3]
        ·simp only[hjk,if_false];exact hn1 j hj'
       ·have hi':i<l.length:=by simpa using hi
        have hj':j<l.length:=by simpa using hj
        have key:∀ m,m<l.length->m≠k->b∈Fs m->b∈F'->False:=fun m hm hmk h6 h7=>by
         rcases h2 b h7 with h8|h8
         ·exact hn2 m k hm hklt hmk b h6 h8
         ·exact hdis b h8 (List.mem_flatMap.2 ⟨m,List.mem_range.2 hm,h6⟩)
        by_cases hik:i=k
        ·subst hik;simp only[if_true] at hb;simp only[show ¬ j=i from fun e=>hij e.symm,if_false] at hb';exact key j hj' (fun e=>hij e.symm) hb' hb
        ·simp only[hik,if_false] at hb;by_cases hjk:j=k
         ·simp only[hjk,if_true] at hb';exact key i hi' hik hb hb'
         ·simp only[hjk,if_false] at hb';exact hn2 i j hi' hj' hij b hb hb'
      ·simp only[E0];exact L4 l k d4 hklt h4
      ·simp[D.isAgg]
  | arr n z l cs hn hs hr=>
   simp only[D.loc] at hl;simp only[D.upd] at hu
   cases hk:l[k]? with
   | none=>simp[hk] at hl
   | some d2=>
    obtain⟨hklt,rfl⟩:=List.getElem?_eq_some_iff.1 hk;simp only[hk] at hl hu
    cases hd:D.loc l[k] path with
    | none=>simp[hd] at hl
    | some od=>
     obtain⟨o,d3⟩:=od;simp only[hd,Option.some.injEq,Prod.mk.injEq] at hl;obtain⟨rfl,rfl⟩:=hl
     cases hud:D.upd l[k] path x with
     | none=>simp[hud] at hu
     | some d4=>
      simp only[hud,Option.some.injEq] at hu;subst hu
      have hFx0:Fx=[]:=by
       rcases harr with h0|h0
       ·exact h0
       ·simp[D.noArr] at h0
      subst hFx0;obtain⟨F',h1,h2,h3,h4,h5⟩:=ih (hr k hklt) hd hud hz List.nodup_nil (by simp) (.inl rfl)
      have hF':F'=[]:=by
       cases F' with
       | nil=>rfl
       | cons b r=>have:=h2 b (by simp);simp at this
      subst hF';obtain⟨_,_,_,hl3⟩:=(hr k hklt).loc hd
      have hlen:((cs.drop (k*z)).take z).length<=z:=by simp;omega
      have hxl:=hx.len
      have hkz:k*z+z<=n*z:=by
       have:=Nat.mul_le_mul_right z (show k+1<=n by omega);rw[Nat.add_mul] at this;omega
      have hxo:o+xs.length<=z:=by omega
      refine⟨[], ?_,by simp,List.nodup_nil,by simp,by simp[D.isAgg]⟩;refine .arr n z (l.set k d4) _ (by simpa using hn) (by rw[K1 _ _ _ (by omega),hs]) (fun j hj=>?_)
      have hj':j<l.length:=by simpa using hj
      by_cases hjk:j=k
      ·subst hjk;simp only[List.getElem_set_self];rw[r9 _ _ _ _ _ (by omega) (by omega)];exact h1
      ·have hjj:(l.set k d4)[j]=l[j]:=by rw[List.getElem_set_ne (fun e=>hjk e.symm)]
       simp only[hjj];rw[X4 _ _ _ _ _ (by omega) ?_]
       ·exact hr j hj'
       ·rcases Nat.lt_or_gt_of_ne hjk with hlt|hlt
        ·left;have:(j+1)*z<=k*z:=Nat.mul_le_mul_right z hlt;rw[Nat.add_mul] at this;omega
        ·right;have:(k+1)*z<=j*z:=Nat.mul_le_mul_right z hlt;rw[Nat.add_mul] at this;omega
  | _=>simp[D.loc] at hl
end Go.Sx
