/-
 Own library: functions to which boxes are lent.
-/
import Derived.Test.YtgilikgghknbhaaMSxApp
import Derived.Laws.StructEq
set_option linter.unusedVariables false
set_option linter.unusedSimpArgs false
set_option linter.unnecessarySimpa false

namespace Go.Sx
variable {P : Program} {C : Ctx} {σ σ' σ1 σ2 : Sg} {a : Act} {w w' : World} {ρ ρ2 : Nat -> Nat} {Fe Fe' Fb Fb2 : Nat -> List Nat}
structure Hand (bx : List (Nat × Bx)) (w : World) (ρ : Nat -> Nat) (G : Nat -> Prop) (Fb : Nat -> List Nat) : Prop where
 box : ∀ id x,lk bx id = some x -> BR w ρ G (fun i=>(lk bx i).isSome = true) (ρ id) x (Fb id)
 boxN : ∀ id,lk bx id = none -> Fb id = []
 nodB : ∀ id,(Fb id).Nodup
 dBB : ∀ id id',id ≠ id' -> ∀ b,b ∈ Fb id -> b ∉ Fb id'
 out : ∀ id b,b ∈ Fb id -> ¬ G b
def FnB (P : Program) (gl : List (Nat × D)) (f : FuncId) (ds : List D) (bx : List (Nat × Bx)) (r : D) (bx' nw : List (Nat × Bx)) : Prop:=
 ∀ (w : World) (G : Nat -> Prop) (ρ : Nat -> Nat) (Fb : Nat -> List Nat) (vs : List Value),
  (∀ g d,(g,d) ∈ gl -> G g /\ ∃ cs e fz,w.heap[g]? = some (.cells cs e fz) /\ Rc w (fun x=>x) (fun _=>False) (fun _=>False) false d cs.toList []) ->
  (∀ b,G b -> b < w.heap.size) ->
  vs.length = ds.length -> (∀ k (h : k < ds.length),VR w ρ G (fun i=>(lk bx i).isSome = true) ds[k] (vs.getD k undef) []) -> Hand bx w ρ G Fb ->
  Calls P f vs.toArray w (fun e w'=>∃ v F ρ' Fb',e = .returned v /\ ExtO (fun b=>∃ id,b ∈ Fb id) w w' /\ (∀ id,(lk bx id).isSome = true -> ρ' id = ρ id) /\ F.Nodup /\
   (∀ b,(b ∈ F ∨ ∃ id,b ∈ Fb' id) -> w.heap.size <= b ∨ ∃ id,b ∈ Fb id) /\ (∀ id,∀ b ∈ F,b ∉ Fb' id) /\ (∀ b ∈ F,b < w'.heap.size) /\
   Hand (nw ++ bx') w' ρ' (fun b=>(G b ∨ w.heap.size <= b ∨ ∃ id,b ∈ Fb id) /\ b ∉ F /\ ¬ ∃ id,b ∈ Fb' id) Fb' /\
   RV w' ρ' (fun b=>(G b ∨ w.heap.size <= b ∨ ∃ id,b ∈ Fb id) /\ b ∉ F /\ ¬ ∃ id,b ∈ Fb' id) (fun i=>(lk (nw ++ bx') i).isSome = true) r v F)
def EndR (rs : List ResultVar) (P : Program) (r : D) (σ : Sg) : Prop:=
 match rs with
 | [rv]=>outS σ rv = some r /\ r.isRef = false /\ RtT P r rv
 | rs=>∃ ds,r = .tup ds /\ ds.length = rs.length /\ (rs.map (srcS σ)).Nodup /\ ∀ k (h : k < rs.length) (h' : k < ds.length),outS σ rs[k] = some ds[k] /\ ds[k].isRef = false /\ RtT P ds[k] rs[k]
theorem EndR.out {fn : Func} {r : D} (st : StW C σ a w ρ Fe Fb) (hend : EndR fn.results.toList P r σ) :
 ∃ v,(results fn a.tmps).run P w = .ok v w /\ ∃ F,F.Nodup /\ (∀ b ∈ F,∃ rv ∈ fn.results.toList,b ∈ (if (srcS σ rv).2 then Fe (srcS σ rv).1 else Fb (srcS σ rv).1)) /\ RV w ρ (gd C Fe Fb) (fun id=>(σ.box id).isSome = true) r v F:=by
 have one : ∀ rv,fn.results.toList = [rv] -> outS σ rv = some r /\ r.isRef = false /\ RtT P r rv ->
  ∃ v,(results fn a.tmps).run P w = .ok v w /\ ∃ F,F.Nodup /\ (∀ b ∈ F,∃ rv ∈ fn.results.toList,b ∈ (if (srcS σ rv).2 then Fe (srcS σ rv).1 else Fb (srcS σ rv).1)) /\ RV w ρ (gd C Fe Fb) (fun id=>(σ.box id).isSome = true) r v F:=by
  rintro rv hrs ⟨h1,h2,h4⟩
  obtain ⟨v,F,hv1,hv2,hv3,hv4⟩:=outS_ok (P:=P) st h1 h2 h4
  refine ⟨v, ?_,F,hv3,fun b hb=>⟨rv,by rw [hrs]; simp,hv4 b hb⟩,(RV_plain h2).2 hv2⟩
  rw [results_run hrs (fun _=>v) w (fun k hk=>by
   have : k = 0:=by simp at hk; omega
   subst this; exact hv1)]
  rfl
 have many : ∀ rs,fn.results.toList = rs -> rs.length ≠ 1 -> (∃ ds,r = .tup ds /\ ds.length = rs.length /\ (rs.map (srcS σ)).Nodup /\ ∀ k (h : k < rs.length) (h' : k < ds.length),outS σ rs[k] = some ds[k] /\ ds[k].isRef = false /\ RtT P ds[k] rs[k]) ->
  ∃ v,(results fn a.tmps).run P w = .ok v w /\ ∃ F,F.Nodup /\ (∀ b ∈ F,∃ rv ∈ fn.results.toList,b ∈ (if (srcS σ rv).2 then Fe (srcS σ rv).1 else Fb (srcS σ rv).1)) /\ RV w ρ (gd C Fe Fb) (fun id=>(σ.box id).isSome = true) r v F:=by
  rintro rs hrs hne ⟨ds',rfl,hl',hnd,hall⟩
  have hk : ∀ k,∃ vF : Value × List Nat,k < rs.length -> ∃ (h : k < rs.length) (h' : k < ds'.length),
   (resV a.tmps rs[k]).run P w = .ok vF.1 w /\
   VR w ρ (gd C Fe Fb) (fun id=>(σ.box id).isSome) ds'[k] vF.1 vF.2 /\ vF.2.Nodup /\ (∀ b ∈ vF.2,b ∈ (if (srcS σ rs[k]).2 then Fe (srcS σ rs[k]).1 else Fb (srcS σ rs[k]).1)):=by
   intro k
   by_cases hk : k < rs.length
   · have hk' : k < ds'.length:=by omega
     obtain ⟨h1,h2,h4⟩:=hall k hk hk'
     obtain ⟨v,F,q⟩:=outS_ok (P:=P) st h1 h2 h4
     exact ⟨(v,F),fun _=>⟨hk,hk',q⟩⟩
   · exact ⟨(undef,[]),fun h=>absurd h hk⟩
  obtain ⟨vF,hk⟩:=Classical.skolem.1 hk
  have hdis : ∀ j k,j < rs.length -> k < rs.length -> j ≠ k -> ∀ b,b ∈ (vF j).2 -> b ∉ (vF k).2:=by
   intro j k hj hkk hjk b hb hb'
   obtain ⟨h,h',q1,q2,q3,q4⟩:=hk j hj
   obtain ⟨g,g',p1,p2,p3,p4⟩:=hk k hkk
   have e1:=q4 b hb
   have e2:=p4 b hb'
   have hne : srcS σ rs[j] ≠ srcS σ rs[k]:=by
    intro he
    have:=(List.getElem_inj (h₀:=by simpa using hj) (h₁:=by simpa using hkk) hnd).1 (by simpa using he)
    exact hjk this
   generalize srcS σ rs[j] = x at e1 hne
   generalize srcS σ rs[k] = y at e2 hne
   obtain ⟨x1,x2⟩:=x
   obtain ⟨y1,y2⟩:=y
   cases x2 <;> cases y2 <;> simp at e1 e2 hne
   · exact st.dBB x1 y1 hne b e1 e2
   · exact st.dEB y1 x1 b e2 e1
   · exact st.dEB x1 y1 b e1 e2
   · exact st.dEE x1 y1 hne b e1 e2
  refine ⟨.tuple ((List.range rs.length).map (fun k=>(vF k).1)).toArray, ?_,(List.range ds'.length).flatMap (fun k=>(vF k).2), ?_, ?_,_,(fun k=>(vF k).2),rfl,by simp [hl'],rfl, ?_⟩
  · rw [results_run hrs (fun k=>(vF k).1) w (fun k hk'=>by obtain ⟨_,_,q,_⟩:=hk k hk'; exact q),if_neg hne]
  · refine flat_nodup_mk (fun k hkk=>?_) (fun j k hj hkk=>hdis j k (by omega) (by omega))
    obtain ⟨h,h',q1,q2,q3,q4⟩:=hk k (by omega)
    exact q3
  · intro b hb
    obtain ⟨k,hk1,hk2⟩:=List.mem_flatMap.1 hb
    have hkl : k < rs.length:=by have:=List.mem_range.1 hk1; omega
    obtain ⟨h,h',q1,q2,q3,q4⟩:=hk k hkl
    exact ⟨rs[k],by rw [hrs]; exact List.getElem_mem hkl,q4 b hk2⟩
  · intro k hkk
    obtain ⟨h,h',q1,q2,q3,q4⟩:=hk k (by omega)
    obtain ⟨h1,h2,h4⟩:=hall k (by omega) hkk
    refine ⟨h2, ?_⟩
    have e : ((List.range rs.length).map (fun k=>(vF k).1)).getD k undef = (vF k).1:=by
     have : k < rs.length:=by omega
     simp [List.getD_eq_getElem?_getD,List.getElem?_map,List.getElem?_range this]
    rw [e]
    exact q2
 cases hrs : fn.results.toList with
 | nil=>rw [hrs] at hend; rw [<- hrs]; exact many [] hrs (by simp) hend
 | cons rv rest=>
  cases rest with
  | nil=>rw [hrs] at hend; rw [<- hrs]; exact one rv hrs hend
  | cons rv2 rest=>rw [hrs] at hend; rw [<- hrs]; exact many _ hrs (by simp) hend
def okBxP (ids : List Nat) : List (Nat × Bx) -> Prop
 | []=>True
 | (_,.var d) :: r=>d.okB ids = true /\ okBxP ids r
 | (_,.mp l) :: r=>(∀ kv ∈ l,kv.1.okB ids = true /\ kv.2.okB ids = true) /\ okBxP ids r
theorem okBxP_get {ids : List Nat} {l : List (Nat × Bx)} (h : okBxP ids l) {t : Nat} {b : Bx} (hd : lk l t = some b) : (∃ d,b = .var d /\ d.okB ids = true) ∨ ∃ m,b = .mp m /\ ∀ kv ∈ m,kv.1.okB ids = true /\ kv.2.okB ids = true:=by
 induction l with
 | nil=>simp [lk] at hd
 | cons x r ih=>
  obtain ⟨k,e⟩:=x
  rw [lk_cons] at hd
  cases e with
  | mp e=>
   by_cases hk : k = t
   · simp only [hk,if_true,Option.some.injEq] at hd; subst hd; exact .inr ⟨e,rfl,h.1⟩
   · simp only [hk,if_false] at hd; exact ih h.2 hd
  | var e=>
   by_cases hk : k = t
   · simp only [hk,if_true,Option.some.injEq] at hd; subst hd; exact .inl ⟨e,rfl,h.1⟩
   · simp only [hk,if_false] at hd; exact ih h.2 hd
theorem BR.okB {ids : List Nat} {G L : Nat -> Prop} {b : Nat} {x : Bx} {F : List Nat} (h : BR w ρ G L b x F) (hx : (∃ d,x = .var d /\ d.okB ids = true) ∨ ∃ m,x = .mp m /\ ∀ kv ∈ m,kv.1.okB ids = true /\ kv.2.okB ids = true) : BR w ρ G (fun id=>memB ids id = true /\ L id) b x F:=by
 rcases hx with ⟨d,rfl,hd⟩ | ⟨m,rfl,hm⟩
 · obtain ⟨cs,e,F',h1,h2,h3⟩:=h
   exact ⟨cs,e,F',h1,h2.okB hd,h3⟩
 · obtain ⟨h1,es,clock,h2,h3,h4⟩:=h
   refine ⟨h1,es,clock,h2,h3,fun k hk=>?_⟩
   obtain ⟨q1,q2,q3⟩:=h4 k hk
   obtain ⟨o1,o2⟩:=hm _ (List.getElem_mem hk)
   exact ⟨q1.okB o1,q2.okB o2,q3⟩
theorem RV.okB {ids : List Nat} {G L : Nat -> Prop} {r : D} {v : Value} {F : List Nat} (h : RV w ρ G L r v F) (hr : r.okB ids = true) : RV w ρ G (fun id=>memB ids id = true /\ L id) r v F:=by
 cases r with
 | tup ds=>
  obtain ⟨vs,Fs,h1,h2,h3,h4⟩:=h
  exact ⟨vs,Fs,h1,h2,h3,fun k hk=>⟨(h4 k hk).1,(h4 k hk).2.okB (okBs_get ds (by simpa [D.okB] using hr) k hk)⟩⟩
 | _=>exact ⟨h.1,h.2.okB hr⟩
def EndsB (rs : List ResultVar) (P : Program) (r : D) (ids : List Nat) (bx' : List (Nat × Bx)) (e : Exit) (σ : Sg) : Prop:=
 (e = .normal ∨ e = .ret) /\ EndR rs P r σ /\ r.okB ids = true /\ keepB ids σ.bx = bx' /\ okBxP ids bx' /\ (∀ rv ∈ rs,(srcS σ rv).2 = false -> memB ids (srcS σ rv).1 = false)
theorem lk_append {α : Type} (l r : List (Nat × α)) (t : Nat) : lk (l ++ r) t = (match lk l t with | some x=>some x | none=>lk r t):=by
 induction l with
 | nil=>simp [lk]
 | cons x l ih=>
  obtain ⟨k,d⟩:=x
  simp only [List.cons_append,lk_cons,ih]
  split <;> simp_all
theorem memN_fst {bx : List (Nat × Bx)} {id : Nat} (h : (lk bx id).isSome = true) : memN (bx.map Prod.fst) id = true:=by
 induction bx with
 | nil=>cases h
 | cons x r ih=>
  obtain ⟨k,b⟩:=x
  rw [lk_cons] at h
  simp only [memN,List.map_cons,List.any_cons,Bool.or_eq_true]
  by_cases hk : k = id
  · subst hk; left; simp
  · simp only [hk,if_false] at h; exact .inr (ih h)
theorem FnB.of {gl : List (Nat × D)} {f : FuncId} {fn : Func} {c : Code} {ds : List D} {bx bx' nw : List (Nat × Bx)} {r : D} {n : Nat} {ids : List Nat} (hf : P.funcs[f]? = some fn) (hb : fn.body = some c) (hnn : fn.ntmps = n)
 (hd : ds.all (fun d=>!d.isRef) = true) (hn : ds.length <= n)
 (h : ∀ C : Ctx,C.gl = gl -> (∀ id b,C.pin id = some b -> memN (bx.map Prod.fst) id = true) -> W P C c (EndsB fn.results.toList P r ids (nw ++ bx')) ⟨n,ini 0 ds,bx⟩) : FnB P gl f ds bx r bx' nw:=by
 subst hnn
 intro w G ρ0 Fb0 vs hgl hGlt hl hv hand
 refine calls_of_wp hf hb ?_
 let C : Ctx:=⟨w,fun b=>b < w.heap.size /\ ¬ ∃ id,b ∈ Fb0 id,fun b=>G b ∨ w.heap.size <= b ∨ ∃ id,b ∈ Fb0 id,gl,none,fun id=>if (lk bx id).isSome then some (ρ0 id) else none,[]⟩
 have hget : ∀ t d,(⟨fn.ntmps,ini 0 ds,bx⟩ : Sg).get t = some d -> ∃ h : t < ds.length,ds[t] = d:=by
  intro t d hd
  simp only [Sg.get,lk_ini,Nat.zero_le,if_true,Nat.sub_zero] at hd
  obtain ⟨h,e⟩:=List.getElem?_eq_some_iff.1 hd
  exact ⟨h,e⟩
 have hown : ∀ b,own (fun _=>[]) Fb0 b -> ∃ id,b ∈ Fb0 id:=by
  rintro b (⟨_,h⟩ | h)
  · cases h
  · exact h
 have hbx : ∀ id,(⟨fn.ntmps,ini 0 ds,bx⟩ : Sg).box id = lk bx id:=fun id=>rfl
 have hFlt : ∀ id b,b ∈ Fb0 id -> b < w.heap.size:=fun id b hb=>by
  cases hx : lk bx id with
  | none=>rw [hand.boxN id hx] at hb; cases hb
  | some x=>exact (hand.box id x hx).lt b hb
 have hG2 : ∀ b,G b -> gd C (fun _=>[]) Fb0 b:=fun b hb=>⟨.inl hb,fun ho=>by obtain ⟨id,hid⟩:=hown b ho; exact hand.out id b hid hb⟩
 have hpin0 : ∀ id b,C.pin id = some b -> ρ0 id = b /\ (lk bx id).isSome = true:=fun id b hp=>by
  by_cases hx : (lk bx id).isSome = true
  · simp only [C,hx,if_true,Option.some.injEq] at hp; exact ⟨hp,hx⟩
  · simp [C,hx] at hp
 have st : StW C ⟨fn.ntmps,ini 0 ds,bx⟩ { tmps:=vs.toArray ++ Array.replicate (fn.ntmps - vs.toArray.size) undef,defers:=[] } w ρ0 (fun _=>[]) Fb0:=by
  refine ⟨?_,rfl,(fun id b hp=>hpin0 id b hp), ?_,fun _ _=>rfl, ?_,hand.boxN,fun _=>List.nodup_nil,hand.nodB,(fun _ _ _ _ h=>by cases h),(fun _ _ _ h=>by cases h),hand.dBB,fun b hb hc=>hc.2 (hown b hb), ?_,rfl,⟨rfl,Nat.le_refl _⟩,rfl,Nat.le_refl _, ?_,fun b hb=>.inr (.inl hb),fun b hb=>.inr (.inr (hown b hb))⟩
  · simp [hl]; omega
  · intro t d hd'
    obtain ⟨ht,rfl⟩:=hget t d hd'
    have hr : ds[t].isRef = false:=by
     have:=List.all_eq_true.1 hd ds[t] (List.getElem_mem ht)
     simpa using this
    refine (SR_plain hr).2 ⟨vs.getD t undef, ?_,(hv t ht).mono (fun _ _ _=>rfl) (fun b hb _=>hG2 b hb) (fun id hid=>⟨hid,rfl⟩)⟩
    have htv : t < vs.length:=by omega
    rw [Array.getElem?_append_left (by simpa using htv)]
    simp [htv]
  · intro id x hx
    exact (hand.box id x hx).mono (fun _ _ _=>rfl) (fun b hb _=>hG2 b hb) (fun id hid=>⟨hid,rfl⟩)
  · intro b hb; exact ⟨rfl,hb.1⟩
  · intro g d hg
    obtain ⟨h1,cs,e,fz,h2,h3⟩:=hgl g d hg
    exact ⟨⟨(Array.getElem?_eq_some_iff.1 h2).1,fun ⟨id,hid⟩=>hand.out id g hid h1⟩,.inl h1,cs,e,fz,h2,h3⟩
 refine Go.Code.wp_mono ?_ (wpIn_wide.1 (h C rfl (fun id b hp=>memN_fst (hpin0 id b hp).2) _ w ⟨_,_,_,st⟩))
 rintro e a' w' ⟨σ',⟨ρ,Fe,Fb,st'⟩,he,hend,hokr,hkeep,hokb,hsrc⟩
 have hlt':=st'.lt
 have hl' : ∀ u,lk (nw ++ bx') u = if memB ids u then σ'.box u else none:=fun u=>by rw [<- hkeep]; exact lk_keepB ids σ'.bx u
 obtain ⟨v,h1,F,h2,h3,h4⟩:=EndR.out st' hend
 let Fb' : Nat -> List Nat:=fun id=>if memB ids id then Fb id else []
 have hsub : ∀ id,∀ b ∈ Fb' id,memB ids id = true /\ b ∈ Fb id:=fun id b hm=>by
  by_cases hi : memB ids id = true
  · exact ⟨hi,by simpa [Fb',hi] using hm⟩
  · simp [Fb',hi] at hm
 have hFo : ∀ b ∈ F,own Fe Fb b:=fun b hb=>by
  obtain ⟨rv,_,hx⟩:=h3 b hb
  split at hx
  · exact .inl ⟨_,hx⟩
  · exact .inr ⟨_,hx⟩
 have hnew : ∀ b,own Fe Fb b -> w.heap.size <= b ∨ ∃ id,b ∈ Fb0 id:=fun b hb=>by
  by_cases hbl : w.heap.size <= b
  · exact .inl hbl
  · right
    by_cases hx : ∃ id,b ∈ Fb0 id
    · exact hx
    · exact absurd ⟨by omega,hx⟩ (st'.new b hb)
 have hFd : ∀ id,∀ b ∈ F,b ∉ Fb' id:=fun id b hb hb'=>by
  obtain ⟨hi,hb'⟩:=hsub id b hb'
  obtain ⟨rv,hrv,hx⟩:=h3 b hb
  split at hx
  · exact st'.dEB _ id b hx hb'
  · rename_i hs
    have:=hsrc rv hrv (by simpa using hs)
    by_cases hii : (srcS σ' rv).1 = id
    · rw [hii] at this; rw [this] at hi; cases hi
    · exact st'.dBB _ _ hii b hx hb'
 have hgd : ∀ b,gd C Fe Fb b -> (G b ∨ w.heap.size <= b ∨ ∃ id,b ∈ Fb0 id) /\ b ∉ F /\ ¬ ∃ id,b ∈ Fb' id:=fun b hb=>
  ⟨hb.1,fun hm=>hb.2 (hFo b hm),fun ⟨id,hid⟩=>hb.2 (.inr ⟨id,(hsub id b hid).2⟩)⟩
 have hL : ∀ id,(memB ids id = true /\ (σ'.box id).isSome = true) -> (lk (nw ++ bx') id).isSome = true:=fun id ⟨q1,q2⟩=>by rw [hl',if_pos q1]; exact q2
 have hρ : ∀ id,(lk bx id).isSome = true -> ρ id = ρ0 id:=fun id hx=>(st'.pin id (ρ0 id) (by simp [C,hx])).1
 have hext : ExtO (fun b=>∃ id,b ∈ Fb0 id) w w':=⟨st'.os,⟨st'.tape.tp,st'.tape.dr⟩,st'.output,st'.grown,fun b hb hn=>(st'.kept b ⟨hb,hn⟩).1⟩
 have hhand : Hand (nw ++ bx') w' ρ (fun b=>(G b ∨ w.heap.size <= b ∨ ∃ id,b ∈ Fb0 id) /\ b ∉ F /\ ¬ ∃ id,b ∈ Fb' id) Fb':=by
  refine ⟨fun id x hx=>?_,fun id hx=>?_,fun id=>?_,fun id id' hne b hb hb'=>st'.dBB id id' hne b (hsub id b hb).2 (hsub id' b hb').2,fun id b hb hc=>hc.2.2 ⟨id,hb⟩⟩
  · have hx':=hl' id
    rw [hx] at hx'
    by_cases hm : memB ids id = true
    · rw [if_pos hm] at hx'
      have hF' : Fb' id = Fb id:=by simp [Fb',hm]
      rw [hF']
      exact ((st'.bx id x hx'.symm).okB (okBxP_get hokb hx)).mono (fun _ _ _=>rfl) (fun b hb _=>hgd b hb) (fun i hi=>⟨hL i hi,rfl⟩)
    · rw [if_neg hm] at hx'; cases hx'
  · by_cases hm : memB ids id = true
    · have hx':=hl' id
      rw [hx,if_pos hm] at hx'
      simp only [Fb',hm,if_true]
      exact st'.bxN id hx'.symm
    · simp [Fb',hm]
  · show (if memB ids id then Fb id else []).Nodup
    split
    · exact st'.nodB id
    · exact List.nodup_nil
 have hall : ∃ v' F ρ' Fb',(Ending.returned v) = .returned v' /\ ExtO (fun b=>∃ id,b ∈ Fb0 id) w w' /\ (∀ id,(lk bx id).isSome = true -> ρ' id = ρ0 id) /\ F.Nodup /\
  (∀ b,(b ∈ F ∨ ∃ id,b ∈ Fb' id) -> w.heap.size <= b ∨ ∃ id,b ∈ Fb0 id) /\ (∀ id,∀ b ∈ F,b ∉ Fb' id) /\ (∀ b ∈ F,b < w'.heap.size) /\
  Hand (nw ++ bx') w' ρ' (fun b=>(G b ∨ w.heap.size <= b ∨ ∃ id,b ∈ Fb0 id) /\ b ∉ F /\ ¬ ∃ id,b ∈ Fb' id) Fb' /\
  RV w' ρ' (fun b=>(G b ∨ w.heap.size <= b ∨ ∃ id,b ∈ Fb0 id) /\ b ∉ F /\ ¬ ∃ id,b ∈ Fb' id) (fun i=>(lk (nw ++ bx') i).isSome = true) r v' F:=
  ⟨v,F,ρ,Fb',rfl,hext,hρ,h2,fun b hb=>hnew b (hb.elim (hFo b) (fun ⟨id,hid⟩=>.inr ⟨id,(hsub id b hid).2⟩)),hFd,fun b hb=>hlt' b (hFo b hb),hhand,
   (h4.okB hokr).mono (fun _ _ _=>rfl) (fun b hb _=>hgd b hb) (fun i hi=>⟨hL i hi,rfl⟩)⟩
 rcases he with rfl | rfl
 · exact ⟨st'.defs,v,h1,hall⟩
 · exact ⟨st'.defs,v,h1,hall⟩
end Go.Sx

namespace Go.Sx
variable {P : Program} {C : Ctx} {σ σ' σ1 σ2 : Sg} {a : Act} {w w' : World} {ρ ρ2 : Nat -> Nat} {Fe Fe' Fb Fb2 : Nat -> List Nat}
def mlk (ml : List (Nat × Nat)) (i : Nat) : Nat:=match lk ml i with
 | some k=>k
 | none=>i
def Bx.ren (m : Nat -> Nat) : Bx -> Bx
 | .var d=>.var (d.ren m)
 | .mp l=>.mp (l.map fun kv=>(kv.1.ren m,kv.2.ren m))
def renBx (m : Nat -> Nat) : List (Nat × Bx) -> List (Nat × Bx)
 | []=>[]
 | (k,x) :: r=>(m k,x.ren m) :: renBx m r
def hasBx (l : List (Nat × Bx)) : List (Nat × Bx) -> Prop
 | []=>True
 | (k,y) :: r=>lk l k = some y /\ hasBx l r
def freshB (l : List (Nat × Bx)) : List (Nat × Bx) -> Bool
 | []=>true
 | (k,_) :: r=>(lk l k).isNone && freshB l r
def injB (m : Nat -> Nat) (ks : List Nat) : Bool:=ks.all fun i=>ks.all fun j=>!(Nat.beq (m i) (m j)) || Nat.beq i j
def lendB (c : List (Nat × Bx)) : List (Nat × Bx) -> List (Nat × Bx)
 | []=>[]
 | (k,x) :: r=>(k,match lk c k with | some y=>y | none=>x) :: lendB c r
def scrubL : List Nat -> List (Nat × D) -> List (Nat × D)
 | [],l=>l
 | id :: r,l=>scrubL r (scrubs id l)
theorem scrubB_cases (id : Nat) (d : D) : (scrubB id d = d /\ ∀ off path,d ≠ .alb id off path) ∨ (scrubB id d = .dead /\ ∃ off path,d = .alb id off path):=by
 cases d with
 | alb i off path=>
  by_cases h : i = id
  · subst h; right; simp [scrubB]
  · left; simp [scrubB,nbeq h,h]
 | _=>left; exact ⟨rfl,fun _ _ h=>by cases h⟩
theorem scrubL_get (ids : List Nat) : ∀ (l : List (Nat × D)) (u : Nat) (d : D),lk (scrubL ids l) u = some d ->
 ∃ d0,lk l u = some d0 /\ (d = d0 /\ (∀ id off path,d0 = .alb id off path -> id ∉ ids) ∨ d = .dead /\ ∃ id off path,d0 = .alb id off path):=by
 induction ids with
 | nil=>intro l u d h; exact ⟨d,h,.inl ⟨rfl,fun _ _ _ _=>by simp⟩⟩
 | cons id r ih=>
  intro l u d h
  obtain ⟨d1,h1,h2⟩:=ih (scrubs id l) u d h
  rw [lk_scrubs,Option.map_eq_some_iff] at h1
  obtain ⟨d0,h0,rfl⟩:=h1
  refine ⟨d0,h0, ?_⟩
  rcases scrubB_cases id d0 with ⟨he,hn⟩ | ⟨he,off,path,rfl⟩
  · rw [he] at h2
    rcases h2 with ⟨rfl,h2⟩ | h2
    · refine .inl ⟨rfl,fun i off path hd=>?_⟩
      have:=h2 i off path hd
      intro hm
      rcases List.mem_cons.1 hm with rfl | hm
      · exact hn off path hd
      · exact this hm
    · exact .inr h2
  · right
    refine ⟨?_,id,off,path,rfl⟩
    rw [he] at h2
    rcases h2 with ⟨rfl,_⟩ | ⟨_,_,_,_,h2⟩
    · rfl
    · cases h2
theorem scrubL_none (ids : List Nat) : ∀ (l : List (Nat × D)) (u : Nat),lk (scrubL ids l) u = none -> lk l u = none:=by
 induction ids with
 | nil=>intro l u h; exact h
 | cons id r ih=>
  intro l u h
  have:=ih _ _ h
  rw [lk_scrubs,Option.map_eq_none_iff] at this
  exact this
theorem lk_lendB (c l : List (Nat × Bx)) (u : Nat) : lk (lendB c l) u = (lk l u).map fun x=>(match lk c u with | some y=>y | none=>x):=by
 induction l with
 | nil=>rfl
 | cons x r ih=>
  obtain ⟨k,d⟩:=x
  simp only [lendB,lk_cons,ih]
  by_cases hk : k = u
  · subst hk; simp
  · simp [hk]
theorem lk_mem {l : List (Nat × Bx)} {k : Nat} {x : Bx} (h : lk l k = some x) : (k,x) ∈ l:=by
 induction l with
 | nil=>cases h
 | cons y r ih=>
  obtain ⟨k',d⟩:=y
  rw [lk_cons] at h
  by_cases hk : k' = k
  · subst hk; simp at h; subst h; simp
  · simp only [hk,if_false] at h; exact List.mem_cons_of_mem _ (ih h)
theorem lk_key {l : List (Nat × Bx)} {k : Nat} : (lk l k).isSome = true ↔ k ∈ l.map Prod.fst:=by
 induction l with
 | nil=>simp [lk]
 | cons y r ih=>
  obtain ⟨k',d⟩:=y
  rw [lk_cons]
  by_cases hk : k' = k
  · subst hk; simp
  · simp only [hk,if_false,ih,List.map_cons,List.mem_cons]
    exact ⟨.inr,fun h=>h.resolve_left (fun e=>hk e.symm)⟩
theorem lk_renBx {m : Nat -> Nat} {l : List (Nat × Bx)} {i : Nat} (h : ∀ j ∈ l.map Prod.fst,m j = m i -> j = i) : lk (renBx m l) (m i) = (lk l i).map (Bx.ren m):=by
 induction l with
 | nil=>rfl
 | cons y r ih=>
  obtain ⟨k',d⟩:=y
  simp only [renBx,lk_cons]
  by_cases hk : k' = i
  · subst hk; simp
  · have hm : m k' ≠ m i:=fun e=>hk (h k' (by simp) e)
    simp only [hm,hk,if_false]
    exact ih (fun j hj=>h j (by simp at hj ⊢; exact .inr hj))
theorem keys_renBx (m : Nat -> Nat) (l : List (Nat × Bx)) : (renBx m l).map Prod.fst = (l.map Prod.fst).map m:=by
 induction l with
 | nil=>rfl
 | cons y r ih=>obtain ⟨k',d⟩:=y; simp [renBx,ih]
theorem hasBx_get {l c : List (Nat × Bx)} (h : hasBx l c) : ∀ k y,(k,y) ∈ c -> lk l k = some y:=by
 induction c with
 | nil=>intro k y hm; cases hm
 | cons x r ih=>
  obtain ⟨k',d⟩:=x
  intro k y hm
  rcases List.mem_cons.1 hm with he | hm
  · cases he; exact h.1
  · exact ih h.2 k y hm
theorem renBx_mem {m : Nat -> Nat} {l : List (Nat × Bx)} {k : Nat} {x : Bx} (h : (k,x) ∈ l) : (m k,x.ren m) ∈ renBx m l:=by
 induction l with
 | nil=>cases h
 | cons y r ih=>
  obtain ⟨k',d⟩:=y
  simp only [renBx]
  rcases List.mem_cons.1 h with he | hm
  · cases he; simp
  · exact List.mem_cons_of_mem _ (ih hm)
theorem freshB_get {l c : List (Nat × Bx)} (h : freshB l c = true) : ∀ k,k ∈ c.map Prod.fst -> lk l k = none:=by
 induction c with
 | nil=>intro k hm; cases hm
 | cons x r ih=>
  obtain ⟨k',d⟩:=x
  simp only [freshB,Bool.and_eq_true,Option.isNone_iff_eq_none] at h
  intro k hm
  simp only [List.map_cons,List.mem_cons] at hm
  rcases hm with rfl | hm
  · exact h.1
  · exact ih h.2 k hm
theorem injB_get {m : Nat -> Nat} {ks : List Nat} (h : injB m ks = true) : ∀ i ∈ ks,∀ j ∈ ks,m i = m j -> i = j:=by
 intro i hi j hj he
 have h1:=List.all_eq_true.1 (List.all_eq_true.1 h i hi) j hj
 simp only [Bool.or_eq_true,Bool.not_eq_true'] at h1
 rcases h1 with h1 | h1
 · rw [he] at h1; simp at h1
 · exact Nat.eq_of_beq_eq_true h1
theorem BR.ren {G L L' : Nat -> Prop} {m : Nat -> Nat} {b : Nat} {x : Bx} {F : List Nat} (h : BR w ρ G L b x F) (hL : ∀ i,L i -> L' (m i) /\ ρ2 (m i) = ρ i) : BR w ρ2 G L' b (x.ren m) F:=by
 cases x with
 | var d=>obtain ⟨cs,e,F',h1,h2,h3⟩:=h; exact ⟨cs,e,F',h1,h2.ren hL,h3⟩
 | mp l=>
  obtain ⟨h1,es,clock,h2,h3,h4⟩:=h
  refine ⟨h1,es,clock,h2,by simpa using h3,fun k hk=>?_⟩
  have hk' : k < l.length:=by simpa using hk
  obtain ⟨q1,q2,q3⟩:=h4 k hk'
  simp only [List.getElem_map]
  exact ⟨q1.ren hL,q2.ren hL,q3⟩
theorem BR.unren {G L L' : Nat -> Prop} {m : Nat -> Nat} {b : Nat} {x : Bx} {F : List Nat} (h : BR w ρ G L b (x.ren m) F) (hL : ∀ i,L (m i) -> L' i /\ ρ2 i = ρ (m i)) : BR w ρ2 G L' b x F:=by
 cases x with
 | var d=>obtain ⟨cs,e,F',h1,h2,h3⟩:=h; exact ⟨cs,e,F',h1,h2.unren rfl hL,h3⟩
 | mp l=>
  obtain ⟨h1,es,clock,h2,h3,h4⟩:=h
  refine ⟨h1,es,clock,h2,by simpa using h3,fun k hk=>?_⟩
  obtain ⟨q1,q2,q3⟩:=h4 k (by simpa using hk)
  simp only [List.getElem_map] at q1 q2
  exact ⟨q1.unren hL,q2.unren hL,q3⟩
inductive EvB (gl : List (Nat × D)) (σ : Sg) (m : Nat -> Nat) (ids : List Nat) : List Operand -> List D -> Prop
 | nil : EvB gl σ m ids [] []
 | cons {x : Operand} {d d' : D} {xs : List Operand} {ds : List D} (h : ev gl σ x = some d') (hp : d'.pur = true) (he : d.ren m = d') (ho : d.okB ids = true) (t : EvB gl σ m ids xs ds) : EvB gl σ m ids (x :: xs) (d :: ds)
 | nils {x : Operand} {z : Nat} {xs : List Operand} {ds : List D} (h : ev gl σ x = some .nils) (t : EvB gl σ m ids xs ds) : EvB gl σ m ids (x :: xs) (.sl none z [] :: ds)
theorem EvB.len {gl : List (Nat × D)} {m : Nat -> Nat} {ids : List Nat} {xs : List Operand} {ds : List D} (h : EvB gl σ m ids xs ds) : xs.length = ds.length:=by
 induction h with
 | nil=>rfl
 | cons _ _ _ _ _ ih=>simp [ih]
 | nils _ _ ih=>simp [ih]
theorem EvB.ok (st : StW C σ a w ρ Fe Fb) {m : Nat -> Nat} {ids : List Nat} {xs : List Operand} {ds : List D} (h : EvB C.gl σ m ids xs ds) :
 ∀ k (hk : k < ds.length),VR w (fun i=>ρ (m i)) (gd C Fe Fb) (fun i=>memB ids i = true /\ (σ.box (m i)).isSome = true) ds[k] ((xs.map a.eval).getD k undef) []:=by
 induction h with
 | nil=>intro k hk; simp at hk
 | cons h hp he ho t ih=>
  intro k hk
  cases k with
  | zero=>
   obtain ⟨F,hv,_⟩:=ev_ok st h (pur_ref hp)
   have hF:=hv.pur hp
   rw [hF] at hv
   subst he
   have h1 : VR w (fun i=>ρ (m i)) (gd C Fe Fb) (fun i=>(σ.box (m i)).isSome = true) _ (a.eval _) []:=hv.unren (fun i hi=>⟨hi,rfl⟩)
   simpa using h1.okB ho
  | succ k=>simpa using ih k (by simpa using hk)
 | nils h t ih=>
  intro k hk
  cases k with
  | zero=>
   obtain ⟨F,hv,_⟩:=ev_ok st h rfl
   simp only [VR,D.isAgg,Bool.false_eq_true,if_false] at hv
   have:=hv.nil_val
   simp only [List.map_cons,List.getD_cons_zero,List.getElem_cons_zero,VR,D.isAgg,Bool.false_eq_true,if_false]
   rw [this]
   exact .slN none _
  | succ k=>simpa using ih k (by simpa using hk)
open Classical in
theorem StW.callB (st : StW C σ a w ρ Fe Fb) {m : Nat -> Nat} {bx bx' nw : List (Nat × Bx)} (hlk : hasBx σ.bx (renBx m bx)) (hob : okBxP (bx.map Prod.fst) bx)
 (hk : bx'.map Prod.fst = bx.map Prod.fst) (hfr : freshB σ.bx (renBx m nw) = true) (hinj : injB m ((nw ++ bx').map Prod.fst) = true) :
 Hand bx w (fun i=>ρ (m i)) (gd C Fe Fb) (fun i=>if (lk bx i).isSome then Fb (m i) else []) /\
 ∀ (w' : World) (F : List Nat) (ρ' : Nat -> Nat) (Fb' : Nat -> List Nat),ExtO (fun b=>∃ id,b ∈ (if (lk bx id).isSome then Fb (m id) else [])) w w' -> (∀ id,(lk bx id).isSome = true -> ρ' id = ρ (m id)) -> F.Nodup ->
  (∀ b,(b ∈ F ∨ ∃ id,b ∈ Fb' id) -> w.heap.size <= b ∨ ∃ id,b ∈ (if (lk bx id).isSome then Fb (m id) else [])) -> (∀ id,∀ b ∈ F,b ∉ Fb' id) -> (∀ b ∈ F,b < w'.heap.size) ->
  Hand (nw ++ bx') w' ρ' (fun b=>(gd C Fe Fb b ∨ w.heap.size <= b ∨ ∃ id,b ∈ (if (lk bx id).isSome then Fb (m id) else [])) /\ b ∉ F /\ ¬ ∃ id,b ∈ Fb' id) Fb' ->
  ∃ ρ2 Fb2,StW (C.less F) ⟨σ.n,scrubL ((renBx m bx).map Prod.fst) σ.env,renBx m nw ++ lendB (renBx m bx') σ.bx⟩ a w' ρ2 Fe Fb2 /\
   (∀ r v,RV w' ρ' (fun b=>(gd C Fe Fb b ∨ w.heap.size <= b ∨ ∃ id,b ∈ (if (lk bx id).isSome then Fb (m id) else [])) /\ b ∉ F /\ ¬ ∃ id,b ∈ Fb' id) (fun i=>(lk (nw ++ bx') i).isSome = true) r v F ->
    RV w' ρ2 (fun b=>gd C Fe Fb2 b /\ b ∉ F) (fun i=>(lk (renBx m nw ++ lendB (renBx m bx') σ.bx) i).isSome = true) (r.ren m) v F) /\
   (∀ u,∀ b ∈ F,b ∉ Fe u) /\ (∀ id,∀ b ∈ F,b ∉ Fb2 id) /\ (∀ b ∈ F,¬ C.keep b) /\ (∀ b ∈ F,C.ok b):=by
 have hlt:=st.lt
 have hij:=injB_get hinj
 have hkey2 : ∀ i,i ∈ (nw ++ bx').map Prod.fst ↔ i ∈ nw.map Prod.fst ∨ i ∈ bx.map Prod.fst:=fun i=>by rw [List.map_append,List.mem_append,hk]
 have hb1 : ∀ i x,lk bx i = some x -> σ.box (m i) = some (x.ren m):=fun i x hx=>hasBx_get hlk _ _ (renBx_mem (lk_mem hx))
 have hbS : ∀ i,i ∈ bx.map Prod.fst -> (σ.box (m i)).isSome = true:=fun i hi=>by
  obtain ⟨x,hx⟩:=Option.isSome_iff_exists.1 (lk_key.2 hi)
  rw [hb1 i x hx]; rfl
 have hnS : ∀ i,i ∈ nw.map Prod.fst -> σ.box (m i) = none:=fun i hi=>freshB_get hfr _ (by rw [keys_renBx]; exact List.mem_map_of_mem hi)
 have hFc : ∀ i b,b ∈ (if (lk bx i).isSome then Fb (m i) else []) -> i ∈ bx.map Prod.fst /\ b ∈ Fb (m i):=fun i b hb=>by
  by_cases h : (lk bx i).isSome = true
  · rw [if_pos h] at hb; exact ⟨lk_key.1 h,hb⟩
  · rw [if_neg h] at hb; cases hb
 have hmem : ∀ i,memB (bx.map Prod.fst) i = true -> (lk bx i).isSome = true:=fun i hi=>by
  rw [lk_key]
  simp only [memB,List.any_eq_true] at hi
  obtain ⟨j,hj,he⟩:=hi
  rw [Nat.eq_of_beq_eq_true he]; exact hj
 refine ⟨⟨fun id x hx=>?_,fun id hx=>by simp [hx],fun id=>?_,fun id id' hne b hb hb'=>?_,fun id b hb hg=>hg.2 (.inr ⟨m id,(hFc id b hb).2⟩)⟩, ?_⟩
 · have h1:=st.bx _ _ (hb1 id x hx)
   have h2 : BR w (fun i=>ρ (m i)) (gd C Fe Fb) (fun i=>(σ.box (m i)).isSome = true) (ρ (m id)) x (Fb (m id)):=h1.unren (fun i hi=>⟨hi,rfl⟩)
   have h3:=(h2.okB (okBxP_get hob hx)).mono (w':=w) (G':=gd C Fe Fb) (L':=fun i=>(lk bx i).isSome = true) (ρ':=fun i=>ρ (m i)) (fun _ _ _=>rfl) (fun b hb _=>hb) (fun i hi=>⟨hmem i hi.1,rfl⟩)
   rw [if_pos (by rw [hx]; rfl)]
   exact h3
 · show (if (lk bx id).isSome then Fb (m id) else []).Nodup
   split
   · exact st.nodB _
   · exact List.nodup_nil
 · obtain ⟨h1,h2⟩:=hFc id b hb
   obtain ⟨h3,h4⟩:=hFc id' b hb'
   exact st.dBB (m id) (m id') (fun e=>hne (hij id ((hkey2 id).2 (.inr h1)) id' ((hkey2 id').2 (.inr h3)) e)) b h2 h4
 intro w' F ρ' Fb' hw hρ hnd hsrc hFB hFl hand
 let inv : Nat -> Option Nat:=fun k=>if h : ∃ i,i ∈ (nw ++ bx').map Prod.fst /\ m i = k then some (Classical.choose h) else none
 have hinv : ∀ i,i ∈ (nw ++ bx').map Prod.fst -> inv (m i) = some i:=fun i hi=>by
  have h : ∃ j,j ∈ (nw ++ bx').map Prod.fst /\ m j = m i:=⟨i,hi,rfl⟩
  simp only [inv,dif_pos h]
  obtain ⟨q1,q2⟩:=Classical.choose_spec h
  rw [hij _ q1 i hi q2]
 have hinvS : ∀ k i,inv k = some i -> i ∈ (nw ++ bx').map Prod.fst /\ m i = k:=fun k i hi=>by
  by_cases h : ∃ j,j ∈ (nw ++ bx').map Prod.fst /\ m j = k
  · simp only [inv,dif_pos h,Option.some.injEq] at hi
    rw [<- hi]; exact Classical.choose_spec h
  · simp only [inv,dif_neg h] at hi; cases hi
 let lent : Nat -> Prop:=fun k=>∃ i,i ∈ bx.map Prod.fst /\ m i = k
 let new : Nat -> Prop:=fun k=>∃ i,i ∈ nw.map Prod.fst /\ m i = k
 have htouch : ∀ k,(lent k ∨ new k) ↔ ∃ i,inv k = some i:=fun k=>by
  constructor
  · rintro (⟨i,hi,rfl⟩ | ⟨i,hi,rfl⟩)
    · exact ⟨i,hinv i ((hkey2 i).2 (.inr hi))⟩
    · exact ⟨i,hinv i ((hkey2 i).2 (.inl hi))⟩
  · rintro ⟨i,hi⟩
    obtain ⟨h1,h2⟩:=hinvS k i hi
    rcases (hkey2 i).1 h1 with h | h
    · exact .inr ⟨i,h,h2⟩
    · exact .inl ⟨i,h,h2⟩
 let ρ2 : Nat -> Nat:=fun k=>match inv k with | some i=>ρ' i | none=>ρ k
 let Fb2 : Nat -> List Nat:=fun k=>match inv k with | some i=>Fb' i | none=>Fb k
 have hlo : ∀ b,(∃ id,b ∈ (if (lk bx id).isSome then Fb (m id) else [])) ↔ ∃ k,lent k /\ b ∈ Fb k:=fun b=>by
  constructor
  · rintro ⟨i,hi⟩
    obtain ⟨h1,h2⟩:=hFc i b hi
    exact ⟨m i,⟨i,h1,rfl⟩,h2⟩
  · rintro ⟨k,⟨i,hi,rfl⟩,hb⟩
    exact ⟨i,by rw [if_pos (lk_key.2 hi)]; exact hb⟩
 have hlentO : ∀ b,(∃ k,lent k /\ b ∈ Fb k) -> own Fe Fb b:=fun b ⟨k,_,hb⟩=>.inr ⟨k,hb⟩
 have hsrc' : ∀ b,(b ∈ F ∨ ∃ id,b ∈ Fb' id) -> w.heap.size <= b ∨ ∃ k,lent k /\ b ∈ Fb k:=fun b hb=>(hsrc b hb).imp (fun h=>h) (hlo b).1
 have hFb2 : ∀ k i,inv k = some i -> Fb2 k = Fb' i:=fun k i h=>by simp [Fb2,h]
 have hρ2 : ∀ k i,inv k = some i -> ρ2 k = ρ' i:=fun k i h=>by simp [ρ2,h]
 have hnone : ∀ k,¬ (lent k ∨ new k) -> inv k = none:=fun k h=>by
  cases hi : inv k with
  | none=>rfl
  | some i=>exact absurd ((htouch k).2 ⟨i,hi⟩) h
 have hbox2 : ∀ k,(⟨σ.n,scrubL ((renBx m bx).map Prod.fst) σ.env,renBx m nw ++ lendB (renBx m bx') σ.bx⟩ : Sg).box k = lk (renBx m nw ++ lendB (renBx m bx') σ.bx) k:=fun k=>rfl
 have hlk2 : ∀ i,i ∈ (nw ++ bx').map Prod.fst -> lk (renBx m nw ++ lendB (renBx m bx') σ.bx) (m i) = (lk (nw ++ bx') i).map (Bx.ren m):=fun i hi=>by
  rw [lk_append,lk_append,lk_renBx (fun j hj he=>hij j ((hkey2 j).2 (.inl hj)) i hi he)]
  cases hn : lk nw i with
  | some x=>rfl
  | none=>
   simp only [Option.map_none]
   rw [lk_lendB,lk_renBx (fun j hj he=>hij j ((hkey2 j).2 (.inr (hk ▸ hj))) i hi he)]
   have hib : i ∈ bx.map Prod.fst:=((hkey2 i).1 hi).resolve_left (fun h=>by have:=lk_key.2 h; rw [hn] at this; cases this)
   obtain ⟨x,hx⟩:=Option.isSome_iff_exists.1 (hbS i hib)
   obtain ⟨y,hy⟩:=Option.isSome_iff_exists.1 (lk_key.2 (hk ▸ hib : i ∈ bx'.map Prod.fst))
   rw [show lk σ.bx (m i) = some x from hx,hy]
   rfl
 have hS2 : ∀ i,i ∈ (nw ++ bx').map Prod.fst -> (lk (renBx m nw ++ lendB (renBx m bx') σ.bx) (m i)).isSome = true:=fun i hi=>by
  rw [hlk2 i hi,Option.isSome_map]; exact lk_key.2 hi
 have hgd2 : ∀ b,((gd C Fe Fb b ∨ w.heap.size <= b ∨ ∃ id,b ∈ (if (lk bx id).isSome then Fb (m id) else [])) /\ b ∉ F /\ ¬ ∃ id,b ∈ Fb' id) -> gd C Fe Fb2 b /\ b ∉ F:=by
  rintro b ⟨h1,h2,h3⟩
  rw [hlo] at h1
  refine ⟨⟨?_, ?_⟩,h2⟩
  · rcases h1 with h | h | h
    · exact h.1
    · exact st.okN b h
    · exact st.okO b (hlentO b h)
  · rintro (⟨u,hu⟩ | ⟨k,hb⟩)
    · rcases h1 with h | h | ⟨k,_,h⟩
      · exact h.2 (.inl ⟨u,hu⟩)
      · have:=hlt b (.inl ⟨u,hu⟩); omega
      · exact st.dEB u k b hu h
    · cases hi : inv k with
      | some i=>rw [hFb2 k i hi] at hb; exact h3 ⟨i,hb⟩
      | none=>
       have hb' : b ∈ Fb k:=by simpa [Fb2,hi] using hb
       rcases h1 with h | h | ⟨k',hk',h⟩
       · exact h.2 (.inr ⟨k,hb'⟩)
       · have:=hlt b (.inr ⟨k,hb'⟩); omega
       · refine st.dBB k' k (fun e=>?_) b h hb'
         subst e
         obtain ⟨i,hi'⟩:=(htouch k').1 (.inl hk')
         rw [hi] at hi'; cases hi'
 have hLL : ∀ i,(lk (nw ++ bx') i).isSome = true -> (lk (renBx m nw ++ lendB (renBx m bx') σ.bx) (m i)).isSome = true /\ ρ2 (m i) = ρ' i:=fun i hi=>by
  have hi':=lk_key.1 hi
  exact ⟨hS2 i hi',hρ2 _ _ (hinv i hi')⟩
 refine ⟨ρ2,Fb2, ?_, ?_, ?_, ?_, ?_, ?_⟩
 · refine st.lend (σ2:=⟨σ.n,scrubL ((renBx m bx).map Prod.fst) σ.env,renBx m nw ++ lendB (renBx m bx') σ.bx⟩) (ρ2:=ρ2) (Fb2:=Fb2) (lent:=lent) (new:=new) ⟨hw.os,hw.tape,hw.output,hw.size,fun b hb hn=>hw.block b hb (fun h=>hn ((hlo b).1 h))⟩ rfl (fun k hkS=>?_) (fun k ⟨i,hi,he⟩=>he ▸ hbS i hi)
    (fun u d hd=>?_) (fun u hu=>scrubL_none _ _ _ hu) (fun k hn=>?_) (fun k ht=>?_) (fun k x hx ht=>?_) (fun k ht=>?_) (fun k k' ht ht' hne b hb hb'=>?_) (fun k b ht hb=>?_) (fun b hb=>hsrc' b (.inl hb)) hFl
   · cases hi : inv k with
     | none=>simp [ρ2,hi]
     | some i=>
      obtain ⟨h1,rfl⟩:=hinvS k i hi
      rcases (hkey2 i).1 h1 with h | h
      · rw [hnS i h] at hkS; cases hkS
      · rw [hρ2 _ _ hi]; exact hρ i (lk_key.2 h)
   · obtain ⟨d0,h0,h1⟩:=scrubL_get _ _ _ _ hd
     refine ⟨d0,h0,h1.imp (fun ⟨q1,q2⟩=>⟨q1,fun id off path he hl=>q2 id off path he ?_⟩) (fun h=>h)⟩
     obtain ⟨i,hi,rfl⟩:=hl
     rw [keys_renBx]; exact List.mem_map_of_mem hi
   · refine ⟨?_,by simp [Fb2,hnone k hn]⟩
     show lk (renBx m nw ++ lendB (renBx m bx') σ.bx) k = lk σ.bx k
     have h1 : lk (renBx m nw) k = none:=by
      cases hx : lk (renBx m nw) k with
      | none=>rfl
      | some x=>
       have:=lk_key.1 (show (lk (renBx m nw) k).isSome = true by rw [hx]; rfl)
       rw [keys_renBx] at this
       obtain ⟨i,hi,he⟩:=List.mem_map.1 this
       exact absurd (.inr ⟨i,hi,he⟩) hn
     have h2 : lk (renBx m bx') k = none:=by
      cases hx : lk (renBx m bx') k with
      | none=>rfl
      | some x=>
       have:=lk_key.1 (show (lk (renBx m bx') k).isSome = true by rw [hx]; rfl)
       rw [keys_renBx,hk] at this
       obtain ⟨i,hi,he⟩:=List.mem_map.1 this
       exact absurd (.inl ⟨i,hi,he⟩) hn
     rw [lk_append,h1,lk_lendB,h2]
     simp
   · obtain ⟨i,hi⟩:=(htouch k).1 ht
     obtain ⟨h1,rfl⟩:=hinvS k i hi
     exact hS2 i h1
   · obtain ⟨i,hi⟩:=(htouch k).1 ht
     obtain ⟨h1,rfl⟩:=hinvS k i hi
     rw [hbox2,hlk2 i h1,Option.map_eq_some_iff] at hx
     obtain ⟨y,hy,rfl⟩:=hx
     rw [hρ2 _ _ hi,hFb2 _ _ hi]
     have h4:=(hand.box i y hy).ren (ρ2:=ρ2) (L':=fun k=>(lk (renBx m nw ++ lendB (renBx m bx') σ.bx) k).isSome = true) hLL
     exact h4.mono (fun _ _ _=>rfl) (fun b hb _=>⟨⟨(hgd2 b hb).1.1,(hgd2 b hb).2⟩,(hgd2 b hb).1.2⟩) (fun j hj=>⟨hj,rfl⟩)
   · obtain ⟨i,hi⟩:=(htouch k).1 ht
     rw [hFb2 _ _ hi]; exact hand.nodB i
   · obtain ⟨i,hi⟩:=(htouch k).1 ht
     obtain ⟨i',hi'⟩:=(htouch k').1 ht'
     rw [hFb2 _ _ hi] at hb
     rw [hFb2 _ _ hi'] at hb'
     refine hand.dBB i i' (fun e=>?_) b hb hb'
     subst e
     exact hne ((hinvS k i hi).2.symm.trans (hinvS k' i hi').2)
   · obtain ⟨i,hi⟩:=(htouch k).1 ht
     rw [hFb2 _ _ hi] at hb
     exact ⟨hsrc' b (.inr ⟨i,hb⟩),fun hm=>hFB i b hm hb⟩
 · intro r v hr
   exact (hr.ren (ρ2:=ρ2) (L':=fun k=>(lk (renBx m nw ++ lendB (renBx m bx') σ.bx) k).isSome = true) hLL).mono (fun _ _ _=>rfl) (fun b hb _=>hgd2 b hb) (fun j hj=>⟨hj,rfl⟩)
 · intro u b hb hbu
   rcases hsrc' b (.inl hb) with h | ⟨k,_,h⟩
   · have:=hlt b (.inl ⟨u,hbu⟩); omega
   · exact st.dEB u k b hbu h
 · intro k b hb hbk
   cases hi : inv k with
   | some i=>rw [hFb2 _ _ hi] at hbk; exact hFB i b hb hbk
   | none=>
    have hbk' : b ∈ Fb k:=by simpa [Fb2,hi] using hbk
    rcases hsrc' b (.inl hb) with h | ⟨k',hk',h⟩
    · have:=hlt b (.inr ⟨k,hbk'⟩); omega
    · refine st.dBB k' k (fun e=>?_) b h hbk'
      subst e
      obtain ⟨i,hi'⟩:=(htouch k').1 (.inl hk')
      rw [hi] at hi'; cases hi'
 · intro b hb hkb
   rcases hsrc' b (.inl hb) with h | h
   · have:=(st.kept b hkb).2; have:=st.grown; omega
   · exact st.new b (hlentO b h) hkb
 · intro b hb
   rcases hsrc' b (.inl hb) with h | h
   · exact st.okN b h
   · exact st.okO b (hlentO b h)
theorem R.callB {f : FuncId} [CaT P f] {t : Nat} {args : List Operand} {tys : Array TypeId} {rt : TypeId} {pos : String} {aft : Array Edge} {g : Option (Nat × Bool)} {gl : List (Nat × D)} {ds : List D} {r r' : D} {bx bx' nw cx cx' nwc : List (Nat × Bx)}
 (ml : List (Nat × Nat)) (hC : C.gl = gl) (hF : FnB P gl f ds bx r bx' nw) (ha : EvB C.gl σ (mlk ml) (bx.map Prod.fst) args ds)
 (hcx : renBx (mlk ml) bx = cx) (hlk : hasBx σ.bx cx) (hob : okBxP (bx.map Prod.fst) bx) (hcx' : renBx (mlk ml) bx' = cx') (hnw : renBx (mlk ml) nw = nwc) (hr : r.ren (mlk ml) = r')
 (hk : bx'.map Prod.fst = bx.map Prod.fst) (hfr : freshB σ.bx nwc = true) (hinj : injB (mlk ml) ((nw ++ bx').map Prod.fst) = true) (ht : t < σ.n) :
 OpS P C ⟨some t,.call { callee:=.value (.func f),args:=args.toArray,argTypes:=tys },rt,pos,aft,g⟩ σ ((⟨σ.n,scrubL (cx.map Prod.fst) σ.env,nwc ++ lendB cx' σ.bx⟩ : Sg).set t r'):=by
 subst hC; subst hcx; subst hcx'; subst hnw; subst hr
 intro a w ⟨ρ,Fe,Fb,st⟩ K Q hK
 refine wpIn_of_run (run_call a w) (by simp) ?_
 rw [Oper.uponIn_enter]
 obtain ⟨hhand,hback⟩:=st.callB (m:=mlk ml) hlk hob hk hfr hinj
 have hmem : ∀ i,memB (bx.map Prod.fst) i = true -> (lk bx i).isSome = true:=fun i hi=>by
  rw [lk_key]
  simp only [memB,List.any_eq_true] at hi
  obtain ⟨j,hj,he⟩:=hi
  rw [Nat.eq_of_beq_eq_true he]; exact hj
 have hc:=hF w (fun b=>gd C Fe Fb b /\ b < w.heap.size) (fun i=>ρ (mlk ml i)) (fun i=>if (lk bx i).isSome then Fb (mlk ml i) else []) (args.map a.eval)
  (fun g d hg=>by obtain ⟨h1,h2⟩:=gl_ok st g d hg; obtain ⟨cs,e,fz,h3,h4⟩:=h2; exact ⟨⟨h1,(Array.getElem?_eq_some_iff.1 h3).1⟩,cs,e,fz,h3,h4⟩) (fun b hb=>hb.2) (by simp [ha.len])
  (fun k hk=>(ha.ok st k hk).mono (fun _ _ _=>rfl) (fun b hb hl=>⟨hb,hl⟩) (fun i hi=>⟨hmem i hi.1,rfl⟩))
  ⟨fun id x hx=>(hhand.box id x hx).mono (fun _ _ _=>rfl) (fun b hb hl=>⟨hb,hl⟩) (fun i hi=>⟨hi,rfl⟩),hhand.boxN,hhand.nodB,hhand.dBB,fun id b hb hc=>hhand.out id b hb hc.1⟩
 simp only [List.map_toArray]
 refine ⟨(fun h=>by cases h),(callsIn_fx (Calls.mono hc ?_))⟩
 rintro e w' ⟨v,F,ρ',Fb',rfl,hext,hρ',hnd,hsrc,hFB,hFl,hand,hrv⟩
 have hGG : ∀ b,(((gd C Fe Fb b /\ b < w.heap.size) ∨ w.heap.size <= b ∨ ∃ id,b ∈ (if (lk bx id).isSome then Fb (mlk ml id) else [])) /\ b ∉ F /\ ¬ ∃ id,b ∈ Fb' id) ->
  ((gd C Fe Fb b ∨ w.heap.size <= b ∨ ∃ id,b ∈ (if (lk bx id).isSome then Fb (mlk ml id) else [])) /\ b ∉ F /\ ¬ ∃ id,b ∈ Fb' id):=fun b hb=>⟨hb.1.imp (fun h=>h.1) (fun h=>h),hb.2⟩
 obtain ⟨ρ2,Fb2,st2,hrv2,hdE,hdB,hkp,hok⟩:=hback w' F ρ' Fb' hext hρ' hnd hsrc hFB hFl
  ⟨fun id x hx=>(hand.box id x hx).mono (fun _ _ _=>rfl) (fun b hb _=>hGG b hb) (fun i hi=>⟨hi,rfl⟩),hand.boxN,hand.nodB,hand.dBB,fun id b hb hc=>hc.2.2 ⟨id,hb⟩⟩
 have hrv3:=hrv2 r v (hrv.mono (fun _ _ _=>rfl) (fun b hb _=>hGG b hb) (fun i hi=>⟨hi,rfl⟩))
 have hput : (a.put (some t) v).tmps[t]? = some v:=by rw [put_get a t v t (by rw [st.size]; exact ht)]; simp
 refine hK _ _ ⟨ρ2,upd Fe t F,Fb2,st2.adopt ht hnd hdE hdB hkp hok (RV.slot (hrv3.mono (fun _ _ _=>rfl) (fun b hb _=>⟨hb.1.1, ?_⟩) (fun i hi=>⟨hi,rfl⟩)) hput)⟩
 rintro (⟨u,hu⟩ | ho)
 · by_cases hut : u = t
   · subst hut; simp at hu; exact hb.2 hu
   · rw [upd_other hut] at hu; exact hb.1.2 (.inl ⟨u,hu⟩)
 · exact hb.1.2 (.inr ho)
end Go.Sx

namespace Go.Sx
variable {P : Program} {C : Ctx} {σ σ' σ1 : Sg} {a : Act} {w w' : World} {ρ : Nat -> Nat} {Fe Fe' Fb : Nat -> List Nat}
def PurA (gl : List (Nat × D)) (σ : Sg) (n z : Nat) : List (Nat × Operand) -> Prop
 | []=>True
 | (i,x) :: r=>(∃ d,ev gl σ x = some d /\ d.pur = true /\ d.np = true /\ d.sz = z /\ Nat.blt i n = true) /\ PurA gl σ n z r
theorem fill_arr {G L : Nat -> Prop} {gl : List (Nat × D)} {n z : Nat} (hv : ∀ x d,ev gl σ x = some d -> d.pur = true -> ∃ cs : List Value,(a.eval x).cells.toList = cs /\ Rc w ρ G L true d cs []) :
 ∀ (ps : List (Nat × Operand)) (l l' : List D) (cs : Array Value),evsS gl σ ps l = some l' -> PurA gl σ n z ps -> Rc w ρ G L false (.arr n z l) cs.toList [] ->
  ∃ out : Array Value,Instr.fill (fun i=>some (i * z,z)) cs (ps.map (fun p=>(p.1,a.eval p.2))) = some out /\ Rc w ρ G L false (.arr n z l') out.toList []:=by
 intro ps
 induction ps with
 | nil=>intro l l' cs h _ hr; simp only [evsS,Option.some.injEq] at h; subst h; exact ⟨cs,rfl,hr⟩
 | cons p ps ih=>
  intro l l' cs h hp hr
  obtain ⟨i,x⟩:=p
  obtain ⟨⟨d,hx,p1,p2,p3,p5⟩,p4⟩:=hp
  have p5 : i < n:=Nat.le_of_ble_eq_true p5
  simp only [evsS,hx] at h
  obtain ⟨xc,hxc,hrc⟩:=hv x d hx p1
  have hlen:=hrc.len
  have hll : l.length = n:=by cases hr; assumption
  have hi2 : i < l.length:=by omega
  have hcl:=hr.len
  simp only [sz_arr,Array.length_toList] at hcl
  have hsi : l[i].sz = z:=by
   have hii : Rc w ρ G L false l[i] ((cs.toList.drop (i * z)).take z) []:=by
    cases hr with
    | arr _ _ _ _ _ _ hh=>exact hh i hi2
   have hl:=hii.len
   rw [<- hl,List.length_take,List.length_drop,Array.length_toList,hcl]
   have:=Nat.mul_le_mul_right z (show i + 1 <= n from p5)
   rw [Nat.add_mul] at this
   omega
  have hlo : i * z + z <= n * z:=by
   have:=Nat.mul_le_mul_right z (show i + 1 <= n from p5)
   rw [Nat.add_mul] at this
   omega
  have hloc : (D.arr n z l).loc [i] = some (i * z,l[i]):=by simp [D.loc,List.getElem?_eq_getElem hi2]
  have hupd : (D.arr n z l).upd [i] d = some (.arr n z (l.set i d)):=by simp [D.upd,List.getElem?_eq_getElem hi2]
  obtain ⟨F2,g1,g2,_⟩:=hr.upd hloc hupd (p3.trans hsi.symm) (hrc.unflag p2) List.nodup_nil List.nodup_nil (by simp) (.inl rfl)
  have hF2 : F2 = []:=by
   cases F2 with
   | nil=>rfl
   | cons b r=>have:=g2 b (by simp); simp at this
  subst hF2
  have hxl : xc.length = z:=by rw [hlen,p3]
  have hfold:=foldl_set cs xc (i * z) 0 (by omega)
  simp only [Nat.add_zero] at hfold
  have hcs2 : ((a.eval x).cells.zipIdx.foldl (fun (c : Array Value) (p : Value × Nat)=>c.setIfInBounds (i * z + p.2) p.1) cs).toList = cs.toList.take (i * z) ++ xc ++ cs.toList.drop (i * z + xc.length):=by
   rw [<- hfold,<- hxc,<- Array.foldl_toList]
   simp
  rw [<- hcs2] at g1
  obtain ⟨out,q1,q2⟩:=ih (l.set i d) l' _ h p4 g1
  refine ⟨out, ?_,q2⟩
  simp only [List.map_cons,Instr.fill]
  have hsz : (a.eval x).cells.size = z:=by rw [<- Array.length_toList,hxc,hxl]
  simp only [hsz]
  rw [if_neg (by simp; omega)]
  exact q1
theorem R.bldAP {t n e z : Nat} {ps : List (Nat × Operand)} {l l' l2 : List D} {ty rt : TypeId} {pos : String} {aft : Array Edge} {g : Option (Nat × Bool)} [hT : BaT P ty n e z] [hZ : ZrT P ty (.arr n z l)]
 (hps : EvS C.gl σ ps l l') (hp : PurA C.gl σ n z ps) (he : l' = l2) (ht : t < σ.n) :
 OpS P C ⟨some t,.build ty ps.toArray,rt,pos,aft,g⟩ σ (σ.set t (.arr n z l2)):=by
 subst he
 refine OpS.value fun a w ⟨ρ,Fe,Fb,st⟩=>?_
 obtain ⟨it,zv,ie,h1,h2,h3,h4,h5,h6⟩:=hT.i
 obtain ⟨i',v',k1,k2,k3,k4⟩:=hZ.i
 rw [h2] at k1
 cases k1
 rw [h3] at k2
 cases k2
 obtain ⟨out,q1,q2⟩:=fill_arr (w:=w) (ρ:=ρ) (fun x d h hp=>ev_cells st h hp) ps l l' zv.cells hps.ok hp (chk_ok _ _ _ _ _ _ k3)
 have hps2 : (ps.toArray.map fun x=>(x.1,a.eval x.2)).toList = ps.map (fun p=>(p.1,a.eval p.2)):=by simp
 refine ⟨.agg out,w, ?_,st.put ht rfl ?_⟩
 · have:=run_build (P:=P) w ty (ps.toArray.map fun x=>(x.1,a.eval x.2)) out (by
    rw [hps2]
    simp only [Program.built,h1,h2,h3,h4,h5]
    exact q1)
   unfold execOp
   simp only [Sem.run_bind,this,Result.andThen_ok,Sem.run_pure]
 · simp only [VR,D.isAgg,if_true]
   exact ⟨out,rfl,q2.flag⟩
end Go.Sx

namespace Go.Sx
variable {pos : String} {aft : Array Edge} {g : Option (Nat × Bool)}
variable {P : Program} {C : Ctx} {σ σ' σ1 : Sg} {a : Act} {w w' : World} {ρ : Nat -> Nat} {Fe Fe' Fb : Nat -> List Nat}
theorem Rc.updP {G L : Nat -> Prop} {d d1 d' x : D} {cs xs : List Value} {F Fx : List Nat} (h : Rc w ρ G L true d cs F) {path : List Nat} {off : Nat}
 (hl : d.loc path = some (off,d1)) (hu : d.upd path x = some d') (hz : x.sz = d1.sz) (hx : Rc w ρ G L true x xs Fx) (hF : F.Nodup) (hFx : Fx.Nodup) (hdis : ∀ b ∈ Fx,b ∉ F)
 (harr : d.noArr path = true) :
 ∃ F',Rc w ρ G L true d' (cs.take off ++ xs ++ cs.drop (off + xs.length)) F' /\ (∀ b ∈ F',b ∈ F ∨ b ∈ Fx) /\ F'.Nodup /\ d'.sz = d.sz /\ d'.isAgg = (if path = [] then x.isAgg else d.isAgg):=by
 induction path generalizing d cs F off d1 d' with
 | nil=>
  simp only [D.loc,Option.some.injEq,Prod.mk.injEq] at hl
  simp only [D.upd,Option.some.injEq] at hu
  obtain ⟨rfl,rfl⟩:=hl
  subst hu
  have h1:=h.len
  have h2:=hx.len
  have e : cs.take 0 ++ xs ++ cs.drop (0 + xs.length) = xs:=by simp; omega
  rw [e]
  exact ⟨Fx,hx,fun _ h=>.inr h,hFx,hz,by simp⟩
 | cons k path ih=>
  cases h with
  | agg l cs Fs hs hr=>
   simp only [D.loc] at hl
   simp only [D.upd] at hu
   cases hk : l[k]? with
   | none=>simp [hk] at hl
   | some d2=>
    obtain ⟨hklt,rfl⟩:=List.getElem?_eq_some_iff.1 hk
    simp only [hk] at hl hu
    cases hd : D.loc l[k] path with
    | none=>simp [hd] at hl
    | some od=>
     obtain ⟨o,d3⟩:=od
     simp only [hd,Option.some.injEq,Prod.mk.injEq] at hl
     obtain ⟨rfl,rfl⟩:=hl
     cases hud : D.upd l[k] path x with
     | none=>simp [hud] at hu
     | some d4=>
      simp only [hud,Option.some.injEq] at hu
      subst hu
      obtain ⟨hn1,hn2⟩:=flat_nodup hF
      have hkm : ∀ b ∈ Fs k,b ∈ (List.range l.length).flatMap Fs:=fun b hb=>List.mem_flatMap.2 ⟨k,List.mem_range.2 hklt,hb⟩
      obtain ⟨F',h1,h2,h3,h4,h5⟩:=ih (hr k hklt) hd hud hz (hn1 k hklt) (fun b hb hb'=>hdis b hb (hkm b hb')) (by simp only [D.noArr,hk] at harr; exact harr)
      obtain ⟨_,_,_,hl3⟩:=(hr k hklt).loc hd
      have hlen:=(hr k hklt).len
      have hxl:=hx.len
      have hlo:=offk_lt l k hklt
      have hxo : o + xs.length <= l[k].sz:=by omega
      refine ⟨(List.range (l.set k d4).length).flatMap (fun j=>if j = k then F' else Fs j), ?_, ?_, ?_, ?_, ?_⟩
      · refine .agg (l.set k d4) _ _ ?_ (fun j hj=>?_)
        · rw [splice_len _ _ _ (by omega),hs,szs_set l k d4 hklt h4]
        · have hj' : j < l.length:=by simpa using hj
          rw [offk_set l k j d4 hklt h4]
          by_cases hjk : j = k
          · subst hjk
            simp only [List.getElem_set_self,if_true,h4]
            rw [splice_in _ _ _ _ _ (by omega) (by omega)]
            exact h1
          · have hjj : (l.set k d4)[j] = l[j]:=by rw [List.getElem_set_ne (fun e=>hjk e.symm)]
            simp only [hjj,hjk,if_false]
            rw [splice_out _ _ _ _ _ (by omega) ?_]
            · exact hr j hj'
            · have h6:=offk_lt l j hj'
              rcases Nat.lt_or_gt_of_ne hjk with hlt | hlt
              · left
                have : offk l j + l[j].sz <= offk l k:=by
                 have:=offk_lt (l.take k) j (by simp; omega)
                 simp only [List.getElem_take] at this
                 unfold offk at this ⊢
                 rw [List.take_take,Nat.min_eq_left (by omega)] at this
                 exact this
                omega
              · right
                have : offk l k + l[k].sz <= offk l j:=by
                 have:=offk_lt (l.take j) k (by simp; omega)
                 simp only [List.getElem_take] at this
                 unfold offk at this ⊢
                 rw [List.take_take,Nat.min_eq_left (by omega)] at this
                 exact this
                omega
      · intro b hb
        obtain ⟨j,hj,hm⟩:=List.mem_flatMap.1 hb
        have hj' : j < l.length:=by simpa using List.mem_range.1 hj
        by_cases hjk : j = k
        · subst hjk; simp at hm; exact (h2 b hm).imp (hkm b) id
        · simp only [hjk,if_false] at hm
          exact .inl (List.mem_flatMap.2 ⟨j,List.mem_range.2 hj',hm⟩)
      · refine flat_nodup_mk (fun j hj=>?_) (fun i j hi hj hij b hb hb'=>?_)
        · have hj' : j < l.length:=by simpa using hj
          by_cases hjk : j = k
          · simp [hjk,h3]
          · simp only [hjk,if_false]; exact hn1 j hj'
        · have hi' : i < l.length:=by simpa using hi
          have hj' : j < l.length:=by simpa using hj
          have key : ∀ m,m < l.length -> m ≠ k -> b ∈ Fs m -> b ∈ F' -> False:=fun m hm hmk h6 h7=>by
           rcases h2 b h7 with h8 | h8
           · exact hn2 m k hm hklt hmk b h6 h8
           · exact hdis b h8 (List.mem_flatMap.2 ⟨m,List.mem_range.2 hm,h6⟩)
          by_cases hik : i = k
          · subst hik
            simp only [if_true] at hb
            simp only [show ¬ j = i from fun e=>hij e.symm,if_false] at hb'
            exact key j hj' (fun e=>hij e.symm) hb' hb
          · simp only [hik,if_false] at hb
            by_cases hjk : j = k
            · simp only [hjk,if_true] at hb'; exact key i hi' hik hb hb'
            · simp only [hjk,if_false] at hb'; exact hn2 i j hi' hj' hij b hb hb'
      · simp only [sz_agg]; exact szs_set l k d4 hklt h4
      · simp [D.isAgg]
  | arr n z l cs hn hs hr=>simp [D.noArr] at harr
  | _=>simp [D.loc] at hl
theorem R.stP {p id off : Nat} {path : List Nat} {x : Operand} {d0 d1 d' dx : D} {ty n rt : TypeId} {gg : Bool} [LdT P ty n gg]
 (h : σ.get p = some (.ptr id off path)) (hb : σ.box id = some (.var d0)) (hl : d0.loc path = some (off,d1)) (hx : ev C.gl σ x = some dx) (hp : dx.pur = true) (hna : d0.noArr path = true)
 (hn : dx.sz = n) (hz : d1.sz = n) (hu : d0.upd path dx = some d') :
 OpS P C ⟨none,.store ty (.tmp p) x,rt,pos,aft,g⟩ σ (σ.putB id (.var d')):=by
 refine OpS.skip rfl fun a w ⟨ρ,Fe,Fb,st⟩=>?_
 obtain ⟨v,hv,hr⟩:=(SR_plain rfl).1 (st.env _ _ h)
 simp only [VR,D.isAgg,Bool.false_eq_true,if_false] at hr
 have hz' : dx.sz = d1.sz:=hn.trans hz.symm
 generalize Fe p = F at hr
 cases hr
 obtain ⟨cs,e,F',hb',hr,hFb⟩:=st.bx _ _ hb
 obtain ⟨Fx,hvx,_⟩:=ev_ok st hx (pur_ref hp)
 have hFx:=hvx.pur hp
 subst hFx
 have hdead : dx ≠ .dead:=by rintro rfl; simp [D.pur] at hp
 have hxc:=hvx.cells hdead
 obtain ⟨_,_,_,h3⟩:=hr.loc hl
 have hnd : F'.Nodup:=by have:=st.nodB id; rw [hFb] at this; exact (List.nodup_cons.1 this).2
 obtain ⟨F2,g1,g2,g3,g4,g5⟩:=hr.updP hl hu (hn.trans hz.symm) hxc hnd List.nodup_nil (by simp) hna
 have hlen:=hxc.len
 have hvs : (a.eval x).cells.size = n:=by simp at hlen; omega
 have hbnd : off + n <= cs.size:=by simp at h3; omega
 refine ⟨w.setRow (ρ id) (cs.toList.take off ++ (a.eval x).cells.toList ++ cs.toList.drop (off + (a.eval x).cells.toList.length)).toArray, ?_,ρ,Fe,_,st.putB (Fe':=Fe) (σ1:=σ) (F':=ρ id :: F2) hb rfl rfl (fun u d hd=>.inl ⟨hd,rfl⟩) st.envN (fun u=>.inl rfl) rfl ⟨rfl,Nat.le_refl _⟩ rfl (by simp)
  (fun b hbne=>setRow_other w (ρ id) b _ hbne) ?_ (by simp) ?_ ?_⟩
 · unfold execOp
   simp only [Instr.storeAt,Instr.sureAddr,eval_tmp hv,Sem.run_bind,Sem.run_pure,Result.andThen_ok,run_storeVar (P:=P) (ty:=ty) hb' hvs hbnd hxc.one]
 · refine List.nodup_cons.2 ⟨fun hm=>?_,g3⟩
   have:=st.nodB id
   rw [hFb] at this
   rcases g2 _ hm with h4 | h4
   · exact (List.nodup_cons.1 this).1 h4
   · cases h4
 · intro b hbm
   rcases List.mem_cons.1 hbm with rfl | hm
   · exact .inl (by rw [hFb]; simp)
   · rcases g2 b hm with h4 | h4
     · exact .inl (by rw [hFb]; exact List.mem_cons_of_mem _ h4)
     · cases h4
 · refine ⟨_,e,F2,setRow_heap w (ρ id) cs _ e (0,0) hb', ?_,rfl⟩
   simp only
   refine g1.mono (fun b hbb _=>setRow_other w (ρ id) b _ ?_) (fun b hbb _=>⟨hbb.1,fun ho=>hbb.2 ?_⟩) (fun i hi=>⟨hi,rfl⟩)
   · rintro rfl
     rcases hbb with hbb | hbb
     · exact hbb.2 (.inr ⟨id,by rw [hFb]; simp⟩)
     · have:=st.nodB id
       rw [hFb] at this
       rcases g2 _ hbb with h4 | h4
       · exact (List.nodup_cons.1 this).1 h4
       · cases h4
   · rcases ho with ⟨u,hu⟩ | ⟨i,hi⟩
     · exact .inl ⟨u,hu⟩
     · by_cases hid : i = id
       · subst hid
         rw [upd_same] at hi
         refine .inr ⟨i, ?_⟩
         rw [hFb]
         rcases List.mem_cons.1 hi with rfl | hm
         · simp
         · rcases g2 b hm with h4 | h4
           · exact List.mem_cons_of_mem _ h4
           · cases h4
       · rw [upd_other hid] at hi; exact .inr ⟨i,hi⟩
def EqV (P : Program) (k : Nat) (t : TypeId) (d1 d2 : D) (b : Bool) : Prop:=
 ∀ (n : Nat) (w : World) (ρ1 ρ2 : Nat -> Nat) (G1 G2 L1 L2 : Nat -> Prop) (v1 v2 : Value) (F1 F2 : List Nat),VR w ρ1 G1 L1 d1 v1 F1 -> VR w ρ2 G2 L2 d2 v2 F2 -> (Op.equalIn (n + k) t v1 v2).run P w = .ok b w
theorem EqV.int {t : TypeId} {k : IntKind} (ht : P.underlying t = some (.int k)) (a b : Int) : EqV P 1 t (.int a) (.int b) (a == b):=by
 intro n w ρ1 ρ2 G1 G2 L1 L2 v1 v2 F1 F2 h1 h2
 simp only [VR,D.isAgg,Bool.false_eq_true,if_false] at h1 h2
 cases h1; cases h2
 exact run_equalIn_int w n t .i64 k a b ht
theorem EqV.u32 {t : TypeId} {k : IntKind} (ht : P.underlying t = some (.int k)) (a b : UInt32) : EqV P 1 t (.u32 a) (.u32 b) (a == b):=by
 intro n w ρ1 ρ2 G1 G2 L1 L2 v1 v2 F1 F2 h1 h2
 simp only [VR,D.isAgg,Bool.false_eq_true,if_false] at h1 h2
 cases h1; cases h2
 rw [run_equalIn_int w n t .u32 k _ _ ht,beq_u32]
theorem EqV.u64 {t : TypeId} {k : IntKind} (ht : P.underlying t = some (.int k)) (a b : UInt64) : EqV P 1 t (.u64 a) (.u64 b) (a == b):=by
 intro n w ρ1 ρ2 G1 G2 L1 L2 v1 v2 F1 F2 h1 h2
 simp only [VR,D.isAgg,Bool.false_eq_true,if_false] at h1 h2
 cases h1; cases h2
 rw [run_equalIn_int w n t .u64 k _ _ ht,beq_u64]
theorem EqV.arr {t e m : Nat} [hT : ArT P t m e] [hk : IkT P e .u8] [hL : LdT P e 1 false] (xs ys : List UInt8) : EqV P 2 t (.arr m 1 (xs.map .u8)) (.arr m 1 (ys.map .u8)) (xs == ys):=by
 intro n w ρ1 ρ2 G1 G2 L1 L2 v1 v2 F1 F2 h1 h2
 simp only [VR,D.isAgg,if_true] at h1 h2
 obtain ⟨cx,rfl,h1⟩:=h1
 obtain ⟨cy,rfl,h2⟩:=h2
 obtain ⟨hlx,hcx⟩:=arr_u8 h1
 obtain ⟨hly,hcy⟩:=arr_u8 h2
 obtain ⟨d,i,_,_,hi,hsz⟩:=hL.i
 have hce : P.cellsOf e = 1:=by simp [Program.cellsOf,hi,hsz]
 rw [show n + 2 = (n + 1) + 1 from rfl,run_equalIn_array w (n + 1) cx cy hT.u hi,hce,run_eqItems_u8 (P:=P) w n xs ys m hlx hly cx cy hcx hcy _ (fun i hi=>List.mem_range.1 hi),all_eq m xs ys hlx hly]
inductive EqFs (P : Program) (k : Nat) : Nat -> List Field -> List D -> List D -> Bool -> Prop
 | nil {o : Nat} : EqFs P k o [] [] [] true
 | cons {o z : Nat} {gg : Bool} {f : Field} {fs : List Field} {d1 d2 : D} {ds1 ds2 : List D} {b bs : Bool} (hn : (f.name != "_") = true) (ho : f.offset = o) (hL : LdT P f.type z gg) (hz1 : d1.sz = z) (hz2 : d2.sz = z) (hg1 : d1.isAgg = gg) (hg2 : d2.isAgg = gg)
  (h : EqV P k f.type d1 d2 b) (t : EqFs P k (o + z) fs ds1 ds2 bs) : EqFs P k o (f :: fs) (d1 :: ds1) (d2 :: ds2) (b && bs)
theorem EqFs.run {k o : Nat} {fs : List Field} {ds1 ds2 : List D} {b : Bool} (h : EqFs P k o fs ds1 ds2 b) (n : Nat) (w : World) (ρ1 ρ2 : Nat -> Nat) (G1 G2 L1 L2 : Nat -> Prop) (cs1 cs2 : Array Value) (Fs1 Fs2 : Nat -> List Nat)
 (hc1 : o + D.szs ds1 <= cs1.size) (hc2 : o + D.szs ds2 <= cs2.size)
 (h1 : ∀ i (hi : i < ds1.length),Rc w ρ1 G1 L1 true ds1[i] ((cs1.toList.drop (o + offk ds1 i)).take ds1[i].sz) (Fs1 i)) (h2 : ∀ i (hi : i < ds2.length),Rc w ρ2 G2 L2 true ds2[i] ((cs2.toList.drop (o + offk ds2 i)).take ds2[i].sz) (Fs2 i)) :
 (Op.eqFields (n + k) cs1 cs2 fs).run P w = .ok b w:=by
 induction h generalizing Fs1 Fs2 with
 | nil=>simp [Op.eqFields]
 | @cons o z gg f fs d1 d2 ds1 ds2 b bs hn ho hL hz1 hz2 hg1 hg2 h t ih=>
  subst ho
  simp only [szs_cons] at hc1 hc2
  have a1:=h1 0 (by simp)
  have a2:=h2 0 (by simp)
  simp only [List.getElem_cons_zero,offk_zero,Nat.add_zero,hz1] at a1
  simp only [List.getElem_cons_zero,offk_zero,Nat.add_zero,hz2] at a2
  obtain ⟨v1,r1,q1⟩:=run_part (P:=P) (e:=f.type) (hL:=hL) a1 hz1 hg1 (by omega)
  obtain ⟨v2,r2,q2⟩:=run_part (P:=P) (e:=f.type) (hL:=hL) a2 hz2 hg2 (by omega)
  have hb:=h n w _ _ _ _ _ _ _ _ _ _ q1 q2
  have ih':=ih (fun i=>Fs1 (i + 1)) (fun i=>Fs2 (i + 1)) (by omega) (by omega) (fun i hi=>by
   have:=h1 (i + 1) (by simpa using hi)
   simp only [List.getElem_cons_succ,offk_succ,hz1] at this
   rw [Nat.add_assoc]; exact this) (fun i hi=>by
   have:=h2 (i + 1) (by simpa using hi)
   simp only [List.getElem_cons_succ,offk_succ,hz2] at this
   rw [Nat.add_assoc]; exact this)
  have hne : f.name ≠ "_":=by simpa using hn
  simp only [Op.eqFields,hne,ne_eq,not_false_eq_true,if_true,Sem.run_bind,r1,r2,hb,Result.andThen_ok]
  cases b with
  | true=>simpa using ih'
  | false=>simp
theorem EqV.struct {t : TypeId} {k : Nat} {fs : Array Field} {ds1 ds2 : List D} {b : Bool} (ht : P.underlying t = some (.struct fs)) (hp : P.stoodInHeld t = false) (h : EqFs P k 0 fs.toList ds1 ds2 b) : EqV P (k + 1) t (.agg ds1) (.agg ds2) b:=by
 intro n w ρ1 ρ2 G1 G2 L1 L2 v1 v2 F1 F2 h1 h2
 simp only [VR,D.isAgg,if_true] at h1 h2
 obtain ⟨cx,rfl,h1⟩:=h1
 obtain ⟨cy,rfl,h2⟩:=h2
 have hf : P.fieldsOf t = fs:=by simp [Program.fieldsOf,ht]
 rw [show n + (k + 1) = (n + k) + 1 from rfl,run_equalIn_struct w (n + k) t cx cy (by rw [hf]; exact ht) hp,hf]
 cases h1 with
 | agg _ _ Fs1 hs1 hr1=>
  cases h2 with
  | agg _ _ Fs2 hs2 hr2=>
   simp only [Array.length_toList] at hs1 hs2
   exact h.run n w ρ1 ρ2 G1 G2 L1 L2 cx cy Fs1 Fs2 (by omega) (by omega) (fun i hi=>by rw [Nat.zero_add]; exact hr1 i hi) (fun i hi=>by rw [Nat.zero_add]; exact hr2 i hi)
theorem R.eqD {neg : Bool} {x y : Operand} {t k : Nat} {d1 d2 : D} {b b' : Bool} {xt yt ty : TypeId} [hE : EqT P xt] (he : EqV P k xt d1 d2 b) (hk : Nat.ble k 10000 = true)
 (hx : ev C.gl σ x = some d1) (hy : ev C.gl σ y = some d2) (ha1 : d1.isAgg = true) (ha2 : d2.isAgg = true) (hr1 : d1.isRef = false) (hr2 : d2.isRef = false) (hb : (bif neg then !b else b) = b') (ht : t < σ.n) :
 OpS P C ⟨some t,.binOp (bif neg then .neq else .eql) xt x y yt,ty,pos,aft,g⟩ σ (σ.set t (.bool b')):=by
 subst hb
 have hk : k <= 10000:=Nat.le_of_ble_eq_true hk
 refine OpS.value fun a w ⟨ρ,Fe,Fb,st⟩=>?_
 obtain ⟨Fx,hvx,_⟩:=ev_ok st hx hr1
 obtain ⟨Fy,hvy,_⟩:=ev_ok st hy hr2
 have heq:=he (10000 - k) w _ _ _ _ _ _ _ _ _ _ hvx hvy
 rw [show 10000 - k + k = 10000 by omega] at heq
 simp only [VR,ha1,if_true] at hvx
 simp only [VR,ha2,if_true] at hvy
 obtain ⟨cx,hex,hvx⟩:=hvx
 obtain ⟨cy,hey,hvy⟩:=hvy
 rw [hex,hey] at heq
 refine ⟨.bool (bif neg then !b else b),w, ?_,st.put ht rfl ?_⟩
 · unfold execOp
   cases neg with
   | false=>simp only [cond_false,hex,hey,Sem.run_bind,run_eqGuard_agg w .eql xt x y cx cy hE.i,run_eql_struct,heq,Result.andThen_ok,Sem.run_pure]
   | true=>simp only [cond_true,hex,hey,Sem.run_bind,run_eqGuard_agg w .neq xt x y cx cy hE.i,run_neq_struct,heq,Result.andThen_ok,Sem.run_pure]
 · simp only [VR,D.isAgg,Bool.false_eq_true,if_false]; exact .bool _
end Go.Sx

namespace Go.Sx
variable {P : Program} {C : Ctx} {σ σ' σ1 : Sg} {a : Act} {w w' : World} {ρ : Nat -> Nat} {Fe Fe' Fb : Nat -> List Nat}
variable {gl : List (Nat × D)} {W0 : World} {G : Nat -> Prop}
end Go.Sx

namespace Go.Sx
variable {P : Program} {C : Ctx} {σ σ' σ1 : Sg} {a : Act} {w w' : World} {ρ : Nat -> Nat} {Fe Fe' Fb : Nat -> List Nat}
theorem Rc.take {G L : Nat -> Prop} {d d' : D} {cs : List Value} {F : List Nat} (h : Rc w ρ G L true d cs F) {path : List Nat} {off e z : Nat} {l : List D}
 (hl : d.loc path = some (off,.sl (some e) z l)) (hna : d.noArr path = true) (hu : d.upd path .dead = some d') (hF : F.Nodup) :
 ∃ v F1 F2,cs[off]? = some v /\ Rc w ρ G L true (.sl (some e) z l) [v] F1 /\ Rc w ρ G L true d' cs F2 /\ (∀ b ∈ F1,b ∈ F) /\ (∀ b ∈ F2,b ∈ F) /\ F1.Nodup /\ F2.Nodup /\ (∀ b ∈ F1,b ∉ F2) /\ d'.sz = d.sz:=by
 induction path generalizing d cs F off d' with
 | nil=>
  simp only [D.loc,Option.some.injEq,Prod.mk.injEq] at hl
  simp only [D.upd,Option.some.injEq] at hu
  obtain ⟨rfl,rfl⟩:=hl
  subst hu
  have h1:=h.len
  obtain ⟨v,rfl⟩ : ∃ v,cs = [v]:=by
   match cs,h1 with
   | [x],_=>exact ⟨x,rfl⟩
  exact ⟨v,F,[],rfl,h,.dead v (h.one v (by simp)),fun _ h=>h,by simp,hF,List.nodup_nil,by simp,rfl⟩
 | cons k path ih=>
  cases h with
  | agg l0 cs Fs hs hr=>
   simp only [D.loc] at hl
   simp only [D.upd] at hu
   cases hk : l0[k]? with
   | none=>simp [hk] at hl
   | some d2=>
    obtain ⟨hklt,rfl⟩:=List.getElem?_eq_some_iff.1 hk
    simp only [hk] at hl hu
    cases hd : D.loc l0[k] path with
    | none=>simp [hd] at hl
    | some od=>
     obtain ⟨o,d3⟩:=od
     simp only [hd,Option.some.injEq,Prod.mk.injEq] at hl
     obtain ⟨rfl,rfl⟩:=hl
     cases hud : D.upd l0[k] path .dead with
     | none=>simp [hud] at hu
     | some d4=>
      simp only [hud,Option.some.injEq] at hu
      subst hu
      obtain ⟨hn1,hn2⟩:=flat_nodup hF
      have hkm : ∀ b ∈ Fs k,b ∈ (List.range l0.length).flatMap Fs:=fun b hb=>List.mem_flatMap.2 ⟨k,List.mem_range.2 hklt,hb⟩
      simp only [D.noArr,hk] at hna
      obtain ⟨v,F1,F2,h1,h2,h3,h4,h5,h6,h7,h8,h9⟩:=ih (hr k hklt) hd hna hud (hn1 k hklt)
      have hlen:=(hr k hklt).len
      have hlo:=offk_lt l0 k hklt
      have hol : o < l0[k].sz:=by
       have:=(List.getElem?_eq_some_iff.1 h1).1
       omega
      refine ⟨v,F1,(List.range (l0.set k d4).length).flatMap (fun j=>if j = k then F2 else Fs j), ?_,h2, ?_,fun b hb=>hkm b (h4 b hb), ?_,h6, ?_, ?_, ?_⟩
      · rw [List.getElem?_take,if_pos hol,List.getElem?_drop] at h1
        exact h1
      · refine .agg (l0.set k d4) _ _ ?_ (fun j hj=>?_)
        · rw [hs,szs_set l0 k d4 hklt h9]
        · have hj' : j < l0.length:=by simpa using hj
          rw [offk_set l0 k j d4 hklt h9]
          by_cases hjk : j = k
          · subst hjk
            simp only [List.getElem_set_self,if_true,h9]
            exact h3
          · have hjj : (l0.set k d4)[j] = l0[j]:=by rw [List.getElem_set_ne (fun e=>hjk e.symm)]
            simp only [hjj,hjk,if_false]
            exact hr j hj'
      · intro b hb
        obtain ⟨j,hj,hm⟩:=List.mem_flatMap.1 hb
        have hj' : j < l0.length:=by simpa using List.mem_range.1 hj
        by_cases hjk : j = k
        · subst hjk; simp at hm; exact hkm b (h5 b hm)
        · simp only [hjk,if_false] at hm
          exact List.mem_flatMap.2 ⟨j,List.mem_range.2 hj',hm⟩
      · refine flat_nodup_mk (fun j hj=>?_) (fun i j hi hj hij b hb hb'=>?_)
        · have hj' : j < l0.length:=by simpa using hj
          by_cases hjk : j = k
          · simp [hjk,h7]
          · simp only [hjk,if_false]; exact hn1 j hj'
        · have hi' : i < l0.length:=by simpa using hi
          have hj' : j < l0.length:=by simpa using hj
          by_cases hik : i = k
          · subst hik
            simp only [if_true] at hb
            simp only [show ¬ j = i from fun e=>hij e.symm,if_false] at hb'
            exact hn2 j i hj' hi' (fun e=>hij e.symm) b hb' (h5 b hb)
          · simp only [hik,if_false] at hb
            by_cases hjk : j = k
            · simp only [hjk,if_true] at hb'; exact hn2 i k hi' hklt hik b hb (h5 b hb')
            · simp only [hjk,if_false] at hb'; exact hn2 i j hi' hj' hij b hb hb'
      · intro b hb hb'
        obtain ⟨j,hj,hm⟩:=List.mem_flatMap.1 hb'
        have hj' : j < l0.length:=by simpa using List.mem_range.1 hj
        by_cases hjk : j = k
        · subst hjk; simp at hm; exact h8 b hb hm
        · simp only [hjk,if_false] at hm
          exact hn2 j k hj' hklt hjk b hm (h4 b hb)
      · simp only [D.sz]
        rw [szs_set l0 k d4 hklt h9]
  | arr n z l cs hn hs hr=>simp [D.noArr] at hna
  | _=>simp [D.loc] at hl
theorem St.takeP {id t off e z : Nat} {path : List Nat} {l : List D} {d0 d0' : D} (h : σ.get t = some (.alb id off path)) (hb : σ.box id = some (.var d0)) (hl : d0.loc path = some (off,.sl (some e) z l))
 (hna : d0.noArr path = true) (hu : d0.upd path .dead = some d0') (hs : St C σ a w) :
 St C ((σ.putB id (.var d0')).upd t (.sl (some e) z l)) a w:=by
 obtain ⟨ρ,Fe,Fb,st⟩:=hs
 obtain ⟨hFt,hid,v,hv,hcell⟩:=st.env t _ h
 obtain ⟨cs,e0,F',q1,q2,q3⟩:=st.bx id _ hb
 have hnd : (ρ id :: F').Nodup:=by have:=st.nodB id; rw [q3] at this; exact this
 obtain ⟨v0,F1,F2,k1,k2,k3,k4,k5,k6,k7,k8,k9⟩:=q2.take hl hna hu (List.nodup_cons.1 hnd).2
 have hvv : v0 = v:=by
  have : cs[off]? = some v0:=by rw [<- Array.getElem?_toList]; exact k1
  simp only [World.cell?,q1] at hcell
  rw [this] at hcell
  cases hcell; rfl
 subst hvv
 have hmem : ∀ b,b ∈ F1 -> b ∈ Fb id:=fun b hb=>by rw [q3]; exact List.mem_cons_of_mem _ (k4 b hb)
 have hmem2 : ∀ b,b ∈ ρ id :: F2 -> b ∈ Fb id:=fun b hb=>by
  rw [q3]
  rcases List.mem_cons.1 hb with rfl | hb
  · simp
  · exact List.mem_cons_of_mem _ (k5 b hb)
 have hot : ∀ b,own (upd Fe t F1) (upd Fb id (ρ id :: F2)) b -> own Fe Fb b:=by
  rintro b (⟨u,hu⟩ | ⟨i,hi⟩)
  · by_cases hut : u = t
    · subst hut; rw [upd_same] at hu; exact .inr ⟨id,hmem b hu⟩
    · rw [upd_other hut] at hu; exact .inl ⟨u,hu⟩
  · by_cases hii : i = id
    · subst hii; rw [upd_same] at hi; exact .inr ⟨i,hmem2 b hi⟩
    · rw [upd_other hii] at hi; exact .inr ⟨i,hi⟩
 have hg : ∀ b,gd C Fe Fb b -> gd C (upd Fe t F1) (upd Fb id (ρ id :: F2)) b:=fun b hb=>⟨hb.1,fun hc=>hb.2 (hot b hc)⟩
 have hbox : ∀ i,((σ.putB id (.var d0')).upd t (.sl (some e) z l)).box i = if i = id then some (.var d0') else σ.box i:=fun i=>by
  rw [box_upd,box_putB]
  by_cases hi : i = id
  · subst hi; simp [hb]
  · simp [hi]
 have hL : ∀ i,(σ.box i).isSome = true -> (((σ.putB id (.var d0')).upd t (.sl (some e) z l)).box i).isSome = true:=fun i hi=>by
  rw [hbox]; by_cases hii : i = id
  · simp [hii]
  · simpa [hii] using hi
 refine ⟨ρ,upd Fe t F1,upd Fb id (ρ id :: F2),{
  size:=st.size
  defs:=st.defs
  pin:=fun i b hp=>⟨(st.pin i b hp).1,hL i (st.pin i b hp).2⟩
  env:=fun u x hx=>?_
  envN:=fun u hu=>?_
  bx:=fun i b hd=>?_
  bxN:=fun i hn=>?_
  nodE:=fun u=>?_
  nodB:=fun i=>?_
  dEE:=fun u u' hne b hb1 hb2=>?_
  dEB:=fun u i b hb1 hb2=>?_
  dBB:=fun i i' hne b hb1 hb2=>?_
  new:=fun b hb=>st.new b (hot b hb)
  kept:=st.kept
  os:=st.os
  tape:=⟨st.tape.tp,st.tape.dr⟩
  output:=st.output
  grown:=st.grown
  gl:=st.gl
  okN:=st.okN
  okO:=fun b hb=>st.okO b (hot b hb) }⟩
 · rw [get_upd,get_putB] at hx
   by_cases hut : u = t
   · subst hut
     simp only [if_true,h,Option.map_some] at hx
     cases hx
     rw [upd_same]
     refine (SR_plain rfl).2 ⟨v0,hv, ?_⟩
     simp only [VR,D.isAgg,Bool.false_eq_true,if_false]
     exact k2.mono (fun _ _ _=>rfl) (fun b hb _=>hg b hb) (fun i hi=>⟨hL i hi,rfl⟩)
   · simp only [hut,if_false,Option.map_eq_some_iff] at hx
     obtain ⟨x0,hx0,rfl⟩:=hx
     rw [upd_other hut]
     have hsr:=st.env u x0 hx0
     have hkeep : SR w ρ (gd C (upd Fe t F1) (upd Fb id (ρ id :: F2))) (fun i=>(((σ.putB id (.var d0')).upd t (.sl (some e) z l)).box i).isSome) a u x0 (Fe u):=
      SR_keep hsr (fun _ _ _=>rfl) (fun b hb _=>hg b hb) hL (fun _ _ _ _ h=>h)
     cases x0 with
     | alb i off path=>
      simp only [scrubB]
      by_cases hii : i = id
      · subst hii
        simp only [Nat.beq_refl,cond_true]
        obtain ⟨h1,_,v1,h2,_⟩:=hsr
        exact ⟨h1,v1,h2⟩
      · simp only [nbeq hii,cond_false]
        exact hkeep
     | _=>exact hkeep
 · rw [get_upd,get_putB] at hu
   by_cases hut : u = t
   · subst hut; simp [h] at hu
   · simp only [hut,if_false,Option.map_eq_none_iff] at hu
     rw [upd_other hut]
     exact st.envN u hu
 · rw [hbox] at hd
   by_cases hii : i = id
   · subst hii
     simp only [if_true,Option.some.injEq] at hd
     subst hd
     rw [upd_same]
     exact ⟨cs,e0,F2,q1,k3.mono (fun _ _ _=>rfl) (fun b hb _=>hg b hb) (fun i hi=>⟨hL i hi,rfl⟩),rfl⟩
   · simp only [hii,if_false] at hd
     rw [upd_other hii]
     exact (st.bx i b hd).mono (fun _ _ _=>rfl) (fun b hb _=>hg b hb) (fun i hi=>⟨hL i hi,rfl⟩)
 · rw [hbox] at hn
   by_cases hii : i = id
   · simp [hii] at hn
   · simp only [hii,if_false] at hn
     rw [upd_other hii]
     exact st.bxN i hn
 · by_cases hut : u = t
   · subst hut; rw [upd_same]; exact k6
   · rw [upd_other hut]; exact st.nodE u
 · by_cases hii : i = id
   · subst hii; rw [upd_same]; exact List.nodup_cons.2 ⟨fun hm=>(List.nodup_cons.1 hnd).1 (k5 _ hm),k7⟩
   · rw [upd_other hii]; exact st.nodB i
 · by_cases hut : u = t
   · subst hut
     rw [upd_same] at hb1
     rw [upd_other (fun h=>hne h.symm)] at hb2
     exact st.dEB u' id b hb2 (hmem b hb1)
   · rw [upd_other hut] at hb1
     by_cases hut' : u' = t
     · subst hut'
       rw [upd_same] at hb2
       exact st.dEB u id b hb1 (hmem b hb2)
     · rw [upd_other hut'] at hb2
       exact st.dEE u u' hne b hb1 hb2
 · by_cases hii : i = id
   · subst hii
     rw [upd_same] at hb2
     by_cases hut : u = t
     · subst hut; rw [upd_same] at hb1
       rcases List.mem_cons.1 hb2 with rfl | hb2
       · exact (List.nodup_cons.1 hnd).1 (k4 _ hb1)
       · exact k8 b hb1 hb2
     · rw [upd_other hut] at hb1; exact st.dEB u i _ hb1 (hmem2 b hb2)
   · rw [upd_other hii] at hb2
     by_cases hut : u = t
     · subst hut; rw [upd_same] at hb1; exact st.dBB id i (fun h=>hii h.symm) b (hmem b hb1) hb2
     · rw [upd_other hut] at hb1; exact st.dEB u i b hb1 hb2
 · have key : ∀ i b,b ∈ upd Fb id (ρ id :: F2) i -> b ∈ Fb i:=fun i b hb=>by
    by_cases hii : i = id
    · subst hii; rw [upd_same] at hb; exact hmem2 b hb
    · rw [upd_other hii] at hb; exact hb
   exact st.dBB i i' hne b (key i b hb1) (key i' b hb2)
theorem R.appBP {s id off t e z bytes : Nat} {path : List Nat} {d0 d0' : D} {x : Operand} {l l' l2 : List D} {ty rt : TypeId} {pos : String} {aft : Array Edge} {g : Option (Nat × Bool)} [hT : SlT P ty e] [hE : ElT P e z bytes]
 (h : σ.get s = some (.alb id off path)) (hb : σ.box id = some (.var d0)) (hl : d0.loc path = some (off,.sl (some e) z l)) (hna : d0.noArr path = true) (hu : d0.upd path .dead = some d0')
 {τ : Sg} (hτ : (σ.putB id (.var d0')).upd s (.sl (some e) z l) = τ) (hs : τ.get s = some (.sl (some e) z l))
 (hx : SrcO C.gl τ x z l') (he : l ++ l' = l2) (hn : l.length + l'.length <= 1073741824) (ht : t < σ.n) (hst : s ≠ t) (hby : bytes <= 131072) :
 OpS P C ⟨some t,.call { callee:=.builtin .append,args:=#[.tmp s,x],argTypes:=#[ty,ty] },rt,pos,aft,g⟩ σ ((τ.kill s).set t (.sl (some e) z l2)):=by
 subst hτ
 exact OpS.pre (fun a w hs=>St.takeP h hb hl hna hu hs) (R.appE (.inl rfl) hs hx he hn ht hst hby)
end Go.Sx

namespace Go.Sx
variable {P : Program} {C : Ctx} {σ σ' σ1 : Sg} {a : Act} {w w' : World} {ρ : Nat -> Nat} {Fe Fe' Fb : Nat -> List Nat}
theorem srcs_ok {ids : List Nat} {rs : List ResultVar} (h : (rs.all fun rv=>(srcS σ rv).2 || !memB ids (srcS σ rv).1) = true) : ∀ rv ∈ rs,(srcS σ rv).2 = false -> memB ids (srcS σ rv).1 = false:=by
 intro rv hrv h2
 have:=List.all_eq_true.1 h rv hrv
 rw [h2] at this
 simpa using this
theorem EndsB.none' {r : D} {ids : List Nat} {b0 bx' : List (Nat × Bx)} {e : Exit} (he : e = .normal ∨ e = .ret) (hb : keepB ids σ.bx = b0) (hb' : b0 = bx') (hok : okBxP ids b0) : EndsB [] P (.tup []) ids bx' e σ:=by
 subst hb'
 exact ⟨he,⟨[],rfl,rfl,List.nodup_nil,fun k hk=>by simp at hk⟩,rfl,hb,hok,fun rv hrv=>by cases hrv⟩
theorem EndsB.one' {rv : ResultVar} {r d : D} {ids : List Nat} {b0 bx' : List (Nat × Bx)} {e : Exit} (he : e = .normal ∨ e = .ret) (h : outS σ rv = some d) (hd : d = r) (h1 : d.isRef = false) (h3 : RtT P d rv) (hokr : d.okB ids = true)
 (hb : keepB ids σ.bx = b0) (hb' : b0 = bx') (hok : okBxP ids b0) (hs : ([rv].all fun rv=>(srcS σ rv).2 || !memB ids (srcS σ rv).1) = true) : EndsB [rv] P r ids bx' e σ:=by
 subst hb'
 subst hd
 exact ⟨he,⟨h,h1,h3⟩,hokr,hb,hok,srcs_ok hs⟩
inductive EndLB (P : Program) (σ : Sg) : List ResultVar -> List D -> Prop
 | nil : EndLB P σ [] []
 | cons {rv : ResultVar} {d : D} {rs : List ResultVar} {ds : List D} (h : outS σ rv = some d) (h1 : d.isRef = false) (h3 : RtT P d rv) (t : EndLB P σ rs ds) : EndLB P σ (rv :: rs) (d :: ds)
theorem EndLB.len {rs : List ResultVar} {ds : List D} (h : EndLB P σ rs ds) : ds.length = rs.length:=by
 induction h with
 | nil=>rfl
 | cons _ _ _ _ ih=>simp [ih]
theorem EndLB.ok {rs : List ResultVar} {ds : List D} (h : EndLB P σ rs ds) : ∀ k (h : k < rs.length) (h' : k < ds.length),outS σ rs[k] = some ds[k] /\ ds[k].isRef = false /\ RtT P ds[k] rs[k]:=by
 induction h with
 | nil=>intro k hk; simp at hk
 | cons h h1 h3 t ih=>
  intro k hk hk'
  cases k with
  | zero=>exact ⟨h,h1,h3⟩
  | succ k=>simpa using ih k (by simpa using hk) (by simpa using hk')
theorem EndsB.many' {r1 r2 : ResultVar} {rs : List ResultVar} {ds ds' : List D} {ids : List Nat} {b0 bx' : List (Nat × Bx)} {e : Exit} (he : e = .normal ∨ e = .ret) (h : EndLB P σ (r1 :: r2 :: rs) ds') (hd : ds' = ds) (hn : ((r1 :: r2 :: rs).map (srcS σ)).Nodup) (hokr : (D.tup ds').okB ids = true)
 (hb : keepB ids σ.bx = b0) (hb' : b0 = bx') (hok : okBxP ids b0) (hs : ((r1 :: r2 :: rs).all fun rv=>(srcS σ rv).2 || !memB ids (srcS σ rv).1) = true) : EndsB (r1 :: r2 :: rs) P (.tup ds) ids bx' e σ:=by
 subst hb'
 subst hd
 exact ⟨he,⟨_,rfl,h.len,hn,h.ok⟩,hokr,hb,hok,srcs_ok hs⟩
end Go.Sx

namespace Go.Sx
variable {P : Program} {C : Ctx} {σ σ' σ1 : Sg} {a : Act} {w w' : World} {ρ : Nat -> Nat} {Fe Fe' Fb : Nat -> List Nat}
def OpX (P : Program) (C : Ctx) (o : Oper) (σ : Sg) (E : Exit -> Sg -> Prop) : Prop:=
 ∀ a w,St C σ a w -> ∀ (K : Act -> World -> Prop) (Q : Exit -> Act -> World -> Prop),(∀ e a' w' σ',St C σ' a' w' -> E e σ' -> Q e a' w') -> o.wpIn (Fx C) 3 P a w K Q
def D.albIn (ids : List Nat) : D -> Bool
 | .alb id _ _=>memB ids id
 | _=>false
def okAlbE (ids : List Nat) (ks : List (Nat × Nat)) (c : Nat) : List (Nat × D) -> Bool
 | []=>true
 | (u,d) :: r=>(!(d.albIn ids) || has ks c u) && okAlbE ids ks c r
def okAlbI (ids : List Nat) (an : List Nat) (ks : List (Nat × Nat)) (c : Nat) : List It -> Nat -> Bool
 | [],_=>true
 | ⟨t,d,_⟩ :: r,j=>(!(d.albIn ids) || has ks c t || tb (nth an j) c) && okAlbI ids an ks c r (j + 1)
theorem okAlbE_ok {ids : List Nat} {ks : List (Nat × Nat)} {c : Nat} {env : List (Nat × D)} (h : okAlbE ids ks c env = true) {u : Nat} {x : D} (hx : lk env u = some x) : x.albIn ids = false ∨ (c,u) ∈ ks:=by
 induction env with
 | nil=>cases hx
 | cons y r ih=>
  obtain ⟨k,d⟩:=y
  simp only [okAlbE,Bool.and_eq_true,Bool.or_eq_true,Bool.not_eq_true'] at h
  rw [lk_cons] at hx
  split at hx
  · rename_i hk
    subst hk
    cases hx
    exact h.1.imp id has_ok
  · exact ih h.2 hx
theorem okAlbI_ok {ids an : List Nat} {ks : List (Nat × Nat)} {c : Nat} {its : List It} {j0 : Nat} (h : okAlbI ids an ks c its j0 = true) {k t : Nat} {d : D} {wt : Bool} (hk : its[k]? = some ⟨t,d,wt⟩) :
 d.albIn ids = false ∨ (c,t) ∈ ks ∨ tb (nth an (j0 + k)) c = true:=by
 induction its generalizing j0 k with
 | nil=>simp at hk
 | cons y r ih=>
  obtain ⟨t',d',w'⟩:=y
  simp only [okAlbI,Bool.and_eq_true,Bool.or_eq_true,Bool.not_eq_true'] at h
  cases k with
  | zero=>
   simp at hk
   obtain ⟨rfl,rfl,rfl⟩:=hk
   rcases h.1 with (h1 | h1) | h1
   · exact .inl h1
   · exact .inr (.inl (has_ok h1))
   · exact .inr (.inr h1)
  | succ k=>
   have:=ih h.2 (k:=k) (by simpa using hk)
   rwa [show j0 + (k + 1) = j0 + 1 + k by omega]
theorem okAlbE_nil {ks : List (Nat × Nat)} {c : Nat} (env : List (Nat × D)) : okAlbE [] ks c env = true:=by
 induction env with
 | nil=>rfl
 | cons y r ih=>obtain ⟨u,d⟩:=y; simp only [okAlbE,ih,Bool.and_true]; cases d <;> simp [D.albIn,memB]
theorem okAlbI_nil {an : List Nat} {ks : List (Nat × Nat)} {c : Nat} (its : List It) (j : Nat) : okAlbI [] an ks c its j = true:=by
 induction its generalizing j with
 | nil=>rfl
 | cons y r ih=>obtain ⟨u,d,x⟩:=y; simp only [okAlbI,ih,Bool.and_true]; cases d <;> simp [D.albIn,memB]
structure ItG (σ : Sg) (ops : List Oper) (an : List Nat) (ks : List (Nat × Nat)) (its : List It) : Prop where
 len : its.length <= ops.length
 ts : okTs σ.n (slots its) = true
 ref : okRef an ks (slots its) its 0 = true
 env : okEnv (slots its) σ.env = true
section
variable {listed : Array Bool} {ops : List Oper} {an : List Nat} {ks kk : List (Nat × Nat)} {its : List It} {Q : Exit -> Sg -> Prop}
def InvG (σ : Sg) (an : List Nat) (ks : List (Nat × Nat)) (its : List It) (listed : Array Bool) (τ : Sg) : Prop:=
 ∀ u x,afts an (fun j=>listed.getD j false) ks σ.env its u = some x -> τ.get u = some x
theorem draw_facts (H : ItG σ ops an ks its) (hsize : listed.size = ops.length) {i : Nat} (hi : i < its.length) (hun : listed.getD i true = false)
 (hanc : ∀ j,j < ops.length -> tb (nth an i) j = true -> listed.getD j false = true) (hnot : ∀ j,j < ops.length -> tb (nth an j) i = true -> listed.getD j false = false)
 {τ : Sg} (hinv : InvG σ an ks its listed τ) : ∀ u x,facts an ks σ.env its i u = some x -> τ.get u = some x:=by
 obtain ⟨hnd,hlt⟩:=okTs_ok H.ts
 obtain ⟨hin,hif⟩:=undone hun
 intro u x hx
 refine hinv u x ?_
 unfold facts at hx
 unfold afts
 cases hb : bads (fun k=>!(Nat.beq k i) && !(tb (nth an k) i) && !(cov an (fun j=>tb (nth an i) j) its u k)) ks u with
 | true=>rw [hb] at hx; cases hx
 | false=>
  rw [hb] at hx
  simp only [cond_false] at hx
  have hb2 : bads (fun j=>listed.getD j false && !(cov an (fun j=>listed.getD j false) its u j)) ks u = false:=by
   rw [bads_false] at hb ⊢
   intro k s hm hsu
   have:=hb k s hm hsu
   cases hd : listed.getD k false with
   | false=>rfl
   | true=>
    have hk : k < ops.length:=by rw [<- hsize]; exact getD_true hd
    have hki : k ≠ i:=by rintro rfl; rw [hif] at hd; cases hd
    rw [nbeq hki] at this
    cases ht : tb (nth an k) i with
    | true=>rw [hnot k hk ht] at hd; cases hd
    | false=>
     rw [ht] at this
     simp only [Bool.not_false,Bool.true_and,Bool.not_eq_false'] at this
     obtain ⟨j,dj,wj,h1,h2,h3,h4⟩:=cov_true this
     have hjl : j < ops.length:=Nat.lt_of_lt_of_le (List.getElem?_eq_some_iff.1 h2).1 H.len
     rw [cov_mk (g:=fun j=>listed.getD j false) h1 (hanc j hjl h3) h4]
     rfl
  rw [hb2]
  simp only [cond_false]
  rcases slot_cases its u with hu | ⟨k,dk,wk,hk⟩
  · rw [looks_none hu] at hx ⊢; exact hx
  · rw [looks_at hnd hk] at hx ⊢
    simp only [Nat.zero_add] at hx ⊢
    have hkl : k < ops.length:=Nat.lt_of_lt_of_le (List.getElem?_eq_some_iff.1 hk).1 H.len
    cases h1 : tb (nth an i) k with
    | true=>rw [h1] at hx; rw [hanc k hkl h1]; exact hx
    | false=>
     rw [h1] at hx
     cases h2 : tb (nth an k) i with
     | true=>rw [h2] at hx; rw [hnot k hkl h2]; exact hx
     | false=>rw [h2] at hx; cases hx
theorem draw_after (H : ItG σ ops an ks its) (hsize : listed.size = ops.length) {i t : Nat} {d : D} {wt : Bool} (hit : its[i]? = some ⟨t,d,wt⟩) (hun : listed.getD i true = false)
 (hnot : ∀ j,j < ops.length -> tb (nth an j) i = true -> listed.getD j false = false) {ids : List Nat} (hE : okAlbE ids ks i σ.env = true) (hI : okAlbI ids an ks i its 0 = true)
 {τ : Sg} (hinv : InvG σ an ks its listed τ) (x : D) (hx : x = (bif wt then d else .tup [])) (τ2 : Sg)
 (hg2 : ∀ u y,(∀ k s,(k,s) ∈ ks -> s = u -> k ≠ i) -> τ.get u = some y -> y.albIn ids = false -> τ2.get u = some y) : InvG σ an ks its (listed.setIfInBounds i true) (τ2.set t x):=by
 obtain ⟨hnd,hlt⟩:=okTs_ok H.ts
 obtain ⟨hin,hif⟩:=undone hun
 intro u y hy
 unfold afts at hy
 cases hbd : bads (fun j=>(listed.setIfInBounds i true).getD j false && !(cov an (fun j=>(listed.setIfInBounds i true).getD j false) its u j)) ks u with
 | true=>rw [hbd] at hy; cases hy
 | false=>
  rw [hbd] at hy
  simp only [cond_false] at hy
  rw [bads_false] at hbd
  rw [get_set]
  have hcov : u ≠ t -> ∀ k,cov an (fun j=>(listed.setIfInBounds i true).getD j false) its u k = true -> cov an (fun j=>listed.getD j false) its u k = true /\ k ≠ i:=by
   intro hut k hc
   obtain ⟨j,dj,wj,h1,h2,h3,h4⟩:=cov_true hc
   have hji : i ≠ j:=by
    rintro rfl
    rw [hit] at h2
    cases h2
    exact hut rfl
   rw [getD_set_ne false hji] at h3
   refine ⟨cov_mk h1 h3 h4, ?_⟩
   rintro rfl
   have hjl : j < ops.length:=Nat.lt_of_lt_of_le (List.getElem?_eq_some_iff.1 h2).1 H.len
   rw [hnot j hjl h4] at h3
   cases h3
  have hki : u ≠ t -> ∀ k s,(k,s) ∈ ks -> s = u -> k ≠ i:=by
   rintro hut k s hm hsu rfl
   have h1:=hbd k s hm hsu
   have h2 : (listed.setIfInBounds k true).getD k false = true:=by simp [hin]
   rw [h2] at h1
   simp only [Bool.true_and,Bool.not_eq_false'] at h1
   exact (hcov hut k h1).2 rfl
  have hbd2 : u ≠ t -> bads (fun j=>listed.getD j false && !(cov an (fun j=>listed.getD j false) its u j)) ks u = false:=by
   intro hut
   rw [bads_false]
   intro k s hm hsu
   have h1:=hbd k s hm hsu
   have h2:=hki hut k s hm hsu
   rw [getD_set_ne false (fun e=>h2 e.symm)] at h1
   cases hd : listed.getD k false with
   | false=>rfl
   | true=>
    rw [hd] at h1
    simp only [Bool.true_and,Bool.not_eq_false'] at h1 ⊢
    exact (hcov hut k h1).1
  by_cases hut : u = t
  · subst hut
    rw [looks_at hnd hit] at hy
    have e : (listed.setIfInBounds i true).getD (0 + i) false = true:=by simp [hin]
    rw [e] at hy
    simp only [cond_true] at hy
    simp only [if_true,hx]
    cases wt <;> exact hy
  · have hki:=hki hut
    have hbd2:=hbd2 hut
    simp only [hut,if_false]
    have hold : afts an (fun j=>listed.getD j false) ks σ.env its u = some y /\ y.rf ≠ some t /\ y.albIn ids = false:=by
     unfold afts
     rw [hbd2]
     simp only [cond_false]
     rcases slot_cases its u with hu | ⟨k,dk,wk,hk⟩
     · rw [looks_none hu] at hy ⊢
       exact ⟨hy,okEnv_ok H.env hy (List.mem_of_getElem? (i:=i) (by rw [slots_get,hit]; rfl)),(okAlbE_ok hE hy).resolve_right fun h=>hki i u h rfl rfl⟩
     · rw [looks_at hnd hk] at hy ⊢
       simp only [Nat.zero_add] at hy ⊢
       have hne : i ≠ k:=by
        rintro rfl
        rw [hit] at hk
        cases hk
        exact hut rfl
       rw [getD_set_ne false hne] at hy
       refine ⟨hy, ?_⟩
       cases hd : listed.getD k false with
       | false=>
        rw [hd] at hy
        exact ⟨okEnv_ok H.env hy (List.mem_of_getElem? (i:=i) (by rw [slots_get,hit]; rfl)),(okAlbE_ok hE hy).resolve_right fun h=>hki i u h rfl rfl⟩
       | true=>
        rw [hd] at hy
        simp only [cond_true] at hy
        cases wk with
        | false=>simp at hy; subst hy; simp [D.rf,D.albIn]
        | true=>
         simp at hy
         subst hy
         refine ⟨fun hrf=>?_, ?_⟩
         · have:=okRef_ok H.ref hk hrf (i:=i) (by rw [slots_get,hit]; rfl)
           simp only [Nat.zero_add] at this
           rcases this with this | this
           · rw [hnot k (by rw [<- hsize]; exact getD_true hd) this] at hd
             cases hd
           · exact hki i u this rfl rfl
         · rcases okAlbI_ok hI hk with h | h | h
           · exact h
           · exact absurd rfl (hki i u h rfl)
           · simp only [Nat.zero_add] at h
             rw [hnot k (by rw [<- hsize]; exact getD_true hd) h] at hd
             cases hd
    rw [hg2 u y hki (hinv u y hold.1) hold.2.2]
    simp only [Option.map_some,scrub_id hold.2.1]
def knB (an : List Nat) (c i : Nat) (bx0 bx1 bxc : List (Nat × Bx)) : List (Nat × Bx):=
 bif tb (nth an i) c then bx1 else bif tb (nth an c) i then bx0 else bxc
structure KnC (an : List Nat) (c i : Nat) (bx0 bx1 bxc : List (Nat × Bx)) (τ : Sg) : Prop where
 f : ∀ id x,lk (knB an c i bx0 bx1 bxc) id = some x -> τ.box id = some x
 or : τ.bx = bx0 ∨ τ.bx = bx1
instance (an : List Nat) (c i : Nat) (bx0 bx1 bxc : List (Nat × Bx)) (τ : Sg) : CoeFun (KnC an c i bx0 bx1 bxc τ) (fun _=>∀ id x,lk (knB an c i bx0 bx1 bxc) id = some x -> τ.box id = some x):=⟨KnC.f⟩
def SpC (P : Program) (C : Ctx) (σ : Sg) (bx1 : List (Nat × Bx)) (c : Nat) (ids : List Nat) (an : List Nat) (ks : List (Nat × Nat)) (its : List It) (o : Oper) (t : Nat) (d : D) : Prop:=
 ∀ τ : Sg,τ.bx = σ.bx -> τ.n = σ.n -> t < τ.n -> (∀ u x,facts an ks σ.env its c u = some x -> τ.get u = some x) ->
  ∃ τ' : Sg,OpS P C o τ (τ'.set t d) /\ τ'.n = τ.n /\ τ'.bx = bx1 /\ ∀ u y,(∀ k s,(k,s) ∈ ks -> s = u -> k ≠ c) -> τ.get u = some y -> y.albIn ids = false -> τ'.get u = some y
def SpX (P : Program) (C : Ctx) (σ : Sg) (c : Nat) (an : List Nat) (ks : List (Nat × Nat)) (its : List It) (o : Oper) (Q : Exit -> Sg -> Prop) : Prop:=
 ∀ τ : Sg,τ.bx = σ.bx -> τ.n = σ.n -> (∀ u x,facts an ks σ.env its c u = some x -> τ.get u = some x) -> OpX P C o τ Q
def AllC (P : Program) (C : Ctx) (Q : Exit -> Sg -> Prop) (σ : Sg) (bx1 bxc : List (Nat × Bx)) (c : Nat) (ids : List Nat) (pan : Bool) (ops : List Oper) (an : List Nat) (ks kk : List (Nat × Nat)) (its : List It) : List Oper -> List It -> Nat -> Prop
 | o :: os,⟨t,d,wt⟩ :: r,i=>(bif Nat.beq i c then (o.guard = none /\ wt = true /\ bif pan then SpX P C σ c an ks its o Q else o.dst = some t /\ SpC P C σ bx1 c ids an ks its o t d)
  else bif pan && tb (nth an i) c then True
  else o.dst = some t /\ Wt ops (facts an ks σ.env its i) o wt /\
  (wt = true -> ∀ τ : Sg,KnC an c i σ.bx bx1 bxc τ -> t < τ.n -> (∀ u x,facts an ks σ.env its i u = some x -> τ.get u = some x) -> OpS P C o τ ((killS τ kk i).set t d))) /\
  AllC P C Q σ bx1 bxc c ids pan ops an ks kk its os r (i + 1)
 | [],_ :: _,_=>False
 | _,[],_=>True
theorem AllC.at {bx1 bxc : List (Nat × Bx)} {c : Nat} {ids : List Nat} {pan : Bool} : ∀ {os : List Oper} {r : List It} {i0 : Nat},AllC P C Q σ bx1 bxc c ids pan ops an ks kk its os r i0 -> ∀ {k : Nat} {t : Nat} {d : D} {wt : Bool},r[k]? = some ⟨t,d,wt⟩ ->
 ∃ o,os[k]? = some o /\ (bif Nat.beq (i0 + k) c then (o.guard = none /\ wt = true /\ bif pan then SpX P C σ c an ks its o Q else o.dst = some t /\ SpC P C σ bx1 c ids an ks its o t d)
  else bif pan && tb (nth an (i0 + k)) c then True
  else o.dst = some t /\ Wt ops (facts an ks σ.env its (i0 + k)) o wt /\
  (wt = true -> ∀ τ : Sg,KnC an c (i0 + k) σ.bx bx1 bxc τ -> t < τ.n -> (∀ u x,facts an ks σ.env its (i0 + k) u = some x -> τ.get u = some x) -> OpS P C o τ ((killS τ kk (i0 + k)).set t d))):=by
 intro os r
 induction r generalizing os with
 | nil=>intro i0 _ k t d wt hk; simp at hk
 | cons y r ih=>
  intro i0 h k t d wt hk
  obtain ⟨t',d',w'⟩:=y
  cases os with
  | nil=>exact h.elim
  | cons o os=>
   cases k with
   | zero=>
    simp at hk
    obtain ⟨rfl,rfl,rfl⟩:=hk
    exact ⟨o,rfl,h.1⟩
   | succ k=>
    obtain ⟨o',h1,h2⟩:=ih h.2 (k:=k) (by simpa using hk)
    rw [show i0 + (k + 1) = i0 + 1 + k by omega]
    exact ⟨o',by simpa using h1,h2⟩
theorem Region.wanted_none {o : Oper} (h : o.guard = none) (y : Nat -> Option Bool) : Region.wanted o y = true:=by
 unfold Region.wanted; rw [h]
def bxAt (c : Nat) (bx0 bx1 : List (Nat × Bx)) (listed : Array Bool) : List (Nat × Bx):=bif listed.getD c false then bx1 else bx0
theorem draw_stepC {bx1 bxc : List (Nat × Bx)} {c : Nat} {pan : Bool} {ids : List Nat} (H : ItG σ ops an ks its) (hall : AllC P C Q σ bx1 bxc c ids pan ops an ks kk its ops its 0) (hsub : subs kk ks = true)
 (hE : okAlbE ids ks c σ.env = true) (hI : okAlbI ids an ks c its 0 = true) (hclt : c < its.length)
 (hbc : ∀ id x,lk bxc id = some x -> lk σ.bx id = some x /\ lk bx1 id = some x)
 (hsize : listed.size = ops.length) {i : Nat} {oi : Oper} (hi : i < its.length) (ho : ops[i]? = some oi) (hun : listed.getD i true = false)
 (hanc : ∀ j,j < ops.length -> tb (nth an i) j = true -> listed.getD j false = true) (hnot : ∀ j,j < ops.length -> tb (nth an j) i = true -> listed.getD j false = false)
 (hpc : pan = true -> listed.getD c false = false)
 {τ : Sg} (hs : St C τ a w) (hn : τ.n = σ.n) (hb : τ.bx = bxAt c σ.bx bx1 listed) (hinv : InvG σ an ks its listed τ) {K : Act -> World -> Prop}
 (hK : ∀ a' w' τ',St C τ' a' w' -> τ'.n = σ.n -> τ'.bx = bxAt c σ.bx bx1 (listed.setIfInBounds i true) -> InvG σ an ks its (listed.setIfInBounds i true) τ' -> (pan = true -> i ≠ c) -> K a' w') :
 Region.wanted oi (yielded ops.toArray a.tmps) = true /\ oi.wpIn (Fx C) 3 P a w K (fun e a' w'=>∃ σ',St C σ' a' w' /\ Q e σ') ∨ Region.wanted oi (yielded ops.toArray a.tmps) = false /\ K (a.put oi.dst undef) w:=by
 obtain ⟨hnd,hlt⟩:=okTs_ok H.ts
 obtain ⟨⟨t,d,wt⟩,hit⟩ : ∃ it,its[i]? = some it:=⟨its[i],List.getElem?_eq_getElem hi⟩
 obtain ⟨o,ho',hcl⟩:=hall.at hit
 rw [ho] at ho'
 cases ho'
 simp only [Nat.zero_add] at hcl
 obtain ⟨hin,hif⟩:=undone hun
 have hil : i < ops.length:=by rw [<- hsize]; exact hin
 have hfact:=draw_facts H hsize hi hun hanc hnot hinv
 have htn : t < τ.n:=by
  rw [hn]
  exact hlt t (List.mem_of_getElem? (i:=i) (by rw [slots_get,hit]; rfl))
 by_cases hic' : i = c
 · subst hic'
   simp only [Nat.beq_refl,cond_true] at hcl
   obtain ⟨hg,rfl,hsp⟩:=hcl
   have hb0 : τ.bx = σ.bx:=by rw [hb]; unfold bxAt; rw [hif]; rfl
   refine .inl ⟨Region.wanted_none hg _, ?_⟩
   cases pan with
   | true=>
    exact hsp τ hb0 hn hfact a w hs _ _ fun e a' w' σ' hs' hq=>⟨σ',hs',hq⟩
   | false=>
    obtain ⟨hdst,hsp⟩:=hsp
    obtain ⟨τ',h1,h2,h3,h4⟩:=hsp τ hb0 hn htn hfact
    refine h1 a w hs _ _ fun a' w' hs'=>?_
    refine hK a' w' _ hs' (h2.trans hn) ?_ (draw_after H hsize hit hun hnot hE hI hinv d rfl τ' h4) (fun h=>by cases h)
    show τ'.bx = _
    rw [h3]
    unfold bxAt
    have : (listed.setIfInBounds i true).getD i false = true:=by simp [hin]
    rw [this]; rfl
 · rw [nbeq hic'] at hcl
   simp only [cond_false] at hcl
   have hbxn : bxAt c σ.bx bx1 (listed.setIfInBounds i true) = bxAt c σ.bx bx1 listed:=by
    unfold bxAt; rw [getD_set_ne false hic']
   have hcl2 : (pan && tb (nth an i) c) = false:=by
    cases pan with
    | false=>rfl
    | true=>
     cases ht : tb (nth an i) c with
     | false=>rfl
     | true=>
      have:=hanc c (Nat.lt_of_lt_of_le hclt H.len) ht
      rw [hpc rfl] at this; cases this
   rw [hcl2] at hcl
   simp only [cond_false] at hcl
   obtain ⟨hdst,hwt,hop⟩:=hcl
   have hEi : okAlbE [] ks i σ.env = true:=okAlbE_nil _
   have hIi : ∀ j,okAlbI [] an ks i its j = true:=fun j=>okAlbI_nil _ j
   rw [hwt.ok hs hfact]
   have hkn:=killS_n τ kk i
   cases hwt2 : wt with
   | false=>
    refine .inr ⟨rfl, ?_⟩
    rw [hdst]
    exact hK _ _ _ (hs.unwanted htn) hn (hb.trans hbxn.symm) (draw_after H hsize hit hun hnot hEi (hIi 0) hinv (.tup []) (by rw [hwt2]; rfl) τ (fun u y _ h _=>h)) (fun _=>hic')
   | true=>
    refine .inl ⟨rfl,hop hwt2 τ ⟨fun id x hx=>?_,by rw [hb]; unfold bxAt; cases listed.getD c false; exact .inl rfl; exact .inr rfl⟩ htn hfact a w hs _ _ fun a' w' hs'=>?_⟩
    · simp only [Sg.box,hb]
      have hcl' : c < ops.length:=(Nat.lt_of_lt_of_le hclt H.len)
      unfold knB at hx
      unfold bxAt
      cases h1 : tb (nth an i) c with
      | true=>rw [h1] at hx; rw [hanc c hcl' h1]; exact hx
      | false=>
       rw [h1] at hx
       cases h2 : tb (nth an c) i with
       | true=>rw [h2] at hx; rw [hnot c hcl' h2]; exact hx
       | false=>
        rw [h2] at hx
        cases hd : listed.getD c false with
        | true=>exact (hbc id x hx).2
        | false=>exact (hbc id x hx).1
    · exact hK _ _ _ hs' (hkn.1.trans hn) (hkn.2.trans (hb.trans hbxn.symm)) (draw_after H hsize hit hun hnot hEi (hIi 0) hinv d (by rw [hwt2]; rfl) _ (fun u y hu hy _=>(killS_get (fun k s hm=>hu k s (subs_ok hsub k s hm))).trans hy)) (fun _=>hic')
theorem draw_mainC {bx1 bxc : List (Nat × Bx)} {c : Nat} {pan : Bool} {ids : List Nat} (hA : okAn ops an its.length = true) (H : ItG σ ops an ks its) (hall : AllC P C Q σ bx1 bxc c ids pan ops an ks kk its ops its 0) (hsub : subs kk ks = true)
 (hE0 : okAlbE ids ks c σ.env = true) (hI0 : okAlbI ids an ks c its 0 = true) (hclt : c < its.length)
 (hbc : ∀ id x,lk bxc id = some x -> lk σ.bx id = some x /\ lk bx1 id = some x)
 {live : List Nat} {env' : List (Nat × D)} (hE : picks (afts an (fun _=>true) ks σ.env its) live = env')
 (hT : pan = false -> TL P C Q (ops.drop its.length) ⟨σ.n,env',bx1⟩) : ∀ (fuel : Nat) (listed : Array Bool) (a : Act) (w : World) (τ : Sg),Cl ops listed -> listed.toList.count false <= fuel ->
 (∀ j,its.length <= j -> j < ops.length -> listed.getD j true = false) -> (pan = true -> listed.getD c false = false) -> St C τ a w -> τ.n = σ.n -> τ.bx = bxAt c σ.bx bx1 listed -> InvG σ an ks its listed τ ->
 wpAnyIn (Fx C) 3 P .any ops.toArray (fun e a' w'=>∃ σ',St C σ' a' w' /\ Q e σ') fuel listed a w:=by
 have fin : ∀ (listed : Array Bool) (a : Act) (w : World) (τ : Sg),(∀ j,j < its.length -> listed.getD j false = true) -> (pan = true -> listed.getD c false = false) -> St C τ a w -> τ.n = σ.n -> τ.bx = bxAt c σ.bx bx1 listed -> InvG σ an ks its listed τ ->
  pan = false /\ St C ⟨σ.n,env',bx1⟩ a w:=by
  intro listed a w τ hall' hpc hs hn hb hinv
  refine ⟨?_, ?_⟩
  · cases pan with
    | false=>rfl
    | true=>have:=hall' c hclt; rw [hpc rfl] at this; cases this
  · refine hs.weaken hn.symm ?_ fun t d hd=>hinv t d ?_
    · rw [hb]; unfold bxAt; rw [hall' c hclt]; rfl
    · have:=lk_picks (f:=afts an (fun _=>true) ks σ.env its) (l:=live) (by rw [hE]; exact hd)
      unfold afts at this ⊢
      cases hb : bads (fun k=>true && !(cov an (fun _=>true) its t k)) ks t with
      | true=>rw [hb] at this; cases this
      | false=>
       rw [hb] at this
       rw [bads_fin (fun j dj wj hj=>hall' j (List.getElem?_eq_some_iff.1 hj).1) hb]
       simp only [cond_false] at this ⊢
       rcases slot_cases its t with hu | ⟨k,dk,wk,hk⟩
       · rw [looks_none hu] at this ⊢; exact this
       · rw [looks_at (okTs_ok H.ts).1 hk] at this ⊢
         simp only [Nat.zero_add] at this ⊢
         rw [hall' k (List.getElem?_eq_some_iff.1 hk).1]; exact this
 intro fuel
 induction fuel with
 | zero=>
  intro listed a w τ hc hf h2 hpc hs hn hb hinv
  by_cases hall' : ∀ j,j < its.length -> listed.getD j false = true
  · obtain ⟨hp,hs'⟩:=fin listed a w τ hall' hpc hs hn hb hinv
    exact draw_tail hA _ its.length 0 listed a w ⟨σ.n,env',bx1⟩ rfl (Nat.le_refl _) H.len hc hf hall' h2 hs' (hT hp)
  · exfalso
    apply hall'
    intro j hj
    have:=count_zero (listed:=listed) (by omega) j
    have hjl : j < listed.size:=by rw [hc.size]; have:=H.len; omega
    simp [hjl] at this ⊢
    exact this
 | succ fuel ih=>
  intro listed a w τ hc hf h2 hpc hs hn hb hinv
  by_cases hall' : ∀ j,j < its.length -> listed.getD j false = true
  · obtain ⟨hp,hs'⟩:=fin listed a w τ hall' hpc hs hn hb hinv
    exact draw_tail hA _ its.length (fuel + 1) listed a w ⟨σ.n,env',bx1⟩ rfl (Nat.le_refl _) H.len hc hf hall' h2 hs' (hT hp)
  · have hsome : ∃ j,j < its.length /\ listed.getD j true = false:=by
     rcases Classical.not_forall.1 hall' with ⟨j,hj⟩
     rcases Classical.not_imp.1 hj with ⟨hj1,hj2⟩
     refine ⟨j,hj1, ?_⟩
     have hjl : j < listed.size:=by rw [hc.size]; have:=H.len; omega
     simp [hjl] at hj2 ⊢
     exact hj2
    have key : ∀ n j,j = n -> j < its.length -> listed.getD j true = false -> ∃ k,k ∈ Region.ready .any ops.toArray listed:=by
     intro n
     induction n using Nat.strongRecOn with
     | _ n ihn=>
      intro j hjn hj hu
      have hjl : j < ops.length:=Nat.lt_of_lt_of_le hj H.len
      have ho : ops[j]? = some ops[j]:=List.getElem?_eq_getElem hjl
      by_cases hr : ∀ e ∈ ops[j].after,Region.binds .any e = true -> listed.getD e.on false = true
      · exact ⟨j,mem_ready.2 ⟨hu,_,by simp,hr⟩⟩
      · rcases Classical.not_forall.1 hr with ⟨e,he⟩
        rcases Classical.not_imp.1 he with ⟨he1,he2⟩
        rcases Classical.not_imp.1 he2 with ⟨he3,he4⟩
        have hlt:=(okAn_spec hA ho).1 e he1 he3
        refine ihn e.on (by omega) e.on rfl (by omega) ?_
        have hel : e.on < listed.size:=by rw [hc.size]; omega
        simp [hel] at he4 ⊢
        exact he4
    obtain ⟨j0,hj0,hu0⟩:=hsome
    refine ⟨fun hr=>?_,fun i hi=>?_⟩
    · obtain ⟨k,hk⟩:=key j0 j0 rfl hj0 hu0
      rw [hr] at hk
      cases hk
    · obtain ⟨h3,oi,h4,h5⟩:=mem_ready.1 hi
      have ho : ops[i]? = some oi:=by simpa using h4
      have hil : i < ops.length:=(List.getElem?_eq_some_iff.1 ho).1
      have him : i < its.length:=by
       rcases Nat.lt_or_ge i its.length with h | h
       · exact h
       · exfalso
         obtain ⟨_,h9⟩:=okAn_spec hA ho
         have hj0l : j0 < ops.length:=Nat.lt_of_lt_of_le hj0 H.len
         obtain ⟨h10,h11⟩:=h9 j0 hj0l
         obtain ⟨e,he,hb,h12⟩:=h10 (h11 h (by omega))
         have hd:=h5 e he hb
         have hkd : listed.getD j0 false = true:=by
          rcases h12 with rfl | h12
          · exact hd
          · exact hc.anc hA e.on (by rw [<- hc.size]; exact getD_true hd) hd j0 hj0l h12
         rw [(undone hu0).2] at hkd
         cases hkd
      have hspc:=(okAn_spec hA ho).2
      have hif:=(undone h3).2
      have hanc : ∀ j,j < ops.length -> tb (nth an i) j = true -> listed.getD j false = true:=by
       intro j hj ht
       obtain ⟨e,he,hb,h1⟩:=(hspc j hj).1 ht
       have hd:=h5 e he hb
       rcases h1 with rfl | h1
       · exact hd
       · exact hc.anc hA e.on (by rw [<- hc.size]; exact getD_true hd) hd j hj h1
      have hnot : ∀ j,j < ops.length -> tb (nth an j) i = true -> listed.getD j false = false:=by
       intro j hj ht
       cases hd : listed.getD j false with
       | false=>rfl
       | true=>have:=hc.anc hA j hj hd i hil ht; rw [hif] at this; cases this
      suffices hK : ∀ a' w' τ',St C τ' a' w' -> τ'.n = σ.n -> τ'.bx = bxAt c σ.bx bx1 (listed.setIfInBounds i true) -> InvG σ an ks its (listed.setIfInBounds i true) τ' -> (pan = true -> i ≠ c) -> wpAnyIn (Fx C) 3 P .any ops.toArray (fun e a' w'=>∃ σ',St C σ' a' w' /\ Q e σ') fuel (listed.setIfInBounds i true) a' w' by
       unfold Go.wpOpIn
       simp only [h4]
       rcases draw_stepC H hall hsub hE0 hI0 hclt hbc hc.size him ho h3 hanc hnot hpc hs hn hb hinv hK with ⟨e1,e2⟩ | ⟨e1,e2⟩
       · simp only [e1,if_true]; exact e2
       · simp only [e1,Bool.false_eq_true,if_false]; exact ⟨fun _ _=>trivial,e2⟩
      intro a' w' τ' hs' hn' hb' hinv' hic'
      refine ih _ a' w' τ' (hc.set ho h5) (by have:=count_set h3; omega) (fun j hj hjl=>?_) (fun hp=>?_) hs' hn' hb' hinv'
      · rw [getD_set_ne true (by omega)]
        exact h2 j hj hjl
      · rw [getD_set_ne false (hic' hp)]
        exact hpc hp
theorem W.drawG {id m n' : Nat} {bx' bx1 bxc : List (Nat × Bx)} {c : Nat} {pan : Bool} {ids : List Nat} (hm : P.follows .mixedOrders = true) (hA0 : okAn ops an m = true) (hlen : its.length = m)
 (H : ItG σ ops an ks its) (hall : AllC P C Q σ bx1 bxc c ids pan ops an ks kk its ops its 0) (hsub : subs kk ks = true)
 (hE0 : okAlbE ids ks c σ.env = true) (hI0 : okAlbI ids an ks c its 0 = true) (hclt : c < its.length)
 (hbc : ∀ id x,lk bxc id = some x -> lk σ.bx id = some x /\ lk bx1 id = some x)
 {live : List Nat} {env' : List (Nat × D)} (hE : picks (afts an (fun _=>true) ks σ.env its) live = env')
 (hb : bx1 = bx') (hn : σ.n = n') (hT : pan = false -> TL P C Q (ops.drop its.length) ⟨n',env',bx'⟩) : W P C (.region id ops.toArray true) Q σ:=by
 intro a w hs
 refine wpIn_region_any hm ?_
 have hgd : ∀ k,(Array.replicate ops.toArray.size false).getD k false = false:=by
  intro k
  simp only [Array.getD_eq_getD_getElem?,Array.getElem?_replicate]
  split <;> rfl
 have hc : Cl ops (Array.replicate ops.toArray.size false):=⟨by simp,fun i o _ hd=>by rw [hgd] at hd; cases hd⟩
 have hA : okAn ops an its.length = true:=by rw [hlen]; exact hA0
 subst hb; subst hn
 refine draw_mainC hA H hall hsub hE0 hI0 hclt hbc hE hT _ _ a _ σ hc ?_ ?_ (fun _=>hgd c) (hs.ext (Ext.drew w)) rfl ?_ (fun u x hx=>?_)
 · simp
 · intro j _ hj; simp [hj]
 · unfold bxAt; rw [hgd]; rfl
 · unfold afts at hx
   generalize hb : bads _ ks u = bb at hx
   cases bb with
   | true=>cases hx
   | false=>
    simp only [cond_false] at hx
    rcases slot_cases its u with hu | ⟨k,dk,wk,hk⟩
    · rw [looks_none hu] at hx; exact hx
    · rw [looks_at (okTs_ok H.ts).1 hk,hgd] at hx
      exact hx
theorem W.drawC {id m n' : Nat} {bx1 : List (Nat × Bx)} (bxc : List (Nat × Bx)) (c : Nat) (ids : List Nat) (hm : P.follows .mixedOrders = true) (hA0 : okAn ops an m = true) (hlen : its.length = m)
 (H : ItG σ ops an ks its) (hc0 : hasBx σ.bx bxc) (hall : AllC P C Q σ bx1 bxc c ids false ops an ks kk its ops its 0) (hsub : subs kk ks = true)
 (hE0 : okAlbE ids ks c σ.env = true) (hI0 : okAlbI ids an ks c its 0 = true) (hclt : c < its.length)
 (hc1 : hasBx bx1 bxc)
 {live : List Nat} {env' : List (Nat × D)} (hE : picks (afts an (fun _=>true) ks σ.env its) live = env')
 (hn : σ.n = n') (hT : TL P C Q (ops.drop its.length) ⟨n',env',bx1⟩) : W P C (.region id ops.toArray true) Q σ:=
 W.drawG (pan:=false) (ids:=ids) hm hA0 hlen H hall hsub hE0 hI0 hclt (fun id x hx=>⟨hasBx_get hc0 id x (lk_mem hx),hasBx_get hc1 id x (lk_mem hx)⟩) hE rfl hn (fun _=>hT)
end
end Go.Sx

namespace Go.Sx
variable {P : Program} {C : Ctx} {σ σ' σ1 : Sg} {a : Act} {w w' : World} {ρ : Nat -> Nat} {Fe Fe' Fb : Nat -> List Nat}
end Go.Sx

namespace Go.Sx
variable {pos : String} {aft : Array Edge} {g : Option (Nat × Bool)}
variable {P : Program} {C : Ctx} {σ σ' σ1 : Sg} {a : Act} {w w' : World} {ρ : Nat -> Nat} {Fe Fe' Fb : Nat -> List Nat}
section
variable {ops : List Oper} {an : List Nat} {ks kk : List (Nat × Nat)} {its : List It} {Q : Exit -> Sg -> Prop}
theorem scrubB_alb {id : Nat} {d : D} (h : d.albIn [id] = false) : scrubB id d = d:=by
 rcases scrubB_cases id d with ⟨h1,_⟩ | ⟨_,off,path,rfl⟩
 · exact h1
 · simp [D.albIn,memB] at h
theorem SpC.appB {c : Nat} {s id off t e z bytes : Nat} {path : List Nat} {d0 d0' : D} {x : Operand} {l l' l2 : List D} {ty rt : TypeId} {bx1 : List (Nat × Bx)} [hT : SlT P ty e] [hE : ElT P e z bytes]
 (hs : facts an ks σ.env its c s = some (.alb id off path)) (hb : lk σ.bx id = some (.var d0)) (hl : d0.loc path = some (off,.sl (some e) z l)) (hna : d0.noArr path = true) (hu : d0.upd path .dead = some d0')
 (hbx : setb id (.var d0') σ.bx = bx1)
 (hx : ∀ τ : Sg,(∀ i x,lk bx1 i = some x -> τ.box i = some x) -> (∀ u x,facts an ks σ.env its c u = some x -> x.albIn [id] = false -> Nat.beq u s = false -> τ.get u = some x) -> SrcO C.gl τ x z l')
 (he : l ++ l' = l2) (hn : l.length + l'.length <= 1073741824) (hst : s ≠ t) (hby : bytes <= 131072) (hk : has ks c s = true) :
 SpC P C σ bx1 c [id] an ks its ⟨some t,.call { callee:=.builtin .append,args:=#[.tmp s,x],argTypes:=#[ty,ty] },rt,pos,aft,g⟩ t (.sl (some e) z l2):=by
 intro τ hτb hτn ht hf
 have hbτ : τ.box id = some (.var d0):=by simp only [Sg.box,hτb]; exact hb
 have hget : ∀ u,((τ.putB id (.var d0')).upd s (.sl (some e) z l)).get u = if u = s then some (.sl (some e) z l) else (τ.get u).map (scrubB id):=fun u=>by
  rw [get_upd,get_putB]
  by_cases hus : u = s
  · subst hus; simp [hf _ _ hs]
  · simp [hus]
 have hbx2 : ((τ.putB id (.var d0')).upd s (.sl (some e) z l)).bx = bx1:=by rw [<- hbx,<- hτb]; rfl
 refine ⟨((τ.putB id (.var d0')).upd s (.sl (some e) z l)).kill s,R.appBP (hf _ _ hs) hbτ hl hna hu rfl (by rw [hget]; simp) (hx _ (fun i x hi=>?_) (fun u x hux ha hus=>?_)) he hn ht hst hby,rfl,hbx2,fun u y hk' hy ha=>?_⟩
 · simp only [Sg.box,hbx2]; exact hi
 · rw [hget,hf _ _ hux]
   have : ¬ u = s:=fun e=>by subst e; simp at hus
   simp [this,scrubB_alb ha]
 · rw [get_kill,hget,hy]
   have : ¬ u = s:=fun e=>hk' c s (has_ok hk) e.symm rfl
   simp [this,scrubB_alb ha]
variable {listed : Array Bool}
end
theorem R.asgBP {s id off t e z : Nat} {path : List Nat} {d0 d0' : D} {l : List D} {rt : TypeId}
 (h : σ.get s = some (.alb id off path)) (hb : σ.box id = some (.var d0)) (hl : d0.loc path = some (off,.sl (some e) z l)) (hna : d0.noArr path = true) (hu : d0.upd path .dead = some d0')
 {τ : Sg} (hτ : (σ.putB id (.var d0')).upd s (.sl (some e) z l) = τ) (hs : τ.get s = some (.sl (some e) z l)) (ht : t < σ.n) (hst : s ≠ t) :
 OpS P C ⟨some t,.assign (.tmp s),rt,pos,aft,g⟩ σ ((τ.kill s).set t (.sl (some e) z l)):=by
 subst hτ
 exact OpS.pre (fun a w hs=>St.takeP h hb hl hna hu hs) (R.asgO hs rfl ht hst)
theorem Rc.ownAt {G L : Nat -> Prop} {d d' : D} {cs : List Value} {F : List Nat} (h : Rc w ρ G L true d cs F) {path : List Nat} {off z : Nat} {o : Option Nat}
 (hl : d.loc path = some (off,.nils)) (hna : d.noArr path = true) (hu : d.upd path (.sl o z []) = some d') : Rc w ρ G L true d' cs F:=by
 induction path generalizing d cs F off d' with
 | nil=>
  simp only [D.loc,Option.some.injEq,Prod.mk.injEq] at hl
  simp only [D.upd,Option.some.injEq] at hu
  obtain ⟨rfl,rfl⟩:=hl
  subst hu
  cases h
  exact .slN _ _
 | cons k path ih=>
  cases h with
  | agg l0 cs Fs hs hr=>
   simp only [D.loc] at hl
   simp only [D.upd] at hu
   cases hk : l0[k]? with
   | none=>simp [hk] at hl
   | some d2=>
    obtain ⟨hklt,rfl⟩:=List.getElem?_eq_some_iff.1 hk
    simp only [hk] at hl hu
    cases hd : D.loc l0[k] path with
    | none=>simp [hd] at hl
    | some od=>
     obtain ⟨oo,d3⟩:=od
     simp only [hd,Option.some.injEq,Prod.mk.injEq] at hl
     obtain ⟨rfl,rfl⟩:=hl
     cases hud : D.upd l0[k] path (.sl o z []) with
     | none=>simp [hud] at hu
     | some d4=>
      simp only [hud,Option.some.injEq] at hu
      subst hu
      simp only [D.noArr,hk] at hna
      have h1:=ih (hr k hklt) hd hna hud
      have hz : d4.sz = l0[k].sz:=by rw [<- h1.len,(hr k hklt).len]
      have:=Rc.agg (w:=w) (ρ:=ρ) (G:=G) (L:=L) (p:=true) (l0.set k d4) cs Fs (by rw [hs,szs_set l0 k d4 hklt hz]) (fun j hj=>by
       have hj' : j < l0.length:=by simpa using hj
       rw [offk_set l0 k j d4 hklt hz]
       by_cases hjk : j = k
       · subst hjk
         simp only [List.getElem_set_self,hz]
         exact h1
       · have hjj : (l0.set k d4)[j] = l0[j]:=by rw [List.getElem_set_ne (fun e=>hjk e.symm)]
         simp only [hjj]
         exact hr j hj')
      rwa [List.length_set] at this
  | arr n z l cs hn hs hr=>simp [D.noArr] at hna
  | _=>simp [D.loc] at hl
theorem R.frzT {o : Oper} {τ : Sg} {t : Nat} {r r' : D} (h : OpS P C o σ (τ.set t r)) (hr : r.isRef = false) (he : r.brw = r') : OpS P C o σ (τ.set t r'):=by
 intro a w hs K Q hK
 refine h a w hs K Q fun a' w' hs'=>hK a' w' ?_
 have h1 : (τ.set t r).get t = some r:=by rw [get_set]; simp
 refine (St.frzS h1 hr he hs').weaken rfl rfl fun u d hd=>?_
 rw [get_upd,get_set]
 rw [get_set] at hd
 by_cases hu : u = t
 · subst hu; simpa using hd
 · simpa [hu] using hd
theorem W.asOwnP {c : Code} {Q : Exit -> Sg -> Prop} (id : Nat) (path : List Nat) (e z : Nat) {off : Nat} {d d' : D} {bx' : List (Nat × Bx)} (hb : σ.box id = some (.var d)) (hl : d.loc path = some (off,.nils)) (hna : d.noArr path = true) (hu : d.upd path (.sl (some e) z []) = some d')
 (hbx : setb id (.var d') σ.bx = bx') (k : W P C c Q ⟨σ.n,σ.env,bx'⟩) : W P C c Q σ:=by
 subst hbx
 exact fun a w hs=>k a w (St.viewB hb (fun w ρ G L cs F h=>h.ownAt hl hna hu) hs)
theorem St.brwB {id : Nat} {d d' : D} (hb : σ.box id = some (.var d)) (he : d.brw = d') (hs : St C σ a w) : St C { σ with bx:=setb id (.var d') σ.bx } a w:=by
 subst he
 obtain ⟨ρ,Fe,Fb,st⟩:=hs
 have hbox : ∀ i,(({ σ with bx:=setb id (.var d.brw) σ.bx } : Sg).box i) = if i = id then some (.var d.brw) else σ.box i:=fun i=>by
  show lk (setb id (.var d.brw) σ.bx) i = _
  rw [lk_setb]
  by_cases hi : i = id
  · subst hi
    have : lk σ.bx i = some (.var d):=hb
    simp [this]
  · simp [hi]; rfl
 have hiso : ∀ i,(({ σ with bx:=setb id (.var d.brw) σ.bx } : Sg).box i).isSome = (σ.box i).isSome:=fun i=>by
  rw [hbox]; by_cases hi : i = id
  · subst hi; simp [hb]
  · simp [hi]
 have hfun : (fun i=>(({ σ with bx:=setb id (.var d.brw) σ.bx } : Sg).box i).isSome = true) = fun i=>(σ.box i).isSome = true:=by
  funext i; rw [hiso]
 obtain ⟨cs,e,F',q1,q2,q3⟩:=st.bx id _ hb
 have hnd : (ρ id :: F').Nodup:=by have:=st.nodB id; rw [q3] at this; exact this
 have key : ∀ i b,b ∈ upd Fb id [ρ id] i -> b ∈ Fb i:=fun i b hb=>by
  by_cases hii : i = id
  · subst hii; rw [upd_same] at hb; simp at hb; subst hb; rw [q3]; simp
  · rw [upd_other hii] at hb; exact hb
 have hot : ∀ b,own Fe (upd Fb id [ρ id]) b -> own Fe Fb b:=fun b hb=>hb.imp (fun h=>h) fun ⟨i,hi⟩=>⟨i,key i b hi⟩
 have hg : ∀ b,gd C Fe Fb b -> gd C Fe (upd Fb id [ρ id]) b:=fun b hb=>⟨hb.1,fun hc=>hb.2 (hot b hc)⟩
 have hgF : ∀ b ∈ F',gd C Fe (upd Fb id [ρ id]) b:=fun b hb=>by
  have hbi : b ∈ Fb id:=by rw [q3]; exact List.mem_cons_of_mem _ hb
  refine ⟨st.okO b (.inr ⟨id,hbi⟩), ?_⟩
  rintro (⟨u,hu⟩ | ⟨i,hi⟩)
  · exact st.dEB u id b hu hbi
  · by_cases hii : i = id
    · subst hii; rw [upd_same] at hi; simp at hi; subst hi; exact (List.nodup_cons.1 hnd).1 hb
    · rw [upd_other hii] at hi; exact st.dBB i id hii b hi hbi
 refine ⟨ρ,Fe,upd Fb id [ρ id],{
  size:=st.size
  defs:=st.defs
  pin:=fun i b hp=>⟨(st.pin i b hp).1,by rw [hiso]; exact (st.pin i b hp).2⟩
  env:=fun u x hx=>by rw [hfun]; exact SR_keep (st.env u x hx) (fun _ _ _=>rfl) (fun b hb _=>hg b hb) (fun _ h=>h) (fun _ _ _ _ h=>h)
  envN:=st.envN
  bx:=fun i b hd=>?_
  bxN:=fun i hn=>?_
  nodE:=st.nodE
  nodB:=fun i=>?_
  dEE:=st.dEE
  dEB:=fun u i b hb1 hb2=>st.dEB u i b hb1 (key i b hb2)
  dBB:=fun i i' hne b hb1 hb2=>st.dBB i i' hne b (key i b hb1) (key i' b hb2)
  new:=fun b hb=>st.new b (hot b hb)
  kept:=st.kept
  os:=st.os
  tape:=⟨st.tape.tp,st.tape.dr⟩
  output:=st.output
  grown:=st.grown
  gl:=st.gl
  okN:=st.okN
  okO:=fun b hb=>st.okO b (hot b hb) }⟩
 · rw [hfun]
   rw [hbox] at hd
   by_cases hi : i = id
   · subst hi
     simp only [if_true,Option.some.injEq] at hd
     subst hd
     rw [upd_same]
     exact ⟨cs,e,[],q1,q2.brw (fun b hb=>hgF b hb) (fun b hb _=>hg b hb),rfl⟩
   · simp only [hi,if_false] at hd
     rw [upd_other hi]
     exact (st.bx i b hd).mono (fun _ _ _=>rfl) (fun b hb _=>hg b hb) (fun j hj=>⟨hj,rfl⟩)
 · rw [hbox] at hn
   by_cases hi : i = id
   · simp [hi] at hn
   · simp only [hi,if_false] at hn
     rw [upd_other hi]
     exact st.bxN i hn
 · by_cases hi : i = id
   · subst hi; rw [upd_same]; simp
   · rw [upd_other hi]; exact st.nodB i
theorem W.brwB {c : Code} {Q : Exit -> Sg -> Prop} (id : Nat) {d d' : D} {bx' : List (Nat × Bx)} (hb : σ.box id = some (.var d)) (he : d.brw = d') (hbx : setb id (.var d') σ.bx = bx') (k : W P C c Q ⟨σ.n,σ.env,bx'⟩) : W P C c Q σ:=by
 subst hbx
 exact fun a w hs=>k a w (St.brwB hb he hs)
end Go.Sx

namespace Go.Sx
variable {pos : String} {aft : Array Edge} {g : Option (Nat × Bool)}
variable {P : Program} {C : Ctx} {σ σ' σ1 : Sg} {a : Act} {w w' : World} {ρ : Nat -> Nat} {Fe Fe' Fb : Nat -> List Nat}
def CkV (P : Program) (k : Nat) (t : TypeId) (d : D) : Prop:=
 ∀ (em : Bool) (n : Nat) (w : World) (ρ : Nat -> Nat) (G L : Nat -> Prop) (v : Value) (F : List Nat),VR w ρ G L d v F -> (Instr.checkKey em (n + k) t v).run P w = .ok () w
theorem CkV.num {t : TypeId} {k : IntKind} {d : D} (ht : P.underlying t = some (.int k)) (hd : d.isAgg = false) (hs : ∀ (w : World) (ρ : Nat -> Nat) (G L : Nat -> Prop) v F,Rc w ρ G L true d [v] F -> ∃ j x,v = .int j x) : CkV P 1 t d:=by
 intro em n w ρ G L v F h
 unfold VR at h
 rw [hd] at h
 obtain ⟨j,x,rfl⟩:=hs _ _ _ _ _ _ h
 simp [Instr.checkKey,run_underlying ht]
theorem CkV.u8 {t : TypeId} {k : IntKind} (ht : P.underlying t = some (.int k)) (x : UInt8) : CkV P 1 t (.u8 x):=CkV.num ht rfl fun _ _ _ _ _ _ h=>by cases h; exact ⟨_,_,rfl⟩
theorem CkV.u32 {t : TypeId} {k : IntKind} (ht : P.underlying t = some (.int k)) (x : UInt32) : CkV P 1 t (.u32 x):=CkV.num ht rfl fun _ _ _ _ _ _ h=>by cases h; exact ⟨_,_,rfl⟩
theorem CkV.arr {t e m : Nat} [hT : ArT P t m e] [hk : IkT P e .u8] [hL : LdT P e 1 false] (xs : List UInt8) : CkV P 2 t (.arr m 1 (xs.map .u8)):=by
 intro em n w ρ G L v F h
 simp only [VR,D.isAgg,if_true] at h
 obtain ⟨cx,rfl,h⟩:=h
 cases h with
 | arr _ _ _ _ hl hs hr=>
 rw [show n + 2 = (n + 1) + 1 from rfl,Instr.checkKey]
 simp only [Sem.run_bind,run_underlying hT.u,Result.andThen_ok]
 simp only [Std.Legacy.Range.forIn_eq_forIn_range',Std.Legacy.Range.size,Nat.sub_zero,Nat.add_one_sub_one,Nat.div_one]
 have each : ∀ j ∈ List.range' 0 m,j < m:=fun j hj=>by
  rw [List.mem_range'_1] at hj; omega
 generalize List.range' 0 m = is at each
 induction is with
 | nil=>simp
 | cons j is ih=>
  have hj:=each j (by simp)
  have hsz : cx.toList.length = m:=by rw [hs]; omega
  have hcl : cx.size = m:=by simpa using hsz
  obtain ⟨v,p1,p2⟩:=run_part (P:=P) (e:=e) (hL:=hL) (cs:=cx) (off:=j * 1) (hr j (by omega)) (by simp [D.sz]) (by simp [D.isAgg]) (by omega)
  have p3 : (Instr.checkKey em (n + 1) e v).run P w = .ok () w:=by
   have : (List.map D.u8 xs)[j]'(by omega) = .u8 (xs[j]'(by simp at hl; omega)):=by simp
   rw [this] at p2
   exact CkV.u8 hk.u _ em n _ _ _ _ _ _ p2
  simp only [List.forIn_cons,Sem.run_bind,LdT.size (P:=P) (t:=e),Result.andThen_ok,p1,p3,Sem.run_pure]
  exact ih (fun y hy=>each y (by simp [hy]))
inductive CkFs (P : Program) (k : Nat) : Nat -> List Field -> List D -> Prop
 | nil {o : Nat} : CkFs P k o [] []
 | cons {o z : Nat} {gg : Bool} {f : Field} {fs : List Field} {d : D} {ds : List D} (hn : (f.name != "_") = true) (ho : f.offset = o) (hL : LdT P f.type z gg) (hz : d.sz = z) (hg : d.isAgg = gg)
  (h : CkV P k f.type d) (t : CkFs P k (o + z) fs ds) : CkFs P k o (f :: fs) (d :: ds)
theorem CkV.more {k : Nat} {t : TypeId} {d : D} (h : CkV P k t d) : CkV P (k + 1) t d:=fun em n w ρ G L v F hv=>by
 have:=h em (n + 1) w ρ G L v F hv
 rwa [show n + (k + 1) = n + 1 + k by omega]
theorem CkV.struct {t : TypeId} {k : Nat} {fs : Array Field} {ds : List D} (ht : P.underlying t = some (.struct fs)) (h : CkFs P k 0 fs.toList ds) : CkV P (k + 1) t (.agg ds):=by
 intro em n w ρ G L v F hv
 simp only [VR,D.isAgg,if_true] at hv
 obtain ⟨cx,rfl,hv⟩:=hv
 cases hv with
 | agg _ _ Fs hs hr=>
 rw [show n + (k + 1) = (n + k) + 1 from rfl,Instr.checkKey]
 simp only [Sem.run_bind,run_underlying ht,Result.andThen_ok]
 rw [<- Array.forIn_toList]
 have hc : 0 + D.szs ds <= cx.size:=by simp at hs; omega
 have hr' : ∀ i (hi : i < ds.length),Rc w ρ G L true ds[i] ((cx.toList.drop (0 + offk ds i)).take ds[i].sz) (Fs i):=fun i hi=>by rw [Nat.zero_add]; exact hr i hi
 clear hs hr ht
 revert hc hr'
 generalize (0 : Nat) = o at h
 generalize fs.toList = fl at h
 intro hc hr'
 induction h generalizing Fs with
 | nil=>simp
 | @cons o z gg f fs d ds hn ho hL hz hg h t ih=>
  subst ho
  simp only [szs_cons] at hc
  have a1:=hr' 0 (by simp)
  simp only [List.getElem_cons_zero,offk_zero,Nat.add_zero,hz] at a1
  obtain ⟨v1,r1,q1⟩:=run_part (P:=P) (e:=f.type) (hL:=hL) a1 hz hg (by omega)
  have hb:=h em n w _ _ _ _ _ q1
  have ih':=ih (fun i=>Fs (i + 1)) (by omega) (fun i hi=>by
   have:=hr' (i + 1) (by simpa using hi)
   simp only [List.getElem_cons_succ,offk_succ,hz] at this
   rw [Nat.add_assoc]; exact this)
  have hne : f.name ≠ "_":=by simpa using hn
  simp only [List.forIn_cons,Sem.run_bind,hne,ne_eq,not_false_eq_true,if_true,Result.andThen_ok,r1,hb,Sem.run_pure]
  exact ih'
variable {κ α : Type} [DecidableEq κ]
def kIdx (m : List (κ × α)) (k : κ) : Nat:=m.findIdx (fun e=>e.1 == k)
def kHas (m : List (κ × α)) (k : κ) : Bool:=m.any fun e=>e.1 == k
def kGet (z : α) (m : List (κ × α)) (k : κ) : α:=((m[kIdx m k]?).map (·.2)).getD z
def mpK (kd : κ -> D) (f : α -> D) (m : List (κ × α)) : Bx:=.mp (m.map fun e=>(kd e.1,f e.2))
theorem kIdx_lt (m : List (κ × α)) (k : κ) : kIdx m k < m.length ↔ kHas m k = true:=by
 unfold kIdx kHas
 rw [List.findIdx_lt_length,List.any_eq_true]
class MkT (P : Program) (t : TypeId) (k e : outParam TypeId) : Prop where
 u : P.underlying t = some (.map k e)
structure KeyC (P : Program) (kt : TypeId) (kd : κ -> D) (n : Nat) : Prop where
 s : ∃ fs,P.underlying kt = some (.struct fs)
 eq : ∀ a b : κ,EqV P n kt (kd a) (kd b) (a == b)
 ck : ∀ a : κ,CkV P n kt (kd a)
 n : Nat.ble n 10000 = true
 p : ∀ a,(kd a).pur = true
theorem KeyC.find {kt : TypeId} {kd : κ -> D} {n : Nat} (H : KeyC P kt kd n) {G L : Nat -> Prop} {k : κ} {kv : Value} {F : List Nat} (hk : VR w ρ G L (kd k) kv F) : ∀ (es : List MapEntry) (m : List (κ × α)) (i : Nat),es.length = m.length ->
 (∀ j (h : j < m.length),VR w ρ G L (kd m[j].1) (es.getD j default).key []) ->
 (Instr.findAsking kt kv es i).run P w = .ok (if kIdx m k < m.length then some (i + kIdx m k,(es.getD (kIdx m k) default).val) else none) w:=by
 have hn : n <= 10000:=Nat.le_of_ble_eq_true H.n
 intro es
 induction es with
 | nil=>intro m i hl _; cases m with
  | nil=>simp [Instr.findAsking,kIdx]
  | cons x r=>simp at hl
 | cons e es ih=>
  intro m i hl hks
  cases m with
  | nil=>simp at hl
  | cons x r=>
   have h0:=hks 0 (by simp)
   simp only [List.getD_cons_zero,List.getElem_cons_zero] at h0
   have hih:=ih r (i + 1) (by simpa using hl) (fun j hj=>by have:=hks (j + 1) (by simpa using hj); simpa using this)
   have he:=H.eq k x.1 (10000 - n) w _ _ _ _ _ _ _ _ _ _ hk h0
   rw [show 10000 - n + n = 10000 by omega] at he
   have he' : (Op.equal kt kv e.key).run P w = .ok (k == x.1) w:=he
   simp only [Instr.findAsking,Sem.run_bind,he',Result.andThen_ok]
   by_cases hx : x.1 = k
   · have : kIdx (x :: r) k = 0:=by simp [kIdx,List.findIdx_cons,hx]
     simp [this,hx]
   · have hx' : (x.1 == k) = false:=by simpa using hx
     have h1 : kIdx (x :: r) k = kIdx r k + 1:=by simp [kIdx,List.findIdx_cons,hx']
     have hx2 : (k == x.1) = false:=by simpa using fun e=>hx e.symm
     simp only [hx2,Bool.false_eq_true,if_false,hih,h1,List.length_cons,Nat.add_lt_add_iff_right,List.getD_cons_succ]
     split <;> simp [Nat.add_assoc,Nat.add_comm,Nat.add_left_comm]
theorem KeyC.findKey {kt : TypeId} {kd : κ -> D} {n : Nat} (H : KeyC P kt kd n) {G L : Nat -> Prop} {k : κ} {kv : Value} {F : List Nat} (hk : VR w ρ G L (kd k) kv F) (es : List MapEntry) (m : List (κ × α)) (hl : es.length = m.length)
 (hks : ∀ j (h : j < m.length),VR w ρ G L (kd m[j].1) (es.getD j default).key []) :
 (Instr.findKey kt kv es).run P w = .ok (if kIdx m k < m.length then some (0 + kIdx m k,(es.getD (kIdx m k) default).val) else none) w:=by
 obtain ⟨fs,hs⟩:=H.s
 have h1:=H.find hk es m 0 hl hks
 unfold Instr.findKey
 simp only [Sem.run_bind,run_underlying hs,Result.andThen_ok]
 cases es with
 | nil=>
  cases m with
  | nil=>simp [Instr.findNow,kIdx]
  | cons x r=>simp at hl
 | cons e es=>simpa [Instr.findNow,Instr.sameNow] using h1
theorem KeyC.check {kt : TypeId} {kd : κ -> D} {n : Nat} (H : KeyC P kt kd n) {G L : Nat -> Prop} {k : κ} {kv : Value} {F : List Nat} (hk : VR w ρ G L (kd k) kv F) (em : Bool) : (Instr.checkKey em 10000 kt kv).run P w = .ok () w:=by
 have hn : n <= 10000:=Nat.le_of_ble_eq_true H.n
 have:=H.ck k em (10000 - n) w _ _ _ _ _ hk
 rwa [show 10000 - n + n = 10000 by omega] at this
omit [DecidableEq κ] in
theorem mpK_at {G L : Nat -> Prop} {kd : κ -> D} {f : α -> D} {m : List (κ × α)} {b : Nat} {F : List Nat} (h : BR w ρ G L b (mpK kd f m) F) :
 F = [b] /\ ∃ es : Array MapEntry,w.heap[b]? = some (.map es m.length) /\ es.size = m.length /\ (∀ j (hj : j < m.length),VR w ρ G L (kd m[j].1) (es.getD j default).key [] /\ VR w ρ G L (f m[j].2) (es.getD j default).val [] /\ (es.getD j default).born = j):=by
 obtain ⟨h1,es,clock,h2,⟨h3,h4⟩,h5⟩:=h
 simp only [List.length_map] at h3 h4
 subst h4
 refine ⟨h1,es,h2,h3,fun j hj=>?_⟩
 obtain ⟨h6,h7,h8⟩:=h5 j (by simpa using hj)
 simp only [List.getElem_map] at h6 h7
 exact ⟨h6,h7,h8⟩
omit [DecidableEq κ] in
theorem mpK_mk {G L : Nat -> Prop} {kd : κ -> D} {f : α -> D} {m : List (κ × α)} {b : Nat} {es : Array MapEntry} (h2 : w.heap[b]? = some (.map es m.length)) (h3 : es.size = m.length)
 (h5 : ∀ j (hj : j < m.length),VR w ρ G L (kd m[j].1) (es.getD j default).key [] /\ VR w ρ G L (f m[j].2) (es.getD j default).val [] /\ (es.getD j default).born = j) : BR w ρ G L b (mpK kd f m) [b]:=by
 refine ⟨rfl,es,m.length,h2,⟨by simpa using h3,by simp⟩,fun j hj=>?_⟩
 obtain ⟨h6,h7,h8⟩:=h5 j (by simpa using hj)
 simp only [List.getElem_map]
 exact ⟨h6,h7,h8⟩
omit [DecidableEq κ] in
theorem StW.putMk {kd : κ -> D} {f : α -> D} {m m' : List (κ × α)} {id : Nat} {es : Array MapEntry} (st : StW C σ a w ρ Fe Fb) (hb : σ.box id = some (mpK kd f m)) (hs : es.size = m'.length)
 (h5 : ∀ j (hj : j < m'.length),VR w ρ (gd C Fe Fb) (fun i=>(σ.box i).isSome) (kd m'[j].1) (es.getD j default).key [] /\ VR w ρ (gd C Fe Fb) (fun i=>(σ.box i).isSome) (f m'[j].2) (es.getD j default).val [] /\ (es.getD j default).born = j) :
 StW C (σ.putB id (mpK kd f m')) a { w with heap:=w.heap.setIfInBounds (ρ id) (.map es m'.length) } ρ Fe (upd Fb id [ρ id]):=by
 obtain ⟨hF,es0,h2,h3,h4⟩:=mpK_at (st.bx _ _ hb)
 have hlt : ρ id < w.heap.size:=(Array.getElem?_eq_some_iff.1 h2).1
 have hblk : ∀ b,b ≠ ρ id -> (w.heap.setIfInBounds (ρ id) (.map es m'.length))[b]? = w.heap[b]?:=fun b hne=>by
  rw [Array.getElem?_setIfInBounds]; simp [show ¬ ρ id = b from fun e=>hne e.symm]
 have hnot : ∀ b,gd C Fe Fb b -> b ≠ ρ id:=fun b hg he=>hg.2 (.inr ⟨id,by rw [hF,he]; simp⟩)
 have hg : ∀ b,gd C Fe Fb b -> gd C Fe (upd Fb id [ρ id]) b:=fun b hb'=>⟨hb'.1,fun hc=>hb'.2 (hc.imp (fun h=>h) (fun ⟨i,hi⟩=>by
  by_cases hii : i = id
  · subst hii; simp at hi; exact ⟨i,by rw [hF,hi]; simp⟩
  · rw [upd_other hii] at hi; exact ⟨i,hi⟩))⟩
 refine st.putB (Fe':=Fe) (σ1:=σ) (F':=[ρ id]) (w':={ w with heap:=w.heap.setIfInBounds (ρ id) (.map es m'.length) }) hb rfl rfl (fun u d hd=>.inl ⟨hd,rfl⟩) st.envN (fun u=>.inl rfl) rfl ⟨rfl,Nat.le_refl _⟩ rfl (by simp)
  hblk (by simp) (by simp) (fun b hb'=>.inl (by rw [hF]; exact hb')) ?_
 refine mpK_mk (es:=es) ?_ hs (fun j hj=>?_)
 · simp [hlt]
 · obtain ⟨q1,q2,q3⟩:=h5 j hj
   exact ⟨q1.mono (fun b hb' _=>hblk b (hnot b (hb'.resolve_right (by simp)))) (fun b hb' _=>hg b hb') (fun i hi=>⟨hi,rfl⟩),q2.mono (fun b hb' _=>hblk b (hnot b (hb'.resolve_right (by simp)))) (fun b hb' _=>hg b hb') (fun i hi=>⟨hi,rfl⟩),q3⟩
theorem R.lookK {kd : κ -> D} {f : α -> D} {m : List (κ × α)} {z : α} {n : Nat} {p t id : Nat} {x : Operand} {k : κ} {dk : D} {ty kt et rt : TypeId} [hT : MkT P ty kt et] {zd : D} [hZ : ZrT P et zd]
 (H : KeyC P kt kd n) (h : σ.get p = some (.map id)) (hb : σ.box id = some (mpK kd f m)) (hx : ev C.gl σ x = some dk) (hdk : dk = kd k) (hz : zd = f z) (hr : ∀ v,(f v).isRef = false) (ht : t < σ.n) :
 OpS P C ⟨some t,.lookup ty (.tmp p) x true,rt,pos,aft,g⟩ σ (σ.set t (.tup [f (kGet z m k),.bool (kHas m k)])):=by
 subst hdk
 refine OpS.value fun a w ⟨ρ,Fe,Fb,st⟩=>?_
 have hp:=map_slot st h
 obtain ⟨Fx,hvx,_⟩:=ev_ok st hx (pur_ref (H.p k))
 have hF0:=hvx.pur (H.p k)
 rw [hF0] at hvx
 obtain ⟨hF,es,h2,h3,h4⟩:=mpK_at (st.bx _ _ hb)
 obtain ⟨zi,zv,z1,z2,z3,z4⟩:=hZ.i
 have hfk:=H.findKey hvx es.toList m (by simpa using h3) (fun j hj=>by have:=(h4 j hj).1; simpa [Array.getD_eq_getD_getElem?] using this)
 have hzv : VR w ρ (gd C Fe Fb) (fun i=>(σ.box i).isSome) (f z) zv []:=by rw [<- hz]; exact chk_VR z3 z4
 have hck:=fun b=>H.check hvx b
 have fin : ∀ v ok,VR w ρ (gd C Fe Fb) (fun i=>(σ.box i).isSome) (f (kGet z m k)) v [] -> ok = kHas m k -> St C (σ.set t (.tup [f (kGet z m k),.bool (kHas m k)])) (a.put (some t) (.tuple #[v,.bool ok])) w:=by
  rintro v ok hv rfl
  refine st.putRef (d:=.tup [f (kGet z m k),.bool (kHas m k)]) (v:=.tuple #[v,.bool (kHas m k)]) ht ⟨[v,.bool (kHas m k)],fun _=>[],by rw [put_get a t _ t (by rw [st.size]; exact ht)]; simp,rfl,(flat0 _).symm,fun j hj=>.inr ?_⟩
  have hup : ∀ d v,VR w ρ (gd C Fe Fb) (fun i=>(σ.box i).isSome) d v [] -> VR w ρ (gd C (upd Fe t []) Fb) (fun i=>(σ.box i).isSome) d v []:=
   fun d v h=>h.mono (fun _ _ _=>rfl) (fun b hb _=>⟨hb.1,fun ho=>hb.2 (own_upd ho)⟩) (fun i hi=>⟨hi,rfl⟩)
  match j,hj with
  | 0,_=>exact ⟨hr _,hup _ _ hv⟩
  | 1,_=>exact ⟨rfl,hup _ _ (by simp only [List.getElem_cons_succ,List.getElem_cons_zero,VR,D.isAgg,Bool.false_eq_true,if_false]; exact .bool _)⟩
 by_cases hin : kIdx m k < m.length
 · have hgv : kGet z m k = m[kIdx m k].2:=by simp [kGet,hin]
   obtain ⟨q1,q2,q3⟩:=h4 _ hin
   have hsz : kIdx m k < es.size:=by omega
   have hgd : es.getD (kIdx m k) default = es[kIdx m k]:=by simp [Array.getD_eq_getD_getElem?,hsz]
   rw [hgd] at q2
   refine ⟨.tuple #[es[kIdx m k].val,.bool true],w, ?_,fin _ _ (by rw [hgv]; exact q2) ((kIdx_lt m k).1 hin).symm⟩
   unfold execOp
   simp [Instr.lookup,run_underlying hT.u,eval_tmp hp,MapKept.run_getObj_map h2,hck,hfk,hin,hsz]
 · have hle : kIdx m k <= m.length:=List.findIdx_le_length
   have hgv : kGet z m k = z:=by simp [kGet,show kIdx m k = m.length by omega]
   have hno : kHas m k = false:=by
    cases hh : kHas m k with
    | false=>rfl
    | true=>exact absurd ((kIdx_lt m k).2 hh) hin
   refine ⟨.tuple #[zv,.bool false],w, ?_,fin _ _ (by rw [hgv]; exact hzv) hno.symm⟩
   unfold execOp
   simp [Instr.lookup,run_underlying hT.u,eval_tmp hp,MapKept.run_getObj_map h2,hck,hfk,hin,zeroValue,typeInfo,z1,z2]
theorem R.mupdN {kd : κ -> D} {f : α -> D} {m : List (κ × α)} {n : Nat} {p id : Nat} {x y : Operand} {k : κ} {u : α} {dk dv : D} {ty kt et rt : TypeId} [hT : MkT P ty kt et]
 (H : KeyC P kt kd n) (h : σ.get p = some (.map id)) (hb : σ.box id = some (mpK kd f m)) (hx : ev C.gl σ x = some dk) (hdk : dk = kd k) (hy : ev C.gl σ y = some dv) (hd : dv = f u) (hp : dv.pur = true) (hno : kHas m k = false) :
 OpS P C ⟨none,.mapUpdate ty (.tmp p) x y,rt,pos,aft,g⟩ σ (σ.putB id (mpK kd f (m ++ [(k,u)]))):=by
 subst hdk; subst hd
 refine OpS.skip rfl fun a w ⟨ρ,Fe,Fb,st⟩=>?_
 have hpm:=map_slot st h
 obtain ⟨Fx,hvx,_⟩:=ev_ok st hx (pur_ref (H.p k))
 have hF0:=hvx.pur (H.p k)
 rw [hF0] at hvx
 obtain ⟨Fy,hvy,_⟩:=ev_ok st hy (pur_ref hp)
 have hFy:=hvy.pur hp
 rw [hFy] at hvy
 obtain ⟨hF,es,h2,h3,h4⟩:=mpK_at (st.bx _ _ hb)
 have hfk:=H.findKey hvx es.toList m (by simpa using h3) (fun j hj=>by have:=(h4 j hj).1; simpa [Array.getD_eq_getD_getElem?] using this)
 have hin : ¬ kIdx m k < m.length:=fun hc=>by rw [kIdx_lt,hno] at hc; cases hc
 have st2:=st.putMk (es:=es.push { key:=a.eval x,val:=a.eval y,born:=m.length }) (m':=m ++ [(k,u)]) hb (by simp [h3]) (fun j hj=>by
  rcases Nat.lt_or_ge j m.length with hjm | hjm
  · obtain ⟨r1,r2,r3⟩:=h4 j hjm
    have hgj : (es.push { key:=a.eval x,val:=a.eval y,born:=m.length }).getD j default = es.getD j default:=by
     simp only [Array.getD_eq_getD_getElem?,Array.getElem?_push]
     rw [if_neg (by omega)]
    rw [hgj,List.getElem_append_left hjm]
    exact ⟨r1,r2,r3⟩
  · have hje : j = m.length:=by simp at hj; omega
    subst hje
    have hgj : (es.push { key:=a.eval x,val:=a.eval y,born:=m.length }).getD m.length default = { key:=a.eval x,val:=a.eval y,born:=m.length }:=by
     simp only [Array.getD_eq_getD_getElem?,Array.getElem?_push,h3,if_true,Option.getD_some]
    rw [hgj]
    simp only [List.getElem_append_right (Nat.le_refl _),Nat.sub_self,List.getElem_cons_zero]
    exact ⟨hvx,hvy,trivial⟩)
 refine ⟨_, ?_,ρ,Fe,_,st2⟩
 unfold execOp
 simp [Instr.mapUpdate,run_underlying hT.u,eval_tmp hpm,MapKept.run_getObj_map h2,H.check hvx,hfk,hin,MapKept.run_setObj_map _ h2]
omit [DecidableEq κ] in
theorem R.mkmapK {t ty rt : TypeId} (kd : κ -> D) (f : α -> D) (hid : σ.box t = none) (ht : t < σ.n) : OpS P C ⟨some t,.makeMap ty none,rt,pos,aft,g⟩ σ ((σ.newB t (mpK kd f [])).set t (.map t)):=R.mkmap hid ht
theorem W.dropBP {c : Code} {Q : Exit -> Sg -> Prop} (ids : List Nat) {bx' : List (Nat × Bx)} (hb : keepB ids σ.bx = bx') (he : okEnvB ids σ.env = true) (hx : okBxP ids bx') (hpn : ∀ id b,C.pin id = some b -> memB ids id = true) (h : W P C c Q ⟨σ.n,σ.env,bx'⟩) : W P C c Q σ:=by
 intro a w ⟨ρ,Fe,Fb,st⟩
 refine h a w ?_
 have hl : ∀ u,lk bx' u = if memB ids u then σ.box u else none:=fun u=>by rw [<- hb]; exact lk_keepB ids σ.bx u
 have hsub : ∀ id,∀ b ∈ (if memB ids id then Fb id else []),b ∈ Fb id:=fun id b hm=>by split at hm; exact hm; cases hm
 have hown : ∀ b,own Fe (fun id=>if memB ids id then Fb id else []) b -> own Fe Fb b:=fun b hb=>hb.imp id fun ⟨i,hi⟩=>⟨i,hsub i b hi⟩
 have hgd : ∀ b,gd C Fe Fb b -> gd C Fe (fun id=>if memB ids id then Fb id else []) b:=fun b hb=>⟨hb.1,fun hc=>hb.2 (hown b hc)⟩
 have hL : ∀ id,(memB ids id = true /\ (σ.box id).isSome) -> (lk bx' id).isSome:=fun id ⟨h1,h2⟩=>by rw [hl,if_pos h1]; exact h2
 exact ⟨ρ,Fe,(fun id=>if memB ids id then Fb id else []),{
  size:=st.size
  defs:=st.defs
  pin:=fun id b hp=>⟨(st.pin id b hp).1,hL id ⟨hpn id b hp,(st.pin id b hp).2⟩⟩
  env:=fun t d hd=>(st.env t d hd).okB (okEnvB_get he hd) (fun b hb _=>hgd b hb) hL
  envN:=st.envN
  bx:=fun id b hd=>by
   have hok:=okBxP_get hx hd
   have h1:=hl id
   by_cases hm : memB ids id = true
   · rw [if_pos hm] at h1
     have h2 : σ.box id = some b:=by rw [<- h1]; exact hd
     have hF' : (if memB ids id then Fb id else []) = Fb id:=if_pos hm
     show BR w ρ _ _ (ρ id) b (if memB ids id then Fb id else [])
     rw [hF']
     exact ((st.bx id b h2).okB hok).mono (fun _ _ _=>rfl) (fun b hb _=>hgd b hb) (fun id hid=>⟨hL id hid,rfl⟩)
   · rw [if_neg hm] at h1
     rw [show lk bx' id = some b from hd] at h1
     cases h1
  bxN:=fun id hn=>by
   have h1:=hl id
   by_cases hm : memB ids id = true
   · rw [if_pos hm] at h1
     simp only [hm,if_true]
     exact st.bxN id (by rw [<- h1]; exact hn)
   · simp [hm]
  nodE:=st.nodE
  nodB:=fun id=>by show (if memB ids id then Fb id else []).Nodup; split; exact st.nodB id; exact List.nodup_nil
  dEE:=st.dEE
  dEB:=fun t id b hb hm=>st.dEB t id b hb (hsub id b hm)
  dBB:=fun id id' hne b hb hm=>st.dBB id id' hne b (hsub id b hb) (hsub id' b hm)
  new:=fun b hb=>st.new b (hown b hb)
  kept:=st.kept
  os:=st.os
  tape:=⟨st.tape.tp,st.tape.dr⟩
  output:=st.output
  grown:=st.grown
  gl:=st.gl
  okN:=st.okN
  okO:=fun b hb=>st.okO b (hown b hb) }⟩
omit [DecidableEq κ] in
theorem okMpK {ids : List Nat} {kd : κ -> D} {f : α -> D} {m : List (κ × α)} (h1 : ∀ a,(kd a).okB ids = true) (h2 : ∀ u,(f u).okB ids = true) : ∀ kv ∈ m.map (fun e=>(kd e.1,f e.2)),kv.1.okB ids = true /\ kv.2.okB ids = true:=fun kv hkv=>by
 obtain ⟨e,_,rfl⟩:=List.mem_map.1 hkv
 exact ⟨h1 _,h2 _⟩
end Go.Sx

namespace Go.Sx
variable {P : Program} {C : Ctx} {σ σ' σ1 : Sg} {a : Act} {w w' : World} {ρ : Nat -> Nat} {Fe Fe' Fb : Nat -> List Nat}
end Go.Sx
