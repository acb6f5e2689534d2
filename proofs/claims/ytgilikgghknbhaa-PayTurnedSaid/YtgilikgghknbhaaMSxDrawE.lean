/-
 Own library: regions in any order,several operations of which turn boxes.
-/
import Derived.Test.YtgilikgghknbhaaMSxFnB
import Derived.Recover
import Derived.Test.YtgilikgghknbhaaMSxApp
import Derived.Test.YtgilikgghknbhaaProg
import Derived.Test.YtgilikgghknbhaaChecked
set_option linter.unusedVariables false
set_option linter.unusedSimpArgs false
set_option linter.unnecessarySimpa false

namespace Go.Sx
variable {P : Program} {C : Ctx} {σ σ' σ1 : Sg} {a : Act} {w w' : World} {ρ : Nat -> Nat} {Fe Fe' Fb : Nat -> List Nat}
theorem St.rebox {bx' : List (Nat × Bx)} (h : St C σ a w) (hb : ∀ id,lk bx' id = σ.box id) : St C ⟨σ.n,σ.env,bx'⟩ a w:=by
 obtain ⟨ρ,Fe,Fb,st⟩:=h
 have hbox : ∀ id,(⟨σ.n,σ.env,bx'⟩ : Sg).box id = σ.box id:=hb
 have hL : (fun id=>((⟨σ.n,σ.env,bx'⟩ : Sg).box id).isSome = true) = (fun id=>(σ.box id).isSome = true):=by
  funext id; rw [hbox]
 refine ⟨ρ,Fe,Fb,{
  size:=st.size
  defs:=st.defs
  pin:=fun id b hp=>⟨(st.pin id b hp).1,by rw [hbox]; exact (st.pin id b hp).2⟩
  env:=fun t d hd=>by rw [hL]; exact st.env t d hd
  envN:=fun t ht=>st.envN t ht
  bx:=fun id d hd=>by rw [hL]; exact st.bx id d (by rw [<- hbox]; exact hd)
  bxN:=fun id hd=>st.bxN id (by rw [<- hbox]; exact hd)
  nodE:=st.nodE
  nodB:=st.nodB
  dEE:=st.dEE
  dEB:=st.dEB
  dBB:=st.dBB
  new:=st.new
  kept:=st.kept
  os:=st.os
  tape:=⟨st.tape.tp,st.tape.dr⟩
  output:=st.output
  grown:=st.grown
  gl:=st.gl
  okN:=st.okN
  okO:=st.okO }⟩
abbrev Efs:=List (Nat × List (Nat × Bx))
def bxk (an : List Nat) (i id : Nat) : Efs -> Option Bx -> Option Bx
 | [],cur=>cur
 | (j,l) :: r,cur=>match lk l id with
  | none=>bxk an i id r cur
  | some x=>bif tb (nth an i) j then bxk an i id r (some x) else bif Nat.beq i j || tb (nth an j) i then bxk an i id r cur else bxk an i id r none
def bxL (f : Nat -> Bool) (id : Nat) : Efs -> Option Bx -> Option Bx
 | [],cur=>cur
 | (j,l) :: r,cur=>match lk l id with
  | none=>bxL f id r cur
  | some x=>bif f j then bxL f id r (some x) else bxL f id r cur
def touch (l m : List (Nat × Bx)) : Bool:=l.any fun x=>(lk m x.1).isSome
def okEf1 (an : List Nat) (j : Nat) (l : List (Nat × Bx)) : Efs -> Bool
 | []=>true
 | (k,m) :: r=>(!(Nat.beq j k) && (!(touch l m) || tb (nth an k) j)) && okEf1 an j l r
def okEf (an : List Nat) (m : Nat) : Efs -> Bool
 | []=>true
 | (j,l) :: r=>Nat.blt j m && okEf1 an j l r && okEf an m r
def freB1 (an : List Nat) (i id : Nat) : Efs -> Bool
 | []=>true
 | (k,m) :: r=>(Nat.beq k i || (lk m id).isNone || tb (nth an k) i) && freB1 an i id r
def freB (an : List Nat) (bx0 : List (Nat × Bx)) (efs : Efs) (i id : Nat) : Bool:=(lk bx0 id).isNone && freB1 an i id efs
def okAlbs (env : List (Nat × D)) (an : List Nat) (ks : List (Nat × Nat)) (its : List It) : Efs -> Bool
 | []=>true
 | (i,l) :: r=>(okAlbE (l.map Prod.fst) ks i env && okAlbI (l.map Prod.fst) an ks i its 0) && okAlbs env an ks its r
theorem okEf1_all {an : List Nat} {j : Nat} {l : List (Nat × Bx)} : ∀ {r : Efs},okEf1 an j l r = true -> ∀ x ∈ r,(!(Nat.beq j x.1) && (!(touch l x.2) || tb (nth an x.1) j)) = true:=by
 intro r
 induction r with
 | nil=>intro _ x hx; cases hx
 | cons y r ih=>
  obtain ⟨k,m⟩:=y
  intro h x hx
  simp only [okEf1] at h
  rw [Bool.and_eq_true] at h
  rcases List.mem_cons.1 hx with rfl | hx
  · exact h.1
  · exact ih h.2 x hx
theorem freB1_all {an : List Nat} {i id : Nat} : ∀ {r : Efs},freB1 an i id r = true -> ∀ x ∈ r,(Nat.beq x.1 i || (lk x.2 id).isNone || tb (nth an x.1) i) = true:=by
 intro r
 induction r with
 | nil=>intro _ x hx; cases hx
 | cons y r ih=>
  obtain ⟨k,m⟩:=y
  intro h x hx
  simp only [freB1] at h
  rw [Bool.and_eq_true] at h
  rcases List.mem_cons.1 hx with rfl | hx
  · exact h.1
  · exact ih h.2 x hx
theorem okAlbs_all {env : List (Nat × D)} {an : List Nat} {ks : List (Nat × Nat)} {its : List It} : ∀ {r : Efs},okAlbs env an ks its r = true -> ∀ x ∈ r,(okAlbE (x.2.map Prod.fst) ks x.1 env && okAlbI (x.2.map Prod.fst) an ks x.1 its 0) = true:=by
 intro r
 induction r with
 | nil=>intro _ x hx; cases hx
 | cons y r ih=>
  obtain ⟨k,m⟩:=y
  intro h x hx
  simp only [okAlbs] at h
  rw [Bool.and_eq_true] at h
  rcases List.mem_cons.1 hx with rfl | hx
  · exact h.1
  · exact ih h.2 x hx
def bxA : Efs -> List (Nat × Bx) -> List (Nat × Bx)
 | [],b=>b
 | (_,l) :: r,b=>bxA r (l ++ b)
def rmB (k : Nat) : List (Nat × Bx) -> List (Nat × Bx)
 | []=>[]
 | (j,x) :: r=>bif Nat.beq j k then rmB k r else (j,x) :: rmB k r
def ddB : Nat -> List (Nat × Bx) -> List (Nat × Bx)
 | 0,l=>l
 | _ + 1,[]=>[]
 | n + 1,(k,x) :: r=>(k,x) :: ddB n (rmB k r)
theorem lk_rmB (k : Nat) (l : List (Nat × Bx)) (u : Nat) (h : u ≠ k) : lk (rmB k l) u = lk l u:=by
 induction l with
 | nil=>rfl
 | cons y r ih=>
  obtain ⟨j,x⟩:=y
  simp only [rmB]
  by_cases hj : j = k
  · subst hj
    simp only [Nat.beq_refl,cond_true,lk_cons,ih]
    rw [if_neg (fun e=>h e.symm)]
  · simp only [nbeq hj,cond_false,lk_cons,ih]
theorem lk_ddB : ∀ (n : Nat) (l : List (Nat × Bx)) (u : Nat),lk (ddB n l) u = lk l u:=by
 intro n
 induction n with
 | zero=>intro l u; rfl
 | succ n ih=>
  intro l u
  cases l with
  | nil=>rfl
  | cons y r=>
   obtain ⟨k,x⟩:=y
   simp only [ddB,lk_cons,ih]
   by_cases hk : k = u
   · simp [hk]
   · simp only [hk,if_false]; exact lk_rmB k r u (fun e=>hk e.symm)
theorem lk_bxA (efs : Efs) : ∀ (b : List (Nat × Bx)) (u : Nat),lk (bxA efs b) u = bxL (fun _=>true) u efs (lk b u):=by
 induction efs with
 | nil=>intro b u; rfl
 | cons y r ih=>
  obtain ⟨j,l⟩:=y
  intro b u
  simp only [bxA,bxL,ih,lk_append]
  cases lk l u <;> rfl
section
variable {listed : Array Bool} {ops : List Oper} {an : List Nat} {ks kk : List (Nat × Nat)} {its : List It} {Q : Exit -> Sg -> Prop}
theorem bxL_congr {f g : Nat -> Bool} {id : Nat} : ∀ {efs : Efs} {c : Option Bx},(∀ j l,(j,l) ∈ efs -> (lk l id).isSome = true -> f j = g j) -> bxL f id efs c = bxL g id efs c:=by
 intro efs
 induction efs with
 | nil=>intro c _; rfl
 | cons y r ih=>
  obtain ⟨j,l⟩:=y
  intro c h
  simp only [bxL]
  cases hl : lk l id with
  | none=>exact ih (fun j' l' hm=>h j' l' (List.mem_cons_of_mem _ hm))
  | some x=>
   simp only
   rw [h j l (by simp) (by rw [hl]; rfl)]
   cases g j <;> exact ih (fun j' l' hm=>h j' l' (List.mem_cons_of_mem _ hm))
theorem bxL_off {f : Nat -> Bool} {id : Nat} : ∀ {efs : Efs} {c : Option Bx},(∀ j l,(j,l) ∈ efs -> (lk l id).isSome = true -> f j = false) -> bxL f id efs c = c:=by
 intro efs
 induction efs with
 | nil=>intro c _; rfl
 | cons y r ih=>
  obtain ⟨j,l⟩:=y
  intro c h
  simp only [bxL]
  cases hl : lk l id with
  | none=>exact ih (fun j' l' hm=>h j' l' (List.mem_cons_of_mem _ hm))
  | some x=>
   simp only
   rw [h j l (by simp) (by rw [hl]; rfl)]
   exact ih (fun j' l' hm=>h j' l' (List.mem_cons_of_mem _ hm))
theorem bxk_ok {f : Nat -> Bool} {i id : Nat} {x : Bx} (hi : f i = false) : ∀ {efs : Efs} {ck cb : Option Bx},(∀ j l,(j,l) ∈ efs -> tb (nth an i) j = true -> f j = true) -> (∀ j l,(j,l) ∈ efs -> tb (nth an j) i = true -> f j = false) ->
 (∀ x,ck = some x -> cb = some x) -> bxk an i id efs ck = some x -> bxL f id efs cb = some x:=by
 intro efs
 induction efs with
 | nil=>intro ck cb _ _ h hx; exact h x hx
 | cons y r ih=>
  obtain ⟨j,l⟩:=y
  intro ck cb h1 h2 h hx
  simp only [bxk] at hx
  simp only [bxL]
  have h1' : ∀ j l,(j,l) ∈ r -> tb (nth an i) j = true -> f j = true:=fun j' l' hm=>h1 j' l' (List.mem_cons_of_mem _ hm)
  have h2' : ∀ j l,(j,l) ∈ r -> tb (nth an j) i = true -> f j = false:=fun j' l' hm=>h2 j' l' (List.mem_cons_of_mem _ hm)
  cases hl : lk l id with
  | none=>rw [hl] at hx; exact ih h1' h2' h hx
  | some z=>
   rw [hl] at hx
   simp only at hx ⊢
   cases ha : tb (nth an i) j with
   | true=>
    rw [ha] at hx
    rw [h1 j l (by simp) ha]
    exact ih h1' h2' (fun _ h=>h) hx
   | false=>
    rw [ha] at hx
    simp only [cond_false] at hx
    cases hb : (Nat.beq i j || tb (nth an j) i) with
    | true=>
     rw [hb] at hx
     have : f j = false:=by
      rcases Bool.or_eq_true _ _ ▸ hb with hb | hb
      · rw [<- Nat.eq_of_beq_eq_true hb]; exact hi
      · exact h2 j l (by simp) hb
     rw [this]
     exact ih h1' h2' h hx
    | false=>
     rw [hb] at hx
     simp only [cond_false] at hx
     cases f j with
     | true=>exact ih h1' h2' (fun _ h=>by cases h) hx
     | false=>exact ih h1' h2' (fun _ h=>by cases h) hx
theorem touch_mk {l m : List (Nat × Bx)} {id : Nat} (h1 : (lk l id).isSome = true) (h2 : (lk m id).isSome = true) : touch l m = true:=by
 obtain ⟨x,hx⟩:=Option.isSome_iff_exists.1 h1
 exact List.any_eq_true.2 ⟨(id,x),lk_mem hx,h2⟩
theorem bxL_set {f : Nat -> Bool} {m i id : Nat} {l : List (Nat × Bx)} (hi : f i = false) : ∀ {efs : Efs} {c : Option Bx},okEf an m efs = true -> (i,l) ∈ efs -> (∀ j l,(j,l) ∈ efs -> tb (nth an j) i = true -> f j = false) ->
 bxL (fun j=>f j || Nat.beq j i) id efs c = (match lk l id with | some x=>some x | none=>bxL f id efs c):=by
 intro efs
 induction efs with
 | nil=>intro c _ h; cases h
 | cons y r ih=>
  obtain ⟨j,l0⟩:=y
  intro c hok hm h2
  simp only [okEf,Bool.and_eq_true] at hok
  obtain ⟨⟨_,hr⟩,hok'⟩:=hok
  have hr' : ∀ j' l',(j',l') ∈ r -> j' ≠ j /\ (touch l0 l' = true -> tb (nth an j') j = true):=fun j' l' hm'=>by
   have:=okEf1_all hr _ hm'
   simp only [Bool.and_eq_true,Bool.not_eq_true',Bool.or_eq_true] at this
   refine ⟨fun e=>?_,fun ht=>?_⟩
   · subst e; simp at this
   · rcases this.2 with h | h
     · rw [ht] at h; cases h
     · exact h
  by_cases hji : j = i
  · subst hji
    have hl : l = l0:=by
     rcases List.mem_cons.1 hm with h | h
     · cases h; rfl
     · exact absurd rfl (hr' j l h).1
    subst hl
    have hrest : ∀ c,bxL (fun j'=>f j' || Nat.beq j' j) id r c = bxL f id r c:=fun c=>bxL_congr fun j' l' hm' _=>by rw [nbeq (hr' j' l' hm').1,Bool.or_false]
    simp only [bxL]
    cases hl : lk l id with
    | none=>simp only; exact hrest c
    | some x=>
     simp only [Nat.beq_refl,Bool.or_true,cond_true]
     rw [hrest]
     exact bxL_off fun j' l' hm' hs=>h2 j' l' (List.mem_cons_of_mem _ hm') ((hr' j' l' hm').2 (touch_mk (by rw [hl]; rfl) hs))
  · have hm' : (i,l) ∈ r:=by
     rcases List.mem_cons.1 hm with h | h
     · cases h; exact absurd rfl hji
     · exact h
    have h2' : ∀ j l,(j,l) ∈ r -> tb (nth an j) i = true -> f j = false:=fun j' l' hm'=>h2 j' l' (List.mem_cons_of_mem _ hm')
    simp only [bxL,nbeq hji,Bool.or_false]
    cases lk l0 id with
    | none=>exact ih hok' hm' h2'
    | some x=>cases f j <;> exact ih hok' hm' h2'
theorem okEf_lt {m : Nat} {efs : Efs} (h : okEf an m efs = true) : ∀ j l,(j,l) ∈ efs -> j < m:=by
 induction efs with
 | nil=>intro j l hm; cases hm
 | cons y r ih=>
  obtain ⟨j0,l0⟩:=y
  simp only [okEf,Bool.and_eq_true] at h
  intro j l hm
  rcases List.mem_cons.1 hm with e | e
  · cases e; exact Nat.le_of_ble_eq_true h.1.1
  · exact ih h.2 j l e
theorem lk_some {α : Type} {r : List (Nat × α)} {k : Nat} {x : α} (h : (k,x) ∈ r) : (lk r k).isSome = true:=by
 induction r with
 | nil=>cases h
 | cons y r ih=>
  obtain ⟨j,z⟩:=y
  rw [lk_cons]
  rcases List.mem_cons.1 h with e | e
  · cases e; simp
  · split
    · rfl
    · exact ih e
def SpE (P : Program) (C : Ctx) (σ : Sg) (efs : Efs) (i : Nat) (l : List (Nat × Bx)) (an : List Nat) (ks : List (Nat × Nat)) (its : List It) (o : Oper) (t : Nat) (d : D) : Prop:=
 ∀ τ : Sg,τ.n = σ.n -> (∀ id x,bxk an i id efs (lk σ.bx id) = some x -> τ.box id = some x) -> (∀ id,freB an σ.bx efs i id = true -> τ.box id = none) -> (∀ u x,facts an ks σ.env its i u = some x -> τ.get u = some x) ->
  ∃ τ' : Sg,OpS P C o τ (match o.dst with | some _=>τ'.set t d | none=>τ') /\ τ'.n = τ.n /\ (∀ id,τ'.box id = match lk l id with | some x=>some x | none=>τ.box id) /\
   ∀ u y,(∀ k s,(k,s) ∈ ks -> s = u -> k ≠ i) -> τ.get u = some y -> y.albIn (l.map Prod.fst) = false -> τ'.get u = some y
def dstE (n : Nat) (ks : List (Nat × Nat)) (o : Oper) (i t : Nat) : Prop:=
 match o.dst with
 | some t'=>t' = t /\ t < n
 | none=>has ks i t = true
def AllE (P : Program) (C : Ctx) (σ : Sg) (efs : Efs) (ops : List Oper) (an : List Nat) (ks kk : List (Nat × Nat)) (its : List It) : List Oper -> List It -> Nat -> Prop
 | o :: os,⟨t,d,wt⟩ :: r,i=>(match lk efs i with
  | some l=>o.guard = none /\ wt = true /\ dstE σ.n ks o i t /\ SpE P C σ efs i l an ks its o t d
  | none=>o.dst = some t /\ t < σ.n /\ Wt ops (facts an ks σ.env its i) o wt /\
  (wt = true -> ∀ τ : Sg,(∀ id x,bxk an i id efs (lk σ.bx id) = some x -> τ.box id = some x) -> t < τ.n -> (∀ u x,facts an ks σ.env its i u = some x -> τ.get u = some x) -> OpS P C o τ ((killS τ kk i).set t d))) /\
  AllE P C σ efs ops an ks kk its os r (i + 1)
 | [],_ :: _,_=>False
 | _,[],_=>True
theorem AllE.at {efs : Efs} : ∀ {os : List Oper} {r : List It} {i0 : Nat},AllE P C σ efs ops an ks kk its os r i0 -> ∀ {k : Nat} {t : Nat} {d : D} {wt : Bool},r[k]? = some ⟨t,d,wt⟩ ->
 ∃ o,os[k]? = some o /\ (match lk efs (i0 + k) with
  | some l=>o.guard = none /\ wt = true /\ dstE σ.n ks o (i0 + k) t /\ SpE P C σ efs (i0 + k) l an ks its o t d
  | none=>o.dst = some t /\ t < σ.n /\ Wt ops (facts an ks σ.env its (i0 + k)) o wt /\
  (wt = true -> ∀ τ : Sg,(∀ id x,bxk an (i0 + k) id efs (lk σ.bx id) = some x -> τ.box id = some x) -> t < τ.n -> (∀ u x,facts an ks σ.env its (i0 + k) u = some x -> τ.get u = some x) -> OpS P C o τ ((killS τ kk (i0 + k)).set t d))):=by
 intro os r
 induction r generalizing os with
 | nil=>intro i0 _ k t d wt hk; simp at hk
 | cons y r ih=>
  intro i0 h k t d wt hk
  obtain ⟨t',d',w'⟩:=y
  cases os with
  | nil=>exact h.elim
  | cons o os=>
   cases k with
   | zero=>
    simp at hk
    obtain ⟨rfl,rfl,rfl⟩:=hk
    exact ⟨o,rfl,h.1⟩
   | succ k=>
    obtain ⟨o',h1,h2⟩:=ih h.2 (k:=k) (by simpa using hk)
    rw [show i0 + (k + 1) = i0 + 1 + k by omega]
    exact ⟨o',by simpa using h1,h2⟩
theorem draw_after0 {N : Nat} (H : ItG ⟨N,σ.env,σ.bx⟩ ops an ks its) (hsize : listed.size = ops.length) {i t : Nat} {d : D} {wt : Bool} (hit : its[i]? = some ⟨t,d,wt⟩) (hun : listed.getD i true = false)
 (hanc : ∀ j,j < ops.length -> tb (nth an i) j = true -> listed.getD j false = true) (hnot : ∀ j,j < ops.length -> tb (nth an j) i = true -> listed.getD j false = false) {ids : List Nat} (hE : okAlbE ids ks i σ.env = true) (hI : okAlbI ids an ks i its 0 = true) (hkt : (i,t) ∈ ks)
 {τ : Sg} (hinv : InvG σ an ks its listed τ) (τ2 : Sg)
 (hg2 : ∀ u y,(∀ k s,(k,s) ∈ ks -> s = u -> k ≠ i) -> τ.get u = some y -> y.albIn ids = false -> τ2.get u = some y) : InvG σ an ks its (listed.setIfInBounds i true) τ2:=by
 obtain ⟨hnd,hlt⟩:=okTs_ok H.ts
 obtain ⟨hin,hif⟩:=undone hun
 intro u y hy
 unfold afts at hy
 cases hbd : bads (fun j=>(listed.setIfInBounds i true).getD j false && !(cov an (fun j=>(listed.setIfInBounds i true).getD j false) its u j)) ks u with
 | true=>rw [hbd] at hy; cases hy
 | false=>
  rw [hbd] at hy
  simp only [cond_false] at hy
  rw [bads_false] at hbd
  have hii : (listed.setIfInBounds i true).getD i false = true:=by simp [hin]
  have hcov : u ≠ t -> ∀ k,cov an (fun j=>(listed.setIfInBounds i true).getD j false) its u k = true -> cov an (fun j=>listed.getD j false) its u k = true /\ k ≠ i:=by
   intro hut k hc
   obtain ⟨j,dj,wj,h1,h2,h3,h4⟩:=cov_true hc
   have hji : i ≠ j:=by
    rintro rfl
    rw [hit] at h2
    cases h2
    exact hut rfl
   rw [getD_set_ne false hji] at h3
   refine ⟨cov_mk h1 h3 h4, ?_⟩
   rintro rfl
   have hjl : j < ops.length:=Nat.lt_of_lt_of_le (List.getElem?_eq_some_iff.1 h2).1 H.len
   rw [hnot j hjl h4] at h3
   cases h3
  by_cases hut : u = t
  · subst hut
    exfalso
    have h1:=hbd i u hkt rfl
    rw [hii] at h1
    simp only [Bool.true_and,Bool.not_eq_false'] at h1
    obtain ⟨j,dj,wj,q1,q2,q3,q4⟩:=cov_true h1
    have hji : j = i:=by
     have e1 : (slots its)[j]? = some u:=by rw [slots_get,q2]; rfl
     have e2 : (slots its)[i]? = some u:=by rw [slots_get,hit]; rfl
     obtain ⟨l1,e1'⟩:=List.getElem?_eq_some_iff.1 e1
     obtain ⟨l2,e2'⟩:=List.getElem?_eq_some_iff.1 e2
     exact (List.getElem_inj hnd).1 (e1'.trans e2'.symm)
    subst hji
    have hjl : j < ops.length:=Nat.lt_of_lt_of_le (List.getElem?_eq_some_iff.1 q2).1 H.len
    have:=hanc j hjl q4
    rw [hif] at this
    cases this
  · have hki : ∀ k s,(k,s) ∈ ks -> s = u -> k ≠ i:=by
     rintro k s hm hsu rfl
     have h1:=hbd k s hm hsu
     rw [hii] at h1
     simp only [Bool.true_and,Bool.not_eq_false'] at h1
     exact (hcov hut k h1).2 rfl
    have hbd2 : bads (fun j=>listed.getD j false && !(cov an (fun j=>listed.getD j false) its u j)) ks u = false:=by
     rw [bads_false]
     intro k s hm hsu
     have h1:=hbd k s hm hsu
     have h2:=hki k s hm hsu
     rw [getD_set_ne false (fun e=>h2 e.symm)] at h1
     cases hd : listed.getD k false with
     | false=>rfl
     | true=>
      rw [hd] at h1
      simp only [Bool.true_and,Bool.not_eq_false'] at h1 ⊢
      exact (hcov hut k h1).1
    have hold : afts an (fun j=>listed.getD j false) ks σ.env its u = some y /\ y.albIn ids = false:=by
     unfold afts
     rw [hbd2]
     simp only [cond_false]
     rcases slot_cases its u with hu | ⟨k,dk,wk,hk⟩
     · rw [looks_none hu] at hy ⊢
       exact ⟨hy,(okAlbE_ok hE hy).resolve_right fun h=>hki i u h rfl rfl⟩
     · rw [looks_at hnd hk] at hy ⊢
       simp only [Nat.zero_add] at hy ⊢
       have hne : i ≠ k:=by
        rintro rfl
        rw [hit] at hk
        cases hk
        exact hut rfl
       rw [getD_set_ne false hne] at hy
       refine ⟨hy, ?_⟩
       cases hd : listed.getD k false with
       | false=>
        rw [hd] at hy
        exact (okAlbE_ok hE hy).resolve_right fun h=>hki i u h rfl rfl
       | true=>
        rw [hd] at hy
        simp only [cond_true] at hy
        cases wk with
        | false=>simp at hy; subst hy; simp [D.albIn]
        | true=>
         simp at hy
         subst hy
         rcases okAlbI_ok hI hk with h | h | h
         · exact h
         · exact absurd rfl (hki i u h rfl)
         · simp only [Nat.zero_add] at h
           rw [hnot k (by rw [<- hsize]; exact getD_true hd) h] at hd
           cases hd
    exact hg2 u y hki (hinv u y hold.1) hold.2
structure ItE (σ : Sg) (efs : Efs) (ops : List Oper) (an : List Nat) (ks : List (Nat × Nat)) (its : List It) : Prop where
 N : ∃ N,okTs N (slots its) = true
 len : its.length <= ops.length
 ref : okRef an ks (slots its) its 0 = true
 env : okEnv (slots its) σ.env = true
 ef : okEf an its.length efs = true
 alb : okAlbs σ.env an ks its efs = true
def bxAtE (σ : Sg) (efs : Efs) (listed : Array Bool) (τ : Sg) : Prop:=∀ id,τ.box id = bxL (fun j=>listed.getD j false) id efs (lk σ.bx id)
theorem draw_stepE {efs : Efs} (H : ItE σ efs ops an ks its) (hall : AllE P C σ efs ops an ks kk its ops its 0) (hsub : subs kk ks = true)
 (hsize : listed.size = ops.length) {i : Nat} {oi : Oper} (hi : i < its.length) (ho : ops[i]? = some oi) (hun : listed.getD i true = false)
 (hanc : ∀ j,j < ops.length -> tb (nth an i) j = true -> listed.getD j false = true) (hnot : ∀ j,j < ops.length -> tb (nth an j) i = true -> listed.getD j false = false)
 {τ : Sg} (hs : St C τ a w) (hn : τ.n = σ.n) (hb : bxAtE σ efs listed τ) (hinv : InvG σ an ks its listed τ) {K : Act -> World -> Prop} {Q : Exit -> Act -> World -> Prop}
 (hK : ∀ a' w' τ',St C τ' a' w' -> τ'.n = σ.n -> bxAtE σ efs (listed.setIfInBounds i true) τ' -> InvG σ an ks its (listed.setIfInBounds i true) τ' -> K a' w') :
 Region.wanted oi (yielded ops.toArray a.tmps) = true /\ oi.wpIn (Fx C) 3 P a w K Q ∨ Region.wanted oi (yielded ops.toArray a.tmps) = false /\ K (a.put oi.dst undef) w:=by
 obtain ⟨N,hN⟩:=H.N
 have HG : ItG ⟨N,σ.env,σ.bx⟩ ops an ks its:=⟨H.len,hN,H.ref,H.env⟩
 obtain ⟨⟨t,d,wt⟩,hit⟩ : ∃ it,its[i]? = some it:=⟨its[i],List.getElem?_eq_getElem hi⟩
 obtain ⟨o,ho',hcl⟩:=hall.at hit
 rw [ho] at ho'
 cases ho'
 simp only [Nat.zero_add] at hcl
 obtain ⟨hin,hif⟩:=undone hun
 have hil : i < ops.length:=by rw [<- hsize]; exact hin
 have hfact : ∀ u x,facts an ks σ.env its i u = some x -> τ.get u = some x:=draw_facts HG hsize hi hun hanc hnot hinv
 have hefl : ∀ j l,(j,l) ∈ efs -> j < ops.length:=fun j l hm=>Nat.lt_of_lt_of_le (okEf_lt H.ef j l hm) H.len
 have hbx : ∀ id x,bxk an i id efs (lk σ.bx id) = some x -> τ.box id = some x:=fun id x hx=>by
  rw [hb id]
  exact bxk_ok hif (fun j l hm ht=>hanc j (hefl j l hm) ht) (fun j l hm ht=>hnot j (hefl j l hm) ht) (fun _ h=>h) hx
 cases hef : lk efs i with
 | some l=>
  rw [hef] at hcl
  simp only at hcl
  obtain ⟨hg,rfl,hdst,hsp⟩:=hcl
  have hm:=mem_of_lk hef
  have halb:=okAlbs_all H.alb _ hm
  simp only [Bool.and_eq_true] at halb
  have hfre : ∀ id,freB an σ.bx efs i id = true -> τ.box id = none:=fun id hf=>by
   unfold freB at hf
   simp only [Bool.and_eq_true,Option.isNone_iff_eq_none] at hf
   rw [hb id,hf.1]
   refine bxL_off fun j l hm hs=>?_
   have:=freB1_all hf.2 _ hm
   simp only [Bool.or_eq_true,Option.isNone_iff_eq_none] at this
   rcases this with (h | h) | h
   · rw [Nat.eq_of_beq_eq_true h]; exact hif
   · rw [h] at hs; cases hs
   · exact hnot j (hefl j l hm) h
  obtain ⟨τ',h1,h2,h3,h4⟩:=hsp τ hn hbx hfre hfact
  have hbn : ∀ id,τ'.box id = bxL (fun j=>(listed.setIfInBounds i true).getD j false) id efs (lk σ.bx id):=fun id=>by
   rw [h3 id,hb id]
   rw [<- bxL_set (f:=fun j=>listed.getD j false) hif H.ef hm (fun j l hm ht=>hnot j (hefl j l hm) ht)]
   refine bxL_congr fun j l hm _=>?_
   by_cases hji : j = i
   · subst hji; simp [hin]
   · rw [getD_set_ne false (fun e=>hji e.symm),nbeq hji,Bool.or_false]
  refine .inl ⟨Region.wanted_none hg _,h1 a w hs _ _ fun a' w' hs'=>?_⟩
  unfold dstE at hdst
  cases hd : oi.dst with
  | none=>
   rw [hd] at hdst hs'
   exact hK a' w' _ hs' (h2.trans hn) hbn (draw_after0 HG hsize hit hun hanc hnot halb.1 halb.2 (has_ok hdst) hinv τ' h4)
  | some t'=>
   rw [hd] at hdst hs'
   exact hK a' w' _ hs' (h2.trans hn) hbn (draw_after HG hsize hit hun hnot halb.1 halb.2 hinv d rfl τ' h4)
 | none=>
  rw [hef] at hcl
  simp only at hcl
  obtain ⟨hdst,htn0,hwt,hop⟩:=hcl
  have htn : t < τ.n:=by rw [hn]; exact htn0
  have hEi : okAlbE [] ks i σ.env = true:=okAlbE_nil _
  have hIi : ∀ j,okAlbI [] an ks i its j = true:=fun j=>okAlbI_nil _ j
  have hbn : ∀ τ' : Sg,τ'.bx = τ.bx -> bxAtE σ efs (listed.setIfInBounds i true) τ':=fun τ' hbb id=>by
   have : τ'.box id = τ.box id:=by simp only [Sg.box,hbb]
   rw [this,hb id]
   refine bxL_congr fun j l hm _=>?_
   rw [getD_set_ne false]
   rintro rfl
   have:=lk_some hm
   rw [hef] at this
   cases this
  rw [hwt.ok hs hfact]
  have hkn:=killS_n τ kk i
  cases hwt2 : wt with
  | false=>
   refine .inr ⟨rfl, ?_⟩
   rw [hdst]
   exact hK _ _ _ (hs.unwanted htn) hn (hbn _ rfl) (draw_after HG hsize hit hun hnot hEi (hIi 0) hinv (.tup []) (by rw [hwt2]; rfl) τ (fun u y _ h _=>h))
  | true=>
   refine .inl ⟨rfl,hop hwt2 τ hbx htn hfact a w hs _ _ fun a' w' hs'=>?_⟩
   exact hK _ _ _ hs' (hkn.1.trans hn) (hbn _ hkn.2) (draw_after HG hsize hit hun hnot hEi (hIi 0) hinv d (by rw [hwt2]; rfl) _ (fun u y hu hy _=>(killS_get (fun k s hm=>hu k s (subs_ok hsub k s hm))).trans hy))
theorem draw_mainE {efs : Efs} {bx1 : List (Nat × Bx)} (hA : okAn ops an its.length = true) (H : ItE σ efs ops an ks its) (hall : AllE P C σ efs ops an ks kk its ops its 0) (hsub : subs kk ks = true)
 {live : List Nat} {env' : List (Nat × D)} (hE : picks (afts an (fun _=>true) ks σ.env its) live = env') {nd : Nat} (hb1 : ddB nd (bxA efs σ.bx) = bx1)
 (hT : TL P C Q (ops.drop its.length) ⟨σ.n,env',bx1⟩) : ∀ (fuel : Nat) (listed : Array Bool) (a : Act) (w : World) (τ : Sg),Cl ops listed -> listed.toList.count false <= fuel ->
 (∀ j,its.length <= j -> j < ops.length -> listed.getD j true = false) -> St C τ a w -> τ.n = σ.n -> bxAtE σ efs listed τ -> InvG σ an ks its listed τ ->
 wpAnyIn (Fx C) 3 P .any ops.toArray (fun e a' w'=>∃ σ',St C σ' a' w' /\ Q e σ') fuel listed a w:=by
 obtain ⟨N,hN⟩:=H.N
 have hefl : ∀ j l,(j,l) ∈ efs -> j < its.length:=fun j l hm=>okEf_lt H.ef j l hm
 have fin : ∀ (listed : Array Bool) (a : Act) (w : World) (τ : Sg),(∀ j,j < its.length -> listed.getD j false = true) -> St C τ a w -> τ.n = σ.n -> bxAtE σ efs listed τ -> InvG σ an ks its listed τ ->
  St C ⟨σ.n,env',bx1⟩ a w:=by
  intro listed a w τ hall' hs hn hb hinv
  have hbb : ∀ id,lk bx1 id = τ.box id:=fun id=>by
   rw [<- hb1,lk_ddB,lk_bxA,hb id]
   exact bxL_congr fun j l hm _=>(hall' j (hefl j l hm)).symm
  refine (hs.rebox hbb).weaken hn.symm rfl fun t d hd=>hinv t d ?_
  have:=lk_picks (f:=afts an (fun _=>true) ks σ.env its) (l:=live) (by rw [hE]; exact hd)
  unfold afts at this ⊢
  cases hb : bads (fun k=>true && !(cov an (fun _=>true) its t k)) ks t with
  | true=>rw [hb] at this; cases this
  | false=>
   rw [hb] at this
   rw [bads_fin (fun j dj wj hj=>hall' j (List.getElem?_eq_some_iff.1 hj).1) hb]
   simp only [cond_false] at this ⊢
   rcases slot_cases its t with hu | ⟨k,dk,wk,hk⟩
   · rw [looks_none hu] at this ⊢; exact this
   · rw [looks_at (okTs_ok hN).1 hk] at this ⊢
     simp only [Nat.zero_add] at this ⊢
     rw [hall' k (List.getElem?_eq_some_iff.1 hk).1]; exact this
 intro fuel
 induction fuel with
 | zero=>
  intro listed a w τ hc hf h2 hs hn hb hinv
  by_cases hall' : ∀ j,j < its.length -> listed.getD j false = true
  · exact draw_tail hA _ its.length 0 listed a w ⟨σ.n,env',bx1⟩ rfl (Nat.le_refl _) H.len hc hf hall' h2 (fin listed a w τ hall' hs hn hb hinv) hT
  · exfalso
    apply hall'
    intro j hj
    have:=count_zero (listed:=listed) (by omega) j
    have hjl : j < listed.size:=by rw [hc.size]; have:=H.len; omega
    simp [hjl] at this ⊢
    exact this
 | succ fuel ih=>
  intro listed a w τ hc hf h2 hs hn hb hinv
  by_cases hall' : ∀ j,j < its.length -> listed.getD j false = true
  · exact draw_tail hA _ its.length (fuel + 1) listed a w ⟨σ.n,env',bx1⟩ rfl (Nat.le_refl _) H.len hc hf hall' h2 (fin listed a w τ hall' hs hn hb hinv) hT
  · have hsome : ∃ j,j < its.length /\ listed.getD j true = false:=by
     rcases Classical.not_forall.1 hall' with ⟨j,hj⟩
     rcases Classical.not_imp.1 hj with ⟨hj1,hj2⟩
     refine ⟨j,hj1, ?_⟩
     have hjl : j < listed.size:=by rw [hc.size]; have:=H.len; omega
     simp [hjl] at hj2 ⊢
     exact hj2
    have key : ∀ n j,j = n -> j < its.length -> listed.getD j true = false -> ∃ k,k ∈ Region.ready .any ops.toArray listed:=by
     intro n
     induction n using Nat.strongRecOn with
     | _ n ihn=>
      intro j hjn hj hu
      have hjl : j < ops.length:=Nat.lt_of_lt_of_le hj H.len
      have ho : ops[j]? = some ops[j]:=List.getElem?_eq_getElem hjl
      by_cases hr : ∀ e ∈ ops[j].after,Region.binds .any e = true -> listed.getD e.on false = true
      · exact ⟨j,mem_ready.2 ⟨hu,_,by simp,hr⟩⟩
      · rcases Classical.not_forall.1 hr with ⟨e,he⟩
        rcases Classical.not_imp.1 he with ⟨he1,he2⟩
        rcases Classical.not_imp.1 he2 with ⟨he3,he4⟩
        have hlt:=(okAn_spec hA ho).1 e he1 he3
        refine ihn e.on (by omega) e.on rfl (by omega) ?_
        have hel : e.on < listed.size:=by rw [hc.size]; omega
        simp [hel] at he4 ⊢
        exact he4
    obtain ⟨j0,hj0,hu0⟩:=hsome
    refine ⟨fun hr=>?_,fun i hi=>?_⟩
    · obtain ⟨k,hk⟩:=key j0 j0 rfl hj0 hu0
      rw [hr] at hk
      cases hk
    · obtain ⟨h3,oi,h4,h5⟩:=mem_ready.1 hi
      have ho : ops[i]? = some oi:=by simpa using h4
      have hil : i < ops.length:=(List.getElem?_eq_some_iff.1 ho).1
      have him : i < its.length:=by
       rcases Nat.lt_or_ge i its.length with h | h
       · exact h
       · exfalso
         obtain ⟨_,h9⟩:=okAn_spec hA ho
         have hj0l : j0 < ops.length:=Nat.lt_of_lt_of_le hj0 H.len
         obtain ⟨h10,h11⟩:=h9 j0 hj0l
         obtain ⟨e,he,hb,h12⟩:=h10 (h11 h (by omega))
         have hd:=h5 e he hb
         have hkd : listed.getD j0 false = true:=by
          rcases h12 with rfl | h12
          · exact hd
          · exact hc.anc hA e.on (by rw [<- hc.size]; exact getD_true hd) hd j0 hj0l h12
         rw [(undone hu0).2] at hkd
         cases hkd
      have hspc:=(okAn_spec hA ho).2
      have hif:=(undone h3).2
      have hanc : ∀ j,j < ops.length -> tb (nth an i) j = true -> listed.getD j false = true:=by
       intro j hj ht
       obtain ⟨e,he,hb,h1⟩:=(hspc j hj).1 ht
       have hd:=h5 e he hb
       rcases h1 with rfl | h1
       · exact hd
       · exact hc.anc hA e.on (by rw [<- hc.size]; exact getD_true hd) hd j hj h1
      have hnot : ∀ j,j < ops.length -> tb (nth an j) i = true -> listed.getD j false = false:=by
       intro j hj ht
       cases hd : listed.getD j false with
       | false=>rfl
       | true=>have:=hc.anc hA j hj hd i hil ht; rw [hif] at this; cases this
      suffices hK : ∀ a' w' τ',St C τ' a' w' -> τ'.n = σ.n -> bxAtE σ efs (listed.setIfInBounds i true) τ' -> InvG σ an ks its (listed.setIfInBounds i true) τ' -> wpAnyIn (Fx C) 3 P .any ops.toArray (fun e a' w'=>∃ σ',St C σ' a' w' /\ Q e σ') fuel (listed.setIfInBounds i true) a' w' by
       unfold Go.wpOpIn
       simp only [h4]
       rcases draw_stepE H hall hsub hc.size him ho h3 hanc hnot hs hn hb hinv hK with ⟨e1,e2⟩ | ⟨e1,e2⟩
       · simp only [e1,if_true]; exact e2
       · simp only [e1,Bool.false_eq_true,if_false]; exact ⟨fun _ _=>trivial,e2⟩
      intro a' w' τ' hs' hn' hb' hinv'
      refine ih _ a' w' τ' (hc.set ho h5) (by have:=count_set h3; omega) (fun j hj hjl=>?_) hs' hn' hb' hinv'
      rw [getD_set_ne true (by omega)]
      exact h2 j hj hjl
theorem W.drawE {id m n' nd : Nat} {efs : Efs} {bx1 : List (Nat × Bx)} (hm : P.follows .mixedOrders = true) (hA0 : okAn ops an m = true) (hlen : its.length = m)
 (H : ItE σ efs ops an ks its) (hall : AllE P C σ efs ops an ks kk its ops its 0) (hsub : subs kk ks = true)
 {live : List Nat} {env' : List (Nat × D)} (hE : picks (afts an (fun _=>true) ks σ.env its) live = env') (hb1 : ddB nd (bxA efs σ.bx) = bx1)
 (hn : σ.n = n') (hT : TL P C Q (ops.drop its.length) ⟨n',env',bx1⟩) : W P C (.region id ops.toArray true) Q σ:=by
 intro a w hs
 refine wpIn_region_any hm ?_
 have hgd : ∀ k,(Array.replicate ops.toArray.size false).getD k false = false:=by
  intro k
  simp only [Array.getD_eq_getD_getElem?,Array.getElem?_replicate]
  split <;> rfl
 have hc : Cl ops (Array.replicate ops.toArray.size false):=⟨by simp,fun i o _ hd=>by rw [hgd] at hd; cases hd⟩
 have hA : okAn ops an its.length = true:=by rw [hlen]; exact hA0
 obtain ⟨N,hN⟩:=H.N
 subst hn
 refine draw_mainE hA H hall hsub hE hb1 hT _ _ a _ σ hc ?_ ?_ (hs.ext (Ext.drew w)) rfl ?_ (fun u x hx=>?_)
 · simp
 · intro j _ hj; simp [hj]
 · exact fun id=>(bxL_off fun j l _ _=>hgd j).symm
 · unfold afts at hx
   generalize hb : bads _ ks u = bb at hx
   cases bb with
   | true=>cases hx
   | false=>
    simp only [cond_false] at hx
    rcases slot_cases its u with hu | ⟨k,dk,wk,hk⟩
    · rw [looks_none hu] at hx; exact hx
    · rw [looks_at (okTs_ok hN).1 hk,hgd] at hx
      exact hx
theorem SpE.alloc {efs : Efs} {i t ty rt : TypeId} {d : D} {pos : String} {aft : Array Edge} [hZ : ZrT P ty d] (hf : freB an σ.bx efs i t = true) (ht : t < σ.n) :
 SpE P C σ efs i [(t,.var d)] an ks its ⟨some t,.alloc ty,rt,pos,aft,none⟩ t (.ptr t 0 []):=by
 intro τ hn hb hfr hfa
 refine ⟨τ.newB t (.var d),R.alloc (hfr t hf) (by rw [hn]; exact ht),rfl,fun id=>?_,fun u y _ hy _=>hy⟩
 rw [box_newB]
 by_cases hid : t = id
 · subst hid; simp [lk]
 · simp [lk,hid,nbeq hid]
theorem box_putB' {τ : Sg} {id : Nat} {x y : Bx} (h : τ.box id = some y) (i : Nat) : (τ.putB id x).box i = match lk [(id,x)] i with | some z=>some z | none=>τ.box i:=by
 rw [box_putB]
 by_cases hi : i = id
 · subst hi; simp [lk,h]
 · simp [lk,hi,nbeq (show ¬ id = i from fun e=>hi e.symm)]
theorem SpE.st {efs : Efs} {i t p id off : Nat} {d : D} {path : List Nat} {x : Operand} {d0 d1 d' dx : D} {ty n rt : TypeId} {gg : Bool} {pos : String} {aft : Array Edge} [LdT P ty n gg]
 (hp : facts an ks σ.env its i p = some (.ptr id off path)) (hb : bxk an i id efs (lk σ.bx id) = some (.var d0)) (hl : d0.loc path = some (off,d1))
 (hx : ∀ τ : Sg,(∀ u x,facts an ks σ.env its i u = some x -> τ.get u = some x) -> ev C.gl τ x = some dx) (hpu : dx.pur = true) (hnp : dx.np = true)
 (hn : dx.sz = n) (hz : d1.sz = n) (hu : d0.upd path dx = some d') :
 SpE P C σ efs i [(id,.var d')] an ks its ⟨none,.store ty (.tmp p) x,rt,pos,aft,none⟩ t d:=by
 intro τ hn' hbk hfr hfa
 have hbx:=hbk _ _ hb
 refine ⟨τ.putB id (.var d'),R.st (hfa _ _ hp) hbx hl (hx τ hfa) hpu hnp hn (hn.trans hz.symm) hu,rfl,box_putB' hbx,fun u y _ hy ha=>?_⟩
 rw [get_putB,hy,Option.map_some,scrubB_alb ha]
end
end Go.Sx

namespace Go.Sx
variable {P : Program} {C : Ctx} {σ σ' σ1 : Sg} {a : Act} {w w' : World} {ρ : Nat -> Nat} {Fe Fe' Fb : Nat -> List Nat}
end Go.Sx

namespace Go.Sx
variable {P : Program} {C : Ctx} {σ σ' σ1 : Sg} {a : Act} {w w' : World} {ρ : Nat -> Nat} {Fe Fe' Fb : Nat -> List Nat}
def killL (σ : Sg) : List Nat -> Sg
 | []=>σ
 | s :: r=>killL (σ.kill s) r
theorem killL_n : ∀ (S : List Nat) (σ : Sg),(killL σ S).n = σ.n /\ (killL σ S).bx = σ.bx:=by
 intro S
 induction S with
 | nil=>intro σ; exact ⟨rfl,rfl⟩
 | cons s r ih=>intro σ; exact ih (σ.kill s)
theorem killL_get : ∀ (S : List Nat) (σ : Sg) (u : Nat),(killL σ S).get u = if u ∈ S then some .dead else σ.get u:=by
 intro S
 induction S with
 | nil=>intro σ u; simp [killL]
 | cons s r ih=>
  intro σ u
  simp only [killL]
  rw [ih,get_kill]
  by_cases h1 : u ∈ r
  · simp [h1]
  · by_cases h2 : u = s
    · simp [h2]
    · simp [h1,h2]
theorem StW.takeL {S : List Nat} {t : Nat} {d : D} {v : Value} {F : List Nat} (h : StW C σ a w ρ Fe Fb) (ht : t < σ.n) (hst : t ∉ S) (hS : ∀ s ∈ S,∃ d0,σ.get s = some d0)
 (hF : F.Nodup) (hFs : ∀ b ∈ F,∃ s ∈ S,b ∈ Fe s)
 (hv : SR w ρ (gd C (upd (fun u=>if u ∈ S then [] else Fe u) t F) Fb) (fun id=>(σ.box id).isSome) (a.put (some t) v) t d F) :
 StW C ((killL σ S).set t d) (a.put (some t) v) w ρ (upd (fun u=>if u ∈ S then [] else Fe u) t F) Fb:=by
 have hsz : t < a.tmps.size:=by rw [h.size]; exact ht
 let Fx : Nat -> List Nat:=upd (fun u=>if u ∈ S then [] else Fe u) t F
 have hFx : ∀ u,u ≠ t -> ∀ b ∈ Fx u,b ∈ Fe u /\ u ∉ S:=fun u hut b hb=>by
  simp only [Fx,upd_other hut] at hb
  by_cases hus : u ∈ S
  · simp [hus] at hb
  · simp only [hus,if_false] at hb; exact ⟨hb,hus⟩
 have hFt : Fx t = F:=by simp [Fx]
 have ho : ∀ b,own Fx Fb b -> own Fe Fb b:=by
  rintro b (⟨u,hu⟩ | hid)
  · by_cases hut : u = t
    · subst hut; rw [hFt] at hu
      obtain ⟨s,_,hs⟩:=hFs b hu
      exact .inl ⟨s,hs⟩
    · exact .inl ⟨u,(hFx u hut b hu).1⟩
  · exact .inr hid
 have hg : ∀ b,gd C Fe Fb b -> gd C Fx Fb b:=fun b hb=>⟨hb.1,fun hc=>hb.2 (ho b hc)⟩
 obtain ⟨hn,hbx⟩:=killL_n S σ
 have hbox : ∀ id,((killL σ S).set t d).box id = σ.box id:=fun id=>by
  show lk (killL σ S).bx id = _
  rw [hbx]; rfl
 have hLf : (fun id=>(((killL σ S).set t d).box id).isSome = true) = fun id=>(σ.box id).isSome = true:=by funext id; rw [hbox]
 have hnotF : ∀ u,u ≠ t -> ∀ b ∈ Fx u,b ∉ F:=fun u hut b hb hbF=>by
  obtain ⟨h1,h2⟩:=hFx u hut b hb
  obtain ⟨s,hs,h3⟩:=hFs b hbF
  exact h.dEE u s (fun e=>h2 (e ▸ hs)) b h1 h3
 refine {
  size:=?_
  defs:=h.defs
  pin:=fun id b hp=>by rw [hbox]; exact h.pin id b hp
  env:=fun u x hx=>?_
  envN:=fun u hu=>?_
  bx:=fun id x hx=>by rw [hLf]; exact (h.bx id x (by rw [<- hbox]; exact hx)).mono (fun _ _ _=>rfl) (fun b hb _=>hg b hb) (fun i hi=>⟨hi,rfl⟩)
  bxN:=fun id hx=>h.bxN id (by rw [<- hbox]; exact hx)
  nodE:=fun u=>?_
  nodB:=h.nodB
  dEE:=fun u u' huu b hb hb'=>?_
  dEB:=fun u id b hb hb'=>?_
  dBB:=h.dBB
  new:=fun b hb=>h.new b (ho b hb)
  kept:=h.kept
  os:=h.os
  tape:=⟨h.tape.tp,h.tape.dr⟩
  output:=h.output
  grown:=h.grown
  gl:=h.gl
  okN:=h.okN
  okO:=fun b hb=>h.okO b (ho b hb) }
 · simp [Act.put,h.size,hn]
 · rw [hLf]
   rw [get_set] at hx
   by_cases hut : u = t
   · subst hut; simp at hx; subst hx
     simp only [upd_same]; exact hv
   · simp only [hut,if_false] at hx
     obtain ⟨d1,hd1,rfl⟩:=Option.map_eq_some_iff.1 hx
     rw [killL_get] at hd1
     by_cases hus : u ∈ S
     · simp only [hus,if_true,Option.some.injEq] at hd1
       subst hd1
       obtain ⟨d0,hd0⟩:=hS u hus
       obtain ⟨v0,hv0⟩:=(h.env u d0 hd0).there
       refine ⟨by simp [upd_other hut,hus],v0,by rw [put_get a t v u hsz]; simp [hut,hv0]⟩
     · simp only [hus,if_false] at hd1
       have hFu : upd (fun u=>if u ∈ S then [] else Fe u) t F u = Fe u:=by simp [upd_other hut,hus]
       rw [hFu]
       exact SR_other hut hsz (h.env u d1 hd1) (fun _ _ _=>rfl) (fun b hb _=>hg b hb) (fun id hid=>⟨hid,rfl⟩) (fun _ _ _ _ h=>h)
 · rw [get_set] at hu
   by_cases hut : u = t
   · simp [hut] at hu
   · simp only [hut,if_false,Option.map_eq_none_iff] at hu
     rw [killL_get] at hu
     by_cases hus : u ∈ S
     · simp [hus] at hu
     · simp only [hus,if_false] at hu
       simp [upd_other hut,hus,h.envN u hu]
 · by_cases hut : u = t
   · subst hut; simpa using hF
   · simp only [upd_other hut]
     split
     · exact List.nodup_nil
     · exact h.nodE u
 · by_cases hut : u = t
   · subst hut
     have hb1 : b ∈ F:=by rw [<- hFt]; exact hb
     exact hnotF u' (fun e=>huu e.symm) b hb' hb1
   · by_cases hut' : u' = t
     · subst hut'
       have hb1 : b ∈ F:=by rw [<- hFt]; exact hb'
       exact hnotF u hut b hb hb1
     · exact h.dEE u u' huu b (hFx u hut b hb).1 (hFx u' hut' b hb').1
 · by_cases hut : u = t
   · subst hut
     have hb1 : b ∈ F:=by rw [<- hFt]; exact hb
     obtain ⟨s,_,hs⟩:=hFs b hb1
     exact h.dEB s id b hs hb'
   · exact h.dEB u id b (hFx u hut b hb).1 hb'
inductive EvO (gl : List (Nat × D)) (σ : Sg) (l0 : List D) : List (Nat × Operand) -> List D -> List D -> List Nat -> Prop
 | nil {l l' : List D} (h : l = l') : EvO gl σ l0 [] l l' []
 | pur {i : Nat} {x : Operand} {d : D} {ps : List (Nat × Operand)} {l l' : List D} {S : List Nat} (h : ev gl σ x = some d) (hp : d.pur = true) (hn : d.np = true) (hz : (l0[i]?).map D.sz = some d.sz) (t : EvO gl σ l0 ps (l.set i d) l' S) : EvO gl σ l0 ((i,x) :: ps) l l' S
 | own {i s : Nat} {d : D} {ps : List (Nat × Operand)} {l l' : List D} {S : List Nat} (h : σ.get s = some d) (hr : d.isRef = false) (hn : d.np = true) (hz : (l0[i]?).map D.sz = some d.sz) (hs : S.contains s = false) (t : EvO gl σ l0 ps (l.set i d) l' S) : EvO gl σ l0 ((i,.tmp s) :: ps) l l' (s :: S)
theorem set_sz {l l0 : List D} {i : Nat} {d : D} (hz : l.map D.sz = l0.map D.sz) (h : (l0[i]?).map D.sz = some d.sz) : (l.set i d).map D.sz = l0.map D.sz:=by
 rw [List.map_set,<- hz]
 have h2 : (l.map D.sz)[i]? = some d.sz:=by rw [hz,List.getElem?_map]; exact h
 apply List.ext_getElem?
 intro j
 rw [List.getElem?_set]
 split
 · rename_i hij
   subst hij
   rw [h2]
   have:=(List.getElem?_eq_some_iff.1 h2).1
   simp only [this,if_true]
 · rfl
theorem fill_one {G L : Nat -> Prop} {l l0 : List D} {i : Nat} {d : D} {xc : List Value} {Fx F : List Nat} {cs : Array Value} {v : Value} (hxc : v.cells.toList = xc) (hrc : Rc w ρ G L false d xc Fx) (hz : l.map D.sz = l0.map D.sz) (p3 : (l0[i]?).map D.sz = some d.sz)
 (hr : Rc w ρ G L false (.agg l) cs.toList F) (hF : F.Nodup) (hFx : Fx.Nodup) (hdis : ∀ b ∈ Fx,b ∉ F) :
 ∃ out F',(offl l0 0).toArray[i]? = some (offk l i,d.sz) /\ v.cells.size = d.sz /\ ¬ (cs.size < offk l i + d.sz) /\ v.cells.zipIdx.foldl (fun (c : Array Value) (p : Value × Nat)=>c.setIfInBounds (offk l i + p.2) p.1) cs = out /\
  Rc w ρ G L false (.agg (l.set i d)) out.toList F' /\ F'.Nodup /\ ∀ b ∈ F',b ∈ F ∨ b ∈ Fx:=by
 have hlen:=hrc.len
 cases hl0 : l0[i]? with
 | none=>rw [hl0] at p3; cases p3
 | some d0=>
  obtain ⟨hi,rfl⟩:=List.getElem?_eq_some_iff.1 hl0
  rw [hl0] at p3
  simp only [Option.map_some,Option.some.injEq] at p3
  have hll : l.length = l0.length:=by have:=congrArg List.length hz; simpa using this
  have hi2 : i < l.length:=by omega
  have hsi : l[i].sz = d.sz:=by
   have : (l.map D.sz)[i]'(by simpa using hi2) = (l0.map D.sz)[i]'(by simpa using hi):=by simp only [hz]
   simp at this
   omega
  have hoff : offk l i = offk l0 i:=by
   have hs : ∀ (u v : List D),u.map D.sz = v.map D.sz -> D.szs u = D.szs v:=by
    intro u
    induction u with
    | nil=>intro v hv; cases v <;> simp_all
    | cons a u ihu=>intro v hv; cases v with
     | nil=>simp at hv
     | cons b v=>simp at hv; simp [hv.1,ihu v hv.2]
   unfold offk
   exact hs _ _ (by rw [List.map_take,List.map_take,hz])
  have hlo:=offk_lt l i hi2
  have hcl:=hr.len
  simp only [sz_agg,Array.length_toList] at hcl
  have hloc : (D.agg l).loc [i] = some (offk l i,l[i]):=by simp [D.loc,List.getElem?_eq_getElem hi2]
  have hupd : (D.agg l).upd [i] d = some (.agg (l.set i d)):=by simp [D.upd,List.getElem?_eq_getElem hi2]
  have hnoa : (D.agg l).noArr [i] = true:=by simp [D.noArr,List.getElem?_eq_getElem hi2]
  obtain ⟨F2,g1,g2,g3,_⟩:=hr.upd hloc hupd hsi.symm hrc hF hFx hdis (.inr hnoa)
  have hfold:=foldl_set cs xc (offk l i) 0 (by omega)
  simp only [Nat.add_zero] at hfold
  have hcs2 : (v.cells.zipIdx.foldl (fun (c : Array Value) (p : Value × Nat)=>c.setIfInBounds (offk l i + p.2) p.1) cs).toList = cs.toList.take (offk l i) ++ xc ++ cs.toList.drop (offk l i + xc.length):=by
   rw [<- hfold,<- hxc,<- Array.foldl_toList]
   simp
  rw [<- hcs2] at g1
  refine ⟨_,F2, ?_, ?_,by omega,rfl,g1,g3,g2⟩
  · rw [List.getElem?_toArray,offl_get l0 0 i hi,hoff,Nat.zero_add,<- p3]
  · rw [<- Array.length_toList,hxc,hlen]
theorem fill_structO (st : StW C σ a w ρ Fe Fb) {G : Nat -> Prop} {l0 : List D} (hG : ∀ b,gd C Fe Fb b -> G b) {ps : List (Nat × Operand)} {l l' : List D} {S : List Nat} (h : EvO C.gl σ l0 ps l l' S) :
 ∀ (cs : Array Value) (F : List Nat),l.map D.sz = l0.map D.sz -> Rc w ρ G (fun id=>(σ.box id).isSome = true) false (.agg l) cs.toList F -> F.Nodup -> (∀ s ∈ S,∀ b ∈ Fe s,b ∉ F) ->
  ∃ (out : Array Value) (F' : List Nat),Instr.fill ((offl l0 0).toArray[·]?) cs (ps.map (fun p=>(p.1,a.eval p.2))) = some out /\ Rc w ρ G (fun id=>(σ.box id).isSome = true) false (.agg l') out.toList F' /\ F'.Nodup /\ ∀ b ∈ F',b ∈ F ∨ ∃ s ∈ S,b ∈ Fe s:=by
 induction h with
 | nil h=>subst h; intro cs F _ hr hF _; exact ⟨cs,F,rfl,hr,hF,fun b hb=>.inl hb⟩
 | @pur i x d ps l l' S h hp hn hz t ih=>
  intro cs F hzz hr hF hS
  obtain ⟨xc,hxc,hrc⟩:=ev_cells st h hp
  have hrc2:=(hrc.unflag hn).mono (G':=G) (L':=fun id=>(σ.box id).isSome = true) (ρ':=ρ) (fun _ _ _=>rfl) (fun b hb _=>hG b hb) (fun i hi=>⟨hi,rfl⟩)
  obtain ⟨out,F',e1,e2,e3,e4,e5,e6,e7⟩:=fill_one hxc hrc2 hzz hz hr hF List.nodup_nil (by simp)
  have e7' : ∀ b ∈ F',b ∈ F:=fun b hb=>(e7 b hb).resolve_right (by simp)
  obtain ⟨out2,F2,f1,f2,f3,f4⟩:=ih out F' (set_sz hzz hz) e5 e6 (fun s hs b hb hb'=>hS s hs b hb (e7' b hb'))
  refine ⟨out2,F2, ?_,f2,f3,fun b hb=>(f4 b hb).imp (e7' b) id⟩
  simp only [List.map_cons,Instr.fill,e1,e2]
  rw [if_neg (by simp; omega),e4]
  exact f1
 | @own i s d ps l l' S h hr0 hn hz hs t ih=>
  intro cs F hzz hr hF hS
  obtain ⟨v,hv,hvr⟩:=(SR_plain hr0).1 (st.env _ _ h)
  have hdead : d ≠ .dead:=by rintro rfl; simp [D.isRef] at hr0
  have hrc:=hvr.cells hdead
  have hrc2:=(hrc.unflag hn).mono (G':=G) (L':=fun id=>(σ.box id).isSome = true) (ρ':=ρ) (fun _ _ _=>rfl) (fun b hb _=>hG b hb) (fun i hi=>⟨hi,rfl⟩)
  obtain ⟨out,F',e1,e2,e3,e4,e5,e6,e7⟩:=fill_one (v:=v) rfl hrc2 hzz hz hr hF (st.nodE s) (fun b hb=>hS s (by simp) b hb)
  have hs' : s ∉ S:=by intro hm; rw [List.contains_iff_mem.2 hm] at hs; cases hs
  obtain ⟨out2,F2,f1,f2,f3,f4⟩:=ih out F' (set_sz hzz hz) e5 e6 (fun s' hs1 b hb hb'=>by
   rcases e7 b hb' with h1 | h1
   · exact hS s' (List.mem_cons_of_mem _ hs1) b hb h1
   · exact st.dEE s' s (fun e=>hs' (e ▸ hs1)) b hb h1)
  refine ⟨out2,F2, ?_,f2,f3,fun b hb=>?_⟩
  · simp only [List.map_cons,Instr.fill,eval_tmp hv,e1,e2]
    rw [if_neg (by simp; omega),e4]
    exact f1
  · rcases f4 b hb with h1 | ⟨s',hs1,h1⟩
    · rcases e7 b h1 with h2 | h2
      · exact .inl h2
      · exact .inr ⟨s,by simp,h2⟩
    · exact .inr ⟨s',List.mem_cons_of_mem _ hs1,h1⟩
theorem EvO.there {gl : List (Nat × D)} {l0 : List D} {ps : List (Nat × Operand)} {l l' : List D} {S : List Nat} (h : EvO gl σ l0 ps l l' S) : ∀ s ∈ S,∃ d0,σ.get s = some d0:=by
 induction h with
 | nil=>intro s hs; cases hs
 | pur _ _ _ _ _ ih=>exact ih
 | own h _ _ _ _ _ ih=>
  intro s hs
  rcases List.mem_cons.1 hs with rfl | hs
  · exact ⟨_,h⟩
  · exact ih s hs
theorem R.bldO {t : Nat} {ps : List (Nat × Operand)} {l l' : List D} {S : List Nat} {ty rt : TypeId} {pos : String} {aft : Array Edge} {g : Option (Nat × Bool)} [hT : BsT P ty l]
 (hps : EvO C.gl σ l ps l l' S) (hS : S.contains t = false) (ht : t < σ.n) :
 OpS P C ⟨some t,.build ty ps.toArray,rt,pos,aft,g⟩ σ ((killL σ S).set t (.agg l')):=by
 refine OpS.value fun a w ⟨ρ,Fe,Fb,st⟩=>?_
 obtain ⟨fs,it,zv,h1,h2,h3,h4,h5⟩:=hT.i
 have htS : t ∉ S:=by intro hm; rw [List.contains_iff_mem.2 hm] at hS; cases hS
 obtain ⟨out,F,q1,q2,q3,q4⟩:=fill_structO st (G:=gd C Fe Fb) (fun _ h=>h) hps zv.cells [] rfl (chk_ok _ _ _ _ _ _ h5) List.nodup_nil (by simp)
 have q4' : ∀ b ∈ F,∃ s ∈ S,b ∈ Fe s:=fun b hb=>(q4 b hb).resolve_left (by simp)
 have hps2 : (ps.toArray.map fun x=>(x.1,a.eval x.2)).toList = ps.map (fun p=>(p.1,a.eval p.2)):=by simp
 refine ⟨.agg out,w, ?_,ρ,_,Fb,st.takeL ht htS hps.there q3 q4' ((SR_plain rfl).2 ⟨.agg out,by rw [put_get a t _ t (by rw [st.size]; exact ht)]; simp, ?_⟩)⟩
 · have:=run_build (P:=P) w ty (ps.toArray.map fun x=>(x.1,a.eval x.2)) out (by
    rw [hps2]
    simp only [Program.built,h1,h2,h3,h4]
    exact q1)
   unfold execOp
   simp only [Sem.run_bind,this,Result.andThen_ok,Sem.run_pure]
 · simp only [VR,D.isAgg,if_true]
   refine ⟨out,rfl,(q2.flag).mono (fun _ _ _=>rfl) (fun b hb _=>⟨hb.1,fun hc=>hb.2 ?_⟩) (fun i hi=>⟨hi,rfl⟩)⟩
   rcases hc with ⟨u,hu⟩ | hid
   · by_cases hut : u = t
     · subst hut
       rw [upd_same] at hu
       obtain ⟨s,_,hs⟩:=q4' b hu
       exact .inl ⟨s,hs⟩
     · rw [upd_other hut] at hu
       by_cases hus : u ∈ S
       · simp [hus] at hu
       · simp only [hus,if_false] at hu; exact .inl ⟨u,hu⟩
   · exact .inr hid
end Go.Sx

namespace Go.Sx
variable {P : Program} {C : Ctx} {σ σ' σ1 : Sg} {a : Act} {w w' : World} {ρ : Nat -> Nat} {Fe Fe' Fb : Nat -> List Nat}
inductive Wk : D -> D -> Prop
 | refl (d : D) : Wk d d
 | nils (o : Option Nat) (z : Nat) : Wk .nils (.sl o z [])
 | agg {l l' : List D} (hn : l.length = l'.length) (h : ∀ k (h : k < l.length) (h' : k < l'.length),Wk l[k] l'[k]) : Wk (.agg l) (.agg l')
 | sl {o : Option Nat} {z : Nat} {l l' : List D} (hn : l.length = l'.length) (h : ∀ k (h : k < l.length) (h' : k < l'.length),Wk l[k] l'[k]) : Wk (.sl o z l) (.sl o z l')
inductive WkL : List D -> List D -> Prop
 | nil : WkL [] []
 | cons {d d' : D} {l l' : List D} (h : Wk d d') (t : WkL l l') : WkL (d :: l) (d' :: l')
theorem WkL.len {l l' : List D} (h : WkL l l') : l.length = l'.length:=by
 induction h with
 | nil=>rfl
 | cons _ _ ih=>simp [ih]
theorem WkL.get {l l' : List D} (h : WkL l l') : ∀ k (h : k < l.length) (h' : k < l'.length),Wk l[k] l'[k]:=by
 induction h with
 | nil=>intro k h; simp at h
 | cons h _ ih=>
  intro k hk hk'
  cases k with
  | zero=>exact h
  | succ k=>exact ih k (by simpa using hk) (by simpa using hk')
theorem Wk.aggL {l l' : List D} (h : WkL l l') : Wk (.agg l) (.agg l'):=.agg h.len h.get
theorem Wk.slL {o : Option Nat} {z : Nat} {l l' : List D} (h : WkL l l') : Wk (.sl o z l) (.sl o z l'):=.sl h.len h.get
theorem Wk.slM {α : Type} {o : Option Nat} {z : Nat} {l : List α} {f g : α -> D} (h : ∀ x ∈ l,Wk (f x) (g x)) : Wk (.sl o z (l.map f)) (.sl o z (l.map g)):=
 .sl (by simp) (fun k h1 h2=>by simp only [List.getElem_map]; exact h _ (List.getElem_mem _))
theorem szs_eq {l l' : List D} (hn : l.length = l'.length) (h : ∀ k (h : k < l.length) (h' : k < l'.length),l'[k].sz = l[k].sz) : D.szs l' = D.szs l:=by
 induction l generalizing l' with
 | nil=>cases l' with
  | nil=>rfl
  | cons _ _=>simp at hn
 | cons x r ih=>cases l' with
  | nil=>simp at hn
  | cons x' r'=>
   have h0:=h 0 (by simp) (by simp)
   simp only [List.getElem_cons_zero] at h0
   simp only [szs_cons,h0]
   rw [ih (by simpa using hn) (fun k h1 h2=>h (k + 1) (by simpa using h1) (by simpa using h2))]
theorem offk_eq {l l' : List D} (hn : l.length = l'.length) (h : ∀ k (h : k < l.length) (h' : k < l'.length),l'[k].sz = l[k].sz) (k : Nat) : offk l' k = offk l k:=by
 unfold offk
 exact szs_eq (by simp [hn]) (fun j h1 h2=>by simp only [List.getElem_take]; exact h j (by simp at h1; omega) (by simp at h2; omega))
theorem Wk.sz {d d' : D} (h : Wk d d') : d'.sz = d.sz:=by
 induction h with
 | refl=>rfl
 | nils=>rfl
 | agg hn h ih=>simp only [sz_agg]; exact szs_eq hn ih
 | sl=>rfl
theorem Rc.wk {G L : Nat -> Prop} {d d' : D} (hw : Wk d d') : ∀ {p : Bool} {cs : List Value} {F : List Nat},Rc w ρ G L p d cs F -> Rc w ρ G L p d' cs F:=by
 induction hw with
 | refl=>intro p cs F h; exact h
 | nils o z=>intro p cs F h; cases h; exact .slN o z
 | @agg l l' hn h ih=>
  intro p cs F hr
  cases hr with
  | agg _ _ Fs hs hr=>
   have hz : ∀ k (h : k < l.length) (h' : k < l'.length),l'[k].sz = l[k].sz:=fun k h1 h2=>(h k h1 h2).sz
   rw [hn]
   refine .agg l' cs Fs (by rw [hs,szs_eq hn hz]) (fun k hk=>?_)
   rw [offk_eq hn hz,hz k (by omega) hk]
   exact ih k (by omega) hk (hr k (by omega))
 | @sl o z l l' hn h ih=>
  intro p cs F hr
  cases hr with
  | slN=>rw [List.length_eq_zero_iff.1 hn.symm]; exact .slN o z
  | slE _ _ a=>rw [List.length_eq_zero_iff.1 hn.symm]; exact .slE o z a
  | slI b off cs e fz cap _ _ hb hG hc hs hr=>
   rw [hn]
   exact .slI b off cs e fz cap z l' hb hG (by omega) (by rw [<- hn]; exact hs) (fun i hi=>ih i (by omega) hi (hr i (by omega)))
  | slO b cs e cap _ _ Fs hb hc hm hs ho1 hr=>
   rw [hn]
   exact .slO b cs e cap z l' Fs hb (by omega) hm hs ho1 (fun i hi=>ih i (by omega) hi (hr i (by omega)))
theorem W.wkB {c : Code} {Q : Exit -> Sg -> Prop} (id : Nat) {d d' : D} {bx' : List (Nat × Bx)} (hb : σ.box id = some (.var d)) (hw : Wk d d') (hbx : setb id (.var d') σ.bx = bx') (k : W P C c Q ⟨σ.n,σ.env,bx'⟩) : W P C c Q σ:=by
 subst hbx
 exact fun a w hs=>k a w (St.viewB hb (fun w ρ G L cs F h=>h.wk hw) hs)
theorem Wk.isAgg {d d' : D} (h : Wk d d') : d'.isAgg = d.isAgg:=by cases h <;> rfl
end Go.Sx

namespace Go.Sx
variable {P : Program} {C : Ctx} {σ σ' σ1 : Sg} {a : Act} {w w' : World} {ρ : Nat -> Nat} {Fe Fe' Fb : Nat -> List Nat}
theorem VR.wk {G L : Nat -> Prop} {d d' : D} {v : Value} {F : List Nat} (h : VR w ρ G L d v F) (hw : Wk d d') : VR w ρ G L d' v F:=by
 unfold VR at h ⊢
 rw [hw.isAgg]
 cases hag : d.isAgg with
 | true=>simp only [hag,if_true] at h ⊢; obtain ⟨cs,e,h⟩:=h; exact ⟨cs,e,h.wk hw⟩
 | false=>simp only [hag,if_false,Bool.false_eq_true] at h ⊢; exact h.wk hw
end Go.Sx

namespace Go.Sx
variable {pos : String} {aft : Array Edge} {g : Option (Nat × Bool)}
theorem O {α : Sort _} {a : α} : a = a:=rfl
theorem Zt : True:=trivial
theorem dU {p : Prop} (h : p:=by decide) : p:=h
theorem dT {p : Prop} [Decidable p] (h : p) : decide p = true:=decide_eq_true h
theorem dF {p : Prop} [Decidable p] (h : ¬ p) : decide p = false:=decide_eq_false h
abbrev Bc:=@Bors.cons
abbrev Bn:=@Bors.nil
abbrev Bp:=@Bor.pur
theorem lN {α β : Type} {l : List α} (f : α -> β) : (l.map f).length = l.length:=List.length_map f
theorem nU {m n : Nat} (h : Nat.ble m n = true) : m <= n:=Nat.le_of_ble_eq_true h
theorem bU {p : Prop} (h : p:=by first | omega | (simp only [List.length_map,List.length_append,List.length_cons,List.length_nil,List.length_take,List.length_drop,List.length_replicate]; omega) | (simp; omega)) : p:=h
theorem bV {x : Int} (h : 0 <= x:=by first | omega | (simp only [List.length_map,List.length_append,List.length_cons,List.length_nil,List.length_take,List.length_drop,List.length_replicate]; omega) | (simp; omega)) : 0 <= x:=h
theorem gU {σ : Sg} (n : Nat) {d : D} (h : σ.get n = some d) : σ.get n = some d:=h
theorem xU {σ : Sg} (n : Nat) {d : Bx} (h : σ.box n = some d) : σ.box n = some d:=h
theorem gV {gl : List (Nat × D)} {σ : Sg} (n : Nat) {d : D} (h : σ.get n = some d) : ev gl σ (.tmp n) = some d:=h
theorem eU {gl : List (Nat × D)} {τ : Sg} {f : Nat -> Option D} (K : ∀ u x,f u = some x -> τ.get u = some x) (n : Nat) {d : D} (h : f n = some d) : ev gl τ (.tmp n) = some d:=K n d h
theorem kI {gl : List (Nat × D)} {σ : Sg} (n : Nat) {i : Int} (h : ev gl σ (.const (.int .i64 i)) = some (.int ((n : Nat) : Int))) : ev gl σ (.const (.int .i64 i)) = some (.int ((n : Nat) : Int)):=h
theorem kB {gl : List (Nat × D)} {σ : Sg} (b : Bool) (h : ev gl σ (.const (.bool b)) = some (.bool b)) : ev gl σ (.const (.bool b)) = some (.bool b):=h
theorem kN {gl : List (Nat × D)} {σ : Sg} (h : ev gl σ (.const (.slice none 0 0)) = some .nils) : ev gl σ (.const (.slice none 0 0)) = some .nils:=h
@[reducible] def It.y (n : Nat) (d : D) : It:=⟨n,d,true⟩
@[reducible] def It.x (n : Nat) : It:=⟨n,.dead,false⟩
section
variable {P : Program} {C : Ctx} {σ : Sg} {ops : List Oper} {an : List Nat} {ks kk : List (Nat × Nat)} {its : List It}
abbrev EntP (P : Program) (C : Ctx) (σ : Sg) (an : List Nat) (ks kk : List (Nat × Nat)) (its : List It) (i : Nat) (o : Oper) (t : Nat) (d : D) : Prop:=
 ∀ τ : Sg,(∀ id x,lk σ.bx id = some x -> τ.box id = some x) -> t < τ.n -> (∀ u x,facts an ks σ.env its i u = some x -> τ.get u = some x) -> OpS P C o τ ((killS τ kk i).set t d)
abbrev Ent (P : Program) (C : Ctx) (σ : Sg) (ops : List Oper) (an : List Nat) (ks kk : List (Nat × Nat)) (its : List It) (i : Nat) (o : Oper) (t : Nat) (d : D) (wt : Bool) : Prop:=
 o.dst = some t /\ Wt ops (facts an ks σ.env its i) o wt /\ (wt = true -> ∀ τ : Sg,(∀ id x,lk σ.bx id = some x -> τ.box id = some x) -> t < τ.n -> (∀ u x,facts an ks σ.env its i u = some x -> τ.get u = some x) -> OpS P C o τ ((killS τ kk i).set t d))
def noK (kk : List (Nat × Nat)) (i : Nat) : Bool:=kk.all fun x=>!Nat.beq x.1 i
theorem killS_no {τ : Sg} {i : Nat} : ∀ {kk : List (Nat × Nat)},noK kk i = true -> killS τ kk i = τ:=by
 intro kk
 induction kk with
 | nil=>intro _; rfl
 | cons y r ih=>
  obtain ⟨k,s⟩:=y
  intro h
  simp only [noK,List.all_cons,Bool.and_eq_true,Bool.not_eq_true'] at h
  rw [killS,h.1]
  exact ih h.2
theorem aU {i t : Nat} {d : D} {op : Op} {ty : TypeId} {pos : String} {aft : Array Edge} (f : EntP P C σ an ks kk its i ⟨some t,op,ty,pos,aft,none⟩ t d) :
 Ent P C σ ops an ks kk its i ⟨some t,op,ty,pos,aft,none⟩ t d true:=⟨rfl,rfl,fun _=>f⟩
theorem aW {i t g : Nat} {d : D} {op : Op} {ty : TypeId} {pos : String} {aft : Array Edge} {want b : Bool} {tg : Nat} (h1 : (ops[g]?).bind (·.dst) = some tg)
 (h3 : facts an ks σ.env its i tg = some (.bool b)) (h4 : true = (b == want)) (f : EntP P C σ an ks kk its i ⟨some t,op,ty,pos,aft,some (g,want)⟩ t d) :
 Ent P C σ ops an ks kk its i ⟨some t,op,ty,pos,aft,some (g,want)⟩ t d true:=by
 obtain ⟨og,h1,h2⟩:=Option.bind_eq_some_iff.1 h1
 exact ⟨rfl,⟨og,tg,h1,h2,.inl ⟨b,h3,h4⟩⟩,fun _=>f⟩
theorem aF {i t g : Nat} {op : Op} {ty : TypeId} {pos : String} {aft : Array Edge} {want b : Bool} {tg : Nat} (h1 : (ops[g]?).bind (·.dst) = some tg)
 (h3 : facts an ks σ.env its i tg = some (.bool b)) (h4 : false = (b == want)) :
 Ent P C σ ops an ks kk its i ⟨some t,op,ty,pos,aft,some (g,want)⟩ t .dead false:=by
 obtain ⟨og,h1,h2⟩:=Option.bind_eq_some_iff.1 h1
 exact ⟨rfl,⟨og,tg,h1,h2,.inl ⟨b,h3,h4⟩⟩,fun h=>absurd h (by decide)⟩
theorem gT {b wt want : Bool} (h : b = true) (hw : wt = (true == want)) : wt = (b == want):=gw h hw
theorem gF {b wt want : Bool} (h : b = false) (hw : wt = (false == want)) : wt = (b == want):=gw h hw
theorem mU {i t : Nat} {d : D} {ty : TypeId} {pos : String} {aft : Array Edge} (s : Nat) (h : facts an ks σ.env its i s = some d) (hp : (d.pur && noK kk i) = true) :
 Ent P C σ ops an ks kk its i ⟨some t,.move (.tmp s),ty,pos,aft,none⟩ t d true:=by
 rw [Bool.and_eq_true] at hp
 exact ⟨rfl,rfl,fun _ τ _ H K=>by rw [killS_no hp.2]; exact R.mov (K s d h) hp.1 H⟩
theorem fU {i t id off off' : Nat} {path : List Nat} {s f : Nat} {rt : TypeId} [FdT P s f off'] (x : Nat)
 (h : facts an ks σ.env its i x = some (.ptr id off path)) (hk : noK kk i = true) : EntP P C σ an ks kk its i ⟨some t,.fieldAddr s (.tmp x) f,rt,pos,aft,g⟩ t (.ptr id (off + off') (path ++ [f])):=
 fun τ _ H K=>by rw [killS_no hk]; exact R.fdP (K _ _ h) H
theorem lU {i t id off : Nat} {path : List Nat} {d0 d : D} {ty n rt : TypeId} {gg : Bool} [LdT P ty n gg] (p : Nat)
 (h : facts an ks σ.env its i p = some (.ptr id off path)) (hb : lk σ.bx id = some (.var d0)) (hl : d0.loc path = some (off,d)) (hp : d.pur = true) (hn : d.sz = n) (hg : d.isAgg = gg) (hk : noK kk i = true) :
 EntP P C σ an ks kk its i ⟨some t,.load ty (.tmp p),rt,pos,aft,g⟩ t d:=
 fun τ B H K=>by rw [killS_no hk]; exact R.ldP (K _ _ h) (B _ _ hb) hl hp hn hg H
theorem tU {Q : Exit -> Sg -> Prop} (h : picks σ.get (σ.env.map (·.1)) = σ.env) (q : Q .normal σ) : TL P C Q [] σ:=⟨_,_,_,_,h,rfl,rfl,q⟩
theorem tV {Q : Exit -> Sg -> Prop} (e : List (Nat × D)) (b : List (Nat × Bx)) (n : Nat) (h : picks σ.get (e.map (·.1)) = e) (h1 : σ.bx = b) (h2 : σ.n = n) (q : Q .normal ⟨n,e,b⟩) : TL P C Q [] σ:=⟨_,_,_,_,h,h1,h2,q⟩
end
section
variable {P : Program} {C : Ctx} {σ : Sg} {ops : List Oper} {Q : Exit -> Sg -> Prop}
def okL (n : Nat) (m : Nat) (ks kk : List (Nat × Nat)) (its : List It) (env : List (Nat × D)) (l : Nat) : Bool:=
 Nat.ble l m && Nat.ble its.length l && okTs n (slots its) && okRef (upTo m 0) ks (slots its) its 0 && subs kk ks && okEnv (slots its) env
theorem W.l0 {id : Nat} (m : Nat) (its : List It) (ks kk : List (Nat × Nat)) (env' : List (Nat × D)) (bx' : List (Nat × Bx)) (n' : Nat)
 (H : AllOps P C σ ops (upTo m 0) ks kk its ops its 0) (h : okL σ.n m ks kk its σ.env ops.length = true) (hE : picks (afts (upTo m 0) (fun _=>true) ks σ.env its) (env'.map (·.1)) = env')
 (hb : σ.bx = bx') (hn' : σ.n = n') (hT : TL P C Q (ops.drop its.length) ⟨n',env',bx'⟩) : W P C (.region id ops.toArray false) Q σ:=by
 unfold okL at h
 simp only [Bool.and_eq_true] at h
 exact W.line (Nat.le_of_ble_eq_true h.1.1.1.1.1) ⟨Nat.le_of_ble_eq_true h.1.1.1.1.2,h.1.1.1.2,H,h.1.1.2,h.1.2,h.2⟩ hE hb hn' hT
end
end Go.Sx

namespace Go.Sx
def bytesD (b : List UInt8) : D:=.sl none 1 (b.map D.u8)
def hashD (b : List UInt8) : D:=.arr 32 1 (b.map D.u8)
def rotl (x : UInt32) (k : Int) : UInt32:=shl_u32 x (UInt64.ofInt k &&& 31).toNat ||| shr_u32 x (32 - (UInt64.ofInt k &&& 31)).toNat
def right (x : UInt32) (n : Int) : UInt32:=rotl x (wr (0 - n))
structure W8 where
 a : UInt32
 b : UInt32
 c : UInt32
 d : UInt32
 e : UInt32
 f : UInt32
 g : UInt32
 l : UInt32
def one (v : W8) (k w : UInt32) : UInt32:=v.l + (right v.e 6 ^^^ right v.e 11 ^^^ right v.e 25) + (v.g ^^^ (v.e &&& (v.f ^^^ v.g))) + k + w
structure ShaS where
 begun : Bool
 h : List UInt32
 piece : List UInt8
 n : UInt64
def ShaS.zero : ShaS:=⟨false,List.replicate 8 0,List.replicate 64 0,0⟩
end Go.Sx

namespace Go.Sx
variable {P : Program} {C : Ctx} {σ σ' σ1 : Sg} {a : Act} {w w' : World} {ρ : Nat -> Nat} {Fe Fe' Fb : Nat -> List Nat}
variable {κ α : Type} [DecidableEq κ]
section
variable {ops : List Oper} {an : List Nat} {ks kk : List (Nat × Nat)} {its : List It}
end
omit [DecidableEq κ] in
theorem renMp {m : Nat -> Nat} {kd : κ -> D} {f : α -> D} (h1 : ∀ a,(kd a).ren m = kd a) (h2 : ∀ u,(f u).ren m = f u) (M : List (κ × α)) (i : Nat) (r : List (Nat × Bx)) : renBx m ((i,mpK kd f M) :: r) = (m i,mpK kd f M) :: renBx m r:=by
 have e : (M.map fun e=>(kd e.1,f e.2)).map (fun kv=>(kv.1.ren m,kv.2.ren m)) = M.map fun e=>(kd e.1,f e.2):=by
  rw [List.map_map]
  exact List.map_congr_left fun e _=>by simp [h1,h2]
 simp only [renBx,mpK,Bx.ren,e]
end Go.Sx

namespace Go.Sx
variable {pos : String} {aft : Array Edge} {g : Option (Nat × Bool)}
variable {P : Program} {C : Ctx} {σ σ' σ1 : Sg} {a : Act} {w w' : World} {ρ : Nat -> Nat} {Fe Fe' Fb : Nat -> List Nat}
theorem run_callVC {f : FuncId} [h : CaT P f] {s : Nat} {t : Option Nat} {args : Array Operand} {vs : List Value} {tys : Array TypeId} {rt : TypeId} (a : Act) (w : World) (hs : a.tmps[s]? = some (.func (.func f) #[] vs.toArray)) :
 (execOp a.eval ⟨t,.call { callee:=.value (.tmp s),args:=args,argTypes:=tys },rt,pos,aft,g⟩).run P w = .ok (.enter f (args.map a.eval ++ vs.toArray)) w:=by
 obtain ⟨fn,h1,h2,h3⟩:=h.i
 unfold execOp
 simp [resolve,eval_tmp hs,Deferred.ofValue,invoke,run_callFunc h1 h2 h3]
theorem R.callVB {f : FuncId} [CaT P f] {s t : Nat} {args : List Operand} {tys : Array TypeId} {rt : TypeId} {gl : List (Nat × D)} {ds caps capsA : List D} {r r' : D} {bx bx' nw cx cx' nwc : List (Nat × Bx)}
 (ml : List (Nat × Nat)) (hC : C.gl = gl) (hs : σ.get s = some (.fn f capsA)) (hca : D.rens (mlk ml) caps = capsA) (hcp : D.okBs (bx.map Prod.fst) caps = true) (hF : FnB P gl f (ds ++ caps) bx r bx' nw) (ha : EvB C.gl σ (mlk ml) (bx.map Prod.fst) args ds)
 (hcx : renBx (mlk ml) bx = cx) (hlk : hasBx σ.bx cx) (hob : okBxP (bx.map Prod.fst) bx) (hcx' : renBx (mlk ml) bx' = cx') (hnw : renBx (mlk ml) nw = nwc) (hr : r.ren (mlk ml) = r')
 (hk : bx'.map Prod.fst = bx.map Prod.fst) (hfr : freshB σ.bx nwc = true) (hinj : injB (mlk ml) ((nw ++ bx').map Prod.fst) = true) (ht : t < σ.n) :
 OpS P C ⟨some t,.call { callee:=.value (.tmp s),args:=args.toArray,argTypes:=tys },rt,pos,aft,g⟩ σ ((⟨σ.n,scrubL (cx.map Prod.fst) σ.env,nwc ++ lendB cx' σ.bx⟩ : Sg).set t r'):=by
 subst hC; subst hcx; subst hcx'; subst hnw; subst hr
 intro a w ⟨ρ,Fe,Fb,st⟩ K Q hK
 obtain ⟨hhand,hback⟩:=st.callB (m:=mlk ml) hlk hob hk hfr hinj
 have hmem : ∀ i,memB (bx.map Prod.fst) i = true -> (lk bx i).isSome = true:=fun i hi=>by
  rw [lk_key]
  simp only [memB,List.any_eq_true] at hi
  obtain ⟨j,hj,he⟩:=hi
  rw [Nat.eq_of_beq_eq_true he]; exact hj
 obtain ⟨vs,hvs,hvl,hva,hvr⟩ : ∃ vs : List Value,a.tmps[s]? = some (.func (.func f) #[] vs.toArray) /\ vs.length = caps.length /\ (∀ k (h : k < caps.length),caps[k].isAgg = false) /\
  ∀ k (h : k < caps.length),Rc w (fun i=>ρ (mlk ml i)) (gd C Fe Fb) (fun i=>(lk bx i).isSome = true) true caps[k] [vs.getD k undef] []:=by
  obtain ⟨vg,hvg,hrg⟩:=(SR_plain rfl).1 (st.env s _ hs)
  simp only [VR,D.isAgg,Bool.false_eq_true,if_false] at hrg
  rw [rens_eq] at hca
  subst hca
  generalize Fe s = Fg at hrg
  cases hrg with
  | fn _ _ vs hl ha hr=>
   refine ⟨vs,hvg,by simpa using hl,fun k hk=>?_,fun k hk=>?_⟩
   · have:=ha k (by simpa using hk); rw [List.getElem_map,isAgg_ren] at this; exact this
   · have h1:=hr k (by simpa using hk)
     rw [List.getElem_map] at h1
     have h2 : Rc w (fun i=>ρ (mlk ml i)) (gd C Fe Fb) (fun i=>(σ.box (mlk ml i)).isSome = true) true caps[k] [vs.getD k undef] []:=h1.unren rfl (fun i hi=>⟨hi,rfl⟩)
     exact (h2.okB (okBs_get caps hcp k hk)).mono (fun _ _ _=>rfl) (fun _ h _=>h) (fun i hi=>⟨hmem i hi.1,rfl⟩)
 refine wpIn_of_run (run_callVC a w hvs) (by simp) ?_
 rw [Oper.uponIn_enter]
 have hlen : (args.map a.eval).length = ds.length:=by simp [ha.len]
 have hc:=hF w (fun b=>gd C Fe Fb b /\ b < w.heap.size) (fun i=>ρ (mlk ml i)) (fun i=>if (lk bx i).isSome then Fb (mlk ml i) else []) (args.map a.eval ++ vs)
  (fun g d hg=>by obtain ⟨h1,h2⟩:=gl_ok st g d hg; obtain ⟨cs,e,fz,h3,h4⟩:=h2; exact ⟨⟨h1,(Array.getElem?_eq_some_iff.1 h3).1⟩,cs,e,fz,h3,h4⟩) (fun b hb=>hb.2) (by simp [ha.len,hvl])
  (fun k hk=>by
   by_cases hkd : k < ds.length
   · have h1:=(ha.ok st k hkd).mono (fun _ _ _=>rfl) (fun b (hb : gd C Fe Fb b) hl=>(⟨hb,hl⟩ : gd C Fe Fb b /\ b < w.heap.size)) (fun i hi=>⟨hmem i hi.1,rfl⟩)
     have e1 : (ds ++ caps)[k] = ds[k]:=List.getElem_append_left hkd
     have e2 : (args.map a.eval ++ vs).getD k undef = (args.map a.eval).getD k undef:=by
      simp only [List.getD_eq_getElem?_getD]
      rw [List.getElem?_append_left (by rw [hlen]; exact hkd)]
     rw [e1,e2]
     exact h1
   · have hk' : k - ds.length < caps.length:=by simp only [List.length_append] at hk; omega
     have e1 : (ds ++ caps)[k] = caps[k - ds.length]:=List.getElem_append_right (by omega)
     have e2 : (args.map a.eval ++ vs).getD k undef = vs.getD (k - ds.length) undef:=by
      simp only [List.getD_eq_getElem?_getD]
      rw [List.getElem?_append_right (by rw [hlen]; omega),hlen]
     rw [e1,e2]
     simp only [VR,hva _ hk',Bool.false_eq_true,if_false]
     exact (hvr _ hk').mono (fun _ _ _=>rfl) (fun b hb hl=>⟨hb,hl⟩) (fun i hi=>⟨hi,rfl⟩))
  ⟨fun id x hx=>(hhand.box id x hx).mono (fun _ _ _=>rfl) (fun b hb hl=>⟨hb,hl⟩) (fun i hi=>⟨hi,rfl⟩),hhand.boxN,hhand.nodB,hhand.dBB,fun id b hb hc=>hhand.out id b hb hc.1⟩
 simp only [List.map_toArray,List.append_toArray]
 refine ⟨(fun h=>by cases h),(callsIn_fx (Calls.mono hc ?_))⟩
 rintro e w' ⟨v,F,ρ',Fb',rfl,hext,hρ',hnd,hsrc,hFB,hFl,hand,hrv⟩
 have hGG : ∀ b,(((gd C Fe Fb b /\ b < w.heap.size) ∨ w.heap.size <= b ∨ ∃ id,b ∈ (if (lk bx id).isSome then Fb (mlk ml id) else [])) /\ b ∉ F /\ ¬ ∃ id,b ∈ Fb' id) ->
  ((gd C Fe Fb b ∨ w.heap.size <= b ∨ ∃ id,b ∈ (if (lk bx id).isSome then Fb (mlk ml id) else [])) /\ b ∉ F /\ ¬ ∃ id,b ∈ Fb' id):=fun b hb=>⟨hb.1.imp (fun h=>h.1) (fun h=>h),hb.2⟩
 obtain ⟨ρ2,Fb2,st2,hrv2,hdE,hdB,hkp,hok⟩:=hback w' F ρ' Fb' hext hρ' hnd hsrc hFB hFl
  ⟨fun id x hx=>(hand.box id x hx).mono (fun _ _ _=>rfl) (fun b hb _=>hGG b hb) (fun i hi=>⟨hi,rfl⟩),hand.boxN,hand.nodB,hand.dBB,fun id b hb hc=>hc.2.2 ⟨id,hb⟩⟩
 have hrv3:=hrv2 r v (hrv.mono (fun _ _ _=>rfl) (fun b hb _=>hGG b hb) (fun i hi=>⟨hi,rfl⟩))
 have hput : (a.put (some t) v).tmps[t]? = some v:=by rw [put_get a t v t (by rw [st.size]; exact ht)]; simp
 refine hK _ _ ⟨ρ2,upd Fe t F,Fb2,st2.adopt ht hnd hdE hdB hkp hok (RV.slot (hrv3.mono (fun _ _ _=>rfl) (fun b hb _=>⟨hb.1.1, ?_⟩) (fun i hi=>⟨hi,rfl⟩)) hput)⟩
 rintro (⟨u,hu⟩ | ho)
 · by_cases hut : u = t
   · subst hut; simp at hu; exact hb.2 hu
   · rw [upd_other hut] at hu; exact hb.1.2 (.inl ⟨u,hu⟩)
 · exact hb.1.2 (.inr ho)
end Go.Sx

namespace Go.Sx
variable {P : Program} {C : Ctx} {σ σ' σ1 σ2 : Sg} {a : Act} {w w' : World} {ρ ρ2 : Nat -> Nat} {Fe Fe' Fb Fb2 : Nat -> List Nat}
end Go.Sx

namespace Go.Sx
variable {P : Program} {C : Ctx} {σ σ' : Sg} {a : Act} {w w' : World} {ρ : Nat -> Nat} {Fe Fb : Nat -> List Nat}
theorem Fn.wkA {gl : List (Nat × D)} {f : FuncId} {ds ds' : List D} {r : D} (hw : WkL ds ds') (hF : Fn P gl f ds' r) : Fn P gl f ds r:=by
 intro w G vs h1 h2 h3
 have hl:=hw.len
 refine hF w G vs h1 (by omega) (fun k hk=>?_)
 have hk' : k < ds.length:=by omega
 exact (h3 k hk').wk (hw.get k hk' hk)
end Go.Sx

namespace Go.Sx
variable {P : Program} {C : Ctx} {σ σ' σ1 : Sg} {a : Act} {w w' : World} {ρ : Nat -> Nat} {Fe Fe' Fb : Nat -> List Nat}
end Go.Sx

namespace Go.Sx
variable {P : Program} {C : Ctx} {σ σ' σ1 : Sg} {a : Act} {w w' : World} {ρ : Nat -> Nat} {Fe Fe' Fb : Nat -> List Nat}
theorem StW.takeX {S : List Nat} {t : Nat} {d : D} {v : Value} {F : List Nat} (h : StW C σ a w ρ Fe Fb) (ht : t < σ.n) (hst : t ∉ S) (hS : ∀ s ∈ S,∃ d0,σ.get s = some d0)
 (hw : Ext w w') (hF : F.Nodup) (hFs : ∀ b ∈ F,(∃ s ∈ S,b ∈ Fe s) ∨ w.heap.size <= b)
 (hv : SR w' ρ (gd C (upd (fun u=>if u ∈ S then [] else Fe u) t F) Fb) (fun id=>(σ.box id).isSome) (a.put (some t) v) t d F) :
 StW C ((killL σ S).set t d) (a.put (some t) v) w' ρ (upd (fun u=>if u ∈ S then [] else Fe u) t F) Fb:=by
 have hsz : t < a.tmps.size:=by rw [h.size]; exact ht
 let Fx : Nat -> List Nat:=upd (fun u=>if u ∈ S then [] else Fe u) t F
 have hFx : ∀ u,u ≠ t -> ∀ b ∈ Fx u,b ∈ Fe u /\ u ∉ S:=fun u hut b hb=>by
  simp only [Fx,upd_other hut] at hb
  by_cases hus : u ∈ S
  · simp [hus] at hb
  · simp only [hus,if_false] at hb; exact ⟨hb,hus⟩
 have hFt : Fx t = F:=by simp [Fx]
 have hlt:=h.lt
 have hh : ∀ b,b < w.heap.size -> w'.heap[b]? = w.heap[b]?:=hw.block
 have ho : ∀ b,own Fx Fb b -> own Fe Fb b ∨ w.heap.size <= b:=by
  rintro b (⟨u,hu⟩ | hid)
  · by_cases hut : u = t
    · subst hut; rw [hFt] at hu
      rcases hFs b hu with ⟨s,_,hs⟩ | hn
      · exact .inl (.inl ⟨s,hs⟩)
      · exact .inr hn
    · exact .inl (.inl ⟨u,(hFx u hut b hu).1⟩)
  · exact .inl (.inr hid)
 have hg : ∀ b,gd C Fe Fb b -> b < w.heap.size -> gd C Fx Fb b:=fun b hb hbl=>⟨hb.1,fun hc=>(ho b hc).elim hb.2 (fun h2=>by omega)⟩
 obtain ⟨hn,hbx⟩:=killL_n S σ
 have hbox : ∀ id,((killL σ S).set t d).box id = σ.box id:=fun id=>by
  show lk (killL σ S).bx id = _
  rw [hbx]; rfl
 have hLf : (fun id=>(((killL σ S).set t d).box id).isSome = true) = fun id=>(σ.box id).isSome = true:=by funext id; rw [hbox]
 have hnotF : ∀ u,u ≠ t -> ∀ b ∈ Fx u,b ∉ F:=fun u hut b hb hbF=>by
  obtain ⟨h1,h2⟩:=hFx u hut b hb
  rcases hFs b hbF with ⟨s,hs,h3⟩ | hn
  · exact h.dEE u s (fun e=>h2 (e ▸ hs)) b h1 h3
  · have:=hlt b (.inl ⟨u,h1⟩); omega
 refine {
  size:=?_
  defs:=h.defs
  pin:=fun id b hp=>by rw [hbox]; exact h.pin id b hp
  env:=fun u x hx=>?_
  envN:=fun u hu=>?_
  bx:=fun id x hx=>by rw [hLf]; exact (h.bx id x (by rw [<- hbox]; exact hx)).mono (fun b _ hb=>hh b hb) hg (fun i hi=>⟨hi,rfl⟩)
  bxN:=fun id hx=>h.bxN id (by rw [<- hbox]; exact hx)
  nodE:=fun u=>?_
  nodB:=h.nodB
  dEE:=fun u u' huu b hb hb'=>?_
  dEB:=fun u id b hb hb'=>?_
  dBB:=h.dBB
  new:=fun b hb=>?_
  kept:=fun b hb=>?_
  os:=hw.os.trans h.os
  tape:=hw.tape.trans h.tape
  output:=hw.output.trans h.output
  grown:=Nat.le_trans h.grown hw.size
  gl:=h.gl
  okN:=fun b hb=>h.okN b (Nat.le_trans hw.size hb)
  okO:=fun b hb=>(ho b hb).elim (h.okO b) (h.okN b) }
 · simp [Act.put,h.size,hn]
 · rw [hLf]
   rw [get_set] at hx
   by_cases hut : u = t
   · subst hut; simp at hx; subst hx
     simp only [upd_same]; exact hv
   · simp only [hut,if_false] at hx
     obtain ⟨d1,hd1,rfl⟩:=Option.map_eq_some_iff.1 hx
     rw [killL_get] at hd1
     by_cases hus : u ∈ S
     · simp only [hus,if_true,Option.some.injEq] at hd1
       subst hd1
       obtain ⟨d0,hd0⟩:=hS u hus
       obtain ⟨v0,hv0⟩:=(h.env u d0 hd0).there
       refine ⟨by simp [upd_other hut,hus],v0,by rw [put_get a t v u hsz]; simp [hut,hv0]⟩
     · simp only [hus,if_false] at hd1
       have hFu : upd (fun u=>if u ∈ S then [] else Fe u) t F u = Fe u:=by simp [upd_other hut,hus]
       rw [hFu]
       exact SR_other hut hsz (h.env u d1 hd1) (fun b _ hb=>hh b hb) hg (fun id hid=>⟨hid,rfl⟩) (fun id off v _ hc=>hw.cell hc)
 · rw [get_set] at hu
   by_cases hut : u = t
   · simp [hut] at hu
   · simp only [hut,if_false,Option.map_eq_none_iff] at hu
     rw [killL_get] at hu
     by_cases hus : u ∈ S
     · simp [hus] at hu
     · simp only [hus,if_false] at hu
       simp [upd_other hut,hus,h.envN u hu]
 · by_cases hut : u = t
   · subst hut; simpa using hF
   · simp only [upd_other hut]
     split
     · exact List.nodup_nil
     · exact h.nodE u
 · by_cases hut : u = t
   · subst hut
     have hb1 : b ∈ F:=by rw [<- hFt]; exact hb
     exact hnotF u' (fun e=>huu e.symm) b hb' hb1
   · by_cases hut' : u' = t
     · subst hut'
       have hb1 : b ∈ F:=by rw [<- hFt]; exact hb'
       exact hnotF u hut b hb hb1
     · exact h.dEE u u' huu b (hFx u hut b hb).1 (hFx u' hut' b hb').1
 · by_cases hut : u = t
   · subst hut
     have hb1 : b ∈ F:=by rw [<- hFt]; exact hb
     rcases hFs b hb1 with ⟨s,_,hs⟩ | hn
     · exact h.dEB s id b hs hb'
     · have:=hlt b (.inr ⟨id,hb'⟩); omega
   · exact h.dEB u id b (hFx u hut b hb).1 hb'
 · rcases ho b hb with h1 | h1
   · exact h.new b h1
   · intro hk
     have h2:=(h.kept b hk).2
     have h3:=h.grown
     omega
 · obtain ⟨h1,h2⟩:=h.kept b hb
   exact ⟨(hh b (Nat.lt_of_lt_of_le h2 h.grown)).trans h1,h2⟩
theorem fill_step {z i0 : Nat} {cs : Array Value} {v : Value} {xc : List Value} (hxc : v.cells.toList = xc) (hl : xc.length = z) (hk : i0 * z + z <= cs.size) :
 ∃ cs2 : Array Value,(∀ rest,Instr.fill (fun i=>some (i * z,z)) cs ((i0,v) :: rest) = Instr.fill (fun i=>some (i * z,z)) cs2 rest) /\ cs2.size = cs.size /\ (cs2.toList.drop (i0 * z)).take z = xc /\ cs2.toList.take (i0 * z) = cs.toList.take (i0 * z):=by
 have hsz : v.cells.size = z:=by rw [<- Array.length_toList,hxc,hl]
 have hfold:=foldl_set cs xc (i0 * z) 0 (by omega)
 simp only [Nat.add_zero] at hfold
 have hcs2 : (v.cells.zipIdx.foldl (fun (c : Array Value) (p : Value × Nat)=>c.setIfInBounds (i0 * z + p.2) p.1) cs).toList = cs.toList.take (i0 * z) ++ xc ++ cs.toList.drop (i0 * z + xc.length):=by
  rw [<- hfold,<- hxc,<- Array.foldl_toList]
  simp
 generalize hc2 : (v.cells.zipIdx.foldl (fun (c : Array Value) (p : Value × Nat)=>c.setIfInBounds (i0 * z + p.2) p.1) cs) = cs2 at hcs2
 refine ⟨cs2,fun rest=>?_, ?_, ?_, ?_⟩
 · simp only [Instr.fill]
   have hcond : ¬ (v.cells.size ≠ z ∨ i0 * z + v.cells.size > cs.size):=by rw [hsz]; simp; omega
   simp only [ne_eq,Bool.or_eq_true,decide_eq_true_eq]
   rw [if_neg (by simpa using hcond)]
   rw [hc2]
 · have:=congrArg List.length hcs2
   rw [splice_len _ _ _ (by simp; omega)] at this
   simpa using this
 · rw [hcs2,List.append_assoc,List.drop_left' (by simp; omega),List.take_append_of_le_length (by omega),List.take_of_length_le (by omega)]
 · rw [hcs2,List.append_assoc,List.take_left' (by simp; omega)]
inductive EvL (gl : List (Nat × D)) (σ : Sg) (z : Nat) : Nat -> List (Nat × Operand) -> List D -> List Nat -> Prop
 | nil {k : Nat} : EvL gl σ z k [] [] []
 | pur {k : Nat} {x : Operand} {d : D} {ps : List (Nat × Operand)} {ds : List D} {S : List Nat} (h : ev gl σ x = some d) (hp : d.pur = true) (hn : d.np = true) (hz : d.sz = z) (t : EvL gl σ z (k + 1) ps ds S) : EvL gl σ z k ((k,x) :: ps) (d :: ds) S
 | own {k s : Nat} {d : D} {ps : List (Nat × Operand)} {ds : List D} {S : List Nat} (h : σ.get s = some d) (hr : d.isRef = false) (hn : d.np = true) (hz : d.sz = z) (hs : S.contains s = false) (t : EvL gl σ z (k + 1) ps ds S) : EvL gl σ z k ((k,.tmp s) :: ps) (d :: ds) (s :: S)
theorem EvL.there {gl : List (Nat × D)} {z k : Nat} {ps : List (Nat × Operand)} {ds : List D} {S : List Nat} (h : EvL gl σ z k ps ds S) : ∀ s ∈ S,∃ d0,σ.get s = some d0:=by
 induction h with
 | nil=>intro s hs; cases hs
 | pur _ _ _ _ _ ih=>exact ih
 | own h _ _ _ _ _ ih=>
  intro s hs
  rcases List.mem_cons.1 hs with rfl | hs
  · exact ⟨_,h⟩
  · exact ih s hs
theorem EvL.fill (st : StW C σ a w ρ Fe Fb) {z k : Nat} {ps : List (Nat × Operand)} {ds : List D} {S : List Nat} (h : EvL C.gl σ z k ps ds S) :
 ∀ cs : Array Value,(k + ds.length) * z <= cs.size ->
  ∃ (out : Array Value) (Fs : Nat -> List Nat),Instr.fill (fun i=>some (i * z,z)) cs (ps.map (fun p=>(p.1,a.eval p.2))) = some out /\ out.size = cs.size /\ out.toList.take (k * z) = cs.toList.take (k * z) /\
   (∀ i (h : i < ds.length),Rc w ρ (gd C Fe Fb) (fun id=>(σ.box id).isSome = true) false ds[i] ((out.toList.drop ((k + i) * z)).take z) (Fs i)) /\
   (∀ i,i < ds.length -> (Fs i).Nodup /\ ∀ b ∈ Fs i,∃ s ∈ S,b ∈ Fe s) /\ (∀ i j,i < ds.length -> j < ds.length -> i ≠ j -> ∀ b,b ∈ Fs i -> b ∉ Fs j):=by
 have step : ∀ {k : Nat} {x : Operand} {d : D} {ps : List (Nat × Operand)} {ds : List D} {S : List Nat} {xc : List Value} {Fx : List Nat},(a.eval x).cells.toList = xc -> Rc w ρ (gd C Fe Fb) (fun id=>(σ.box id).isSome = true) false d xc Fx -> d.sz = z -> Fx.Nodup -> ∀ (T : List Nat),(∀ b ∈ Fx,∃ s ∈ T,b ∈ Fe s) -> (∀ s ∈ S,s ∈ T) -> (∀ b ∈ Fx,∀ s ∈ S,b ∉ Fe s) ->
  (∀ cs : Array Value,(k + 1 + ds.length) * z <= cs.size -> ∃ (out : Array Value) (Fs : Nat -> List Nat),Instr.fill (fun i=>some (i * z,z)) cs (ps.map (fun p=>(p.1,a.eval p.2))) = some out /\ out.size = cs.size /\ out.toList.take ((k + 1) * z) = cs.toList.take ((k + 1) * z) /\
   (∀ i (h : i < ds.length),Rc w ρ (gd C Fe Fb) (fun id=>(σ.box id).isSome = true) false ds[i] ((out.toList.drop ((k + 1 + i) * z)).take z) (Fs i)) /\
   (∀ i,i < ds.length -> (Fs i).Nodup /\ ∀ b ∈ Fs i,∃ s ∈ S,b ∈ Fe s) /\ (∀ i j,i < ds.length -> j < ds.length -> i ≠ j -> ∀ b,b ∈ Fs i -> b ∉ Fs j)) ->
  ∀ cs : Array Value,(k + (d :: ds).length) * z <= cs.size -> ∃ (out : Array Value) (Fs : Nat -> List Nat),Instr.fill (fun i=>some (i * z,z)) cs (((k,x) :: ps).map (fun p=>(p.1,a.eval p.2))) = some out /\ out.size = cs.size /\ out.toList.take (k * z) = cs.toList.take (k * z) /\
   (∀ i (h : i < (d :: ds).length),Rc w ρ (gd C Fe Fb) (fun id=>(σ.box id).isSome = true) false (d :: ds)[i] ((out.toList.drop ((k + i) * z)).take z) (Fs i)) /\
   (∀ i,i < (d :: ds).length -> (Fs i).Nodup /\ ∀ b ∈ Fs i,∃ s ∈ T,b ∈ Fe s) /\ (∀ i j,i < (d :: ds).length -> j < (d :: ds).length -> i ≠ j -> ∀ b,b ∈ Fs i -> b ∉ Fs j):=by
  intro k x d ps ds S xc Fx hxc hrc hz hnd T hFx hST hdis ih cs hs
  have hs1 : (k + 1 + ds.length) * z <= cs.size:=by
   rw [List.length_cons] at hs
   rw [show k + 1 + ds.length = k + (ds.length + 1) by omega]; exact hs
  have hkz : k * z + z <= cs.size:=by
   have:=Nat.le_trans (Nat.mul_le_mul_right z (show k + 1 <= k + 1 + ds.length by omega)) hs1
   rw [Nat.add_mul,Nat.one_mul] at this; exact this
  obtain ⟨cs2,e1,e2,e3,e4⟩:=fill_step (i0:=k) hxc (hrc.len.trans hz) hkz
  obtain ⟨out,Fs,q1,q2,q3,q4,q5,q6⟩:=ih cs2 (by rw [e2]; exact hs1)
  have hz1 : (k + 1) * z = k * z + z:=by rw [Nat.add_mul,Nat.one_mul]
  have hmid : (out.toList.drop (k * z)).take z = xc:=by
   have:=congrArg (List.drop (k * z)) q3
   rw [hz1,List.drop_take,List.drop_take,Nat.add_sub_cancel_left] at this
   rw [this]; exact e3
  have hpre : out.toList.take (k * z) = cs.toList.take (k * z):=by
   have:=congrArg (List.take (k * z)) q3
   rw [hz1,List.take_take,List.take_take,Nat.min_eq_left (by omega)] at this
   rw [this]; exact e4
  refine ⟨out,fun i=>match i with | 0=>Fx | i + 1=>Fs i, ?_,q2.trans e2,hpre, ?_, ?_, ?_⟩
  · rw [List.map_cons,e1]; exact q1
  · intro i hi
    cases i with
    | zero=>simp only [Nat.add_zero,List.getElem_cons_zero,hmid]; exact hrc
    | succ i=>
     simp only [List.getElem_cons_succ]
     have:=q4 i (by simpa using hi)
     rw [show k + 1 + i = k + (i + 1) by omega] at this
     exact this
  · intro i hi
    cases i with
    | zero=>exact ⟨hnd,hFx⟩
    | succ i=>
     obtain ⟨h1,h2⟩:=q5 i (by simpa using hi)
     exact ⟨h1,fun b hb=>by obtain ⟨s,hs,hb'⟩:=h2 b hb; exact ⟨s,hST s hs,hb'⟩⟩
  · intro i j hi hj hij b hb
    cases i with
    | zero=>cases j with
     | zero=>exact absurd rfl hij
     | succ j=>
      intro hb'
      obtain ⟨s,hs,h3⟩:=(q5 j (by simpa using hj)).2 b hb'
      exact hdis b hb s hs h3
    | succ i=>cases j with
     | zero=>
      intro hb'
      obtain ⟨s,hs,h3⟩:=(q5 i (by simpa using hi)).2 b hb
      exact hdis b hb' s hs h3
     | succ j=>exact q6 i j (by simpa using hi) (by simpa using hj) (by omega) b hb
 induction h with
 | nil=>intro cs _; exact ⟨cs,fun _=>[],rfl,rfl,rfl,fun i hi=>by simp at hi,fun i hi=>by simp at hi,fun i j hi=>by simp at hi⟩
 | @pur k x d ps ds S h hp hn hz t ih=>
  obtain ⟨xc,hxc,hrc⟩:=ev_cells st h hp
  exact step hxc (hrc.unflag hn) hz List.nodup_nil S (by simp) (fun s hs=>hs) (by simp) ih
 | @own k s d ps ds S h hr hn hz hs t ih=>
  obtain ⟨v,hv,hvr⟩:=(SR_plain hr).1 (st.env _ _ h)
  have hdead : d ≠ .dead:=by rintro rfl; simp [D.isRef] at hr
  have hrc:=(hvr.cells hdead).unflag hn
  have hs' : s ∉ S:=by intro hm; rw [List.contains_iff_mem.2 hm] at hs; cases hs
  exact step (x:=.tmp s) (by rw [eval_tmp hv]) hrc hz (st.nodE s) (s :: S) (fun b hb=>⟨s,by simp,hb⟩) (fun s' h'=>List.mem_cons_of_mem _ h') (fun b hb s' h'=>st.dEE s s' (fun e=>hs' (e ▸ h')) b hb) ih
theorem R.bslO {t e z bytes k : Nat} {ps : List (Nat × Operand)} {ds : List D} {S : List Nat} {ty rt : TypeId} {pos : String} {aft : Array Edge} {g : Option (Nat × Bool)} [hT : SlT P ty e] [hE : ElT P e z bytes]
 (hps : EvL C.gl σ z 0 ps ds S) (hk : ds.length = k) (hS : S.contains t = false) (ht : t < σ.n) (hsm : k * z <= 16777216) :
 OpS P C ⟨some t,.buildSlice ty k ps.toArray,rt,pos,aft,g⟩ σ ((killL σ S).set t (.sl (some e) z ds)):=by
 refine OpS.value fun a w ⟨ρ,Fe,Fb,st⟩=>?_
 obtain ⟨i,zv,hi,hsz,hby,hz,hzs,hpos,hone⟩:=hE.i
 subst hk
 have htS : t ∉ S:=by intro hm; rw [List.contains_iff_mem.2 hm] at hS; cases hS
 obtain ⟨out,Fs,q1,q2,_,q4,q5,q6⟩:=hps.fill st ((Array.range (ds.length * z)).map (zv.cells[· % zv.cells.size]!)) (by simp)
 simp only [Nat.zero_add] at q4
 have hml : ds.length <= maxLen:=by
  have : ds.length * 1 <= ds.length * z:=Nat.mul_le_mul_left _ hpos
  simp only [maxLen]; omega
 have hos : out.size = ds.length * z:=by rw [q2]; simp
 let F : List Nat:=w.heap.size :: (List.range ds.length).flatMap Fs
 have hin : ∀ b ∈ (List.range ds.length).flatMap Fs,∃ s ∈ S,b ∈ Fe s:=fun b hb=>by
  obtain ⟨j,hj,hx⟩:=List.mem_flatMap.1 hb
  exact (q5 j (List.mem_range.1 hj)).2 b hx
 have hlt:=st.lt
 have hF : F.Nodup:=by
  refine List.nodup_cons.2 ⟨fun hm=>?_,flat_nodup_mk (fun j hj=>(q5 j hj).1) (fun i j hi hj hij=>q6 i j hi hj hij)⟩
  obtain ⟨s,_,h2⟩:=hin _ hm
  have:=hlt _ (.inl ⟨s,h2⟩)
  omega
 have hFs : ∀ b ∈ F,(∃ s ∈ S,b ∈ Fe s) ∨ w.heap.size <= b:=fun b hb=>by
  rcases List.mem_cons.1 hb with rfl | hb
  · exact .inr (Nat.le_refl _)
  · exact .inl (hin b hb)
 have hgd : ∀ b,gd C Fe Fb b -> b < w.heap.size -> gd C (upd (fun u=>if u ∈ S then [] else Fe u) t F) Fb b:=fun b hb hbl=>⟨hb.1,fun hc=>hb.2 (by
  rcases hc with ⟨u,hu⟩ | hid
  · by_cases hut : u = t
    · subst hut
      rw [upd_same] at hu
      rcases hFs b hu with ⟨s,_,hs⟩ | hn
      · exact .inl ⟨s,hs⟩
      · omega
    · rw [upd_other hut] at hu
      by_cases hus : u ∈ S
      · simp [hus] at hu
      · simp only [hus,if_false] at hu; exact .inl ⟨u,hu⟩
  · exact .inr hid)⟩
 refine ⟨.slice (some ⟨w.heap.size,0,none⟩) ds.length ds.length,w.alloc (.cells out e), ?_,ρ,_,Fb,st.takeX ht htS hps.there (Ext.alloc w _) hF hFs ((SR_plain rfl).2 ⟨.slice (some ⟨w.heap.size,0,none⟩) ds.length ds.length,by rw [put_get a t _ t (by rw [st.size]; exact ht)]; simp, ?_⟩)⟩
 · unfold execOp
   have hps2 : (ps.toArray.map fun x=>(x.1,a.eval x.2)).toList = ps.map (fun p=>(p.1,a.eval p.2)):=by simp
   by_cases h0 : ds.length * z = 0
   · have q1':=q1
     simp only [h0] at q1'
     have e0 : (Array.range 0).map (fun x=>zv.cells[x % zv.cells.size]!) = (#[] : Array Value):=by simp [Array.range_zero']
     rw [e0] at q1'
     have e1 : Array.range 0 = #[]:=rfl
     simp [Instr.buildSlice,run_underlying hT.u,ElT.size (P:=P) (e:=e),h0,hps2,e1,q1',newRow,newObj,Sem.run]
   · simp [Instr.buildSlice,run_underlying hT.u,ElT.size (P:=P) (e:=e),h0,hps2,q1,newRow,newObj,Sem.run,zeroValue,typeInfo,hi,hz,show ¬ (16777216 < ds.length * z) by omega]
 · simp only [VR,D.isAgg,Bool.false_eq_true,if_false]
   have hcell : ∀ u ∈ out.toList,u.oneCell' = true:=by
    intro u hu
    obtain ⟨j,hj,rfl⟩:=List.mem_iff_getElem.1 hu
    have hj1 : j < ds.length * z:=by simpa [hos] using hj
    have hjz : j / z < ds.length:=Nat.div_lt_of_lt_mul (by rw [Nat.mul_comm]; exact hj1)
    have hdm:=Nat.div_add_mod j z
    have hmod:=Nat.mod_lt j hpos
    rw [Nat.mul_comm] at hdm
    refine (q4 (j / z) hjz).one _ (List.mem_iff_getElem?.2 ⟨j % z, ?_⟩)
    rw [List.getElem?_take,if_pos hmod,List.getElem?_drop,hdm,List.getElem?_eq_getElem hj]
   exact .slO w.heap.size out e ds.length z ds Fs (heap_alloc_new w _) (Nat.le_refl _) hml hos hcell (fun i hi=>(q4 i hi).mono (fun b hb hbl=>heap_alloc_old w _ hbl) hgd (fun id hid=>⟨hid,rfl⟩))
end Go.Sx

namespace Go.Sx
variable {pos : String} {aft : Array Edge} {g : Option (Nat × Bool)}
variable {P : Program} {C : Ctx} {σ σ' σ1 : Sg} {a : Act} {w w' : World} {ρ : Nat -> Nat} {Fe Fe' Fb : Nat -> List Nat}
theorem StW.takeY {S : List Nat} {t : Nat} {d : D} {v : Value} {F : List Nat} (h : StW C σ a w ρ Fe Fb) (ht : t < σ.n) (hst : t ∉ S) (hS : ∀ s ∈ S,∃ d0,σ.get s = some d0)
 (hos : w'.os = w.os) (htape : TpR w' w) (hout : w'.output = w.output) (hsize : w.heap.size <= w'.heap.size)
 (hblk : ∀ b,b < w.heap.size -> (∀ s ∈ S,b ∉ Fe s) -> w'.heap[b]? = w.heap[b]?) (hF : F.Nodup) (hFs : ∀ b ∈ F,(∃ s ∈ S,b ∈ Fe s) ∨ w.heap.size <= b)
 (hv : SR w' ρ (gd C (upd (fun u=>if u ∈ S then [] else Fe u) t F) Fb) (fun id=>(σ.box id).isSome) (a.put (some t) v) t d F) :
 StW C ((killL σ S).set t d) (a.put (some t) v) w' ρ (upd (fun u=>if u ∈ S then [] else Fe u) t F) Fb:=by
 have hsz : t < a.tmps.size:=by rw [h.size]; exact ht
 let Fx : Nat -> List Nat:=upd (fun u=>if u ∈ S then [] else Fe u) t F
 have hFx : ∀ u,u ≠ t -> ∀ b ∈ Fx u,b ∈ Fe u /\ u ∉ S:=fun u hut b hb=>by
  simp only [Fx,upd_other hut] at hb
  by_cases hus : u ∈ S
  · simp [hus] at hb
  · simp only [hus,if_false] at hb; exact ⟨hb,hus⟩
 have hFt : Fx t = F:=by simp [Fx]
 have hlt:=h.lt
 have hh : ∀ b,gd C Fe Fb b -> b < w.heap.size -> w'.heap[b]? = w.heap[b]?:=fun b hb hl=>hblk b hl (fun s _ hm=>hb.2 (.inl ⟨s,hm⟩))
 have hcc : ∀ id off v,(σ.box id).isSome = true -> w.cell? ⟨ρ id,off,none⟩ = some v -> w'.cell? ⟨ρ id,off,none⟩ = some v:=by
  intro id off v hid hc
  have hl:=block_lt_of_cell hc
  rw [<- hc]
  refine World.cell?_of_block (hblk _ hl ?_)
  intro s _ hm
  cases hb : σ.box id with
  | none=>simp [hb] at hid
  | some x=>exact h.dEB s id _ hm (h.bx id x hb).mem
 have ho : ∀ b,own Fx Fb b -> own Fe Fb b ∨ w.heap.size <= b:=by
  rintro b (⟨u,hu⟩ | hid)
  · by_cases hut : u = t
    · subst hut; rw [hFt] at hu
      rcases hFs b hu with ⟨s,_,hs⟩ | hn
      · exact .inl (.inl ⟨s,hs⟩)
      · exact .inr hn
    · exact .inl (.inl ⟨u,(hFx u hut b hu).1⟩)
  · exact .inl (.inr hid)
 have hg : ∀ b,gd C Fe Fb b -> b < w.heap.size -> gd C Fx Fb b:=fun b hb hbl=>⟨hb.1,fun hc=>(ho b hc).elim hb.2 (fun h2=>by omega)⟩
 obtain ⟨hn,hbx⟩:=killL_n S σ
 have hbox : ∀ id,((killL σ S).set t d).box id = σ.box id:=fun id=>by
  show lk (killL σ S).bx id = _
  rw [hbx]; rfl
 have hLf : (fun id=>(((killL σ S).set t d).box id).isSome = true) = fun id=>(σ.box id).isSome = true:=by funext id; rw [hbox]
 have hnotF : ∀ u,u ≠ t -> ∀ b ∈ Fx u,b ∉ F:=fun u hut b hb hbF=>by
  obtain ⟨h1,h2⟩:=hFx u hut b hb
  rcases hFs b hbF with ⟨s,hs,h3⟩ | hn
  · exact h.dEE u s (fun e=>h2 (e ▸ hs)) b h1 h3
  · have:=hlt b (.inl ⟨u,h1⟩); omega
 refine {
  size:=?_
  defs:=h.defs
  pin:=fun id b hp=>by rw [hbox]; exact h.pin id b hp
  env:=fun u x hx=>?_
  envN:=fun u hu=>?_
  bx:=fun id x hx=>by rw [hLf]; exact (h.bx id x (by rw [<- hbox]; exact hx)).mono (fun b hb hl=>hb.elim (fun hb=>hh b hb hl) (fun hb=>hblk b hl (fun s _ hm=>h.dEB s id b hm hb))) hg (fun i hi=>⟨hi,rfl⟩)
  bxN:=fun id hx=>h.bxN id (by rw [<- hbox]; exact hx)
  nodE:=fun u=>?_
  nodB:=h.nodB
  dEE:=fun u u' huu b hb hb'=>?_
  dEB:=fun u id b hb hb'=>?_
  dBB:=h.dBB
  new:=fun b hb=>?_
  kept:=fun b hb=>?_
  os:=hos.trans h.os
  tape:=htape.trans h.tape
  output:=hout.trans h.output
  grown:=Nat.le_trans h.grown hsize
  gl:=h.gl
  okN:=fun b hb=>h.okN b (Nat.le_trans hsize hb)
  okO:=fun b hb=>(ho b hb).elim (h.okO b) (h.okN b) }
 · simp [Act.put,h.size,hn]
 · rw [hLf]
   rw [get_set] at hx
   by_cases hut : u = t
   · subst hut; simp at hx; subst hx
     simp only [upd_same]; exact hv
   · simp only [hut,if_false] at hx
     obtain ⟨d1,hd1,rfl⟩:=Option.map_eq_some_iff.1 hx
     rw [killL_get] at hd1
     by_cases hus : u ∈ S
     · simp only [hus,if_true,Option.some.injEq] at hd1
       subst hd1
       obtain ⟨d0,hd0⟩:=hS u hus
       obtain ⟨v0,hv0⟩:=(h.env u d0 hd0).there
       refine ⟨by simp [upd_other hut,hus],v0,by rw [put_get a t v u hsz]; simp [hut,hv0]⟩
     · simp only [hus,if_false] at hd1
       have hFu : upd (fun u=>if u ∈ S then [] else Fe u) t F u = Fe u:=by simp [upd_other hut,hus]
       rw [hFu]
       exact SR_other hut hsz (h.env u d1 hd1) (fun b hb hl=>hb.elim (fun hb=>hh b hb hl) (fun hb=>hblk b hl (fun s hs hm=>h.dEE u s (fun e=>hus (e ▸ hs)) b hb hm))) hg (fun id hid=>⟨hid,rfl⟩) hcc
 · rw [get_set] at hu
   by_cases hut : u = t
   · simp [hut] at hu
   · simp only [hut,if_false,Option.map_eq_none_iff] at hu
     rw [killL_get] at hu
     by_cases hus : u ∈ S
     · simp [hus] at hu
     · simp only [hus,if_false] at hu
       simp [upd_other hut,hus,h.envN u hu]
 · by_cases hut : u = t
   · subst hut; simpa using hF
   · simp only [upd_other hut]
     split
     · exact List.nodup_nil
     · exact h.nodE u
 · by_cases hut : u = t
   · subst hut
     have hb1 : b ∈ F:=by rw [<- hFt]; exact hb
     exact hnotF u' (fun e=>huu e.symm) b hb' hb1
   · by_cases hut' : u' = t
     · subst hut'
       have hb1 : b ∈ F:=by rw [<- hFt]; exact hb'
       exact hnotF u hut b hb hb1
     · exact h.dEE u u' huu b (hFx u hut b hb).1 (hFx u' hut' b hb').1
 · by_cases hut : u = t
   · subst hut
     have hb1 : b ∈ F:=by rw [<- hFt]; exact hb
     rcases hFs b hb1 with ⟨s,_,hs⟩ | hn
     · exact h.dEB s id b hs hb'
     · have:=hlt b (.inr ⟨id,hb'⟩); omega
   · exact h.dEB u id b (hFx u hut b hb).1 hb'
 · rcases ho b hb with h1 | h1
   · exact h.new b h1
   · intro hk
     have h2:=(h.kept b hk).2
     have h3:=h.grown
     omega
 · obtain ⟨h1,h2⟩:=h.kept b hb
   exact ⟨(hblk b (Nat.lt_of_lt_of_le h2 h.grown) (fun s _ hm=>h.new b (.inl ⟨s,hm⟩) hb)).trans h1,h2⟩
theorem src_own {G L : Nat -> Prop} {e z : Nat} {l : List D} {v : Value} {F : List Nat} (h : Rc w ρ G L true (.sl (some e) z l) [v] F) (hF : F.Nodup) :
 ∃ (base : Option Addr) (cap : Nat) (news : List Value) (Fs2 : Nat -> List Nat),v = .slice base l.length cap /\ ((base = none /\ l = [] /\ cap = 0) ∨ ∃ a,base = some a /\ ∀ j u,news[j]? = some u -> w.cell? (a.add j) = some u) /\ news.length = l.length * z /\ (∀ u ∈ news,u.oneCell' = true) /\
  (∀ j (h : j < l.length),Rc w ρ G L false l[j] ((news.drop (j * z)).take z) (Fs2 j)) /\ ((List.range l.length).flatMap Fs2).Nodup /\ ∀ b ∈ (List.range l.length).flatMap Fs2,b ∈ F:=by
 generalize hv : [v] = cv at h
 cases h with
 | slN=>cases hv; exact ⟨none,0,[],fun _=>[],rfl,.inl ⟨rfl,rfl,rfl⟩,by simp,by simp,fun j hj=>by simp at hj,by simp,by simp⟩
 | slE _ _ a=>cases hv; exact ⟨some a,0,[],fun _=>[],rfl,.inr ⟨a,rfl,by simp⟩,by simp,by simp,fun j hj=>by simp at hj,by simp,by simp⟩
 | slO b cs e cap z l Fs hb hc hm hs ho hr=>
  cases hv
  have hsz : l.length * z <= cs.size:=by rw [hs]; exact Nat.mul_le_mul_right z hc
  have hl : (cs.toList.take (l.length * z)).length = l.length * z:=by simp; omega
  refine ⟨some ⟨b,0,none⟩,cap,cs.toList.take (l.length * z),Fs,rfl,.inr ⟨_,rfl,fun j u hu=>?_⟩,hl,fun u hu=>ho u (List.mem_of_mem_take hu),fun j hj=>?_,(List.nodup_cons.1 hF).2,fun b' hb'=>List.mem_cons_of_mem _ hb'⟩
  · rw [add_lit,cell_of_row w b _ cs e _ hb]
    rw [List.getElem?_take] at hu
    split at hu
    · simpa using hu
    · cases hu
  · have h1 : j * z + z <= l.length * z:=by
     have:=Nat.mul_le_mul_right z (show j + 1 <= l.length by omega)
     rw [Nat.add_mul] at this; omega
    have h2 : ((cs.toList.take (l.length * z)).drop (j * z)).take z = (cs.toList.drop (j * z)).take z:=by
     rw [List.drop_take,List.take_take,Nat.min_eq_left (by omega)]
    rw [h2]
    exact hr j hj
theorem R.appO2 {s s0 s1 t e e1 z bytes : Nat} {l l' l2 : List D} {ty rt : TypeId} [hT : SlT P ty e] [hE : ElT P e z bytes]
 (ho : ownr σ s s0) (hs : σ.get s0 = some (.sl (some e) z l)) (hs1 : σ.get s1 = some (.sl (some e1) z l')) (hne : Nat.beq s0 s1 = false) (he : l ++ l' = l2) (hn : l.length + l'.length <= 1073741824) (ht : t < σ.n) (hst : [s0,s1].contains t = false) (hby : bytes <= 131072) :
 OpS P C ⟨some t,.call { callee:=.builtin .append,args:=#[.tmp s,.tmp s1],argTypes:=#[ty,ty] },rt,pos,aft,g⟩ σ ((killL σ [s0,s1]).set t (.sl (some e) z l2)):=by
 subst he
 have hne' : s0 ≠ s1:=fun e=>by rw [e] at hne; simp at hne
 have htS : t ∉ [s0,s1]:=by intro hm; rw [List.contains_iff_mem.2 hm] at hst; cases hst
 refine OpS.value fun a w ⟨ρ,Fe,Fb,st⟩=>?_
 obtain ⟨v,hv,hv0,hr⟩:=ownr_val st ho hs
 obtain ⟨v1,hv1,_,hr1⟩:=ownr_val st (.inl rfl) hs1
 obtain ⟨base,cap,news,Fs2,rfl,q1,q2,q3,q4,q5,q6⟩:=src_own hr1 (st.nodE s1)
 obtain ⟨f1,f2⟩:=fits hby hn
 obtain ⟨v',w',F',hrun,ht',hnd,hsub,hres⟩:=app_run (P:=P) (t:=ty) (e:=e) (bytes:=bytes) (ty:=rt) (Fs2:=Fs2) hr (.inr rfl) (st.nodE s0) q1 q2 q3 q4 q5 (fun b hb hb'=>st.dEE s1 s0 (fun e=>hne' e.symm) b (q6 b hb) hb') (fun b hb hm=>hb.2 (.inl ⟨s0,hm⟩)) f1 f2
 have hFs : ∀ b ∈ F',(∃ s ∈ [s0,s1],b ∈ Fe s) ∨ w.heap.size <= b:=fun b hb=>by
  rcases hsub b hb with h | h | h
  · exact .inl ⟨s0,by simp,h⟩
  · exact .inl ⟨s1,by simp,q6 b h⟩
  · exact .inr h
 have hthere : ∀ u ∈ [s0,s1],∃ d0,σ.get u = some d0:=fun u hu=>by
  rcases List.mem_cons.1 hu with rfl | hu
  · exact ⟨_,hs⟩
  · rw [List.mem_singleton.1 hu]; exact ⟨_,hs1⟩
 refine ⟨v',w', ?_,ρ,_,Fb,st.takeY ht htS hthere ht'.os ht'.tape ht'.output ht'.size (fun b hb hnb=>ht'.blk b hb (hnb s0 (by simp))) hnd hFs ((SR_plain rfl).2 ⟨v',by rw [put_get a t _ t (by rw [st.size]; exact ht)]; simp, ?_⟩)⟩
 · unfold execOp
   simp [resolve,invoke,builtin,eval_tmp hv,eval_tmp hv1,hrun]
 · simp only [VR,D.isAgg,Bool.false_eq_true,if_false]
   refine hres _ (fun b hb hl=>⟨hb.1,fun hc=>?_⟩)
   rcases hc with ⟨u,hu⟩ | hid
   · by_cases hut : u = t
     · subst hut
       rw [upd_same] at hu
       rcases hFs b hu with ⟨s',_,h⟩ | h
       · exact hb.2 (.inl ⟨s',h⟩)
       · omega
     · rw [upd_other hut] at hu
       by_cases hus : u ∈ [s0,s1]
       · simp only [hus,if_true] at hu; cases hu
       · simp only [hus,if_false] at hu; exact hb.2 (.inl ⟨u,hu⟩)
   · exact hb.2 (.inr hid)
theorem R.appBP2 {s s1 id off t e e1 z bytes : Nat} {path : List Nat} {d0 d0' : D} {l l' l2 : List D} {ty rt : TypeId} [hT : SlT P ty e] [hE : ElT P e z bytes]
 (h : σ.get s = some (.alb id off path)) (hb : σ.box id = some (.var d0)) (hl : d0.loc path = some (off,.sl (some e) z l)) (hna : d0.noArr path = true) (hu : d0.upd path .dead = some d0')
 {τ : Sg} (hτ : (σ.putB id (.var d0')).upd s (.sl (some e) z l) = τ) (hs : τ.get s = some (.sl (some e) z l)) (hs1 : τ.get s1 = some (.sl (some e1) z l')) (hne : Nat.beq s s1 = false)
 (he : l ++ l' = l2) (hn : l.length + l'.length <= 1073741824) (ht : t < σ.n) (hst : [s,s1].contains t = false) (hby : bytes <= 131072) :
 OpS P C ⟨some t,.call { callee:=.builtin .append,args:=#[.tmp s,.tmp s1],argTypes:=#[ty,ty] },rt,pos,aft,g⟩ σ ((killL τ [s,s1]).set t (.sl (some e) z l2)):=by
 subst hτ
 exact OpS.pre (fun a w hs=>St.takeP h hb hl hna hu hs) (R.appO2 (.inl rfl) hs hs1 hne he hn ht hst hby)
end Go.Sx

namespace Go.Sx
variable {P : Program} {C : Ctx} {Q : Exit -> Sg -> Prop} {σ σ' σ1 : Sg} {a : Act} {w w' : World} {ρ : Nat -> Nat} {Fe Fe' Fb : Nat -> List Nat} {ops : Array Oper}
theorem R.extO {s t k : Nat} {ds ds' : List D} {d : D} {rt : TypeId} {pos : String} {aft : Array Edge} {g : Option (Nat × Bool)}
 (h : σ.get s = some (.tup ds)) (hk : ds[k]? = some d) (hr : d.isRef = false) (hds : ds.set k .dead = ds') (hp : ds'.all (fun x=>x.pur || x.isRef) = true) (hst : Nat.beq t s = false) (ht : t < σ.n) :
 OpS P C ⟨some t,.extract (.tmp s) k,rt,pos,aft,g⟩ σ (((killL σ [s]).set t d).upd s (.tup ds')):=by
 subst hds
 have hne : t ≠ s:=fun e=>by rw [e] at hst; simp at hst
 refine OpS.value fun a w ⟨ρ,Fe,Fb,st⟩=>?_
 obtain ⟨vs,Fs,h1,h2,h3,h4⟩:=st.env s _ h
 obtain ⟨hkl,hkd⟩:=List.getElem?_eq_some_iff.1 hk
 have hv : vs[k]? = some (vs.getD k undef):=by
  have : k < vs.length:=by omega
  rw [List.getD_eq_getElem?_getD,List.getElem?_eq_getElem this]; rfl
 rcases h4 k hkl with ⟨h5,_⟩ | ⟨h5,h6⟩
 · rw [hkd] at h5; rw [h5] at hr; cases hr
 · rw [hkd] at h6
   have hsub : ∀ b ∈ Fs k,b ∈ Fe s:=fun b hb=>by rw [h3]; exact List.mem_flatMap.2 ⟨k,List.mem_range.2 hkl,hb⟩
   have hnd : (Fs k).Nodup:=by
    have:=st.nodE s
    rw [h3] at this
    exact (flat_nodup this).1 k hkl
   have hgd : ∀ b,gd C Fe Fb b -> gd C (upd (fun u=>if u ∈ [s] then [] else Fe u) t (Fs k)) Fb b:=fun b hb=>⟨hb.1,fun hc=>hb.2 (by
    rcases hc with ⟨u,hu⟩ | hid
    · by_cases hut : u = t
      · subst hut; rw [upd_same] at hu; exact .inl ⟨s,hsub b hu⟩
      · rw [upd_other hut] at hu
        by_cases hus : u ∈ [s]
        · simp only [hus,if_true] at hu; cases hu
        · simp only [hus,if_false] at hu; exact .inl ⟨u,hu⟩
    · exact .inr hid)⟩
   have hput : (a.put (some t) (vs.getD k undef)).tmps[t]? = some (vs.getD k undef):=by rw [put_get a t _ t (by rw [st.size]; exact ht)]; simp
   have st2:=st.takeL (S:=[s]) (t:=t) (d:=d) (v:=vs.getD k undef) (F:=Fs k) ht (by simpa using hne) (fun u hu=>by rw [List.mem_singleton.1 hu]; exact ⟨_,h⟩) hnd (fun b hb=>⟨s,by simp,hsub b hb⟩)
    ((SR_plain hr).2 ⟨_,hput,h6.mono (fun _ _ _=>rfl) (fun b hb _=>hgd b hb) (fun id hid=>⟨hid,rfl⟩)⟩)
   have hgs : ((killL σ [s]).set t d).get s = some .dead:=by
    rw [get_set,if_neg (fun e=>hne e.symm),killL_get]
    simp [scrub]
   have hFs0 : upd (fun u=>if u ∈ [s] then [] else Fe u) t (Fs k) s = []:=by rw [upd_other (fun e=>hne e.symm)]; simp
   have st3:=st2.turn (s:=s) (d':=.tup (ds.set k .dead)) (F:=[]) hgs rfl ⟨rfl,Nat.le_refl _⟩ rfl (Nat.le_refl _) (fun _ _ _=>rfl) List.nodup_nil (by simp) (by
    refine ⟨vs,fun _=>[],by rw [put_get a t _ s (by rw [st.size]; exact ht)]; simp [show ¬ s = t from fun e=>hne e.symm,h1],by rw [h2]; simp,(flat0 _).symm,fun j hj=>?_⟩
    have hj0 : j < ds.length:=by simpa using hj
    by_cases hjk : k = j
    · subst hjk; left; exact ⟨by simp,rfl⟩
    · have e1 : (ds.set k .dead)[j] = ds[j]:=by rw [List.getElem_set]; simp [hjk]
      have e2:=List.all_eq_true.1 hp _ (List.getElem_mem hj)
      rw [e1] at e2 ⊢
      rcases h4 j hj0 with h7 | ⟨h7,h8⟩
      · exact .inl ⟨h7.1,rfl⟩
      · right
        have hpj : ds[j].pur = true:=by simpa [h7] using e2
        have hF:=h8.pur hpj
        rw [hF] at h8
        refine ⟨h7,h8.mono (fun _ _ _=>rfl) (fun b hb _=>⟨hb.1,fun hc=>(hgd b hb).2 ?_⟩) (fun id hid=>⟨?_,rfl⟩)⟩
        · rcases hc with ⟨u,hu⟩ | hid
          · by_cases hus : u = s
            · subst hus; rw [upd_same] at hu; cases hu
            · rw [upd_other hus] at hu; exact .inl ⟨u,hu⟩
          · exact .inr hid
        · have : ((killL σ [s]).set t d).box id = σ.box id:=by
           show lk (killL σ [s]).bx id = _
           rw [(killL_n [s] σ).2]; rfl
          rw [this]; exact hid)
   refine ⟨vs.getD k undef,w, ?_,ρ,_,Fb,st3⟩
   clear st3 st2 hput h6
   generalize vs.getD k undef = x at hv
   have hx : vs.toArray[k]? = some x:=by rw [List.getElem?_toArray]; exact hv
   unfold execOp
   simp only [Instr.extract,eval_tmp h1,hx,Sem.run_bind,Sem.run_pure,Result.andThen_ok]
theorem W.wkS {c : Code} {s : Nat} {d d' : D} (h : σ.get s = some d) (hr : d.isRef = false) (hr' : d'.isRef = false) (hw : Wk d d') (k : W P C c Q (σ.upd s d')) : W P C c Q σ:=by
 intro a w ⟨ρ,Fe,Fb,st⟩
 obtain ⟨v,hv,hvr⟩:=(SR_plain hr).1 (st.env _ _ h)
 have hgd : ∀ b,gd C Fe Fb b -> gd C (Go.Sx.upd Fe s (Fe s)) Fb b:=fun b hb=>⟨hb.1,fun hc=>hb.2 (hc.imp (fun ⟨u,hu⟩=>⟨u,by
  by_cases hus : u = s
  · subst hus; rwa [upd_same] at hu
  · rwa [upd_other hus] at hu⟩) id)⟩
 refine k a w ⟨ρ,_,Fb,st.turn (F:=Fe s) h rfl ⟨rfl,Nat.le_refl _⟩ rfl (Nat.le_refl _) (fun _ _ _=>rfl) (st.nodE s) (fun b hb=>.inl hb) ((SR_plain hr').2 ⟨v,hv, ?_⟩)⟩
 have h2:=hvr.mono (w':=w) (ρ':=ρ) (G':=gd C (Go.Sx.upd Fe s (Fe s)) Fb) (L':=fun id=>(σ.box id).isSome) (fun _ _ _=>rfl) (fun b hb _=>hgd b hb) (fun id hid=>⟨hid,rfl⟩)
 unfold VR at h2 ⊢
 rw [hw.isAgg]
 cases hd : d.isAgg <;> simp only [hd,if_true,if_false,Bool.false_eq_true] at h2 ⊢
 · exact h2.wk hw
 · obtain ⟨cs,rfl,h2⟩:=h2; exact ⟨cs,rfl,h2.wk hw⟩
theorem R.wkT {o : Oper} {τ : Sg} {t : Nat} {r r' : D} (h : OpS P C o σ (τ.set t r)) (hr : r.isRef = false) (hr' : r'.isRef = false) (he : Wk r r') : OpS P C o σ (τ.set t r'):=by
 intro a w hs K Q hK
 refine h a w hs K Q fun a' w' hs'=>hK a' w' ?_
 have h1 : (τ.set t r).get t = some r:=by rw [get_set]; simp
 obtain ⟨ρ,Fe,Fb,st⟩:=hs'
 obtain ⟨v,hv,hvr⟩:=(SR_plain hr).1 (st.env _ _ h1)
 have hgd : ∀ b,gd C Fe Fb b -> gd C (Go.Sx.upd Fe t (Fe t)) Fb b:=fun b hb=>⟨hb.1,fun hc=>hb.2 (hc.imp (fun ⟨u,hu⟩=>⟨u,by
  by_cases hus : u = t
  · subst hus; rwa [upd_same] at hu
  · rwa [upd_other hus] at hu⟩) id)⟩
 have st2 : St C ((τ.set t r).upd t r') a' w':=by
  refine ⟨ρ,_,Fb,st.turn (F:=Fe t) h1 rfl ⟨rfl,Nat.le_refl _⟩ rfl (Nat.le_refl _) (fun _ _ _=>rfl) (st.nodE t) (fun b hb=>.inl hb) ((SR_plain hr').2 ⟨v,hv, ?_⟩)⟩
  have h2:=hvr.mono (w':=w') (ρ':=ρ) (G':=gd C (Go.Sx.upd Fe t (Fe t)) Fb) (L':=fun id=>((τ.set t r).box id).isSome) (fun _ _ _=>rfl) (fun b hb _=>hgd b hb) (fun id hid=>⟨hid,rfl⟩)
  unfold VR at h2 ⊢
  rw [he.isAgg]
  cases hd : r.isAgg <;> simp only [hd,if_true,if_false,Bool.false_eq_true] at h2 ⊢
  · exact h2.wk he
  · obtain ⟨cs,rfl,h2⟩:=h2; exact ⟨cs,rfl,h2.wk he⟩
 refine st2.weaken rfl rfl fun u d hd=>?_
 rw [get_upd,get_set]
 rw [get_set] at hd
 by_cases hu : u = t
 · subst hu; simpa using hd
 · simpa [hu] using hd
end Go.Sx

namespace Go.Sx
open Go.Proofs Go.Proofs.Try
set_option maxRecDepth 100000
instance : ZrT prog 1 (.nilf):=⟨_,_,O,O,by decide,O⟩
instance : IkT prog 2 .i64:=⟨O⟩
instance : ZrT prog 2 (.int 0):=⟨_,_,O,O,by decide,O⟩
instance : LdT prog 3 1 false:=⟨_,_,O,O,O,O⟩
instance : ElT prog 3 1 8:=⟨_,_,O,O,O,O,O,by decide,O⟩
instance : IkT prog 3 .i64:=⟨O⟩
instance : ZrT prog 3 (.int 0):=⟨_,_,O,O,by decide,O⟩
instance : BoT prog 4:=⟨O⟩
instance : ZrT prog 4 (.bool false):=⟨_,_,O,O,by decide,O⟩
instance : LdT prog 5 1 false:=⟨_,_,O,O,O,O⟩
instance : ElT prog 5 1 1:=⟨_,_,O,O,O,O,O,by decide,O⟩
instance : IkT prog 5 .u8:=⟨O⟩
instance : ZrT prog 5 (.u8 0):=⟨_,_,O,O,by decide,O⟩
instance : IkT prog 6 .u8:=⟨O⟩
instance : ZrT prog 6 (.u8 0):=⟨_,_,O,O,by decide,O⟩
instance : ZrT prog 7 (.agg [.int 0,.int 0,.bool false,.u8 0]):=⟨_,_,O,O,by decide,O⟩
instance : BsT prog 7 ([.int 0,.int 0,.bool false,.u8 0]):=⟨_,_,_,O,O,O,O,by decide⟩
instance : ZrT prog 8 (.agg [.int 0,.int 0,.bool false,.u8 0]):=⟨_,_,O,O,by decide,O⟩
instance : BsT prog 8 ([.int 0,.int 0,.bool false,.u8 0]):=⟨_,_,_,O,O,O,O,by decide⟩
instance : StT prog 9:=⟨O⟩
instance : ZrT prog 9 (.str []):=⟨_,_,O,O,by decide,O⟩
instance : StT prog 10:=⟨O⟩
instance : ZrT prog 10 (.str []):=⟨_,_,O,O,by decide,O⟩
instance : StT prog 11:=⟨O⟩
instance : ZrT prog 11 (.str []):=⟨_,_,O,O,by decide,O⟩
instance : IkT prog 12 .u64:=⟨O⟩
instance : ZrT prog 12 (.u64 0):=⟨_,_,O,O,by decide,O⟩
instance : ZrT prog 13 (.agg [.str [],.u64 0]):=⟨_,_,O,O,by decide,O⟩
instance : BsT prog 13 ([.str [],.u64 0]):=⟨_,_,_,O,O,O,O,by decide⟩
instance : ZrT prog 14 (.agg [.str [],.u64 0]):=⟨_,_,O,O,by decide,O⟩
instance : BsT prog 14 ([.str [],.u64 0]):=⟨_,_,_,O,O,O,O,by decide⟩
instance : ZrT prog 15 (.nilp):=⟨_,_,O,O,by decide,O⟩
instance : ZrT prog 17 (.nilp):=⟨_,_,O,O,by decide,O⟩
instance : ZrT prog 18 (.agg [.nilp]):=⟨_,_,O,O,by decide,O⟩
instance : BsT prog 18 ([.nilp]):=⟨_,_,_,O,O,O,O,by decide⟩
instance : ZrT prog 19 (.agg [.nilp]):=⟨_,_,O,O,by decide,O⟩
instance : BsT prog 19 ([.nilp]):=⟨_,_,_,O,O,O,O,by decide⟩
instance : IkT prog 21 .i32:=⟨O⟩
instance : ZrT prog 21 (.ik .i32 0):=⟨_,_,O,O,by decide,O⟩
instance : SlT prog 22 67:=⟨O⟩
instance : ZrT prog 22 (.nils):=⟨_,_,O,O,by decide,O⟩
instance : SlT prog 23 70:=⟨O⟩
instance : ZrT prog 23 (.nils):=⟨_,_,O,O,by decide,O⟩
instance : LdT prog 24 1 false:=⟨_,_,O,O,O,O⟩
instance : ElT prog 24 1 24:=⟨_,_,O,O,O,O,O,by decide,O⟩
instance : SlT prog 24 5:=⟨O⟩
instance : ZrT prog 24 (.nils):=⟨_,_,O,O,by decide,O⟩
instance : LdT prog 25 1 false:=⟨_,_,O,O,O,O⟩
instance : IkT prog 25 .u64:=⟨O⟩
instance : ZrT prog 25 (.u64 0):=⟨_,_,O,O,by decide,O⟩
instance : LdT prog 26 1 false:=⟨_,_,O,O,O,O⟩
instance : ElT prog 26 1 4:=⟨_,_,O,O,O,O,O,by decide,O⟩
instance : IkT prog 26 .u32:=⟨O⟩
instance : ZrT prog 26 (.u32 0):=⟨_,_,O,O,by decide,O⟩
instance : LdT prog 27 1 false:=⟨_,_,O,O,O,O⟩
instance : SlT prog 27 46:=⟨O⟩
instance : ZrT prog 27 (.nils):=⟨_,_,O,O,by decide,O⟩
instance : LdT prog 28 1 false:=⟨_,_,O,O,O,O⟩
instance : SlT prog 28 48:=⟨O⟩
instance : ZrT prog 28 (.nils):=⟨_,_,O,O,by decide,O⟩
instance : ZrT prog 29 (.agg [.u32 0,.nils,.nils,.u32 0]):=⟨_,_,O,O,by decide,O⟩
instance : BsT prog 29 ([.u32 0,.nils,.nils,.u32 0]):=⟨_,_,_,O,O,O,O,by decide⟩
instance : LdT prog 30 4 true:=⟨_,_,O,O,O,O⟩
instance : FdT prog 30 0 0:=⟨_,_,_,O,O,O,O,by decide⟩
instance : FdT prog 30 1 1:=⟨_,_,_,O,O,O,O,by decide⟩
instance : FdT prog 30 2 2:=⟨_,_,_,O,O,O,O,by decide⟩
instance : FdT prog 30 3 3:=⟨_,_,_,O,O,O,O,by decide⟩
instance : ZrT prog 30 (.agg [.u32 0,.nils,.nils,.u32 0]):=⟨_,_,O,O,by decide,O⟩
instance : BsT prog 30 ([.u32 0,.nils,.nils,.u32 0]):=⟨_,_,_,O,O,O,O,by decide⟩
instance : ZrT prog 31 (.nilf):=⟨_,_,O,O,by decide,O⟩
instance : ZrT prog 32 (.nilf):=⟨_,_,O,O,by decide,O⟩
instance : ZrT prog 33 (.nils):=⟨_,_,O,O,by decide,O⟩
instance : EqT prog 34:=⟨by decide +kernel⟩
instance : ZrT prog 34 (.arr 32 1 ((List.replicate 32 0).map D.u8)):=⟨_,_,O,O,by decide,O⟩
instance : LdT prog 35 32 true:=⟨_,_,O,O,O,O⟩
instance : ArT prog 35 32 5:=⟨O⟩
instance : BaT prog 35 32 5 1:=⟨_,_,_,O,O,O,O,O,O⟩
instance : EqT prog 35:=⟨by decide +kernel⟩
instance : ZrT prog 35 (.arr 32 1 ((List.replicate 32 0).map D.u8)):=⟨_,_,O,O,by decide,O⟩
instance : ZrT prog 36 (.agg [.u32 0,.arr 32 1 ((List.replicate 32 0).map D.u8),.arr 32 1 ((List.replicate 32 0).map D.u8),.u32 0,.u32 0,.u32 0]):=⟨_,_,O,O,by decide,O⟩
instance : BsT prog 36 ([.u32 0,.arr 32 1 ((List.replicate 32 0).map D.u8),.arr 32 1 ((List.replicate 32 0).map D.u8),.u32 0,.u32 0,.u32 0]):=⟨_,_,_,O,O,O,O,by decide⟩
instance : ZrT prog 37 (.agg [.u32 0,.arr 32 1 ((List.replicate 32 0).map D.u8),.arr 32 1 ((List.replicate 32 0).map D.u8),.u32 0,.u32 0,.u32 0]):=⟨_,_,O,O,by decide,O⟩
instance : BsT prog 37 ([.u32 0,.arr 32 1 ((List.replicate 32 0).map D.u8),.arr 32 1 ((List.replicate 32 0).map D.u8),.u32 0,.u32 0,.u32 0]):=⟨_,_,_,O,O,O,O,by decide⟩
instance : ZrT prog 38 (.agg [.agg [.u32 0,.arr 32 1 ((List.replicate 32 0).map D.u8),.arr 32 1 ((List.replicate 32 0).map D.u8),.u32 0,.u32 0,.u32 0],.nils]):=⟨_,_,O,O,by decide,O⟩
instance : BsT prog 38 ([.agg [.u32 0,.arr 32 1 ((List.replicate 32 0).map D.u8),.arr 32 1 ((List.replicate 32 0).map D.u8),.u32 0,.u32 0,.u32 0],.nils]):=⟨_,_,_,O,O,O,O,by decide⟩
instance : ZrT prog 39 (.agg [.agg [.u32 0,.arr 32 1 ((List.replicate 32 0).map D.u8),.arr 32 1 ((List.replicate 32 0).map D.u8),.u32 0,.u32 0,.u32 0],.nils]):=⟨_,_,O,O,by decide,O⟩
instance : BsT prog 39 ([.agg [.u32 0,.arr 32 1 ((List.replicate 32 0).map D.u8),.arr 32 1 ((List.replicate 32 0).map D.u8),.u32 0,.u32 0,.u32 0],.nils]):=⟨_,_,_,O,O,O,O,by decide⟩
instance : ZrT prog 40 (.nils):=⟨_,_,O,O,by decide,O⟩
instance : ZrT prog 41 (.nilf):=⟨_,_,O,O,by decide,O⟩
instance : EqT prog 42:=⟨by decide +kernel⟩
instance : ZrT prog 42 (.agg [.arr 32 1 ((List.replicate 32 0).map D.u8),.u32 0]):=⟨_,_,O,O,by decide,O⟩
instance : BsT prog 42 ([.arr 32 1 ((List.replicate 32 0).map D.u8),.u32 0]):=⟨_,_,_,O,O,O,O,by decide⟩
instance : LdT prog 43 33 true:=⟨_,_,O,O,O,O⟩
instance : EqT prog 43:=⟨by decide +kernel⟩
instance : FdT prog 43 0 0:=⟨_,_,_,O,O,O,O,by decide⟩
instance : FdT prog 43 1 32:=⟨_,_,_,O,O,O,O,by decide⟩
instance : ZrT prog 43 (.agg [.arr 32 1 ((List.replicate 32 0).map D.u8),.u32 0]):=⟨_,_,O,O,by decide,O⟩
instance : BsT prog 43 ([.arr 32 1 ((List.replicate 32 0).map D.u8),.u32 0]):=⟨_,_,_,O,O,O,O,by decide⟩
instance : LdT prog 44 1 false:=⟨_,_,O,O,O,O⟩
instance : SlT prog 44 24:=⟨O⟩
instance : ZrT prog 44 (.nils):=⟨_,_,O,O,by decide,O⟩
instance : ZrT prog 45 (.agg [.agg [.arr 32 1 ((List.replicate 32 0).map D.u8),.u32 0],.nils,.u32 0,.nils]):=⟨_,_,O,O,by decide,O⟩
instance : BsT prog 45 ([.agg [.arr 32 1 ((List.replicate 32 0).map D.u8),.u32 0],.nils,.u32 0,.nils]):=⟨_,_,_,O,O,O,O,by decide⟩
instance : LdT prog 46 36 true:=⟨_,_,O,O,O,O⟩
instance : ElT prog 46 36 96:=⟨_,_,O,O,O,O,O,by decide,O⟩
instance : FdT prog 46 0 0:=⟨_,_,_,O,O,O,O,by decide⟩
instance : FdT prog 46 1 33:=⟨_,_,_,O,O,O,O,by decide⟩
instance : FdT prog 46 2 34:=⟨_,_,_,O,O,O,O,by decide⟩
instance : FdT prog 46 3 35:=⟨_,_,_,O,O,O,O,by decide⟩
instance : ZrT prog 46 (.agg [.agg [.arr 32 1 ((List.replicate 32 0).map D.u8),.u32 0],.nils,.u32 0,.nils]):=⟨_,_,O,O,by decide,O⟩
instance : BsT prog 46 ([.agg [.arr 32 1 ((List.replicate 32 0).map D.u8),.u32 0],.nils,.u32 0,.nils]):=⟨_,_,_,O,O,O,O,by decide⟩
instance : ZrT prog 47 (.agg [.u64 0,.nils]):=⟨_,_,O,O,by decide,O⟩
instance : BsT prog 47 ([.u64 0,.nils]):=⟨_,_,_,O,O,O,O,by decide⟩
instance : LdT prog 48 2 true:=⟨_,_,O,O,O,O⟩
instance : ElT prog 48 2 32:=⟨_,_,O,O,O,O,O,by decide,O⟩
instance : FdT prog 48 0 0:=⟨_,_,_,O,O,O,O,by decide⟩
instance : FdT prog 48 1 1:=⟨_,_,_,O,O,O,O,by decide⟩
instance : ZrT prog 48 (.agg [.u64 0,.nils]):=⟨_,_,O,O,by decide,O⟩
instance : BsT prog 48 ([.u64 0,.nils]):=⟨_,_,_,O,O,O,O,by decide⟩
instance : IkT prog 49 .i64:=⟨O⟩
instance : ZrT prog 49 (.int 0):=⟨_,_,O,O,by decide,O⟩
instance : ZrT prog 51 (.nilf):=⟨_,_,O,O,by decide,O⟩
instance : ZrT prog 53 (.nilf):=⟨_,_,O,O,by decide,O⟩
instance : ZrT prog 54 (.nilf):=⟨_,_,O,O,by decide,O⟩
instance : ZrT prog 55 (.nils):=⟨_,_,O,O,by decide,O⟩
instance : ZrT prog 56 (.nilf):=⟨_,_,O,O,by decide,O⟩
instance : ZrT prog 57 (.nilf):=⟨_,_,O,O,by decide,O⟩
instance : ZrT prog 59 (.nilf):=⟨_,_,O,O,by decide,O⟩
instance : ZrT prog 60 (.nilf):=⟨_,_,O,O,by decide,O⟩
instance : ZrT prog 61 (.nilf):=⟨_,_,O,O,by decide,O⟩
instance : ZrT prog 62 (.nilf):=⟨_,_,O,O,by decide,O⟩
instance : ZrT prog 63 (.nilf):=⟨_,_,O,O,by decide,O⟩
instance : SlT prog 64 26:=⟨O⟩
instance : ZrT prog 64 (.nils):=⟨_,_,O,O,by decide,O⟩
instance : IkT prog 65 .u16:=⟨O⟩
instance : ZrT prog 65 (.u16 0):=⟨_,_,O,O,by decide,O⟩
instance : EqT prog 66:=⟨by decide +kernel⟩
instance : ZrT prog 66 (.agg [.agg [.arr 32 1 ((List.replicate 32 0).map D.u8),.u32 0],.u64 0,.int 0]):=⟨_,_,O,O,by decide,O⟩
instance : BsT prog 66 ([.agg [.arr 32 1 ((List.replicate 32 0).map D.u8),.u32 0],.u64 0,.int 0]):=⟨_,_,_,O,O,O,O,by decide⟩
instance : LdT prog 67 35 true:=⟨_,_,O,O,O,O⟩
instance : ElT prog 67 35 56:=⟨_,_,O,O,O,O,O,by decide,O⟩
instance : EqT prog 67:=⟨by decide +kernel⟩
instance : FdT prog 67 0 0:=⟨_,_,_,O,O,O,O,by decide⟩
instance : FdT prog 67 1 33:=⟨_,_,_,O,O,O,O,by decide⟩
instance : ZrT prog 67 (.agg [.agg [.arr 32 1 ((List.replicate 32 0).map D.u8),.u32 0],.u64 0,.int 0]):=⟨_,_,O,O,by decide,O⟩
instance : BsT prog 67 ([.agg [.arr 32 1 ((List.replicate 32 0).map D.u8),.u32 0],.u64 0,.int 0]):=⟨_,_,_,O,O,O,O,by decide⟩
instance : ZrT prog 68 (.nilf):=⟨_,_,O,O,by decide,O⟩
instance : ZrT prog 69 (.agg [.nils,.u64 0]):=⟨_,_,O,O,by decide,O⟩
instance : BsT prog 69 ([.nils,.u64 0]):=⟨_,_,_,O,O,O,O,by decide⟩
instance : LdT prog 70 2 true:=⟨_,_,O,O,O,O⟩
instance : ElT prog 70 2 32:=⟨_,_,O,O,O,O,O,by decide,O⟩
instance : FdT prog 70 0 0:=⟨_,_,_,O,O,O,O,by decide⟩
instance : FdT prog 70 1 1:=⟨_,_,_,O,O,O,O,by decide⟩
instance : ZrT prog 70 (.agg [.nils,.u64 0]):=⟨_,_,O,O,by decide,O⟩
instance : BsT prog 70 ([.nils,.u64 0]):=⟨_,_,_,O,O,O,O,by decide⟩
instance : ZrT prog 71 (.nilf):=⟨_,_,O,O,by decide,O⟩
instance : ZrT prog 72 (.nilf):=⟨_,_,O,O,by decide,O⟩
instance : ZrT prog 74 (.nilf):=⟨_,_,O,O,by decide,O⟩
instance : ZrT prog 77 (.nilf):=⟨_,_,O,O,by decide,O⟩
instance : ZrT prog 78 (.nilf):=⟨_,_,O,O,by decide,O⟩
instance : ZrT prog 79 (.nilf):=⟨_,_,O,O,by decide,O⟩
instance : ZrT prog 80 (.nilf):=⟨_,_,O,O,by decide,O⟩
instance : ZrT prog 81 (.nilf):=⟨_,_,O,O,by decide,O⟩
instance : ZrT prog 82 (.nilf):=⟨_,_,O,O,by decide,O⟩
instance : ZrT prog 83 (.nilf):=⟨_,_,O,O,by decide,O⟩
instance : ZrT prog 84 (.nilf):=⟨_,_,O,O,by decide,O⟩
instance : ZrT prog 85 (.agg [.nils,.u64 0]):=⟨_,_,O,O,by decide,O⟩
instance : BsT prog 85 ([.nils,.u64 0]):=⟨_,_,_,O,O,O,O,by decide⟩
instance : ZrT prog 86 (.nilf):=⟨_,_,O,O,by decide,O⟩
instance : ZrT prog 87 (.nilf):=⟨_,_,O,O,by decide,O⟩
instance : ZrT prog 88 (.nilf):=⟨_,_,O,O,by decide,O⟩
instance : ZrT prog 89 (.nilf):=⟨_,_,O,O,by decide,O⟩
instance : ZrT prog 90 (.nilf):=⟨_,_,O,O,by decide,O⟩
instance : ZrT prog 91 (.nilf):=⟨_,_,O,O,by decide,O⟩
instance : IkT prog 92 .u64:=⟨O⟩
instance : ZrT prog 92 (.u64 0):=⟨_,_,O,O,by decide,O⟩
instance : ZrT prog 93 (.nilf):=⟨_,_,O,O,by decide,O⟩
instance : ZrT prog 94 (.nilf):=⟨_,_,O,O,by decide,O⟩
instance : ZrT prog 95 (.nilf):=⟨_,_,O,O,by decide,O⟩
instance : ZrT prog 96 (.nilf):=⟨_,_,O,O,by decide,O⟩
instance : ZrT prog 99 (.nilf):=⟨_,_,O,O,by decide,O⟩
instance : ZrT prog 100 (.nilf):=⟨_,_,O,O,by decide,O⟩
instance : IkT prog 101 .i64:=⟨O⟩
instance : ZrT prog 101 (.int 0):=⟨_,_,O,O,by decide,O⟩
instance : ZrT prog 103 (.nilf):=⟨_,_,O,O,by decide,O⟩
instance : ZrT prog 104 (.nilf):=⟨_,_,O,O,by decide,O⟩
instance : ZrT prog 105 (.nilf):=⟨_,_,O,O,by decide,O⟩
instance : ZrT prog 106 (.nilf):=⟨_,_,O,O,by decide,O⟩
instance : ZrT prog 107 (.nilf):=⟨_,_,O,O,by decide,O⟩
instance : ZrT prog 108 (.nilf):=⟨_,_,O,O,by decide,O⟩
instance : SlT prog 109 3:=⟨O⟩
instance : ZrT prog 109 (.nils):=⟨_,_,O,O,by decide,O⟩
instance : ZrT prog 110 (.nilf):=⟨_,_,O,O,by decide,O⟩
instance : ZrT prog 111 (.nilf):=⟨_,_,O,O,by decide,O⟩
instance : ZrT prog 112 (.nilp):=⟨_,_,O,O,by decide,O⟩
instance : ZrT prog 113 (.agg [.nils]):=⟨_,_,O,O,by decide,O⟩
instance : BsT prog 113 ([.nils]):=⟨_,_,_,O,O,O,O,by decide⟩
instance : FdT prog 114 0 0:=⟨_,_,_,O,O,O,O,by decide⟩
instance : ZrT prog 114 (.agg [.nils]):=⟨_,_,O,O,by decide,O⟩
instance : BsT prog 114 ([.nils]):=⟨_,_,_,O,O,O,O,by decide⟩
instance : ZrT prog 115 (.nilf):=⟨_,_,O,O,by decide,O⟩
instance : ZrT prog 116 (.nilf):=⟨_,_,O,O,by decide,O⟩
instance : ZrT prog 117 (.nilf):=⟨_,_,O,O,by decide,O⟩
instance : ZrT prog 118 (.nilf):=⟨_,_,O,O,by decide,O⟩
instance : ZrT prog 119 (.nilf):=⟨_,_,O,O,by decide,O⟩
instance : ZrT prog 120 (.nilf):=⟨_,_,O,O,by decide,O⟩
instance : IkT prog 121 .u64:=⟨O⟩
instance : ZrT prog 121 (.u64 0):=⟨_,_,O,O,by decide,O⟩
instance : ZrT prog 122 (.nilf):=⟨_,_,O,O,by decide,O⟩
instance : ZrT prog 123 (.nilf):=⟨_,_,O,O,by decide,O⟩
instance : ZrT prog 124 (.nilf):=⟨_,_,O,O,by decide,O⟩
instance : ZrT prog 125 (.nilp):=⟨_,_,O,O,by decide,O⟩
instance : ZrT prog 126 (.nilf):=⟨_,_,O,O,by decide,O⟩
instance : ZrT prog 127 (.nilf):=⟨_,_,O,O,by decide,O⟩
instance : ZrT prog 128 (.nilp):=⟨_,_,O,O,by decide,O⟩
instance : ZrT prog 130 (.nilf):=⟨_,_,O,O,by decide,O⟩
instance : ZrT prog 131 (.nilf):=⟨_,_,O,O,by decide,O⟩
instance : ZrT prog 132 (.agg [.nilp,.nilp,.nilp,.str []]):=⟨_,_,O,O,by decide,O⟩
instance : BsT prog 132 ([.nilp,.nilp,.nilp,.str []]):=⟨_,_,_,O,O,O,O,by decide⟩
instance : ZrT prog 133 (.agg [.nilp,.nilp,.nilp,.str []]):=⟨_,_,O,O,by decide,O⟩
instance : BsT prog 133 ([.nilp,.nilp,.nilp,.str []]):=⟨_,_,_,O,O,O,O,by decide⟩
instance : ZrT prog 137 (.nilf):=⟨_,_,O,O,by decide,O⟩
instance : IkT prog 138 .u8:=⟨O⟩
instance : ZrT prog 138 (.u8 0):=⟨_,_,O,O,by decide,O⟩
instance : IkT prog 139 .u8:=⟨O⟩
instance : ZrT prog 139 (.u8 0):=⟨_,_,O,O,by decide,O⟩
instance : ZrT prog 140 (.nilf):=⟨_,_,O,O,by decide,O⟩
instance : ZrT prog 141 (.nilp):=⟨_,_,O,O,by decide,O⟩
instance : IkT prog 142 .i32:=⟨O⟩
instance : ZrT prog 142 (.ik .i32 0):=⟨_,_,O,O,by decide,O⟩
instance : IkT prog 143 .i32:=⟨O⟩
instance : ZrT prog 143 (.ik .i32 0):=⟨_,_,O,O,by decide,O⟩
instance : ZrT prog 144 (.agg [.u64 0,.u64 0,.u32 0,.u8 0,.u8 0,.u8 0,.u8 0,.nilf,.nilp,.ik .i32 0,.ik .i32 0]):=⟨_,_,O,O,by decide,O⟩
instance : BsT prog 144 ([.u64 0,.u64 0,.u32 0,.u8 0,.u8 0,.u8 0,.u8 0,.nilf,.nilp,.ik .i32 0,.ik .i32 0]):=⟨_,_,_,O,O,O,O,by decide⟩
instance : ZrT prog 145 (.agg [.u64 0,.u64 0,.u32 0,.u8 0,.u8 0,.u8 0,.u8 0,.nilf,.nilp,.ik .i32 0,.ik .i32 0]):=⟨_,_,O,O,by decide,O⟩
instance : BsT prog 145 ([.u64 0,.u64 0,.u32 0,.u8 0,.u8 0,.u8 0,.u8 0,.nilf,.nilp,.ik .i32 0,.ik .i32 0]):=⟨_,_,_,O,O,O,O,by decide⟩
instance : CaT prog 8:=⟨_,Try.func8,by decide,by decide⟩
instance : CaT prog 9:=⟨_,Try.func9,by decide,by decide⟩
instance : CaT prog 11:=⟨_,Try.func11,by decide,by decide⟩
instance : CaT prog 14:=⟨_,Try.func14,by decide,by decide⟩
instance : CaT prog 15:=⟨_,Try.func15,by decide,by decide⟩
instance : CaT prog 17:=⟨_,Try.func17,by decide,by decide⟩
instance : CaT prog 18:=⟨_,Try.func18,by decide,by decide⟩
instance : CaT prog 20:=⟨_,Try.func20,by decide,by decide⟩
instance : CaT prog 21:=⟨_,Try.func21,by decide,by decide⟩
instance : CaT prog 22:=⟨_,Try.func22,by decide,by decide⟩
instance : CaT prog 23:=⟨_,Try.func23,by decide,by decide⟩
instance : CaT prog 24:=⟨_,Try.func24,by decide,by decide⟩
instance : CaT prog 25:=⟨_,Try.func25,by decide,by decide⟩
instance : CaT prog 27:=⟨_,Try.func27,by decide,by decide⟩
instance : CaT prog 31:=⟨_,Try.func31,by decide,by decide⟩
instance : CaT prog 32:=⟨_,Try.func32,by decide,by decide⟩
instance : CaT prog 33:=⟨_,Try.func33,by decide,by decide⟩
instance : CaT prog 35:=⟨_,Try.func35,by decide,by decide⟩
instance : CaT prog 38:=⟨_,Try.func38,by decide,by decide⟩
instance : CaT prog 39:=⟨_,Try.func39,by decide,by decide⟩
instance : CaT prog 40:=⟨_,Try.func40,by decide,by decide⟩
instance : CaT prog 41:=⟨_,Try.func41,by decide,by decide⟩
instance : CaT prog 42:=⟨_,Try.func42,by decide,by decide⟩
instance : CaT prog 54:=⟨_,Try.func54,by decide,by decide⟩
instance : CaT prog 56:=⟨_,Try.func56,by decide,by decide⟩
instance : CaT prog 57:=⟨_,Try.func57,by decide,by decide⟩
instance : CaT prog 58:=⟨_,Try.func58,by decide,by decide⟩
instance : CaT prog 59:=⟨_,Try.func59,by decide,by decide⟩
instance : CaT prog 60:=⟨_,Try.func60,by decide,by decide⟩
instance : CaT prog 61:=⟨_,Try.func61,by decide,by decide⟩
instance : CaT prog 62:=⟨_,Try.func62,by decide,by decide⟩
instance : MkT prog 75 43 25:=⟨Try.underlying75⟩
instance : MkT prog 97 43 3:=⟨Try.underlying97⟩
def gl : List (Nat × D):=[]
theorem hP : Try.prog.follows .mixedOrders = true:=Try.checked.mixed
end Go.Sx

namespace Go.Sx
end Go.Sx

namespace Go.Sx
instance : Inhabited ShaS:=⟨ShaS.zero⟩
end Go.Sx

namespace Go.Sx
abbrev Hs:=List UInt8
structure InS where
 tx : Hs
 n : UInt32
 script : List UInt8
 seq : UInt32
 wit : List (List UInt8)
 deriving Inhabited
structure OutS where
 value : UInt64
 script : List UInt8
 deriving Inhabited
structure TxS where
 ver : UInt32
 ins : List InS
 outs : List OutS
 lock : UInt32
 deriving Inhabited
def inD (x : InS) : D:=.agg [.agg [hashD x.tx,.u32 x.n],bytesD x.script,.u32 x.seq,.sl none 1 (x.wit.map bytesD)]
def outD (o : OutS) : D:=.agg [.u64 o.value,bytesD o.script]
def txD (t : TxS) : D:=.agg [.u32 t.ver,.sl none 36 (t.ins.map inD),.sl none 2 (t.outs.map outD),.u32 t.lock]
def shN (x : UInt64) : Nat -> UInt64
 | 0=>x
 | i + 1=>shr_u64 (shN x i) 8
def lowI (x : UInt64) : Nat -> List UInt8
 | 0=>[]
 | i + 1=>lowI x i ++ [(shN x i).toUInt8]
theorem lowI_len (x : UInt64) (i : Nat) : (lowI x i).length = i:=by induction i with
 | zero=>rfl
 | succ i ih=>simp [lowI,ih]
def cU (n : Nat) : UInt64:=UInt64.ofInt ((n : Nat) : Int)
def countS (n : Nat) : List UInt8:=
 if cU n < 253 then lowI (cU n) 1 else if cU n <= 65535 then lowI 253 1 ++ lowI (cU n) 2 else if cU n <= 4294967295 then lowI 254 1 ++ lowI (cU n) 4 else lowI 255 1 ++ lowI (cU n) 8
theorem countS_len (n : Nat) : (countS n).length <= 9:=by
 unfold countS
 split
 · simp [lowI_len]
 · split
   · simp [lowI_len]
   · split <;> simp [lowI_len]
def itemS (b : List UInt8) : List UInt8:=countS b.length ++ b
theorem itemS_len (b : List UInt8) : (itemS b).length <= 9 + b.length:=by
 have:=countS_len b.length
 simp [itemS]; omega
def inS (x : InS) : List UInt8:=x.tx ++ lowI x.n.toUInt64 4 ++ itemS x.script ++ lowI x.seq.toUInt64 4
def outS' (o : OutS) : List UInt8:=lowI o.value 8 ++ itemS o.script
def insS (l : List InS) : Nat -> List UInt8
 | 0=>[]
 | i + 1=>insS l i ++ inS l[i]!
def outsS (l : List OutS) : Nat -> List UInt8
 | 0=>[]
 | i + 1=>outsS l i ++ outS' l[i]!
def bodyS (t : TxS) : List UInt8:=countS t.ins.length ++ insS t.ins t.ins.length ++ countS t.outs.length ++ outsS t.outs t.outs.length
def bareS (t : TxS) : List UInt8:=lowI t.ver.toUInt64 4 ++ bodyS t ++ lowI t.lock.toUInt64 4
def witS (l : List (List UInt8)) : Nat -> List UInt8
 | 0=>[]
 | i + 1=>witS l i ++ itemS l[i]!
def witsS (l : List InS) : Nat -> List UInt8
 | 0=>[]
 | i + 1=>witsS l i ++ countS l[i]!.wit.length ++ witS l[i]!.wit l[i]!.wit.length
def seenS (t : TxS) : Bool:=t.ins.any fun x=>decide (0 < x.wit.length)
def putS (t : TxS) : List UInt8:=if seenS t then lowI t.ver.toUInt64 4 ++ [0,1] ++ bodyS t ++ witsS t.ins t.ins.length ++ lowI t.lock.toUInt64 4 else bareS t
structure TxS.wf (t : TxS) : Prop where
 ins : t.ins.length <= 1000000
 outs : t.outs.length <= 1000000
 hash : ∀ x ∈ t.ins,x.tx.length = 32
 scr : ∀ x ∈ t.ins,x.script.length <= 1000000
 oscr : ∀ x ∈ t.outs,x.script.length <= 1000000
 insb : ∀ i ≤ t.ins.length,(insS t.ins i).length <= 1500000
 outsb : ∀ i ≤ t.outs.length,(outsS t.outs i).length <= 1500000
 witsb : ∀ i ≤ t.ins.length,(witsS t.ins i).length <= 1500000
 witl : ∀ x ∈ t.ins,x.wit.length <= 1000000 /\ ∀ i ≤ x.wit.length,(witS x.wit i).length <= 1500000
 witi : ∀ x ∈ t.ins,∀ b ∈ x.wit,b.length <= 1000000
theorem get_mem {α : Type} [Inhabited α] {l : List α} {i : Nat} (h : i < l.length) : l[i]! ∈ l:=by
 rw [getElem!_pos l i h]; exact List.getElem_mem h
theorem TxS.wf.insScript {t : TxS} (h : t.wf) {i : Nat} (hi : i < t.ins.length) : t.ins[i]!.script.length <= 1000000:=h.scr _ (get_mem hi)
theorem TxS.wf.outScript {t : TxS} (h : t.wf) {i : Nat} (hi : i < t.outs.length) : t.outs[i]!.script.length <= 1000000:=h.oscr _ (get_mem hi)
theorem TxS.wf.body {t : TxS} (h : t.wf) : (bodyS t).length <= 3000018:=by
 have h1:=countS_len t.ins.length
 have h2:=countS_len t.outs.length
 have h3:=h.insb _ (Nat.le_refl _)
 have h4:=h.outsb _ (Nat.le_refl _)
 simp only [bodyS,List.length_append]
 omega
theorem seen_true {t : TxS} {i : Nat} (hi : i < t.ins.length) (h : 0 < t.ins[i]!.wit.length) : seenS t = true:=by
 unfold seenS
 rw [List.any_eq_true]
 exact ⟨_,get_mem hi,by simpa using h⟩
theorem seen_false {t : TxS} (h : ∀ k < t.ins.length,¬ 0 < t.ins[k]!.wit.length) : seenS t = false:=by
 unfold seenS
 rw [List.any_eq_false]
 intro x hx
 obtain ⟨k,hk,rfl⟩:=List.mem_iff_getElem.1 hx
 have:=h k hk
 rw [getElem!_pos t.ins k hk] at this
 simpa using this
section
variable {b r r0 r1 r2 r3 r4 r5 x s u : List UInt8} {p q : UInt64} {i j n m : Nat} {l : List InS} {o : List OutS}
end
end Go.Sx

namespace Go.Sx
open Go.Proofs
abbrev Plc:=Hs × UInt32
def placeK (p : Plc) : D:=.agg [hashD p.1,.u32 p.2]
def plc (x : InS) : Plc:=(x.tx,x.n)
theorem EqV.up {P : Program} {k : Nat} {t : TypeId} {d1 d2 : D} {b : Bool} (h : EqV P k t d1 d2 b) (j : Nat) : EqV P (k + j) t d1 d2 b:=by
 intro n w ρ1 ρ2 G1 G2 L1 L2 v1 v2 F1 F2 h1 h2
 have:=h (n + j) w ρ1 ρ2 G1 G2 L1 L2 v1 v2 F1 F2 h1 h2
 rwa [show n + (k + j) = n + j + k by omega]
theorem eqv_place (a b : Plc) : EqV Try.prog 3 43 (placeK a) (placeK b) (a == b):=by
 have h32 : ∀ x y : UInt32,EqV Try.prog 2 26 (.u32 x) (.u32 y) (x == y):=fun x y=>(EqV.u32 Try.underlying26 x y).up 1
 have hh : ∀ x y : Hs,EqV Try.prog 2 35 (hashD x) (hashD y) (x == y):=fun x y=>EqV.arr x y
 have:=EqV.struct (k:=2) Try.underlying43 (by kernel_rfl) (.cons rfl rfl inferInstance rfl rfl rfl rfl (hh a.1 b.1) (.cons rfl rfl inferInstance rfl rfl rfl rfl (h32 a.2 b.2) .nil))
 rw [Bool.and_true] at this
 exact this
theorem place_key : KeyC Try.prog 43 placeK 3 where
 s:=⟨_,Try.underlying43⟩
 eq:=fun a b=>by
  have h:=eqv_place a b
  have e : (@BEq.beq Plc instBEqProd a b) = (@BEq.beq Plc instBEqOfDecidableEq a b):=by
   rw [Bool.eq_iff_iff,@beq_iff_eq Plc instBEqProd _ a b,@beq_iff_eq Plc instBEqOfDecidableEq _ a b]
  rw [<- e]
  exact h
 ck:=fun a=>CkV.struct (k:=2) Try.underlying43 (.cons rfl rfl inferInstance rfl rfl (CkV.arr a.1) (.cons rfl rfl inferInstance rfl rfl (CkV.more (CkV.u32 Try.underlying26 a.2)) .nil))
 n:=rfl
 p:=fun _=>rfl
def seenM (l : List InS) : Nat -> List (Plc × Int)
 | 0=>[]
 | i + 1=>seenM l i ++ [(plc l[i]!,((i : Nat) : Int))]
def sumI (l : List OutS) : Nat -> UInt64
 | 0=>0
 | i + 1=>sumI l i + l[i]!.value
def mayP (t : TxS) : Prop:=
 t.ins.length ≠ 0 /\ t.outs.length ≠ 0 /\ (∀ i < t.ins.length,kHas (seenM t.ins i) (plc t.ins[i]!) = false) /\ (∀ i < t.outs.length,¬ 2100000000000000 < t.outs[i]!.value /\ ¬ 2100000000000000 < sumI t.outs (i + 1)) /\ (putS t).length <= 16384
instance (t : TxS) : Decidable (mayP t):=by unfold mayP; infer_instance
def mayS (t : TxS) : Bool:=decide (mayP t)
theorem may_f1 {t : TxS} (h : t.ins.length = 0) : mayS t = false:=decide_eq_false fun hm=>hm.1 h
theorem may_f2 {t : TxS} (h : t.outs.length = 0) : mayS t = false:=decide_eq_false fun hm=>hm.2.1 h
theorem may_f3 {t : TxS} {i : Nat} (hi : i < t.ins.length) (h : kHas (seenM t.ins i) (plc t.ins[i]!) = true) : mayS t = false:=decide_eq_false fun hm=>by have:=hm.2.2.1 i hi; rw [h] at this; cases this
theorem may_f4 {t : TxS} {i : Nat} (hi : i < t.outs.length) (h : 2100000000000000 < t.outs[i]!.value) : mayS t = false:=decide_eq_false fun hm=>(hm.2.2.2.1 i hi).1 h
theorem may_f5 {t : TxS} {i : Nat} (hi : i < t.outs.length) (h : 2100000000000000 < sumI t.outs (i + 1)) : mayS t = false:=decide_eq_false fun hm=>(hm.2.2.2.1 i hi).2 h
theorem may_fin {t : TxS} (h1 : ¬ t.ins.length = 0) (h2 : ¬ t.outs.length = 0) (h3 : ∀ i < t.ins.length,kHas (seenM t.ins i) (plc t.ins[i]!) = false)
 (h4 : ∀ i < t.outs.length,¬ 2100000000000000 < t.outs[i]!.value /\ ¬ 2100000000000000 < sumI t.outs (i + 1)) : mayS t = decide ((putS t).length <= 16384):=by
 unfold mayS mayP
 simp only [ne_eq,h1,h2,not_false_eq_true,true_and,decide_eq_decide]
 exact ⟨fun h=>h.2.2,fun h=>⟨h3,h4,h⟩⟩
end Go.Sx

namespace Go.Sx
open Go.Proofs
end Go.Sx
