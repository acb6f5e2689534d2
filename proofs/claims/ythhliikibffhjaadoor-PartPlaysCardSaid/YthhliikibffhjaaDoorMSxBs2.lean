/-
 Own library: an own slice that lies in a box is opened: its block is a box of its own then; and shut again,to be read only.
-/
import Derived.Test.YthhliikibffhjaaDoorMSxCallB
import Derived.Recover
import Derived.Test.YthhliikibffhjaaDoorMSxOwn
import Derived.Test.YthhliikibffhjaaDoorMSxRange
import Derived.Test.YthhliikibffhjaaDoorProg
set_option linter.unusedVariables false
set_option linter.unusedSimpArgs false
set_option linter.unnecessarySimpa false

namespace Go.Sx

variable {P : Program} {C : Ctx} {σ σ' σ1 : Sg} {a : Act} {w w' : World} {ρ : Nat → Nat} {Fe Fe' Fb : Nat → List Nat}

theorem szs_uni {z : Nat} : ∀ (l : List D),(∀ x ∈ l,x.sz = z) → D.szs l = l.length * z := by
 intro l
 induction l with
 | nil => intro _; simp
 | cons x r ih =>
  intro h
  simp only [szs_cons,List.length_cons]
  rw [h x (by simp),ih (fun y hy => h y (List.mem_cons_of_mem _ hy)),Nat.add_mul,Nat.one_mul,Nat.add_comm]
theorem offk_uni {z : Nat} (l r : List D) (h : ∀ x ∈ l,x.sz = z) (k : Nat) (hk : k ≤ l.length) : offk (l ++ r) k = k * z := by
 unfold offk
 rw [List.take_append_of_le_length hk,szs_uni (l.take k) (fun x hx => h x (List.mem_of_mem_take hx)),List.length_take,Nat.min_eq_left hk]
theorem offk_tail {z : Nat} (l : List D) (h : ∀ x ∈ l,x.sz = z) (m j : Nat) (hj : j ≤ m) : offk (l ++ List.replicate m .dead) (l.length + j) = l.length * z + j := by
 unfold offk
 rw [List.take_append,List.take_of_length_le (by omega),szs_append,szs_uni l h]
 have : l.length + j - l.length = j := by omega
 rw [this,List.take_replicate,Nat.min_eq_left hj,szs_dead]

theorem Rc.open {G L : Nat → Prop} {e z : Nat} {l : List D} {v : Value} {F : List Nat} (h : Rc w ρ G L true (.sl (some e) z l) [v] F) (hne : l ≠ []) (hF : F.Nodup) :
 ∃ b csb cap F1,v = .slice (some ⟨b,0,none⟩) l.length cap ∧ w.heap[b]? = some (.cells csb e (0,0)) ∧ l.length ≤ cap ∧ cap ≤ maxLen ∧ (b :: F1).Nodup ∧ (∀ y ∈ b :: F1,y ∈ F) ∧
  Rc w ρ G L true (.agg (l ++ List.replicate ((cap - l.length) * z) .dead)) csb.toList F1 := by
 generalize hv : [v] = cv at h
 cases h with
 | slN => exact absurd rfl hne
 | slE => exact absurd rfl hne
 | slO b cs e cap z l Fs hb hc hm hs ho hr =>
  cases hv
  obtain ⟨hn1,hn2⟩ := List.nodup_cons.1 hF
  obtain ⟨hn3,hn4⟩ := flat_nodup hn2
  have hlz : l.length * z ≤ cs.size := by rw [hs]; exact Nat.mul_le_mul_right z hc
  have hsz : ∀ x ∈ l,x.sz = z := by
   intro x hx
   obtain ⟨i,hi,rfl⟩ := List.mem_iff_getElem.1 hx
   rw [← (hr i hi).len]
   have := Nat.mul_le_mul_right z (show i + 1 ≤ l.length by omega)
   rw [Nat.add_mul] at this
   simp; omega
  have hcap : (cap - l.length) * z = cap * z - l.length * z := Nat.sub_mul _ _ _
  let m := (cap - l.length) * z
  refine ⟨b,cs,cap,(List.range (l ++ List.replicate m D.dead).length).flatMap (fun k => if k < l.length then Fs k else []),rfl,hb,hc,hm, ?_, ?_, ?_⟩
  · refine List.nodup_cons.2 ⟨fun hm' => hn1 ?_,flat_nodup_mk (fun i hi => ?_) (fun i j hi hj hij y hy hy' => ?_)⟩
    · obtain ⟨i,_,hx⟩ := List.mem_flatMap.1 hm'
      by_cases hil : i < l.length
      · simp only [hil,if_true] at hx; exact List.mem_flatMap.2 ⟨i,List.mem_range.2 hil,hx⟩
      · simp [hil] at hx
    · by_cases hil : i < l.length
      · simp only [hil,if_true]; exact hn3 i hil
      · simp [hil]
    · by_cases hil : i < l.length
      · by_cases hjl : j < l.length
        · simp only [hil,hjl,if_true] at hy hy'; exact hn4 i j hil hjl hij y hy hy'
        · simp [hjl] at hy'
      · simp [hil] at hy
  · intro y hy
    rcases List.mem_cons.1 hy with rfl | hy
    · simp
    · obtain ⟨i,_,hx⟩ := List.mem_flatMap.1 hy
      by_cases hil : i < l.length
      · simp only [hil,if_true] at hx; exact List.mem_cons_of_mem _ (List.mem_flatMap.2 ⟨i,List.mem_range.2 hil,hx⟩)
      · simp [hil] at hx
  · refine .agg _ _ _ ?_ (fun k hk => ?_)
    · rw [szs_append,szs_uni l hsz,szs_dead]
      simp only [Array.length_toList,m]; omega
    · by_cases hkl : k < l.length
      · simp only [List.getElem_append_left hkl,hkl,if_true]
        rw [offk_uni l _ hsz k (by omega),hsz _ (List.getElem_mem hkl)]
        exact (hr k hkl).flag
      · have hk' : k < l.length + m := by simpa using hk
        obtain ⟨j,rfl⟩ : ∃ j,k = l.length + j := ⟨k - l.length,by omega⟩
        simp only [hkl,if_false]
        rw [List.getElem_append_right (by omega),List.getElem_replicate,offk_tail l hsz m j (by omega)]
        have hjl : l.length * z + j < cs.toList.length := by simp only [Array.length_toList,m] at hk' ⊢; omega
        have : (cs.toList.drop (l.length * z + j)).take 1 = [cs.toList[l.length * z + j]] := by
         rw [List.drop_eq_getElem_cons hjl]; rfl
        show Rc w ρ G L true .dead ((cs.toList.drop (l.length * z + j)).take 1) []
        rw [this]
        exact .dead _ (ho _ (List.getElem_mem hjl))

theorem St.openB {id id0 off e z : Nat} {path : List Nat} {l : List D} {d0 d1 : D} {d2 : Nat → D} (hb0 : σ.box id0 = some (.var d0)) (hl : d0.loc path = some (off,.sl (some e) z l)) (hna : d0.noArr path = true) (hu : d0.upd path .dead = some d1)
 (hl1 : d1.loc path = some (off,.dead)) (hna1 : d1.noArr path = true) (hu1 : ∀ cap,d1.upd path (.bs id z l.length cap) = some (d2 cap)) (hne : l ≠ []) (hid : σ.box id = none) (hs : St C σ a w) :
 ∃ cap,l.length ≤ cap ∧ cap ≤ maxLen ∧ St C ⟨σ.n,σ.env,(id,.var (.agg (l ++ List.replicate ((cap - l.length) * z) .dead))) :: setb id0 (.var (d2 cap)) σ.bx⟩ a w := by
 obtain ⟨ρ,Fe,Fb,st⟩ := hs
 obtain ⟨cs,e0,F',q1,q2,q3⟩ := st.bx id0 _ hb0
 have hnd : (ρ id0 :: F').Nodup := by have := st.nodB id0; rw [q3] at this; exact this
 obtain ⟨hn1,hn2⟩ := List.nodup_cons.1 hnd
 obtain ⟨v,F1,F2,t1,t2,t3,t4,t5,t6,t7,t8,t9⟩ := q2.take hl hna hu hn2
 obtain ⟨b,csb,cap,F3,rfl,o2,o3,o4,o5,o6,o7⟩ := t2.open hne t6
 have hii : id ≠ id0 := by rintro rfl; rw [hb0] at hid; cases hid
 have hbox : ∀ i,(⟨σ.n,σ.env,(id,.var (.agg (l ++ List.replicate ((cap - l.length) * z) .dead))) :: setb id0 (.var (d2 cap)) σ.bx⟩ : Sg).box i = if i = id then some (.var (.agg (l ++ List.replicate ((cap - l.length) * z) .dead))) else if i = id0 then some (.var (d2 cap)) else σ.box i := fun i => by
  show lk (_ :: _) i = _
  rw [lk_cons,lk_setb]
  by_cases h1 : i = id
  · simp [h1]
  · simp only [h1,show ¬ id = i from fun e => h1 e.symm,if_false]
    by_cases h2 : i = id0
    · subst h2
      have : lk σ.bx i = some (.var d0) := hb0
      simp [this]
    · simp [h2]; rfl
 have hρ : ∀ i,(σ.box i).isSome = true → (((⟨σ.n,σ.env,(id,.var (.agg (l ++ List.replicate ((cap - l.length) * z) .dead))) :: setb id0 (.var (d2 cap)) σ.bx⟩ : Sg).box i).isSome = true ∧ updR ρ id b i = ρ i) := fun i hi => by
  have h1 : i ≠ id := by rintro rfl; rw [hid] at hi; cases hi
  refine ⟨?_,updR_other h1⟩
  rw [hbox,if_neg h1]
  by_cases h2 : i = id0
  · simp [h2]
  · simpa [h2] using hi
 have hmo0 : ∀ {d : D} {cs : List Value} {F : List Nat},Rc w ρ (gd C Fe Fb) (fun i => (σ.box i).isSome = true) true d cs F →
  Rc w (updR ρ id b) (gd C Fe Fb) (fun i => ((⟨σ.n,σ.env,(id,.var (.agg (l ++ List.replicate ((cap - l.length) * z) .dead))) :: setb id0 (.var (d2 cap)) σ.bx⟩ : Sg).box i).isSome = true) true d cs F :=
  fun h => h.mono (fun _ _ _ => rfl) (fun y hy _ => hy) hρ
 have hoff : off < cs.toList.length := (List.getElem?_eq_some_iff.1 t1).1
 have hv : cs.toList[off] = .slice (some ⟨b,0,none⟩) l.length cap := (List.getElem?_eq_some_iff.1 t1).2
 have hbsv : Rc w (updR ρ id b) (gd C Fe Fb) (fun i' => ((⟨σ.n,σ.env,(id,.var (.agg (l ++ List.replicate ((cap - l.length) * z) .dead))) :: setb id0 (.var (d2 cap)) σ.bx⟩ : Sg).box i').isSome = true) true (.bs id z l.length cap) [.slice (some ⟨b,0,none⟩) l.length cap] [] := by
  have := Rc.bs (w := w) (ρ := updR ρ id b) (G := gd C Fe Fb) (L := fun i' => ((⟨σ.n,σ.env,(id,.var (.agg (l ++ List.replicate ((cap - l.length) * z) .dead))) :: setb id0 (.var (d2 cap)) σ.bx⟩ : Sg).box i').isSome = true) id z l.length cap (by rw [hbox]; simp) o3
  rwa [updR_same] at this
 obtain ⟨F4,r1,r2,r3,_,_⟩ := (hmo0 t3).updP hl1 (hu1 cap) rfl hbsv t7 List.nodup_nil (by simp) hna1
 have hcs : cs.toList.take off ++ [Value.slice (some ⟨b,0,none⟩) l.length cap] ++ cs.toList.drop (off + 1) = cs.toList := by
  rw [← hv,List.append_assoc,List.singleton_append,← List.drop_eq_getElem_cons hoff,List.take_append_drop]
 simp only [List.length_singleton] at r1
 rw [hcs] at r1
 have r2' : ∀ y ∈ F4,y ∈ F2 := fun y hy => (r2 y hy).resolve_right (by simp)
 -- who owns what
 let Fb' : Nat → List Nat := upd (upd Fb id0 (ρ id0 :: F4)) id (b :: F3)
 have hF2 : ∀ y ∈ ρ id0 :: F4,y ∈ Fb id0 := fun y hy => by
  rw [q3]; rcases List.mem_cons.1 hy with rfl | hy
  · simp
  · exact List.mem_cons_of_mem _ (t5 y (r2' y hy))
 have hF3 : ∀ y ∈ b :: F3,y ∈ Fb id0 := fun y hy => by rw [q3]; exact List.mem_cons_of_mem _ (t4 y (o6 y hy))
 have hF23 : ∀ y ∈ b :: F3,y ∉ ρ id0 :: F4 := fun y hy hy' => by
  rcases List.mem_cons.1 hy' with rfl | hy'
  · exact hn1 (t4 _ (o6 _ hy))
  · exact t8 y (o6 y hy) (r2' y hy')
 have hsub : ∀ i,∀ y ∈ Fb' i,(i = id ∨ i = id0) ∧ y ∈ Fb id0 ∨ (i ≠ id ∧ i ≠ id0 ∧ y ∈ Fb i) := fun i y hy => by
  by_cases h1 : i = id
  · subst h1; simp only [Fb',upd_same] at hy; exact .inl ⟨.inl rfl,hF3 y hy⟩
  · simp only [Fb',upd_other h1] at hy
    by_cases h2 : i = id0
    · subst h2; rw [upd_same] at hy; exact .inl ⟨.inr rfl,hF2 y hy⟩
    · rw [upd_other h2] at hy; exact .inr ⟨h1,h2,hy⟩
 have hown : ∀ y,own Fe Fb' y → own Fe Fb y := fun y hy => hy.imp (fun h => h) fun ⟨i,hi⟩ => by
  rcases hsub i y hi with ⟨_,h⟩ | ⟨_,_,h⟩
  · exact ⟨id0,h⟩
  · exact ⟨i,h⟩
 have hg : ∀ y,gd C Fe Fb y → gd C Fe Fb' y := fun y hy => ⟨hy.1,fun hc => hy.2 (hown y hc)⟩
 have hmo : ∀ {d : D} {cs : List Value} {F : List Nat},Rc w ρ (gd C Fe Fb) (fun i => (σ.box i).isSome = true) true d cs F →
  Rc w (updR ρ id b) (gd C Fe Fb') (fun i => ((⟨σ.n,σ.env,(id,.var (.agg (l ++ List.replicate ((cap - l.length) * z) .dead))) :: setb id0 (.var (d2 cap)) σ.bx⟩ : Sg).box i).isSome = true) true d cs F :=
  fun h => h.mono (fun _ _ _ => rfl) (fun y hy _ => hg y hy) hρ
 refine ⟨cap,o3,o4,updR ρ id b,Fe,Fb',{
  size := st.size
  defs := st.defs
  pin := fun i y hp => ?_
  env := fun u d hd => SR_lend (st.env u d hd) (fun _ _ _ => rfl) (fun y hy _ => hg y hy) hρ (fun _ _ _ _ _ => rfl)
  envN := fun u hu => st.envN u hu
  bx := fun i x hx => ?_
  bxN := fun i hx => ?_
  nodE := st.nodE
  nodB := fun i => ?_
  dEE := st.dEE
  dEB := fun u i y h1 h2 => ?_
  dBB := fun i i' hne y h1 h2 => ?_
  new := fun y hy => st.new y (hown y hy)
  kept := st.kept
  os := st.os
  tape := st.tape
  output := st.output
  grown := st.grown
  gl := st.gl
  okN := st.okN
  okO := fun y hy => st.okO y (hown y hy) }⟩
 · have := hρ i (st.pin i y hp).2
   exact ⟨this.2.trans (st.pin i y hp).1,this.1⟩
 · rw [hbox] at hx
   by_cases h1 : i = id
   · subst h1
     simp only [if_true,Option.some.injEq] at hx
     subst hx
     refine ⟨csb,e,F3, ?_,hmo o7, ?_⟩
     · rw [updR_same]; exact o2
     · simp only [Fb',upd_same,updR_same]
   · simp only [h1,if_false] at hx
     by_cases h2 : i = id0
     · subst h2
       simp only [if_true,Option.some.injEq] at hx
       subst hx
       refine ⟨cs,e0,F4, ?_,r1.mono (fun _ _ _ => rfl) (fun y hy _ => hg y hy) (fun i hi => ⟨hi,rfl⟩), ?_⟩
       · rw [updR_other h1]; exact q1
       · simp only [Fb',upd_other h1,upd_same,updR_other h1]
     · simp only [h2,if_false] at hx
       simp only [Fb',upd_other h1,upd_other h2,updR_other h1]
       exact (st.bx i x hx).mono (fun _ _ _ => rfl) (fun y hy _ => hg y hy) hρ
 · rw [hbox] at hx
   by_cases h1 : i = id
   · simp [h1] at hx
   · simp only [h1,if_false] at hx
     by_cases h2 : i = id0
     · simp [h2] at hx
     · simp only [h2,if_false] at hx
       simp only [Fb',upd_other h1,upd_other h2]
       exact st.bxN i hx
 · by_cases h1 : i = id
   · subst h1; simp only [Fb',upd_same]; exact o5
   · simp only [Fb',upd_other h1]
     by_cases h2 : i = id0
     · subst h2; rw [upd_same]; exact List.nodup_cons.2 ⟨fun hm => hn1 (t5 _ (r2' _ hm)),r3⟩
     · rw [upd_other h2]; exact st.nodB i
 · rcases hsub i y h2 with ⟨_,h⟩ | ⟨_,_,h⟩
   · exact st.dEB u id0 y h1 h
   · exact st.dEB u i y h1 h
 · by_cases h3 : i = id
   · subst h3
     simp only [Fb',upd_same] at h1
     simp only [Fb',upd_other (fun e => hne e.symm)] at h2
     by_cases h4 : i' = id0
     · subst h4; rw [upd_same] at h2; exact hF23 y h1 h2
     · rw [upd_other h4] at h2; exact st.dBB id0 i' (fun e => h4 e.symm) y (hF3 y h1) h2
   · simp only [Fb',upd_other h3] at h1
     by_cases h5 : i' = id
     · subst h5
       simp only [Fb',upd_same] at h2
       by_cases h4 : i = id0
       · subst h4; rw [upd_same] at h1; exact hF23 y h2 h1
       · rw [upd_other h4] at h1; exact st.dBB i id0 h4 y h1 (hF3 y h2)
     · simp only [Fb',upd_other h5] at h2
       by_cases h4 : i = id0
       · subst h4
         rw [upd_same] at h1
         rw [upd_other (fun e => hne e.symm)] at h2
         exact st.dBB i i' hne y (hF2 y h1) h2
       · rw [upd_other h4] at h1
         by_cases h6 : i' = id0
         · subst h6; rw [upd_same] at h2; exact st.dBB i i' h4 y h1 (hF2 y h2)
         · rw [upd_other h6] at h2; exact st.dBB i i' hne y h1 h2
theorem W.openB {c : Code} {Q : Exit → Sg → Prop} (id id0 : Nat) (path : List Nat) {off e z : Nat} {l : List D} {d0 d1 : D} {d2 : Nat → D} (hb0 : σ.box id0 = some (.var d0)) (hl : d0.loc path = some (off,.sl (some e) z l)) (hna : d0.noArr path = true) (hu : d0.upd path .dead = some d1)
 (hl1 : d1.loc path = some (off,.dead)) (hna1 : d1.noArr path = true) (hu1 : ∀ cap,d1.upd path (.bs id z l.length cap) = some (d2 cap)) (hne : l ≠ []) (hid : σ.box id = none) {bx' : Nat → List (Nat × Bx)} (hbx : ∀ cap,setb id0 (.var (d2 cap)) σ.bx = bx' cap)
 (k : ∀ cap m : Nat,l.length ≤ cap → cap ≤ maxLen → m = (cap - l.length) * z → W P C c Q ⟨σ.n,σ.env,(id,.var (.agg (l ++ List.replicate m .dead))) :: bx' cap⟩) : W P C c Q σ := by
 intro a w hs
 obtain ⟨cap,h1,h2,h3⟩ := St.openB hb0 hl hna hu hl1 hna1 hu1 hne hid hs
 rw [hbx] at h3
 exact k cap _ h1 h2 rfl a w h3

theorem St.shutB {id id0 off z n cap m : Nat} {path : List Nat} {l : List D} {d0 d0' : D} {ids : List Nat} {bx' : List (Nat × Bx)} (hb0 : σ.box id0 = some (.var d0)) (hb : σ.box id = some (.var (.agg (l ++ List.replicate m .dead)))) (hii : id0 ≠ id)
 (hl : d0.loc path = some (off,.bs id z n cap)) (hna : d0.noArr path = true) (hu : d0.upd path (.sl none z l) = some d0') (hn : l.length = n)
 (hp : ∀ x ∈ l,x.pur = true) (hnp : ∀ x ∈ l,x.np = true) (hz : ∀ x ∈ l,x.sz = z) (hE : okEnvB ids σ.env = true) (hkeep : keepB ids (setb id0 (.var d0') σ.bx) = bx') (hoB : okBx ids bx' = true) (hid : memB ids id = false)
 (hpn : ∀ id b,C.pin id = some b → memB ids id = true) (hs : St C σ a w) : St C ⟨σ.n,σ.env,bx'⟩ a w := by
 subst hn
 obtain ⟨ρ,Fe,Fb,st⟩ := hs
 obtain ⟨cs,e0,F',q1,q2,q3⟩ := st.bx id0 _ hb0
 obtain ⟨csb,e1,F1,p1,p2,p3⟩ := st.bx id _ hb
 have hnd : (ρ id0 :: F').Nodup := by have := st.nodB id0; rw [q3] at this; exact this
 obtain ⟨hn1,hn2⟩ := List.nodup_cons.1 hnd
 have hbl : ∀ u,lk bx' u = if memB ids u then (if u = id0 then some (.var d0') else σ.box u) else none := fun u => by
  rw [← hkeep,lk_keepB]
  by_cases h1 : memB ids u = true
  · simp only [h1,if_true,lk_setb]
    by_cases h2 : u = id0
    · subst h2
      have : lk σ.bx u = some (.var d0) := hb0
      simp [this]
    · simp [h2]; rfl
  · simp [h1]
 have hLb : ∀ i,(memB ids i = true ∧ (σ.box i).isSome = true) → (lk bx' i).isSome = true := fun i ⟨h1,h2⟩ => by
  rw [hbl,if_pos h1]; by_cases h3 : i = id0 <;> simp [h3,h2]
 -- the block of box id may be read,and what box id0 holds
 let G0 : Nat → Prop := fun y => gd C Fe Fb y ∨ y = ρ id
 have hid_in : ρ id ∈ Fb id := by rw [p3]; simp
 obtain ⟨F5,u1,u2,u3⟩ := q2.loc hl
 have hval : ∃ v,(cs.toList.drop off).take 1 = [v] ∧ v = Value.slice (some ⟨ρ id,0,none⟩) l.length cap ∧ l.length ≤ cap := by
  generalize hcc : (cs.toList.drop off).take (D.bs id z l.length cap).sz = cc at u1
  cases u1 with
  | bs _ _ _ _ hL hc => exact ⟨_,hcc,rfl,hc⟩
 obtain ⟨v,hv1,hv2,hcap⟩ := hval
 subst hv2
 have hoff : off < cs.toList.length := by
  have : off + (D.bs id z l.length cap).sz ≤ cs.toList.length := u3
  simp [D.sz] at this; simp; omega
 have hv : cs.toList[off] = .slice (some ⟨ρ id,0,none⟩) l.length cap := by
  rw [List.drop_eq_getElem_cons hoff] at hv1
  simpa using hv1
 have hszl := szs_uni l hz
 have hclen : csb.toList.length = l.length * z + m := by rw [p2.len,sz_agg,szs_append,hszl,szs_dead]
 have hsl : Rc w ρ G0 (fun i => (σ.box i).isSome = true) true (.sl none z l) [.slice (some ⟨ρ id,0,none⟩) l.length cap] [] := by
  refine .slI (ρ id) 0 csb e1 (0,0) cap z l p1 (.inr rfl) hcap (by simp at hclen; omega) (fun i hi => ?_)
  generalize hdd : D.agg (l ++ List.replicate m D.dead) = dd at p2
  generalize hcl : csb.toList = cl at p2
  cases p2 with
  | agg l0 _ Fs hs hr =>
   cases hdd
   have hi' : i < (l ++ List.replicate m D.dead).length := by simp; omega
   have h1 := hr i hi'
   rw [List.getElem_append_left hi] at h1
   rw [offk_uni l _ hz i (by omega),hz _ (List.getElem_mem hi)] at h1
   have h2 := h1.pur (hp _ (List.getElem_mem hi))
   rw [h2] at h1
   rw [Nat.zero_add]
   exact (h1.unflag (hnp _ (List.getElem_mem hi))).mono (fun _ _ _ => rfl) (fun y hy _ => .inl hy) (fun i hi => ⟨hi,rfl⟩)
  | _ => cases hdd
 obtain ⟨F4,r1,r2,r3,_,_⟩ := (q2.mono (G' := G0) (fun _ _ _ => rfl) (fun y hy _ => .inl hy) (fun i hi => ⟨hi,rfl⟩)).updP hl hu rfl hsl hn2 List.nodup_nil (by simp) hna
 have hcs : cs.toList.take off ++ [Value.slice (some ⟨ρ id,0,none⟩) l.length cap] ++ cs.toList.drop (off + 1) = cs.toList := by
  rw [← hv,List.append_assoc,List.singleton_append,← List.drop_eq_getElem_cons hoff,List.take_append_drop]
 simp only [List.length_singleton] at r1
 rw [hcs] at r1
 have r2' : ∀ y ∈ F4,y ∈ F' := fun y hy => (r2 y hy).resolve_right (by simp)
 let Fb' : Nat → List Nat := fun i => if memB ids i then (if i = id0 then ρ id0 :: F4 else Fb i) else []
 have hsub : ∀ i,∀ y ∈ Fb' i,memB ids i = true ∧ y ∈ Fb i := fun i y hy => by
  by_cases h1 : memB ids i = true
  · refine ⟨h1, ?_⟩
    simp only [Fb',h1,if_true] at hy
    by_cases h2 : i = id0
    · subst h2
      simp only [if_true] at hy
      rw [q3]
      rcases List.mem_cons.1 hy with rfl | hy
      · simp
      · exact List.mem_cons_of_mem _ (r2' y hy)
    · simpa [h2] using hy
  · simp [Fb',h1] at hy
 have hown : ∀ y,own Fe Fb' y → own Fe Fb y := fun y hy => hy.imp (fun h => h) fun ⟨i,hi⟩ => ⟨i,(hsub i y hi).2⟩
 have hg : ∀ y,gd C Fe Fb y → gd C Fe Fb' y := fun y hy => ⟨hy.1,fun hc => hy.2 (hown y hc)⟩
 have hgb : gd C Fe Fb' (ρ id) := ⟨st.okO _ (.inr ⟨id,hid_in⟩),by
  rintro (⟨u,hu'⟩ | ⟨i,hi⟩)
  · exact st.dEB u id _ hu' hid_in
  · obtain ⟨h1,h2⟩ := hsub i _ hi
    have : i ≠ id := by rintro rfl; rw [hid] at h1; cases h1
    exact st.dBB i id this _ h2 hid_in⟩
 have hg0 : ∀ y,G0 y → gd C Fe Fb' y := fun y hy => hy.elim (hg y) (fun e => e ▸ hgb)
 refine ⟨ρ,Fe,Fb',{
  size := st.size
  defs := st.defs
  pin := fun i y hp => ⟨(st.pin i y hp).1,hLb i ⟨hpn i y hp,(st.pin i y hp).2⟩⟩
  env := fun u d hd => (st.env u d hd).okB (okEnvB_get hE hd) (fun y hy _ => hg y hy) hLb
  envN := st.envN
  bx := fun i x hx => ?_
  bxN := fun i hx => ?_
  nodE := st.nodE
  nodB := fun i => ?_
  dEE := st.dEE
  dEB := fun u i y h1 h2 => st.dEB u i y h1 (hsub i y h2).2
  dBB := fun i i' hne y h1 h2 => st.dBB i i' hne y (hsub i y h1).2 (hsub i' y h2).2
  new := fun y hy => st.new y (hown y hy)
  kept := st.kept
  os := st.os
  tape := st.tape
  output := st.output
  grown := st.grown
  gl := st.gl
  okN := st.okN
  okO := fun y hy => st.okO y (hown y hy) }⟩
 · obtain ⟨x,rfl,hok⟩ := okBx_get hoB hx
   have h1 := hbl i
   rw [show lk bx' i = some (.var x) from hx] at h1
   by_cases hm : memB ids i = true
   · rw [if_pos hm] at h1
     by_cases h2 : i = id0
     · subst h2
       simp only [if_true,Option.some.injEq,Bx.var.injEq] at h1
       subst h1
       exact ⟨cs,e0,F4,q1,(r1.okB hok).mono (fun _ _ _ => rfl) (fun y hy _ => hg0 y hy) (fun j hj => ⟨hLb j hj,rfl⟩),by simp only [Fb',hm,if_true]⟩
     · simp only [h2,if_false] at h1
       obtain ⟨cs',e',F'',h3,h4,h5⟩ := st.bx i _ h1.symm
       exact ⟨cs',e',F'',h3,(h4.okB hok).mono (fun _ _ _ => rfl) (fun y hy _ => hg y hy) (fun j hj => ⟨hLb j hj,rfl⟩),by simp only [Fb',hm,h2,if_true,if_false]; exact h5⟩
   · rw [if_neg hm] at h1; cases h1
 · have h1 := hbl i
   rw [show lk bx' i = none from hx] at h1
   by_cases hm : memB ids i = true
   · rw [if_pos hm] at h1
     by_cases h2 : i = id0
     · simp [h2] at h1
     · simp only [h2,if_false] at h1
       simp only [Fb',hm,h2,if_true,if_false]
       exact st.bxN i h1.symm
   · simp [Fb',hm]
 · by_cases hm : memB ids i = true
   · simp only [Fb',hm,if_true]
     by_cases h2 : i = id0
     · subst h2; simp only [if_true]; exact List.nodup_cons.2 ⟨fun h => hn1 (r2' _ h),r3⟩
     · simp only [h2,if_false]; exact st.nodB i
   · simp [Fb',hm]
theorem W.shutB {c : Code} {Q : Exit → Sg → Prop} (id id0 : Nat) (path : List Nat) (ids : List Nat) {off z n cap m : Nat} {l : List D} {d0 d0' : D} {bx' : List (Nat × Bx)} (hb0 : σ.box id0 = some (.var d0)) (hb : σ.box id = some (.var (.agg (l ++ List.replicate m .dead)))) (hii : id0 ≠ id)
 (hl : d0.loc path = some (off,.bs id z n cap)) (hna : d0.noArr path = true) (hu : d0.upd path (.sl none z l) = some d0') (hn : l.length = n)
 (hp : ∀ x ∈ l,x.pur = true) (hnp : ∀ x ∈ l,x.np = true) (hz : ∀ x ∈ l,x.sz = z) (hE : okEnvB ids σ.env = true) (hkeep : keepB ids (setb id0 (.var d0') σ.bx) = bx') (hoB : okBx ids bx' = true) (hid : memB ids id = false)
 (hpn : ∀ id b,C.pin id = some b → memB ids id = true) (k : W P C c Q ⟨σ.n,σ.env,bx'⟩) : W P C c Q σ :=
 fun a w hs => k a w (St.shutB hb0 hb hii hl hna hu hn hp hnp hz hE hkeep hoB hid hpn hs)
end Go.Sx

namespace Go.Sx

variable {P : Program} {C : Ctx} {σ σ' σ1 : Sg} {a : Act} {w w' : World} {ρ : Nat → Nat} {Fe Fe' Fb : Nat → List Nat}

def killL (σ : Sg) : List Nat → Sg
 | [] => σ
 | s :: r => killL (σ.kill s) r
theorem killL_n : ∀ (S : List Nat) (σ : Sg),(killL σ S).n = σ.n ∧ (killL σ S).bx = σ.bx := by
 intro S
 induction S with
 | nil => intro σ; exact ⟨rfl,rfl⟩
 | cons s r ih => intro σ; exact ih (σ.kill s)
theorem killL_get : ∀ (S : List Nat) (σ : Sg) (u : Nat),(killL σ S).get u = if u ∈ S then some .dead else σ.get u := by
 intro S
 induction S with
 | nil => intro σ u; simp [killL]
 | cons s r ih =>
  intro σ u
  simp only [killL]
  rw [ih,get_kill]
  by_cases h1 : u ∈ r
  · simp [h1]
  · by_cases h2 : u = s
    · simp [h2]
    · simp [h1,h2]

theorem StW.takeL {S : List Nat} {t : Nat} {d : D} {v : Value} {F : List Nat} (h : StW C σ a w ρ Fe Fb) (ht : t < σ.n) (hst : t ∉ S) (hS : ∀ s ∈ S,∃ d0,σ.get s = some d0)
 (hF : F.Nodup) (hFs : ∀ b ∈ F,∃ s ∈ S,b ∈ Fe s)
 (hv : SR w ρ (gd C (upd (fun u => if u ∈ S then [] else Fe u) t F) Fb) (fun id => (σ.box id).isSome) (a.put (some t) v) t d F) :
 StW C ((killL σ S).set t d) (a.put (some t) v) w ρ (upd (fun u => if u ∈ S then [] else Fe u) t F) Fb := by
 have hsz : t < a.tmps.size := by rw [h.size]; exact ht
 let Fx : Nat → List Nat := upd (fun u => if u ∈ S then [] else Fe u) t F
 have hFx : ∀ u,u ≠ t → ∀ b ∈ Fx u,b ∈ Fe u ∧ u ∉ S := fun u hut b hb => by
  simp only [Fx,upd_other hut] at hb
  by_cases hus : u ∈ S
  · simp [hus] at hb
  · simp only [hus,if_false] at hb; exact ⟨hb,hus⟩
 have hFt : Fx t = F := by simp [Fx]
 have ho : ∀ b,own Fx Fb b → own Fe Fb b := by
  rintro b (⟨u,hu⟩ | hid)
  · by_cases hut : u = t
    · subst hut; rw [hFt] at hu
      obtain ⟨s,_,hs⟩ := hFs b hu
      exact .inl ⟨s,hs⟩
    · exact .inl ⟨u,(hFx u hut b hu).1⟩
  · exact .inr hid
 have hg : ∀ b,gd C Fe Fb b → gd C Fx Fb b := fun b hb => ⟨hb.1,fun hc => hb.2 (ho b hc)⟩
 obtain ⟨hn,hbx⟩ := killL_n S σ
 have hbox : ∀ id,((killL σ S).set t d).box id = σ.box id := fun id => by
  show lk (killL σ S).bx id = _
  rw [hbx]; rfl
 have hLf : (fun id => (((killL σ S).set t d).box id).isSome = true) = fun id => (σ.box id).isSome = true := by funext id; rw [hbox]
 have hnotF : ∀ u,u ≠ t → ∀ b ∈ Fx u,b ∉ F := fun u hut b hb hbF => by
  obtain ⟨h1,h2⟩ := hFx u hut b hb
  obtain ⟨s,hs,h3⟩ := hFs b hbF
  exact h.dEE u s (fun e => h2 (e ▸ hs)) b h1 h3
 refine {
  size := ?_
  defs := h.defs
  pin := fun id b hp => by rw [hbox]; exact h.pin id b hp
  env := fun u x hx => ?_
  envN := fun u hu => ?_
  bx := fun id x hx => by rw [hLf]; exact (h.bx id x (by rw [← hbox]; exact hx)).mono (fun _ _ _ => rfl) (fun b hb _ => hg b hb) (fun i hi => ⟨hi,rfl⟩)
  bxN := fun id hx => h.bxN id (by rw [← hbox]; exact hx)
  nodE := fun u => ?_
  nodB := h.nodB
  dEE := fun u u' huu b hb hb' => ?_
  dEB := fun u id b hb hb' => ?_
  dBB := h.dBB
  new := fun b hb => h.new b (ho b hb)
  kept := h.kept
  os := h.os
  tape := h.tape
  output := h.output
  grown := h.grown
  gl := h.gl
  okN := h.okN
  okO := fun b hb => h.okO b (ho b hb) }
 · simp [Act.put,h.size,hn]
 · rw [hLf]
   rw [get_set] at hx
   by_cases hut : u = t
   · subst hut; simp at hx; subst hx
     simp only [upd_same]; exact hv
   · simp only [hut,if_false] at hx
     obtain ⟨d1,hd1,rfl⟩ := Option.map_eq_some_iff.1 hx
     rw [killL_get] at hd1
     by_cases hus : u ∈ S
     · simp only [hus,if_true,Option.some.injEq] at hd1
       subst hd1
       obtain ⟨d0,hd0⟩ := hS u hus
       obtain ⟨v0,hv0⟩ := (h.env u d0 hd0).there
       refine ⟨by simp [upd_other hut,hus],v0,by rw [put_get a t v u hsz]; simp [hut,hv0]⟩
     · simp only [hus,if_false] at hd1
       have hFu : upd (fun u => if u ∈ S then [] else Fe u) t F u = Fe u := by simp [upd_other hut,hus]
       rw [hFu]
       exact SR_other hut hsz (h.env u d1 hd1) (fun _ _ _ => rfl) (fun b hb _ => hg b hb) (fun id hid => ⟨hid,rfl⟩) (fun _ _ _ _ h => h)
 · rw [get_set] at hu
   by_cases hut : u = t
   · simp [hut] at hu
   · simp only [hut,if_false,Option.map_eq_none_iff] at hu
     rw [killL_get] at hu
     by_cases hus : u ∈ S
     · simp [hus] at hu
     · simp only [hus,if_false] at hu
       simp [upd_other hut,hus,h.envN u hu]
 · by_cases hut : u = t
   · subst hut; simpa using hF
   · simp only [upd_other hut]
     split
     · exact List.nodup_nil
     · exact h.nodE u
 · by_cases hut : u = t
   · subst hut
     have hb1 : b ∈ F := by rw [← hFt]; exact hb
     exact hnotF u' (fun e => huu e.symm) b hb' hb1
   · by_cases hut' : u' = t
     · subst hut'
       have hb1 : b ∈ F := by rw [← hFt]; exact hb'
       exact hnotF u hut b hb hb1
     · exact h.dEE u u' huu b (hFx u hut b hb).1 (hFx u' hut' b hb').1
 · by_cases hut : u = t
   · subst hut
     have hb1 : b ∈ F := by rw [← hFt]; exact hb
     obtain ⟨s,_,hs⟩ := hFs b hb1
     exact h.dEB s id b hs hb'
   · exact h.dEB u id b (hFx u hut b hb).1 hb'

inductive EvO (gl : List (Nat × D)) (σ : Sg) (l0 : List D) : List (Nat × Operand) → List D → List D → List Nat → Prop
 | nil {l l' : List D} (h : l = l') : EvO gl σ l0 [] l l' []
 | pur {i : Nat} {x : Operand} {d : D} {ps : List (Nat × Operand)} {l l' : List D} {S : List Nat} (h : ev gl σ x = some d) (hp : d.pur = true) (hn : d.np = true) (hz : (l0[i]?).map D.sz = some d.sz) (t : EvO gl σ l0 ps (l.set i d) l' S) : EvO gl σ l0 ((i,x) :: ps) l l' S
 | own {i s : Nat} {d : D} {ps : List (Nat × Operand)} {l l' : List D} {S : List Nat} (h : σ.get s = some d) (hr : d.isRef = false) (hn : d.np = true) (hz : (l0[i]?).map D.sz = some d.sz) (hs : S.contains s = false) (t : EvO gl σ l0 ps (l.set i d) l' S) : EvO gl σ l0 ((i,.tmp s) :: ps) l l' (s :: S)

theorem set_sz {l l0 : List D} {i : Nat} {d : D} (hz : l.map D.sz = l0.map D.sz) (h : (l0[i]?).map D.sz = some d.sz) : (l.set i d).map D.sz = l0.map D.sz := by
 rw [List.map_set,← hz]
 have h2 : (l.map D.sz)[i]? = some d.sz := by rw [hz,List.getElem?_map]; exact h
 apply List.ext_getElem?
 intro j
 rw [List.getElem?_set]
 split
 · rename_i hij
   subst hij
   rw [h2]
   have := (List.getElem?_eq_some_iff.1 h2).1
   simp only [this,if_true]
 · rfl

theorem fill_one {G L : Nat → Prop} {l l0 : List D} {i : Nat} {d : D} {xc : List Value} {Fx F : List Nat} {cs : Array Value} {v : Value} (hxc : v.cells.toList = xc) (hrc : Rc w ρ G L false d xc Fx) (hz : l.map D.sz = l0.map D.sz) (p3 : (l0[i]?).map D.sz = some d.sz)
 (hr : Rc w ρ G L false (.agg l) cs.toList F) (hF : F.Nodup) (hFx : Fx.Nodup) (hdis : ∀ b ∈ Fx,b ∉ F) :
 ∃ out F',(offl l0 0).toArray[i]? = some (offk l i,d.sz) ∧ v.cells.size = d.sz ∧ ¬ (cs.size < offk l i + d.sz) ∧ v.cells.zipIdx.foldl (fun (c : Array Value) (p : Value × Nat) => c.setIfInBounds (offk l i + p.2) p.1) cs = out ∧
  Rc w ρ G L false (.agg (l.set i d)) out.toList F' ∧ F'.Nodup ∧ ∀ b ∈ F',b ∈ F ∨ b ∈ Fx := by
 have hlen := hrc.len
 cases hl0 : l0[i]? with
 | none => rw [hl0] at p3; cases p3
 | some d0 =>
  obtain ⟨hi,rfl⟩ := List.getElem?_eq_some_iff.1 hl0
  rw [hl0] at p3
  simp only [Option.map_some,Option.some.injEq] at p3
  have hll : l.length = l0.length := by have := congrArg List.length hz; simpa using this
  have hi2 : i < l.length := by omega
  have hsi : l[i].sz = d.sz := by
   have : (l.map D.sz)[i]'(by simpa using hi2) = (l0.map D.sz)[i]'(by simpa using hi) := by simp only [hz]
   simp at this
   omega
  have hoff : offk l i = offk l0 i := by
   have hs : ∀ (u v : List D),u.map D.sz = v.map D.sz → D.szs u = D.szs v := by
    intro u
    induction u with
    | nil => intro v hv; cases v <;> simp_all
    | cons a u ihu => intro v hv; cases v with
     | nil => simp at hv
     | cons b v => simp at hv; simp [hv.1,ihu v hv.2]
   unfold offk
   exact hs _ _ (by rw [List.map_take,List.map_take,hz])
  have hlo := offk_lt l i hi2
  have hcl := hr.len
  simp only [sz_agg,Array.length_toList] at hcl
  have hloc : (D.agg l).loc [i] = some (offk l i,l[i]) := by simp [D.loc,List.getElem?_eq_getElem hi2]
  have hupd : (D.agg l).upd [i] d = some (.agg (l.set i d)) := by simp [D.upd,List.getElem?_eq_getElem hi2]
  have hnoa : (D.agg l).noArr [i] = true := by simp [D.noArr,List.getElem?_eq_getElem hi2]
  obtain ⟨F2,g1,g2,g3,_⟩ := hr.upd hloc hupd hsi.symm hrc hF hFx hdis (.inr hnoa)
  have hfold := foldl_set cs xc (offk l i) 0 (by omega)
  simp only [Nat.add_zero] at hfold
  have hcs2 : (v.cells.zipIdx.foldl (fun (c : Array Value) (p : Value × Nat) => c.setIfInBounds (offk l i + p.2) p.1) cs).toList = cs.toList.take (offk l i) ++ xc ++ cs.toList.drop (offk l i + xc.length) := by
   rw [← hfold,← hxc,← Array.foldl_toList]
   simp
  rw [← hcs2] at g1
  refine ⟨_,F2, ?_, ?_,by omega,rfl,g1,g3,g2⟩
  · rw [List.getElem?_toArray,offl_get l0 0 i hi,hoff,Nat.zero_add,← p3]
  · rw [← Array.length_toList,hxc,hlen]

theorem fill_structO (st : StW C σ a w ρ Fe Fb) {G : Nat → Prop} {l0 : List D} (hG : ∀ b,gd C Fe Fb b → G b) {ps : List (Nat × Operand)} {l l' : List D} {S : List Nat} (h : EvO C.gl σ l0 ps l l' S) :
 ∀ (cs : Array Value) (F : List Nat),l.map D.sz = l0.map D.sz → Rc w ρ G (fun id => (σ.box id).isSome = true) false (.agg l) cs.toList F → F.Nodup → (∀ s ∈ S,∀ b ∈ Fe s,b ∉ F) →
  ∃ (out : Array Value) (F' : List Nat),Instr.fill ((offl l0 0).toArray[·]?) cs (ps.map (fun p => (p.1,a.eval p.2))) = some out ∧ Rc w ρ G (fun id => (σ.box id).isSome = true) false (.agg l') out.toList F' ∧ F'.Nodup ∧ ∀ b ∈ F',b ∈ F ∨ ∃ s ∈ S,b ∈ Fe s := by
 induction h with
 | nil h => subst h; intro cs F _ hr hF _; exact ⟨cs,F,rfl,hr,hF,fun b hb => .inl hb⟩
 | @pur i x d ps l l' S h hp hn hz t ih =>
  intro cs F hzz hr hF hS
  obtain ⟨xc,hxc,hrc⟩ := ev_cells st h hp
  have hrc2 := (hrc.unflag hn).mono (G' := G) (L' := fun id => (σ.box id).isSome = true) (ρ' := ρ) (fun _ _ _ => rfl) (fun b hb _ => hG b hb) (fun i hi => ⟨hi,rfl⟩)
  obtain ⟨out,F',e1,e2,e3,e4,e5,e6,e7⟩ := fill_one hxc hrc2 hzz hz hr hF List.nodup_nil (by simp)
  have e7' : ∀ b ∈ F',b ∈ F := fun b hb => (e7 b hb).resolve_right (by simp)
  obtain ⟨out2,F2,f1,f2,f3,f4⟩ := ih out F' (set_sz hzz hz) e5 e6 (fun s hs b hb hb' => hS s hs b hb (e7' b hb'))
  refine ⟨out2,F2, ?_,f2,f3,fun b hb => (f4 b hb).imp (e7' b) id⟩
  simp only [List.map_cons,Instr.fill,e1,e2]
  rw [if_neg (by simp; omega),e4]
  exact f1
 | @own i s d ps l l' S h hr0 hn hz hs t ih =>
  intro cs F hzz hr hF hS
  obtain ⟨v,hv,hvr⟩ := (SR_plain hr0).1 (st.env _ _ h)
  have hdead : d ≠ .dead := by rintro rfl; simp [D.isRef] at hr0
  have hrc := hvr.cells hdead
  have hrc2 := (hrc.unflag hn).mono (G' := G) (L' := fun id => (σ.box id).isSome = true) (ρ' := ρ) (fun _ _ _ => rfl) (fun b hb _ => hG b hb) (fun i hi => ⟨hi,rfl⟩)
  obtain ⟨out,F',e1,e2,e3,e4,e5,e6,e7⟩ := fill_one (v := v) rfl hrc2 hzz hz hr hF (st.nodE s) (fun b hb => hS s (by simp) b hb)
  have hs' : s ∉ S := by intro hm; rw [List.contains_iff_mem.2 hm] at hs; cases hs
  obtain ⟨out2,F2,f1,f2,f3,f4⟩ := ih out F' (set_sz hzz hz) e5 e6 (fun s' hs1 b hb hb' => by
   rcases e7 b hb' with h1 | h1
   · exact hS s' (List.mem_cons_of_mem _ hs1) b hb h1
   · exact st.dEE s' s (fun e => hs' (e ▸ hs1)) b hb h1)
  refine ⟨out2,F2, ?_,f2,f3,fun b hb => ?_⟩
  · simp only [List.map_cons,Instr.fill,eval_tmp hv,e1,e2]
    rw [if_neg (by simp; omega),e4]
    exact f1
  · rcases f4 b hb with h1 | ⟨s',hs1,h1⟩
    · rcases e7 b h1 with h2 | h2
      · exact .inl h2
      · exact .inr ⟨s,by simp,h2⟩
    · exact .inr ⟨s',List.mem_cons_of_mem _ hs1,h1⟩

theorem EvO.there {gl : List (Nat × D)} {l0 : List D} {ps : List (Nat × Operand)} {l l' : List D} {S : List Nat} (h : EvO gl σ l0 ps l l' S) : ∀ s ∈ S,∃ d0,σ.get s = some d0 := by
 induction h with
 | nil => intro s hs; cases hs
 | pur _ _ _ _ _ ih => exact ih
 | own h _ _ _ _ _ ih =>
  intro s hs
  rcases List.mem_cons.1 hs with rfl | hs
  · exact ⟨_,h⟩
  · exact ih s hs

theorem R.bldO {t : Nat} {ps : List (Nat × Operand)} {l l' : List D} {S : List Nat} {ty rt : TypeId} {pos : String} {aft : Array Edge} {g : Option (Nat × Bool)} [hT : BsT P ty l]
 (hps : EvO C.gl σ l ps l l' S) (hS : S.contains t = false) (ht : t < σ.n) :
 OpS P C ⟨some t,.build ty ps.toArray,rt,pos,aft,g⟩ σ ((killL σ S).set t (.agg l')) := by
 refine OpS.value fun a w ⟨ρ,Fe,Fb,st⟩ => ?_
 obtain ⟨fs,it,zv,h1,h2,h3,h4,h5⟩ := hT.i
 have htS : t ∉ S := by intro hm; rw [List.contains_iff_mem.2 hm] at hS; cases hS
 obtain ⟨out,F,q1,q2,q3,q4⟩ := fill_structO st (G := gd C Fe Fb) (fun _ h => h) hps zv.cells [] rfl (chk_ok _ _ _ _ _ _ h5) List.nodup_nil (by simp)
 have q4' : ∀ b ∈ F,∃ s ∈ S,b ∈ Fe s := fun b hb => (q4 b hb).resolve_left (by simp)
 have hps2 : (ps.toArray.map fun x => (x.1,a.eval x.2)).toList = ps.map (fun p => (p.1,a.eval p.2)) := by simp
 refine ⟨.agg out,w, ?_,ρ,_,Fb,st.takeL ht htS hps.there q3 q4' ((SR_plain rfl).2 ⟨.agg out,by rw [put_get a t _ t (by rw [st.size]; exact ht)]; simp, ?_⟩)⟩
 · have := run_build (P := P) w ty (ps.toArray.map fun x => (x.1,a.eval x.2)) out (by
    rw [hps2]
    simp only [Program.built,h1,h2,h3,h4]
    exact q1)
   unfold execOp
   simp only [Sem.run_bind,this,Result.andThen_ok,Sem.run_pure]
 · simp only [VR,D.isAgg,if_true]
   refine ⟨out,rfl,(q2.flag).mono (fun _ _ _ => rfl) (fun b hb _ => ⟨hb.1,fun hc => hb.2 ?_⟩) (fun i hi => ⟨hi,rfl⟩)⟩
   rcases hc with ⟨u,hu⟩ | hid
   · by_cases hut : u = t
     · subst hut
       rw [upd_same] at hu
       obtain ⟨s,_,hs⟩ := q4' b hu
       exact .inl ⟨s,hs⟩
     · rw [upd_other hut] at hu
       by_cases hus : u ∈ S
       · simp [hus] at hu
       · simp only [hus,if_false] at hu; exact .inl ⟨u,hu⟩
   · exact .inr hid

theorem R.ldTake {p t id : Nat} {d : D} {ty n rt : TypeId} {gg : Bool} {pos : String} {aft : Array Edge} {g : Option (Nat × Bool)} [LdT P ty n gg]
 (h : σ.get p = some (.ptr id 0 [])) (hb : σ.box id = some (.var d)) (hr : d.isRef = false) (hn : d.sz = n) (hg : d.isAgg = gg) (ht : t < σ.n) :
 OpS P C ⟨some t,.load ty (.tmp p),rt,pos,aft,g⟩ σ ((σ.putB id (.var (D.dds n))).set t d) := by
 refine OpS.value fun a w ⟨ρ,Fe,Fb,st⟩ => ?_
 obtain ⟨v,hv,hrp⟩ := (SR_plain rfl).1 (st.env _ _ h)
 simp only [VR,D.isAgg,Bool.false_eq_true,if_false] at hrp
 generalize Fe p = F at hrp
 cases hrp
 obtain ⟨cs,e,F',q1,q2,q3⟩ := st.bx _ _ hb
 have hnd : (ρ id :: F').Nodup := by have := st.nodB id; rw [q3] at this; exact this
 obtain ⟨hn1,hn2⟩ := List.nodup_cons.1 hnd
 have hlen := q2.len
 have htk : (cs.toList.drop 0).take d.sz = cs.toList := by rw [← hlen,List.drop_zero]; exact List.take_length
 obtain ⟨vv,hrun,hvr⟩ := run_loadVar' (P := P) (ty := ty) (G := gd C Fe Fb) (L := fun i => (σ.box i).isSome = true) (ρ := ρ) (p := true) (off := 0) q1 (by rw [htk]; exact q2) (by simp at hlen; omega) hn hg
 have hsz : t < a.tmps.size := by rw [st.size]; exact ht
 have hFb : ∀ i,∀ b ∈ upd Fb id [ρ id] i,b ∈ Fb i := fun i b hb => by
  by_cases hii : i = id
  · subst hii; rw [upd_same] at hb; simp at hb; subst hb; rw [q3]; simp
  · rw [upd_other hii] at hb; exact hb
 have hFin : ∀ b ∈ F',b ∈ Fb id := fun b hb => by rw [q3]; exact List.mem_cons_of_mem _ hb
 have ho : ∀ b,own (upd Fe t F') (upd Fb id [ρ id]) b → own Fe Fb b := by
  rintro b (⟨u,hu⟩ | ⟨i,hi⟩)
  · by_cases hut : u = t
    · subst hut; rw [upd_same] at hu; exact .inr ⟨id,hFin b hu⟩
    · rw [upd_other hut] at hu; exact .inl ⟨u,hu⟩
  · exact .inr ⟨i,hFb i b hi⟩
 have hgd : ∀ b,gd C Fe Fb b → gd C (upd Fe t F') (upd Fb id [ρ id]) b := fun b hb => ⟨hb.1,fun hc => hb.2 (ho b hc)⟩
 have hbox : ∀ i,((σ.putB id (.var (D.dds n))).set t d).box i = if i = id then some (.var (D.dds n)) else σ.box i := fun i => by
  rw [box_set,box_putB]
  by_cases hi : i = id
  · subst hi; simp [hb]
  · simp [hi]
 have hLf : (fun i => ((((σ.putB id (.var (D.dds n))).set t d).box i)).isSome = true) = fun i => (σ.box i).isSome = true := by
  funext i; rw [hbox]
  by_cases hi : i = id
  · subst hi; simp [hb]
  · simp [hi]
 have hFnot : ∀ u,∀ b ∈ Fe u,b ∉ F' := fun u b hb hb' => st.dEB u id b hb (hFin b hb')
 refine ⟨vv,w, ?_,ρ,upd Fe t F',upd Fb id [ρ id],{
  size := by simp [Act.put,st.size]
  defs := st.defs
  pin := fun i b hp => ⟨(st.pin i b hp).1,by
   have := (st.pin i b hp).2
   rw [hbox]
   by_cases hi : i = id
   · simp [hi]
   · simpa [hi] using this⟩
  env := fun u x hx => ?_
  envN := fun u hu => ?_
  bx := fun i x hx => ?_
  bxN := fun i hx => ?_
  nodE := fun u => ?_
  nodB := fun i => ?_
  dEE := fun u u' huu b hb hb' => ?_
  dEB := fun u i b hb hb' => ?_
  dBB := fun i i' hne b h1 h2 => st.dBB i i' hne b (hFb i b h1) (hFb i' b h2)
  new := fun b hb => st.new b (ho b hb)
  kept := st.kept
  os := st.os
  tape := st.tape
  output := st.output
  grown := st.grown
  gl := st.gl
  okN := st.okN
  okO := fun b hb => st.okO b (ho b hb) }⟩
 · unfold execOp
   simp [eval_tmp hv,Instr.loadAt,Instr.sureAddr,hrun]
 · rw [hLf]
   rw [get_set] at hx
   by_cases hut : u = t
   · subst hut; simp at hx; subst hx
     rw [upd_same]
     exact (SR_plain hr).2 ⟨vv,by rw [put_get a u _ u hsz]; simp,hvr.mono (fun _ _ _ => rfl) (fun b hb _ => hgd b hb) (fun i hi => ⟨hi,rfl⟩)⟩
   · simp only [hut,if_false] at hx
     obtain ⟨d1,hd1,rfl⟩ := Option.map_eq_some_iff.1 hx
     rw [get_putB] at hd1
     obtain ⟨d2,hd2,rfl⟩ := Option.map_eq_some_iff.1 hd1
     rw [upd_other hut]
     have h1 := SR_box (id := id) (st.env u d2 hd2) (w' := w) (fun _ _ _ => rfl) (fun b hb _ => hgd b hb) (fun i hi => hi) (fun _ _ _ _ _ h => h)
     exact SR_other hut hsz h1 (fun _ _ _ => rfl) (fun b hb _ => hb) (fun id hid => ⟨hid,rfl⟩) (fun _ _ _ _ h => h)
 · rw [get_set] at hu
   by_cases hut : u = t
   · simp [hut] at hu
   · simp only [hut,if_false,Option.map_eq_none_iff] at hu
     rw [get_putB,Option.map_eq_none_iff] at hu
     rw [upd_other hut]; exact st.envN u hu
 · rw [hLf]
   rw [hbox] at hx
   by_cases hi : i = id
   · subst hi
     simp only [if_true,Option.some.injEq] at hx
     subst hx
     rw [upd_same,← hn]
     exact ⟨cs,e,[],q1,q2.dds,rfl⟩
   · simp only [hi,if_false] at hx
     rw [upd_other hi]
     exact (st.bx i x hx).mono (fun _ _ _ => rfl) (fun b hb _ => hgd b hb) (fun j hj => ⟨hj,rfl⟩)
 · rw [hbox] at hx
   by_cases hi : i = id
   · simp [hi] at hx
   · simp only [hi,if_false] at hx
     rw [upd_other hi]; exact st.bxN i hx
 · by_cases hut : u = t
   · subst hut; rw [upd_same]; exact hn2
   · rw [upd_other hut]; exact st.nodE u
 · by_cases hi : i = id
   · subst hi; rw [upd_same]; simp
   · rw [upd_other hi]; exact st.nodB i
 · by_cases hut : u = t
   · subst hut
     rw [upd_same] at hb
     rw [upd_other (fun e => huu e.symm)] at hb'
     exact hFnot u' b hb' hb
   · rw [upd_other hut] at hb
     by_cases hut' : u' = t
     · subst hut'; rw [upd_same] at hb'; exact hFnot u b hb hb'
     · rw [upd_other hut'] at hb'; exact st.dEE u u' huu b hb hb'
 · by_cases hut : u = t
   · subst hut
     rw [upd_same] at hb
     by_cases hi : i = id
     · subst hi; rw [upd_same] at hb'; simp at hb'; subst hb'; exact hn1 hb
     · rw [upd_other hi] at hb'; exact st.dBB id i (fun e => hi e.symm) b (hFin b hb) hb'
   · rw [upd_other hut] at hb; exact st.dEB u i b hb (hFb i b hb')
end Go.Sx

namespace Go.Sx

variable {P : Program} {C : Ctx} {σ σ' σ1 : Sg} {a : Act} {w w' : World} {ρ : Nat → Nat} {Fe Fe' Fb : Nat → List Nat}

inductive Wk : D → D → Prop
 | refl (d : D) : Wk d d
 | nils (o : Option Nat) (z : Nat) : Wk .nils (.sl o z [])
 | agg {l l' : List D} (hn : l.length = l'.length) (h : ∀ k (h : k < l.length) (h' : k < l'.length),Wk l[k] l'[k]) : Wk (.agg l) (.agg l')
 | sl {o : Option Nat} {z : Nat} {l l' : List D} (hn : l.length = l'.length) (h : ∀ k (h : k < l.length) (h' : k < l'.length),Wk l[k] l'[k]) : Wk (.sl o z l) (.sl o z l')
inductive WkL : List D → List D → Prop
 | nil : WkL [] []
 | cons {d d' : D} {l l' : List D} (h : Wk d d') (t : WkL l l') : WkL (d :: l) (d' :: l')
theorem WkL.len {l l' : List D} (h : WkL l l') : l.length = l'.length := by
 induction h with
 | nil => rfl
 | cons _ _ ih => simp [ih]
theorem WkL.get {l l' : List D} (h : WkL l l') : ∀ k (h : k < l.length) (h' : k < l'.length),Wk l[k] l'[k] := by
 induction h with
 | nil => intro k h; simp at h
 | cons h _ ih =>
  intro k hk hk'
  cases k with
  | zero => exact h
  | succ k => exact ih k (by simpa using hk) (by simpa using hk')
theorem Wk.aggL {l l' : List D} (h : WkL l l') : Wk (.agg l) (.agg l') := .agg h.len h.get
theorem szs_eq {l l' : List D} (hn : l.length = l'.length) (h : ∀ k (h : k < l.length) (h' : k < l'.length),l'[k].sz = l[k].sz) : D.szs l' = D.szs l := by
 induction l generalizing l' with
 | nil => cases l' with
  | nil => rfl
  | cons _ _ => simp at hn
 | cons x r ih => cases l' with
  | nil => simp at hn
  | cons x' r' =>
   have h0 := h 0 (by simp) (by simp)
   simp only [List.getElem_cons_zero] at h0
   simp only [szs_cons,h0]
   rw [ih (by simpa using hn) (fun k h1 h2 => h (k + 1) (by simpa using h1) (by simpa using h2))]
theorem offk_eq {l l' : List D} (hn : l.length = l'.length) (h : ∀ k (h : k < l.length) (h' : k < l'.length),l'[k].sz = l[k].sz) (k : Nat) : offk l' k = offk l k := by
 unfold offk
 exact szs_eq (by simp [hn]) (fun j h1 h2 => by simp only [List.getElem_take]; exact h j (by simp at h1; omega) (by simp at h2; omega))
theorem Wk.sz {d d' : D} (h : Wk d d') : d'.sz = d.sz := by
 induction h with
 | refl => rfl
 | nils => rfl
 | agg hn h ih => simp only [sz_agg]; exact szs_eq hn ih
 | sl => rfl
theorem Rc.wk {G L : Nat → Prop} {d d' : D} (hw : Wk d d') : ∀ {p : Bool} {cs : List Value} {F : List Nat},Rc w ρ G L p d cs F → Rc w ρ G L p d' cs F := by
 induction hw with
 | refl => intro p cs F h; exact h
 | nils o z => intro p cs F h; cases h; exact .slN o z
 | @agg l l' hn h ih =>
  intro p cs F hr
  cases hr with
  | agg _ _ Fs hs hr =>
   have hz : ∀ k (h : k < l.length) (h' : k < l'.length),l'[k].sz = l[k].sz := fun k h1 h2 => (h k h1 h2).sz
   rw [hn]
   refine .agg l' cs Fs (by rw [hs,szs_eq hn hz]) (fun k hk => ?_)
   rw [offk_eq hn hz,hz k (by omega) hk]
   exact ih k (by omega) hk (hr k (by omega))
 | @sl o z l l' hn h ih =>
  intro p cs F hr
  cases hr with
  | slN => rw [List.length_eq_zero_iff.1 hn.symm]; exact .slN o z
  | slE _ _ a => rw [List.length_eq_zero_iff.1 hn.symm]; exact .slE o z a
  | slI b off cs e fz cap _ _ hb hG hc hs hr =>
   rw [hn]
   exact .slI b off cs e fz cap z l' hb hG (by omega) (by rw [← hn]; exact hs) (fun i hi => ih i (by omega) hi (hr i (by omega)))
  | slO b cs e cap _ _ Fs hb hc hm hs ho1 hr =>
   rw [hn]
   exact .slO b cs e cap z l' Fs hb (by omega) hm hs ho1 (fun i hi => ih i (by omega) hi (hr i (by omega)))
theorem W.wkB {c : Code} {Q : Exit → Sg → Prop} (id : Nat) {d d' : D} {bx' : List (Nat × Bx)} (hb : σ.box id = some (.var d)) (hw : Wk d d') (hbx : setb id (.var d') σ.bx = bx') (k : W P C c Q ⟨σ.n,σ.env,bx'⟩) : W P C c Q σ := by
 subst hbx
 exact fun a w hs => k a w (St.viewB hb (fun w ρ G L cs F h => h.wk hw) hs)

theorem Wk.isAgg {d d' : D} (h : Wk d d') : d'.isAgg = d.isAgg := by cases h <;> rfl
end Go.Sx

namespace Go.Sx

variable {P : Program} {C : Ctx} {σ σ' σ1 : Sg} {a : Act} {w w' : World} {ρ : Nat → Nat} {Fe Fe' Fb : Nat → List Nat}

theorem VR.wk {G L : Nat → Prop} {d d' : D} {v : Value} {F : List Nat} (h : VR w ρ G L d v F) (hw : Wk d d') : VR w ρ G L d' v F := by
 unfold VR at h ⊢
 rw [hw.isAgg]
 cases hag : d.isAgg with
 | true => simp only [hag,if_true] at h ⊢; obtain ⟨cs,e,h⟩ := h; exact ⟨cs,e,h.wk hw⟩
 | false => simp only [hag,if_false,Bool.false_eq_true] at h ⊢; exact h.wk hw
end Go.Sx

namespace Go.Sx
theorem O {α : Sort _} {a : α} : a = a := rfl
theorem nU {m n : Nat} (h : Nat.ble m n = true) : m ≤ n := Nat.le_of_ble_eq_true h
theorem bU {p : Prop} (h : p := by first | omega | (simp only [List.length_map,List.length_append,List.length_cons,List.length_nil,List.length_take,List.length_drop,List.length_replicate]; omega) | (simp; omega)) : p := h
theorem bV {x : Int} (h : 0 ≤ x := by first | omega | (simp only [List.length_map,List.length_append,List.length_cons,List.length_nil,List.length_take,List.length_drop,List.length_replicate]; omega) | (simp; omega)) : 0 ≤ x := h
theorem gU {σ : Sg} (n : Nat) {d : D} (h : σ.get n = some d) : σ.get n = some d := h
theorem xU {σ : Sg} (n : Nat) {d : Bx} (h : σ.box n = some d) : σ.box n = some d := h
theorem gV {gl : List (Nat × D)} {σ : Sg} (n : Nat) {d : D} (h : σ.get n = some d) : ev gl σ (.tmp n) = some d := h
theorem eU {gl : List (Nat × D)} {τ : Sg} {f : Nat → Option D} (K : ∀ u x,f u = some x → τ.get u = some x) (n : Nat) {d : D} (h : f n = some d) : ev gl τ (.tmp n) = some d := K n d h
theorem kI {gl : List (Nat × D)} {σ : Sg} (n : Nat) {i : Int} (h : ev gl σ (.const (.int .i64 i)) = some (.int ((n : Nat) : Int))) : ev gl σ (.const (.int .i64 i)) = some (.int ((n : Nat) : Int)) := h
theorem kB {gl : List (Nat × D)} {σ : Sg} (b : Bool) (h : ev gl σ (.const (.bool b)) = some (.bool b)) : ev gl σ (.const (.bool b)) = some (.bool b) := h
theorem kN {gl : List (Nat × D)} {σ : Sg} (h : ev gl σ (.const (.slice none 0 0)) = some .nils) : ev gl σ (.const (.slice none 0 0)) = some .nils := h
@[reducible] def It.y (n : Nat) (d : D) : It := ⟨n,d,true⟩
@[reducible] def It.x (n : Nat) : It := ⟨n,.dead,false⟩
section
variable {P : Program} {C : Ctx} {σ : Sg} {ops : List Oper} {an : List Nat} {ks kk : List (Nat × Nat)} {its : List It}
abbrev EntP (P : Program) (C : Ctx) (σ : Sg) (an : List Nat) (ks kk : List (Nat × Nat)) (its : List It) (i : Nat) (o : Oper) (t : Nat) (d : D) : Prop :=
 ∀ τ : Sg,(∀ id x,lk σ.bx id = some x → τ.box id = some x) → t < τ.n → (∀ u x,facts an ks σ.env its i u = some x → τ.get u = some x) → OpS P C o τ ((killS τ kk i).set t d)
abbrev Ent (P : Program) (C : Ctx) (σ : Sg) (ops : List Oper) (an : List Nat) (ks kk : List (Nat × Nat)) (its : List It) (i : Nat) (o : Oper) (t : Nat) (d : D) (wt : Bool) : Prop :=
 o.dst = some t ∧ Wt ops (facts an ks σ.env its i) o wt ∧ (wt = true → ∀ τ : Sg,(∀ id x,lk σ.bx id = some x → τ.box id = some x) → t < τ.n → (∀ u x,facts an ks σ.env its i u = some x → τ.get u = some x) → OpS P C o τ ((killS τ kk i).set t d))
def noK (kk : List (Nat × Nat)) (i : Nat) : Bool := kk.all fun x => !Nat.beq x.1 i
theorem killS_no {τ : Sg} {i : Nat} : ∀ {kk : List (Nat × Nat)},noK kk i = true → killS τ kk i = τ := by
 intro kk
 induction kk with
 | nil => intro _; rfl
 | cons y r ih =>
  obtain ⟨k,s⟩ := y
  intro h
  simp only [noK,List.all_cons,Bool.and_eq_true,Bool.not_eq_true'] at h
  rw [killS,h.1]
  exact ih h.2
theorem aU {i t : Nat} {d : D} {op : Op} {ty : TypeId} {pos : String} {aft : Array Edge} (f : EntP P C σ an ks kk its i ⟨some t,op,ty,pos,aft,none⟩ t d) :
 Ent P C σ ops an ks kk its i ⟨some t,op,ty,pos,aft,none⟩ t d true := ⟨rfl,rfl,fun _ => f⟩
theorem aW {i t g : Nat} {d : D} {op : Op} {ty : TypeId} {pos : String} {aft : Array Edge} {want b : Bool} {tg : Nat} (h1 : (ops[g]?).bind (·.dst) = some tg)
 (h3 : facts an ks σ.env its i tg = some (.bool b)) (h4 : true = (b == want)) (f : EntP P C σ an ks kk its i ⟨some t,op,ty,pos,aft,some (g,want)⟩ t d) :
 Ent P C σ ops an ks kk its i ⟨some t,op,ty,pos,aft,some (g,want)⟩ t d true := by
 obtain ⟨og,h1,h2⟩ := Option.bind_eq_some_iff.1 h1
 exact ⟨rfl,⟨og,tg,h1,h2,.inl ⟨b,h3,h4⟩⟩,fun _ => f⟩
theorem aF {i t g : Nat} {op : Op} {ty : TypeId} {pos : String} {aft : Array Edge} {want b : Bool} {tg : Nat} (h1 : (ops[g]?).bind (·.dst) = some tg)
 (h3 : facts an ks σ.env its i tg = some (.bool b)) (h4 : false = (b == want)) :
 Ent P C σ ops an ks kk its i ⟨some t,op,ty,pos,aft,some (g,want)⟩ t .dead false := by
 obtain ⟨og,h1,h2⟩ := Option.bind_eq_some_iff.1 h1
 exact ⟨rfl,⟨og,tg,h1,h2,.inl ⟨b,h3,h4⟩⟩,fun h => absurd h (by decide)⟩
theorem gT {b wt want : Bool} (h : b = true) (hw : wt = (true == want)) : wt = (b == want) := gw h hw
theorem gF {b wt want : Bool} (h : b = false) (hw : wt = (false == want)) : wt = (b == want) := gw h hw
theorem mU {i t : Nat} {d : D} {ty : TypeId} {pos : String} {aft : Array Edge} (s : Nat) (h : facts an ks σ.env its i s = some d) (hp : (d.pur && noK kk i) = true) :
 Ent P C σ ops an ks kk its i ⟨some t,.move (.tmp s),ty,pos,aft,none⟩ t d true := by
 rw [Bool.and_eq_true] at hp
 exact ⟨rfl,rfl,fun _ τ _ H K => by rw [killS_no hp.2]; exact R.mov (K s d h) hp.1 H⟩
theorem fU {i t id off off' : Nat} {path : List Nat} {s f : Nat} {rt : TypeId} {pos : String} {aft : Array Edge} {g : Option (Nat × Bool)} [FdT P s f off'] (x : Nat)
 (h : facts an ks σ.env its i x = some (.ptr id off path)) (hk : noK kk i = true) : EntP P C σ an ks kk its i ⟨some t,.fieldAddr s (.tmp x) f,rt,pos,aft,g⟩ t (.ptr id (off + off') (path ++ [f])) :=
 fun τ _ H K => by rw [killS_no hk]; exact R.fdP (K _ _ h) H
theorem lU {i t id off : Nat} {path : List Nat} {d0 d : D} {ty n rt : TypeId} {gg : Bool} {pos : String} {aft : Array Edge} {g : Option (Nat × Bool)} [LdT P ty n gg] (p : Nat)
 (h : facts an ks σ.env its i p = some (.ptr id off path)) (hb : lk σ.bx id = some (.var d0)) (hl : d0.loc path = some (off,d)) (hp : d.pur = true) (hn : d.sz = n) (hg : d.isAgg = gg) (hk : noK kk i = true) :
 EntP P C σ an ks kk its i ⟨some t,.load ty (.tmp p),rt,pos,aft,g⟩ t d :=
 fun τ B H K => by rw [killS_no hk]; exact R.ldP (K _ _ h) (B _ _ hb) hl hp hn hg H
theorem tU {Q : Exit → Sg → Prop} (h : picks σ.get (σ.env.map (·.1)) = σ.env) (q : Q .normal σ) : TL P C Q [] σ := ⟨_,_,_,_,h,rfl,rfl,q⟩
theorem tV {Q : Exit → Sg → Prop} (e : List (Nat × D)) (b : List (Nat × Bx)) (n : Nat) (h : picks σ.get (e.map (·.1)) = e) (h1 : σ.bx = b) (h2 : σ.n = n) (q : Q .normal ⟨n,e,b⟩) : TL P C Q [] σ := ⟨_,_,_,_,h,h1,h2,q⟩
end
section
variable {P : Program} {C : Ctx} {σ : Sg} {ops : List Oper} {Q : Exit → Sg → Prop}
def okL (n : Nat) (m : Nat) (ks kk : List (Nat × Nat)) (its : List It) (env : List (Nat × D)) (l : Nat) : Bool :=
 Nat.ble l m && Nat.ble its.length l && okTs n (slots its) && okRef (upTo m 0) ks (slots its) its 0 && subs kk ks && okEnv (slots its) env
theorem W.l0 {id : Nat} (m : Nat) (its : List It) (ks kk : List (Nat × Nat)) (env' : List (Nat × D)) (bx' : List (Nat × Bx)) (n' : Nat)
 (H : AllOps P C σ ops (upTo m 0) ks kk its ops its 0) (h : okL σ.n m ks kk its σ.env ops.length = true) (hE : picks (afts (upTo m 0) (fun _ => true) ks σ.env its) (env'.map (·.1)) = env')
 (hb : σ.bx = bx') (hn' : σ.n = n') (hT : TL P C Q (ops.drop its.length) ⟨n',env',bx'⟩) : W P C (.region id ops.toArray false) Q σ := by
 unfold okL at h
 simp only [Bool.and_eq_true] at h
 exact W.line (Nat.le_of_ble_eq_true h.1.1.1.1.1) ⟨Nat.le_of_ble_eq_true h.1.1.1.1.2,h.1.1.1.2,H,h.1.1.2,h.1.2,h.2⟩ hE hb hn' hT
end
end Go.Sx

namespace Go.Sx

def kTab : List UInt32 := [0x428a2f98,0x71374491,0xb5c0fbcf,0xe9b5dba5,0x3956c25b,0x59f111f1,0x923f82a4,0xab1c5ed5,
 0xd807aa98,0x12835b01,0x243185be,0x550c7dc3,0x72be5d74,0x80deb1fe,0x9bdc06a7,0xc19bf174,
 0xe49b69c1,0xefbe4786,0x0fc19dc6,0x240ca1cc,0x2de92c6f,0x4a7484aa,0x5cb0a9dc,0x76f988da,
 0x983e5152,0xa831c66d,0xb00327c8,0xbf597fc7,0xc6e00bf3,0xd5a79147,0x06ca6351,0x14292967,
 0x27b70a85,0x2e1b2138,0x4d2c6dfc,0x53380d13,0x650a7354,0x766a0abb,0x81c2c92e,0x92722c85,
 0xa2bfe8a1,0xa81a664b,0xc24b8b70,0xc76c51a3,0xd192e819,0xd6990624,0xf40e3585,0x106aa070,
 0x19a4c116,0x1e376c08,0x2748774c,0x34b0bcb5,0x391c0cb3,0x4ed8aa4a,0x5b9cca4f,0x682e6ff3,
 0x748f82ee,0x78a5636f,0x84c87814,0x8cc70208,0x90befffa,0xa4506ceb,0xbef9a3f7,0xc67178f2]
def iv : List UInt32 := [0x6a09e667,0xbb67ae85,0x3c6ef372,0xa54ff53a,0x510e527f,0x9b05688c,0x1f83d9ab,0x5be0cd19]

def hashD (b : List UInt8) : D := .arr 32 1 (b.map D.u8)

def rotl (x : UInt32) (k : Int) : UInt32 := shl_u32 x (UInt64.ofInt k &&& 31).toNat ||| shr_u32 x (32 - (UInt64.ofInt k &&& 31)).toNat
def right (x : UInt32) (n : Int) : UInt32 := rotl x (wr (0 - n))
def inW (p : List UInt8) (t : Nat) (w : List UInt32) : Nat → List UInt32
 | 0 => w
 | i + 1 => (inW p t w i).set t (shl_u32 (inW p t w i)[t]! 8 ||| (p[4 * t + i]!).toUInt32)
def nextW (w : List UInt32) (t : Nat) : UInt32 :=
 w[t - 16]! + w[t - 7]! + (right w[t - 15]! 7 ^^^ right w[t - 15]! 18 ^^^ shr_u32 w[t - 15]! 3) + (right w[t - 2]! 17 ^^^ right w[t - 2]! 19 ^^^ shr_u32 w[t - 2]! 10)
def sched (p : List UInt8) : Nat → List UInt32
 | 0 => List.replicate 64 0
 | t + 1 => if t < 16 then inW p t (sched p t) 4 else (sched p t).set t (nextW (sched p t) t)

structure W8 where
 a : UInt32
 b : UInt32
 c : UInt32
 d : UInt32
 e : UInt32
 f : UInt32
 g : UInt32
 l : UInt32
def W8.list (v : W8) : List UInt32 := [v.a,v.b,v.c,v.d,v.e,v.f,v.g,v.l]
def W8.of (h : List UInt32) : W8 := ⟨h[0]!,h[1]!,h[2]!,h[3]!,h[4]!,h[5]!,h[6]!,h[7]!⟩
def one (v : W8) (k w : UInt32) : UInt32 := v.l + (right v.e 6 ^^^ right v.e 11 ^^^ right v.e 25) + (v.g ^^^ (v.e &&& (v.f ^^^ v.g))) + k + w
def two (v : W8) : UInt32 := (right v.a 2 ^^^ right v.a 13 ^^^ right v.a 22) + (v.a &&& v.b ||| v.c &&& (v.a ||| v.b))
def rnd (v : W8) (k w : UInt32) : W8 := ⟨one v k w + two v,v.a,v.b,v.c,v.d + one v k w,v.e,v.f,v.g⟩
def rds (h w : List UInt32) : Nat → W8
 | 0 => W8.of h
 | t + 1 => rnd (rds h w t) kTab[t]! w[t]!
def addH (h l : List UInt32) : Nat → List UInt32
 | 0 => h
 | i + 1 => (addH h l i).set i ((addH h l i)[i]! + l[i]!)
def comp (h : List UInt32) (p : List UInt8) : List UInt32 := addH h (rds h (sched p 64) 64).list 8

structure ShaS where
 begun : Bool
 h : List UInt32
 piece : List UInt8
 n : UInt64
def stD (s : ShaS) : D := .agg [.bool s.begun,.arr 8 1 (s.h.map D.u32),.arr 64 1 (s.piece.map D.u8),.u64 s.n]
def ShaS.zero : ShaS := ⟨false,List.replicate 8 0,List.replicate 64 0,0⟩
def ShaS.start : ShaS := ⟨true,iv,List.replicate 64 0,0⟩
structure ShaS.ok (s : ShaS) : Prop where
 h : s.h.length = 8
 p : s.piece.length = 64
theorem ShaS.start_ok : ShaS.start.ok := ⟨by simp [ShaS.start,iv],by simp [ShaS.start]⟩

theorem frs_st (s : ShaS) : Frs (stD s) := .agg _ (frs_cons (.bool _) (frs_cons (.arr _ _ _ (frs_map fun _ => .u32 _)) (frs_cons (.arr _ _ _ (frs_map fun _ => .u8 _)) (frs_cons (.u64 _) frs_nil))))
theorem frs_hash (b : List UInt8) : Frs (hashD b) := .arr _ _ _ (frs_map fun _ => .u8 _)

theorem inW_len (p : List UInt8) (t : Nat) (w : List UInt32) (i : Nat) : (inW p t w i).length = w.length := by
 induction i with
 | zero => rfl
 | succ i ih => simp [inW,ih]
theorem sched_len (p : List UInt8) (t : Nat) : (sched p t).length = 64 := by
 induction t with
 | zero => simp [sched]
 | succ t ih => simp only [sched]; split <;> simp [inW_len,ih]
theorem addH_len (h l : List UInt32) (i : Nat) : (addH h l i).length = h.length := by
 induction i with
 | zero => rfl
 | succ i ih => simp [addH,ih]
theorem comp_len (h : List UInt32) (p : List UInt8) : (comp h p).length = h.length := addH_len ..

def mS (s : ShaS) : Nat := (s.n % 64).toNat
def kS (s : ShaS) (b : List UInt8) : Nat := min b.length (64 - mS s)
def pieceS (s : ShaS) (b : List UInt8) : List UInt8 := s.piece.take (mS s) ++ b.take (kS s b) ++ s.piece.drop (mS s + kS s b)
def nS (s : ShaS) (b : List UInt8) : UInt64 := s.n + UInt64.ofInt (kS s b : Nat)
def stepS (s : ShaS) (b : List UInt8) : ShaS := ⟨s.begun,bif nS s b % 64 == 0 then comp s.h (pieceS s b) else s.h,pieceS s b,nS s b⟩
theorem mS_lt (s : ShaS) : mS s < 64 := by
 unfold mS
 rw [UInt64.toNat_mod]
 exact Nat.mod_lt _ (by decide)
theorem kS_le (s : ShaS) (b : List UInt8) : kS s b ≤ b.length := Nat.min_le_left _ _
theorem kS_pos (s : ShaS) (b : List UInt8) (h : 0 < b.length) : 0 < kS s b := by have := mS_lt s; unfold kS; omega
theorem kS_room (s : ShaS) (b : List UInt8) : mS s + kS s b ≤ 64 := by have := mS_lt s; unfold kS; omega
def addW (s : ShaS) (b : List UInt8) : ShaS :=
 if h : b.length = 0 then s else addW (stepS s b) (b.drop (kS s b))
termination_by b.length
decreasing_by
 have := kS_pos s b (by omega)
 simp only [List.length_drop]; omega
theorem addW_nil (s : ShaS) (b : List UInt8) (h : b.length = 0) : addW s b = s := by rw [addW]; simp [h]
theorem addW_step (s : ShaS) (b : List UInt8) (h : b.length ≠ 0) : addW s b = addW (stepS s b) (b.drop (kS s b)) := by rw [addW]; simp [h]
def addS (s : ShaS) (b : List UInt8) : ShaS := addW (bif s.begun then s else ShaS.start) b
theorem pieceS_len (s : ShaS) (b : List UInt8) (h : s.ok) : (pieceS s b).length = 64 := by
 have h1 := kS_room s b
 have h2 := kS_le s b
 have h3 := h.p
 simp [pieceS]; omega
theorem stepS_ok (s : ShaS) (b : List UInt8) (h : s.ok) : (stepS s b).ok := by
 refine ⟨?_,pieceS_len s b h⟩
 simp only [stepS]
 cases (nS s b % 64 == 0) with
 | true => simp only [cond_true,comp_len]; exact h.h
 | false => exact h.h
theorem addW_ok (s : ShaS) (b : List UInt8) (h : s.ok) : (addW s b).ok := by
 induction hn : b.length using Nat.strongRecOn generalizing s b with
 | _ n ih =>
  by_cases h0 : b.length = 0
  · rw [addW_nil _ _ h0]; exact h
  · rw [addW_step _ _ h0]
    have := kS_pos s b (by omega)
    exact ih _ (by simp; omega) _ _ (stepS_ok s b h) rfl
theorem addS_ok (s : ShaS) (b : List UInt8) (h : s.ok) : (addS s b).ok := by
 unfold addS
 cases s.begun with
 | true => exact addW_ok _ _ h
 | false => exact addW_ok _ _ ShaS.start_ok

def padN (s : ShaS) : Nat := (120 - mS s) % 64
def padS : Nat → ShaS → ShaS
 | 0,s => s
 | k + 1,s => padS k (addS s [0])
def longB (n : UInt64) : Nat → List UInt8
 | 0 => List.replicate 8 0
 | i + 1 => (longB n i).set i (shr_u64 n (56 - 8 * i)).toUInt8
theorem longB_len (n : UInt64) (i : Nat) : (longB n i).length = 8 := by
 induction i with
 | zero => simp [longB]
 | succ i ih => simp [longB,ih]
def outB (h : List UInt32) : Nat → List UInt8
 | 0 => List.replicate 32 0
 | i + 1 => (outB h i).set i (shr_u32 h[i / 4]! (24 - 8 * (i % 4))).toUInt8
theorem outB_len (h : List UInt32) (i : Nat) : (outB h i).length = 32 := by
 induction i with
 | zero => simp [outB]
 | succ i ih => simp [outB,ih]
def pad1 (s : ShaS) : ShaS := addS s [128]
def pad2 (s : ShaS) : ShaS := padS (padN (pad1 s)) (pad1 s)
def pad3 (s : ShaS) : ShaS := addS (pad2 s) (longB (s.n * 8) 8)
def endS (s : ShaS) : List UInt8 := outB (pad3 s).h 32
def sumS (b : List UInt8) : List UInt8 := endS (addS ShaS.start b)
def twiceS (b : List UInt8) : List UInt8 := sumS (sumS b)
theorem endS_len (s : ShaS) : (endS s).length = 32 := outB_len _ _
theorem sumS_len (b : List UInt8) : (sumS b).length = 32 := endS_len _

theorem stepS_begun (s : ShaS) (b : List UInt8) : (stepS s b).begun = s.begun := rfl
theorem addW_begun (s : ShaS) (b : List UInt8) : (addW s b).begun = s.begun := by
 induction hn : b.length using Nat.strongRecOn generalizing s b with
 | _ n ih =>
  by_cases h0 : b.length = 0
  · rw [addW_nil _ _ h0]
  · rw [addW_step _ _ h0]
    have := kS_pos s b (by omega)
    rw [ih _ (by simp; omega) _ _ rfl,stepS_begun]
theorem addS_begun (s : ShaS) (b : List UInt8) : (addS s b).begun = true := by
 unfold addS
 rw [addW_begun]
 cases h : s.begun with
 | true => simpa using h
 | false => rfl
theorem addS_one (s : ShaS) (x : UInt8) (h : s.begun = true) : addS s [x] = stepS s [x] := by
 unfold addS
 have hk : kS s [x] = 1 := by have := mS_lt s; simp only [kS,List.length_singleton]; omega
 rw [h,cond_true,addW_step _ _ (by simp),addW_nil _ _ (by simp [hk])]
theorem mS_one (s : ShaS) (x : UInt8) (h : s.begun = true) : mS (addS s [x]) = (mS s + 1) % 64 := by
 rw [addS_one s x h]
 have hk : kS s [x] = 1 := by have := mS_lt s; simp only [kS,List.length_singleton]; omega
 have e : UInt64.ofInt ((1 : Nat) : Int) = 1 := rfl
 have e1 : (1 : UInt64).toNat = 1 := rfl
 have e2 : (64 : UInt64).toNat = 64 := rfl
 simp only [mS,stepS,nS,hk,e,UInt64.toNat_mod,UInt64.toNat_add,e1,e2]
 omega
theorem mS_ne {s : ShaS} (h : (s.n % 64 != 56) = true) : mS s ≠ 56 := by
 intro he
 have : s.n % 64 = 56 := UInt64.toNat_inj.1 he
 simp [this] at h
theorem mS_eq {s : ShaS} (h : (s.n % 64 != 56) = false) : mS s = 56 := by
 have : s.n % 64 = 56 := by simpa using h
 unfold mS; rw [this]; rfl
theorem pad_step (s : ShaS) (hb : s.begun = true) (h : mS s ≠ 56) : padS (padN s) s = padS (padN (addS s [0])) (addS s [0]) := by
 have h1 := mS_one s 0 hb
 have h2 := mS_lt s
 have : padN s = padN (addS s [0]) + 1 := by unfold padN; omega
 rw [this]; rfl
theorem pad_less (s : ShaS) (hb : s.begun = true) (h : mS s ≠ 56) : padN (addS s [0]) < padN s := by
 have h1 := mS_one s 0 hb
 have h2 := mS_lt s
 unfold padN; omega
theorem pad_end (s : ShaS) (h : mS s = 56) : padN s = 0 := by unfold padN; omega

def rright (x : UInt32) (n : UInt64) : UInt32 := shr_u32 x n.toNat ||| shl_u32 x (32 - n).toNat
def w4 (p : List UInt8) (t : Nat) : UInt32 :=
 shl_u32 (p[4 * t]!).toUInt32 24 ||| shl_u32 (p[4 * t + 1]!).toUInt32 16 ||| shl_u32 (p[4 * t + 2]!).toUInt32 8 ||| (p[4 * t + 3]!).toUInt32
def nextR (w : List UInt32) (t : Nat) : UInt32 :=
 (rright w[t - 2]! 17 ^^^ rright w[t - 2]! 19 ^^^ shr_u32 w[t - 2]! 10) + w[t - 7]! + (rright w[t - 15]! 7 ^^^ rright w[t - 15]! 18 ^^^ shr_u32 w[t - 15]! 3) + w[t - 16]!
def wR (p : List UInt8) : Nat → List UInt32
 | 0 => []
 | t + 1 => wR p t ++ [if t < 16 then w4 p t else nextR (wR p t) t]
theorem wR_len (p : List UInt8) (t : Nat) : (wR p t).length = t := by
 induction t with
 | zero => rfl
 | succ t ih => simp [wR,ih]
def oneR (l : List UInt32) (k w : UInt32) : UInt32 :=
 l[7]! + (rright l[4]! 6 ^^^ rright l[4]! 11 ^^^ rright l[4]! 25) + (l[4]! &&& l[5]! ^^^ ~~~l[4]! &&& l[6]!) + k + w
def twoR (l : List UInt32) : UInt32 := (rright l[0]! 2 ^^^ rright l[0]! 13 ^^^ rright l[0]! 22) + (l[0]! &&& l[1]! ^^^ l[0]! &&& l[2]! ^^^ l[1]! &&& l[2]!)
def rndR (l : List UInt32) (k w : UInt32) : List UInt32 := [oneR l k w + twoR l,l[0]!,l[1]!,l[2]!,l[3]! + oneR l k w,l[4]!,l[5]!,l[6]!]
def rdsR (h w : List UInt32) : Nat → List UInt32
 | 0 => h
 | t + 1 => rndR (rdsR h w t) kTab[t]! w[t]!
theorem rdsR_len (h w : List UInt32) (t : Nat) (hh : h.length = 8) : (rdsR h w t).length = 8 := by
 cases t with
 | zero => exact hh
 | succ t => rfl
def compR (h : List UInt32) (p : List UInt8) : List UInt32 := addH h (rdsR h (wR p 64) 64) 8
theorem compR_len (h : List UInt32) (p : List UInt8) : (compR h p).length = h.length := addH_len ..
def zR (b : List UInt8) : Nat := (119 - b.length % 64) % 64
def tailR (n : UInt64) : Nat → List UInt8
 | 0 => []
 | j + 1 => tailR n j ++ [(shr_u64 n (UInt64.ofInt (wr (8 * (7 - ((j : Nat) : Int))))).toNat).toUInt8]
theorem tailR_len (n : UInt64) (t : Nat) : (tailR n t).length = t := by
 induction t with
 | zero => rfl
 | succ t ih => simp [tailR,ih]
def bitsR (b : List UInt8) : UInt64 := UInt64.ofInt (b.length : Nat) * 8
def textR (b : List UInt8) : List UInt8 := b ++ [128] ++ List.replicate (zR b) 0 ++ tailR (bitsR b) 8
theorem textR_len (b : List UInt8) : (textR b).length = b.length + 9 + zR b := by simp [textR,tailR_len]; omega
def pieces (b : List UInt8) : Nat := (b.length + 9 + zR b) / 64
theorem textR_pieces (b : List UInt8) : (textR b).length = 64 * pieces b := by rw [textR_len]; unfold pieces zR; omega
def hR (all : List UInt8) : Nat → List UInt32
 | 0 => iv
 | m + 1 => compR (hR all m) ((all.drop (64 * m)).take 64)
theorem hR_len (all : List UInt8) (m : Nat) : (hR all m).length = 8 := by
 induction m with
 | zero => rfl
 | succ m ih => simp only [hR,compR_len,ih]
def outR (h : List UInt32) : Nat → List UInt8
 | 0 => List.replicate 32 0
 | i + 1 => (outR h i).set i (shr_u32 h[i / 4]! (UInt64.ofInt ((24 - 8 * (i % 4) : Nat) : Int)).toNat).toUInt8
theorem outR_len (h : List UInt32) (i : Nat) : (outR h i).length = 32 := by
 induction i with
 | zero => simp [outR]
 | succ i ih => simp [outR,ih]
def sumR (b : List UInt8) : List UInt8 := outR (hR (textR b) (pieces b)) 32
def twiceR (b : List UInt8) : List UInt8 := sumR (sumR b)
theorem sumR_len (b : List UInt8) : (sumR b).length = 32 := outR_len _ _
end Go.Sx

namespace Go.Sx

variable {P : Program} {C : Ctx} {σ σ' σ1 : Sg} {a : Act} {w w' : World} {ρ : Nat → Nat} {Fe Fe' Fb : Nat → List Nat}

theorem run_callVC {f : FuncId} [h : CaT P f] {s : Nat} {t : Option Nat} {args : Array Operand} {vs : List Value} {tys : Array TypeId} {rt : TypeId} {pos : String} {aft : Array Edge} {g : Option (Nat × Bool)} (a : Act) (w : World) (hs : a.tmps[s]? = some (.func (.func f) #[] vs.toArray)) :
 (execOp a.eval ⟨t,.call { callee := .value (.tmp s),args := args,argTypes := tys },rt,pos,aft,g⟩).run P w = .ok (.enter f (args.map a.eval ++ vs.toArray)) w := by
 obtain ⟨fn,h1,h2,h3⟩ := h.i
 unfold execOp
 simp [resolve,eval_tmp hs,Deferred.ofValue,invoke,run_callFunc h1 h2 h3]

theorem R.callVB {f : FuncId} [CaT P f] {s t : Nat} {args : List Operand} {tys : Array TypeId} {rt : TypeId} {pos : String} {aft : Array Edge} {g : Option (Nat × Bool)} {gl : List (Nat × D)} {ds caps capsA : List D} {r r' : D} {bx bx' nw cx cx' nwc : List (Nat × Bx)}
 (ml : List (Nat × Nat)) (hC : C.gl = gl) (hs : σ.get s = some (.fn f capsA)) (hca : D.rens (mlk ml) caps = capsA) (hcp : D.okBs (bx.map Prod.fst) caps = true) (hF : FnB P gl f (ds ++ caps) bx r bx' nw) (ha : EvB C.gl σ (mlk ml) (bx.map Prod.fst) args ds)
 (hcx : renBx (mlk ml) bx = cx) (hlk : hasBx σ.bx cx) (hob : okBxP (bx.map Prod.fst) bx) (hcx' : renBx (mlk ml) bx' = cx') (hnw : renBx (mlk ml) nw = nwc) (hr : r.ren (mlk ml) = r')
 (hk : bx'.map Prod.fst = bx.map Prod.fst) (hfr : freshB σ.bx nwc = true) (hinj : injB (mlk ml) ((nw ++ bx').map Prod.fst) = true) (ht : t < σ.n) :
 OpS P C ⟨some t,.call { callee := .value (.tmp s),args := args.toArray,argTypes := tys },rt,pos,aft,g⟩ σ ((⟨σ.n,scrubL (cx.map Prod.fst) σ.env,nwc ++ lendB cx' σ.bx⟩ : Sg).set t r') := by
 subst hC; subst hcx; subst hcx'; subst hnw; subst hr
 intro a w ⟨ρ,Fe,Fb,st⟩ K Q hK
 obtain ⟨hhand,hback⟩ := st.callB (m := mlk ml) hlk hob hk hfr hinj
 have hmem : ∀ i,memB (bx.map Prod.fst) i = true → (lk bx i).isSome = true := fun i hi => by
  rw [lk_key]
  simp only [memB,List.any_eq_true] at hi
  obtain ⟨j,hj,he⟩ := hi
  rw [Nat.eq_of_beq_eq_true he]; exact hj
 obtain ⟨vs,hvs,hvl,hva,hvr⟩ : ∃ vs : List Value,a.tmps[s]? = some (.func (.func f) #[] vs.toArray) ∧ vs.length = caps.length ∧ (∀ k (h : k < caps.length),caps[k].isAgg = false) ∧
  ∀ k (h : k < caps.length),Rc w (fun i => ρ (mlk ml i)) (gd C Fe Fb) (fun i => (lk bx i).isSome = true) true caps[k] [vs.getD k undef] [] := by
  obtain ⟨vg,hvg,hrg⟩ := (SR_plain rfl).1 (st.env s _ hs)
  simp only [VR,D.isAgg,Bool.false_eq_true,if_false] at hrg
  rw [rens_eq] at hca
  subst hca
  generalize Fe s = Fg at hrg
  cases hrg with
  | fn _ _ vs hl ha hr =>
   refine ⟨vs,hvg,by simpa using hl,fun k hk => ?_,fun k hk => ?_⟩
   · have := ha k (by simpa using hk); rw [List.getElem_map,isAgg_ren] at this; exact this
   · have h1 := hr k (by simpa using hk)
     rw [List.getElem_map] at h1
     have h2 : Rc w (fun i => ρ (mlk ml i)) (gd C Fe Fb) (fun i => (σ.box (mlk ml i)).isSome = true) true caps[k] [vs.getD k undef] [] := h1.unren rfl (fun i hi => ⟨hi,rfl⟩)
     exact (h2.okB (okBs_get caps hcp k hk)).mono (fun _ _ _ => rfl) (fun _ h _ => h) (fun i hi => ⟨hmem i hi.1,rfl⟩)
 refine wpIn_of_run (run_callVC a w hvs) (by simp) ?_
 rw [Oper.uponIn_enter]
 have hlen : (args.map a.eval).length = ds.length := by simp [ha.len]
 have hc := hF w (fun b => gd C Fe Fb b ∧ b < w.heap.size) (fun i => ρ (mlk ml i)) (fun i => if (lk bx i).isSome then Fb (mlk ml i) else []) (args.map a.eval ++ vs)
  (fun g d hg => by obtain ⟨h1,h2⟩ := gl_ok st g d hg; obtain ⟨cs,e,fz,h3,h4⟩ := h2; exact ⟨⟨h1,(Array.getElem?_eq_some_iff.1 h3).1⟩,cs,e,fz,h3,h4⟩) (fun b hb => hb.2) (by simp [ha.len,hvl])
  (fun k hk => by
   by_cases hkd : k < ds.length
   · have h1 := (ha.ok st k hkd).mono (fun _ _ _ => rfl) (fun b (hb : gd C Fe Fb b) hl => (⟨hb,hl⟩ : gd C Fe Fb b ∧ b < w.heap.size)) (fun i hi => ⟨hmem i hi.1,rfl⟩)
     have e1 : (ds ++ caps)[k] = ds[k] := List.getElem_append_left hkd
     have e2 : (args.map a.eval ++ vs).getD k undef = (args.map a.eval).getD k undef := by
      simp only [List.getD_eq_getElem?_getD]
      rw [List.getElem?_append_left (by rw [hlen]; exact hkd)]
     rw [e1,e2]
     exact h1
   · have hk' : k - ds.length < caps.length := by simp only [List.length_append] at hk; omega
     have e1 : (ds ++ caps)[k] = caps[k - ds.length] := List.getElem_append_right (by omega)
     have e2 : (args.map a.eval ++ vs).getD k undef = vs.getD (k - ds.length) undef := by
      simp only [List.getD_eq_getElem?_getD]
      rw [List.getElem?_append_right (by rw [hlen]; omega),hlen]
     rw [e1,e2]
     simp only [VR,hva _ hk',Bool.false_eq_true,if_false]
     exact (hvr _ hk').mono (fun _ _ _ => rfl) (fun b hb hl => ⟨hb,hl⟩) (fun i hi => ⟨hi,rfl⟩))
  ⟨fun id x hx => (hhand.box id x hx).mono (fun _ _ _ => rfl) (fun b hb hl => ⟨hb,hl⟩) (fun i hi => ⟨hi,rfl⟩),hhand.boxN,hhand.nodB,hhand.dBB,fun id b hb hc => hhand.out id b hb hc.1⟩
 simp only [List.map_toArray,List.append_toArray]
 refine ⟨(fun h => by cases h),(callsIn_fx (Calls.mono hc ?_))⟩
 rintro e w' ⟨v,F,ρ',Fb',rfl,hext,hρ',hnd,hsrc,hFB,hFl,hand,hrv⟩
 have hGG : ∀ b,(((gd C Fe Fb b ∧ b < w.heap.size) ∨ w.heap.size ≤ b ∨ ∃ id,b ∈ (if (lk bx id).isSome then Fb (mlk ml id) else [])) ∧ b ∉ F ∧ ¬ ∃ id,b ∈ Fb' id) →
  ((gd C Fe Fb b ∨ w.heap.size ≤ b ∨ ∃ id,b ∈ (if (lk bx id).isSome then Fb (mlk ml id) else [])) ∧ b ∉ F ∧ ¬ ∃ id,b ∈ Fb' id) := fun b hb => ⟨hb.1.imp (fun h => h.1) (fun h => h),hb.2⟩
 obtain ⟨ρ2,Fb2,st2,hrv2,hdE,hdB,hkp,hok⟩ := hback w' F ρ' Fb' hext hρ' hnd hsrc hFB hFl
  ⟨fun id x hx => (hand.box id x hx).mono (fun _ _ _ => rfl) (fun b hb _ => hGG b hb) (fun i hi => ⟨hi,rfl⟩),hand.boxN,hand.nodB,hand.dBB,fun id b hb hc => hc.2.2 ⟨id,hb⟩⟩
 have hrv3 := hrv2 r v (hrv.mono (fun _ _ _ => rfl) (fun b hb _ => hGG b hb) (fun i hi => ⟨hi,rfl⟩))
 have hput : (a.put (some t) v).tmps[t]? = some v := by rw [put_get a t v t (by rw [st.size]; exact ht)]; simp
 refine hK _ _ ⟨ρ2,upd Fe t F,Fb2,st2.adopt ht hnd hdE hdB hkp hok (RV.slot (hrv3.mono (fun _ _ _ => rfl) (fun b hb _ => ⟨hb.1.1, ?_⟩) (fun i hi => ⟨hi,rfl⟩)) hput)⟩
 rintro (⟨u,hu⟩ | ho)
 · by_cases hut : u = t
   · subst hut; simp at hu; exact hb.2 hu
   · rw [upd_other hut] at hu; exact hb.1.2 (.inl ⟨u,hu⟩)
 · exact hb.1.2 (.inr ho)
inductive EvFs (gl : List (Nat × D)) (σ : Sg) : List Operand → List D → Prop
 | nil : EvFs gl σ [] []
 | cons {x : Operand} {d : D} {xs : List Operand} {ds : List D} (h : ev gl σ x = some d) (hp : d.pur = true) (ha : d.isAgg = false) (t : EvFs gl σ xs ds) : EvFs gl σ (x :: xs) (d :: ds)
theorem EvFs.len {gl : List (Nat × D)} {xs : List Operand} {ds : List D} (h : EvFs gl σ xs ds) : xs.length = ds.length := by
 induction h with
 | nil => rfl
 | cons _ _ _ _ ih => simp [ih]
theorem EvFs.at {gl : List (Nat × D)} {xs : List Operand} {ds : List D} (h : EvFs gl σ xs ds) : ∀ k (h : k < xs.length) (h' : k < ds.length),ev gl σ xs[k] = some ds[k] ∧ ds[k].pur = true ∧ ds[k].isAgg = false := by
 induction h with
 | nil => intro k hk; simp at hk
 | cons h hp ha t ih =>
  intro k hk hk'
  cases k with
  | zero => exact ⟨h,hp,ha⟩
  | succ k => exact ih k (by simpa using hk) (by simpa using hk')
theorem R.mkfnL {t f : Nat} {xs : List Operand} {ds : List D} {rt : TypeId} {pos : String} {aft : Array Edge} {g : Option (Nat × Bool)} (h : EvFs C.gl σ xs ds) (ht : t < σ.n) :
 OpS P C ⟨some t,.makeFunc (.func f) #[] xs.toArray,rt,pos,aft,g⟩ σ (σ.set t (.fn f ds)) := R.mkfn h.len h.at ht
end Go.Sx

namespace Go.Sx
open Go.Proofs
set_option maxRecDepth 100000
instance : ZrT Tryd.prog 1 (.nilf) := ⟨_,_,rfl,rfl,by decide,rfl⟩
instance : IkT Tryd.prog 2 .i64 := ⟨rfl⟩
instance : ZrT Tryd.prog 2 (.int 0) := ⟨_,_,rfl,rfl,by decide,rfl⟩
instance : LdT Tryd.prog 3 1 false := ⟨_,_,rfl,rfl,rfl,rfl⟩
instance : ElT Tryd.prog 3 1 8 := ⟨_,_,rfl,rfl,rfl,rfl,rfl,by decide,rfl⟩
instance : IkT Tryd.prog 3 .i64 := ⟨rfl⟩
instance : ZrT Tryd.prog 3 (.int 0) := ⟨_,_,rfl,rfl,by decide,rfl⟩
instance : LdT Tryd.prog 4 1 false := ⟨_,_,rfl,rfl,rfl,rfl⟩
instance : ElT Tryd.prog 4 1 1 := ⟨_,_,rfl,rfl,rfl,rfl,rfl,by decide,rfl⟩
instance : BoT Tryd.prog 4 := ⟨rfl⟩
instance : ZrT Tryd.prog 4 (.bool false) := ⟨_,_,rfl,rfl,by decide,rfl⟩
instance : LdT Tryd.prog 5 1 false := ⟨_,_,rfl,rfl,rfl,rfl⟩
instance : ElT Tryd.prog 5 1 1 := ⟨_,_,rfl,rfl,rfl,rfl,rfl,by decide,rfl⟩
instance : IkT Tryd.prog 5 .u8 := ⟨rfl⟩
instance : ZrT Tryd.prog 5 (.u8 0) := ⟨_,_,rfl,rfl,by decide,rfl⟩
instance : IkT Tryd.prog 6 .u8 := ⟨rfl⟩
instance : ZrT Tryd.prog 6 (.u8 0) := ⟨_,_,rfl,rfl,by decide,rfl⟩
instance : ZrT Tryd.prog 7 (.agg [.int 0,.int 0,.bool false,.u8 0]) := ⟨_,_,rfl,rfl,by decide,rfl⟩
instance : BsT Tryd.prog 7 ([.int 0,.int 0,.bool false,.u8 0]) := ⟨_,_,_,rfl,rfl,rfl,rfl,by decide⟩
instance : ZrT Tryd.prog 8 (.agg [.int 0,.int 0,.bool false,.u8 0]) := ⟨_,_,rfl,rfl,by decide,rfl⟩
instance : BsT Tryd.prog 8 ([.int 0,.int 0,.bool false,.u8 0]) := ⟨_,_,_,rfl,rfl,rfl,rfl,by decide⟩
instance : StT Tryd.prog 9 := ⟨rfl⟩
instance : ZrT Tryd.prog 9 (.str []) := ⟨_,_,rfl,rfl,by decide,rfl⟩
instance : StT Tryd.prog 10 := ⟨rfl⟩
instance : ZrT Tryd.prog 10 (.str []) := ⟨_,_,rfl,rfl,by decide,rfl⟩
instance : StT Tryd.prog 11 := ⟨rfl⟩
instance : ZrT Tryd.prog 11 (.str []) := ⟨_,_,rfl,rfl,by decide,rfl⟩
instance : IkT Tryd.prog 12 .u64 := ⟨rfl⟩
instance : ZrT Tryd.prog 12 (.u64 0) := ⟨_,_,rfl,rfl,by decide,rfl⟩
instance : ZrT Tryd.prog 13 (.agg [.str [],.u64 0]) := ⟨_,_,rfl,rfl,by decide,rfl⟩
instance : BsT Tryd.prog 13 ([.str [],.u64 0]) := ⟨_,_,_,rfl,rfl,rfl,rfl,by decide⟩
instance : ZrT Tryd.prog 14 (.agg [.str [],.u64 0]) := ⟨_,_,rfl,rfl,by decide,rfl⟩
instance : BsT Tryd.prog 14 ([.str [],.u64 0]) := ⟨_,_,_,rfl,rfl,rfl,rfl,by decide⟩
instance : ZrT Tryd.prog 15 (.nilp) := ⟨_,_,rfl,rfl,by decide,rfl⟩
instance : ZrT Tryd.prog 17 (.nilp) := ⟨_,_,rfl,rfl,by decide,rfl⟩
instance : ZrT Tryd.prog 18 (.agg [.nilp]) := ⟨_,_,rfl,rfl,by decide,rfl⟩
instance : BsT Tryd.prog 18 ([.nilp]) := ⟨_,_,_,rfl,rfl,rfl,rfl,by decide⟩
instance : ZrT Tryd.prog 19 (.agg [.nilp]) := ⟨_,_,rfl,rfl,by decide,rfl⟩
instance : BsT Tryd.prog 19 ([.nilp]) := ⟨_,_,_,rfl,rfl,rfl,rfl,by decide⟩
instance : IkT Tryd.prog 21 .i32 := ⟨rfl⟩
instance : ZrT Tryd.prog 21 (.ik .i32 0) := ⟨_,_,rfl,rfl,by decide,rfl⟩
instance : LdT Tryd.prog 22 1 false := ⟨_,_,rfl,rfl,rfl,rfl⟩
instance : ElT Tryd.prog 22 1 24 := ⟨_,_,rfl,rfl,rfl,rfl,rfl,by decide,rfl⟩
instance : SlT Tryd.prog 22 38 := ⟨rfl⟩
instance : ZrT Tryd.prog 22 (.nils) := ⟨_,_,rfl,rfl,by decide,rfl⟩
instance : LdT Tryd.prog 23 1 false := ⟨_,_,rfl,rfl,rfl,rfl⟩
instance : ElT Tryd.prog 23 1 24 := ⟨_,_,rfl,rfl,rfl,rfl,rfl,by decide,rfl⟩
instance : SlT Tryd.prog 23 4 := ⟨rfl⟩
instance : ZrT Tryd.prog 23 (.nils) := ⟨_,_,rfl,rfl,by decide,rfl⟩
instance : ZrT Tryd.prog 24 (.agg [.int 0,.nils,.nils]) := ⟨_,_,rfl,rfl,by decide,rfl⟩
instance : BsT Tryd.prog 24 ([.int 0,.nils,.nils]) := ⟨_,_,_,rfl,rfl,rfl,rfl,by decide⟩
instance : LdT Tryd.prog 25 3 true := ⟨_,_,rfl,rfl,rfl,rfl⟩
instance : FdT Tryd.prog 25 0 0 := ⟨_,_,_,rfl,rfl,rfl,rfl,by decide⟩
instance : FdT Tryd.prog 25 1 1 := ⟨_,_,_,rfl,rfl,rfl,rfl,by decide⟩
instance : FdT Tryd.prog 25 2 2 := ⟨_,_,_,rfl,rfl,rfl,rfl,by decide⟩
instance : ZrT Tryd.prog 25 (.agg [.int 0,.nils,.nils]) := ⟨_,_,rfl,rfl,by decide,rfl⟩
instance : BsT Tryd.prog 25 ([.int 0,.nils,.nils]) := ⟨_,_,_,rfl,rfl,rfl,rfl,by decide⟩
instance : IkT Tryd.prog 26 .u16 := ⟨rfl⟩
instance : ZrT Tryd.prog 26 (.u16 0) := ⟨_,_,rfl,rfl,by decide,rfl⟩
instance : SlT Tryd.prog 27 5 := ⟨rfl⟩
instance : ZrT Tryd.prog 27 (.nils) := ⟨_,_,rfl,rfl,by decide,rfl⟩
instance : ZrT Tryd.prog 28 (.nilf) := ⟨_,_,rfl,rfl,by decide,rfl⟩
instance : ZrT Tryd.prog 29 (.nilf) := ⟨_,_,rfl,rfl,by decide,rfl⟩
instance : IkT Tryd.prog 30 .i64 := ⟨rfl⟩
instance : ZrT Tryd.prog 30 (.int 0) := ⟨_,_,rfl,rfl,by decide,rfl⟩
instance : ZrT Tryd.prog 32 (.nilf) := ⟨_,_,rfl,rfl,by decide,rfl⟩
instance : LdT Tryd.prog 33 3 true := ⟨_,_,rfl,rfl,rfl,rfl⟩
instance : ElT Tryd.prog 33 3 56 := ⟨_,_,rfl,rfl,rfl,rfl,rfl,by decide,rfl⟩
instance : FdT Tryd.prog 33 0 0 := ⟨_,_,_,rfl,rfl,rfl,rfl,by decide⟩
instance : FdT Tryd.prog 33 1 1 := ⟨_,_,_,rfl,rfl,rfl,rfl,by decide⟩
instance : FdT Tryd.prog 33 2 2 := ⟨_,_,_,rfl,rfl,rfl,rfl,by decide⟩
instance : ZrT Tryd.prog 33 (.agg [.int 0,.nils,.nils]) := ⟨_,_,rfl,rfl,by decide,rfl⟩
instance : BsT Tryd.prog 33 ([.int 0,.nils,.nils]) := ⟨_,_,_,rfl,rfl,rfl,rfl,by decide⟩
instance : ZrT Tryd.prog 35 (.nilf) := ⟨_,_,rfl,rfl,by decide,rfl⟩
instance : ZrT Tryd.prog 36 (.nilf) := ⟨_,_,rfl,rfl,by decide,rfl⟩
instance : EqT Tryd.prog 37 := ⟨by decide +kernel⟩
instance : ZrT Tryd.prog 37 (.arr 32 1 ((List.replicate 32 0).map D.u8)) := ⟨_,_,rfl,rfl,by decide,rfl⟩
instance : LdT Tryd.prog 38 32 true := ⟨_,_,rfl,rfl,rfl,rfl⟩
instance : ElT Tryd.prog 38 32 32 := ⟨_,_,rfl,rfl,rfl,rfl,rfl,by decide,rfl⟩
instance : ArT Tryd.prog 38 32 5 := ⟨rfl⟩
instance : BaT Tryd.prog 38 32 5 1 := ⟨_,_,_,rfl,rfl,rfl,rfl,rfl,rfl⟩
instance : EqT Tryd.prog 38 := ⟨by decide +kernel⟩
instance : ZrT Tryd.prog 38 (.arr 32 1 ((List.replicate 32 0).map D.u8)) := ⟨_,_,rfl,rfl,by decide,rfl⟩
instance : SlT Tryd.prog 39 33 := ⟨rfl⟩
instance : ZrT Tryd.prog 39 (.nils) := ⟨_,_,rfl,rfl,by decide,rfl⟩
instance : LdT Tryd.prog 40 1 false := ⟨_,_,rfl,rfl,rfl,rfl⟩
instance : SlT Tryd.prog 40 3 := ⟨rfl⟩
instance : ZrT Tryd.prog 40 (.nils) := ⟨_,_,rfl,rfl,by decide,rfl⟩
instance : ZrT Tryd.prog 42 (.nilf) := ⟨_,_,rfl,rfl,by decide,rfl⟩
instance : ZrT Tryd.prog 43 (.nilf) := ⟨_,_,rfl,rfl,by decide,rfl⟩
instance : ZrT Tryd.prog 45 (.nilf) := ⟨_,_,rfl,rfl,by decide,rfl⟩
instance : ZrT Tryd.prog 46 (.nilf) := ⟨_,_,rfl,rfl,by decide,rfl⟩
instance : ZrT Tryd.prog 47 (.nilf) := ⟨_,_,rfl,rfl,by decide,rfl⟩
instance : ZrT Tryd.prog 48 (.nilf) := ⟨_,_,rfl,rfl,by decide,rfl⟩
instance : ZrT Tryd.prog 49 (.nilf) := ⟨_,_,rfl,rfl,by decide,rfl⟩
instance : ZrT Tryd.prog 50 (.nilf) := ⟨_,_,rfl,rfl,by decide,rfl⟩
instance : ZrT Tryd.prog 51 (.nilf) := ⟨_,_,rfl,rfl,by decide,rfl⟩
instance : ZrT Tryd.prog 52 (.nils) := ⟨_,_,rfl,rfl,by decide,rfl⟩
instance : IkT Tryd.prog 53 .u64 := ⟨rfl⟩
instance : ZrT Tryd.prog 53 (.u64 0) := ⟨_,_,rfl,rfl,by decide,rfl⟩
instance : ZrT Tryd.prog 54 (.nilf) := ⟨_,_,rfl,rfl,by decide,rfl⟩
instance : ZrT Tryd.prog 55 (.nilf) := ⟨_,_,rfl,rfl,by decide,rfl⟩
instance : ZrT Tryd.prog 56 (.nilf) := ⟨_,_,rfl,rfl,by decide,rfl⟩
instance : ZrT Tryd.prog 57 (.nilf) := ⟨_,_,rfl,rfl,by decide,rfl⟩
instance : ZrT Tryd.prog 58 (.nilf) := ⟨_,_,rfl,rfl,by decide,rfl⟩
instance : ZrT Tryd.prog 60 (.nilf) := ⟨_,_,rfl,rfl,by decide,rfl⟩
instance : ZrT Tryd.prog 61 (.nilf) := ⟨_,_,rfl,rfl,by decide,rfl⟩
instance : LdT Tryd.prog 62 1 false := ⟨_,_,rfl,rfl,rfl,rfl⟩
instance : SlT Tryd.prog 62 22 := ⟨rfl⟩
instance : ZrT Tryd.prog 62 (.nils) := ⟨_,_,rfl,rfl,by decide,rfl⟩
instance : LdT Tryd.prog 63 1 false := ⟨_,_,rfl,rfl,rfl,rfl⟩
instance : SlT Tryd.prog 63 23 := ⟨rfl⟩
instance : ZrT Tryd.prog 63 (.nils) := ⟨_,_,rfl,rfl,by decide,rfl⟩
instance : ZrT Tryd.prog 65 (.nilf) := ⟨_,_,rfl,rfl,by decide,rfl⟩
instance : LdT Tryd.prog 66 1 false := ⟨_,_,rfl,rfl,rfl,rfl⟩
instance : ZrT Tryd.prog 66 (.nilf) := ⟨_,_,rfl,rfl,by decide,rfl⟩
instance : ZrT Tryd.prog 67 (.nilf) := ⟨_,_,rfl,rfl,by decide,rfl⟩
instance : ZrT Tryd.prog 68 (.nilf) := ⟨_,_,rfl,rfl,by decide,rfl⟩
instance : ZrT Tryd.prog 69 (.nilf) := ⟨_,_,rfl,rfl,by decide,rfl⟩
instance : LdT Tryd.prog 70 1 false := ⟨_,_,rfl,rfl,rfl,rfl⟩
instance : ZrT Tryd.prog 70 (.nilf) := ⟨_,_,rfl,rfl,by decide,rfl⟩
instance : ZrT Tryd.prog 72 (.nilf) := ⟨_,_,rfl,rfl,by decide,rfl⟩
instance : ZrT Tryd.prog 73 (.nilp) := ⟨_,_,rfl,rfl,by decide,rfl⟩
instance : ZrT Tryd.prog 74 (.agg [.agg [.int 0,.nils,.nils],.nils,.nils,.nils,.bool false]) := ⟨_,_,rfl,rfl,by decide,rfl⟩
instance : BsT Tryd.prog 74 ([.agg [.int 0,.nils,.nils],.nils,.nils,.nils,.bool false]) := ⟨_,_,_,rfl,rfl,rfl,rfl,by decide⟩
instance : FdT Tryd.prog 75 0 0 := ⟨_,_,_,rfl,rfl,rfl,rfl,by decide⟩
instance : FdT Tryd.prog 75 1 3 := ⟨_,_,_,rfl,rfl,rfl,rfl,by decide⟩
instance : FdT Tryd.prog 75 2 4 := ⟨_,_,_,rfl,rfl,rfl,rfl,by decide⟩
instance : FdT Tryd.prog 75 3 5 := ⟨_,_,_,rfl,rfl,rfl,rfl,by decide⟩
instance : FdT Tryd.prog 75 4 6 := ⟨_,_,_,rfl,rfl,rfl,rfl,by decide⟩
instance : ZrT Tryd.prog 75 (.agg [.agg [.int 0,.nils,.nils],.nils,.nils,.nils,.bool false]) := ⟨_,_,rfl,rfl,by decide,rfl⟩
instance : BsT Tryd.prog 75 ([.agg [.int 0,.nils,.nils],.nils,.nils,.nils,.bool false]) := ⟨_,_,_,rfl,rfl,rfl,rfl,by decide⟩
instance : ZrT Tryd.prog 76 (.nilf) := ⟨_,_,rfl,rfl,by decide,rfl⟩
instance : ZrT Tryd.prog 77 (.nilf) := ⟨_,_,rfl,rfl,by decide,rfl⟩
instance : LdT Tryd.prog 78 1 false := ⟨_,_,rfl,rfl,rfl,rfl⟩
instance : IkT Tryd.prog 78 .u64 := ⟨rfl⟩
instance : ZrT Tryd.prog 78 (.u64 0) := ⟨_,_,rfl,rfl,by decide,rfl⟩
instance : ZrT Tryd.prog 79 (.nilf) := ⟨_,_,rfl,rfl,by decide,rfl⟩
instance : ArT Tryd.prog 80 3 3 := ⟨rfl⟩
instance : EqT Tryd.prog 80 := ⟨by decide +kernel⟩
instance : ZrT Tryd.prog 80 (.arr 3 1 (List.replicate 3 (.int 0))) := ⟨_,_,rfl,rfl,by decide,rfl⟩
instance : ZrT Tryd.prog 82 (.nilf) := ⟨_,_,rfl,rfl,by decide,rfl⟩
instance : ZrT Tryd.prog 83 (.nilf) := ⟨_,_,rfl,rfl,by decide,rfl⟩
instance : ZrT Tryd.prog 84 (.nilf) := ⟨_,_,rfl,rfl,by decide,rfl⟩
instance : ZrT Tryd.prog 85 (.nilf) := ⟨_,_,rfl,rfl,by decide,rfl⟩
instance : ZrT Tryd.prog 86 (.nilf) := ⟨_,_,rfl,rfl,by decide,rfl⟩
instance : ZrT Tryd.prog 87 (.nilf) := ⟨_,_,rfl,rfl,by decide,rfl⟩
instance : ZrT Tryd.prog 88 (.nilf) := ⟨_,_,rfl,rfl,by decide,rfl⟩
instance : ArT Tryd.prog 89 64 5 := ⟨rfl⟩
instance : EqT Tryd.prog 89 := ⟨by decide +kernel⟩
instance : ZrT Tryd.prog 89 (.arr 64 1 ((List.replicate 64 0).map D.u8)) := ⟨_,_,rfl,rfl,by decide,rfl⟩
instance : ZrT Tryd.prog 90 (.nilf) := ⟨_,_,rfl,rfl,by decide,rfl⟩
instance : ZrT Tryd.prog 91 (.nilf) := ⟨_,_,rfl,rfl,by decide,rfl⟩
instance : ZrT Tryd.prog 92 (.nilf) := ⟨_,_,rfl,rfl,by decide,rfl⟩
instance : ZrT Tryd.prog 93 (.nilf) := ⟨_,_,rfl,rfl,by decide,rfl⟩
instance : LdT Tryd.prog 94 1 false := ⟨_,_,rfl,rfl,rfl,rfl⟩
instance : ElT Tryd.prog 94 1 4 := ⟨_,_,rfl,rfl,rfl,rfl,rfl,by decide,rfl⟩
instance : IkT Tryd.prog 94 .u32 := ⟨rfl⟩
instance : ZrT Tryd.prog 94 (.u32 0) := ⟨_,_,rfl,rfl,by decide,rfl⟩
instance : EqT Tryd.prog 95 := ⟨by decide +kernel⟩
instance : ZrT Tryd.prog 95 (.arr 8 1 ((List.replicate 8 0).map D.u32)) := ⟨_,_,rfl,rfl,by decide,rfl⟩
instance : LdT Tryd.prog 96 8 true := ⟨_,_,rfl,rfl,rfl,rfl⟩
instance : ArT Tryd.prog 96 8 94 := ⟨rfl⟩
instance : BaT Tryd.prog 96 8 94 1 := ⟨_,_,_,rfl,rfl,rfl,rfl,rfl,rfl⟩
instance : EqT Tryd.prog 96 := ⟨by decide +kernel⟩
instance : ZrT Tryd.prog 96 (.arr 8 1 ((List.replicate 8 0).map D.u32)) := ⟨_,_,rfl,rfl,by decide,rfl⟩
instance : ZrT Tryd.prog 97 (.agg [.bool false,.arr 8 1 ((List.replicate 8 0).map D.u32),.arr 64 1 ((List.replicate 64 0).map D.u8),.u64 0]) := ⟨_,_,rfl,rfl,by decide,rfl⟩
instance : BsT Tryd.prog 97 ([.bool false,.arr 8 1 ((List.replicate 8 0).map D.u32),.arr 64 1 ((List.replicate 64 0).map D.u8),.u64 0]) := ⟨_,_,_,rfl,rfl,rfl,rfl,by decide⟩
instance : LdT Tryd.prog 98 74 true := ⟨_,_,rfl,rfl,rfl,rfl⟩
instance : FdT Tryd.prog 98 0 0 := ⟨_,_,_,rfl,rfl,rfl,rfl,by decide⟩
instance : FdT Tryd.prog 98 1 1 := ⟨_,_,_,rfl,rfl,rfl,rfl,by decide⟩
instance : FdT Tryd.prog 98 2 9 := ⟨_,_,_,rfl,rfl,rfl,rfl,by decide⟩
instance : FdT Tryd.prog 98 3 73 := ⟨_,_,_,rfl,rfl,rfl,rfl,by decide⟩
instance : ZrT Tryd.prog 98 (.agg [.bool false,.arr 8 1 ((List.replicate 8 0).map D.u32),.arr 64 1 ((List.replicate 64 0).map D.u8),.u64 0]) := ⟨_,_,rfl,rfl,by decide,rfl⟩
instance : BsT Tryd.prog 98 ([.bool false,.arr 8 1 ((List.replicate 8 0).map D.u32),.arr 64 1 ((List.replicate 64 0).map D.u8),.u64 0]) := ⟨_,_,_,rfl,rfl,rfl,rfl,by decide⟩
instance : ZrT Tryd.prog 99 (.nilf) := ⟨_,_,rfl,rfl,by decide,rfl⟩
instance : ZrT Tryd.prog 100 (.nilf) := ⟨_,_,rfl,rfl,by decide,rfl⟩
instance : ZrT Tryd.prog 101 (.nilf) := ⟨_,_,rfl,rfl,by decide,rfl⟩
instance : SlT Tryd.prog 102 94 := ⟨rfl⟩
instance : ZrT Tryd.prog 102 (.nils) := ⟨_,_,rfl,rfl,by decide,rfl⟩
instance : ZrT Tryd.prog 103 (.nilf) := ⟨_,_,rfl,rfl,by decide,rfl⟩
instance : ZrT Tryd.prog 104 (.nilf) := ⟨_,_,rfl,rfl,by decide,rfl⟩
instance : ZrT Tryd.prog 105 (.nilf) := ⟨_,_,rfl,rfl,by decide,rfl⟩
instance : ZrT Tryd.prog 106 (.nilf) := ⟨_,_,rfl,rfl,by decide,rfl⟩
instance : ZrT Tryd.prog 107 (.nilf) := ⟨_,_,rfl,rfl,by decide,rfl⟩
instance : ZrT Tryd.prog 108 (.nilp) := ⟨_,_,rfl,rfl,by decide,rfl⟩
instance : ArT Tryd.prog 109 8 5 := ⟨rfl⟩
instance : EqT Tryd.prog 109 := ⟨by decide +kernel⟩
instance : ZrT Tryd.prog 109 (.arr 8 1 ((List.replicate 8 0).map D.u8)) := ⟨_,_,rfl,rfl,by decide,rfl⟩
instance : LdT Tryd.prog 110 64 true := ⟨_,_,rfl,rfl,rfl,rfl⟩
instance : ArT Tryd.prog 110 64 94 := ⟨rfl⟩
instance : EqT Tryd.prog 110 := ⟨by decide +kernel⟩
instance : ZrT Tryd.prog 110 (.arr 64 1 ((List.replicate 64 0).map D.u32)) := ⟨_,_,rfl,rfl,by decide,rfl⟩
instance : ZrT Tryd.prog 111 (.nilf) := ⟨_,_,rfl,rfl,by decide,rfl⟩
instance : ZrT Tryd.prog 112 (.nilf) := ⟨_,_,rfl,rfl,by decide,rfl⟩
instance : ZrT Tryd.prog 113 (.nilf) := ⟨_,_,rfl,rfl,by decide,rfl⟩
instance : ZrT Tryd.prog 114 (.agg [.nilp,.nilp,.nilp,.str []]) := ⟨_,_,rfl,rfl,by decide,rfl⟩
instance : BsT Tryd.prog 114 ([.nilp,.nilp,.nilp,.str []]) := ⟨_,_,_,rfl,rfl,rfl,rfl,by decide⟩
instance : ZrT Tryd.prog 115 (.agg [.nilp,.nilp,.nilp,.str []]) := ⟨_,_,rfl,rfl,by decide,rfl⟩
instance : BsT Tryd.prog 115 ([.nilp,.nilp,.nilp,.str []]) := ⟨_,_,_,rfl,rfl,rfl,rfl,by decide⟩
instance : ZrT Tryd.prog 119 (.nilf) := ⟨_,_,rfl,rfl,by decide,rfl⟩
instance : IkT Tryd.prog 120 .u8 := ⟨rfl⟩
instance : ZrT Tryd.prog 120 (.u8 0) := ⟨_,_,rfl,rfl,by decide,rfl⟩
instance : IkT Tryd.prog 121 .u8 := ⟨rfl⟩
instance : ZrT Tryd.prog 121 (.u8 0) := ⟨_,_,rfl,rfl,by decide,rfl⟩
instance : ZrT Tryd.prog 122 (.nilf) := ⟨_,_,rfl,rfl,by decide,rfl⟩
instance : ZrT Tryd.prog 123 (.nilp) := ⟨_,_,rfl,rfl,by decide,rfl⟩
instance : IkT Tryd.prog 124 .i32 := ⟨rfl⟩
instance : ZrT Tryd.prog 124 (.ik .i32 0) := ⟨_,_,rfl,rfl,by decide,rfl⟩
instance : IkT Tryd.prog 125 .i32 := ⟨rfl⟩
instance : ZrT Tryd.prog 125 (.ik .i32 0) := ⟨_,_,rfl,rfl,by decide,rfl⟩
instance : ZrT Tryd.prog 126 (.agg [.u64 0,.u64 0,.u32 0,.u8 0,.u8 0,.u8 0,.u8 0,.nilf,.nilp,.ik .i32 0,.ik .i32 0]) := ⟨_,_,rfl,rfl,by decide,rfl⟩
instance : BsT Tryd.prog 126 ([.u64 0,.u64 0,.u32 0,.u8 0,.u8 0,.u8 0,.u8 0,.nilf,.nilp,.ik .i32 0,.ik .i32 0]) := ⟨_,_,_,rfl,rfl,rfl,rfl,by decide⟩
instance : ZrT Tryd.prog 127 (.agg [.u64 0,.u64 0,.u32 0,.u8 0,.u8 0,.u8 0,.u8 0,.nilf,.nilp,.ik .i32 0,.ik .i32 0]) := ⟨_,_,rfl,rfl,by decide,rfl⟩
instance : BsT Tryd.prog 127 ([.u64 0,.u64 0,.u32 0,.u8 0,.u8 0,.u8 0,.u8 0,.nilf,.nilp,.ik .i32 0,.ik .i32 0]) := ⟨_,_,_,rfl,rfl,rfl,rfl,by decide⟩
instance : CaT Tryd.prog 7 := ⟨_,Tryd.func7,by decide,by decide⟩
instance : CaT Tryd.prog 8 := ⟨_,Tryd.func8,by decide,by decide⟩
instance : CaT Tryd.prog 9 := ⟨_,Tryd.func9,by decide,by decide⟩
instance : CaT Tryd.prog 10 := ⟨_,Tryd.func10,by decide,by decide⟩
instance : CaT Tryd.prog 11 := ⟨_,Tryd.func11,by decide,by decide⟩
instance : CaT Tryd.prog 12 := ⟨_,Tryd.func12,by decide,by decide⟩
instance : CaT Tryd.prog 13 := ⟨_,Tryd.func13,by decide,by decide⟩
instance : CaT Tryd.prog 14 := ⟨_,Tryd.func14,by decide,by decide⟩
instance : CaT Tryd.prog 15 := ⟨_,Tryd.func15,by decide,by decide⟩
instance : CaT Tryd.prog 16 := ⟨_,Tryd.func16,by decide,by decide⟩
instance : CaT Tryd.prog 17 := ⟨_,Tryd.func17,by decide,by decide⟩
instance : CaT Tryd.prog 18 := ⟨_,Tryd.func18,by decide,by decide⟩
instance : CaT Tryd.prog 19 := ⟨_,Tryd.func19,by decide,by decide⟩
instance : CaT Tryd.prog 22 := ⟨_,Tryd.func22,by decide,by decide⟩
instance : CaT Tryd.prog 24 := ⟨_,Tryd.func24,by decide,by decide⟩
instance : CaT Tryd.prog 25 := ⟨_,Tryd.func25,by decide,by decide⟩
instance : CaT Tryd.prog 26 := ⟨_,Tryd.func26,by decide,by decide⟩
instance : CaT Tryd.prog 27 := ⟨_,Tryd.func27,by decide,by decide⟩
instance : CaT Tryd.prog 28 := ⟨_,Tryd.func28,by decide,by decide⟩
instance : CaT Tryd.prog 29 := ⟨_,Tryd.func29,by decide,by decide⟩
instance : CaT Tryd.prog 30 := ⟨_,Tryd.func30,by decide,by decide⟩
instance : CaT Tryd.prog 31 := ⟨_,Tryd.func31,by decide,by decide⟩
instance : CaT Tryd.prog 32 := ⟨_,Tryd.func32,by decide,by decide⟩
instance : CaT Tryd.prog 33 := ⟨_,Tryd.func33,by decide,by decide⟩
instance : CaT Tryd.prog 34 := ⟨_,Tryd.func34,by decide,by decide⟩
instance : CaT Tryd.prog 35 := ⟨_,Tryd.func35,by decide,by decide⟩
instance : CaT Tryd.prog 36 := ⟨_,Tryd.func36,by decide,by decide⟩
instance : CaT Tryd.prog 38 := ⟨_,Tryd.func38,by decide,by decide⟩
instance : CaT Tryd.prog 40 := ⟨_,Tryd.func40,by decide,by decide⟩
instance : CaT Tryd.prog 41 := ⟨_,Tryd.func41,by decide,by decide⟩
instance : CaT Tryd.prog 42 := ⟨_,Tryd.func42,by decide,by decide⟩
instance : CaT Tryd.prog 43 := ⟨_,Tryd.func43,by decide,by decide⟩
instance : CaT Tryd.prog 44 := ⟨_,Tryd.func44,by decide,by decide⟩
instance : CaT Tryd.prog 45 := ⟨_,Tryd.func45,by decide,by decide⟩
instance : CaT Tryd.prog 46 := ⟨_,Tryd.func46,by decide,by decide⟩
instance : CaT Tryd.prog 48 := ⟨_,Tryd.func48,by decide,by decide⟩
instance : CaT Tryd.prog 49 := ⟨_,Tryd.func49,by decide,by decide⟩
instance : CaT Tryd.prog 50 := ⟨_,Tryd.func50,by decide,by decide⟩
instance : CaT Tryd.prog 51 := ⟨_,Tryd.func51,by decide,by decide⟩
instance : CaT Tryd.prog 52 := ⟨_,Tryd.func52,by decide,by decide⟩
instance : CaT Tryd.prog 53 := ⟨_,Tryd.func53,by decide,by decide⟩
instance : CaT Tryd.prog 54 := ⟨_,Tryd.func54,by decide,by decide⟩
instance : CaT Tryd.prog 55 := ⟨_,Tryd.func55,by decide,by decide⟩
instance : CaT Tryd.prog 56 := ⟨_,Tryd.func56,by decide,by decide⟩
instance : CaT Tryd.prog 57 := ⟨_,Tryd.func57,by decide,by decide⟩
instance : CaT Tryd.prog 58 := ⟨_,Tryd.func58,by decide,by decide⟩
instance : CaT Tryd.prog 59 := ⟨_,Tryd.func59,by decide,by decide⟩
instance : CaT Tryd.prog 60 := ⟨_,Tryd.func60,by decide,by decide⟩
instance : CaT Tryd.prog 61 := ⟨_,Tryd.func61,by decide,by decide⟩
instance : CaT Tryd.prog 62 := ⟨_,Tryd.func62,by decide,by decide⟩
instance : CaT Tryd.prog 63 := ⟨_,Tryd.func63,by decide,by decide⟩
def gl : List (Nat × D) := [(0,.arr 64 1 (kTab.map D.u32))]
end Go.Sx
