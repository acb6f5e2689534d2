/-
 Own library,part 16: append,new slices.
-/
import Derived.Test.YtgilikgghknbhaaMSxWrite
import Derived.Laws.CopyRow
import Derived.ChangeKeysEq
import Derived.MapKept
import Derived.Laws.IdiomStrings
import Derived.RangeFuncIn
import Derived.RangeFuncRecord
import Derived.RangeFuncLeaves
set_option linter.unusedVariables false
set_option linter.unusedSimpArgs false
set_option linter.unnecessarySimpa false

namespace Go.Sx
variable {P : Program} {C : Ctx} {σ σ' σ1 : Sg} {a : Act} {w w' : World} {ρ : Nat -> Nat} {Fe Fe' Fb : Nat -> List Nat}
theorem part_left (xs r : List Value) (i n z : Nat) (hx : xs.length = n * z) (hi : i < n) : ((xs ++ r).drop (i * z)).take z = (xs.drop (i * z)).take z:=by
 have : (i + 1) * z <= n * z:=Nat.mul_le_mul_right z hi
 rw [Nat.add_mul] at this
 rw [List.drop_append_of_le_length (by omega),List.take_append_of_le_length (by simp; omega)]
theorem part_right (xs news r : List Value) (j n m z : Nat) (hx : xs.length = n * z) (hn : news.length = m * z) (hj : j < m) :
 ((xs ++ (news ++ r)).drop ((n + j) * z)).take z = (news.drop (j * z)).take z:=by
 rw [show (n + j) * z = n * z + j * z from Nat.add_mul _ _ _,<- List.drop_drop,List.drop_left' hx]
 exact part_left news r j m z hn hj
def fjoin (n : Nat) (Fs Fs2 : Nat -> List Nat) (i : Nat) : List Nat:=if i < n then Fs i else Fs2 (i - n)
theorem fjoin_mem {n m : Nat} {Fs Fs2 : Nat -> List Nat} {b : Nat} (h : b ∈ (List.range (n + m)).flatMap (fjoin n Fs Fs2)) : b ∈ (List.range n).flatMap Fs ∨ b ∈ (List.range m).flatMap Fs2:=by
 obtain ⟨i,hi,hm⟩:=List.mem_flatMap.1 h
 have hi':=List.mem_range.1 hi
 unfold fjoin at hm
 split at hm
 · rename_i h1; exact .inl (List.mem_flatMap.2 ⟨i,List.mem_range.2 h1,hm⟩)
 · exact .inr (List.mem_flatMap.2 ⟨i - n,List.mem_range.2 (by omega),hm⟩)
theorem fjoin_nodup {n m : Nat} {Fs Fs2 : Nat -> List Nat} (h1 : ((List.range n).flatMap Fs).Nodup) (h2 : ((List.range m).flatMap Fs2).Nodup) (hd : ∀ b ∈ (List.range m).flatMap Fs2,b ∉ (List.range n).flatMap Fs) :
 ((List.range (n + m)).flatMap (fjoin n Fs Fs2)).Nodup:=by
 obtain ⟨a1,a2⟩:=flat_nodup h1
 obtain ⟨b1,b2⟩:=flat_nodup h2
 refine flat_nodup_mk (fun i hi=>?_) (fun i j hi hj hij b hb hb'=>?_)
 · unfold fjoin; split
   · rename_i h; exact a1 i h
   · exact b1 (i - n) (by omega)
 · unfold fjoin at hb hb'
   split at hb <;> split at hb'
   · rename_i h h'; exact a2 i j h h' hij b hb hb'
   · rename_i h h'; exact hd b (List.mem_flatMap.2 ⟨_,List.mem_range.2 (by omega),hb'⟩) (List.mem_flatMap.2 ⟨_,List.mem_range.2 h,hb⟩)
   · rename_i h h'; exact hd b (List.mem_flatMap.2 ⟨_,List.mem_range.2 (by omega),hb⟩) (List.mem_flatMap.2 ⟨_,List.mem_range.2 h',hb'⟩)
   · rename_i h h'; exact b2 (i - n) (j - n) (by omega) (by omega) (by omega) b hb hb'
theorem slO_app {G L : Nat -> Prop} {p : Bool} {b e z cap : Nat} {cur : Array Value} {xs news rest : List Value} {l l' : List D} {Fs Fs2 : Nat -> List Nat} (hb : w.heap[b]? = some (.cells cur e (0,0)))
 (hcur : cur.toList = xs ++ (news ++ rest)) (hx : xs.length = l.length * z) (hn : news.length = l'.length * z) (hsz : cur.size = cap * z) (hc : l.length + l'.length <= cap) (hm : cap <= maxLen) (ho : ∀ u ∈ cur.toList,u.oneCell' = true)
 (hr1 : ∀ i (h : i < l.length),Rc w ρ G L false l[i] ((xs.drop (i * z)).take z) (Fs i)) (hr2 : ∀ j (h : j < l'.length),Rc w ρ G L false l'[j] ((news.drop (j * z)).take z) (Fs2 j)) :
 Rc w ρ G L p (.sl (some e) z (l ++ l')) [.slice (some ⟨b,0,none⟩) (l.length + l'.length : Nat) cap] (b :: (List.range (l.length + l'.length)).flatMap (fjoin l.length Fs Fs2)):=by
 have:=Rc.slO (w:=w) (ρ:=ρ) (G:=G) (L:=L) (p:=p) b cur e cap z (l ++ l') (fjoin l.length Fs Fs2) hb (by simpa using hc) hm hsz ho (fun i hi=>by
  rw [hcur]
  by_cases hil : i < l.length
  · simp only [List.getElem_append_left hil,fjoin,hil,if_true]
    rw [part_left _ _ _ _ _ hx hil]
    exact hr1 i hil
  · have hi' : i < l.length + l'.length:=by simpa using hi
    simp only [List.getElem_append_right (Nat.le_of_not_lt hil),fjoin,hil,if_false]
    have e1:=part_right xs news rest (i - l.length) l.length l'.length z hx hn (by omega)
    rw [show l.length + (i - l.length) = i by omega] at e1
    rw [e1]
    exact hr2 (i - l.length) (by omega))
 simpa using this
structure Turn (F : List Nat) (w w' : World) : Prop where
 os : w'.os = w.os
 tape : TpR w' w
 output : w'.output = w.output
 size : w.heap.size <= w'.heap.size
 blk : ∀ b,b < w.heap.size -> b ∉ F -> w'.heap[b]? = w.heap[b]?
theorem Turn.refl (F : List Nat) (w : World) : Turn F w w:=⟨rfl,⟨rfl,Nat.le_refl _⟩,rfl,Nat.le_refl _,fun _ _ _=>rfl⟩
theorem Turn.ofExt {F : List Nat} (h : Ext w w') : Turn F w w':=⟨h.os,⟨h.tape.tp,h.tape.dr⟩,h.output,h.size,fun b hb _=>h.block b hb⟩
theorem zeroCells_one {zv : Array Value} {n : Nat} (h : zv.toList.all Value.oneCell' = true) : ∀ u ∈ (Builtin.zeroCells zv n).toList,u.oneCell' = true:=by
 intro u hu
 simp only [Builtin.zeroCells,Array.toList_map,List.mem_map,Array.mem_toList_iff,Array.mem_range] at hu
 obtain ⟨i,hi,rfl⟩:=hu
 have hpos : 0 < zv.size:=by
  rcases Nat.eq_zero_or_pos zv.size with h0 | h0
  · rw [h0] at hi; omega
  · exact h0
 have hlt:=Nat.mod_lt i hpos
 rw [getElem!_pos zv (i % zv.size) hlt]
 exact List.all_eq_true.1 h _ (by simp)
theorem app_run {G L : Nat -> Prop} {t e z bytes ty : Nat} [hT : SlT P t e] [hE : ElT P e z bytes] {d : D} {l l' : List D} {v : Value} {F : List Nat} {base : Option Addr} {cap2 : Nat} {news : List Value} {Fs2 : Nat -> List Nat}
 (hd : Rc w ρ G L true d [v] F) (hdd : (d = .nils /\ l = []) ∨ d = .sl (some e) z l) (hFn : F.Nodup)
 (hs : (base = none /\ l' = [] /\ cap2 = 0) ∨ ∃ a,base = some a /\ ∀ j u,news[j]? = some u -> w.cell? (a.add j) = some u) (hnl : news.length = l'.length * z) (h1 : ∀ u ∈ news,u.oneCell' = true)
 (hr2 : ∀ j (h : j < l'.length),Rc w ρ G L false l'[j] ((news.drop (j * z)).take z) (Fs2 j)) (hF2 : ((List.range l'.length).flatMap Fs2).Nodup) (hdis : ∀ b ∈ (List.range l'.length).flatMap Fs2,b ∉ F) (hGF : ∀ b,G b -> b ∉ F)
 (hbytes : (l.length + l'.length) * bytes <= 140737488355328) (hmax : l.length + l'.length <= maxLen) :
 ∃ v' w' F',(Builtin.append_ #[t,t] ty #[v,.slice base l'.length cap2]).run P w = .ok v' w' /\ Turn F w w' /\ F'.Nodup /\ (∀ b ∈ F',b ∈ F ∨ b ∈ (List.range l'.length).flatMap Fs2 ∨ w.heap.size <= b) /\
  ∀ G',(∀ b,G b -> b < w.heap.size -> G' b) -> Rc w' ρ G' L true (.sl (some e) z (l ++ l')) [v'] F':=by
 obtain ⟨i,zv,hi,hsz,hby,hz,hzs,hpos,hone⟩:=hE.i
 have h63 : l.length + l'.length <= 9223372036854775807:=by simp only [maxLen] at hmax; omega
 -- the new block,when one is made
 have grow : ∀ (old : Nat) (xs : List Value) (Fs : Nat -> List Nat),(∀ u ∈ xs,u.oneCell' = true) -> xs.length = l.length * z -> (∀ j (h : j < l.length),Rc w ρ G L false l[j] ((xs.drop (j * z)).take z) (Fs j)) ->
  ((List.range l.length).flatMap Fs).Nodup -> (∀ b ∈ (List.range l.length).flatMap Fs,b ∈ F) ->
  ∃ F',Turn F w (w.drew.alloc (.cells (xs.toArray ++ news.toArray ++ Builtin.zeroCells zv.cells (grownCap w (l.length + l'.length) old e - (l.length + l'.length))) e)) /\ F'.Nodup /\
   (∀ b ∈ F',b ∈ F ∨ b ∈ (List.range l'.length).flatMap Fs2 ∨ w.heap.size <= b) /\
   ∀ G',(∀ b,G b -> b < w.heap.size -> G' b) -> Rc (w.drew.alloc (.cells (xs.toArray ++ news.toArray ++ Builtin.zeroCells zv.cells (grownCap w (l.length + l'.length) old e - (l.length + l'.length))) e)) ρ G' L true
    (.sl (some e) z (l ++ l')) [.slice (some ⟨w.heap.size,0,none⟩) (l.length + l'.length : Nat) (grownCap w (l.length + l'.length) old e)] F':=by
  intro old xs Fs hxo hx hr hnd hsub
  have hge:=grownCap_ge w (l.length + l'.length) old e
  have hcm : grownCap w (l.length + l'.length) old e <= maxLen:=grownCap_le_maxLen w (l.length + l'.length) old e hmax
  have hext : Ext w (w.drew.alloc (.cells (xs.toArray ++ news.toArray ++ Builtin.zeroCells zv.cells (grownCap w (l.length + l'.length) old e - (l.length + l'.length))) e)):=(Ext.drew w).trans (Ext.alloc _ _)
  have hnew : ∀ b ∈ (List.range (l.length + l'.length)).flatMap (fjoin l.length Fs Fs2),b < w.heap.size:=by
   intro b hb
   rcases fjoin_mem hb with h2 | h2
   · obtain ⟨j,hj,hm⟩:=List.mem_flatMap.1 h2
     exact (hr j (List.mem_range.1 hj)).lt b hm
   · obtain ⟨j,hj,hm⟩:=List.mem_flatMap.1 h2
     exact (hr2 j (List.mem_range.1 hj)).lt b hm
  refine ⟨w.heap.size :: (List.range (l.length + l'.length)).flatMap (fjoin l.length Fs Fs2),Turn.ofExt hext, ?_, ?_,fun G' hG'=>?_⟩
  · refine List.nodup_cons.2 ⟨fun hm=>?_,fjoin_nodup hnd hF2 (fun b hb hb'=>hdis b hb (hsub b hb'))⟩
    have:=hnew _ hm; omega
  · intro b hb
    rcases List.mem_cons.1 hb with rfl | hb
    · exact .inr (.inr (Nat.le_refl _))
    · rcases fjoin_mem hb with h2 | h2
      · exact .inl (hsub b h2)
      · exact .inr (.inl h2)
  · refine slO_app (xs:=xs) (news:=news) (rest:=(Builtin.zeroCells zv.cells (grownCap w (l.length + l'.length) old e - (l.length + l'.length))).toList) (heap_alloc_new w.drew _) ?_ hx hnl ?_ hge hcm ?_ ?_ ?_
    · simp
    · simp only [Array.size_append,List.size_toArray,size_zeroCells,hzs,hx,hnl,<- Nat.add_mul]
      congr 1
      omega
    · intro u hu
      simp only [Array.toList_append,List.mem_append] at hu
      rcases hu with (hu | hu) | hu
      · exact hxo u hu
      · exact h1 u hu
      · exact zeroCells_one hone u hu
    · exact fun j hj=>(hr j hj).mono (fun b _ hl=>hext.block b hl) hG' (fun id hid=>⟨hid,rfl⟩)
    · exact fun j hj=>(hr2 j hj).mono (fun b _ hl=>hext.block b hl) hG' (fun id hid=>⟨hid,rfl⟩)
 -- nothing is added
 have stay : ∀ (b cap : Nat) (cs : Array Value) (Fs : Nat -> List Nat),l' = [] -> True:=fun _ _ _ _ _=>trivial
 have nilcase : v = .slice none 0 0 -> l = [] -> F = [] ->
  ∃ v' w' F',(Builtin.append_ #[t,t] ty #[v,.slice base l'.length cap2]).run P w = .ok v' w' /\ Turn F w w' /\ F'.Nodup /\ (∀ b ∈ F',b ∈ F ∨ b ∈ (List.range l'.length).flatMap Fs2 ∨ w.heap.size <= b) /\
  ∀ G',(∀ b,G b -> b < w.heap.size -> G' b) -> Rc w' ρ G' L true (.sl (some e) z (l ++ l')) [v'] F':=by
  rintro rfl rfl rfl
  by_cases hm : l'.length = 0
  · have hl0 : l' = []:=List.length_eq_zero_iff.1 hm
    subst hl0
    have hn0 : news = []:=List.length_eq_zero_iff.1 (by simpa using hnl)
    subst hn0
    refine ⟨.slice none 0 0,w,[], ?_,Turn.refl _ _,List.nodup_nil,by simp,fun G' _=>?_⟩
    · rcases hs with ⟨rfl,_,rfl⟩ | ⟨a,rfl,_⟩ <;>
       simp [Builtin.append_,run_underlying hT.u,sizeOf,typeInfo,hi,Builtin.lenOf,Builtin.firstCells,loadCells,loadCellsFrom]
    · exact .slN (some e) z
  · rcases hs with ⟨_,rfl,_⟩ | ⟨a,rfl,hnews⟩
    · simp at hm
    · have hr:=run_append_nil (P:=P) w t ty e i zv hT.u hi hz a l'.length cap2 news (by rw [hsz]; exact hnl) hnews (by omega) (by simp at h63; omega) (by rw [hby]; simp at hbytes; omega)
      obtain ⟨F',q1,q2,q3,q4⟩:=grow 0 [] (fun _=>[]) (by simp) (by simp) (fun j hj=>by simp at hj) (by simp) (by simp)
      simp only [List.length_nil,Nat.zero_add,List.nil_append] at q1 q2 q3 q4 ⊢
      have e0 : (#[] : Array Value) ++ news.toArray = news.toArray:=by simp
      simp only [e0] at q1 q4
      exact ⟨_,_,F',hr,q1,q2,q3,q4⟩
 have empcase : ∀ a0 : Addr,v = .slice (some a0) 0 0 -> l = [] -> F = [] ->
  ∃ v' w' F',(Builtin.append_ #[t,t] ty #[v,.slice base l'.length cap2]).run P w = .ok v' w' /\ Turn F w w' /\ F'.Nodup /\ (∀ b ∈ F',b ∈ F ∨ b ∈ (List.range l'.length).flatMap Fs2 ∨ w.heap.size <= b) /\
  ∀ G',(∀ b,G b -> b < w.heap.size -> G' b) -> Rc w' ρ G' L true (.sl (some e) z (l ++ l')) [v'] F':=by
  rintro a0 rfl rfl rfl
  by_cases hm : l'.length = 0
  · have hl0 : l' = []:=List.length_eq_zero_iff.1 hm
    subst hl0
    have hn0 : news = []:=List.length_eq_zero_iff.1 (by simpa using hnl)
    subst hn0
    refine ⟨.slice (some a0) 0 0,w,[], ?_,Turn.refl _ _,List.nodup_nil,by simp,fun G' _=>?_⟩
    · rcases hs with ⟨rfl,_,rfl⟩ | ⟨a,rfl,_⟩ <;>
       simp [Builtin.append_,run_underlying hT.u,sizeOf,typeInfo,hi,Builtin.lenOf,Builtin.firstCells,loadCells,loadCellsFrom,storeCells]
    · exact .slE (some e) z a0
  · rcases hs with ⟨_,rfl,_⟩ | ⟨a,rfl,hnews⟩
    · simp at hm
    · have hgz : Builtin.nextslicecap (0 + l'.length) 0 * i.bytes <= 281474976710656:=by
       rw [Nat.zero_add,nextslicecap_zero (by omega)]; rw [hby]; simp at hbytes; omega
      have hr:=run_append_grow (P:=P) (w:=w) t ty e i zv hT.u hi hz a0 0 0 [] (by simp) (by simp) a l'.length cap2 news (by rw [hsz]; exact hnl) hnews (by omega) (by simp at h63; omega) hgz
      obtain ⟨F',q1,q2,q3,q4⟩:=grow 0 [] (fun _=>[]) (by simp) (by simp) (fun j hj=>by simp at hj) (by simp) (by simp)
      simp only [List.length_nil,Nat.zero_add,List.nil_append] at hr q1 q2 q3 q4 ⊢
      exact ⟨_,_,F',hr,q1,q2,q3,q4⟩
 rcases hdd with ⟨rfl,rfl⟩ | rfl
 · have hv:=hd.nil_val
   subst hv
   have hF:=hd.pur rfl
   exact nilcase rfl rfl hF
 · generalize hvv : [v] = cv at hd
   cases hd with
   | slN o z=>
    cases hvv
    exact nilcase rfl rfl rfl
   | slE o z a0=>
    cases hvv
    exact empcase a0 rfl rfl rfl
   | slO b cs e cap z l Fs hb hc hcm hcs ho1 hr=>
    cases hvv
    obtain ⟨hn1,hn2⟩:=List.nodup_cons.1 hFn
    have hbl : b < w.heap.size:=(Array.getElem?_eq_some_iff.1 hb).1
    have hxl : (cs.toList.take (l.length * z)).length = l.length * z:=by
     have:=Nat.mul_le_mul_right z hc
     simp; omega
    have hrx : ∀ j (h : j < l.length),Rc w ρ G L false l[j] (((cs.toList.take (l.length * z)).drop (j * z)).take z) (Fs j):=fun j hj=>by
     have e1:=part_left (cs.toList.take (l.length * z)) (cs.toList.drop (l.length * z)) j l.length z hxl hj
     rw [List.take_append_drop] at e1
     rw [<- e1]; exact hr j hj
    rcases hs with ⟨rfl,rfl,rfl⟩ | ⟨a,rfl,hnews⟩
    · refine ⟨_,w,b :: (List.range l.length).flatMap Fs,run_append_owned_none (P:=P) (w:=w) 0 t ty e i z hT.u hi _ l.length (cs.toList.take (l.length * z)) ⟨hxl,.inr ⟨b,cap,cs,rfl,Nat.zero_le _,hb,hc,hcm,hcs,rfl⟩⟩,
       Turn.refl _ _,hFn,fun b hb=>.inl hb,fun G' hG'=>?_⟩
      rw [List.append_nil]
      exact (Rc.slO (w:=w) (ρ:=ρ) (G:=G) (L:=L) (p:=true) b cs e cap z l Fs hb hc hcm hcs ho1 hr).mono (fun _ _ _=>rfl) hG' (fun id hid=>⟨hid,rfl⟩)
    · by_cases hroom : l.length + l'.length <= cap
      · have hfit : l.length * i.size + news.length <= cs.size:=by rw [hnl,hcs,hsz,<- Nat.add_mul]; exact Nat.mul_le_mul_right _ hroom
        have hrun:=run_append_room (P:=P) w t ty e i hT.u hi b l.length cap cs hb a l'.length cap2 news (by rw [hsz]; exact hnl) hnews h1 hroom hfit
        rw [hsz] at hrun hfit
        have hdb : ∀ b',b' ∈ (List.range l'.length).flatMap Fs2 -> b' ≠ b:=fun b' hb' he=>hdis b' hb' (by simp [he])
        refine ⟨_,_,b :: (List.range (l.length + l'.length)).flatMap (fjoin l.length Fs Fs2),hrun,⟨rfl,⟨rfl,Nat.le_refl _⟩,rfl,by simp,fun b' _ hb'=>setRow_other w b b' _ (fun e=>hb' (by simp [e]))⟩, ?_, ?_,fun G' hG'=>?_⟩
        · refine List.nodup_cons.2 ⟨fun hm=>?_,fjoin_nodup hn2 hF2 (fun b hb hb'=>hdis b hb (List.mem_cons_of_mem _ hb'))⟩
          rcases fjoin_mem hm with h2 | h2
          · exact hn1 h2
          · exact hdb _ h2 rfl
        · intro b' hb'
          rcases List.mem_cons.1 hb' with rfl | hb'
          · exact .inl (by simp)
          · rcases fjoin_mem hb' with h2 | h2
            · exact .inl (List.mem_cons_of_mem _ h2)
            · exact .inr (.inl h2)
        · refine slO_app (xs:=cs.toList.take (l.length * z)) (news:=news) (rest:=cs.toList.drop (l.length * z + news.length)) (setRow_heap w b cs _ e (0,0) hb) (by simp) hxl hnl ?_ hroom hcm ?_ ?_ ?_
          · simp only [List.size_toArray,List.length_append,List.length_take,List.length_drop,Array.length_toList]
            omega
          · intro u hu
            simp only [List.mem_append] at hu
            rcases hu with (hu | hu) | hu
            · exact ho1 u (List.mem_of_mem_take hu)
            · exact h1 u hu
            · exact ho1 u (List.mem_of_mem_drop hu)
          · exact fun j hj=>(hrx j hj).mono (fun b' hb' _=>setRow_other w b b' _ (by
             rintro rfl
             rcases hb' with hb' | hb'
             · exact hGF _ hb' (by simp)
             · exact hn1 (List.mem_flatMap.2 ⟨j,List.mem_range.2 hj,hb'⟩))) hG' (fun id hid=>⟨hid,rfl⟩)
          · exact fun j hj=>(hr2 j hj).mono (fun b' hb' _=>setRow_other w b b' _ (by
             rintro rfl
             rcases hb' with hb' | hb'
             · exact hGF _ hb' (by simp)
             · exact hdb _ (List.mem_flatMap.2 ⟨j,List.mem_range.2 hj,hb'⟩) rfl)) hG' (fun id hid=>⟨hid,rfl⟩)
      · have holds : ∀ j u,(cs.toList.take (l.length * z))[j]? = some u -> w.cell? ((⟨b,0,none⟩ : Addr).add j) = some u:=by
         intro j u hu
         rw [add_lit,cell_of_row w b _ cs e (0,0) hb]
         rw [List.getElem?_take] at hu
         split at hu
         · simpa using hu
         · cases hu
        have hrun:=run_append_grow (P:=P) w t ty e i zv hT.u hi hz ⟨b,0,none⟩ l.length cap (cs.toList.take (l.length * z)) (by rw [hsz]; exact hxl) holds a l'.length cap2 news (by rw [hsz]; exact hnl) hnews (by omega) (by omega)
         (growslice_fits (by omega) (by rw [hby]; exact hbytes))
        obtain ⟨F',q1,q2,q3,q4⟩:=grow cap (cs.toList.take (l.length * z)) Fs (fun u hu=>ho1 u (List.mem_of_mem_take hu)) hxl hrx hn2 (fun b' hb'=>List.mem_cons_of_mem _ hb')
        exact ⟨_,_,F',hrun,q1,q2,q3,q4⟩
end Go.Sx

namespace Go.Sx
variable {pos : String} {aft : Array Edge} {g : Option (Nat × Bool)}
variable {P : Program} {C : Ctx} {σ σ' σ1 : Sg} {a : Act} {w w' : World} {ρ : Nat -> Nat} {Fe Fe' Fb : Nat -> List Nat}
theorem in_part {news : List Value} {m z : Nat} (hl : news.length = m * z) {u : Value} (hu : u ∈ news) : ∃ j,j < m /\ u ∈ (news.drop (j * z)).take z:=by
 obtain ⟨k,hk,rfl⟩:=List.mem_iff_getElem.1 hu
 have hz : 0 < z:=by
  rcases Nat.eq_zero_or_pos z with rfl | h
  · simp at hl; subst hl; simp at hk
  · exact h
 have h1 : k < m * z:=by omega
 have h2 : k / z < m:=Nat.div_lt_of_lt_mul (by rw [Nat.mul_comm]; exact h1)
 refine ⟨k / z,h2, ?_⟩
 have h3:=Nat.div_add_mod k z
 have h4:=Nat.mod_lt k hz
 rw [Nat.mul_comm] at h3
 refine List.mem_iff_getElem?.2 ⟨k % z, ?_⟩
 rw [List.getElem?_take,if_pos h4,List.getElem?_drop,show k / z * z + k % z = k by omega]
 exact List.getElem?_eq_getElem hk
theorem flat0 (n : Nat) : (List.range n).flatMap (fun _=>([] : List Nat)) = []:=by rw [List.flatMap_eq_nil_iff]; intros; rfl
theorem flat0_nd (n : Nat) : ((List.range n).flatMap (fun _=>([] : List Nat))).Nodup:=by rw [flat0]; exact List.nodup_nil
theorem flat0_dis (n : Nat) (F : List Nat) : ∀ b ∈ (List.range n).flatMap (fun _=>([] : List Nat)),b ∉ F:=by rw [flat0]; intro b hb; cases hb
theorem src_ok {G L : Nat -> Prop} {base : Option Addr} {len cap z : Nat} {l : List D} (h : SlR w ρ G L base len cap z l) (hp : ∀ y ∈ l,y.pur = true) :
 len = l.length /\ ∃ news : List Value,((base = none /\ l = [] /\ cap = 0) ∨ ∃ a,base = some a /\ ∀ j u,news[j]? = some u -> w.cell? (a.add j) = some u) /\ news.length = l.length * z /\ (∀ u ∈ news,u.oneCell' = true) /\
  ∀ j (h : j < l.length),Rc w ρ G L false l[j] ((news.drop (j * z)).take z) []:=by
 obtain ⟨rfl,h⟩:=h
 refine ⟨rfl, ?_⟩
 rcases h with ⟨h1,rfl⟩ | ⟨b,o,cs,e,fz,rfl,hb,hc,hs,hr⟩
 · have : l = []:=List.length_eq_zero_iff.1 h1
   subst this
   cases base with
   | none=>exact ⟨[],.inl ⟨rfl,rfl,rfl⟩,by simp,by simp,fun j hj=>by simp at hj⟩
   | some a=>exact ⟨[],.inr ⟨a,rfl,by simp⟩,by simp,by simp,fun j hj=>by simp at hj⟩
 · have hl : ((cs.toList.drop o).take (l.length * z)).length = l.length * z:=by simp; omega
   have hr2 : ∀ j (h : j < l.length),Rc w ρ G L false l[j] ((((cs.toList.drop o).take (l.length * z)).drop (j * z)).take z) []:=by
    intro j hj
    obtain ⟨F,hF⟩:=hr j hj
    have hFn:=hF.pur (hp _ (List.getElem_mem hj))
    subst hFn
    have : j * z + z <= l.length * z:=by
     have:=Nat.mul_le_mul_right z (show j + 1 <= l.length by omega)
     rw [Nat.add_mul] at this; omega
    rw [sub_sub _ _ _ _ _ this]
    exact hF
   refine ⟨(cs.toList.drop o).take (l.length * z),.inr ⟨_,rfl,fun j u hu=>?_⟩,hl,fun u hu=>?_,hr2⟩
   · rw [add_lit,cell_of_row w b _ cs e fz hb]
     rw [List.getElem?_take] at hu
     split at hu
     · rw [List.getElem?_drop] at hu; simpa using hu
     · cases hu
   · obtain ⟨j,hj,hm⟩:=in_part hl hu
     exact (hr2 j hj).one u hm
inductive SrcO (gl : List (Nat × D)) (σ : Sg) : Operand -> Nat -> List D -> Prop
 | sc {t z : Nat} {l : List D} (h : SC σ t z l) (hp : ∀ y ∈ l,y.pur = true) : SrcO gl σ (.tmp t) z l
 | nil {x : Operand} {z : Nat} (h : ev gl σ x = some .nils) : SrcO gl σ x z []
theorem SrcO.ok (st : StW C σ a w ρ Fe Fb) {x : Operand} {z : Nat} {l : List D} (h : SrcO C.gl σ x z l) :
 ∃ base cap,a.eval x = .slice base l.length cap /\ SlR w ρ (gd C Fe Fb) (fun id=>(σ.box id).isSome) base l.length cap z l /\ ∀ y ∈ l,y.pur = true:=by
 cases h with
 | sc h hp=>
  obtain ⟨base,len,cap,hv,hr⟩:=SC_ok st h
  have:=hr.1
  subst this
  exact ⟨base,cap,eval_tmp hv,hr,hp⟩
 | nil h=>
  obtain ⟨F,hv,_⟩:=ev_ok st h rfl
  simp only [VR,D.isAgg,Bool.false_eq_true,if_false] at hv
  refine ⟨none,0,hv.nil_val,⟨rfl,.inl ⟨rfl,rfl⟩⟩,by simp⟩
theorem fits {n bytes : Nat} (hby : bytes <= 131072) (hn : n <= 1073741824) : n * bytes <= 140737488355328 /\ n <= maxLen:=by
 refine ⟨?_,by simp only [maxLen]; omega⟩
 calc n * bytes <= 1073741824 * 131072:=Nat.mul_le_mul hn hby
  _ <= 140737488355328:=by decide
theorem R.app {s s0 t e z bytes : Nat} {x : Operand} {l l' : List D} {ty rt : TypeId} [hT : SlT P ty e] [hE : ElT P e z bytes]
 (ho : ownr σ s s0) (hs : σ.get s0 = some (.sl (some e) z l)) (hx : SrcO C.gl σ x z l') (hn : l.length + l'.length <= 1073741824) (ht : t < σ.n) (hst : s0 ≠ t) (hby : bytes <= 131072) :
 OpS P C ⟨some t,.call { callee:=.builtin .append,args:=#[.tmp s,x],argTypes:=#[ty,ty] },rt,pos,aft,g⟩ σ ((σ.kill s0).set t (.sl (some e) z (l ++ l'))):=by
 refine OpS.value fun a w ⟨ρ,Fe,Fb,st⟩=>?_
 obtain ⟨v,hv,hv0,hr⟩:=ownr_val st ho hs
 obtain ⟨base,cap,hxe,hsr,hp⟩:=hx.ok st
 obtain ⟨_,news,q1,q2,q3,q4⟩:=src_ok hsr hp
 obtain ⟨f1,f2⟩:=fits hby hn
 obtain ⟨v',w',F',hrun,ht',hnd,hsub,hres⟩:=app_run (P:=P) (t:=ty) (e:=e) (bytes:=bytes) (ty:=rt) (Fs2:=fun _=>[]) hr (.inr rfl) (st.nodE s0) q1 q2 q3 q4 (flat0_nd _) (flat0_dis _ _) (fun b hb hm=>hb.2 (.inl ⟨s0,hm⟩)) f1 f2
 refine ⟨v',w', ?_,ρ,_,Fb,st.take (F:=F') ht hst hs ht'.os ht'.tape ht'.output ht'.size ht'.blk hnd (fun b hb=>?_) ((SR_plain rfl).2 ⟨v',by rw [put_get a t _ t (by rw [st.size]; exact ht)]; simp, ?_⟩)⟩
 · unfold execOp
   simp [resolve,invoke,builtin,eval_tmp hv,hxe,hrun]
 · rcases hsub b hb with h | h | h
   · exact .inl h
   · simp at h
   · exact .inr h
 · simp only [VR,D.isAgg,Bool.false_eq_true,if_false]
   refine hres _ (fun b hb hl=>⟨hb.1,fun hc=>?_⟩)
   rcases hc with ⟨u,hu⟩ | hid
   · by_cases hut : u = t
     · subst hut
       simp at hu
       rcases hsub b hu with h | h | h
       · exact hb.2 (.inl ⟨s0,h⟩)
       · simp at h
       · omega
     · rw [upd_other hut] at hu
       by_cases hus : u = s0
       · subst hus; simp at hu
       · rw [upd_other hus] at hu; exact hb.2 (.inl ⟨u,hu⟩)
   · exact hb.2 (.inr hid)
theorem StW.newSl {t e z : Nat} {l : List D} {cs : Array Value} (st : StW C σ a w ρ Fe Fb) (ht : t < σ.n) (hl : l.length <= maxLen) (hs : cs.size = l.length * z)
 (hr : ∀ i (h : i < l.length),Rc w ρ (gd C Fe Fb) (fun id=>(σ.box id).isSome) false l[i] ((cs.toList.drop (i * z)).take z) []) :
 St C (σ.set t (.sl (some e) z l)) (a.put (some t) (.slice (some ⟨w.heap.size,0,none⟩) l.length l.length)) (w.alloc (.cells cs e)):=by
 have hlt:=st.lt
 refine ⟨ρ,upd Fe t [w.heap.size],Fb,st.ext ht (Ext.alloc w _) (by simp) (by simp) ((SR_plain rfl).2 ⟨.slice (some ⟨w.heap.size,0,none⟩) l.length l.length,by rw [put_get a t _ t (by rw [st.size]; exact ht)]; simp, ?_⟩)⟩
 simp only [VR,D.isAgg,Bool.false_eq_true,if_false]
 have hone:=(Rc.arr (p:=false) l.length z l cs.toList rfl (by simpa using hs) hr).one
 have:=Rc.slO (w:=w.alloc (.cells cs e)) (ρ:=ρ) (G:=gd C (upd Fe t [w.heap.size]) Fb) (L:=fun id=>(σ.box id).isSome) (p:=true) w.heap.size cs e l.length z l (fun _=>[]) (heap_alloc_new w _) (Nat.le_refl _) hl hs hone
  (fun i hi=>(hr i hi).mono (fun b _ hb=>heap_alloc_old w _ hb) (fun b hb hbl=>⟨hb.1,fun hc=>by
   rcases hc with ⟨u,hu⟩ | hid
   · by_cases hut : u = t
     · subst hut; simp at hu; omega
     · rw [upd_other hut] at hu; exact hb.2 (.inl ⟨u,hu⟩)
   · exact hb.2 (.inr hid)⟩) (fun id hid=>⟨hid,rfl⟩))
 have e0 : (List.range l.length).flatMap (fun _=>([] : List Nat)) = []:=by rw [List.flatMap_eq_nil_iff]; intros; rfl
 rw [e0] at this
 exact this
def evs (gl : List (Nat × D)) (σ : Sg) : List (Nat × Operand) -> Nat -> Option (List D)
 | [],_=>some []
 | (i,x) :: r,k=>bif Nat.beq i k then (match ev gl σ x with
  | some d=>match evs gl σ r (k + 1) with
   | some ds=>some (d :: ds)
   | none=>none
  | none=>none) else none
def PurZ (z : Nat) : List D -> Prop
 | []=>True
 | d :: r=>(d.pur = true /\ d.np = true /\ d.sz = z) /\ PurZ z r
theorem foldl_set (cs : Array Value) (vs : List Value) (off k : Nat) (h : off + k + vs.length <= cs.size) :
 ((vs.zipIdx k).foldl (fun (c : Array Value) (p : Value × Nat)=>c.setIfInBounds (off + p.2) p.1) cs).toList = cs.toList.take (off + k) ++ vs ++ cs.toList.drop (off + k + vs.length):=by
 induction vs generalizing cs k with
 | nil=>simp
 | cons v vs ih=>
  simp only [List.zipIdx_cons,List.foldl_cons]
  simp only [List.length_cons] at h
  rw [ih _ _ (by simp; omega)]
  simp only [Array.toList_setIfInBounds]
  apply List.ext_getElem?
  intro j
  simp only [List.append_assoc,List.getElem?_append,List.length_take,List.length_set,Array.length_toList,List.getElem?_take,List.getElem?_set,List.length_cons,List.getElem?_drop,List.cons_append]
  have e1 : min (off + (k + 1)) cs.size = off + k + 1:=by omega
  have e2 : min (off + k) cs.size = off + k:=by omega
  rw [e1,e2]
  rcases Nat.lt_trichotomy j (off + k) with h1 | h1 | h1
  · simp [h1,show j < off + k + 1 by omega,show ¬ off + k = j by omega,show j < off + (k + 1) by omega]
  · subst h1
    simp [show off + k < off + k + 1 by omega,show off + k < off + (k + 1) by omega,show off + k < cs.size by omega]
  · simp only [show ¬ j < off + k + 1 by omega,show ¬ j < off + k by omega,if_false]
    have e3 : j - (off + k) = (j - (off + k + 1)) + 1:=by omega
    rw [e3]
    simp only [List.getElem?_cons_succ]
    rw [List.getElem?_append]
    by_cases h2 : j - (off + k + 1) < vs.length
    · simp [h2]
    · simp only [h2,if_false,List.getElem?_drop]
      rw [if_neg (by omega)]
      congr 1
      omega
theorem fill_run {G L : Nat -> Prop} {gl : List (Nat × D)} {z : Nat} (hv : ∀ x d,ev gl σ x = some d -> d.pur = true -> ∃ cs : List Value,(a.eval x).cells.toList = cs /\ Rc w ρ G L true d cs []) :
 ∀ (ps : List (Nat × Operand)) (k : Nat) (ds : List D) (cs : Array Value),evs gl σ ps k = some ds -> PurZ z ds -> (k + ds.length) * z <= cs.size ->
  ∃ out : Array Value,Instr.fill (fun i=>some (i * z,z)) cs (ps.map (fun p=>(p.1,a.eval p.2))) = some out /\ out.size = cs.size /\ out.toList.take (k * z) = cs.toList.take (k * z) /\
   ∀ i (h : i < ds.length),Rc w ρ G L false ds[i] ((out.toList.drop ((k + i) * z)).take z) []:=by
 intro ps
 induction ps with
 | nil=>
  intro k ds cs h hp hs
  simp only [evs,Option.some.injEq] at h
  subst h
  exact ⟨cs,rfl,rfl,rfl,fun i hi=>by simp at hi⟩
 | cons p ps ih=>
  intro k ds cs h hp hs
  obtain ⟨i0,x⟩:=p
  simp only [evs] at h
  by_cases hik : i0 = k
  · subst hik
    simp only [Nat.beq_refl,cond_true] at h
    cases hx : ev gl σ x with
    | none=>rw [hx] at h; cases h
    | some d=>
     rw [hx] at h
     cases hr : evs gl σ ps (i0 + 1) with
     | none=>simp only [hr] at h; cases h
     | some ds'=>
      simp only [hr,Option.some.injEq] at h
      subst h
      obtain ⟨⟨p1,p2,p3⟩,p4⟩:=hp
      obtain ⟨xc,hxc,hrc⟩:=hv x d hx p1
      have hlen:=hrc.len
      have hsz : (a.eval x).cells.size = z:=by rw [<- Array.length_toList,hxc,hlen,p3]
      have hkz : (i0 + 1) * z <= cs.size:=Nat.le_trans (Nat.mul_le_mul_right z (by simp)) hs
      rw [Nat.add_mul,Nat.one_mul] at hkz
      have hfold:=foldl_set cs xc (i0 * z) 0 (by omega)
      simp only [Nat.add_zero] at hfold
      have hcs2 : ((a.eval x).cells.zipIdx.foldl (fun (c : Array Value) (p : Value × Nat)=>c.setIfInBounds (i0 * z + p.2) p.1) cs).toList = cs.toList.take (i0 * z) ++ xc ++ cs.toList.drop (i0 * z + xc.length):=by
       rw [<- hfold,<- hxc,<- Array.foldl_toList]
       simp
      generalize hc2 : ((a.eval x).cells.zipIdx.foldl (fun (c : Array Value) (p : Value × Nat)=>c.setIfInBounds (i0 * z + p.2) p.1) cs) = cs2 at hcs2
      have hs2 : cs2.size = cs.size:=by
       have:=congrArg List.length hcs2
       rw [splice_len _ _ _ (by simp; omega)] at this
       simpa using this
      obtain ⟨out,q1,q2,q3,q4⟩:=ih (i0 + 1) ds' cs2 hr p4 (by rw [hs2]; simp at hs ⊢; rw [show i0 + 1 + ds'.length = i0 + (ds'.length + 1) by omega]; exact hs)
      have hmid : (cs2.toList.drop (i0 * z)).take z = xc:=by
       rw [hcs2,List.append_assoc,List.drop_left' (by simp; omega),List.take_append_of_le_length (by omega),List.take_of_length_le (by omega)]
      have q3' : ∀ j : Nat,(out.toList.take ((i0 + 1) * z))[j]? = (cs2.toList.take ((i0 + 1) * z))[j]?:=fun j=>by rw [q3]
      refine ⟨out, ?_,q2.trans hs2, ?_,fun i hi=>?_⟩
      · simp only [List.map_cons,Instr.fill]
        have hcond : ¬ ((a.eval x).cells.size ≠ z ∨ i0 * z + (a.eval x).cells.size > cs.size):=by rw [hsz]; simp; omega
        simp only [ne_eq,Bool.or_eq_true,decide_eq_true_eq]
        rw [if_neg (by simpa using hcond)]
        rw [hc2]
        exact q1
      · apply List.ext_getElem?
        intro j
        by_cases hj : j < i0 * z
        · have:=q3' j
          have hj2 : j < (i0 + 1) * z:=by rw [Nat.add_mul]; omega
          simp only [List.getElem?_take,hj2,if_true] at this
          simp only [List.getElem?_take,hj,if_true,this,hcs2]
          rw [List.append_assoc,List.getElem?_append_left (by simp; omega),List.getElem?_take,if_pos hj]
        · simp [List.getElem?_take,hj]
      · cases i with
        | zero=>
         simp only [Nat.add_zero,List.getElem_cons_zero]
         have : (out.toList.drop (i0 * z)).take z = (cs2.toList.drop (i0 * z)).take z:=by
          apply List.ext_getElem?
          intro j
          by_cases hj : j < z
          · have:=q3' (i0 * z + j)
            have hj2 : i0 * z + j < (i0 + 1) * z:=by rw [Nat.add_mul]; omega
            simp only [List.getElem?_take,hj2,if_true] at this
            simp only [List.getElem?_take,hj,if_true,List.getElem?_drop,this]
          · simp [List.getElem?_take,hj]
         rw [this,hmid]
         exact hrc.unflag p2
        | succ i=>
         have:=q4 i (by simpa using hi)
         rw [show i0 + (i + 1) = i0 + 1 + i by omega]
         simpa using this
  · rw [nbeq hik] at h
    cases h
theorem ev_cells (st : StW C σ a w ρ Fe Fb) {x : Operand} {d : D} (h : ev C.gl σ x = some d) (hp : d.pur = true) :
 ∃ cs : List Value,(a.eval x).cells.toList = cs /\ Rc w ρ (gd C Fe Fb) (fun id=>(σ.box id).isSome) true d cs []:=by
 obtain ⟨F,hv,_⟩:=ev_ok st h (pur_ref hp)
 have:=hv.pur hp
 subst this
 exact ⟨_,rfl,hv.cells (by rintro rfl; simp [D.pur] at hp)⟩
theorem R.bsl {t e z bytes k : Nat} {ps : List (Nat × Operand)} {ds : List D} {ty rt : TypeId} [hT : SlT P ty e] [hE : ElT P e z bytes]
 (hps : evs C.gl σ ps 0 = some ds) (hp : PurZ z ds) (hk : ds.length = k) (ht : t < σ.n) (hsm : k * z <= 16777216) :
 OpS P C ⟨some t,.buildSlice ty k ps.toArray,rt,pos,aft,g⟩ σ (σ.set t (.sl (some e) z ds)):=by
 refine OpS.value fun a w ⟨ρ,Fe,Fb,st⟩=>?_
 obtain ⟨i,zv,hi,hsz,hby,hz,hzs,hpos,hone⟩:=hE.i
 subst hk
 obtain ⟨out,q1,q2,q3,q4⟩:=fill_run (w:=w) (ρ:=ρ) (z:=z) (fun x d h hp=>ev_cells st h hp) ps 0 ds ((Array.range (ds.length * z)).map (zv.cells[· % zv.cells.size]!)) hps hp (by simp)
 simp only [Nat.zero_add] at q4
 have hml : ds.length <= maxLen:=by
  have : ds.length * 1 <= ds.length * z:=Nat.mul_le_mul_left _ hpos
  simp only [maxLen]; omega
 refine ⟨_,_, ?_,st.newSl (e:=e) (cs:=out) ht hml (by rw [q2]; simp) q4⟩
 unfold execOp
 have hps2 : (ps.toArray.map fun x=>(x.1,a.eval x.2)).toList = ps.map (fun p=>(p.1,a.eval p.2)):=by simp
 by_cases h0 : ds.length * z = 0
 · have q1':=q1
   simp only [h0] at q1'
   have e0 : (Array.range 0).map (fun x=>zv.cells[x % zv.cells.size]!) = (#[] : Array Value):=by simp [Array.range_zero']
   rw [e0] at q1'
   have e1 : Array.range 0 = #[]:=rfl
   simp [Instr.buildSlice,run_underlying hT.u,ElT.size (P:=P) (e:=e),h0,hps2,e1,q1',newRow,newObj,Sem.run]
 · simp [Instr.buildSlice,run_underlying hT.u,ElT.size (P:=P) (e:=e),h0,hps2,q1,newRow,newObj,Sem.run,zeroValue,typeInfo,hi,hz,show ¬ (16777216 < ds.length * z) by omega]
end Go.Sx

namespace Go.Sx
variable {pos : String} {aft : Array Edge} {g : Option (Nat × Bool)}
variable {P : Program} {C : Ctx} {σ σ' σ1 : Sg} {a : Act} {w w' : World} {ρ : Nat -> Nat} {Fe Fe' Fb : Nat -> List Nat}
theorem madeCells_part (z : Array Value) (n i : Nat) (hi : i < n) : ((madeCells z (n * z.size)).toList.drop (i * z.size)).take z.size = z.toList:=by
 have h1 : i * z.size + z.size <= n * z.size:=by
  have:=Nat.mul_le_mul_right z.size (show i + 1 <= n by omega)
  rw [Nat.add_mul] at this; omega
 apply List.ext_getElem?
 intro j
 by_cases hj : j < z.size
 · rw [List.getElem?_take,if_pos hj,List.getElem?_drop]
   have h2 : i * z.size + j < n * z.size:=by omega
   have h3 : (i * z.size + j) % z.size = j:=by rw [Nat.add_comm,Nat.add_mul_mod_self_right,Nat.mod_eq_of_lt hj]
   simp [madeCells,h2,h3,hj]
 · rw [List.getElem?_take,if_neg hj]
   simp; omega
theorem R.mk {t e z bytes : Nat} {x y : Operand} {n : Nat} {d : D} {ty rt : TypeId} [hT : SlT P ty e] [hE : ElT P e z bytes] [hZ : ZrT P e d]
 (hx : ev C.gl σ x = some (.int (n : Int))) (hy : ev C.gl σ y = some (.int (n : Int))) (hn : n <= 1073741824) (hby : bytes <= 131072) (ht : t < σ.n) :
 OpS P C ⟨some t,.makeSlice ty x y,rt,pos,aft,g⟩ σ (σ.set t (.sl (some e) z (List.replicate n d))):=by
 refine OpS.value fun a w ⟨ρ,Fe,Fb,st⟩=>?_
 obtain ⟨i,zv,hi,hsz,hbyt,hz,hzs,hpos,hone⟩:=hE.i
 obtain ⟨i',zv',hi',hz',hchk,hag⟩:=hZ.i
 rw [hi] at hi'
 cases hi'
 rw [hz] at hz'
 cases hz'
 obtain ⟨Fx,hvx,_⟩:=ev_ok st hx rfl
 obtain ⟨Fy,hvy,_⟩:=ev_ok st hy rfl
 simp only [VR,D.isAgg,Bool.false_eq_true,if_false] at hvx hvy
 generalize hex : a.eval x = vx at hvx
 generalize hey : a.eval y = vy at hvy
 cases hvx
 cases hvy
 have hb : (i.bytes : Int) * (n : Int) <= 281474976710656:=by
  rw [hbyt]
  have : bytes * n <= 131072 * 1073741824:=Nat.mul_le_mul hby hn
  have h2 : ((bytes * n : Nat) : Int) <= 281474976710656:=by omega
  rwa [Int.natCast_mul] at h2
 have hrun:=run_make (P:=P) w ty e i zv hT.u hi hz .i64 .i64 n n (by omega) (Int.le_refl _) hb (by omega)
 simp only [Int.toNat_natCast,hsz] at hrun
 have hst:=st.newSl (e:=e) (z:=z) (l:=List.replicate n d) (cs:=madeCells zv.cells (n * z)) ht (by simp only [List.length_replicate,maxLen]; omega) (by simp [size_madeCells]) (fun j hj=>by
  have hj' : j < n:=by simpa using hj
  rw [<- hzs,madeCells_part _ _ _ hj']
  simp only [List.getElem_replicate]
  exact chk_ok _ _ _ _ d _ hchk)
 simp only [List.length_replicate] at hst
 refine ⟨_,_, ?_,hst⟩
 unfold execOp
 simp [hex,hey,hrun]
def evo (gl : List (Nat × D)) (σ : Sg) (x : Option Operand) (n : Int) : Option Int:=
 match x with
 | none=>some n
 | some x=>match ev gl σ x with
  | some d=>d.cnt
  | none=>none
theorem bound_ok (st : StW C σ a w ρ Fe Fb) {x : Operand} {n : Int} (h : (match ev C.gl σ x with | some d=>d.cnt | none=>none) = some n) : ∃ k,a.eval x = .int k n:=by
 cases hx : ev C.gl σ x with
 | none=>rw [hx] at h; cases h
 | some d=>
  rw [hx] at h
  have hr : d.isRef = false /\ d.isAgg = false:=by cases d <;> simp_all [D.cnt,D.isRef,D.isAgg]
  obtain ⟨F,hv,_⟩:=ev_ok st hx hr.1
  simp only [VR,hr.2,Bool.false_eq_true,if_false] at hv
  exact cnt_val h hv
theorem run_bounds (st : StW C σ a w ρ Fe Fb) {b : Bool} {lo hi : Option Operand} {i j : Int} {len cap : Nat} (hl : evo C.gl σ lo 0 = some i) (hh : evo C.gl σ hi len = some j) (h0 : 0 <= i) (h1 : i <= j) (h2 : j <= len) (hc : len <= cap) :
 (Instr.sliceBounds b len cap (lo.map a.eval) (hi.map a.eval) none).run P w = .ok (i.toNat,j.toNat,cap) w:=by
 have hb : ∀ (x : Operand) (n : Int) (y : Nat) (code : BoundsCode),(match ev C.gl σ x with | some d=>d.cnt | none=>none) = some n -> 0 <= n -> n <= y -> (Instr.sliceBound (a.eval x) y code).run P w = .ok n.toNat w:=by
  intro x n y code hx h0 h1
  obtain ⟨k,hk⟩:=bound_ok st hx
  rw [hk]
  exact run_sliceBound w k n y code h0 h1
 cases lo with
 | none=>
  simp only [evo,Option.some.injEq] at hl
  subst hl
  cases hi with
  | none=>
   simp only [evo,Option.some.injEq] at hh
   subst hh
   simp [Instr.sliceBounds]
  | some y=>
   simp only [evo] at hh
   simp [Instr.sliceBounds,hb y j cap _ hh (by omega) (by omega)]
 | some x=>
  simp only [evo] at hl
  cases hi with
  | none=>
   simp only [evo,Option.some.injEq] at hh
   subst hh
   simp [Instr.sliceBounds,hb x i len _ hl (by omega) (by omega)]
  | some y=>
   simp only [evo] at hh
   simp [Instr.sliceBounds,hb y j cap _ hh (by omega) (by omega),hb x i j.toNat _ hl (by omega) (by omega)]
theorem R.slI {t e z bytes : Nat} {x : Operand} {l : List D} {lo hi : Option Operand} {i j : Int} {ty rt : TypeId} [hT : SlT P ty e] [hE : ElT P e z bytes]
 (hx : ev C.gl σ x = some (.sl none z l)) (hl : evo C.gl σ lo 0 = some i) (hh : evo C.gl σ hi l.length = some j) (h0 : 0 <= i) (h1 : i <= j) (h2 : j <= l.length) (ht : t < σ.n) :
 OpS P C ⟨some t,.slice ty x lo hi none,rt,pos,aft,g⟩ σ (σ.set t (.sl none z ((l.drop i.toNat).take (j - i).toNat))):=by
 refine OpS.value fun a w ⟨ρ,Fe,Fb,st⟩=>?_
 obtain ⟨F,hv,_⟩:=ev_ok st hx rfl
 have hF:=hv.pur rfl
 subst hF
 simp only [VR,D.isAgg,Bool.false_eq_true,if_false] at hv
 generalize hex : a.eval x = vx at hv
 have hlen : ((l.drop i.toNat).take (j - i).toNat).length = (j - i).toNat:=by simp; omega
 cases hv with
 | slN=>
  simp only [List.length_nil] at hh h2
  have hb:=run_bounds (P:=P) st (b:=true) (len:=0) (cap:=0) hl hh h0 h1 h2 (Nat.le_refl _)
  have hj : j = 0:=by omega
  have hi0 : i = 0:=by omega
  subst hj; subst hi0
  refine ⟨.slice none 0 0,w, ?_,st.put ht rfl ?_⟩
  · unfold execOp
    cases lo <;> cases hi <;> simp_all [Instr.sliceAt,Instr.slice,run_underlying hT.u,ElT.size (P:=P) (e:=e)]
  · simp only [VR,D.isAgg,Bool.false_eq_true,if_false]; exact .slN none z
 | slE _ _ aa=>
  simp only [List.length_nil] at hh h2
  have hb:=run_bounds (P:=P) st (b:=true) (len:=0) (cap:=0) hl hh h0 h1 h2 (Nat.le_refl _)
  have hj : j = 0:=by omega
  have hi0 : i = 0:=by omega
  subst hj; subst hi0
  refine ⟨.slice (some aa) 0 0,w, ?_,st.put ht rfl ?_⟩
  · unfold execOp
    cases lo <;> cases hi <;> simp_all [Instr.sliceAt,Instr.slice,run_underlying hT.u,ElT.size (P:=P) (e:=e)]
  · simp only [VR,D.isAgg,Bool.false_eq_true,if_false]; exact .slE none z aa
 | slI b off cs e' fz cap _ _ hb hG hc hs hr=>
  have hbd:=run_bounds (P:=P) st (b:=true) (len:=l.length) (cap:=cap) hl hh h0 h1 h2 hc
  refine ⟨.slice (some (if cap = i.toNat then ⟨b,off,none⟩ else ⟨b,off + i.toNat * z,none⟩)) (j - i).toNat (cap - i.toNat),w, ?_,st.put ht rfl ?_⟩
  · unfold execOp
    have e1 : j.toNat - i.toNat = (j - i).toNat:=by omega
    have hA : (fun x=>(⟨b,off,none⟩ : Addr).add (i.toNat * z)) () = ⟨b,off + i.toNat * z,none⟩:=add_lit _ _ _
    cases lo <;> cases hi <;> simp_all [Instr.sliceAt,Instr.slice,run_underlying hT.u,ElT.size (P:=P) (e:=e),add_lit] <;> split <;> simp_all
  · simp only [VR,D.isAgg,Bool.false_eq_true,if_false]
    have hjz : ((j - i).toNat) * z + i.toNat * z <= l.length * z:=by
     rw [<- Nat.add_mul]; exact Nat.mul_le_mul_right z (by omega)
    by_cases hci : cap = i.toNat
    · simp only [hci,if_true,Nat.sub_self]
      have h3 : (j - i).toNat = 0:=by omega
      have:=Rc.slI (w:=w) (ρ:=ρ) (G:=gd C Fe Fb) (L:=fun id=>(σ.box id).isSome) (p:=true) b off cs e' fz 0 z [] hb hG (Nat.zero_le _) (by simp; omega) (fun k hk=>by simp at hk)
      simpa [h3] using this
    · simp only [hci,if_false]
      have:=Rc.slI (w:=w) (ρ:=ρ) (G:=gd C Fe Fb) (L:=fun id=>(σ.box id).isSome) (p:=true) b (off + i.toNat * z) cs e' fz (cap - i.toNat) z ((l.drop i.toNat).take (j - i).toNat) hb hG (by rw [hlen]; omega)
       (by rw [hlen]; omega) (fun k hk=>by
        rw [hlen] at hk
        simp only [List.getElem_take,List.getElem_drop]
        have:=hr (i.toNat + k) (by omega)
        rw [Nat.add_mul,<- Nat.add_assoc] at this
        exact this)
      rw [hlen] at this
      exact this
theorem R.slA {s t e z bytes m id off : Nat} {path : List Nat} {d0 : D} {l : List D} {lo hi : Option Operand} {i j : Int} {ty rt : TypeId} [hT : ArT P ty m e] [hE : ElT P e z bytes]
 (hx : σ.get s = some (.ptr id off path)) (hb : σ.box id = some (.var d0)) (hloc : d0.loc path = some (off,.arr m z l)) (hl : evo C.gl σ lo 0 = some i) (hh : evo C.gl σ hi m = some j) (h0 : 0 <= i) (h1 : i <= j) (h2 : j <= m) (ht : t < σ.n) :
 OpS P C ⟨some t,.slice ty (.tmp s) lo hi none,rt,pos,aft,g⟩ σ (σ.set t (.va id off z (j - i).toNat path i.toNat)):=by
 refine OpS.value fun a w ⟨ρ,Fe,Fb,st⟩=>?_
 obtain ⟨v,hv,hr⟩:=(SR_plain rfl).1 (st.env _ _ hx)
 simp only [VR,D.isAgg,Bool.false_eq_true,if_false] at hr
 generalize Fe s = F at hr
 cases hr
 have hsz:=st.size
 have e1 : j.toNat - i.toNat = (j - i).toNat:=by omega
 have hbd:=run_bounds (P:=P) st (b:=false) (len:=m) (cap:=m) hl hh h0 h1 h2 (Nat.le_refl _)
 refine ⟨.slice (some (if m = i.toNat then ⟨ρ id,off,none⟩ else ⟨ρ id,off + i.toNat * z,none⟩)) (j - i).toNat (m - i.toNat),w, ?_,st.putRef ht ⟨rfl,by simp [hb],m - i.toNat,if m = i.toNat then off else off + i.toNat * z,by omega, ?_, ?_⟩⟩
 · unfold execOp
   cases lo <;> cases hi <;> simp_all [Instr.sliceAt,Instr.sureAddr,run_underlying hT.u,ElT.size (P:=P) (e:=e),eval_tmp hv,add_lit] <;> split <;> simp_all
 · by_cases hm : m = i.toNat
   · simp [hm]; omega
   · simp [hm]
 · rw [put_get a t _ t (by omega)]
   by_cases hm : m = i.toNat <;> simp [hm]
end Go.Sx

namespace Go.Sx
variable {pos : String} {aft : Array Edge} {g : Option (Nat × Bool)}
variable {P : Program} {C : Ctx} {σ σ' σ1 : Sg} {a : Act} {w w' : World} {ρ : Nat -> Nat} {Fe Fe' Fb : Nat -> List Nat}
theorem int_ok (st : StW C σ a w ρ Fe Fb) {x : Operand} {n : Int} (h : evo C.gl σ (some x) 0 = some n) : ∃ k,a.eval x = .int k n:=bound_ok st h
theorem R.idxP {s t e z b m id off : Nat} {path : List Nat} {ix : Operand} {n : Int} {ty rt : TypeId} [hT : ArT P ty m e] [hE : ElT P e z b] (k : Nat)
 (h : σ.get s = some (.ptr id off path)) (hi : evo C.gl σ (some ix) 0 = some n) (hk : n = (k : Int)) (h1 : k < m) (ht : t < σ.n) :
 OpS P C ⟨some t,.indexAddr ty (.tmp s) ix,rt,pos,aft,g⟩ σ (σ.set t (.ptr id (off + k * z) (path ++ [k]))):=by
 subst hk
 refine OpS.value fun a w ⟨ρ,Fe,Fb,st⟩=>?_
 obtain ⟨v,hv,hr⟩:=(SR_plain rfl).1 (st.env _ _ h)
 simp only [VR,D.isAgg,Bool.false_eq_true,if_false] at hr
 generalize Fe s = F at hr
 cases hr with
 | ptr _ _ _ hL=>
 obtain ⟨kk,he⟩:=int_ok st hi
 refine ⟨.pointer (some ⟨ρ id,off + k * z,none⟩),w, ?_,st.put ht rfl ?_⟩
 · unfold execOp
   simp [Instr.indexAt,Instr.sureAddr,asIntOf,run_underlying hT.u,eval_tmp hv,he,h1,ElT.size (P:=P) (e:=e),add_lit]
 · simp only [VR,D.isAgg,Bool.false_eq_true,if_false]; exact .ptr _ _ _ hL
theorem R.idxN {s t z : Nat} {l : List D} {ix : Operand} {n : Int} {ty e b rt : TypeId} [hT : SlT P ty e] [hE : ElT P e z b] (k : Nat)
 (h : SC σ s z l) (hi : evo C.gl σ (some ix) 0 = some n) (hk : n = (k : Int)) (h1 : k < l.length) (ht : t < σ.n) (hst : s ≠ t) :
 OpS P C ⟨some t,.indexAddr ty (.tmp s) ix,rt,pos,aft,g⟩ σ (σ.set t (.ep s z k 0 [])):=by
 subst hk
 refine OpS.value fun a w ⟨ρ,Fe,Fb,st⟩=>?_
 obtain ⟨base,len,cap,hv,rfl,hd⟩:=SC_ok st h
 obtain ⟨kk,he⟩:=int_ok st hi
 rcases hd with ⟨h2,_⟩ | ⟨b,o,cs,e',fz,rfl,hb,hc,hsz,hr⟩
 · omega
 have hsz':=st.size
 refine ⟨.pointer (some ⟨b,o + k * z,none⟩),w, ?_,st.putRef ht ?_⟩
 · unfold execOp
   simp [Instr.indexAt,asIntOf,run_underlying hT.u,eval_tmp hv,he,h1,ElT.size (P:=P) (e:=e),add_lit]
 · refine ⟨rfl,b,o,l.length,cap, ?_, ?_,by omega⟩
   · rw [put_get a t _ s (by omega)]; simp [hst,hv]
   · rw [put_get a t _ t (by omega)]; simp
theorem run_part {e z off : Nat} {gg : Bool} [hL : LdT P e z gg] {G L : Nat -> Prop} {p : Bool} {d : D} {cs : Array Value} {F : List Nat} (hr : Rc w ρ G L p d ((cs.toList.drop off).take z) F) (hz : d.sz = z) (hg : d.isAgg = gg) (hs : off + z <= cs.size) :
 ∃ v,(part e cs off).run P w = .ok v w /\ VR w ρ G L d v F:=by
 have hr' : Rc w ρ G L true d ((cs.toList.drop off).take z) F:=by
  cases p with
  | true=>exact hr
  | false=>exact hr.flag
 cases gg with
 | true=>
  refine ⟨.agg (cs.extract off (off + z)), ?_, ?_⟩
  · simp [part,LdT.agg (P:=P) (t:=e),LdT.size (P:=P) (t:=e)]
  · simp only [VR,hg,if_true]
    refine ⟨_,rfl, ?_⟩
    have e1 : (cs.extract off (off + z)).toList = (cs.toList.drop off).take z:=by
     rw [Array.toList_extract]
     simp [List.extract_eq_take_drop]
    rw [e1]; exact hr'
 | false=>
  have h1 : d.sz = 1:=by cases d <;> simp_all [D.sz,D.isAgg]
  have hz1 : z = 1:=by omega
  subst hz1
  have hlt : off < cs.size:=by omega
  refine ⟨cs[off], ?_, ?_⟩
  · simp [part,LdT.agg (P:=P) (t:=e),hlt]
  · simp only [VR,hg,Bool.false_eq_true,if_false]
    rw [List.drop_eq_getElem_cons (by simpa using hlt),List.take_succ_cons,List.take_zero,Array.getElem_toList] at hr'
    exact hr'
theorem R.pick {c x y : Operand} {t : Nat} {d : D} {b : Bool} {rt : TypeId}
 (hc : ev C.gl σ c = some (.bool b)) (hx : (bif b then ev C.gl σ x else ev C.gl σ y) = some d) (hp : d.pur = true) (ht : t < σ.n) :
 OpS P C ⟨some t,.pick c x y,rt,pos,aft,g⟩ σ (σ.set t d):=by
 refine OpS.value fun a w ⟨ρ,Fe,Fb,st⟩=>?_
 obtain ⟨Fc,hvc,_⟩:=ev_ok st hc rfl
 simp only [VR,D.isAgg,Bool.false_eq_true,if_false] at hvc
 generalize hec : a.eval c = vc at hvc
 cases hvc
 cases b with
 | true=>
  simp only [cond_true] at hx
  obtain ⟨F,hv,_⟩:=ev_ok st hx (pur_ref hp)
  have hF:=hv.pur hp
  subst hF
  refine ⟨a.eval x,w, ?_,st.put ht (pur_ref hp) hv⟩
  unfold execOp
  simp [hec,asBool]
 | false=>
  simp only [cond_false] at hx
  obtain ⟨F,hv,_⟩:=ev_ok st hx (pur_ref hp)
  have hF:=hv.pur hp
  subst hF
  refine ⟨a.eval y,w, ?_,st.put ht (pur_ref hp) hv⟩
  unfold execOp
  simp [hec,asBool]
theorem R.pickT {c x y : Operand} {t : Nat} {d : D} {b : Bool} {rt : TypeId}
 (hc : ev C.gl σ c = some (.bool b)) (hb : b = true) (hx : ev C.gl σ x = some d) (hp : d.pur = true) (ht : t < σ.n) :
 OpS P C ⟨some t,.pick c x y,rt,pos,aft,g⟩ σ (σ.set t d):=R.pick hc (by rw [hb]; exact hx) hp ht
theorem R.pickF {c x y : Operand} {t : Nat} {d : D} {b : Bool} {rt : TypeId}
 (hc : ev C.gl σ c = some (.bool b)) (hb : b = false) (hx : ev C.gl σ y = some d) (hp : d.pur = true) (ht : t < σ.n) :
 OpS P C ⟨some t,.pick c x y,rt,pos,aft,g⟩ σ (σ.set t d):=R.pick hc (by rw [hb]; exact hx) hp ht
theorem R.binE {op : BinOp} {xt yt ty : TypeId} {x y : Operand} {t : Nat} {dx dy d d' : D} {s : Prop}
 (hx : ev C.gl σ x = some dx) (hy : ev C.gl σ y = some dy) (ha : arith op dx dy = some (s,d')) (hs : s) (he : d' = d) (ht : t < σ.n) :
 OpS P C ⟨some t,.binOp op xt x y yt,ty,pos,aft,g⟩ σ (σ.set t d):=by subst he; exact R.bin hx hy ha hs ht
theorem R.convE {src dst ty : TypeId} {k k0 : IntKind} {x : Operand} {t : Nat} {dx d d' : D} [h0 : IkT P src k0] [hT : IkT P dst k]
 (hx : ev C.gl σ x = some dx) (hc : convD k dx = some d') (he : d' = d) (ht : t < σ.n) : OpS P C ⟨some t,.convert src dst x,ty,pos,aft,g⟩ σ (σ.set t d):=by subst he; exact R.conv hx hc ht
theorem wr_eq {a c : Int} (h : a = c) (h0 : -9223372036854775808 <= c) (h1 : c < 9223372036854775808) : D.int (wr a) = D.int c:=by
 subst h
 have : wr a = a:=by unfold wr; rw [IntKind.wrap_i64]; omega
 rw [this]
class EqT (P : Program) (t : TypeId) : Prop where
 i : P.eqGuardType P.depth t = false
theorem run_eqItems_u8 {e : TypeId} [hk : IkT P e .u8] [hL : LdT P e 1 false] (w : World) (d : Nat) (xs ys : List UInt8) (n : Nat) (hx : xs.length = n) (hy : ys.length = n) (cx cy : Array Value)
 (h1 : cx.toList = xs.map (fun b=>Value.int .u8 b.toNat)) (h2 : cy.toList = ys.map (fun b=>Value.int .u8 b.toNat)) : ∀ (l : List Nat),(∀ i ∈ l,i < n) ->
 (Op.eqItems (d + 1) e 1 cx cy l).run P w = .ok (l.all fun i=>xs[i]? == ys[i]?) w:=by
 intro l
 induction l with
 | nil=>intro _; simp [Op.eqItems]
 | cons i l ih=>
  intro h
  have hi:=h i (by simp)
  have hp : ∀ (cs : Array Value) (zs : List UInt8) (hz : zs.length = n),cs.toList = zs.map (fun b=>Value.int .u8 b.toNat) -> (part e cs (i * 1)).run P w = .ok (.int .u8 (zs[i]'(by omega)).toNat) w:=by
   intro cs zs hz hc
   have hi' : i < cs.size:=by
    have:=congrArg List.length hc
    simp at this; omega
   have : cs[i] = .int .u8 (zs[i]'(by omega)).toNat:=by
    have e1 : cs.toList[i]'(by simpa using hi') = (zs.map (fun b=>Value.int .u8 b.toNat))[i]'(by simp; omega):=by simp only [hc]
    simpa using e1
   simp [part,LdT.agg (P:=P) (t:=e),hi',this]
  have e3:=hp cx xs hx h1
  have e4:=hp cy ys hy h2
  obtain ⟨k,hku⟩ : ∃ k,P.underlying e = some (.int k):=⟨_,hk.u⟩
  have e5:=run_equalIn_int (P:=P) w d e .u8 k (xs[i]'(by omega)).toNat (ys[i]'(by omega)).toNat hku
  have ex : xs[i]? = some (xs[i]'(by omega)):=List.getElem?_eq_getElem _
  have ey : ys[i]? = some (ys[i]'(by omega)):=List.getElem?_eq_getElem _
  have eb : ((((xs[i]'(by omega)).toNat : Int)) == (((ys[i]'(by omega)).toNat : Int))) = (xs[i]? == ys[i]?):=by
   rw [ex,ey,beq_u8]; rfl
  have ih':=ih (fun j hj=>h j (List.mem_cons_of_mem _ hj))
  simp only [Op.eqItems,Sem.run_bind,e3,e4,e5,Result.andThen_ok,eb,List.all_cons]
  cases hb : (xs[i]? == ys[i]?) with
  | true=>simpa using ih'
  | false=>simp
theorem all_eq (n : Nat) (xs ys : List UInt8) (hx : xs.length = n) (hy : ys.length = n) : ((List.range n).all fun i=>xs[i]? == ys[i]?) = (xs == ys):=by
 rw [Bool.eq_iff_iff]
 simp only [List.all_eq_true,List.mem_range,beq_iff_eq]
 constructor
 · intro h
   apply List.ext_getElem?
   intro i
   by_cases hi : i < n
   · exact h i hi
   · rw [List.getElem?_eq_none (by omega),List.getElem?_eq_none (by omega)]
 · rintro rfl i _; rfl
theorem arr_u8 {G L : Nat -> Prop} {p : Bool} {n : Nat} {xs : List UInt8} {cs : List Value} {F : List Nat} (h : Rc w ρ G L p (.arr n 1 (xs.map .u8)) cs F) : xs.length = n /\ cs = xs.map (fun b=>Value.int .u8 b.toNat):=by
 cases h with
 | arr _ _ _ _ hl hs hr=>
  have hl' : xs.length = n:=by simpa using hl
  refine ⟨hl', ?_⟩
  apply List.ext_getElem?
  intro i
  by_cases hi : i < n
  · have hic : i < cs.length:=by omega
    have:=hr i (by simp; omega)
    rw [Nat.mul_one,List.drop_eq_getElem_cons hic,List.take_succ_cons,List.take_zero] at this
    simp only [List.getElem_map] at this
    rw [List.getElem?_eq_getElem hic,List.getElem?_eq_getElem (by simp; omega)]
    generalize hc : [cs[i]] = c at this
    cases this
    simp at hc
    simp [hc]
  · rw [List.getElem?_eq_none (by omega),List.getElem?_eq_none (by simp; omega)]
end Go.Sx

namespace Go.Sx
variable {P : Program} {C : Ctx} {σ σ' σ1 : Sg} {a : Act} {w w' : World} {ρ : Nat -> Nat} {Fe Fe' Fb : Nat -> List Nat}
end Go.Sx

namespace Go.Sx
variable {pos : String} {aft : Array Edge} {g : Option (Nat × Bool)}
variable {P : Program} {C : Ctx} {σ σ' σ1 : Sg} {a : Act} {w w' : World} {ρ : Nat -> Nat} {Fe Fe' Fb : Nat -> List Nat}
class BaT (P : Program) (t : TypeId) (n e z : outParam Nat) : Prop where
 i : ∃ it zv ie,P.underlying t = some (.array n e) /\ P.info? t = some it /\ it.zero = some zv /\ P.info? e = some ie /\ ie.size = z /\ zv.cells.size = n * z
theorem R.bldA {t n e z : Nat} {ps : List (Nat × Operand)} {ds : List D} {ty rt : TypeId} [hT : BaT P ty n e z]
 (hps : evs C.gl σ ps 0 = some ds) (hp : PurZ z ds) (hk : ds.length = n) (ht : t < σ.n) :
 OpS P C ⟨some t,.build ty ps.toArray,rt,pos,aft,g⟩ σ (σ.set t (.arr n z ds)):=by
 refine OpS.value fun a w ⟨ρ,Fe,Fb,st⟩=>?_
 obtain ⟨it,zv,ie,h1,h2,h3,h4,h5,h6⟩:=hT.i
 subst hk
 obtain ⟨out,q1,q2,q3,q4⟩:=fill_run (w:=w) (ρ:=ρ) (z:=z) (fun x d h hp=>ev_cells st h hp) ps 0 ds zv.cells hps hp (by rw [h6]; simp)
 simp only [Nat.zero_add] at q4
 have hps2 : (ps.toArray.map fun x=>(x.1,a.eval x.2)).toList = ps.map (fun p=>(p.1,a.eval p.2)):=by simp
 have hpur : (D.arr ds.length z ds).pur = true:=rfl
 refine ⟨.agg out,w, ?_,st.put ht rfl ?_⟩
 · have:=run_build (P:=P) w ty (ps.toArray.map fun x=>(x.1,a.eval x.2)) out (by
    rw [hps2]
    simp only [Program.built,h1,h2,h3,h4,h5]
    exact q1)
   unfold execOp
   simp only [Sem.run_bind,this,Result.andThen_ok,Sem.run_pure]
 · simp only [VR,D.isAgg,if_true]
   exact ⟨out,rfl,.arr _ _ _ _ rfl (by simp [q2,h6]) q4⟩
def offl : List D -> Nat -> List (Nat × Nat)
 | [],_=>[]
 | d :: r,o=>(o,d.sz) :: offl r (o + d.sz)
theorem offl_get (l : List D) (o i : Nat) (h : i < l.length) : (offl l o)[i]? = some (o + offk l i,l[i].sz):=by
 induction l generalizing o i with
 | nil=>simp at h
 | cons d r ih=>
  cases i with
  | zero=>simp [offl,offk]
  | succ i=>
   simp only [offl,List.getElem?_cons_succ]
   rw [ih (o + d.sz) i (by simpa using h)]
   simp [offk_succ,Nat.add_assoc]
class BsT (P : Program) (t : TypeId) (l : outParam (List D)) : Prop where
 i : ∃ fs it zv,P.underlying t = some (.struct fs) /\ P.info? t = some it /\ it.zero = some zv /\ fs.toList.mapM (fun f=>(P.info? f.type).map fun i=>(f.offset,i.size)) = some (offl l 0) /\ chk (.agg l) zv.cells.toList = true
def evsS (gl : List (Nat × D)) (σ : Sg) : List (Nat × Operand) -> List D -> Option (List D)
 | [],l=>some l
 | (i,x) :: r,l=>match ev gl σ x with
  | some d=>evsS gl σ r (l.set i d)
  | none=>none
def PurS (gl : List (Nat × D)) (σ : Sg) (l : List D) : List (Nat × Operand) -> Prop
 | []=>True
 | (i,x) :: r=>(∃ d,ev gl σ x = some d /\ d.pur = true /\ d.np = true /\ (l[i]?).map D.sz = some d.sz) /\ PurS gl σ l r
theorem fill_struct {G L : Nat -> Prop} {gl : List (Nat × D)} {l0 : List D} (hv : ∀ x d,ev gl σ x = some d -> d.pur = true -> ∃ cs : List Value,(a.eval x).cells.toList = cs /\ Rc w ρ G L true d cs []) :
 ∀ (ps : List (Nat × Operand)) (l l' : List D) (cs : Array Value),evsS gl σ ps l = some l' -> PurS gl σ l0 ps -> l.map D.sz = l0.map D.sz -> Rc w ρ G L false (.agg l) cs.toList [] ->
  ∃ out : Array Value,Instr.fill ((offl l0 0).toArray[·]?) cs (ps.map (fun p=>(p.1,a.eval p.2))) = some out /\ Rc w ρ G L false (.agg l') out.toList []:=by
 intro ps
 induction ps with
 | nil=>intro l l' cs h _ _ hr; simp only [evsS,Option.some.injEq] at h; subst h; exact ⟨cs,rfl,hr⟩
 | cons p ps ih=>
  intro l l' cs h hp hz hr
  obtain ⟨i,x⟩:=p
  obtain ⟨⟨d,hx,p1,p2,p3⟩,p4⟩:=hp
  simp only [evsS,hx] at h
  obtain ⟨xc,hxc,hrc⟩:=hv x d hx p1
  have hlen:=hrc.len
  cases hl0 : l0[i]? with
  | none=>rw [hl0] at p3; cases p3
  | some d0=>
   obtain ⟨hi,rfl⟩:=List.getElem?_eq_some_iff.1 hl0
   rw [hl0] at p3
   simp only [Option.map_some,Option.some.injEq] at p3
   have hll : l.length = l0.length:=by have:=congrArg List.length hz; simpa using this
   have hi2 : i < l.length:=by omega
   have hsi : l[i].sz = d.sz:=by
    have : (l.map D.sz)[i]'(by simpa using hi2) = (l0.map D.sz)[i]'(by simpa using hi):=by simp only [hz]
    simp at this
    omega
   have hoff : offk l i = offk l0 i:=by
    have hs : ∀ (u v : List D),u.map D.sz = v.map D.sz -> D.szs u = D.szs v:=by
     intro u
     induction u with
     | nil=>intro v hv; cases v <;> simp_all
     | cons a u ihu=>intro v hv; cases v with
      | nil=>simp at hv
      | cons b v=>simp at hv; simp [hv.1,ihu v hv.2]
    unfold offk
    exact hs _ _ (by rw [List.map_take,List.map_take,hz])
   have hlo:=offk_lt l i hi2
   have hcl:=hr.len
   simp only [sz_agg,Array.length_toList] at hcl
   have hloc : (D.agg l).loc [i] = some (offk l i,l[i]):=by simp [D.loc,List.getElem?_eq_getElem hi2]
   have hupd : (D.agg l).upd [i] d = some (.agg (l.set i d)):=by simp [D.upd,List.getElem?_eq_getElem hi2]
   obtain ⟨F2,g1,g2,_⟩:=hr.upd hloc hupd hsi.symm (hrc.unflag p2) List.nodup_nil List.nodup_nil (by simp) (.inl rfl)
   have hF2 : F2 = []:=by
    cases F2 with
    | nil=>rfl
    | cons b r=>have:=g2 b (by simp); simp at this
   subst hF2
   have hfold:=foldl_set cs xc (offk l i) 0 (by omega)
   simp only [Nat.add_zero] at hfold
   have hcs2 : ((a.eval x).cells.zipIdx.foldl (fun (c : Array Value) (p : Value × Nat)=>c.setIfInBounds (offk l i + p.2) p.1) cs).toList = cs.toList.take (offk l i) ++ xc ++ cs.toList.drop (offk l i + xc.length):=by
    rw [<- hfold,<- hxc,<- Array.foldl_toList]
    simp
   rw [<- hcs2] at g1
   obtain ⟨out,q1,q2⟩:=ih (l.set i d) l' _ h p4 (by
    rw [List.map_set,<- hsi]
    rw [<- hz]
    apply List.ext_getElem?
    intro j
    rw [List.getElem?_set]
    split
    · rename_i hij
      subst hij
      simp [hi2]
    · rfl) g1
   refine ⟨out, ?_,q2⟩
   simp only [List.map_cons,Instr.fill]
   have hpl : (offl l0 0).toArray[i]? = some (offk l i,d.sz):=by
    rw [List.getElem?_toArray,offl_get l0 0 i hi,hoff,Nat.zero_add,<- p3]
   have hsz : (a.eval x).cells.size = d.sz:=by rw [<- Array.length_toList,hxc,hlen]
   simp only [hpl,hsz]
   rw [if_neg (by simp; omega)]
   exact q1
theorem R.bldS {t : Nat} {ps : List (Nat × Operand)} {l l' : List D} {ty rt : TypeId} [hT : BsT P ty l]
 (hps : evsS C.gl σ ps l = some l') (hp : PurS C.gl σ l ps) (ht : t < σ.n) :
 OpS P C ⟨some t,.build ty ps.toArray,rt,pos,aft,g⟩ σ (σ.set t (.agg l')):=by
 refine OpS.value fun a w ⟨ρ,Fe,Fb,st⟩=>?_
 obtain ⟨fs,it,zv,h1,h2,h3,h4,h5⟩:=hT.i
 obtain ⟨out,q1,q2⟩:=fill_struct (w:=w) (ρ:=ρ) (l0:=l) (fun x d h hp=>ev_cells st h hp) ps l l' zv.cells hps hp rfl (chk_ok _ _ _ _ _ _ h5)
 have hps2 : (ps.toArray.map fun x=>(x.1,a.eval x.2)).toList = ps.map (fun p=>(p.1,a.eval p.2)):=by simp
 refine ⟨.agg out,w, ?_,st.put ht rfl ?_⟩
 · have:=run_build (P:=P) w ty (ps.toArray.map fun x=>(x.1,a.eval x.2)) out (by
    rw [hps2]
    simp only [Program.built,h1,h2,h3,h4]
    exact q1)
   unfold execOp
   simp only [Sem.run_bind,this,Result.andThen_ok,Sem.run_pure]
 · simp only [VR,D.isAgg,if_true]
   exact ⟨out,rfl,q2.flag⟩
end Go.Sx

namespace Go.Sx
variable {P : Program} {C : Ctx} {σ σ' σ1 : Sg} {xt yt ty : TypeId} {x y : Operand} {t : Nat} {pos : String} {aft : Array Edge} {g : Option (Nat × Bool)}
theorem evt {gl : List (Nat × D)} {σ : Sg} {s : Nat} {d : D} (h : σ.get s = some d) : ev gl σ (.tmp s) = some d:=h
theorem R.addN (m n : Nat) (hx : ev C.gl σ x = some (.int (m : Int))) (hy : ev C.gl σ y = some (.int (n : Int))) (h : m + n < 9223372036854775808) (ht : t < σ.n) :
 OpS P C ⟨some t,.binOp .add xt x y yt,ty,pos,aft,g⟩ σ (σ.set t (.int ((m + n : Nat) : Int))):=
 R.binE hx hy rfl trivial (wr_eq (by omega) (by omega) (by omega)) ht
theorem R.subN (m n : Nat) (hx : ev C.gl σ x = some (.int (m : Int))) (hy : ev C.gl σ y = some (.int (n : Int))) (h : n <= m) (h2 : m < 9223372036854775808) (ht : t < σ.n) :
 OpS P C ⟨some t,.binOp .sub xt x y yt,ty,pos,aft,g⟩ σ (σ.set t (.int ((m - n : Nat) : Int))):=
 R.binE hx hy rfl trivial (wr_eq (by omega) (by omega) (by omega)) ht
theorem R.mulN (m n : Nat) (hx : ev C.gl σ x = some (.int (m : Int))) (hy : ev C.gl σ y = some (.int (n : Int))) (h : m * n < 9223372036854775808) (ht : t < σ.n) :
 OpS P C ⟨some t,.binOp .mul xt x y yt,ty,pos,aft,g⟩ σ (σ.set t (.int ((m * n : Nat) : Int))):=
 R.binE hx hy rfl trivial (wr_eq (by rw [Int.natCast_mul]) (by have : (0 : Int) <= ((m * n : Nat) : Int):=Int.natCast_nonneg _; omega) (by omega)) ht
theorem R.remN (m n : Nat) (hx : ev C.gl σ x = some (.int (m : Int))) (hy : ev C.gl σ y = some (.int (n : Int))) (h : 0 < n) (ht : t < σ.n) :
 OpS P C ⟨some t,.binOp .rem xt x y yt,ty,pos,aft,g⟩ σ (σ.set t (.int ((m % n : Nat) : Int))):=
 R.binE hx hy rfl (show (n : Int) ≠ 0 by omega) (congrArg D.int (by rw [Int.ofNat_tmod])) ht
theorem R.lssN (m n : Nat) (hx : ev C.gl σ x = some (.int (m : Int))) (hy : ev C.gl σ y = some (.int (n : Int))) (ht : t < σ.n) :
 OpS P C ⟨some t,.binOp .lss xt x y yt,ty,pos,aft,g⟩ σ (σ.set t (.bool (decide (m < n)))):=R.binE hx hy rfl trivial (congrArg D.bool (by rw [Bool.eq_iff_iff]; simp)) ht
theorem R.leqN (m n : Nat) (hx : ev C.gl σ x = some (.int (m : Int))) (hy : ev C.gl σ y = some (.int (n : Int))) (ht : t < σ.n) :
 OpS P C ⟨some t,.binOp .leq xt x y yt,ty,pos,aft,g⟩ σ (σ.set t (.bool (decide (m <= n)))):=R.binE hx hy rfl trivial (congrArg D.bool (by rw [Bool.eq_iff_iff]; simp)) ht
theorem R.gtrN (m n : Nat) (hx : ev C.gl σ x = some (.int (m : Int))) (hy : ev C.gl σ y = some (.int (n : Int))) (ht : t < σ.n) :
 OpS P C ⟨some t,.binOp .gtr xt x y yt,ty,pos,aft,g⟩ σ (σ.set t (.bool (decide (n < m)))):=R.binE hx hy rfl trivial (congrArg D.bool (by rw [Bool.eq_iff_iff]; simp)) ht
theorem R.eqlN (m n : Nat) (hx : ev C.gl σ x = some (.int (m : Int))) (hy : ev C.gl σ y = some (.int (n : Int))) (ht : t < σ.n) :
 OpS P C ⟨some t,.binOp .eql xt x y yt,ty,pos,aft,g⟩ σ (σ.set t (.bool (decide (m = n)))):=R.binE hx hy rfl trivial (congrArg D.bool (by rw [Bool.eq_iff_iff]; simp; omega)) ht
theorem R.neqN (m n : Nat) (hx : ev C.gl σ x = some (.int (m : Int))) (hy : ev C.gl σ y = some (.int (n : Int))) (ht : t < σ.n) :
 OpS P C ⟨some t,.binOp .neq xt x y yt,ty,pos,aft,g⟩ σ (σ.set t (.bool (decide (m ≠ n)))):=R.binE hx hy rfl trivial (congrArg D.bool (by rw [Bool.eq_iff_iff]; simp; omega)) ht
theorem map_get! {α : Type} [Inhabited α] {f : α -> D} {l : List α} {i : Nat} (h : i < l.length) : (l.map f)[i]? = some (f l[i]!):=by
 rw [List.getElem?_map,List.getElem?_eq_getElem h]
 simp [h]
theorem W.condD {Q : Exit -> Sg -> Prop} {x y : Code} {t : Nat} {p : Prop} [Decidable p] (ht : σ.get t = some (.bool (decide p))) (h1 : p -> W P C x Q σ) (h2 : ¬ p -> W P C y Q σ) : W P C (.cond (.tmp t) x y) Q σ:=
 W.cond ht (fun h=>h1 (of_decide_eq_true h)) (fun h=>h2 (of_decide_eq_false h))
theorem W.condT {Q : Exit -> Sg -> Prop} {x y : Code} {t : Nat} {b : Bool} (ht : σ.get t = some (.bool b)) (hb : b = true) (h1 : W P C x Q σ) : W P C (.cond (.tmp t) x y) Q σ:=
 W.cond ht (fun _=>h1) (fun h=>by rw [hb] at h; cases h)
theorem W.condF {Q : Exit -> Sg -> Prop} {x y : Code} {t : Nat} {b : Bool} (ht : σ.get t = some (.bool b)) (hb : b = false) (h1 : W P C y Q σ) : W P C (.cond (.tmp t) x y) Q σ:=
 W.cond ht (fun h=>by rw [hb] at h; cases h) (fun _=>h1)
theorem W.seqM {Q : Exit -> Sg -> Prop} {x y : Code} (M : Sg -> Prop) (h1 : W P C x (fun e s=>match e with | .normal=>M s | e=>Q e s) σ) (h2 : ∀ s,M s -> W P C y Q s) : W P C (.seq x y) Q σ:=
 W.seq (h1.mono (fun e s h=>by cases e <;> first | exact h2 s h | exact h))
theorem Ends.one' {rv : ResultVar} {r r' : D} {e : Exit} {σ : Sg} (he : e = .normal ∨ e = .ret) (h : outS σ rv = some r') (hr : r' = r) (h1 : r.isRef = false) (h2 : r.np = true) (h3 : RtT P r rv) : Ends [rv] P r e σ:=by
 subst hr; exact ⟨he,h,h1,h2,h3⟩
theorem evoI {gl : List (Nat × D)} {n m : Int} (h : ev gl σ x = some (.int n)) : evo gl σ (some x) m = some n:=by simp only [evo,h,D.cnt]
theorem brw_map {α : Type} {f : α -> D} {l : List α} (h : ∀ x,(f x).brw = f x) : (l.map f).map D.brw = l.map f:=by simp [Function.comp_def,h]
theorem frs_map {α : Type} {f : α -> D} {l : List α} (h : ∀ x,Frs (f x)) : ∀ x ∈ l.map f,Frs x:=by
 intro x hx
 obtain ⟨y,_,rfl⟩:=List.mem_map.1 hx
 exact h y
theorem pur_map {α : Type} {f : α -> D} {l : List α} (h : ∀ x,(f x).pur = true) : ∀ x ∈ l.map f,x.pur = true:=by
 intro x hx
 obtain ⟨y,_,rfl⟩:=List.mem_map.1 hx
 exact h y
theorem FrsR.one {r : D} (h : Frs r) : FrsR r:=.inr ⟨fun ds e=>(by rw [e] at h; cases h),h⟩
theorem R.callG {f : FuncId} [CaT P f] {gl : List (Nat × D)} {args : List Operand} {tys : Array TypeId} {rt : TypeId} {ds : List D} {r : D}
 (hC : C.gl = gl) (hF : Fn P gl f ds r) (hb : Bors C.gl σ args ds) (hr : FrsR r) (ht : t < σ.n) :
 OpS P C ⟨some t,.call { callee:=.value (.func f),args:=args.toArray,argTypes:=tys },rt,pos,aft,g⟩ σ (σ.set t r):=by
 subst hC; exact R.call hF hb hr ht
theorem W.asOwn {c : Code} {Q : Exit -> Sg -> Prop} {s : Nat} (e z : Nat) (h : σ.get s = some .nils) (k : W P C c Q (σ.upd s (.sl (some e) z []))) : W P C c Q σ:=by
 intro a w ⟨ρ,Fe,Fb,st⟩
 refine k a w ⟨ρ,_,Fb,st.turn (F:=[]) h rfl ⟨rfl,Nat.le_refl _⟩ rfl (Nat.le_refl _) (fun _ _ _=>rfl) List.nodup_nil (by simp) ?_⟩
 obtain ⟨v,hv,hr⟩:=(SR_plain rfl).1 (st.env _ _ h)
 simp only [VR,D.isAgg,Bool.false_eq_true,if_false] at hr
 refine (SR_plain rfl).2 ⟨v,hv, ?_⟩
 simp only [VR,D.isAgg,Bool.false_eq_true,if_false]
 rw [hr.nil_val]
 exact .slN _ _
inductive Evs (gl : List (Nat × D)) (σ : Sg) : List (Nat × Operand) -> Nat -> List D -> Prop
 | nil {k : Nat} : Evs gl σ [] k []
 | cons {k : Nat} {x : Operand} {d : D} {ps : List (Nat × Operand)} {ds : List D} (h : ev gl σ x = some d) (t : Evs gl σ ps (k + 1) ds) : Evs gl σ ((k,x) :: ps) k (d :: ds)
theorem Evs.ok {gl : List (Nat × D)} {ps : List (Nat × Operand)} {k : Nat} {ds : List D} (h : Evs gl σ ps k ds) : evs gl σ ps k = some ds:=by
 induction h with
 | nil=>rfl
 | cons h t ih=>simp [evs,h,ih]
inductive EvS (gl : List (Nat × D)) (σ : Sg) : List (Nat × Operand) -> List D -> List D -> Prop
 | nil {l l' : List D} (h : l = l') : EvS gl σ [] l l'
 | cons {i : Nat} {x : Operand} {d : D} {ps : List (Nat × Operand)} {l l' : List D} (h : ev gl σ x = some d) (t : EvS gl σ ps (l.set i d) l') : EvS gl σ ((i,x) :: ps) l l'
theorem EvS.ok {gl : List (Nat × D)} {ps : List (Nat × Operand)} {l l' : List D} (h : EvS gl σ ps l l') : evsS gl σ ps l = some l':=by
 induction h with
 | nil h=>subst h; rfl
 | cons h t ih=>simp [evsS,h,ih]
theorem R.bslE {t e z bytes k : Nat} {ps : List (Nat × Operand)} {ds : List D} {ty rt : TypeId} {pos : String} {aft : Array Edge} {g : Option (Nat × Bool)} [hT : SlT P ty e] [hE : ElT P e z bytes]
 (hps : Evs C.gl σ ps 0 ds) (hp : PurZ z ds) (hk : ds.length = k) (ht : t < σ.n) (hsm : k * z <= 16777216) :
 OpS P C ⟨some t,.buildSlice ty k ps.toArray,rt,pos,aft,g⟩ σ (σ.set t (.sl (some e) z ds)):=R.bsl hps.ok hp hk ht hsm
theorem R.bldSE {t : Nat} {ps : List (Nat × Operand)} {l l' : List D} {ty rt : TypeId} {pos : String} {aft : Array Edge} {g : Option (Nat × Bool)} [hT : BsT P ty l]
 (hps : EvS C.gl σ ps l l') (hp : PurS C.gl σ l ps) (ht : t < σ.n) :
 OpS P C ⟨some t,.build ty ps.toArray,rt,pos,aft,g⟩ σ (σ.set t (.agg l')):=R.bldS hps.ok hp ht
theorem R.lenE {s t z n : Nat} {l : List D} {ty e rt : TypeId} [hT : SlT P ty e] (h : SC σ s z l) (hl : l.length = n) (ht : t < σ.n) :
 OpS P C ⟨some t,.call { callee:=.builtin .len,args:=#[.tmp s],argTypes:=#[ty] },rt,pos,aft,g⟩ σ (σ.set t (.int ((n : Nat) : Int))):=by
 subst hl; exact R.len h ht
theorem R.nilcP {s id off : Nat} {path : List Nat} {rt : TypeId} (hx : σ.get s = some (.ptr id off path)) (ht : t < σ.n) : OpS P C ⟨some t,.nilCheck (.tmp s),rt,pos,aft,g⟩ σ (σ.set t (.ptr id off path)):=by
 refine OpS.value fun a w ⟨ρ,Fe,Fb,st⟩=>?_
 obtain ⟨v,hv,hr⟩:=(SR_plain rfl).1 (st.env _ _ hx)
 have hr0:=hr
 have hF:=hr.pur rfl
 simp only [VR,D.isAgg,Bool.false_eq_true,if_false] at hr
 generalize Fe s = F at hr
 cases hr with
 | ptr _ _ _ hL=>
  rw [hF] at hr0
  refine ⟨_,w, ?_,st.put ht rfl hr0⟩
  unfold execOp
  simp [eval_tmp hv]
theorem R.slR {t e z bytes m : Nat} {l : List D} {lo hi : Option Operand} {i j : Int} {ty rt : TypeId} [hT : ArT P ty m e] [hE : ElT P e z bytes]
 (hx : ev C.gl σ x = some (.rp (.arr m z l))) (hl : evo C.gl σ lo 0 = some i) (hh : evo C.gl σ hi m = some j) (h0 : 0 <= i) (h1 : i <= j) (h2 : j <= m) (ht : t < σ.n) :
 OpS P C ⟨some t,.slice ty x lo hi none,rt,pos,aft,g⟩ σ (σ.set t (.sl none z ((l.drop i.toNat).take (j - i).toNat))):=by
 refine OpS.value fun a w ⟨ρ,Fe,Fb,st⟩=>?_
 obtain ⟨F,hv,_⟩:=ev_ok st hx rfl
 have hF:=hv.pur rfl
 subst hF
 simp only [VR,D.isAgg,Bool.false_eq_true,if_false] at hv
 generalize hex : a.eval x = vx at hv
 cases hv with
 | rp _ b off cs e' fz hb hG hs hr=>
  cases hr with
  | arr _ _ _ _ hlm hsz hrr=>
   simp only [sz_arr] at hs hsz hrr
   have hlen : ((l.drop i.toNat).take (j - i).toNat).length = (j - i).toNat:=by simp; omega
   have e1 : j.toNat - i.toNat = (j - i).toNat:=by omega
   have hbd:=run_bounds (P:=P) st (b:=false) (len:=m) (cap:=m) hl hh h0 h1 h2 (Nat.le_refl _)
   refine ⟨.slice (some (if m = i.toNat then ⟨b,off,none⟩ else ⟨b,off + i.toNat * z,none⟩)) (j - i).toNat (m - i.toNat),w, ?_,st.put ht rfl ?_⟩
   · unfold execOp
     cases lo <;> cases hi <;> simp_all [Instr.sliceAt,Instr.sureAddr,run_underlying hT.u,ElT.size (P:=P) (e:=e),add_lit] <;> split <;> simp_all
   · simp only [VR,D.isAgg,Bool.false_eq_true,if_false]
     have hjz : ((j - i).toNat) * z + i.toNat * z <= m * z:=by
      rw [<- Nat.add_mul]; exact Nat.mul_le_mul_right z (by omega)
     by_cases hci : m = i.toNat
     · simp only [hci,if_true,Nat.sub_self]
       have h3 : (j - i).toNat = 0:=by omega
       have:=Rc.slI (w:=w) (ρ:=ρ) (G:=gd C Fe Fb) (L:=fun id=>(σ.box id).isSome) (p:=true) b off cs e' fz 0 z [] hb hG (Nat.zero_le _) (by simp; omega) (fun k hk=>by simp at hk)
       simpa [h3] using this
     · simp only [hci,if_false]
       have:=Rc.slI (w:=w) (ρ:=ρ) (G:=gd C Fe Fb) (L:=fun id=>(σ.box id).isSome) (p:=true) b (off + i.toNat * z) cs e' fz (m - i.toNat) z ((l.drop i.toNat).take (j - i).toNat) hb hG (by rw [hlen]; omega)
        (by rw [hlen]; omega) (fun k hk=>by
         rw [hlen] at hk
         simp only [List.getElem_take,List.getElem_drop]
         have h5:=hrr (i.toNat + k) (by omega)
         have h6 : (i.toNat + k) * z + z <= m * z:=by
          have:=Nat.mul_le_mul_right z (show i.toNat + k + 1 <= m by omega)
          rw [Nat.add_mul (i.toNat + k) 1 z] at this; omega
         rw [sub_sub _ _ _ _ _ h6,Nat.add_mul,<- Nat.add_assoc] at h5
         exact h5)
       rw [hlen] at this
       exact this
theorem R.slRN {t e z bytes m : Nat} {l l' : List D} {lo hi : Option Operand} {i j : Int} {ty rt : TypeId} [hT : ArT P ty m e] [hE : ElT P e z bytes] (a b n : Nat)
 (hx : ev C.gl σ x = some (.rp (.arr m z l))) (hl : evo C.gl σ lo 0 = some i) (hh : evo C.gl σ hi m = some j) (hi' : i = a) (hj : j = b) (h1 : a <= b) (h2 : b <= m) (hn : b - a = n) (he : (l.drop a).take n = l') (ht : t < σ.n) :
 OpS P C ⟨some t,.slice ty x lo hi none,rt,pos,aft,g⟩ σ (σ.set t (.sl none z l')):=by
 subst hi'; subst hj; subst he
 have:=R.slR (P:=P) (C:=C) (e:=e) (ty:=ty) (pos:=pos) (aft:=aft) (g:=g) (rt:=rt) hx hl hh (by omega) (by omega) (by omega) ht
 have e1 : ((b : Int) - (a : Int)).toNat = n:=by omega
 have e2 : ((a : Int)).toNat = a:=rfl
 rw [e1,e2] at this
 exact this
theorem R.slIN {t e z bytes : Nat} {l l' : List D} {lo hi : Option Operand} {i j : Int} {ty rt : TypeId} [hT : SlT P ty e] [hE : ElT P e z bytes] (a b n : Nat)
 (hx : ev C.gl σ x = some (.sl none z l)) (hl : evo C.gl σ lo 0 = some i) (hh : evo C.gl σ hi l.length = some j) (hi' : i = a) (hj : j = b) (h1 : a <= b) (h2 : b <= l.length) (hn : b - a = n) (he : (l.drop a).take n = l') (ht : t < σ.n) :
 OpS P C ⟨some t,.slice ty x lo hi none,rt,pos,aft,g⟩ σ (σ.set t (.sl none z l')):=by
 subst hi'; subst hj; subst he
 have:=R.slI (P:=P) (C:=C) (e:=e) (ty:=ty) (pos:=pos) (aft:=aft) (g:=g) (rt:=rt) hx hl hh (by omega) (by omega) (by omega) ht
 have e1 : ((b : Int) - (a : Int)).toNat = n:=by omega
 have e2 : ((a : Int)).toNat = a:=rfl
 rw [e1,e2] at this
 exact this
theorem R.slAN {s t e z bytes m id off : Nat} {path : List Nat} {d0 : D} {l : List D} {lo hi : Option Operand} {i j : Int} {ty rt : TypeId} [hT : ArT P ty m e] [hE : ElT P e z bytes] (a b n : Nat)
 (hx : σ.get s = some (.ptr id off path)) (hb : σ.box id = some (.var d0)) (hloc : d0.loc path = some (off,.arr m z l)) (hl : evo C.gl σ lo 0 = some i) (hh : evo C.gl σ hi m = some j) (hi' : i = a) (hj : j = b) (h1 : a <= b) (h2 : b <= m) (hn : b - a = n) (ht : t < σ.n) :
 OpS P C ⟨some t,.slice ty (.tmp s) lo hi none,rt,pos,aft,g⟩ σ (σ.set t (.va id off z n path a)):=by
 subst hi'; subst hj
 have:=R.slA (P:=P) (C:=C) (e:=e) (ty:=ty) (pos:=pos) (aft:=aft) (g:=g) (rt:=rt) hx hb hloc hl hh (by omega) (by omega) (by omega) ht
 have e1 : ((b : Int) - (a : Int)).toNat = n:=by omega
 have e2 : ((a : Int)).toNat = a:=rfl
 rw [e1,e2] at this
 exact this
theorem part_map {α : Type} {f : α -> D} {l : List α} {a n : Nat} : ((l.map f).drop a).take n = ((l.drop a).take n).map f:=by rw [List.map_take,List.map_drop]
theorem W.dropS {c : Code} {Q : Exit -> Sg -> Prop} {live : List Nat} {env' : List (Nat × D)} {bx' : List (Nat × Bx)} {n' : Nat} (hE : picks σ.get live = env') (hb : σ.bx = bx') (hn : σ.n = n') (h : W P C c Q ⟨n',env',bx'⟩) : W P C c Q σ:=W.drop hE hb hn h
theorem brw_part {α : Type} {f : α -> D} {l : List α} {a n : Nat} (h : ∀ x,(f x).brw = f x) : (((l.map f).drop a).take n).map D.brw = ((l.drop a).take n).map f:=by
 rw [part_map,brw_map h]
theorem R.stZ {p id off : Nat} {path : List Nat} {d0 d1 d' dx : D} {n rt : TypeId} {gg : Bool} [LdT P ty n gg]
 (h : σ.get p = some (.ptr id off path)) (hb : σ.box id = some (.var d0)) (hl : d0.loc path = some (off,d1)) (hx : ev C.gl σ x = some dx) (hp : dx.pur = true) (hnp : dx.np = true)
 (hn : dx.sz = n) (hz : d1.sz = n) (hu : d0.upd path dx = some d') :
 OpS P C ⟨none,.store ty (.tmp p) x,rt,pos,aft,g⟩ σ (σ.putB id (.var d')):=R.st h hb hl hx hp hnp hn (hn.trans hz.symm) hu
theorem app_map {α β : Type} {f : α -> β} {l l' : List α} : l.map f ++ l'.map f = (l ++ l').map f:=List.map_append.symm
theorem R.appE {s s0 t e z bytes : Nat} {l l' l2 : List D} {ty rt : TypeId} [hT : SlT P ty e] [hE : ElT P e z bytes]
 (ho : ownr σ s s0) (hs : σ.get s0 = some (.sl (some e) z l)) (hx : SrcO C.gl σ x z l') (he : l ++ l' = l2) (hn : l.length + l'.length <= 1073741824) (ht : t < σ.n) (hst : s0 ≠ t) (hby : bytes <= 131072) :
 OpS P C ⟨some t,.call { callee:=.builtin .append,args:=#[.tmp s,x],argTypes:=#[ty,ty] },rt,pos,aft,g⟩ σ ((σ.kill s0).set t (.sl (some e) z l2)):=by
 subst he; exact R.app ho hs hx hn ht hst hby
theorem gw {b v wt want : Bool} (h : b = v) (hw : wt = (v == want)) : wt = (b == want):=by subst h; exact hw
theorem pur_lit {l : List D} (h : D.purs l = true) : ∀ y ∈ l,y.pur = true:=fun y hy=>by
 obtain ⟨k,hk,rfl⟩:=List.mem_iff_getElem.1 hy
 exact purs_get l h k hk
end Go.Sx

namespace Go.Sx
variable {P : Program} {C : Ctx} {σ : Sg} {w : World} {ρ : Nat -> Nat}
def memB (ids : List Nat) (i : Nat) : Bool:=ids.any (Nat.beq i)
mutual
def D.okB (ids : List Nat) : D -> Bool
 | .ptr id _ _=>memB ids id
 | .bs id _ _ _=>memB ids id
 | .map id=>memB ids id
 | .alb id _ _=>memB ids id
 | .va id _ _ _ _ _=>memB ids id
 | .agg l=>D.okBs ids l
 | .fn _ l=>D.okBs ids l
 | .tup l=>D.okBs ids l
 | .ifc _ d=>D.okB ids d
 | _=>true
def D.okBs (ids : List Nat) : List D -> Bool
 | []=>true
 | d :: r=>D.okB ids d && D.okBs ids r
end
theorem okBs_get {ids : List Nat} (l : List D) (h : D.okBs ids l = true) : ∀ k (hk : k < l.length),l[k].okB ids = true:=by
 induction l with
 | nil=>intro k hk; simp at hk
 | cons d r ih=>
  simp only [D.okBs,Bool.and_eq_true] at h
  intro k hk
  cases k with
  | zero=>exact h.1
  | succ k=>simpa using ih h.2 k (by simpa using hk)
theorem Rc.okB {ids : List Nat} {G L : Nat -> Prop} {p : Bool} {d : D} {cs : List Value} {F : List Nat} (h : Rc w ρ G L p d cs F) (hd : d.okB ids = true) : Rc w ρ G (fun id=>memB ids id = true /\ L id) p d cs F:=by
 induction h with
 | bool b=>exact .bool b
 | int n=>exact .int n
 | u8 x=>exact .u8 x
 | u16 x=>exact .u16 x
 | u32 x=>exact .u32 x
 | u64 x=>exact .u64 x
 | ik k n=>exact .ik k n
 | str s=>exact .str s
 | nils=>exact .nils
 | slN o z=>exact .slN o z
 | slE o z a=>exact .slE o z a
 | slI b off cs e fz cap z l hb hG hc hs hr ih=>exact .slI b off cs e fz cap z l hb hG hc hs (fun i hi=>(hr i hi).noL)
 | slO b cs e cap z l Fs hb hc hm hs ho1 hr ih=>exact .slO b cs e cap z l Fs hb hc hm hs ho1 (fun i hi=>(hr i hi).noL)
 | agg l cs Fs hs hr ih=>exact .agg l cs Fs hs (fun k hk=>ih k hk (okBs_get l (by simpa [D.okB] using hd) k hk))
 | arr n z l cs hl hs hr ih=>exact .arr n z l cs hl hs (fun i hi=>(hr i hi).noL)
 | ptr id off path hid=>exact .ptr id off path ⟨by simpa [D.okB] using hd,hid⟩
 | bs id z n cap hid hcap=>exact .bs id z n cap ⟨by simpa [D.okB] using hd,hid⟩ hcap
 | nilp=>exact .nilp
 | rp d b off cs e fz hb hG hs hr ih=>exact .rp d b off cs e fz hb hG hs hr.noL
 | map id hid=>exact .map id ⟨by simpa [D.okB] using hd,hid⟩
 | nilmap=>exact .nilmap
 | fn f caps vs hl ha hr ih=>exact .fn f caps vs hl ha (fun k hk=>ih k hk (okBs_get caps (by simpa [D.okB] using hd) k hk))
 | nilf=>exact .nilf
 | yld l=>exact .yld l
 | ifc t d v ha hr ih=>exact .ifc t d v ha (ih (by simpa [D.okB] using hd))
 | nili=>exact .nili
 | dead v h=>exact .dead v h
theorem VR.okB {ids : List Nat} {G L : Nat -> Prop} {d : D} {v : Value} {F : List Nat} (h : VR w ρ G L d v F) (hd : d.okB ids = true) : VR w ρ G (fun id=>memB ids id = true /\ L id) d v F:=by
 unfold VR at *
 cases hg : d.isAgg <;> simp only [hg,if_true,if_false,Bool.false_eq_true] at h ⊢
 · exact h.okB hd
 · obtain ⟨cs,rfl,h⟩:=h; exact ⟨cs,rfl,h.okB hd⟩
theorem SR.okB {ids : List Nat} {G L G' L' : Nat -> Prop} {a : Act} {t : Nat} {d : D} {F : List Nat} (h : SR w ρ G L a t d F) (hd : d.okB ids = true)
 (hg : ∀ b,G b -> b < w.heap.size -> G' b) (hL : ∀ id,(memB ids id = true /\ L id) -> L' id) : SR w ρ G' L' a t d F:=by
 have key : ∀ (d : D) (v : Value) (F : List Nat),d.okB ids = true -> VR w ρ G L d v F -> VR w ρ G' L' d v F:=fun d v F h1 h2=>
  (h2.okB h1).mono (fun _ _ _=>rfl) hg (fun id hid=>⟨hL id hid,rfl⟩)
 cases d with
 | alb id off path=>obtain ⟨h1,h2,h3⟩:=h; exact ⟨h1,hL _ ⟨by simpa [D.okB] using hd,h2⟩,h3⟩
 | va id off z n path lo=>obtain ⟨h1,h2,h3⟩:=h; exact ⟨h1,hL _ ⟨by simpa [D.okB] using hd,h2⟩,h3⟩
 | tup ds=>
  obtain ⟨vs,Fs,h1,h2,h3,h4⟩:=h
  refine ⟨vs,Fs,h1,h2,h3,fun k hk=>(h4 k hk).imp id fun ⟨h5,h6⟩=>⟨h5,key _ _ _ (okBs_get ds (by simpa [D.okB] using hd) k hk) h6⟩⟩
 | al s=>exact h
 | vw s z lo n=>exact h
 | ep s z i off path=>exact h
 | dead=>exact h
 | _=>obtain ⟨v,h1,h2⟩:=h; exact ⟨v,h1,key _ _ _ hd h2⟩
def keepB (ids : List Nat) : List (Nat × Bx) -> List (Nat × Bx)
 | []=>[]
 | (k,b) :: r=>bif memB ids k then (k,b) :: keepB ids r else keepB ids r
theorem lk_keepB (ids : List Nat) (l : List (Nat × Bx)) (u : Nat) : lk (keepB ids l) u = if memB ids u then lk l u else none:=by
 induction l with
 | nil=>simp [keepB,lk]
 | cons x r ih=>
  obtain ⟨k,d⟩:=x
  simp only [keepB,lk_cons]
  by_cases hk : memB ids k = true
  · simp only [hk,cond_true,lk_cons,ih]
    by_cases hku : k = u
    · subst hku; simp [hk]
    · simp [hku]
  · have hk' : memB ids k = false:=by simpa using hk
    simp only [hk',cond_false,ih]
    by_cases hku : k = u
    · subst hku; simp [hk']
    · simp [hku]
def okEnvB (ids : List Nat) : List (Nat × D) -> Bool
 | []=>true
 | (_,d) :: r=>d.okB ids && okEnvB ids r
def okBx (ids : List Nat) : List (Nat × Bx) -> Bool
 | []=>true
 | (_,.var d) :: r=>d.okB ids && okBx ids r
 | (_,.mp _) :: _=>false
theorem okEnvB_get {ids : List Nat} {l : List (Nat × D)} (h : okEnvB ids l = true) {t : Nat} {d : D} (hd : lk l t = some d) : d.okB ids = true:=by
 induction l with
 | nil=>simp [lk] at hd
 | cons x r ih=>
  obtain ⟨k,e⟩:=x
  simp only [okEnvB,Bool.and_eq_true] at h
  rw [lk_cons] at hd
  by_cases hk : k = t
  · simp only [hk,if_true,Option.some.injEq] at hd; subst hd; exact h.1
  · simp only [hk,if_false] at hd; exact ih h.2 hd
theorem okBx_get {ids : List Nat} {l : List (Nat × Bx)} (h : okBx ids l = true) {t : Nat} {b : Bx} (hd : lk l t = some b) : ∃ d,b = .var d /\ d.okB ids = true:=by
 induction l with
 | nil=>simp [lk] at hd
 | cons x r ih=>
  obtain ⟨k,e⟩:=x
  cases e with
  | mp=>simp [okBx] at h
  | var e=>
   simp only [okBx,Bool.and_eq_true] at h
   rw [lk_cons] at hd
   by_cases hk : k = t
   · simp only [hk,if_true,Option.some.injEq] at hd; subst hd; exact ⟨e,rfl,h.1⟩
   · simp only [hk,if_false] at hd; exact ih h.2 hd
theorem W.dropB {c : Code} {Q : Exit -> Sg -> Prop} (ids : List Nat) {bx' : List (Nat × Bx)} (hb : keepB ids σ.bx = bx') (he : okEnvB ids σ.env = true) (hx : okBx ids bx' = true) (hpn : ∀ id b,C.pin id = some b -> memB ids id = true) (h : W P C c Q ⟨σ.n,σ.env,bx'⟩) : W P C c Q σ:=by
 intro a w ⟨ρ,Fe,Fb,st⟩
 refine h a w ?_
 have hl : ∀ u,lk bx' u = if memB ids u then σ.box u else none:=fun u=>by rw [<- hb]; exact lk_keepB ids σ.bx u
 have hsub : ∀ id,∀ b ∈ (if memB ids id then Fb id else []),b ∈ Fb id:=fun id b hm=>by split at hm; exact hm; cases hm
 have hown : ∀ b,own Fe (fun id=>if memB ids id then Fb id else []) b -> own Fe Fb b:=fun b hb=>hb.imp id fun ⟨i,hi⟩=>⟨i,hsub i b hi⟩
 have hgd : ∀ b,gd C Fe Fb b -> gd C Fe (fun id=>if memB ids id then Fb id else []) b:=fun b hb=>⟨hb.1,fun hc=>hb.2 (hown b hc)⟩
 have hL : ∀ id,(memB ids id = true /\ (σ.box id).isSome) -> (lk bx' id).isSome:=fun id ⟨h1,h2⟩=>by rw [hl,if_pos h1]; exact h2
 exact ⟨ρ,Fe,(fun id=>if memB ids id then Fb id else []),{
  size:=st.size
  defs:=st.defs
  pin:=fun id b hp=>⟨(st.pin id b hp).1,hL id ⟨hpn id b hp,(st.pin id b hp).2⟩⟩
  env:=fun t d hd=>(st.env t d hd).okB (okEnvB_get he hd) (fun b hb _=>hgd b hb) hL
  envN:=st.envN
  bx:=fun id b hd=>by
   obtain ⟨d,rfl,hok⟩:=okBx_get hx hd
   have h1:=hl id
   by_cases hm : memB ids id = true
   · rw [if_pos hm] at h1
     have h2 : σ.box id = some (.var d):=by rw [<- h1]; exact hd
     obtain ⟨cs,e,F',h3,h4,h5⟩:=st.bx id _ h2
     refine ⟨cs,e,F',h3,(h4.okB hok).mono (fun _ _ _=>rfl) (fun b hb _=>hgd b hb) (fun id hid=>⟨hL id hid,rfl⟩),by simp only [hm,if_true]; exact h5⟩
   · rw [if_neg hm] at h1
     rw [show lk bx' id = some (.var d) from hd] at h1
     cases h1
  bxN:=fun id hn=>by
   have h1:=hl id
   by_cases hm : memB ids id = true
   · rw [if_pos hm] at h1
     simp only [hm,if_true]
     exact st.bxN id (by rw [<- h1]; exact hn)
   · simp [hm]
  nodE:=st.nodE
  nodB:=fun id=>by show (if memB ids id then Fb id else []).Nodup; split; exact st.nodB id; exact List.nodup_nil
  dEE:=st.dEE
  dEB:=fun t id b hb hm=>st.dEB t id b hb (hsub id b hm)
  dBB:=fun id id' hne b hb hm=>st.dBB id id' hne b (hsub id b hb) (hsub id' b hm)
  new:=fun b hb=>st.new b (hown b hb)
  kept:=st.kept
  os:=st.os
  tape:=⟨st.tape.tp,st.tape.dr⟩
  output:=st.output
  grown:=st.grown
  gl:=st.gl
  okN:=st.okN
  okO:=fun b hb=>st.okO b (hown b hb) }⟩
theorem pin_sub {C : Ctx} {pins ids : List Nat} (h : ∀ id b,C.pin id = some b -> memN pins id = true) (hs : pins.all (memB ids) = true) : ∀ id b,C.pin id = some b -> memB ids id = true:=fun id b hp=>by
 have h1:=h id b hp
 simp only [memN,List.any_eq_true] at h1
 obtain ⟨x,hx,he⟩:=h1
 have:=List.all_eq_true.1 hs x hx
 rw [Nat.eq_of_beq_eq_true he]
 exact this
end Go.Sx

namespace Go.Sx
variable {P : Program} {C : Ctx} {σ σ' σ1 : Sg} {a : Act} {w w' : World} {ρ : Nat -> Nat} {Fe Fe' Fb : Nat -> List Nat}
theorem R.mkmap {t ty rt : TypeId} {pos : String} {aft : Array Edge} {g : Option (Nat × Bool)} (hid : σ.box t = none) (ht : t < σ.n) :
 OpS P C ⟨some t,.makeMap ty none,rt,pos,aft,g⟩ σ ((σ.newB t (.mp [])).set t (.map t)):=by
 refine OpS.value fun a w ⟨ρ,Fe,Fb,st⟩=>?_
 refine ⟨.map (some w.heap.size),w.alloc (.map #[] 0), ?_, ?_⟩
 · unfold execOp
   simp [Instr.makeMap,newObj,Sem.run]
 · have h1:=st.newB (id:=t) (x:=.mp []) (o:=.map #[] 0) hid ⟨rfl,#[],0,heap_alloc_new w _,⟨rfl,rfl⟩,fun k hk=>by simp at hk⟩
   have h2:=h1.put (t:=t) (d:=.map t) (v:=.map (some w.heap.size)) (by simpa using ht) rfl (by
    simp only [VR,D.isAgg,Bool.false_eq_true,if_false]
    have:=Rc.map (w:=w.alloc (.map #[] 0)) (ρ:=updR ρ t w.heap.size) (G:=gd C Fe (upd Fb t [w.heap.size])) (L:=fun i=>((σ.newB t (.mp [])).box i).isSome) t (by simp [box_newB])
    simpa using this)
   exact h2
theorem map_slot {p id : Nat} (st : StW C σ a w ρ Fe Fb) (h : σ.get p = some (.map id)) : a.tmps[p]? = some (.map (some (ρ id))):=by
 obtain ⟨v,hv,hr⟩:=(SR_plain rfl).1 (st.env _ _ h)
 simp only [VR,D.isAgg,Bool.false_eq_true,if_false] at hr
 generalize Fe p = F at hr
 cases hr
 exact hv
end Go.Sx

namespace Go.Sx
variable {P : Program} {C : Ctx} {σ σ' σ1 : Sg} {a : Act} {w w' : World} {ρ : Nat -> Nat} {Fe Fe' Fb : Nat -> List Nat}
variable {pos : String} {aft : Array Edge} {g : Option (Nat × Bool)} {t ty xt yt rt : TypeId}
theorem eqGuard_slice (P : Program) (w : World) (op : BinOp) (t : TypeId) (x y : Operand) (b : Option Addr) (n c : Nat) (v : Value) : (eqGuard op t x y (.slice b n c) v).run P w = .ok () w:=by
 cases op <;> rfl
theorem run_eq_nil {e : TypeId} (hT : P.underlying xt = some (.slice e)) (b : Option Addr) (n c : Nat) (w : World) :
 (binOp .eql xt (.slice b n c) (.slice none 0 0)).run P w = .ok (.bool b.isNone) w:=by
 have h1 : ∀ d,(Op.equalIn (d + 1) xt (.slice b n c) (.slice none 0 0)).run P w = .ok b.isNone w:=fun d=>by
  cases b <;> simp [Op.equalIn,run_underlying hT]
 have h2 : (Op.equal xt (.slice b n c) (.slice none 0 0)).run P w = .ok b.isNone w:=h1 9999
 simp only [binOp,Sem.run_bind,h2,Result.andThen_ok,Sem.run_pure]
theorem run_eq_nil_op {e : TypeId} (hT : P.underlying xt = some (.slice e)) {s : Nat} {b : Option Addr} {n c : Nat} (hv : a.tmps[s]? = some (.slice b n c)) :
 (execOp a.eval ⟨some t,.binOp .eql xt (.tmp s) (.const (.slice none 0 0)) yt,rt,pos,aft,g⟩).run P w = .ok (.value (.bool b.isNone)) w:=by
 unfold execOp
 simp only [Sem.run_bind,eval_tmp hv,eqGuard_slice,Result.andThen_ok,Sem.run_pure]
 have : a.eval (.const (.slice none 0 0)) = .slice none 0 0:=rfl
 simp only [this,run_eq_nil hT,Result.andThen_ok]
theorem SC_some (st : StW C σ a w ρ Fe Fb) {s z : Nat} {l : List D} (h : SC σ s z l) (hl : l ≠ []) : ∃ b n c,a.tmps[s]? = some (.slice (some b) n c):=by
 obtain ⟨base,len,cap,hv,hlen,hd⟩:=SC_ok st h
 rcases hd with ⟨h3,h4⟩ | ⟨b,o,cs,e',fz,rfl,_⟩
 · exact absurd (List.length_eq_zero_iff.1 (by omega)) hl
 · exact ⟨_,_,_,hv⟩
theorem R.eqNilF {s z e : Nat} {l : List D} [hT : SlT P xt e] (h : SC σ s z l) (hl : l ≠ []) (ht : t < σ.n) :
 OpS P C ⟨some t,.binOp .eql xt (.tmp s) (.const (.slice none 0 0)) yt,rt,pos,aft,g⟩ σ (σ.set t (.bool false)):=by
 refine OpS.value fun a w ⟨ρ,Fe,Fb,st⟩=>?_
 obtain ⟨b,n,c,hv⟩:=SC_some st h hl
 exact ⟨_,w,run_eq_nil_op hT.u hv,st.put ht rfl (by simp only [VR,D.isAgg,Bool.false_eq_true,if_false]; exact .bool _)⟩
theorem WL.nilq {s z e : Nat} {l : List D} {ops : Array Oper} {r : List Oper} {Q : Exit -> Sg -> Prop} [hT : SlT P xt e] (h : SC σ s z l) (ht : t < σ.n)
 (k : ∀ b : Bool,(l ≠ [] -> b = false) -> WL P C ops r Q (σ.set t (.bool b))) :
 WL P C ops (⟨some t,.binOp .eql xt (.tmp s) (.const (.slice none 0 0)) yt,rt,pos,aft,none⟩ :: r) Q σ:=by
 intro a w hs
 obtain ⟨ρ,Fe,Fb,st⟩:=hs
 obtain ⟨base,len,cap,hv,hlen,hd⟩:=SC_ok st h
 have hb : l ≠ [] -> base.isNone = false:=fun hl=>by
  rcases hd with ⟨h3,h4⟩ | ⟨b,o,cs,e',fz,rfl,_⟩
  · exact absurd (List.length_eq_zero_iff.1 (by omega)) hl
  · rfl
 refine wpListIn_plain rfl fun K hK=>?_
 refine wpIn_of_run (run_eq_nil_op (t:=t) (yt:=yt) (rt:=rt) (pos:=pos) (aft:=aft) (g:=none) hT.u hv) (by simp) ?_
 exact hK _ _ (k base.isNone hb _ _ (st.put ht rfl (by simp only [VR,D.isAgg,Bool.false_eq_true,if_false]; exact .bool _)))
theorem R.cvS {s e : Nat} {xs : List UInt8} {src dst : TypeId} [hT : SlT P src e] [hk : IkT P e .u8] [hS : StT P dst] (h : SC σ s 1 (xs.map D.u8)) (ht : t < σ.n) :
 OpS P C ⟨some t,.convert src dst (.tmp s),rt,pos,aft,g⟩ σ (σ.set t (.str xs)):=by
 refine OpS.value fun a w ⟨ρ,Fe,Fb,st⟩=>?_
 obtain ⟨base,len,cap,hv,hlen,hd⟩:=SC_ok st h
 have hlen' : len = xs.length:=by simpa using hlen
 subst hlen'
 have key : (convert src dst (.slice base xs.length cap)).run P w = .ok (.string ⟨xs.toArray⟩) w:=by
  have hcell : ∀ ad,base = some ad -> ∀ j (hj : j < xs.length),w.cell? (ad.add j) = some (.int .u8 (xs[j].toNat : Int)):=by
   rintro ad rfl j hj
   rcases hd with ⟨h3,h4⟩ | ⟨b,o,cs,e',fz,hba,hb,hc,hs,hr⟩
   · omega
   · simp only [Option.some.injEq] at hba
     subst hba
     rw [add_lit,cell_of_row w b _ cs e' fz hb]
     obtain ⟨F,hF⟩:=hr j (by simpa using hj)
     simp only [List.getElem_map,Nat.mul_one] at hF hs
     have hlt : o + j < cs.size:=by omega
     rw [List.drop_eq_getElem_cons (by simpa using hlt),List.take_succ_cons,List.take_zero] at hF
     rw [Array.getElem?_eq_getElem hlt,<- Array.getElem_toList]
     generalize cs.toList[o + j] = vv at hF
     cases hF
     rfl
  cases base with
  | some ad=>exact run_convert_bytes_back w src dst e ad cap xs hT.u hk.u hS.u (hcell ad rfl)
  | none=>
   have h0 : xs = []:=by
    rcases hd with ⟨h3,h4⟩ | ⟨b,o,cs,e',fz,hba,_⟩
    · exact List.length_eq_zero_iff.1 h3
    · cases hba
   subst h0
   simp [convert,run_underlying hT.u,run_underlying hS.u,run_underlying hk.u,Conv.bytesToString]
   rfl
 refine ⟨.string ⟨xs.toArray⟩,w, ?_,st.put ht rfl (by simp only [VR,D.isAgg,Bool.false_eq_true,if_false]; exact .str xs)⟩
 unfold execOp
 simp [eval_tmp hv,key]
theorem nil_of {α : Type} {f : α -> D} {b : List α} {x : Bool} (h : b.map f ≠ [] -> x = false) (hc : x = true) : b = []:=by
 cases b with
 | nil=>rfl
 | cons y r=>have:=h (by simp); rw [this] at hc; cases hc
theorem pur_part {α : Type} {f : α -> D} {l : List α} {a n : Nat} (h : ∀ x,(f x).pur = true) : ∀ y ∈ ((l.map f).drop a).take n,y.pur = true:=fun y hy=>by
 obtain ⟨x,_,rfl⟩:=List.mem_map.1 (List.mem_of_mem_drop (List.mem_of_mem_take hy))
 exact h x
class BoT (P : Program) (t : TypeId) : Prop where
 u : P.underlying t = some .bool
end Go.Sx

namespace Go.Sx
variable {P : Program} {C : Ctx} {σ σ' σ1 : Sg} {a : Act} {w w' : World} {ρ : Nat -> Nat} {Fe Fe' Fb : Nat -> List Nat}
section
variable {rd : Option Nat} {ι : Type} {A : ι -> Act -> World -> Prop} {Q : Exit -> ι -> Prop} {i : ι}
end
abbrev Yt:=Nat -> Bool -> (Nat -> Prop) -> World -> Prop
structure Rel (gl : List (Nat × D)) (κ : Type) where
 ids : List Nat
 r : κ -> Ctx -> Prop
 gl : ∀ {m C},r m C -> C.gl = gl
 rd : ∀ {m C},r m C -> C.rd = none
 pin : ∀ {m C},r m C -> ∀ id b,C.pin id = some b -> memN ids id = true
section
variable {gl : List (Nat × D)} {κ : Type} {R : Rel gl κ} {m : κ}
end
section
variable {gl : List (Nat × D)} {G : Nat -> Prop} {Y : Yt} {k : Nat} {s : Bool} {ids : List Nat} {pn : Nat -> Option Nat}
end
end Go.Sx

namespace Go.Sx
variable {P : Program} {C : Ctx} {σ σ' σ1 : Sg} {a : Act} {w w' : World} {ρ : Nat -> Nat} {Fe Fe' Fb : Nat -> List Nat}
section
variable {gl : List (Nat × D)} {W0 : World} {G : Nat -> Prop} {m : Bool}
end
end Go.Sx

namespace Go.Sx
variable {P : Program} {C : Ctx} {σ σ' σ1 : Sg} {a : Act} {w w' : World} {ρ : Nat -> Nat} {Fe Fe' Fb : Nat -> List Nat}
variable {gl : List (Nat × D)} {W0 : World} {G : Nat -> Prop}
end Go.Sx

namespace Go.Sx
variable {pos : String} {aft : Array Edge} {g : Option (Nat × Bool)}
variable {P : Program} {C : Ctx} {σ σ' σ1 : Sg} {a : Act} {w w' : World} {ρ : Nat -> Nat} {Fe Fe' Fb : Nat -> List Nat}
theorem R.ext {s t k : Nat} {ds : List D} {d : D} {rt : TypeId}
 (h : σ.get s = some (.tup ds)) (hk : ds[k]? = some d) (hp : d.pur = true) (ht : t < σ.n) : OpS P C ⟨some t,.extract (.tmp s) k,rt,pos,aft,g⟩ σ (σ.set t d):=by
 refine OpS.value fun a w ⟨ρ,Fe,Fb,st⟩=>?_
 obtain ⟨vs,Fs,h1,h2,h3,h4⟩:=st.env s _ h
 obtain ⟨hkl,hkd⟩:=List.getElem?_eq_some_iff.1 hk
 rcases h4 k hkl with ⟨h5,_⟩ | ⟨h5,h6⟩
 · rw [hkd] at h5; subst h5; simp [D.pur] at hp
 · rw [hkd] at h5 h6
   have hF:=h6.pur hp
   rw [hF] at h6
   have hv : vs[k]? = some (vs.getD k undef):=by
    have : k < vs.length:=by omega
    rw [List.getD_eq_getElem?_getD,List.getElem?_eq_getElem this]; rfl
   refine ⟨vs.getD k undef,w, ?_,st.put ht h5 h6⟩
   generalize vs.getD k undef = x at hv
   have hx : vs.toArray[k]? = some x:=by rw [List.getElem?_toArray]; exact hv
   unfold execOp
   simp only [Instr.extract,eval_tmp h1,hx,Sem.run_bind,Sem.run_pure,Result.andThen_ok]
theorem R.movT {s t : Nat} {ds : List D} {rt : TypeId}
 (h : σ.get s = some (.tup ds)) (hp : D.purs ds = true) (ht : t < σ.n) : OpS P C ⟨some t,.move (.tmp s),rt,pos,aft,g⟩ σ (σ.set t (.tup ds)):=by
 refine OpS.value fun a w ⟨ρ,Fe,Fb,st⟩=>?_
 obtain ⟨vs,Fs,h1,h2,h3,h4⟩:=st.env s _ h
 refine ⟨_,w,rfl,st.putRef ht ?_⟩
 rw [eval_tmp h1]
 refine ⟨vs,fun _=>[], ?_,h2, ?_,fun k hk=>?_⟩
 · rw [put_get a t _ t (by rw [st.size]; exact ht)]; simp
 · symm; rw [List.flatMap_eq_nil_iff]; intros; rfl
 · have hpk:=purs_get ds hp k hk
   rcases h4 k hk with ⟨h5,_⟩ | ⟨h5,h6⟩
   · rw [h5] at hpk; simp [D.pur] at hpk
   · have hF:=h6.pur hpk
     rw [hF] at h6
     exact .inr ⟨h5,h6.mono (fun _ _ _=>rfl) (fun b hb _=>⟨hb.1,fun ho=>hb.2 (own_upd ho)⟩) (fun id hid=>⟨hid,rfl⟩)⟩
theorem R.mkfn {t f : Nat} {xs : List Operand} {ds : List D} {rt : TypeId} (hl : xs.length = ds.length)
 (h : ∀ k (h : k < xs.length) (h' : k < ds.length),ev C.gl σ xs[k] = some ds[k] /\ ds[k].pur = true /\ ds[k].isAgg = false) (ht : t < σ.n) :
 OpS P C ⟨some t,.makeFunc (.func f) #[] xs.toArray,rt,pos,aft,g⟩ σ (σ.set t (.fn f ds)):=by
 refine OpS.value fun a w ⟨ρ,Fe,Fb,st⟩=>?_
 refine ⟨.func (.func f) #[] (xs.map a.eval).toArray,w, ?_,st.put ht rfl ?_⟩
 · unfold execOp
   simp [Instr.makeFunc]
 · simp only [VR,D.isAgg,Bool.false_eq_true,if_false]
   refine .fn f ds (xs.map a.eval) (by simp [hl]) (fun k hk=>(h k (by omega) hk).2.2) (fun k hk=>?_)
   obtain ⟨h1,h2,h3⟩:=h k (by omega) hk
   obtain ⟨F,hv,_⟩:=ev_ok st h1 (pur_ref h2)
   have hF:=hv.pur h2
   rw [hF] at hv
   simp only [VR,h3,Bool.false_eq_true,if_false] at hv
   have e : (xs.map a.eval).getD k undef = a.eval xs[k]:=by
    have : k < xs.length:=by omega
    simp [List.getD_eq_getElem?_getD,this]
   rw [e]
   exact hv
theorem R.mkfn1 {t f : Nat} {x : Operand} {d : D} {rt : TypeId} (h : ev C.gl σ x = some d) (hp : d.pur = true) (ha : d.isAgg = false) (ht : t < σ.n) :
 OpS P C ⟨some t,.makeFunc (.func f) #[] #[x],rt,pos,aft,g⟩ σ (σ.set t (.fn f [d])):=by
 refine R.mkfn (xs:=[x]) rfl (fun k h1 h2=>?_) ht
 have : k = 0:=by simp at h1; omega
 subst this
 exact ⟨h,hp,ha⟩
theorem St.frzS {s : Nat} {d d' : D} (h : σ.get s = some d) (hr : d.isRef = false) (he : d.brw = d') (hs : St C σ a w) : St C (σ.upd s d') a w:=by
 obtain ⟨ρ,Fe,Fb,st⟩:=hs
 subst he
 obtain ⟨v,hv,hvr⟩:=(SR_plain hr).1 (st.env _ _ h)
 refine ⟨ρ,_,Fb,st.turn (F:=[]) h rfl ⟨rfl,Nat.le_refl _⟩ rfl (Nat.le_refl _) (fun _ _ _=>rfl) List.nodup_nil (by simp) ((SR_plain (by rw [isRef_brw]; exact hr)).2 ⟨v,hv, ?_⟩)⟩
 have hno : ∀ b,Go.Sx.own (Go.Sx.upd Fe s []) Fb b -> Go.Sx.own Fe Fb b /\ b ∉ Fe s:=by
  rintro b (⟨u,hu⟩ | ⟨i,hi⟩)
  · by_cases hus : u = s
    · subst hus; simp at hu
    · rw [upd_other hus] at hu; exact ⟨.inl ⟨u,hu⟩,st.dEE u s hus b hu⟩
  · exact ⟨.inr ⟨i,hi⟩,fun hm=>st.dEB s i b hm hi⟩
 exact hvr.brw (fun b hb=>⟨st.okO b (.inl ⟨s,hb⟩),fun ho=>(hno b ho).2 hb⟩) (fun b hb _=>⟨hb.1,fun ho=>hb.2 (hno b ho).1⟩)
theorem W.frzS {c : Code} {Q : Exit -> Sg -> Prop} {s : Nat} {d d' : D} (h : σ.get s = some d) (hr : d.isRef = false) (he : d.brw = d') (k : W P C c Q (σ.upd s d')) : W P C c Q σ:=
 fun a w hs=>k a w (St.frzS h hr he hs)
theorem OpS.pre {o : Oper} {σ0 : Sg} (h : ∀ a w,St C σ a w -> St C σ0 a w) (k : OpS P C o σ0 σ') : OpS P C o σ σ':=fun a w hs=>k a w (h a w hs)
theorem St.viewB {id : Nat} {d d' : D} (hb : σ.box id = some (.var d)) (h : ∀ (w : World) (ρ : Nat -> Nat) (G L : Nat -> Prop) (cs : List Value) (F : List Nat),Rc w ρ G L true d cs F -> Rc w ρ G L true d' cs F) (hs : St C σ a w) :
 St C { σ with bx:=setb id (.var d') σ.bx } a w:=by
 obtain ⟨ρ,Fe,Fb,st⟩:=hs
 have hbox : ∀ i,(({ σ with bx:=setb id (.var d') σ.bx } : Sg).box i) = if i = id then some (.var d') else σ.box i:=fun i=>by
  show lk (setb id (.var d') σ.bx) i = _
  rw [lk_setb]
  by_cases hi : i = id
  · subst hi
    have : lk σ.bx i = some (.var d):=hb
    simp [this]
  · simp [hi]; rfl
 have hiso : ∀ i,(({ σ with bx:=setb id (.var d') σ.bx } : Sg).box i).isSome = (σ.box i).isSome:=fun i=>by
  rw [hbox]; by_cases hi : i = id
  · subst hi; simp [hb]
  · simp [hi]
 have hfun : (fun i=>(({ σ with bx:=setb id (.var d') σ.bx } : Sg).box i).isSome = true) = fun i=>(σ.box i).isSome = true:=by
  funext i; rw [hiso]
 refine ⟨ρ,Fe,Fb,{
  size:=st.size
  defs:=st.defs
  pin:=fun i b hp=>⟨(st.pin i b hp).1,by rw [hiso]; exact (st.pin i b hp).2⟩
  env:=fun u x hx=>by rw [hfun]; exact st.env u x hx
  envN:=st.envN
  bx:=fun i b hd=>?_
  bxN:=fun i hn=>st.bxN i (by have:=hiso i; rw [hn] at this; simpa using this.symm)
  nodE:=st.nodE
  nodB:=st.nodB
  dEE:=st.dEE
  dEB:=st.dEB
  dBB:=st.dBB
  new:=st.new
  kept:=st.kept
  os:=st.os
  tape:=⟨st.tape.tp,st.tape.dr⟩
  output:=st.output
  grown:=st.grown
  gl:=st.gl
  okN:=st.okN
  okO:=st.okO }⟩
 rw [hfun]
 rw [hbox] at hd
 by_cases hi : i = id
 · subst hi
   simp only [if_true,Option.some.injEq] at hd
   subst hd
   obtain ⟨cs,e,F',q1,q2,q3⟩:=st.bx i _ hb
   exact ⟨cs,e,F',q1,h _ _ _ _ _ _ q2,q3⟩
 · simp only [hi,if_false] at hd
   exact st.bx i b hd
end Go.Sx

namespace Go.Sx
variable {pos : String} {aft : Array Edge} {g : Option (Nat × Bool)}
variable {P : Program} {C : Ctx} {σ σ' σ1 : Sg} {a : Act} {w w' : World} {ρ : Nat -> Nat} {Fe Fe' Fb : Nat -> List Nat}
theorem R.stOZ {p s id off : Nat} {path : List Nat} {d0 d1 d' dx : D} {ty n rt : TypeId} {gg : Bool} [LdT P ty n gg]
 (h : σ.get p = some (.ptr id off path)) (hb : σ.box id = some (.var d0)) (hl : d0.loc path = some (off,d1)) (hx : σ.get s = some dx) (hrf : dx.isRef = false) (hnp : dx.np = true)
 (hn : dx.sz = n) (hz : d1.sz = n) (hu : d0.upd path dx = some d') (hna : d0.noArr path = true) :
 OpS P C ⟨none,.store ty (.tmp p) (.tmp s),rt,pos,aft,g⟩ σ ((σ.kill s).putB id (.var d')):=R.stO h hb hl hx hrf hnp hn (hn.trans hz.symm) hu hna
inductive EvP (gl : List (Nat × D)) (σ : Sg) : List Operand -> List D -> Prop
 | nil : EvP gl σ [] []
 | cons {x : Operand} {d : D} {xs : List Operand} {ds : List D} (h : ev gl σ x = some d) (hp : d.pur = true) (hn : d.np = true) (t : EvP gl σ xs ds) : EvP gl σ (x :: xs) (d :: ds)
theorem EvP.len {gl : List (Nat × D)} {xs : List Operand} {ds : List D} (h : EvP gl σ xs ds) : xs.length = ds.length:=by
 induction h with
 | nil=>rfl
 | cons _ _ _ _ ih=>simp [ih]
theorem EvP.ok {gl : List (Nat × D)} {xs : List Operand} {ds : List D} (h : EvP gl σ xs ds) : ∀ k (h : k < xs.length) (h' : k < ds.length),ev gl σ xs[k] = some ds[k] /\ ds[k].pur = true /\ ds[k].np = true:=by
 induction h with
 | nil=>intro k hk; simp at hk
 | cons h hp hn t ih=>
  intro k hk hk'
  cases k with
  | zero=>exact ⟨h,hp,hn⟩
  | succ k=>simpa using ih k (by simpa using hk) (by simpa using hk')
theorem R.callPE {f : FuncId} [CaT P f] {t : Nat} {args : List Operand} {tys : Array TypeId} {rt : TypeId} {gl : List (Nat × D)} {ds : List D} {r : D}
 (hC : C.gl = gl) (hF : Fn P gl f ds r) (hb : EvP C.gl σ args ds) (ht : t < σ.n) :
 OpS P C ⟨some t,.call { callee:=.value (.func f),args:=args.toArray,argTypes:=tys },rt,pos,aft,g⟩ σ (σ.set t r):=by
 subst hC
 exact R.callP hF hb.len hb.ok ht
theorem FrsR.two {x y : D} (h1 : Frs x) (h2 : Frs y) : FrsR (.tup [x,y]):=.inl ⟨_,rfl,fun d hd=>by
 rcases List.mem_cons.1 hd with rfl | hd
 · exact h1
 · rw [List.mem_singleton.1 hd]; exact h2⟩
inductive EndL (P : Program) (σ : Sg) : List ResultVar -> List D -> Prop
 | nil : EndL P σ [] []
 | cons {rv : ResultVar} {d : D} {rs : List ResultVar} {ds : List D} (h : outS σ rv = some d) (h1 : d.isRef = false) (h2 : d.np = true) (h3 : RtT P d rv) (t : EndL P σ rs ds) : EndL P σ (rv :: rs) (d :: ds)
theorem EndL.len {rs : List ResultVar} {ds : List D} (h : EndL P σ rs ds) : ds.length = rs.length:=by
 induction h with
 | nil=>rfl
 | cons _ _ _ _ _ ih=>simp [ih]
theorem EndL.ok {rs : List ResultVar} {ds : List D} (h : EndL P σ rs ds) : ∀ k (h : k < rs.length) (h' : k < ds.length),outS σ rs[k] = some ds[k] /\ ds[k].isRef = false /\ ds[k].np = true /\ RtT P ds[k] rs[k]:=by
 induction h with
 | nil=>intro k hk; simp at hk
 | cons h h1 h2 h3 t ih=>
  intro k hk hk'
  cases k with
  | zero=>exact ⟨h,h1,h2,h3⟩
  | succ k=>simpa using ih k (by simpa using hk) (by simpa using hk')
theorem Ends.many {r1 r2 : ResultVar} {rs : List ResultVar} {ds ds' : List D} {e : Exit} (he : e = .normal ∨ e = .ret) (h : EndL P σ (r1 :: r2 :: rs) ds') (hd : ds' = ds) (hn : ((r1 :: r2 :: rs).map (srcS σ)).Nodup) : Ends (r1 :: r2 :: rs) P (.tup ds) e σ:=by
 subst hd
 exact ⟨he,_,rfl,h.len,hn,h.ok⟩
end Go.Sx

namespace Go.Sx
variable {P : Program} {C : Ctx} {σ σ' σ1 σ2 : Sg} {a : Act} {w w' : World} {ρ ρ2 : Nat -> Nat} {Fe Fe' Fb Fb2 : Nat -> List Nat}
structure ExtO (O : Nat -> Prop) (w w' : World) : Prop where
 os : w'.os = w.os
 tape : TpR w' w
 output : w'.output = w.output
 size : w.heap.size <= w'.heap.size
 block : ∀ b,b < w.heap.size -> ¬ O b -> w'.heap[b]? = w.heap[b]?
def Ctx.less (C : Ctx) (F : List Nat) : Ctx:={ C with ok:=fun b=>C.ok b /\ b ∉ F }
theorem SR_lend {G G' L L' : Nat -> Prop} {u : Nat} {d : D} {F : List Nat} (h : SR w ρ G L a u d F)
 (hh : ∀ b,(G b ∨ b ∈ F) -> b < w.heap.size -> w'.heap[b]? = w.heap[b]?) (hg : ∀ b,G b -> b < w.heap.size -> G' b) (hL : ∀ i,L i -> L' i /\ ρ2 i = ρ i)
 (hc : ∀ i off path,d = .alb i off path -> L i -> w'.heap[ρ i]? = w.heap[ρ i]?) : SR w' ρ2 G' L' a u d F:=by
 cases d with
 | al s=>exact h
 | alb i off path=>
  obtain ⟨hF,hid,x,hx,hs⟩:=h
  obtain ⟨q1,q2⟩:=hL i hid
  exact ⟨hF,q1,x,hx,by rw [q2,<- hs]; exact World.cell?_of_block (hc i off path rfl hid)⟩
 | vw s z lo n=>exact h
 | va i off z n path lo=>
  obtain ⟨hF,hid,h3⟩:=h
  obtain ⟨q1,q2⟩:=hL i hid
  exact ⟨hF,q1,by rw [q2]; exact h3⟩
 | ep s z i off path=>exact h
 | tup ds=>
  obtain ⟨vs,Fs,h1,h2,h3,h4⟩:=h
  refine ⟨vs,Fs,h1,h2,h3,fun k hk=>(h4 k hk).imp (fun hx=>hx) fun hx=>⟨hx.1,hx.2.mono (fun b hb=>hh b (hb.imp (fun hx=>hx) fun hm=>?_)) hg hL⟩⟩
  rw [h3]; exact List.mem_flatMap.2 ⟨k,List.mem_range.2 hk,hm⟩
 | dead=>exact h
 | _=>obtain ⟨x,hx,hr⟩:=h; exact ⟨x,hx,hr.mono hh hg hL⟩
theorem StW.lend (st : StW C σ a w ρ Fe Fb) {F : List Nat} {lent new : Nat -> Prop} (hw : ExtO (fun b=>∃ id,lent id /\ b ∈ Fb id) w w')
 (hn : σ2.n = σ.n) (hρ : ∀ id,(σ.box id).isSome = true -> ρ2 id = ρ id) (hlent : ∀ id,lent id -> (σ.box id).isSome = true)
 (hget : ∀ u d,σ2.get u = some d -> ∃ d0,σ.get u = some d0 /\ (d = d0 /\ (∀ id off path,d0 = .alb id off path -> ¬ lent id) ∨ d = .dead /\ ∃ id off path,d0 = .alb id off path))
 (hgetN : ∀ u,σ2.get u = none -> σ.get u = none)
 (hbox : ∀ id,¬ (lent id ∨ new id) -> σ2.box id = σ.box id /\ Fb2 id = Fb id) (hboxS : ∀ id,(lent id ∨ new id) -> (σ2.box id).isSome = true)
 (hbx : ∀ id x,σ2.box id = some x -> (lent id ∨ new id) -> BR w' ρ2 (gd (C.less F) Fe Fb2) (fun i=>(σ2.box i).isSome) (ρ2 id) x (Fb2 id))
 (hnod : ∀ id,(lent id ∨ new id) -> (Fb2 id).Nodup) (hdis : ∀ id id',(lent id ∨ new id) -> (lent id' ∨ new id') -> id ≠ id' -> ∀ b,b ∈ Fb2 id -> b ∉ Fb2 id')
 (hsrc : ∀ id b,(lent id ∨ new id) -> b ∈ Fb2 id -> (w.heap.size <= b ∨ ∃ i,lent i /\ b ∈ Fb i) /\ b ∉ F)
 (hF : ∀ b ∈ F,w.heap.size <= b ∨ ∃ i,lent i /\ b ∈ Fb i) (hFl : ∀ b ∈ F,b < w'.heap.size) : StW (C.less F) σ2 a w' ρ2 Fe Fb2:=by
 have hlt:=st.lt
 have hlo : ∀ b,(∃ i,lent i /\ b ∈ Fb i) -> own Fe Fb b:=fun b ⟨i,_,hi⟩=>.inr ⟨i,hi⟩
 have hown : ∀ b,own Fe Fb2 b -> (own Fe Fb b ∨ w.heap.size <= b):=by
  rintro b (h | ⟨id,hid⟩)
  · exact .inl (.inl h)
  · by_cases ht : lent id ∨ new id
    · rcases (hsrc id b ht hid).1 with h | h
      · exact .inr h
      · exact .inl (hlo b h)
    · rw [(hbox id ht).2] at hid; exact .inl (.inr ⟨id,hid⟩)
 have hunF : ∀ u b,b ∈ Fe u -> b < w.heap.size -> w'.heap[b]? = w.heap[b]?:=fun u b hb hl=>hw.block b hl (fun ⟨i,_,hi⟩=>st.dEB u i b hb hi)
 have hung : ∀ b,gd C Fe Fb b -> b < w.heap.size -> w'.heap[b]? = w.heap[b]?:=fun b hb hl=>hw.block b hl (fun h=>hb.2 (hlo b h))
 have hunB : ∀ id b,¬ lent id -> b ∈ Fb id -> b < w.heap.size -> w'.heap[b]? = w.heap[b]?:=fun id b hn hb hl=>hw.block b hl (fun ⟨i,hi,hb'⟩=>st.dBB i id (fun e=>hn (e ▸ hi)) b hb' hb)
 have hg : ∀ b,gd C Fe Fb b -> b < w.heap.size -> gd (C.less F) Fe Fb2 b:=fun b hb hl=>by
  refine ⟨⟨hb.1,fun hm=>?_⟩,fun ho=>?_⟩
  · rcases hF b hm with h | h
    · omega
    · exact hb.2 (hlo b h)
  · rcases hown b ho with h | h
    · exact hb.2 h
    · omega
 have hL : ∀ i,(σ.box i).isSome = true -> (σ2.box i).isSome = true /\ ρ2 i = ρ i:=fun i hi=>by
  refine ⟨?_,hρ i hi⟩
  by_cases ht : lent i ∨ new i
  · exact hboxS i ht
  · rw [(hbox i ht).1]; exact hi
 refine { size:=by rw [hn]; exact st.size,defs:=st.defs,pin:=fun id b hp=>?_,env:=fun u d hd=>?_,envN:=fun u hu=>st.envN u (hgetN u hu),bx:=fun id x hx=>?_,bxN:=fun id hx=>?_,nodE:=st.nodE,nodB:=fun id=>?_,dEE:=st.dEE,dEB:=fun u id b hb hb'=>?_,dBB:=fun id id' hne b hb hb'=>?_,new:=fun b hb hk=>?_,kept:=fun b hk=>?_,os:=hw.os.trans st.os,tape:=hw.tape.trans st.tape,output:=hw.output.trans st.output,grown:=Nat.le_trans st.grown hw.size,gl:=fun g d hgd=>?_,okN:=fun b hb=>?_,okO:=fun b hb=>?_ }
 · obtain ⟨h1,h2⟩:=st.pin id b hp
   obtain ⟨h3,h4⟩:=hL id h2
   exact ⟨h4.trans h1,h3⟩
 · obtain ⟨d0,h0,h1⟩:=hget u d hd
   have hs:=st.env u d0 h0
   rcases h1 with ⟨rfl,h1⟩ | ⟨rfl,id,off,path,rfl⟩
   · refine SR_lend hs (fun b hb hl=>hb.elim (fun h=>hung b h hl) (fun h=>hunF u b h hl)) hg hL (fun i off path he hi=>?_)
     cases hbi : σ.box i with
     | none=>rw [hbi] at hi; cases hi
     | some x=>
      have hm:=(st.bx i x hbi).mem
      exact hunB i _ (h1 i off path he) hm (hlt _ (.inr ⟨i,hm⟩))
   · obtain ⟨hF0,hid,v,hv,_⟩:=hs
     exact ⟨hF0,v,hv⟩
 · by_cases ht : lent id ∨ new id
   · exact hbx id x hx ht
   · obtain ⟨q1,q2⟩:=hbox id ht
     rw [q1] at hx
     rw [q2,hρ id (by rw [hx]; rfl)]
     exact (st.bx id x hx).mono (fun b hb hl=>hb.elim (fun h=>hung b h hl) (fun h=>hunB id b (fun hl'=>ht (.inl hl')) h hl)) hg hL
 · by_cases ht : lent id ∨ new id
   · have:=hboxS id ht; rw [hx] at this; cases this
   · obtain ⟨q1,q2⟩:=hbox id ht
     rw [q2]; exact st.bxN id (by rw [<- q1]; exact hx)
 · by_cases ht : lent id ∨ new id
   · exact hnod id ht
   · rw [(hbox id ht).2]; exact st.nodB id
 · by_cases ht : lent id ∨ new id
   · rcases (hsrc id b ht hb').1 with h | ⟨i,hi,hbi⟩
     · have:=hlt b (.inl ⟨u,hb⟩); omega
     · exact st.dEB u i b hb hbi
   · rw [(hbox id ht).2] at hb'; exact st.dEB u id b hb hb'
 · by_cases ht : lent id ∨ new id
   · by_cases ht' : lent id' ∨ new id'
     · exact hdis id id' ht ht' hne b hb hb'
     · rw [(hbox id' ht').2] at hb'
       rcases (hsrc id b ht hb).1 with h | ⟨i,hi,hbi⟩
       · have:=hlt b (.inr ⟨id',hb'⟩); omega
       · exact st.dBB i id' (fun e=>ht' (.inl (e ▸ hi))) b hbi hb'
   · rw [(hbox id ht).2] at hb
     by_cases ht' : lent id' ∨ new id'
     · rcases (hsrc id' b ht' hb').1 with h | ⟨i,hi,hbi⟩
       · have:=hlt b (.inr ⟨id,hb⟩); omega
       · exact st.dBB i id (fun e=>ht (.inl (e ▸ hi))) b hbi hb
     · rw [(hbox id' ht').2] at hb'
       exact st.dBB id id' hne b hb hb'
 · rcases hown b hb with h | h
   · exact st.new b h hk
   · have:=(st.kept b hk).2; have:=st.grown; omega
 · obtain ⟨h1,h2⟩:=st.kept b hk
   exact ⟨(hw.block b (Nat.lt_of_lt_of_le h2 st.grown) (fun h=>st.new b (hlo b h) hk)).trans h1,h2⟩
 · obtain ⟨h1,h2,h3⟩:=st.gl g d hgd
   refine ⟨h1,⟨h2,fun hm=>?_⟩,h3⟩
   rcases hF g hm with h | h
   · have:=(st.kept g h1).2; have:=st.grown; omega
   · exact st.new g (hlo g h) h1
 · refine ⟨st.okN b (Nat.le_trans hw.size hb),fun hm=>?_⟩
   have:=hFl b hm; omega
 · have hk : C.ok b:=by
    rcases hown b hb with h | h
    · exact st.okO b h
    · exact st.okN b h
   refine ⟨hk,fun hm=>?_⟩
   rcases hb with ⟨u,hu⟩ | ⟨id,hid⟩
   · rcases hF b hm with h | ⟨i,hi,hbi⟩
     · have:=hlt b (.inl ⟨u,hu⟩); omega
     · exact st.dEB u i b hu hbi
   · by_cases ht : lent id ∨ new id
     · exact (hsrc id b ht hid).2 hm
     · rw [(hbox id ht).2] at hid
       rcases hF b hm with h | ⟨i,hi,hbi⟩
       · have:=hlt b (.inr ⟨id,hid⟩); omega
       · exact st.dBB i id (fun e=>ht (.inl (e ▸ hi))) b hbi hid
theorem StW.adopt {t : Nat} {d : D} {v : Value} {F : List Nat} (h : StW (C.less F) σ a w ρ Fe Fb) (ht : t < σ.n) (hF : F.Nodup) (hdE : ∀ u,∀ b ∈ F,b ∉ Fe u) (hdB : ∀ id,∀ b ∈ F,b ∉ Fb id)
 (hk : ∀ b ∈ F,¬ C.keep b) (hok : ∀ b ∈ F,C.ok b) (hv : SR w ρ (gd C (upd Fe t F) Fb) (fun id=>(σ.box id).isSome) (a.put (some t) v) t d F) :
 StW C (σ.set t d) (a.put (some t) v) w ρ (upd Fe t F) Fb:=by
 have hsz : t < a.tmps.size:=by rw [h.size]; exact ht
 have hlt:=h.lt
 have hg : ∀ b,gd (C.less F) Fe Fb b -> b < w.heap.size -> gd C (upd Fe t F) Fb b:=by
  rintro b ⟨⟨hok,hnF⟩,hb⟩ hlt'
  refine ⟨hok, ?_⟩
  rintro (⟨u,hu⟩ | ⟨id,hid⟩)
  · by_cases hut : u = t
    · subst hut; simp at hu; exact hnF hu
    · rw [upd_other hut] at hu; exact hb (.inl ⟨u,hu⟩)
  · exact hb (.inr ⟨id,hid⟩)
 have hL : ∀ id,(fun id=>(σ.box id).isSome = true) id -> (fun id=>((σ.set t d).box id).isSome = true) id /\ ρ id = ρ id:=fun id hid=>⟨hid,rfl⟩
 refine ⟨?_,h.defs,h.pin, ?_, ?_, ?_,h.bxN, ?_,h.nodB, ?_, ?_,h.dBB, ?_,h.kept,h.os,⟨h.tape.tp,h.tape.dr⟩,h.output,h.grown,fun g d hgd=>⟨(h.gl g d hgd).1,(h.gl g d hgd).2.1.1,(h.gl g d hgd).2.2⟩,fun b hb=>(h.okN b hb).1, ?_⟩
 · simp [Act.put,h.size]
 · intro u x hx
   rw [get_set] at hx
   by_cases hut : u = t
   · subst hut; simp at hx; subst hx; simp only [upd_same]; exact hv
   · simp only [hut,if_false] at hx
     obtain ⟨d0,hd0,rfl⟩:=Option.map_eq_some_iff.1 hx
     rw [upd_other hut]
     exact SR_other hut hsz (h.env u d0 hd0) (fun b _ hb=>rfl) hg hL (fun id off v _ hc=>hc)
 · intro u hu
   rw [get_set] at hu
   by_cases hut : u = t
   · simp [hut] at hu
   · simp only [hut,if_false,Option.map_eq_none_iff] at hu
     rw [upd_other hut]; exact h.envN u hu
 · intro id x hx
   exact (h.bx id x hx).mono (fun b _ hb=>rfl) hg hL
 · intro u
   by_cases hut : u = t
   · subst hut; simpa using hF
   · rw [upd_other hut]; exact h.nodE u
 · intro u u' huu b hb hb'
   by_cases hut : u = t
   · subst hut
     rw [upd_other (fun e=>huu e.symm)] at hb'
     simp at hb
     exact hdE u' b hb hb'
   · rw [upd_other hut] at hb
     by_cases hut' : u' = t
     · subst hut'; simp at hb'; exact hdE u b hb' hb
     · rw [upd_other hut'] at hb'; exact h.dEE u u' huu b hb hb'
 · intro u id b hb hb'
   by_cases hut : u = t
   · subst hut; simp at hb; exact hdB id b hb hb'
   · rw [upd_other hut] at hb; exact h.dEB u id b hb hb'
 · rintro b (⟨u,hu⟩ | ⟨id,hid⟩) hkb
   · by_cases hut : u = t
     · subst hut; simp at hu; exact hk b hu hkb
     · rw [upd_other hut] at hu; exact h.new b (.inl ⟨u,hu⟩) hkb
   · exact h.new b (.inr ⟨id,hid⟩) hkb
 · rintro b (⟨u,hu⟩ | ⟨id,hid⟩)
   · by_cases hut : u = t
     · subst hut; simp at hu; exact hok b hu
     · rw [upd_other hut] at hu; exact (h.okO b (.inl ⟨u,hu⟩)).1
   · exact (h.okO b (.inr ⟨id,hid⟩)).1
mutual
def D.ren (m : Nat -> Nat) : D -> D
 | .ptr id off path=>.ptr (m id) off path
 | .bs id z n cap=>.bs (m id) z n cap
 | .map id=>.map (m id)
 | .agg l=>.agg (D.rens m l)
 | .fn f l=>.fn f (D.rens m l)
 | .tup l=>.tup (D.rens m l)
 | .ifc t d=>.ifc t (D.ren m d)
 | d=>d
def D.rens (m : Nat -> Nat) : List D -> List D
 | []=>[]
 | d :: r=>D.ren m d :: D.rens m r
end
theorem rens_eq (m : Nat -> Nat) (l : List D) : D.rens m l = l.map (D.ren m):=by
 induction l with
 | nil=>rfl
 | cons d r ih=>simp [D.rens,ih]
mutual
theorem sz_ren (m : Nat -> Nat) (d : D) : (d.ren m).sz = d.sz:=by
 cases d with
 | agg l=>simp only [D.ren,sz_agg]; exact szs_ren m l
 | _=>simp [D.ren,D.sz]
theorem szs_ren (m : Nat -> Nat) (l : List D) : D.szs (D.rens m l) = D.szs l:=by
 cases l with
 | nil=>rfl
 | cons d r=>simp only [D.rens,szs_cons,sz_ren m d,szs_ren m r]
end
theorem offk_ren (m : Nat -> Nat) (l : List D) (k : Nat) : offk (l.map (D.ren m)) k = offk l k:=by
 unfold offk
 rw [<- List.map_take,<- rens_eq,szs_ren]
theorem isAgg_ren (m : Nat -> Nat) (d : D) : (d.ren m).isAgg = d.isAgg:=by cases d <;> rfl
theorem isRef_ren (m : Nat -> Nat) (d : D) (h : d.isRef = false) : (d.ren m).isRef = false:=by cases d <;> first | rfl | simp [D.isRef] at h
theorem Rc.ren {G L L' : Nat -> Prop} {m : Nat -> Nat} {p : Bool} {d : D} {cs : List Value} {F : List Nat} (h : Rc w ρ G L p d cs F) (hL : ∀ i,L i -> L' (m i) /\ ρ2 (m i) = ρ i) : Rc w ρ2 G L' p (d.ren m) cs F:=by
 induction h with
 | bool b=>exact .bool b
 | int n=>exact .int n
 | u8 x=>exact .u8 x
 | u16 x=>exact .u16 x
 | u32 x=>exact .u32 x
 | u64 x=>exact .u64 x
 | ik k n=>exact .ik k n
 | str s=>exact .str s
 | nils=>exact .nils
 | slN o z=>exact .slN o z
 | slE o z a=>exact .slE o z a
 | slI b off cs e fz cap z l hb hG hc hs hr ih=>exact .slI b off cs e fz cap z l hb hG hc hs (fun i hi=>(hr i hi).noL)
 | slO b cs e cap z l Fs hb hc hm hs ho1 hr ih=>exact .slO b cs e cap z l Fs hb hc hm hs ho1 (fun i hi=>(hr i hi).noL)
 | agg l cs Fs hs hr ih=>
  simp only [D.ren,rens_eq]
  have:=Rc.agg (w:=w) (ρ:=ρ2) (G:=G) (L:=L') (p:=‹Bool›) (l.map (D.ren m)) cs Fs (by rw [<- rens_eq,szs_ren]; exact hs) (fun k hk=>by
   have hk' : k < l.length:=by simpa using hk
   have:=ih k hk'
   simp only [List.getElem_map,offk_ren,sz_ren]
   exact this)
  simpa using this
 | arr n z l cs hl hs hr ih=>exact .arr n z l cs hl hs (fun i hi=>(hr i hi).noL)
 | ptr id off path hid=>
  obtain ⟨h1,h2⟩:=hL id hid
  simp only [D.ren]
  rw [<- h2]
  exact .ptr (m id) off path h1
 | bs id z n cap hid hcap=>
  obtain ⟨h1,h2⟩:=hL id hid
  simp only [D.ren]
  rw [<- h2]
  exact .bs (m id) z n cap h1 hcap
 | nilp=>exact .nilp
 | rp d b off cs e fz hb hG hs hr ih=>exact .rp d b off cs e fz hb hG hs hr.noL
 | map id hid=>
  obtain ⟨h1,h2⟩:=hL id hid
  simp only [D.ren]
  rw [<- h2]
  exact .map (m id) h1
 | nilmap=>exact .nilmap
 | fn f caps vs hl ha hr ih=>
  simp only [D.ren,rens_eq]
  exact .fn f (caps.map (D.ren m)) vs (by simpa using hl) (fun k hk=>by
   have hk' : k < caps.length:=by simpa using hk
   rw [List.getElem_map,isAgg_ren]; exact ha k hk') (fun k hk=>by
   have hk' : k < caps.length:=by simpa using hk
   rw [List.getElem_map]; exact ih k hk')
 | nilf=>exact .nilf
 | yld l=>exact .yld l
 | ifc t d v ha hr ih=>simp only [D.ren]; exact .ifc t (d.ren m) v (by rw [isAgg_ren]; exact ha) ih
 | nili=>exact .nili
 | dead v h=>exact .dead v h
theorem Rc.unren {G L L' : Nat -> Prop} {m : Nat -> Nat} {p : Bool} {d : D} {d' : D} {cs : List Value} {F : List Nat} (h : Rc w ρ G L p d' cs F) (hd : d' = d.ren m) (hL : ∀ i,L (m i) -> L' i /\ ρ2 i = ρ (m i)) : Rc w ρ2 G L' p d cs F:=by
 induction h generalizing d with
 | bool b=>cases d <;> simp only [D.ren,reduceCtorEq] at hd; cases hd; exact .bool b
 | int n=>cases d <;> simp only [D.ren,reduceCtorEq] at hd; cases hd; exact .int n
 | u8 x=>cases d <;> simp only [D.ren,reduceCtorEq] at hd; cases hd; exact .u8 x
 | u16 x=>cases d <;> simp only [D.ren,reduceCtorEq] at hd; cases hd; exact .u16 x
 | u32 x=>cases d <;> simp only [D.ren,reduceCtorEq] at hd; cases hd; exact .u32 x
 | u64 x=>cases d <;> simp only [D.ren,reduceCtorEq] at hd; cases hd; exact .u64 x
 | ik k n=>cases d <;> simp only [D.ren,reduceCtorEq] at hd; cases hd; exact .ik k n
 | str s=>cases d <;> simp only [D.ren,reduceCtorEq] at hd; cases hd; exact .str s
 | nils=>cases d <;> simp only [D.ren,reduceCtorEq] at hd; exact .nils
 | slN o z=>cases d <;> simp only [D.ren,reduceCtorEq] at hd; cases hd; exact .slN o z
 | slE o z a=>cases d <;> simp only [D.ren,reduceCtorEq] at hd; cases hd; exact .slE o z a
 | slI b off cs e fz cap z l hb hG hc hs hr ih=>cases d <;> simp only [D.ren,reduceCtorEq] at hd; cases hd; exact .slI b off cs e fz cap z l hb hG hc hs (fun i hi=>(hr i hi).noL)
 | slO b cs e cap z l Fs hb hc hm hs ho1 hr ih=>cases d <;> simp only [D.ren,reduceCtorEq] at hd; cases hd; exact .slO b cs e cap z l Fs hb hc hm hs ho1 (fun i hi=>(hr i hi).noL)
 | agg l cs Fs hs hr ih=>
  cases d with
  | agg l0=>
   simp only [D.ren,D.agg.injEq,rens_eq] at hd
   subst hd
   have:=Rc.agg (w:=w) (ρ:=ρ2) (G:=G) (L:=L') (p:=‹Bool›) l0 cs Fs (by rw [<- rens_eq,szs_ren] at hs; exact hs) (fun k hk=>by
    have:=ih k (by simpa using hk) (d:=l0[k]) (by simp)
    simp only [List.getElem_map,offk_ren,sz_ren] at this
    exact this)
   simpa using this
  | _=>simp only [D.ren,reduceCtorEq] at hd
 | arr n z l cs hl hs hr ih=>cases d <;> simp only [D.ren,reduceCtorEq] at hd; cases hd; exact .arr n z l cs hl hs (fun i hi=>(hr i hi).noL)
 | ptr id off path hid=>
  cases d with
  | ptr id0 off0 path0=>
   simp only [D.ren,D.ptr.injEq] at hd
   obtain ⟨rfl,rfl,rfl⟩:=hd
   obtain ⟨h1,h2⟩:=hL id0 hid
   rw [<- h2]
   exact .ptr id0 _ _ h1
  | _=>simp only [D.ren,reduceCtorEq] at hd
 | bs id z n cap hid hcap=>
  cases d with
  | bs id0 z0 n0 cap0=>
   simp only [D.ren,D.bs.injEq] at hd
   obtain ⟨rfl,rfl,rfl,rfl⟩:=hd
   obtain ⟨h1,h2⟩:=hL id0 hid
   rw [<- h2]
   exact .bs id0 _ _ _ h1 hcap
  | _=>simp only [D.ren,reduceCtorEq] at hd
 | nilp=>cases d <;> simp only [D.ren,reduceCtorEq] at hd; exact .nilp
 | rp d0 b off cs e fz hb hG hs hr ih=>cases d <;> simp only [D.ren,reduceCtorEq] at hd; cases hd; exact .rp d0 b off cs e fz hb hG hs hr.noL
 | map id hid=>
  cases d with
  | map id0=>
   simp only [D.ren,D.map.injEq] at hd
   subst hd
   obtain ⟨h1,h2⟩:=hL id0 hid
   rw [<- h2]
   exact .map id0 h1
  | _=>simp only [D.ren,reduceCtorEq] at hd
 | nilmap=>cases d <;> simp only [D.ren,reduceCtorEq] at hd; exact .nilmap
 | fn f caps vs hl ha hr ih=>
  cases d with
  | fn f0 caps0=>
   simp only [D.ren,D.fn.injEq,rens_eq] at hd
   obtain ⟨rfl,rfl⟩:=hd
   exact .fn f caps0 vs (by simpa using hl) (fun k hk=>by have:=ha k (by simpa using hk); rw [List.getElem_map,isAgg_ren] at this; exact this) (fun k hk=>ih k (by simpa using hk) (by simp))
  | _=>simp only [D.ren,reduceCtorEq] at hd
 | nilf=>cases d <;> simp only [D.ren,reduceCtorEq] at hd; exact .nilf
 | yld l=>cases d <;> simp only [D.ren,reduceCtorEq] at hd; cases hd; exact .yld l
 | ifc t d0 v ha hr ih=>
  cases d with
  | ifc t1 d1=>
   simp only [D.ren,D.ifc.injEq] at hd
   obtain ⟨rfl,rfl⟩:=hd
   exact .ifc t d1 v (by rw [isAgg_ren] at ha; exact ha) (ih rfl)
  | _=>simp only [D.ren,reduceCtorEq] at hd
 | nili=>cases d <;> simp only [D.ren,reduceCtorEq] at hd; exact .nili
 | dead v h=>cases d <;> simp only [D.ren,reduceCtorEq] at hd; exact .dead v h
theorem VR.ren {G L L' : Nat -> Prop} {m : Nat -> Nat} {d : D} {v : Value} {F : List Nat} (h : VR w ρ G L d v F) (hL : ∀ i,L i -> L' (m i) /\ ρ2 (m i) = ρ i) : VR w ρ2 G L' (d.ren m) v F:=by
 unfold VR at *
 rw [isAgg_ren]
 cases hd : d.isAgg <;> simp only [hd,if_true,if_false,Bool.false_eq_true] at h ⊢
 · exact h.ren hL
 · obtain ⟨cs,rfl,h⟩:=h; exact ⟨cs,rfl,h.ren hL⟩
theorem VR.unren {G L L' : Nat -> Prop} {m : Nat -> Nat} {d : D} {v : Value} {F : List Nat} (h : VR w ρ G L (d.ren m) v F) (hL : ∀ i,L (m i) -> L' i /\ ρ2 i = ρ (m i)) : VR w ρ2 G L' d v F:=by
 unfold VR at *
 rw [isAgg_ren] at h
 cases hd : d.isAgg <;> simp only [hd,if_true,if_false,Bool.false_eq_true] at h ⊢
 · exact h.unren rfl hL
 · obtain ⟨cs,rfl,h⟩:=h; exact ⟨cs,rfl,h.unren rfl hL⟩
theorem RV.ren {G L L' : Nat -> Prop} {m : Nat -> Nat} {d : D} {v : Value} {F : List Nat} (h : RV w ρ G L d v F) (hL : ∀ i,L i -> L' (m i) /\ ρ2 (m i) = ρ i) : RV w ρ2 G L' (d.ren m) v F:=by
 cases d with
 | tup ds=>
  obtain ⟨vs,Fs,h1,h2,h3,h4⟩:=h
  simp only [D.ren,rens_eq]
  refine ⟨vs,Fs,h1,by simpa using h2,by simpa using h3,fun k hk=>?_⟩
  have hk' : k < ds.length:=by simpa using hk
  rw [List.getElem_map]
  exact ⟨isRef_ren m _ (h4 k hk').1,(h4 k hk').2.ren hL⟩
 | _=>exact ⟨isRef_ren m _ h.1,h.2.ren hL⟩
end Go.Sx
