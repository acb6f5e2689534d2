/-
 Own library: in a region of any order: append to a slice in a box,of elements that own.
-/
import Derived.Test.YtgilikgghknbhaaMPySort
import Derived.Test.YtgilikgghknbhaaMSxDrawE
set_option linter.unusedVariables false
set_option linter.unusedSimpArgs false
set_option linter.unnecessarySimpa false

namespace Go.Sx
open Go.Proofs
theorem u_sub_add (a b c : UInt64) : a - b - c = a - (b + c):=by grind
theorem u_sub_sub (a b : UInt64) : a - (a - b) = b:=by grind
theorem u_sub_zero (a : UInt64) : a - 0 = a:=by grind
theorem lft_sum (ws : List Wnt) (i : Nat) : lftI ws i = 2100000000000000 - wsumI ws i:=by
 induction i with
 | zero=>rw [lftI,wsumI,u_sub_zero]
 | succ i ih=>rw [lftI,wsumI,ih,u_sub_add]
theorem getE {α : Type} [Inhabited α] {l : List α} {i : Nat} (h : i < l.length) : l[i]! = l[i]:=getElem!_pos l i h
theorem mem_get {α : Type} [Inhabited α] {l : List α} {c : α} (h : c ∈ l) : ∃ i,i < l.length /\ l[i]! = c:=by
 obtain ⟨i,hi,rfl⟩:=List.getElem_of_mem h
 exact ⟨i,hi,getE hi⟩
theorem get_in {α : Type} [Inhabited α] {l : List α} {i : Nat} (h : i < l.length) : l[i]! ∈ l:=by rw [getE h]; exact List.getElem_mem h
theorem wsum_nat {ws : List Wnt} : ∀ i,i <= 65 -> (∀ j < i,ws[j]!.value.toNat <= 2100000000000000) -> (wsumI ws i).toNat <= i * 2100000000000000 /\ (wsumI ws i).toNat = ((List.range i).map fun j=>ws[j]!.value.toNat).sum:=by
 intro i
 induction i with
 | zero=>intro _ _; exact ⟨by simp [wsumI],by simp [wsumI]⟩
 | succ i ih=>
  intro h1 h2
  obtain ⟨a,b⟩:=ih (by omega) (fun j hj=>h2 j (by omega))
  have h3:=h2 i (by omega)
  have e : (wsumI ws (i + 1)).toNat = (wsumI ws i).toNat + ws[i]!.value.toNat:=by
   rw [wsumI,UInt64.toNat_add]
   exact Nat.mod_eq_of_lt (by omega)
  refine ⟨by omega, ?_⟩
  rw [e,b,List.range_succ,List.map_append,List.sum_append]
  simp
theorem wsum_mono {ws : List Wnt} {i j : Nat} (hij : i <= j) (hj : j <= 65) (h : ∀ k < j,ws[k]!.value.toNat <= 2100000000000000) : (wsumI ws i).toNat <= (wsumI ws j).toNat:=by
 induction j with
 | zero=>
  have : i = 0:=by omega
  subst this; exact Nat.le_refl _
 | succ j ih=>
  rcases Nat.lt_or_eq_of_le hij with h1 | h1
  · have:=ih (by omega) (by omega) (fun k hk=>h k (by omega))
    have b:=(wsum_nat (ws:=ws) j (by omega) (fun k hk=>h k (by omega))).1
    have h3:=h j (by omega)
    have e : (wsumI ws (j + 1)).toNat = (wsumI ws j).toNat + ws[j]!.value.toNat:=by
     rw [wsumI,UInt64.toNat_add]
     exact Nat.mod_eq_of_lt (by omega)
    omega
  · subst h1; exact Nat.le_refl _
theorem MMn : (2100000000000000 : UInt64).toNat = 2100000000000000:=rfl
theorem tot_wan (ws : List Wnt) : totP ws ↔ wanP ws:=by
 have key : ∀ i,i <= 64 -> (∀ j < i,ws[j]!.value.toNat <= 2100000000000000) -> (wsumI ws i).toNat <= 2100000000000000 -> (lftI ws i).toNat = 2100000000000000 - (wsumI ws i).toNat:=by
  intro i _ _ h
  rw [lft_sum,UInt64.toNat_sub_of_le _ _ (UInt64.le_iff_toNat_le.2 (by rw [MMn]; exact h)),MMn]
 constructor
 · rintro ⟨h0,h1,h2⟩
   have hall : ∀ i,i <= ws.length -> (∀ j < i,ws[j]!.value.toNat <= 2100000000000000) /\ (wsumI ws i).toNat <= 2100000000000000:=by
    intro i
    induction i with
    | zero=>intro _; exact ⟨fun j hj=>absurd hj (Nat.not_lt_zero _),by simp [wsumI]⟩
    | succ i ih=>
     intro hi
     obtain ⟨a,b⟩:=ih (by omega)
     have k1:=key i (by omega) a b
     have k2:=(h2 i (by omega)).2.1
     rw [UInt64.lt_iff_toNat_lt,k1] at k2
     refine ⟨fun j hj=>?_, ?_⟩
     · rcases Nat.lt_succ_iff_lt_or_eq.1 hj with h | h
       · exact a j h
       · subst h; omega
     · rw [wsumI,UInt64.toNat_add,Nat.mod_eq_of_lt (by omega)]; omega
   have hN : wanN ws = ws.length:=by unfold wanN; omega
   refine ⟨fun j hj=>?_,by omega,h1, ?_⟩
   · rw [hN] at hj
     have g:=h2 j hj
     have gv:=(hall ws.length (Nat.le_refl _)).1 j hj
     refine ⟨fun hlt=>g.1 ?_,fun hlt=>?_,g.2.2⟩
     · rw [UInt64.lt_iff_toNat_lt] at hlt
       exact UInt64.toNat_inj.1 (by simp at hlt ⊢; omega)
     · rw [UInt64.lt_iff_toNat_lt,MMn] at hlt; omega
   · rw [hN,UInt64.le_iff_toNat_le,MMn]; exact (hall _ (Nat.le_refl _)).2
 · rintro ⟨h0,h1,h2,h3⟩
   have hN : wanN ws = ws.length:=by unfold wanN; omega
   rw [hN,UInt64.le_iff_toNat_le,MMn] at h3
   have hv : ∀ j < ws.length,ws[j]!.value.toNat <= 2100000000000000 /\ ws[j]!.value ≠ 0 /\ ws[j]!.script.length <= 1000:=fun j hj=>by
    have g:=h0 j (by rw [hN]; exact hj)
    have g2:=g.2.1
    rw [UInt64.lt_iff_toNat_lt,MMn] at g2
    refine ⟨by omega,fun e=>g.1 (by rw [e]; decide),g.2.2⟩
   refine ⟨by omega,h2,fun i hi=>⟨(hv i hi).2.1,fun hlt=>?_,(hv i hi).2.2⟩⟩
   have m1:=wsum_mono (ws:=ws) (i:=i) (j:=ws.length) (by omega) (by omega) (fun k hk=>(hv k hk).1)
   have m2:=wsum_mono (ws:=ws) (i:=i + 1) (j:=ws.length) (by omega) (by omega) (fun k hk=>(hv k hk).1)
   have k1:=key i (by omega) (fun j hj=>(hv j (by omega)).1) (by omega)
   rw [UInt64.lt_iff_toNat_lt,k1] at hlt
   have h4:=(hv i hi).1
   have e : (wsumI ws (i + 1)).toNat = (wsumI ws i).toNat + ws[i]!.value.toNat:=by
    rw [wsumI,UInt64.toNat_add]
    exact Nat.mod_eq_of_lt (by omega)
   omega
theorem tot_wanV {ws : List Wnt} (h : totP ws) : wanV ws = totV ws:=by
 have hw:=(tot_wan ws).1 h
 have hN : wanN ws = ws.length:=by have:=h.2.1; unfold wanN; omega
 rw [wanV,if_pos hw.1,totV,if_pos h,hN,lft_sum]
 have:=hw.2.2.2
 rw [hN] at this
 rw [u_sub_sub]
theorem wanted_t (ws : List Wnt) (hw : ws.length <= 1000000) (h : totP ws) : Fn Try.prog gl 28 [.sl none 2 (ws.map wntD)] (.tup [.u64 (totV ws),.bool true]):=by
 have:=wanted_ok ws hw
 rwa [tot_wanV h,wanB,decide_eq_true ((tot_wan ws).1 h)] at this
theorem wanted_f (ws : List Wnt) (hw : ws.length <= 1000000) (h : ¬ totP ws) : Fn Try.prog gl 28 [.sl none 2 (ws.map wntD)] (.tup [.u64 (wanV ws),.bool false]):=by
 have:=wanted_ok ws hw
 rwa [wanB,decide_eq_false (fun hh=>h ((tot_wan ws).2 hh))] at this
end Go.Sx

namespace Go.Sx
open Go.Proofs
theorem pur_ne {l : List Un} (h : purP l) {i j : Nat} (hij : i < j) (hj : j < l.length) : upl l[i]! ≠ upl l[j]!:=fun e=>by
 have:=(h j hj).1
 rw [purI_yes hij e] at this
 cases this
theorem pur_nodup {l : List Un} (h : purP l) : (l.map upl).Nodup:=by
 rw [List.Nodup,List.pairwise_iff_getElem]
 intro i j hi hj hij
 have hj' : j < l.length:=by simpa using hj
 have:=pur_ne h hij hj'
 rw [getE (by omega),getE hj'] at this
 simpa using this
theorem nodup_get {l : List Un} (h : (l.map upl).Nodup) {i j : Nat} (hi : i < l.length) (hj : j < l.length) (e : upl l[i]! = upl l[j]!) : i = j:=by
 rw [getE hi,getE hj] at e
 rw [List.Nodup,List.pairwise_iff_getElem] at h
 rcases Nat.lt_trichotomy i j with h1 | h1 | h1
 · have:=h i j (by simpa using hi) (by simpa using hj) h1
   exact absurd e (by simpa using this)
 · exact h1
 · have:=h j i (by simpa using hj) (by simpa using hi) h1
   exact absurd e.symm (by simpa using this)
theorem sortU_nodup {l : List Un} (hx : hs32 l) (h : purP l) : ((sortU l).map upl).Nodup:=((sortU_perm hx).map upl).nodup_iff.2 (pur_nodup h)
theorem ord_sym (a b : Un) : ordS a b < 0 ↔ 0 < ordS b a:=tcO.sym a b
theorem ord_self (a : Un) : ordS a a = 0:=by have:=ord_sym a a; omega
theorem sorted_lt {l : List Un} (hx : hs32 l) (h : purP l) {i j : Nat} (hij : i < j) (hj : j < l.length) : ordS (sortU l)[i]! (sortU l)[j]! < 0:=by
 have h1:=sortU_sorted l hij hj
 have hl:=sortU_len l
 rcases Int.lt_or_eq_of_le h1 with h2 | h2
 · exact (ord_sym _ _).2 h2
 · exfalso
   have:=nodup_get (sortU_nodup hx h) (i:=j) (j:=i) (by omega) (by omega) (ord_z h2.symm).2
   omega
def behS (s : List Un) (k : Nat) (c : Un) : Bool:=decide (k = 0) || firS (s.take k)[k - 1]! c
def bestK (s l : List Un) (k : Nat) : Nat -> Option Nat
 | 0=>none
 | i + 1=>if behS s k l[i]! = true /\ (bestK s l k i = none ∨ firS l[i]! l[(bestK s l k i).getD 0]! = true) then some i else bestK s l k i
def bI : Option Nat -> Int
 | none=>-1
 | some b=>((b : Nat) : Int)
theorem bI_s (b : Nat) : bI (some b) = ((b : Nat) : Int):=rfl
theorem bI_neg {o : Option Nat} (h : o = none) : bI o < 0:=by subst h; decide
theorem bI_pos {o : Option Nat} (h : ¬ o = none) : ¬ bI o < 0:=by
 cases o with
 | none=>exact absurd rfl h
 | some b=>simp only [bI]; omega
theorem bI_get {o : Option Nat} (h : ¬ o = none) : bI o = ((o.getD 0 : Nat) : Int):=by
 cases o with
 | none=>exact absurd rfl h
 | some b=>rfl
theorem beh_0 {s : List Un} {k : Nat} {c : Un} (h : k = 0) : behS s k c = true:=by simp [behS,h]
theorem beh_1 {s : List Un} {k : Nat} {c : Un} (h : firS (s.take k)[k - 1]! c = true) : behS s k c = true:=by rw [behS,h,Bool.or_true]
theorem bK_y {s l : List Un} {k i : Nat} (hb : behS s k l[i]! = true) (hu : bestK s l k i = none ∨ firS l[i]! l[(bestK s l k i).getD 0]! = true) : bestK s l k (i + 1) = some i:=by rw [bestK,if_pos ⟨hb,hu⟩]
theorem bK_n1 {s l : List Un} {k i : Nat} (h0 : ¬ k = 0) (hf : firS (s.take k)[k - 1]! l[i]! = false) : bestK s l k (i + 1) = bestK s l k i:=by
 rw [bestK,if_neg]
 rintro ⟨h1,_⟩
 rw [behS,hf,decide_eq_false h0] at h1
 cases h1
theorem bK_n2 {s l : List Un} {k i : Nat} (h1 : ¬ bestK s l k i = none) (hf : firS l[i]! l[(bestK s l k i).getD 0]! = false) : bestK s l k (i + 1) = bestK s l k i:=by
 rw [bestK,if_neg]
 rintro ⟨_,h2 | h2⟩
 · exact h1 h2
 · rw [hf] at h2; cases h2
theorem bestK_ok (s l : List Un) (k i : Nat) : (bestK s l k i = none -> ∀ j < i,behS s k l[j]! = false) /\ ∀ b,bestK s l k i = some b -> b < i /\ behS s k l[b]! = true /\ ∀ j < i,behS s k l[j]! = true -> firS l[j]! l[b]! = false:=by
 induction i with
 | zero=>
  refine ⟨?_, ?_⟩
  · intro _ j hj; exact absurd hj (Nat.not_lt_zero _)
  · intro b hb; cases hb
 | succ i ih=>
  obtain ⟨ih1,ih2⟩:=ih
  by_cases hc : behS s k l[i]! = true /\ (bestK s l k i = none ∨ firS l[i]! l[(bestK s l k i).getD 0]! = true)
  · have e : bestK s l k (i + 1) = some i:=by rw [bestK,if_pos hc]
    refine ⟨(fun h=>by rw [e] at h; cases h),fun b hb=>?_⟩
    rw [e] at hb
    cases hb
    refine ⟨by omega,hc.1,fun j hj hjb=>?_⟩
    rcases Nat.lt_succ_iff_lt_or_eq.1 hj with h1 | h1
    · rcases hc.2 with h2 | h2
      · have:=ih1 h2 j h1; rw [this] at hjb; cases hjb
      · cases ho : bestK s l k i with
        | none=>have:=ih1 ho j h1; rw [this] at hjb; cases hjb
        | some b=>
         rw [ho] at h2
         have h3:=(ih2 b ho).2.2 j h1 hjb
         simp only [Option.getD_some] at h2
         simp only [firS,decide_eq_true_eq,decide_eq_false_iff_not] at h2 h3 ⊢
         intro h4
         exact h3 (tcO.tr1 h4 (by omega))
    · subst h1
      simp only [firS,decide_eq_false_iff_not]
      have:=ord_self l[j]!
      omega
  · have e : bestK s l k (i + 1) = bestK s l k i:=by rw [bestK,if_neg hc]
    rw [e]
    refine ⟨fun h j hj=>?_,fun b hb=>?_⟩
    · rcases Nat.lt_succ_iff_lt_or_eq.1 hj with h1 | h1
      · exact ih1 h j h1
      · subst h1
        cases hbe : behS s k l[j]! with
        | false=>rfl
        | true=>exact absurd ⟨hbe,.inl h⟩ hc
    · obtain ⟨g1,g2,g3⟩:=ih2 b hb
      refine ⟨by omega,g2,fun j hj hjb=>?_⟩
      rcases Nat.lt_succ_iff_lt_or_eq.1 hj with h1 | h1
      · exact g3 j h1 hjb
      · subst h1
        cases hf : firS l[j]! l[b]! with
        | false=>rfl
        | true=>exact absurd ⟨hjb,.inr (by rw [hb]; exact hf)⟩ hc
theorem take_last {s : List Un} {k : Nat} (h0 : ¬ k = 0) (hk : k <= s.length) : (s.take k)[k - 1]! = s[k - 1]!:=by
 rw [getE (by rw [List.length_take]; omega),getE (by omega),List.getElem_take]
theorem best_ok {l : List Un} (hx : hs32 l) (hp : purP l) {k : Nat} (hk : k < l.length) : ∃ b,b < l.length /\ bestK (sortU l) l k l.length = some b /\ l[b]! = (sortU l)[k]!:=by
 have hl:=sortU_len l
 have beh_iff : ∀ m,m < l.length -> (behS (sortU l) k (sortU l)[m]! = true ↔ k <= m):=by
  intro m hm
  by_cases h0 : k = 0
  · subst h0; simp [behS]
  · have e:=take_last (s:=sortU l) h0 (by omega)
    simp only [behS,h0,decide_false,Bool.false_or,e,firS,decide_eq_true_eq]
    constructor
    · intro h
      rcases Nat.lt_or_ge m k with h1 | h1
      · exfalso
        rcases Nat.lt_or_eq_of_le (show m <= k - 1 by omega) with h2 | h2
        · have:=sorted_lt hx hp h2 (by omega)
          have:=(ord_sym _ _).1 h
          omega
        · subst h2; have:=ord_self (sortU l)[k - 1]!; omega
      · exact h1
    · intro h; exact sorted_lt hx hp (by omega) hm
 have mem : ∀ c,c ∈ l ↔ c ∈ sortU l:=fun c=>(sortU_perm hx).mem_iff.symm
 obtain ⟨j0,hj0,ej0⟩:=mem_get ((mem _).2 (get_in (l:=sortU l) (i:=k) (by omega)))
 obtain ⟨o1,o2⟩:=bestK_ok (sortU l) l k l.length
 cases ho : bestK (sortU l) l k l.length with
 | none=>
  have:=o1 ho j0 hj0
  rw [ej0,(beh_iff k hk).2 (Nat.le_refl _)] at this
  cases this
 | some b=>
  obtain ⟨g1,g2,g3⟩:=o2 b ho
  refine ⟨b,g1,rfl, ?_⟩
  obtain ⟨m,hm,em⟩:=mem_get ((mem _).1 (get_in g1))
  rw [hl] at hm
  rw [<- em] at g2
  have hkm:=(beh_iff m hm).1 g2
  have g4:=g3 j0 hj0 (by rw [ej0]; exact (beh_iff k hk).2 (Nat.le_refl _))
  rw [ej0,<- em] at g4
  simp only [firS,decide_eq_false_iff_not] at g4
  rcases Nat.lt_or_eq_of_le hkm with h1 | h1
  · exact absurd (sorted_lt hx hp h1 hm) g4
  · rw [<- em,h1]
theorem tk_app {s l : List Un} {k b : Nat} (hk : k < s.length) (h : l[b]! = s[k]!) : (s.take k).map coD ++ [coD l[b]!] = (s.take (k + 1)).map coD:=by
 rw [take_s hk,List.map_append,h]; rfl
theorem fr_bad {l : List Un} {ws : List Wnt} {r : UInt64} (h : ¬ chP l ws r) : [D.sl none 35 (([] : List Un).map coD),.u64 0,.int 1] = [.sl none 35 ((chC l ws r).map coD),.u64 (chV l ws r),.int (chE l ws r)]:=ch_bad h
theorem fr_y {l : List Un} {ws : List Wnt} {r : UInt64} {i : Nat} (h : chP l ws r) (hi : i < l.length) (hn : ∀ j < i,chL l ws r j) (hs : totV ws + feeV ((i + 1 : Nat) : Int) ((ws.length : Nat) : Int) r <= sumU (sortU l) i + (sortU l)[i]!.value) (hc : ¬ sumU (sortU l) i + (sortU l)[i]!.value < totV ws + feeV ((i + 1 : Nat) : Int) ((ws.length + 1 : Nat) : Int) r + 546) :
 [D.sl none 35 (((sortU l).take (i + 1)).map coD),.u64 (sumU (sortU l) i + (sortU l)[i]!.value - totV ws - feeV ((i + 1 : Nat) : Int) ((ws.length + 1 : Nat) : Int) r),.int 0] = [.sl none 35 ((chC l ws r).map coD),.u64 (chV l ws r),.int (chE l ws r)]:=by
 rw [<- ch_y h hi hn (UInt64.not_lt.2 hs) (UInt64.not_lt.1 hc),u_sub_add]
 rfl
theorem fr_n {l : List Un} {ws : List Wnt} {r : UInt64} {i : Nat} (h : chP l ws r) (hi : i < l.length) (hn : ∀ j < i,chL l ws r j) (hs : totV ws + feeV ((i + 1 : Nat) : Int) ((ws.length : Nat) : Int) r <= sumU (sortU l) i + (sortU l)[i]!.value) (hc : sumU (sortU l) i + (sortU l)[i]!.value < totV ws + feeV ((i + 1 : Nat) : Int) ((ws.length + 1 : Nat) : Int) r + 546) :
 [D.sl none 35 (((sortU l).take (i + 1)).map coD),.u64 0,.int 0] = [.sl none 35 ((chC l ws r).map coD),.u64 (chV l ws r),.int (chE l ws r)]:=by
 rw [<- ch_n h hi hn (UInt64.not_lt.2 hs) (UInt64.not_le.2 hc)]
 rfl
end Go.Sx

namespace Go.Sx
open Go.Proofs
theorem bK_lt {s l : List Un} {k i : Nat} (h : ¬ bestK s l k i = none) (hi : i <= l.length) : (bestK s l k i).getD 0 < l.length:=by
 cases ho : bestK s l k i with
 | none=>exact absurd ho h
 | some b=>have:=((bestK_ok s l k i).2 b ho).1; simp only [Option.getD_some]; omega
theorem tk_len {s : List Un} {k : Nat} (h : k <= s.length) : ((s.take k).map coD).length = k:=by simp; omega
theorem hs_tk {l : List Un} (hx : hs32 l) {k : Nat} (h0 : ¬ k = 0) (hk : k <= l.length) : ((sortU l).take k)[k - 1]!.tx.length = 32:=by
 rw [take_last h0 (by rw [sortU_len]; exact hk)]
 exact (sortU_hs hx).get (by rw [sortU_len]; omega)
end Go.Sx

namespace Go.Sx
open Go.Proofs
theorem rchoose_ok (l : List Un) (ws : List Wnt) (r : UInt64) (hl : l.length <= 4096) (hx : hs32 l) (hw : ws.length <= 1000000) : Fn Try.prog gl 12 [.sl none 35 (l.map coD),.sl none 2 (ws.map wntD),.u64 r] (.tup [.sl none 35 ((chC l ws r).map coD),.u64 (chV l ws r),.int (chE l ws r)]):=by
 refine Fn.of (n:=131) Try.func12 rfl rfl rfl (nU rfl) fun C hC hD=>?_
 have hsl:=sortU_len l
 refine W.seq ?_
 refine W.l0 3 [.y 6 _,.y 7 _,.y 8 _] [] [] [(0,_),(1,_),(2,_)] [] 131 ⟨aU fun _ _ H _=>R.asg (kN O) O H,aU fun _ _ H _=>R.asg (show ev _ _ (.const (.int .u64 0)) = some (.u64 0) from O) O H,aU fun _ _ H _=>R.asg (kI 0 O) O H,Zt⟩ O O O O (tU O ?_)
 refine W.seq ?_
 by_cases kt : totP ws
 · refine W.l0 7 [.y 21 _,.y 22 _,.y 20 _,.y 23 _,.y 24 _,.y 9 _,.y 10 _] [] [] [(0,_),(1,_),(2,_),(9,_),(10,_)] [] 131 ⟨mU 1 O O,aU fun _ _ H K=>R.callG hC (wanted_t ws hw kt) (Bc (Bp (eU K 21 O) O O) Bn) (FrsR.two (.u64 _) (.bool _)) H,aU fun _ _ H K=>R.movT (K 22 _ O) O H,aU fun _ _ H K=>R.ext (K 20 _ O) O O H,aU fun _ _ H K=>R.ext (K 20 _ O) O O H,aU fun _ _ H K=>R.asg (eU K 23 O) O H,aU fun _ _ H K=>R.asg (eU K 24 O) O H,Zt⟩ O O O O (tU O ?_)
   refine W.seq (W.seq ?_)
   by_cases kp : purP l
   · refine W.l0 11 [.y 25 _,.y 26 _,.y 27 _,.y 28 _,.y 29 _,.y 30 _,.y 31 _,.y 32 _,.y 33 _,.y 34 _,.y 35 _] [] [] [(0,_),(1,_),(2,_),(9,_),(35,_)] [] 131 ⟨mU 10 O O,aU fun _ _ H K=>R.un (eU K 25 O) O H,mU 26 O O,aW O O (gF (O) O) fun _ _ H K=>R.mov (eU K 0 O) O H,aW O O (gF (O) O) fun _ _ H K=>R.callG hC (coins_ok l hl) (Bc (Bp (eU K 28 O) O O) Bn) (FrsR.one (.bool _)) H,aW O O (gF (O) O) fun _ _ H K=>R.un (eU K 29 O) O H,aU fun _ _ H K=>R.pickF (eU K 27 O) (O) (eU K 30 O) O H,mU 31 O O,aW O O (gF (by rw [dT kp]; rfl) O) fun _ _ H K=>R.mov (eU K 2 O) O H,aW O O (gF (by rw [dT kp]; rfl) O) fun _ _ H K=>R.bin (eU K 33 O) (show ev _ _ (.const (.int .u64 1000000)) = some (.u64 1000000) from O) O Zt H,aU fun _ _ H K=>R.pickF (eU K 32 O) (by rw [dT kp]; rfl) (eU K 34 O) O H,Zt⟩ O O O O (tU O ?_)
     refine W.cond O (fun hc35=>?_) (fun hc35=>?_)
     · refine W.seq ?_
       refine W.l0 3 [.y 6 _,.y 7 _,.y 8 _] [] [] [(6,_),(7,_),(8,_)] [] 131 ⟨aU fun _ _ H _=>R.asg (kN O) O H,aU fun _ _ H _=>R.asg (show ev _ _ (.const (.int .u64 0)) = some (.u64 0) from O) O H,aU fun _ _ H _=>R.asg (kI 1 O) O H,Zt⟩ O O O O (tU O ?_)
       refine W.wkS (s:=6) (d':=.sl none 35 (([] : List Un).map coD)) O O O (.nils _ _) ?_
       refine W.ret ?_
       exact Ends.many (.inr O) (.cons O O O Zt (.cons O O O Zt (.cons O O O Zt .nil))) (fr_bad (fun h=>h.2.2 (of_decide_eq_true hc35))) (show [(6,true),(7,true),(8,true)].Nodup by decide)
     · refine W.skip (W.seq ?_)
       refine W.l0 1 [.y 11 _] [] [] [(0,_),(1,_),(2,_),(9,_),(11,_)] [] 131 ⟨aU fun _ _ H _=>R.asg (kN O) O H,Zt⟩ O O O O (tU O ?_)
       refine W.seq ?_
       refine W.l0 1 [.y 12 _] [] [] [(0,_),(1,_),(2,_),(9,_),(11,_),(12,_)] [] 131 ⟨aU fun _ _ H _=>R.asg (show ev _ _ (.const (.int .u64 0)) = some (.u64 0) from O) O H,Zt⟩ O O O O (tU O ?_)
       refine W.seq (W.block ?_)
       refine W.asOwn (s:=11) 67 35 O ?_
       refine W.loop (α:={q__ : Nat // q__ <= l.length /\ ∀ j < q__,chL l ws r j}) (fun q__=>⟨131,[(0,.sl none 35 (l.map coD)),(1,.sl none 2 (ws.map wntD)),(2,.u64 r),(9,.u64 (totV ws)),(11,.sl (some 67) 35 (((sortU l).take q__.1).map coD)),(12,.u64 (sumU (sortU l) q__.1))],[]⟩) (fun q__=>l.length - q__.1) ⟨(0),⟨Nat.zero_le _,fun j h=>absurd h (Nat.not_lt_zero _)⟩⟩ O ?_
       rintro ⟨k,⟨hk,hno⟩⟩
       show W _ _ _ _ ⟨131,[(0,.sl none 35 (l.map coD)),(1,.sl none 2 (ws.map wntD)),(2,.u64 r),(9,.u64 (totV ws)),(11,.sl (some 67) 35 (((sortU l).take k).map coD)),(12,.u64 (sumU (sortU l) k))],[]⟩
       have hk : k <= l.length:=hk
       have hno : ∀ j < k,chL l ws r j:=hno
       refine W.seq (W.seq ?_)
       refine W.l0 5 [.y 36 _,.y 37 _,.y 38 _,.y 39 _,.y 40 _] [] [] [(0,_),(1,_),(2,_),(9,_),(11,_),(12,_),(40,_)] [] 131 ⟨aU fun _ _ H K=>R.al (K 11 _ O) H dU,aU fun _ _ H K=>R.lenE (n:=k) (SC.al (K 36 _ O) (K 11 _ O)) (tk_len (by omega)) H,mU 0 O O,aU fun _ _ H K=>R.lenE (SC.sl (K 38 _ O)) (lN _) H,aU fun _ _ H K=>R.lssN (k) (l.length) (eU K 37 O) (eU K 39 O) H,Zt⟩ O O O O (tU O ?_)
       refine W.condD O (fun hc40=>?_) (fun hc40=>?_)
       · refine W.skip (W.block (W.seq ?_))
         refine W.l0 1 [.y 13 _] [] [] [(0,_),(1,_),(2,_),(9,_),(11,_),(12,_),(13,_)] [] 131 ⟨aU fun _ _ H _=>R.asg (show ev _ _ (.const (.int .i64 (-1))) = some (.int (-1)) from O) O H,Zt⟩ O O O O (tU O ?_)
         refine W.seq (W.seq ?_)
         refine W.l0 1 [.y 14 _] [] [] [(0,_),(1,_),(2,_),(9,_),(11,_),(12,_),(13,_),(14,_)] [] 131 ⟨aU fun _ _ H _=>R.asg (kI 0 O) O H,Zt⟩ O O O O (tU O ?_)
         refine W.block ?_
         refine W.loop (α:={q__ : Nat // q__ <= l.length}) (fun q__=>⟨131,[(0,.sl none 35 (l.map coD)),(1,.sl none 2 (ws.map wntD)),(2,.u64 r),(9,.u64 (totV ws)),(11,.sl (some 67) 35 (((sortU l).take k).map coD)),(12,.u64 (sumU (sortU l) k)),(13,.int (bI (bestK (sortU l) l k q__.1))),(14,.int ((q__.1 : Nat) : Int))],[]⟩) (fun q__=>l.length - q__.1) ⟨(0),bU⟩ O ?_
         rintro ⟨i,hi⟩
         show W _ _ _ _ ⟨131,[(0,.sl none 35 (l.map coD)),(1,.sl none 2 (ws.map wntD)),(2,.u64 r),(9,.u64 (totV ws)),(11,.sl (some 67) 35 (((sortU l).take k).map coD)),(12,.u64 (sumU (sortU l) k)),(13,.int (bI (bestK (sortU l) l k i))),(14,.int ((i : Nat) : Int))],[]⟩
         have hi : i <= l.length:=hi
         refine W.seq (W.seq ?_)
         refine W.l0 4 [.y 41 _,.y 42 _,.y 43 _,.y 44 _] [] [] [(0,_),(1,_),(2,_),(9,_),(11,_),(12,_),(13,_),(14,_),(44,_)] [] 131 ⟨mU 14 O O,mU 0 O O,aU fun _ _ H K=>R.lenE (SC.sl (K 42 _ O)) (lN _) H,aU fun _ _ H K=>R.lssN (i) (l.length) (eU K 41 O) (eU K 43 O) H,Zt⟩ O O O O (tU O ?_)
         refine W.condD O (fun hc44=>?_) (fun hc44=>?_)
         · refine W.skip (W.seq (W.block (W.seq ?_)))
           by_cases h0 : k = 0
           · refine W.draw (m:=17) (an:=[0,1,3,7,15,15,47,111,255,511,15,15,3087,7183,16383,32767,65535]) hP dU O (its:=[.y 47 _,.y 48 _,.y 49 _,.y 50 _,.x 51,.x 52,.x 53,.x 54,.x 55,.x 56,.x 57,.x 58,.x 59,.x 60,.x 61,.y 62 _,.y 15 _]) (ks:=[]) (kk:=[]) (live:=[0,1,2,9,11,12,13,14,15]) (env':=[(0,_),(1,_),(2,_),(9,_),(11,_),(12,_),(13,_),(14,_),(15,_)]) (⟨nU O,O,⟨aU fun _ _ H K=>R.al (K 11 _ O) H dU,aU fun _ _ H K=>R.lenE (n:=k) (SC.al (K 47 _ O) (K 11 _ O)) (tk_len (by omega)) H,aU fun _ _ H K=>R.eqlN (k) (0) (eU K 48 O) (kI 0 O) H,mU 49 O O,aF O O (gT (dT h0) O),aF O O (gT (dT h0) O),aF O O (gT (dT h0) O),aF O O (gT (dT h0) O),aF O O (gT (dT h0) O),aF O O (gT (dT h0) O),aF O O (gT (dT h0) O),aF O O (gT (dT h0) O),aF O O (gT (dT h0) O),aF O O (gT (dT h0) O),aF O O (gT (dT h0) O),aU fun _ _ H K=>R.pickT (eU K 50 O) (dT h0) (kB true O) O H,aU fun _ _ H K=>R.asg (eU K 62 O) O H,Zt⟩,O,O,O⟩) O (bx':=[]) O (n':=131) O (tV [(0,_),(1,_),(2,_),(9,_),(11,_),(12,_),(13,_),(14,_),(15,_)] [] 131 O O O ?_)
             refine W.seq ?_
             by_cases h1 : (bestK (sortU l) l k i) = none
             · refine W.draw (m:=16) (an:=[0,1,3,7,15,31,31,127,255,31,31,1567,3615,8191,16383,32767]) hP dU O (its:=[.y 63 _,.y 64 _,.y 65 _,.y 66 _,.y 67 _,.x 68,.x 69,.x 70,.x 71,.x 72,.x 73,.x 74,.x 75,.x 76,.y 77 _,.y 78 _]) (ks:=[]) (kk:=[]) (live:=[0,1,2,9,11,12,13,14,78]) (env':=[(0,_),(1,_),(2,_),(9,_),(11,_),(12,_),(13,_),(14,_),(78,_)]) (⟨nU O,O,⟨mU 15 O O,mU 63 O O,aW O O (gT (O) O) fun _ _ H K=>R.mov (eU K 13 O) O H,aW O O (gT (O) O) fun _ _ H K=>R.bin (eU K 65 O) (kI 0 O) O Zt H,aW O O (gT (O) O) fun _ _ H K=>R.mov (eU K 66 O) O H,aF O O (gT (dT (bI_neg h1)) O),aF O O (gT (dT (bI_neg h1)) O),aF O O (gT (dT (bI_neg h1)) O),aF O O (gT (dT (bI_neg h1)) O),aF O O (gT (dT (bI_neg h1)) O),aF O O (gT (dT (bI_neg h1)) O),aF O O (gT (dT (bI_neg h1)) O),aF O O (gT (dT (bI_neg h1)) O),aF O O (gT (dT (bI_neg h1)) O),aW O O (gT (O) O) fun _ _ H K=>R.pickT (eU K 67 O) (dT (bI_neg h1)) (kB true O) O H,aU fun _ _ H K=>R.pickT (eU K 64 O) (O) (eU K 77 O) O H,Zt⟩,O,O,O⟩) O (bx':=[]) O (n':=131) O (tV [(0,_),(1,_),(2,_),(9,_),(11,_),(12,_),(13,_),(14,_),(78,_)] [] 131 O O O ?_)
               refine W.condT O (O) ?_
               refine W.l0 2 [.y 79 _,.y 13 _] [] [] [(0,_),(1,_),(2,_),(9,_),(11,_),(12,_),(13,_),(14,_)] [] 131 ⟨mU 14 O O,aU fun _ _ H K=>R.asg (eU K 79 O) O H,Zt⟩ O O O O (tU O ?_)
               refine W.l0 3 [.y 45 _,.y 46 _,.y 14 _] [] [] [(0,_),(1,_),(2,_),(9,_),(11,_),(12,_),(13,_),(14,_)] [] 131 ⟨mU 14 O O,aU fun _ _ H K=>R.addN (i) (1) (eU K 45 O) (kI 1 O) bU H,aU fun _ _ H K=>R.asg (eU K 46 O) O H,Zt⟩ O O O O (tU O ?_)
               exact ⟨⟨(i + 1),bU⟩,(by first | (dsimp only; rw [bK_y (beh_0 h0) (.inl h1)]; rfl) | (dsimp only; rw [bK_y (beh_0 h0) (.inr hc78)]; rfl) | (dsimp only; rw [bK_y (beh_1 h2) (.inl h1)]; rfl) | (dsimp only; rw [bK_y (beh_1 h2) (.inr hc78)]; rfl) | (dsimp only; rw [bK_n2 h1 hc78]) | (dsimp only; rw [bK_n1 h0 (bfalse h2)])),(by simp only []; omega)⟩
             · have hbl:=bK_lt h1 (show i <= l.length by omega)
               refine W.draw (m:=16) (an:=[0,1,3,7,15,31,31,127,255,31,31,1567,3615,8191,16383,32767]) hP dU O (its:=[.y 63 _,.y 64 _,.y 65 _,.y 66 _,.y 67 _,.y 68 _,.y 69 _,.y 70 _,.y 71 _,.y 72 _,.y 73 _,.y 74 _,.y 75 _,.y 76 _,.y 77 _,.y 78 _]) (ks:=[]) (kk:=[]) (live:=[0,1,2,9,11,12,13,14,78]) (env':=[(0,_),(1,_),(2,_),(9,_),(11,_),(12,_),(13,_),(14,_),(78,_)]) (⟨nU O,O,⟨mU 15 O O,mU 63 O O,aW O O (gT (O) O) fun _ _ H K=>R.mov (eU K 13 O) O H,aW O O (gT (O) O) fun _ _ H K=>R.bin (eU K 65 O) (kI 0 O) O Zt H,aW O O (gT (O) O) fun _ _ H K=>R.mov (eU K 66 O) O H,aW O O (gF (dF (bI_pos h1)) O) fun _ _ H K=>R.mov (eU K 0 O) O H,aW O O (gF (dF (bI_pos h1)) O) fun _ _ H K=>R.mov (eU K 14 O) O H,aW O O (gF (dF (bI_pos h1)) O) fun _ _ H K=>R.idxN (i) (SC.sl (K 68 _ O)) (evoI (eU K 69 O)) O bU H dU,aW O O (gF (dF (bI_pos h1)) O) fun _ _ H K=>R.ldE (K 70 _ O) (SC.sl (K 68 _ O)) (map_get! (l:=l) bU) O O O O H,aW O O (gF (dF (bI_pos h1)) O) fun _ _ H K=>R.mov (eU K 0 O) O H,aW O O (gF (dF (bI_pos h1)) O) fun _ _ H K=>R.mov (eU K 13 O) O H,aW O O (gF (dF (bI_pos h1)) O) fun _ _ H K=>R.idxN (((bestK (sortU l) l k i).getD 0)) (SC.sl (K 72 _ O)) (evoI (eU K 73 O)) (bI_get h1) bU H dU,aW O O (gF (dF (bI_pos h1)) O) fun _ _ H K=>R.ldE (K 74 _ O) (SC.sl (K 72 _ O)) (map_get! (l:=l) bU) O O O O H,aW O O (gF (dF (bI_pos h1)) O) fun _ _ H K=>R.callG hC (first_ok l[i]! l[((bestK (sortU l) l k i).getD 0)]! (hx.get (by omega)) (hx.get (bK_lt h1 (by omega)))) (Bc (Bp (eU K 71 O) O O) (Bc (Bp (eU K 75 O) O O) Bn)) (FrsR.one (.bool _)) H,aW O O (gT (O) O) fun _ _ H K=>R.pickF (eU K 67 O) (dF (bI_pos h1)) (eU K 76 O) O H,aU fun _ _ H K=>R.pickT (eU K 64 O) (O) (eU K 77 O) O H,Zt⟩,O,O,O⟩) O (bx':=[]) O (n':=131) O (tV [(0,_),(1,_),(2,_),(9,_),(11,_),(12,_),(13,_),(14,_),(78,_)] [] 131 O O O ?_)
               refine W.cond O (fun hc78=>?_) (fun hc78=>?_)
               · refine W.l0 2 [.y 79 _,.y 13 _] [] [] [(0,_),(1,_),(2,_),(9,_),(11,_),(12,_),(13,_),(14,_)] [] 131 ⟨mU 14 O O,aU fun _ _ H K=>R.asg (eU K 79 O) O H,Zt⟩ O O O O (tU O ?_)
                 refine W.l0 3 [.y 45 _,.y 46 _,.y 14 _] [] [] [(0,_),(1,_),(2,_),(9,_),(11,_),(12,_),(13,_),(14,_)] [] 131 ⟨mU 14 O O,aU fun _ _ H K=>R.addN (i) (1) (eU K 45 O) (kI 1 O) bU H,aU fun _ _ H K=>R.asg (eU K 46 O) O H,Zt⟩ O O O O (tU O ?_)
                 exact ⟨⟨(i + 1),bU⟩,(by first | (dsimp only; rw [bK_y (beh_0 h0) (.inl h1)]; rfl) | (dsimp only; rw [bK_y (beh_0 h0) (.inr hc78)]; rfl) | (dsimp only; rw [bK_y (beh_1 h2) (.inl h1)]; rfl) | (dsimp only; rw [bK_y (beh_1 h2) (.inr hc78)]; rfl) | (dsimp only; rw [bK_n2 h1 hc78]) | (dsimp only; rw [bK_n1 h0 (bfalse h2)])),(by simp only []; omega)⟩
               · refine W.skip ?_
                 refine W.l0 3 [.y 45 _,.y 46 _,.y 14 _] [] [] [(0,_),(1,_),(2,_),(9,_),(11,_),(12,_),(13,_),(14,_)] [] 131 ⟨mU 14 O O,aU fun _ _ H K=>R.addN (i) (1) (eU K 45 O) (kI 1 O) bU H,aU fun _ _ H K=>R.asg (eU K 46 O) O H,Zt⟩ O O O O (tU O ?_)
                 exact ⟨⟨(i + 1),bU⟩,(by first | (dsimp only; rw [bK_y (beh_0 h0) (.inl h1)]; rfl) | (dsimp only; rw [bK_y (beh_0 h0) (.inr hc78)]; rfl) | (dsimp only; rw [bK_y (beh_1 h2) (.inl h1)]; rfl) | (dsimp only; rw [bK_y (beh_1 h2) (.inr hc78)]; rfl) | (dsimp only; rw [bK_n2 h1 hc78]) | (dsimp only; rw [bK_n1 h0 (bfalse h2)])),(by simp only []; omega)⟩
           · refine W.draw (m:=17) (an:=[0,1,3,7,15,15,47,111,255,511,15,15,3087,7183,16383,32767,65535]) hP dU O (its:=[.y 47 _,.y 48 _,.y 49 _,.y 50 _,.y 51 _,.y 52 _,.y 53 _,.y 54 _,.y 55 _,.y 56 _,.y 57 _,.y 58 _,.y 59 _,.y 60 _,.y 61 _,.y 62 _,.y 15 _]) (ks:=[]) (kk:=[]) (live:=[0,1,2,9,11,12,13,14,15]) (env':=[(0,_),(1,_),(2,_),(9,_),(11,_),(12,_),(13,_),(14,_),(15,_)]) (⟨nU O,O,⟨aU fun _ _ H K=>R.al (K 11 _ O) H dU,aU fun _ _ H K=>R.lenE (n:=k) (SC.al (K 47 _ O) (K 11 _ O)) (tk_len (by omega)) H,aU fun _ _ H K=>R.eqlN (k) (0) (eU K 48 O) (kI 0 O) H,mU 49 O O,aW O O (gF (dF h0) O) fun _ _ H K=>R.al (K 11 _ O) H dU,aW O O (gF (dF h0) O) fun _ _ H K=>R.al (K 11 _ O) H dU,aW O O (gF (dF h0) O) fun _ _ H K=>R.lenE (n:=k) (SC.al (K 52 _ O) (K 11 _ O)) (tk_len (by omega)) H,aW O O (gF (dF h0) O) fun _ _ H K=>R.subN (k) (1) (eU K 53 O) (kI 1 O) bU bU H,aW O O (gF (dF h0) O) fun _ _ H K=>R.idxN ((k - 1)) (SC.al (K 51 _ O) (K 11 _ O)) (evoI (eU K 54 O)) O bU H dU,aW O O (gF (dF h0) O) fun _ _ H K=>R.ldE (K 55 _ O) (SC.al (K 51 _ O) (K 11 _ O)) (map_get! (l:=((sortU l).take k)) bU) O O O O H,aW O O (gF (dF h0) O) fun _ _ H K=>R.mov (eU K 0 O) O H,aW O O (gF (dF h0) O) fun _ _ H K=>R.mov (eU K 14 O) O H,aW O O (gF (dF h0) O) fun _ _ H K=>R.idxN (i) (SC.sl (K 57 _ O)) (evoI (eU K 58 O)) O bU H dU,aW O O (gF (dF h0) O) fun _ _ H K=>R.ldE (K 59 _ O) (SC.sl (K 57 _ O)) (map_get! (l:=l) bU) O O O O H,aW O O (gF (dF h0) O) fun _ _ H K=>R.callG hC (first_ok ((sortU l).take k)[k - 1]! l[i]! (hs_tk hx (by omega) (by omega)) (hx.get (by omega))) (Bc (Bp (eU K 56 O) O O) (Bc (Bp (eU K 60 O) O O) Bn)) (FrsR.one (.bool _)) H,aU fun _ _ H K=>R.pickF (eU K 50 O) (dF h0) (eU K 61 O) O H,aU fun _ _ H K=>R.asg (eU K 62 O) O H,Zt⟩,O,O,O⟩) O (bx':=[]) O (n':=131) O (tV [(0,_),(1,_),(2,_),(9,_),(11,_),(12,_),(13,_),(14,_),(15,_)] [] 131 O O O ?_)
             refine W.seq ?_
             by_cases h2 : firS ((sortU l).take k)[k - 1]! l[i]! = true
             · by_cases h1 : (bestK (sortU l) l k i) = none
               · refine W.draw (m:=16) (an:=[0,1,3,7,15,31,31,127,255,31,31,1567,3615,8191,16383,32767]) hP dU O (its:=[.y 63 _,.y 64 _,.y 65 _,.y 66 _,.y 67 _,.x 68,.x 69,.x 70,.x 71,.x 72,.x 73,.x 74,.x 75,.x 76,.y 77 _,.y 78 _]) (ks:=[]) (kk:=[]) (live:=[0,1,2,9,11,12,13,14,78]) (env':=[(0,_),(1,_),(2,_),(9,_),(11,_),(12,_),(13,_),(14,_),(78,_)]) (⟨nU O,O,⟨mU 15 O O,mU 63 O O,aW O O (gT (h2) O) fun _ _ H K=>R.mov (eU K 13 O) O H,aW O O (gT (h2) O) fun _ _ H K=>R.bin (eU K 65 O) (kI 0 O) O Zt H,aW O O (gT (h2) O) fun _ _ H K=>R.mov (eU K 66 O) O H,aF O O (gT (dT (bI_neg h1)) O),aF O O (gT (dT (bI_neg h1)) O),aF O O (gT (dT (bI_neg h1)) O),aF O O (gT (dT (bI_neg h1)) O),aF O O (gT (dT (bI_neg h1)) O),aF O O (gT (dT (bI_neg h1)) O),aF O O (gT (dT (bI_neg h1)) O),aF O O (gT (dT (bI_neg h1)) O),aF O O (gT (dT (bI_neg h1)) O),aW O O (gT (h2) O) fun _ _ H K=>R.pickT (eU K 67 O) (dT (bI_neg h1)) (kB true O) O H,aU fun _ _ H K=>R.pickT (eU K 64 O) (h2) (eU K 77 O) O H,Zt⟩,O,O,O⟩) O (bx':=[]) O (n':=131) O (tV [(0,_),(1,_),(2,_),(9,_),(11,_),(12,_),(13,_),(14,_),(78,_)] [] 131 O O O ?_)
                 refine W.condT O (O) ?_
                 refine W.l0 2 [.y 79 _,.y 13 _] [] [] [(0,_),(1,_),(2,_),(9,_),(11,_),(12,_),(13,_),(14,_)] [] 131 ⟨mU 14 O O,aU fun _ _ H K=>R.asg (eU K 79 O) O H,Zt⟩ O O O O (tU O ?_)
                 refine W.l0 3 [.y 45 _,.y 46 _,.y 14 _] [] [] [(0,_),(1,_),(2,_),(9,_),(11,_),(12,_),(13,_),(14,_)] [] 131 ⟨mU 14 O O,aU fun _ _ H K=>R.addN (i) (1) (eU K 45 O) (kI 1 O) bU H,aU fun _ _ H K=>R.asg (eU K 46 O) O H,Zt⟩ O O O O (tU O ?_)
                 exact ⟨⟨(i + 1),bU⟩,(by first | (dsimp only; rw [bK_y (beh_0 h0) (.inl h1)]; rfl) | (dsimp only; rw [bK_y (beh_0 h0) (.inr hc78)]; rfl) | (dsimp only; rw [bK_y (beh_1 h2) (.inl h1)]; rfl) | (dsimp only; rw [bK_y (beh_1 h2) (.inr hc78)]; rfl) | (dsimp only; rw [bK_n2 h1 hc78]) | (dsimp only; rw [bK_n1 h0 (bfalse h2)])),(by simp only []; omega)⟩
               · have hbl:=bK_lt h1 (show i <= l.length by omega)
                 refine W.draw (m:=16) (an:=[0,1,3,7,15,31,31,127,255,31,31,1567,3615,8191,16383,32767]) hP dU O (its:=[.y 63 _,.y 64 _,.y 65 _,.y 66 _,.y 67 _,.y 68 _,.y 69 _,.y 70 _,.y 71 _,.y 72 _,.y 73 _,.y 74 _,.y 75 _,.y 76 _,.y 77 _,.y 78 _]) (ks:=[]) (kk:=[]) (live:=[0,1,2,9,11,12,13,14,78]) (env':=[(0,_),(1,_),(2,_),(9,_),(11,_),(12,_),(13,_),(14,_),(78,_)]) (⟨nU O,O,⟨mU 15 O O,mU 63 O O,aW O O (gT (h2) O) fun _ _ H K=>R.mov (eU K 13 O) O H,aW O O (gT (h2) O) fun _ _ H K=>R.bin (eU K 65 O) (kI 0 O) O Zt H,aW O O (gT (h2) O) fun _ _ H K=>R.mov (eU K 66 O) O H,aW O O (gF (dF (bI_pos h1)) O) fun _ _ H K=>R.mov (eU K 0 O) O H,aW O O (gF (dF (bI_pos h1)) O) fun _ _ H K=>R.mov (eU K 14 O) O H,aW O O (gF (dF (bI_pos h1)) O) fun _ _ H K=>R.idxN (i) (SC.sl (K 68 _ O)) (evoI (eU K 69 O)) O bU H dU,aW O O (gF (dF (bI_pos h1)) O) fun _ _ H K=>R.ldE (K 70 _ O) (SC.sl (K 68 _ O)) (map_get! (l:=l) bU) O O O O H,aW O O (gF (dF (bI_pos h1)) O) fun _ _ H K=>R.mov (eU K 0 O) O H,aW O O (gF (dF (bI_pos h1)) O) fun _ _ H K=>R.mov (eU K 13 O) O H,aW O O (gF (dF (bI_pos h1)) O) fun _ _ H K=>R.idxN (((bestK (sortU l) l k i).getD 0)) (SC.sl (K 72 _ O)) (evoI (eU K 73 O)) (bI_get h1) bU H dU,aW O O (gF (dF (bI_pos h1)) O) fun _ _ H K=>R.ldE (K 74 _ O) (SC.sl (K 72 _ O)) (map_get! (l:=l) bU) O O O O H,aW O O (gF (dF (bI_pos h1)) O) fun _ _ H K=>R.callG hC (first_ok l[i]! l[((bestK (sortU l) l k i).getD 0)]! (hx.get (by omega)) (hx.get (bK_lt h1 (by omega)))) (Bc (Bp (eU K 71 O) O O) (Bc (Bp (eU K 75 O) O O) Bn)) (FrsR.one (.bool _)) H,aW O O (gT (h2) O) fun _ _ H K=>R.pickF (eU K 67 O) (dF (bI_pos h1)) (eU K 76 O) O H,aU fun _ _ H K=>R.pickT (eU K 64 O) (h2) (eU K 77 O) O H,Zt⟩,O,O,O⟩) O (bx':=[]) O (n':=131) O (tV [(0,_),(1,_),(2,_),(9,_),(11,_),(12,_),(13,_),(14,_),(78,_)] [] 131 O O O ?_)
                 refine W.cond O (fun hc78=>?_) (fun hc78=>?_)
                 · refine W.l0 2 [.y 79 _,.y 13 _] [] [] [(0,_),(1,_),(2,_),(9,_),(11,_),(12,_),(13,_),(14,_)] [] 131 ⟨mU 14 O O,aU fun _ _ H K=>R.asg (eU K 79 O) O H,Zt⟩ O O O O (tU O ?_)
                   refine W.l0 3 [.y 45 _,.y 46 _,.y 14 _] [] [] [(0,_),(1,_),(2,_),(9,_),(11,_),(12,_),(13,_),(14,_)] [] 131 ⟨mU 14 O O,aU fun _ _ H K=>R.addN (i) (1) (eU K 45 O) (kI 1 O) bU H,aU fun _ _ H K=>R.asg (eU K 46 O) O H,Zt⟩ O O O O (tU O ?_)
                   exact ⟨⟨(i + 1),bU⟩,(by first | (dsimp only; rw [bK_y (beh_0 h0) (.inl h1)]; rfl) | (dsimp only; rw [bK_y (beh_0 h0) (.inr hc78)]; rfl) | (dsimp only; rw [bK_y (beh_1 h2) (.inl h1)]; rfl) | (dsimp only; rw [bK_y (beh_1 h2) (.inr hc78)]; rfl) | (dsimp only; rw [bK_n2 h1 hc78]) | (dsimp only; rw [bK_n1 h0 (bfalse h2)])),(by simp only []; omega)⟩
                 · refine W.skip ?_
                   refine W.l0 3 [.y 45 _,.y 46 _,.y 14 _] [] [] [(0,_),(1,_),(2,_),(9,_),(11,_),(12,_),(13,_),(14,_)] [] 131 ⟨mU 14 O O,aU fun _ _ H K=>R.addN (i) (1) (eU K 45 O) (kI 1 O) bU H,aU fun _ _ H K=>R.asg (eU K 46 O) O H,Zt⟩ O O O O (tU O ?_)
                   exact ⟨⟨(i + 1),bU⟩,(by first | (dsimp only; rw [bK_y (beh_0 h0) (.inl h1)]; rfl) | (dsimp only; rw [bK_y (beh_0 h0) (.inr hc78)]; rfl) | (dsimp only; rw [bK_y (beh_1 h2) (.inl h1)]; rfl) | (dsimp only; rw [bK_y (beh_1 h2) (.inr hc78)]; rfl) | (dsimp only; rw [bK_n2 h1 hc78]) | (dsimp only; rw [bK_n1 h0 (bfalse h2)])),(by simp only []; omega)⟩
             · refine W.draw (m:=16) (an:=[0,1,3,7,15,31,31,127,255,31,31,1567,3615,8191,16383,32767]) hP dU O (its:=[.y 63 _,.y 64 _,.x 65,.x 66,.x 67,.x 68,.x 69,.x 70,.x 71,.x 72,.x 73,.x 74,.x 75,.x 76,.x 77,.y 78 _]) (ks:=[]) (kk:=[]) (live:=[0,1,2,9,11,12,13,14,78]) (env':=[(0,_),(1,_),(2,_),(9,_),(11,_),(12,_),(13,_),(14,_),(78,_)]) (⟨nU O,O,⟨mU 15 O O,mU 63 O O,aF O O (gF (bfalse h2) O),aF O O (gF (bfalse h2) O),aF O O (gF (bfalse h2) O),⟨O,⟨_,67,O,O,.inr ⟨O,O⟩⟩,fun h=>absurd h dU⟩,⟨O,⟨_,67,O,O,.inr ⟨O,O⟩⟩,fun h=>absurd h dU⟩,⟨O,⟨_,67,O,O,.inr ⟨O,O⟩⟩,fun h=>absurd h dU⟩,⟨O,⟨_,67,O,O,.inr ⟨O,O⟩⟩,fun h=>absurd h dU⟩,⟨O,⟨_,67,O,O,.inr ⟨O,O⟩⟩,fun h=>absurd h dU⟩,⟨O,⟨_,67,O,O,.inr ⟨O,O⟩⟩,fun h=>absurd h dU⟩,⟨O,⟨_,67,O,O,.inr ⟨O,O⟩⟩,fun h=>absurd h dU⟩,⟨O,⟨_,67,O,O,.inr ⟨O,O⟩⟩,fun h=>absurd h dU⟩,⟨O,⟨_,67,O,O,.inr ⟨O,O⟩⟩,fun h=>absurd h dU⟩,aF O O (gF (bfalse h2) O),aU fun _ _ H K=>R.pickF (eU K 64 O) (bfalse h2) (kB false O) O H,Zt⟩,O,O,O⟩) O (bx':=[]) O (n':=131) O (tV [(0,_),(1,_),(2,_),(9,_),(11,_),(12,_),(13,_),(14,_),(78,_)] [] 131 O O O ?_)
               refine W.condF O (O) ?_
               refine W.skip ?_
               refine W.l0 3 [.y 45 _,.y 46 _,.y 14 _] [] [] [(0,_),(1,_),(2,_),(9,_),(11,_),(12,_),(13,_),(14,_)] [] 131 ⟨mU 14 O O,aU fun _ _ H K=>R.addN (i) (1) (eU K 45 O) (kI 1 O) bU H,aU fun _ _ H K=>R.asg (eU K 46 O) O H,Zt⟩ O O O O (tU O ?_)
               exact ⟨⟨(i + 1),bU⟩,(by first | (dsimp only; rw [bK_y (beh_0 h0) (.inl h1)]; rfl) | (dsimp only; rw [bK_y (beh_0 h0) (.inr hc78)]; rfl) | (dsimp only; rw [bK_y (beh_1 h2) (.inl h1)]; rfl) | (dsimp only; rw [bK_y (beh_1 h2) (.inr hc78)]; rfl) | (dsimp only; rw [bK_n2 h1 hc78]) | (dsimp only; rw [bK_n1 h0 (bfalse h2)])),(by simp only []; omega)⟩
         · obtain rfl : i = l.length:=by omega
           refine W.exit (W.seq ?_)
           obtain ⟨b,hb,hbe,hbs⟩:=best_ok hx kp hc40
           rw [hbe,bI_s]
           refine W.l0 8 [.y 80 _,.y 81 _,.y 82 _,.y 83 _,.y 84 _,.y 85 _,.y 86 _,.y 11 _] [(6,11),(7,86),(7,80)] [(6,11),(7,86)] [(0,_),(1,_),(2,_),(9,_),(11,_),(12,_),(13,_)] [] 131 ⟨aU fun _ _ H K=>R.al (K 11 _ O) H dU,mU 0 O O,mU 13 O O,aU fun _ _ H K=>R.idxN (b) (SC.sl (K 81 _ O)) (evoI (eU K 82 O)) O bU H dU,aU fun _ _ H K=>R.ldE (K 83 _ O) (SC.sl (K 81 _ O)) (map_get! (l:=l) bU) O O O O H,aU fun _ _ H K=>R.bslE (z:=35) (.cons (eU K 84 O) .nil) ⟨⟨O,O,O⟩,Zt⟩ O H dU,aU fun _ _ H K=>R.appE (Or.inr (K 80 _ O)) (K 11 _ O) (SrcO.sc (SC.sl (K 85 _ O)) (pur_lit O)) (show _ = (((sortU l).take (k + 1)).map coD) from (tk_app (by omega) hbs)) (by simp only [List.length_map,List.length_cons,List.length_nil,List.length_take]; omega) H dU dU,aU fun _ _ H K=>R.asgO (K 86 _ O) O H dU,Zt⟩ O O O O (tU O ?_)
           refine W.seq ?_
           refine W.l0 8 [.y 87 _,.y 88 _,.y 89 _,.y 90 _,.y 91 _,.y 92 _,.y 93 _,.y 12 _] [] [] [(0,_),(1,_),(2,_),(9,_),(11,_),(12,_)] [] 131 ⟨mU 12 O O,mU 0 O O,mU 13 O O,aU fun _ _ H K=>R.idxN (b) (SC.sl (K 88 _ O)) (evoI (eU K 89 O)) O bU H dU,aU fun _ _ H K=>R.fdE (K 90 _ O) H dU,aU fun _ _ H K=>R.ldE (K 91 _ O) (SC.sl (K 88 _ O)) (map_get! (l:=l) bU) O O O O H,aU fun _ _ H K=>R.bin (eU K 87 O) (eU K 92 O) O Zt H,aU fun _ _ H K=>R.asg (eU K 93 O) O H,Zt⟩ O O O O (tU O ?_)
           refine W.seq ?_
           rw [hbs]
           refine W.l0 11 [.y 95 _,.y 96 _,.y 97 _,.y 98 _,.y 99 _,.y 100 _,.y 94 _,.y 101 _,.y 102 _,.y 16 _,.y 17 _] [] [] [(0,_),(1,_),(2,_),(9,_),(11,_),(12,_),(16,_)] [] 131 ⟨aU fun _ _ H K=>R.al (K 11 _ O) H dU,aU fun _ _ H K=>R.lenE (n:=(k + 1)) (SC.al (K 95 _ O) (K 11 _ O)) (tk_len (by omega)) H,mU 1 O O,aU fun _ _ H K=>R.lenE (SC.sl (K 97 _ O)) (lN _) H,mU 2 O O,aU fun _ _ H K=>R.callG hC (rfee_ok ((k + 1 : Nat) : Int) ((ws.length : Nat) : Int) r) (Bc (Bp (eU K 96 O) O O) (Bc (Bp (eU K 98 O) O O) (Bc (Bp (eU K 99 O) O O) Bn))) (FrsR.two (.u64 _) (.int _)) H,aU fun _ _ H K=>R.movT (K 100 _ O) O H,aU fun _ _ H K=>R.ext (K 94 _ O) O O H,aU fun _ _ H K=>R.ext (K 94 _ O) O O H,aU fun _ _ H K=>R.asg (eU K 101 O) O H,aU fun _ _ H K=>R.asg (eU K 102 O) O H,Zt⟩ O O O O (tU O ?_)
           refine W.seq ?_
           refine W.l0 5 [.y 103 _,.y 104 _,.y 105 _,.y 106 _,.y 107 _] [] [] [(0,_),(1,_),(2,_),(9,_),(11,_),(12,_),(107,_)] [] 131 ⟨mU 12 O O,mU 9 O O,mU 16 O O,aU fun _ _ H K=>R.bin (eU K 104 O) (eU K 105 O) O Zt H,aU fun _ _ H K=>R.bin (eU K 103 O) (eU K 106 O) O Zt H,Zt⟩ O O O O (tU O ?_)
           refine W.cond O (fun hc107=>?_) (fun hc107=>?_)
           · refine W.seq ?_
             refine W.l0 12 [.y 109 _,.y 110 _,.y 111 _,.y 112 _,.y 113 _,.y 114 _,.y 115 _,.y 108 _,.y 116 _,.y 117 _,.y 18 _,.y 19 _] [] [] [(9,_),(11,_),(12,_),(18,_)] [] 131 ⟨aU fun _ _ H K=>R.al (K 11 _ O) H dU,aU fun _ _ H K=>R.lenE (n:=(k + 1)) (SC.al (K 109 _ O) (K 11 _ O)) (tk_len (by omega)) H,mU 1 O O,aU fun _ _ H K=>R.lenE (SC.sl (K 111 _ O)) (lN _) H,aU fun _ _ H K=>R.addN (ws.length) (1) (eU K 112 O) (kI 1 O) bU H,mU 2 O O,aU fun _ _ H K=>R.callG hC (rfee_ok ((k + 1 : Nat) : Int) ((ws.length + 1 : Nat) : Int) r) (Bc (Bp (eU K 110 O) O O) (Bc (Bp (eU K 113 O) O O) (Bc (Bp (eU K 114 O) O O) Bn))) (FrsR.two (.u64 _) (.int _)) H,aU fun _ _ H K=>R.movT (K 115 _ O) O H,aU fun _ _ H K=>R.ext (K 108 _ O) O O H,aU fun _ _ H K=>R.ext (K 108 _ O) O O H,aU fun _ _ H K=>R.asg (eU K 116 O) O H,aU fun _ _ H K=>R.asg (eU K 117 O) O H,Zt⟩ O O O O (tU O ?_)
             refine W.seq (W.seq ?_)
             refine W.l0 6 [.y 118 _,.y 119 _,.y 120 _,.y 121 _,.y 122 _,.y 123 _] [] [] [(9,_),(11,_),(12,_),(18,_),(123,_)] [] 131 ⟨mU 12 O O,mU 9 O O,mU 18 O O,aU fun _ _ H K=>R.bin (eU K 119 O) (eU K 120 O) O Zt H,aU fun _ _ H K=>R.bin (eU K 121 O) (show ev _ _ (.const (.int .u64 546)) = some (.u64 546) from O) O Zt H,aU fun _ _ H K=>R.bin (eU K 118 O) (eU K 122 O) O Zt H,Zt⟩ O O O O (tU O ?_)
             refine W.cond O (fun hc123=>?_) (fun hc123=>?_)
             · refine W.seq ?_
               refine W.l0 4 [.y 124 _,.y 6 _,.y 7 _,.y 8 _] [(0,11),(1,124)] [(0,11),(1,124)] [(6,_),(7,_),(8,_)] [] 131 ⟨aU fun _ _ H K=>R.movO (K 11 _ O) O H dU,aU fun _ _ H K=>R.asgO (K 124 _ O) O H dU,aU fun _ _ H _=>R.asg (show ev _ _ (.const (.int .u64 0)) = some (.u64 0) from O) O H,aU fun _ _ H _=>R.asg (kI 0 O) O H,Zt⟩ O O O O (tU O ?_)
               refine W.frzS (s:=6) (d':=.sl none 35 (((sortU l).take (k + 1)).map coD)) O O (brw_co _ _) ?_
               refine W.ret ?_
               exact Ends.many (.inr O) (.cons O O O Zt (.cons O O O Zt (.cons O O O Zt .nil))) (fr_n ⟨kt,kp,of_decide_eq_false hc35⟩ (by omega) hno (of_decide_eq_true hc107) (of_decide_eq_true hc123)) (show [(6,true),(7,true),(8,true)].Nodup by decide)
             · refine W.skip (W.seq ?_)
               refine W.l0 9 [.y 125 _,.y 126 _,.y 127 _,.y 128 _,.y 129 _,.y 130 _,.y 6 _,.y 7 _,.y 8 _] [(0,11),(6,125)] [(0,11),(6,125)] [(6,_),(7,_),(8,_)] [] 131 ⟨aU fun _ _ H K=>R.movO (K 11 _ O) O H dU,mU 12 O O,mU 9 O O,aU fun _ _ H K=>R.bin (eU K 126 O) (eU K 127 O) O Zt H,mU 18 O O,aU fun _ _ H K=>R.bin (eU K 128 O) (eU K 129 O) O Zt H,aU fun _ _ H K=>R.asgO (K 125 _ O) O H dU,aU fun _ _ H K=>R.asg (eU K 130 O) O H,aU fun _ _ H _=>R.asg (kI 0 O) O H,Zt⟩ O O O O (tU O ?_)
               refine W.frzS (s:=6) (d':=.sl none 35 (((sortU l).take (k + 1)).map coD)) O O (brw_co _ _) ?_
               refine W.ret ?_
               exact Ends.many (.inr O) (.cons O O O Zt (.cons O O O Zt (.cons O O O Zt .nil))) (fr_y ⟨kt,kp,of_decide_eq_false hc35⟩ (by omega) hno (of_decide_eq_true hc107) (of_decide_eq_false hc123)) (show [(6,true),(7,true),(8,true)].Nodup by decide)
           · refine W.dropS (live:=[0,1,2,9,11,12]) (env':=[(0,_),(1,_),(2,_),(9,_),(11,_),(12,_)]) (bx':=[]) (n':=131) O O O ?_
             refine W.skip ?_
             exact ⟨⟨(k + 1),⟨(by show k + 1 <= l.length; omega),ext_i hno (UInt64.not_le.1 (of_decide_eq_false hc107))⟩⟩,rfl,(by simp only []; omega)⟩
       · obtain rfl : k = l.length:=by omega
         refine W.exit (W.seq ?_)
         refine W.l0 3 [.y 6 _,.y 7 _,.y 8 _] [] [] [(6,_),(7,_),(8,_)] [] 131 ⟨aU fun _ _ H _=>R.asg (kN O) O H,aU fun _ _ H _=>R.asg (show ev _ _ (.const (.int .u64 0)) = some (.u64 0) from O) O H,aU fun _ _ H _=>R.asg (kI 14 O) O H,Zt⟩ O O O O (tU O ?_)
         refine W.wkS (s:=6) (d':=.sl none 35 (([] : List Un).map coD)) O O O (.nils _ _) ?_
         refine W.ret ?_
         exact Ends.many (.inr O) (.cons O O O Zt (.cons O O O Zt (.cons O O O Zt .nil))) (ch_none ⟨kt,kp,of_decide_eq_false hc35⟩ hno) (show [(6,true),(7,true),(8,true)].Nodup by decide)
   · refine W.l0 11 [.y 25 _,.y 26 _,.y 27 _,.y 28 _,.y 29 _,.y 30 _,.y 31 _,.y 32 _,.x 33,.x 34,.y 35 _] [] [] [(0,_),(1,_),(2,_),(9,_),(35,_)] [] 131 ⟨mU 10 O O,aU fun _ _ H K=>R.un (eU K 25 O) O H,mU 26 O O,aW O O (gF (O) O) fun _ _ H K=>R.mov (eU K 0 O) O H,aW O O (gF (O) O) fun _ _ H K=>R.callG hC (coins_ok l hl) (Bc (Bp (eU K 28 O) O O) Bn) (FrsR.one (.bool _)) H,aW O O (gF (O) O) fun _ _ H K=>R.un (eU K 29 O) O H,aU fun _ _ H K=>R.pickF (eU K 27 O) (O) (eU K 30 O) O H,mU 31 O O,aF O O (gT (by rw [dF kp]; rfl) O),aF O O (gT (by rw [dF kp]; rfl) O),aU fun _ _ H K=>R.pickT (eU K 32 O) (by rw [dF kp]; rfl) (kB true O) O H,Zt⟩ O O O O (tU O ?_)
     refine W.condT O (O) ?_
     refine W.seq ?_
     refine W.l0 3 [.y 6 _,.y 7 _,.y 8 _] [] [] [(6,_),(7,_),(8,_)] [] 131 ⟨aU fun _ _ H _=>R.asg (kN O) O H,aU fun _ _ H _=>R.asg (show ev _ _ (.const (.int .u64 0)) = some (.u64 0) from O) O H,aU fun _ _ H _=>R.asg (kI 1 O) O H,Zt⟩ O O O O (tU O ?_)
     refine W.wkS (s:=6) (d':=.sl none 35 (([] : List Un).map coD)) O O O (.nils _ _) ?_
     refine W.ret ?_
     exact Ends.many (.inr O) (.cons O O O Zt (.cons O O O Zt (.cons O O O Zt .nil))) (fr_bad (fun h=>kp h.2.1)) (show [(6,true),(7,true),(8,true)].Nodup by decide)
 · refine W.l0 7 [.y 21 _,.y 22 _,.y 20 _,.y 23 _,.y 24 _,.y 9 _,.y 10 _] [] [] [(0,_),(1,_),(2,_),(9,_),(10,_)] [] 131 ⟨mU 1 O O,aU fun _ _ H K=>R.callG hC (wanted_f ws hw kt) (Bc (Bp (eU K 21 O) O O) Bn) (FrsR.two (.u64 _) (.bool _)) H,aU fun _ _ H K=>R.movT (K 22 _ O) O H,aU fun _ _ H K=>R.ext (K 20 _ O) O O H,aU fun _ _ H K=>R.ext (K 20 _ O) O O H,aU fun _ _ H K=>R.asg (eU K 23 O) O H,aU fun _ _ H K=>R.asg (eU K 24 O) O H,Zt⟩ O O O O (tU O ?_)
   refine W.seq (W.seq ?_)
   refine W.l0 11 [.y 25 _,.y 26 _,.y 27 _,.x 28,.x 29,.x 30,.y 31 _,.y 32 _,.x 33,.x 34,.y 35 _] [] [] [(0,_),(1,_),(2,_),(9,_),(35,_)] [] 131 ⟨mU 10 O O,aU fun _ _ H K=>R.un (eU K 25 O) O H,mU 26 O O,aF O O (gT (O) O),aF O O (gT (O) O),aF O O (gT (O) O),aU fun _ _ H K=>R.pickT (eU K 27 O) (O) (kB true O) O H,mU 31 O O,aF O O (gT (O) O),aF O O (gT (O) O),aU fun _ _ H K=>R.pickT (eU K 32 O) (O) (kB true O) O H,Zt⟩ O O O O (tU O ?_)
   refine W.condT O (O) ?_
   refine W.seq ?_
   refine W.l0 3 [.y 6 _,.y 7 _,.y 8 _] [] [] [(6,_),(7,_),(8,_)] [] 131 ⟨aU fun _ _ H _=>R.asg (kN O) O H,aU fun _ _ H _=>R.asg (show ev _ _ (.const (.int .u64 0)) = some (.u64 0) from O) O H,aU fun _ _ H _=>R.asg (kI 1 O) O H,Zt⟩ O O O O (tU O ?_)
   refine W.wkS (s:=6) (d':=.sl none 35 (([] : List Un).map coD)) O O O (.nils _ _) ?_
   refine W.ret ?_
   exact Ends.many (.inr O) (.cons O O O Zt (.cons O O O Zt (.cons O O O Zt .nil))) (fr_bad (fun h=>kt h.1)) (show [(6,true),(7,true),(8,true)].Nodup by decide)
end Go.Sx

namespace Go.Sx
variable {P : Program} {C : Ctx} {σ σ' σ1 : Sg} {a : Act} {w w' : World} {ρ : Nat -> Nat} {Fe Fe' Fb : Nat -> List Nat}
variable {ops : List Oper} {an : List Nat} {ks kk : List (Nat × Nat)} {its : List It}
end Go.Sx

namespace Go.Sx
open Go.Proofs
def bytOwn (b : List UInt8) : D:=.sl (some 5) 1 (b.map D.u8)
def outOwn (o : OutS) : D:=.agg [.u64 o.value,bytOwn o.script]
def inC (c : Un) : D:=.agg [.agg [hashD c.tx,.u32 c.n],.nils,.u32 4294967295,.nils]
def inOwn (x : InS) : D:=.agg [.agg [hashD x.tx,.u32 x.n],bytOwn x.script,.u32 x.seq,.sl (some 24) 1 (x.wit.map bytOwn)]
def txOwn (t : TxS) : D:=.agg [.u32 t.ver,.sl (some 46) 36 (t.ins.map inOwn),.sl (some 48) 2 (t.outs.map outOwn),.u32 t.lock]
theorem brw_mapO {α : Type} {f g : α -> D} (h : ∀ x,(f x).brw = g x) (l : List α) : (l.map f).map D.brw = l.map g:=by
 rw [List.map_map]
 exact List.map_congr_left fun x _=>h x
theorem brw_bytOwn (b : List UInt8) : (bytOwn b).brw = bytesD b:=by
 simp only [bytOwn,bytesD,D.brw,brws_eq]
 rw [brw_mapO (g:=D.u8) (fun _=>rfl)]
theorem brw_inOwn (x : InS) : (inOwn x).brw = inD x:=by
 simp only [inOwn,inD,D.brw,brws_eq,List.map_cons,List.map_nil,brw_hash,brw_bytOwn]
 rw [brw_mapO brw_bytOwn]
theorem brw_outOwn (x : OutS) : (outOwn x).brw = outD x:=by
 simp only [outOwn,outD,D.brw,brws_eq,List.map_cons,List.map_nil,brw_bytOwn]
theorem brw_txOwn (t : TxS) : (txOwn t).brw = txD t:=by
 simp only [txOwn,txD,D.brw,brws_eq,List.map_cons,List.map_nil]
 rw [brw_mapO brw_inOwn,brw_mapO brw_outOwn]
theorem frs_bytOwn (b : List UInt8) : Frs (bytOwn b):=.sl _ _ _ (frs_map (fun x=>.u8 x))
def zeroT : TxS:=⟨0,[],[],0⟩
theorem wk_zeroT : Wk (.agg [.u32 0,.nils,.nils,.u32 0]) (txD zeroT):=
 .aggL (.cons (.refl _) (.cons (.nils _ _) (.cons (.nils _ _) (.cons (.refl _) .nil))))
def mkI (c : Un) : InS:=⟨c.tx,c.n,[],4294967295,[]⟩
theorem wk_in (c : Un) : Wk (inC c) (inOwn (mkI c)):=
 .aggL (.cons (.refl _) (.cons (.nils _ _) (.cons (.refl _) (.cons (.nils _ _) .nil))))
theorem wk_ins (o : Option Nat) (cs : List Un) : Wk (.sl o 36 (cs.map inC)) (.sl o 36 ((cs.map mkI).map inOwn)):=by
 rw [List.map_map]
 exact .slM fun c _=>wk_in c
theorem wk_mk (cs : List Un) (os : List OutS) : Wk (.agg [.u32 2,.sl (some 46) 36 (cs.map inC),.sl (some 48) 2 (os.map outOwn),.u32 0]) (txOwn ⟨2,cs.map mkI,os,0⟩):=
 .aggL (.cons (.refl _) (.cons (wk_ins _ cs) (.cons (.refl _) (.cons (.refl _) .nil))))
theorem wk_mkE (cs : List Un) (e : Nat) : Wk (.agg [.u32 2,.sl (some 46) 36 (cs.map inC),.nils,.u32 0]) (.agg [.u32 2,.sl (some 46) 36 (cs.map inC),.sl (some e) 2 [],.u32 0]):=
 .aggL (.cons (.refl _) (.cons (.refl _) (.cons (.nils _ _) (.cons (.refl _) .nil))))
def woS (w : Wnt) : OutS:=⟨w.value,w.script⟩
def mkO (ws : List Wnt) (ch : UInt64) (own : List UInt8) : List OutS:=if 0 < ch then ws.map woS ++ [⟨ch,own⟩] else ws.map woS
def mkX (l : List Un) (ws : List Wnt) (own : List UInt8) (r : UInt64) : TxS:=⟨2,(chC l ws r).map mkI,mkO ws (chV l ws r) own,0⟩
def mkE (l : List Un) (ws : List Wnt) (own : List UInt8) (r : UInt64) : Int:=if chE l ws r = 0 then (if 1000 < own.length then 1 else if mayS (mkX l ws own r) = true then 0 else 6) else chE l ws r
def mkT (l : List Un) (ws : List Wnt) (own : List UInt8) (r : UInt64) : TxS:=if mkE l ws own r = 0 then mkX l ws own r else zeroT
theorem mk_app (os : List OutS) (v : UInt64) (sc : List UInt8) : os.map outOwn ++ [.agg [.u64 v,.sl (some 5) 1 (sc.map D.u8)]] = (os ++ [(⟨v,sc⟩ : OutS)]).map outOwn:=by
 rw [List.map_append]; rfl
theorem mkI_app {cs : List Un} {i : Nat} (h : i < cs.length) : (cs.take i).map inC ++ [.agg [.agg [hashD cs[i]!.tx,.u32 cs[i]!.n],.nils,.u32 4294967295,.nils]] = (cs.take (i + 1)).map inC:=by
 rw [take_s h,List.map_append]; rfl
theorem woS_app {ws : List Wnt} {i : Nat} (h : i < ws.length) : (ws.take i).map woS ++ [(⟨ws[i]!.value,ws[i]!.script⟩ : OutS)] = (ws.take (i + 1)).map woS:=by
 rw [take_s h,List.map_append]; rfl
theorem mkO_y {ws : List Wnt} {ch : UInt64} {own : List UInt8} (h : 0 < ch) : ws.map woS ++ [(⟨ch,own⟩ : OutS)] = mkO ws ch own:=by rw [mkO,if_pos h]
theorem mkO_n {ws : List Wnt} {ch : UInt64} {own : List UInt8} (h : ¬ 0 < ch) : ws.map woS = mkO ws ch own:=by rw [mkO,if_neg h]
theorem mk_1 {l : List Un} {ws : List Wnt} {own : List UInt8} {r : UInt64} (h : ¬ chE l ws r = 0) : [txD zeroT,.int (chE l ws r)] = [txD (mkT l ws own r),.int (mkE l ws own r)]:=by
 have e : mkE l ws own r = chE l ws r:=by rw [mkE,if_neg h]
 rw [mkT,e,if_neg h]
theorem mk_2 {l : List Un} {ws : List Wnt} {own : List UInt8} {r : UInt64} (h : chE l ws r = 0) (h2 : 1000 < own.length) : [txD zeroT,.int 1] = [txD (mkT l ws own r),.int (mkE l ws own r)]:=by
 have e : mkE l ws own r = 1:=by rw [mkE,if_pos h,if_pos h2]
 rw [mkT,e,if_neg (by decide)]
theorem mk_3 {l : List Un} {ws : List Wnt} {own : List UInt8} {r : UInt64} (h : chE l ws r = 0) (h2 : ¬ 1000 < own.length) (h3 : mayS (mkX l ws own r) = false) : [txD zeroT,.int 6] = [txD (mkT l ws own r),.int (mkE l ws own r)]:=by
 have e : mkE l ws own r = 6:=by rw [mkE,if_pos h,if_neg h2,h3]; rfl
 rw [mkT,e,if_neg (by decide)]
theorem mk_4 {l : List Un} {ws : List Wnt} {own : List UInt8} {r : UInt64} (h : chE l ws r = 0) (h2 : ¬ 1000 < own.length) (h3 : mayS (mkX l ws own r) = true) : [txD (mkX l ws own r),.int 0] = [txD (mkT l ws own r),.int (mkE l ws own r)]:=by
 have e : mkE l ws own r = 0:=by rw [mkE,if_pos h,if_neg h2,if_pos h3]
 rw [mkT,e,if_pos rfl]
theorem insS_small {l : List InS} (h : ∀ x ∈ l,x.tx.length = 32 /\ x.script = []) : ∀ i ≤ l.length,(insS l i).length <= i * 49:=by
 intro i
 induction i with
 | zero=>intro _; simp [insS]
 | succ i ih=>
  intro hi
  have h1:=h _ (get_in (l:=l) (i:=i) (by omega))
  have h2:=ih (by omega)
  have h3:=itemS_len l[i]!.script
  rw [h1.2,List.length_nil] at h3
  simp only [insS,inS,List.length_append,lowI_len,h1.1,h1.2] at *
  omega
theorem outsS_small {l : List OutS} (h : ∀ x ∈ l,x.script.length <= 1000) : ∀ i ≤ l.length,(outsS l i).length <= i * 1017:=by
 intro i
 induction i with
 | zero=>intro _; simp [outsS]
 | succ i ih=>
  intro hi
  have h1:=h _ (get_in (l:=l) (i:=i) (by omega))
  have h2:=ih (by omega)
  have h3:=itemS_len l[i]!.script
  simp only [outsS,outS',List.length_append,lowI_len] at *
  omega
theorem witsS_small {l : List InS} (h : ∀ x ∈ l,x.wit = []) : ∀ i ≤ l.length,(witsS l i).length <= i * 9:=by
 intro i
 induction i with
 | zero=>intro _; simp [witsS]
 | succ i ih=>
  intro hi
  have h1:=h _ (get_in (l:=l) (i:=i) (by omega))
  have h2:=ih (by omega)
  have h3:=countS_len l[i]!.wit.length
  simp only [witsS,h1,witS,List.length_append,List.length_nil] at *
  omega
theorem small_wf {t : TxS} (hi : t.ins.length <= 5000) (ho : t.outs.length <= 1000) (h1 : ∀ x ∈ t.ins,x.tx.length = 32 /\ x.script = [] /\ x.wit = []) (h2 : ∀ x ∈ t.outs,x.script.length <= 1000) : t.wf where
 ins:=by omega
 outs:=by omega
 hash x hx:=(h1 x hx).1
 scr x hx:=by rw [(h1 x hx).2.1]; simp
 oscr x hx:=Nat.le_trans (h2 x hx) (by decide)
 insb i h:=by have:=insS_small (fun x hx=>⟨(h1 x hx).1,(h1 x hx).2.1⟩) i h; omega
 outsb i h:=by have:=outsS_small h2 i h; omega
 witsb i h:=by have:=witsS_small (fun x hx=>(h1 x hx).2.2) i h; omega
 witl x hx:=by
  rw [(h1 x hx).2.2]
  refine ⟨by simp,fun i hi=>?_⟩
  have : i = 0:=by simpa using hi
  rw [this]; simp [witS]
 witi x hx b hb:=by rw [(h1 x hx).2.2] at hb; cases hb
theorem chC_sub {l : List Un} {ws : List Wnt} {r : UInt64} : ∀ c ∈ chC l ws r,c ∈ sortU l:=fun c hc=>by
 unfold chC at hc
 split at hc
 · split at hc
   · exact List.mem_of_mem_take hc
   · cases hc
 · cases hc
theorem chC_len (l : List Un) (ws : List Wnt) (r : UInt64) : (chC l ws r).length <= l.length:=by
 unfold chC
 split
 · split
   · rw [List.length_take,sortU_len]; omega
   · simp
 · simp
theorem chC_hs {l : List Un} {ws : List Wnt} {r : UInt64} (hx : hs32 l) : hs32 (chC l ws r):=fun c hc=>sortU_hs hx c (chC_sub c hc)
theorem chE_P {l : List Un} {ws : List Wnt} {r : UInt64} (h : chE l ws r = 0) : chP l ws r:=by
 unfold chE at h
 split at h
 · assumption
 · cases h
theorem mkO_len (ws : List Wnt) (ch : UInt64) (own : List UInt8) : (mkO ws ch own).length <= ws.length + 1:=by unfold mkO; split <;> simp
theorem mkO_scr {ws : List Wnt} {ch : UInt64} {own : List UInt8} (hw : ∀ w ∈ ws,w.script.length <= 1000) (ho : own.length <= 1000) : ∀ x ∈ mkO ws ch own,x.script.length <= 1000:=fun x hx=>by
 have h1 : ∀ x ∈ ws.map woS,x.script.length <= 1000:=fun x hx=>by
  obtain ⟨w,hw',rfl⟩:=List.mem_map.1 hx
  exact hw w hw'
 unfold mkO at hx
 split at hx
 · rcases List.mem_append.1 hx with h | h
   · exact h1 x h
   · rw [List.mem_singleton.1 h]; exact ho
 · exact h1 x hx
theorem mkX_wf {l : List Un} {ws : List Wnt} {own : List UInt8} {r : UInt64} (hl : l.length <= 4096) (hx : hs32 l) (h : chE l ws r = 0) (ho : ¬ 1000 < own.length) : (mkX l ws own r).wf:=by
 have hp:=chE_P h
 have h1:=chC_len l ws r
 have h2:=mkO_len ws (chV l ws r) own
 have h3:=hp.1.2.1
 refine small_wf (by simp [mkX]; omega) (by simp only [mkX]; omega) (fun x hxm=>?_) ?_
 · obtain ⟨c,hc,rfl⟩:=List.mem_map.1 hxm
   exact ⟨chC_hs hx c hc,rfl,rfl⟩
 · exact mkO_scr (fun w hw=>by
    obtain ⟨i,hi,rfl⟩:=mem_get hw
    exact (hp.1.2.2 i hi).2.2) (by omega)
end Go.Sx

namespace Go.Sx
open Go.Proofs
theorem make1_ok (cs : List Un) (os : List OutS) (sc : List UInt8) (v : UInt64) (ho : os.length <= 1000) (hs : sc.length <= 1000000) : FnB Try.prog gl 31 [.sl none 1 (sc.map D.u8),.u64 v,.ptr 0 0 []] [(0,.var (.agg [.u32 2,.sl (some 46) 36 (cs.map inC),.sl (some 48) 2 (os.map outOwn),.u32 0]))] (.tup []) [(0,.var (.agg [.u32 2,.sl (some 46) 36 (cs.map inC),.sl (some 48) 2 ((os ++ [(⟨v,sc⟩ : OutS)]).map outOwn),.u32 0]))] []:=by
 refine FnB.of (n:=14) (ids:=[0]) Try.func31 rfl rfl rfl (Nat.le_of_ble_eq_true rfl) fun C hC hD=>?_
 refine W.draw (m:=7) (an:=[0,1,0,0,8,28,60,127,255,511]) hP (by decide) rfl (its:=[⟨5,_,true⟩,⟨6,_,true⟩,⟨7,_,true⟩,⟨8,_,true⟩,⟨9,_,true⟩,⟨10,_,true⟩,⟨11,_,true⟩]) (ks:=[(5,9),(6,10)]) (kk:=[(5,9),(6,10)]) (live:=[2,6,11]) (env':=[(2,_),(6,_),(11,_)])
  (⟨Nat.le_of_ble_eq_true rfl,rfl,
   ⟨⟨rfl,rfl,fun _ τ hb ht hτ=>R.fdP (hτ 2 _ rfl) ht⟩,
   ⟨⟨rfl,rfl,fun _ τ hb ht hτ=>R.ldO (hτ 5 _ rfl) (hb 0 _ rfl) rfl ht⟩,
   ⟨⟨rfl,rfl,fun _ τ hb ht hτ=>R.mov (evt (hτ 1 _ rfl)) rfl ht⟩,
   ⟨⟨rfl,rfl,fun _ τ hb ht hτ=>R.mov (evt (hτ 0 _ rfl)) rfl ht⟩,
   ⟨⟨rfl,rfl,fun _ τ hb ht hτ=>R.callG hC (sclone_ok sc (by omega)) (Bors.cons (Bor.pur (evt (hτ 8 _ rfl)) rfl rfl) Bors.nil) (FrsR.one (frs_bytOwn sc)) ht⟩,
   ⟨⟨rfl,rfl,fun _ τ hb ht hτ=>R.bldO (l:=[.u64 0,.nils]) (l':=[_,_]) (.pur (evt (hτ 7 _ rfl)) rfl rfl rfl (.own (hτ 9 _ rfl) rfl rfl rfl rfl (.nil rfl))) rfl ht⟩,
   ⟨⟨rfl,rfl,fun _ τ hb ht hτ=>R.bslO (z:=2) (.own (hτ 10 _ rfl) rfl rfl rfl rfl .nil) rfl rfl ht (by decide)⟩,
   trivial⟩⟩⟩⟩⟩⟩⟩,rfl,rfl,rfl⟩)
  rfl (bx':=[(0,.var _)]) rfl (n':=14) rfl (⟨rfl,_,R.appBP2 (show Sg.get _ 6 = some _ from rfl) (show Sg.box _ 0 = some _ from rfl) rfl rfl rfl rfl (show Sg.get _ 6 = some _ from rfl) (show Sg.get _ 11 = some _ from rfl) rfl (show _ = ((os ++ [(⟨v,sc⟩ : OutS)]).map outOwn) from (mk_app _ _ _)) (by simp only [List.length_map,List.length_cons,List.length_nil]; omega) (Nat.le_of_ble_eq_true rfl) (by decide) (by decide),⟨rfl,_,R.fdP (show Sg.get _ 2 = some _ from rfl) (Nat.le_of_ble_eq_true rfl),⟨rfl,_,R.stOZ (show Sg.get _ 13 = some _ from rfl) (show Sg.box _ 0 = some _ from rfl) rfl (show Sg.get _ 12 = some _ from rfl) rfl rfl (by rfl) (by rfl) rfl rfl,⟨[],[],[(0,.var _)],14,rfl,rfl,rfl, ?_⟩⟩⟩⟩)
 exact EndsB.none' (r:=.dead) (.inl rfl) rfl (rfl) ⟨rfl,trivial⟩
end Go.Sx

namespace Go.Sx
open Go.Proofs
theorem wnumber_ok (b : List UInt8) (x : UInt64) (n : Nat) (hn : n <= 8) (hb : b.length <= 10000000) : FnB Try.prog gl 59 [.ptr 0 0 [],.u64 x,.int ((n : Nat) : Int)] [(0,.var (.agg [.sl (some 5) 1 (b.map D.u8)]))] (.tup []) [(0,.var (.agg [.sl (some 5) 1 ((b ++ lowI x n).map D.u8)]))] []:=by
 refine FnB.of (n:=23) (ids:=[0]) Try.func59 rfl rfl rfl (nU rfl) fun C hC hD=>?_
 refine W.seq ?_
 refine W.l0 2 [.y 6 _,.y 7 _] [] [] [(0,_),(1,_),(6,_),(7,_)] [(0,.var _)] 23 ⟨mU 2 O O,aU fun _ _ H _=>R.mov (kI 0 O) O H,Zt⟩ O O O O (tU O ?_)
 refine W.block ?_
 refine W.loop (α:={q__ : Nat // q__ <= n}) (fun q__=>⟨23,[(0,.ptr 0 0 []),(1,.u64 (shN x q__.1)),(6,.int ((n : Nat) : Int)),(7,.int ((q__.1 : Nat) : Int))],[(0,.var (.agg [.sl (some 5) 1 ((b ++ lowI x q__.1).map D.u8)]))]⟩) (fun q__=>n - q__.1) ⟨(0),bU⟩ (by simp only [lowI,List.append_nil]; rfl) ?_
 rintro ⟨i,hi⟩
 show W _ _ _ _ ⟨23,[(0,.ptr 0 0 []),(1,.u64 (shN x i)),(6,.int ((n : Nat) : Int)),(7,.int ((i : Nat) : Int))],[(0,.var (.agg [.sl (some 5) 1 ((b ++ lowI x i).map D.u8)]))]⟩
 have hi : i <= n:=hi
 have hll:=lowI_len x i
 refine W.seq ?_
 refine W.l0 1 [.y 8 _] [] [] [(0,_),(1,_),(6,_),(7,_),(8,_)] [(0,.var _)] 23 ⟨aU fun _ _ H K=>R.lssN (i) (n) (eU K 7 O) (eU K 6 O) H,Zt⟩ O O O O (tU O ?_)
 refine W.seq ?_
 refine W.condD O (fun hc8=>?_) (fun hc8=>?_)
 · refine W.skip (W.seq (W.block (W.seq ?_)))
   refine W.l0 12 [.y 9 _,.y 10 _,.y 11 _,.y 12 _,.y 13 _,.y 14 _,.y 15 _,.y 16 _] [] [] [(0,_),(1,_),(6,_),(7,_),(9,_),(13,_),(16,_)] [(0,.var _)] 23 ⟨mU 0 O O,mU 0 O O,aU fun _ _ H K=>R.nilcP (K 10 _ O) H,aU (fU 11 O O),aU fun _ B H K=>R.ldO (K 12 _ O) (B 0 _ O) O H,mU 1 O O,aU fun _ _ H K=>R.conv (eU K 14 O) O H,aU fun _ _ H K=>R.bslE (z:=1) (.cons (eU K 15 O) .nil) ⟨⟨O,O,O⟩,Zt⟩ O H dU,Zt⟩ O O O O (⟨O,_,R.appBP (gU 13 O) (xU 0 O) O O O O (gU 13 O) (SrcO.sc (SC.sl (gU 16 O)) (pur_lit O)) (show _ = ((b ++ lowI x (i + 1)).map D.u8) from (by simp [lowI])) bU (nU O) dU dU,⟨O,_,R.nilcP (gU 9 O) (nU O),⟨O,_,R.fdP (gU 18 O) (nU O),⟨O,_,R.stOZ (gU 19 O) (xU 0 O) O (gU 17 O) O O (by rfl) (by rfl) O O,tV [(0,_),(1,_),(6,_),(7,_)] [(0,.var _)] 23 O O O ?_⟩⟩⟩⟩)
   refine W.l0 3 [.y 20 _,.y 21 _,.y 1 _] [] [] [(0,_),(1,_),(6,_),(7,_)] [(0,.var _)] 23 ⟨mU 1 O O,aU fun _ _ H K=>R.bin (eU K 20 O) (show ev _ _ (.const (.int .u64 8)) = some (.u64 8) from O) O bV H,aU fun _ _ H K=>R.asg (eU K 21 O) O H,Zt⟩ O O O O (tU O ?_)
   refine W.l0 2 [.y 22 _,.y 7 _] [] [] [(0,_),(1,_),(6,_),(7,_)] [(0,.var _)] 23 ⟨aU fun _ _ H K=>R.addN (i) (1) (eU K 7 O) (kI 1 O) bU H,mU 22 O O,Zt⟩ O O O O (tU O ?_)
   exact ⟨⟨(i + 1),bU⟩,rfl,(by simp only []; omega)⟩
 · obtain rfl : i = n:=by omega
   refine W.exit ?_
   exact EndsB.none' (r:=.dead) (.inl O) O (O) ⟨O,Zt⟩
theorem wcount_ok (b : List UInt8) (n : Nat) (hb : b.length <= 9000000) : FnB Try.prog gl 61 [.ptr 0 0 [],.int ((n : Nat) : Int)] [(0,.var (.agg [.sl (some 5) 1 (b.map D.u8)]))] (.tup []) [(0,.var (.agg [.sl (some 5) 1 ((b ++ countS n).map D.u8)]))] []:=by
 refine FnB.of (n:=34) (ids:=[0]) Try.func61 rfl rfl rfl (nU rfl) fun C hC hD=>?_
 refine W.seq ?_
 refine W.l0 3 [.y 5 _,.y 6 _,.y 4 _] [] [] [(0,_),(4,_)] [(0,.var _)] 34 ⟨mU 1 O O,aU fun _ _ H K=>R.convE (d:=.u64 (cU n)) (eU K 5 O) O (O) H,aU fun _ _ H K=>R.asg (eU K 6 O) O H,Zt⟩ O O O O (tU O ?_)
 refine W.block (W.seq ?_)
 refine W.l0 3 [.y 13 _,.y 14 _,.y 12 _] [] [] [(0,_),(4,_),(12,_)] [(0,.var _)] 34 ⟨mU 4 O O,aU fun _ _ H K=>R.bin (eU K 13 O) (show ev _ _ (.const (.int .u64 253)) = some (.u64 253) from O) O Zt H,aU fun _ _ H K=>R.asg (eU K 14 O) O H,Zt⟩ O O O O (tU O ?_)
 refine W.cond O (fun hc12=>?_) (fun hc12=>?_)
 · refine W.l0 3 [.y 15 _,.y 16 _] [] [] [(15,_),(16,_)] [(0,.var _)] 34 ⟨mU 0 O O,mU 4 O O,Zt⟩ O O O O (⟨O,_,R.callB [(0,0)] hC (wnumber_ok b (cU n) 1 dU (by first | omega | (simp only [List.length_append,lowI_len,List.length_cons,List.length_nil]; omega) | simp)) (EvB.cons (gV 15 O) O O O (EvB.cons (gV 16 O) O O O (EvB.cons (kI 1 O) O O O EvB.nil))) O ⟨O,Zt⟩ ⟨O,Zt⟩ O O O O O O (nU O),tV [] [(0,.var _)] 34 O O O ?_⟩)
   exact EndsB.none' (r:=.dead) (.inl O) O (by simp only [countS,if_pos (of_decide_eq_true hc12)]; rfl) ⟨O,Zt⟩
 · refine W.seq ?_
   refine W.l0 3 [.y 19 _,.y 20 _,.y 18 _] [] [] [(0,_),(4,_),(18,_)] [(0,.var _)] 34 ⟨mU 4 O O,aU fun _ _ H K=>R.bin (eU K 19 O) (show ev _ _ (.const (.int .u64 65535)) = some (.u64 65535) from O) O Zt H,aU fun _ _ H K=>R.asg (eU K 20 O) O H,Zt⟩ O O O O (tU O ?_)
   refine W.cond O (fun hc18=>?_) (fun hc18=>?_)
   · refine W.seq ?_
     refine W.l0 2 [.y 21 _] [] [] [(0,_),(4,_),(21,_)] [(0,.var _)] 34 ⟨mU 0 O O,Zt⟩ O O O O (⟨O,_,R.callB [(0,0)] hC (wnumber_ok b 253 1 dU (by first | omega | (simp only [List.length_append,lowI_len,List.length_cons,List.length_nil]; omega) | simp)) (EvB.cons (gV 21 O) O O O (EvB.cons (show ev _ _ (.const (.int .u64 253)) = some (.u64 253) from O) O O O (EvB.cons (kI 1 O) O O O EvB.nil))) O ⟨O,Zt⟩ ⟨O,Zt⟩ O O O O O O (nU O),tV [(0,_),(4,_)] [(0,.var _)] 34 O O O ?_⟩)
     refine W.l0 3 [.y 23 _,.y 24 _] [] [] [(23,_),(24,_)] [(0,.var _)] 34 ⟨mU 0 O O,mU 4 O O,Zt⟩ O O O O (⟨O,_,R.callB [(0,0)] hC (wnumber_ok (b ++ lowI 253 1) (cU n) 2 dU (by first | omega | (simp only [List.length_append,lowI_len,List.length_cons,List.length_nil]; omega) | simp)) (EvB.cons (gV 23 O) O O O (EvB.cons (gV 24 O) O O O (EvB.cons (kI 2 O) O O O EvB.nil))) O ⟨O,Zt⟩ ⟨O,Zt⟩ O O O O O O (nU O),tV [] [(0,.var _)] 34 O O O ?_⟩)
     exact EndsB.none' (r:=.dead) (.inl O) O (by simp only [countS,if_neg (of_decide_eq_false hc12),if_pos (of_decide_eq_true hc18),List.append_assoc]; rfl) ⟨O,Zt⟩
   · refine W.seq ?_
     refine W.l0 3 [.y 27 _,.y 28 _,.y 26 _] [] [] [(0,_),(4,_),(26,_)] [(0,.var _)] 34 ⟨mU 4 O O,aU fun _ _ H K=>R.bin (eU K 27 O) (show ev _ _ (.const (.int .u64 4294967295)) = some (.u64 4294967295) from O) O Zt H,aU fun _ _ H K=>R.asg (eU K 28 O) O H,Zt⟩ O O O O (tU O ?_)
     refine W.cond O (fun hc26=>?_) (fun hc26=>?_)
     · refine W.seq ?_
       refine W.l0 2 [.y 29 _] [] [] [(0,_),(4,_),(29,_)] [(0,.var _)] 34 ⟨mU 0 O O,Zt⟩ O O O O (⟨O,_,R.callB [(0,0)] hC (wnumber_ok b 254 1 dU (by first | omega | (simp only [List.length_append,lowI_len,List.length_cons,List.length_nil]; omega) | simp)) (EvB.cons (gV 29 O) O O O (EvB.cons (show ev _ _ (.const (.int .u64 254)) = some (.u64 254) from O) O O O (EvB.cons (kI 1 O) O O O EvB.nil))) O ⟨O,Zt⟩ ⟨O,Zt⟩ O O O O O O (nU O),tV [(0,_),(4,_)] [(0,.var _)] 34 O O O ?_⟩)
       refine W.l0 3 [.y 31 _,.y 32 _] [] [] [(31,_),(32,_)] [(0,.var _)] 34 ⟨mU 0 O O,mU 4 O O,Zt⟩ O O O O (⟨O,_,R.callB [(0,0)] hC (wnumber_ok (b ++ lowI 254 1) (cU n) 4 dU (by first | omega | (simp only [List.length_append,lowI_len,List.length_cons,List.length_nil]; omega) | simp)) (EvB.cons (gV 31 O) O O O (EvB.cons (gV 32 O) O O O (EvB.cons (kI 4 O) O O O EvB.nil))) O ⟨O,Zt⟩ ⟨O,Zt⟩ O O O O O O (nU O),tV [] [(0,.var _)] 34 O O O ?_⟩)
       exact EndsB.none' (r:=.dead) (.inl O) O (by simp only [countS,if_neg (of_decide_eq_false hc12),if_neg (of_decide_eq_false hc18),if_pos (of_decide_eq_true hc26),List.append_assoc]; rfl) ⟨O,Zt⟩
     · refine W.seq ?_
       refine W.l0 2 [.y 7 _] [] [] [(0,_),(4,_),(7,_)] [(0,.var _)] 34 ⟨mU 0 O O,Zt⟩ O O O O (⟨O,_,R.callB [(0,0)] hC (wnumber_ok b 255 1 dU (by first | omega | (simp only [List.length_append,lowI_len,List.length_cons,List.length_nil]; omega) | simp)) (EvB.cons (gV 7 O) O O O (EvB.cons (show ev _ _ (.const (.int .u64 255)) = some (.u64 255) from O) O O O (EvB.cons (kI 1 O) O O O EvB.nil))) O ⟨O,Zt⟩ ⟨O,Zt⟩ O O O O O O (nU O),tV [(0,_),(4,_)] [(0,.var _)] 34 O O O ?_⟩)
       refine W.l0 3 [.y 9 _,.y 10 _] [] [] [(9,_),(10,_)] [(0,.var _)] 34 ⟨mU 0 O O,mU 4 O O,Zt⟩ O O O O (⟨O,_,R.callB [(0,0)] hC (wnumber_ok (b ++ lowI 255 1) (cU n) 8 dU (by first | omega | (simp only [List.length_append,lowI_len,List.length_cons,List.length_nil]; omega) | simp)) (EvB.cons (gV 9 O) O O O (EvB.cons (gV 10 O) O O O (EvB.cons (kI 8 O) O O O EvB.nil))) O ⟨O,Zt⟩ ⟨O,Zt⟩ O O O O O O (nU O),tV [] [(0,.var _)] 34 O O O ?_⟩)
       exact EndsB.none' (r:=.dead) (.inl O) O (by simp only [countS,if_neg (of_decide_eq_false hc12),if_neg (of_decide_eq_false hc18),if_neg (of_decide_eq_false hc26),List.append_assoc]; rfl) ⟨O,Zt⟩
theorem witem_ok (b x : List UInt8) (hb : b.length <= 8000000) (hx : x.length <= 1000000) : FnB Try.prog gl 62 [.ptr 0 0 [],.sl none 1 (x.map D.u8)] [(0,.var (.agg [.sl (some 5) 1 (b.map D.u8)]))] (.tup []) [(0,.var (.agg [.sl (some 5) 1 ((b ++ itemS x).map D.u8)]))] []:=by
 refine FnB.of (n:=17) (ids:=[0]) Try.func62 rfl rfl rfl (nU rfl) fun C hC hD=>?_
 refine W.seq ?_
 refine W.l0 4 [.y 4 _,.y 5 _,.y 6 _] [] [] [(0,_),(1,_),(4,_),(6,_)] [(0,.var _)] 17 ⟨mU 0 O O,mU 1 O O,aU fun _ _ H K=>R.lenE (SC.sl (K 5 _ O)) (lN _) H,Zt⟩ O O O O (⟨O,_,R.callB [(0,0)] hC (wcount_ok b x.length (by omega)) (EvB.cons (gV 4 O) O O O (EvB.cons (gV 6 O) O O O EvB.nil)) O ⟨O,Zt⟩ ⟨O,Zt⟩ O O O O O O (nU O),tV [(0,_),(1,_)] [(0,.var _)] 17 O O O ?_⟩)
 have hcl:=countS_len x.length
 refine W.l0 10 [.y 8 _,.y 9 _,.y 10 _,.y 11 _,.y 12 _,.y 13 _] [] [] [(8,_),(12,_),(13,_)] [(0,.var _)] 17 ⟨mU 0 O O,mU 0 O O,aU fun _ _ H K=>R.nilcP (K 9 _ O) H,aU (fU 10 O O),aU fun _ B H K=>R.ldO (K 11 _ O) (B 0 _ O) O H,mU 1 O O,Zt⟩ O O O O (⟨O,_,R.appBP (gU 12 O) (xU 0 O) O O O O (gU 12 O) (SrcO.sc (SC.sl (gU 13 O)) (pur_map (fun _=>rfl))) (app_map) bU (nU O) dU dU,⟨O,_,R.nilcP (gU 8 O) (nU O),⟨O,_,R.fdP (gU 15 O) (nU O),⟨O,_,R.stOZ (gU 16 O) (xU 0 O) O (gU 14 O) O O (by rfl) (by rfl) O O,tV [] [(0,.var _)] 17 O O O ?_⟩⟩⟩⟩)
 exact EndsB.none' (r:=.dead) (.inl O) O (by simp only [itemS,List.append_assoc]; rfl) ⟨O,Zt⟩
end Go.Sx

namespace Go.Sx
open Go.Proofs
theorem wbody_ok (b : List UInt8) (t : TxS) (hwf : t.wf) (hb : b.length <= 100) : FnB Try.prog gl 60 [.ptr 0 0 [],txD t] [(0,.var (.agg [.sl (some 5) 1 (b.map D.u8)]))] (.tup []) [(0,.var (.agg [.sl (some 5) 1 ((b ++ bodyS t).map D.u8)]))] []:=by
 refine FnB.of (n:=68) (ids:=[0]) Try.func60 rfl rfl rfl (nU rfl) fun C hC hD=>?_
 have hc1:=countS_len t.ins.length
 have hc2:=countS_len t.outs.length
 have h1:=hwf.ins
 have h2:=hwf.outs
 have h3:=hwf.insb _ (Nat.le_refl _)
 have h4:=hwf.outsb _ (Nat.le_refl _)
 refine W.seq ?_
 refine W.l0 1 [] [] [] [(0,_),(1,_)] [(0,.var _)] 68 Zt O O O O (⟨O,_,R.box (gV 1 O) O O (nU O),tV [(0,_),(3,_)] [(3,.var _),(0,.var _)] 68 O O O ?_⟩)
 refine W.seq ?_
 refine W.l0 5 [.y 8 _,.y 9 _,.y 10 _,.y 11 _] [] [] [(0,_),(3,_),(8,_),(11,_)] [(3,.var _),(0,.var _)] 68 ⟨mU 0 O O,aU (fU 3 O O),aU (lU 9 O O O O O O O),aU fun _ _ H K=>R.lenE (SC.sl (K 10 _ O)) (lN _) H,Zt⟩ O O O O (⟨O,_,R.callB [(0,0)] hC (wcount_ok b t.ins.length (by omega)) (EvB.cons (gV 8 O) O O O (EvB.cons (gV 11 O) O O O EvB.nil)) O ⟨O,Zt⟩ ⟨O,Zt⟩ O O O O O O (nU O),tV [(0,_),(3,_)] [(3,.var _),(0,.var _)] 68 O O O ?_⟩)
 refine W.seq (W.seq ?_)
 refine W.l0 4 [.y 13 _,.y 14 _,.y 15 _,.y 16 _] [] [] [(0,_),(3,_),(14,_),(15,_),(16,_)] [(3,.var _),(0,.var _)] 68 ⟨aU (fU 3 O O),aU (lU 13 O O O O O O O),aU fun _ _ H K=>R.lenE (SC.sl (K 14 _ O)) (lN _) H,aU fun _ _ H _=>R.mov (kI 0 O) O H,Zt⟩ O O O O (tU O ?_)
 refine W.block ?_
 refine W.loop (α:={q__ : Nat // q__ <= t.ins.length}) (fun q__=>⟨68,[(0,.ptr 0 0 []),(3,.ptr 3 0 []),(14,.sl none 36 (t.ins.map inD)),(15,.int ((t.ins.length : Nat) : Int)),(16,.int ((q__.1 : Nat) : Int))],[(3,.var (.agg [.u32 t.ver,.sl none 36 (t.ins.map inD),.sl none 2 (t.outs.map outD),.u32 t.lock])),(0,.var (.agg [.sl (some 5) 1 ((b ++ countS t.ins.length ++ insS t.ins q__.1).map D.u8)]))]⟩) (fun q__=>t.ins.length - q__.1) ⟨(0),bU⟩ (by simp only [insS,List.append_nil]; rfl) ?_
 rintro ⟨i,hi⟩
 show W _ _ _ _ ⟨68,[(0,.ptr 0 0 []),(3,.ptr 3 0 []),(14,.sl none 36 (t.ins.map inD)),(15,.int ((t.ins.length : Nat) : Int)),(16,.int ((i : Nat) : Int))],[(3,.var (.agg [.u32 t.ver,.sl none 36 (t.ins.map inD),.sl none 2 (t.outs.map outD),.u32 t.lock])),(0,.var (.agg [.sl (some 5) 1 ((b ++ countS t.ins.length ++ insS t.ins i).map D.u8)]))]⟩
 have hi : i <= t.ins.length:=hi
 have hib:=hwf.insb i hi
 have hx : i < t.ins.length -> t.ins[i]!.tx.length = 32 /\ t.ins[i]!.script.length <= 1000000:=fun h=>⟨hwf.hash _ (get_mem h),hwf.insScript h⟩
 have hil:=itemS_len t.ins[i]!.script
 refine W.seq ?_
 refine W.l0 1 [.y 17 _] [] [] [(0,_),(3,_),(14,_),(15,_),(16,_),(17,_)] [(3,.var _),(0,.var _)] 68 ⟨aU fun _ _ H K=>R.lssN (i) (t.ins.length) (eU K 16 O) (eU K 15 O) H,Zt⟩ O O O O (tU O ?_)
 refine W.seq ?_
 refine W.condD O (fun hc17=>?_) (fun hc17=>?_)
 · refine W.skip (W.seq (W.block (W.seq ?_)))
   refine W.l0 4 [.y 18 _,.y 19 _] [] [] [(0,_),(3,_),(14,_),(15,_),(16,_),(19,_)] [(3,.var _),(0,.var _)] 68 ⟨aU fun _ _ H K=>R.idxN (i) (SC.sl (K 14 _ O)) (evoI (eU K 16 O)) O bU H dU,aU fun _ _ H K=>R.ldE (K 18 _ O) (SC.sl (K 14 _ O)) (map_get! (l:=t.ins) bU) O O O O H,Zt⟩ O O O O (⟨O,_,R.alloc O (nU O),⟨O,_,R.stZ (gU 5 O) (xU 5 O) O (gV 19 O) (by rfl) (by rfl) (by rfl) (by rfl) O,tV [(0,_),(3,_),(5,_),(14,_),(15,_),(16,_)] [(5,.var _),(3,.var _),(0,.var _)] 68 O O O ?_⟩⟩)
   refine W.seq ?_
   refine W.drawC (m:=9) (an:=[0,0,2,6,14,0,32,96,254,511,1023,2047]) (its:=[.y 20 _,.y 21 _,.y 22 _,.y 23 _,.y 24 _,.y 25 _,.y 26 _,.y 27 _,.y 28 _]) (ks:=[(8,24)]) (kk:=[(8,24)]) (live:=[0,3,5,14,15,16,20,28]) (env':=[(0,_),(3,_),(5,_),(14,_),(15,_),(16,_),(20,_),(28,_)]) (bx1:=[(5,.var _),(3,.var _),(0,.var _)]) [(5,_),(3,_)] 8 [0] hP dU O ⟨nU O,O,O,O⟩ ⟨O,⟨O,Zt⟩⟩ (        ⟨⟨O,O,fun _ τ hb ht hτ=>R.mov (evt (hτ 0 _ O)) O ht⟩,⟨⟨O,O,fun _ τ hb ht hτ=>R.mov (evt (hτ 0 _ O)) O ht⟩,⟨⟨O,O,fun _ τ hb ht hτ=>R.nilcP (hτ 21 _ O) ht⟩,⟨⟨O,O,fun _ τ hb ht hτ=>R.fdP (hτ 22 _ O) ht⟩,⟨⟨O,O,fun _ τ hb ht hτ=>R.ldO (hτ 23 _ O) (hb 0 _ O) O ht⟩,⟨⟨O,O,fun _ τ hb ht hτ=>R.fdP (hτ 5 _ O) ht⟩,⟨⟨O,O,fun _ τ hb ht hτ=>R.fdP (hτ 25 _ O) ht⟩,⟨⟨O,O,fun _ τ hb ht hτ=>R.slAN (0) (32) (32) (hτ 26 _ O) (hb 5 _ O) O O O O O bU bU O ht⟩,⟨⟨O,O,O,(SpC.appB (s:=24) O O O O O O (fun τ hb hτ=>(SrcO.sc (SC.va (hτ 27 _ O O O) (hb 5 _ O) O bU) (pur_part (fun _=>rfl)))) (show _ = ((((b ++ countS t.ins.length ++ insS t.ins i) ++ t.ins[i]!.tx)).map D.u8) from (by rw [List.drop_zero,List.take_of_length_le (by rw [List.length_map,(hx hc17).1]; exact Nat.le_refl _)]; simp)) bU dU dU O)⟩,Zt⟩⟩⟩⟩⟩⟩⟩⟩⟩) O O O (nU O) ⟨O,⟨O,Zt⟩⟩ O (n':=68) O (⟨O,_,R.nilcP (gU 20 O) (nU O),⟨O,_,R.fdP (gU 29 O) (nU O),⟨O,_,R.stOZ (gU 30 O) (xU 0 O) O (gU 28 O) O O (by rfl) (by rfl) O O,⟨[0,3,5,14,15,16],[(0,_),(3,_),(5,_),(14,_),(15,_),(16,_)],[(5,.var _),(3,.var _),(0,.var _)],68,O,O,O, ?_⟩⟩⟩⟩)
   refine W.seq ?_
   refine W.l0 6 [.y 31 _,.y 32 _,.y 33 _,.y 34 _,.y 35 _] [] [] [(0,_),(3,_),(5,_),(14,_),(15,_),(16,_),(31,_),(35,_)] [(5,.var _),(3,.var _),(0,.var _)] 68 ⟨mU 0 O O,aU (fU 5 O O),aU (fU 32 O O),aU (lU 33 O O O O O O O),aU fun _ _ H K=>R.conv (eU K 34 O) O H,Zt⟩ O O O O (⟨O,_,R.callB [(0,0)] hC (wnumber_ok ((b ++ countS t.ins.length ++ insS t.ins i) ++ t.ins[i]!.tx) t.ins[i]!.n.toUInt64 4 dU (by first | omega | (simp only [List.length_append,lowI_len,List.length_cons,List.length_nil]; omega) | simp)) (EvB.cons (gV 31 O) O O O (EvB.cons (gV 35 O) O O O (EvB.cons (kI 4 O) O O O EvB.nil))) O ⟨O,Zt⟩ ⟨O,Zt⟩ O O O O O O (nU O),tV [(0,_),(3,_),(5,_),(14,_),(15,_),(16,_)] [(5,.var _),(3,.var _),(0,.var _)] 68 O O O ?_⟩)
   refine W.seq ?_
   refine W.l0 4 [.y 37 _,.y 38 _,.y 39 _] [] [] [(0,_),(3,_),(5,_),(14,_),(15,_),(16,_),(37,_),(39,_)] [(5,.var _),(3,.var _),(0,.var _)] 68 ⟨mU 0 O O,aU (fU 5 O O),aU (lU 38 O O O O O O O),Zt⟩ O O O O (⟨O,_,R.callB [(0,0)] hC (witem_ok (((b ++ countS t.ins.length ++ insS t.ins i) ++ t.ins[i]!.tx) ++ lowI t.ins[i]!.n.toUInt64 4) t.ins[i]!.script (by first | omega | (simp only [List.length_append,lowI_len,List.length_cons,List.length_nil]; omega) | simp) (by omega)) (EvB.cons (gV 37 O) O O O (EvB.cons (gV 39 O) O O O EvB.nil)) O ⟨O,Zt⟩ ⟨O,Zt⟩ O O O O O O (nU O),tV [(0,_),(3,_),(5,_),(14,_),(15,_),(16,_)] [(5,.var _),(3,.var _),(0,.var _)] 68 O O O ?_⟩)
   refine W.l0 5 [.y 41 _,.y 42 _,.y 43 _,.y 44 _] [] [] [(0,_),(3,_),(14,_),(15,_),(16,_),(41,_),(44,_)] [(5,.var _),(3,.var _),(0,.var _)] 68 ⟨mU 0 O O,aU (fU 5 O O),aU (lU 42 O O O O O O O),aU fun _ _ H K=>R.conv (eU K 43 O) O H,Zt⟩ O O O O (⟨O,_,R.callB [(0,0)] hC (wnumber_ok ((((b ++ countS t.ins.length ++ insS t.ins i) ++ t.ins[i]!.tx) ++ lowI t.ins[i]!.n.toUInt64 4) ++ itemS t.ins[i]!.script) t.ins[i]!.seq.toUInt64 4 dU (by first | omega | (simp only [List.length_append,lowI_len,List.length_cons,List.length_nil]; omega) | simp)) (EvB.cons (gV 41 O) O O O (EvB.cons (gV 44 O) O O O (EvB.cons (kI 4 O) O O O EvB.nil))) O ⟨O,Zt⟩ ⟨O,Zt⟩ O O O O O O (nU O),tV [(0,_),(3,_),(14,_),(15,_),(16,_)] [(5,.var _),(3,.var _),(0,.var _)] 68 O O O ?_⟩)
   refine W.dropB [0,3] (bx':=[(3,.var _),(0,.var _)]) O O O (pin_sub hD O) ?_
   refine W.l0 2 [.y 46 _,.y 16 _] [] [] [(0,_),(3,_),(14,_),(15,_),(16,_)] [(3,.var _),(0,.var _)] 68 ⟨aU fun _ _ H K=>R.addN (i) (1) (eU K 16 O) (kI 1 O) bU H,mU 46 O O,Zt⟩ O O O O (tU O ?_)
   exact ⟨⟨(i + 1),bU⟩,(by simp only [insS,inS,List.append_assoc]; rfl),(by simp only []; omega)⟩
 · obtain rfl : i = t.ins.length:=by omega
   refine W.exit (W.seq ?_)
   refine W.l0 5 [.y 47 _,.y 48 _,.y 49 _,.y 50 _] [] [] [(0,_),(3,_),(47,_),(50,_)] [(3,.var _),(0,.var _)] 68 ⟨mU 0 O O,aU (fU 3 O O),aU (lU 48 O O O O O O O),aU fun _ _ H K=>R.lenE (SC.sl (K 49 _ O)) (lN _) H,Zt⟩ O O O O (⟨O,_,R.callB [(0,0)] hC (wcount_ok (b ++ countS t.ins.length ++ insS t.ins t.ins.length) t.outs.length (by simp only [List.length_append]; omega)) (EvB.cons (gV 47 O) O O O (EvB.cons (gV 50 O) O O O EvB.nil)) O ⟨O,Zt⟩ ⟨O,Zt⟩ O O O O O O (nU O),tV [(0,_),(3,_)] [(3,.var _),(0,.var _)] 68 O O O ?_⟩)
   refine W.seq ?_
   refine W.l0 4 [.y 52 _,.y 53 _,.y 54 _,.y 55 _] [] [] [(0,_),(53,_),(54,_),(55,_)] [(3,.var _),(0,.var _)] 68 ⟨aU (fU 3 O O),aU (lU 52 O O O O O O O),aU fun _ _ H K=>R.lenE (SC.sl (K 53 _ O)) (lN _) H,aU fun _ _ H _=>R.mov (kI 0 O) O H,Zt⟩ O O O O (tU O ?_)
   refine W.block ?_
   refine W.loop (α:={q__ : Nat // q__ <= t.outs.length}) (fun q__=>⟨68,[(0,.ptr 0 0 []),(53,.sl none 2 (t.outs.map outD)),(54,.int ((t.outs.length : Nat) : Int)),(55,.int ((q__.1 : Nat) : Int))],[(3,.var (.agg [.u32 t.ver,.sl none 36 (t.ins.map inD),.sl none 2 (t.outs.map outD),.u32 t.lock])),(0,.var (.agg [.sl (some 5) 1 (((b ++ countS t.ins.length ++ insS t.ins t.ins.length) ++ countS t.outs.length ++ outsS t.outs q__.1).map D.u8)]))]⟩) (fun q__=>t.outs.length - q__.1) ⟨(0),bU⟩ (by simp only [outsS,List.append_nil]; rfl) ?_
   rintro ⟨i,hi⟩
   show W _ _ _ _ ⟨68,[(0,.ptr 0 0 []),(53,.sl none 2 (t.outs.map outD)),(54,.int ((t.outs.length : Nat) : Int)),(55,.int ((i : Nat) : Int))],[(3,.var (.agg [.u32 t.ver,.sl none 36 (t.ins.map inD),.sl none 2 (t.outs.map outD),.u32 t.lock])),(0,.var (.agg [.sl (some 5) 1 (((b ++ countS t.ins.length ++ insS t.ins t.ins.length) ++ countS t.outs.length ++ outsS t.outs i).map D.u8)]))]⟩
   have hi : i <= t.outs.length:=hi
   have hib:=hwf.outsb i hi
   have hx : i < t.outs.length -> t.outs[i]!.script.length <= 1000000:=fun h=>hwf.outScript h
   have hil:=itemS_len t.outs[i]!.script
   refine W.seq ?_
   refine W.l0 1 [.y 56 _] [] [] [(0,_),(53,_),(54,_),(55,_),(56,_)] [(3,.var _),(0,.var _)] 68 ⟨aU fun _ _ H K=>R.lssN (i) (t.outs.length) (eU K 55 O) (eU K 54 O) H,Zt⟩ O O O O (tU O ?_)
   refine W.seq ?_
   refine W.condD O (fun hc56=>?_) (fun hc56=>?_)
   · refine W.skip (W.seq (W.block (W.seq ?_)))
     refine W.l0 4 [.y 57 _,.y 58 _] [] [] [(0,_),(53,_),(54,_),(55,_),(58,_)] [(3,.var _),(0,.var _)] 68 ⟨aU fun _ _ H K=>R.idxN (i) (SC.sl (K 53 _ O)) (evoI (eU K 55 O)) O bU H dU,aU fun _ _ H K=>R.ldE (K 57 _ O) (SC.sl (K 53 _ O)) (map_get! (l:=t.outs) bU) O O O O H,Zt⟩ O O O O (⟨O,_,R.alloc O (nU O),⟨O,_,R.stZ (gU 7 O) (xU 7 O) O (gV 58 O) (by rfl) (by rfl) (by rfl) (by rfl) O,tV [(0,_),(7,_),(53,_),(54,_),(55,_)] [(7,.var _),(3,.var _),(0,.var _)] 68 O O O ?_⟩⟩)
     refine W.seq ?_
     refine W.l0 4 [.y 59 _,.y 60 _,.y 61 _] [] [] [(0,_),(7,_),(53,_),(54,_),(55,_),(59,_),(61,_)] [(7,.var _),(3,.var _),(0,.var _)] 68 ⟨mU 0 O O,aU (fU 7 O O),aU (lU 60 O O O O O O O),Zt⟩ O O O O (⟨O,_,R.callB [(0,0)] hC (wnumber_ok ((b ++ countS t.ins.length ++ insS t.ins t.ins.length) ++ countS t.outs.length ++ outsS t.outs i) t.outs[i]!.value 8 dU (by first | omega | (simp only [List.length_append,lowI_len,List.length_cons,List.length_nil]; omega) | simp)) (EvB.cons (gV 59 O) O O O (EvB.cons (gV 61 O) O O O (EvB.cons (kI 8 O) O O O EvB.nil))) O ⟨O,Zt⟩ ⟨O,Zt⟩ O O O O O O (nU O),tV [(0,_),(7,_),(53,_),(54,_),(55,_)] [(7,.var _),(3,.var _),(0,.var _)] 68 O O O ?_⟩)
     refine W.l0 4 [.y 63 _,.y 64 _,.y 65 _] [] [] [(0,_),(53,_),(54,_),(55,_),(63,_),(65,_)] [(7,.var _),(3,.var _),(0,.var _)] 68 ⟨mU 0 O O,aU (fU 7 O O),aU (lU 64 O O O O O O O),Zt⟩ O O O O (⟨O,_,R.callB [(0,0)] hC (witem_ok (((b ++ countS t.ins.length ++ insS t.ins t.ins.length) ++ countS t.outs.length ++ outsS t.outs i) ++ lowI t.outs[i]!.value 8) t.outs[i]!.script (by first | omega | (simp only [List.length_append,lowI_len,List.length_cons,List.length_nil]; omega) | simp) (by omega)) (EvB.cons (gV 63 O) O O O (EvB.cons (gV 65 O) O O O EvB.nil)) O ⟨O,Zt⟩ ⟨O,Zt⟩ O O O O O O (nU O),tV [(0,_),(53,_),(54,_),(55,_)] [(7,.var _),(3,.var _),(0,.var _)] 68 O O O ?_⟩)
     refine W.dropB [0,3] (bx':=[(3,.var _),(0,.var _)]) O O O (pin_sub hD O) ?_
     refine W.l0 2 [.y 67 _,.y 55 _] [] [] [(0,_),(53,_),(54,_),(55,_)] [(3,.var _),(0,.var _)] 68 ⟨aU fun _ _ H K=>R.addN (i) (1) (eU K 55 O) (kI 1 O) bU H,mU 67 O O,Zt⟩ O O O O (tU O ?_)
     exact ⟨⟨(i + 1),bU⟩,(by simp only [outsS,outS',List.append_assoc]; rfl),(by simp only []; omega)⟩
   · obtain rfl : i = t.outs.length:=by omega
     refine W.exit ?_
     exact EndsB.none' (r:=.dead) (.inl O) O (by simp only [bodyS,List.append_assoc]; rfl) ⟨O,Zt⟩
end Go.Sx

namespace Go.Sx
open Go.Proofs
theorem witnessed_ok (t : TxS) (hwf : t.wf) : Fn Try.prog gl 57 [txD t] (.bool (seenS t)):=by
 refine Fn.of (n:=17) Try.func57 rfl rfl rfl (nU rfl) fun C hC hD=>?_
 have h1:=hwf.ins
 refine W.seq ?_
 refine W.l0 2 [] [] [] [(0,_)] [] 17 Zt O O O O (⟨O,_,R.box (gV 0 O) O O (nU O),⟨O,_,R.asg (kB false O) O (nU O),tV [(1,_)] [(1,.var _)] 17 O O O ?_⟩⟩)
 refine W.seq (W.seq ?_)
 refine W.l0 4 [.y 5 _,.y 6 _,.y 7 _,.y 8 _] [] [] [(6,_),(7,_),(8,_)] [(1,.var _)] 17 ⟨aU (fU 1 O O),aU (lU 5 O O O O O O O),aU fun _ _ H K=>R.lenE (SC.sl (K 6 _ O)) (lN _) H,aU fun _ _ H _=>R.mov (kI 0 O) O H,Zt⟩ O O O O (tU O ?_)
 refine W.block ?_
 refine W.loop (α:={q__ : Nat // q__ <= t.ins.length /\ ∀ k < q__,¬ 0 < t.ins[k]!.wit.length}) (fun q__=>⟨17,[(6,.sl none 36 (t.ins.map inD)),(7,.int ((t.ins.length : Nat) : Int)),(8,.int ((q__.1 : Nat) : Int))],[(1,.var (.agg [.u32 t.ver,.sl none 36 (t.ins.map inD),.sl none 2 (t.outs.map outD),.u32 t.lock]))]⟩) (fun q__=>t.ins.length - q__.1) ⟨(0),⟨Nat.zero_le _,fun k h=>absurd h (Nat.not_lt_zero _)⟩⟩ O ?_
 rintro ⟨i,⟨hi,hno⟩⟩
 show W _ _ _ _ ⟨17,[(6,.sl none 36 (t.ins.map inD)),(7,.int ((t.ins.length : Nat) : Int)),(8,.int ((i : Nat) : Int))],[(1,.var (.agg [.u32 t.ver,.sl none 36 (t.ins.map inD),.sl none 2 (t.outs.map outD),.u32 t.lock]))]⟩
 have hi : i <= t.ins.length:=hi
 have hno : ∀ k < i,¬ 0 < t.ins[k]!.wit.length:=hno
 have hwl : i < t.ins.length -> t.ins[i]!.wit.length <= 1000000:=fun h=>(hwf.witl _ (get_mem h)).1
 refine W.seq ?_
 refine W.l0 1 [.y 9 _] [] [] [(6,_),(7,_),(8,_),(9,_)] [(1,.var _)] 17 ⟨aU fun _ _ H K=>R.lssN (i) (t.ins.length) (eU K 8 O) (eU K 7 O) H,Zt⟩ O O O O (tU O ?_)
 refine W.seq ?_
 refine W.condD O (fun hc9=>?_) (fun hc9=>?_)
 · refine W.skip (W.seq (W.block (W.seq ?_)))
   refine W.l0 4 [.y 10 _,.y 11 _] [] [] [(6,_),(7,_),(8,_),(11,_)] [(1,.var _)] 17 ⟨aU fun _ _ H K=>R.idxN (i) (SC.sl (K 6 _ O)) (evoI (eU K 8 O)) O bU H dU,aU fun _ _ H K=>R.ldE (K 10 _ O) (SC.sl (K 6 _ O)) (map_get! (l:=t.ins) bU) O O O O H,Zt⟩ O O O O (⟨O,_,R.alloc O (nU O),⟨O,_,R.stZ (gU 4 O) (xU 4 O) O (gV 11 O) (by rfl) (by rfl) (by rfl) (by rfl) O,tV [(4,_),(6,_),(7,_),(8,_)] [(4,.var _),(1,.var _)] 17 O O O ?_⟩⟩)
   refine W.seq ?_
   refine W.l0 4 [.y 12 _,.y 13 _,.y 14 _,.y 15 _] [] [] [(6,_),(7,_),(8,_),(15,_)] [(4,.var _),(1,.var _)] 17 ⟨aU (fU 4 O O),aU (lU 12 O O O O O O O),aU fun _ _ H K=>R.lenE (SC.sl (K 13 _ O)) (lN _) H,aU fun _ _ H K=>R.gtrN (t.ins[i]!.wit.length) (0) (eU K 14 O) (kI 0 O) H,Zt⟩ O O O O (tU O ?_)
   refine W.condD O (fun hc15=>?_) (fun hc15=>?_)
   · refine W.seq ?_
     refine W.dropB [1] (bx':=[(1,.var _)]) O O O (pin_sub hD O) ?_
     refine W.l0 1 [.y 2 _] [] [] [(2,_)] [(1,.var _)] 17 ⟨aU fun _ _ H _=>R.asg (kB true O) O H,Zt⟩ O O O O (tU O ?_)
     refine W.ret ?_
     exact Ends.one' (.inr O) O ((congrArg D.bool (seen_true hc9 hc15)).symm) O O Zt
   · refine W.skip ?_
     refine W.dropB [1] (bx':=[(1,.var _)]) O O O (pin_sub hD O) ?_
     refine W.l0 2 [.y 16 _,.y 8 _] [] [] [(6,_),(7,_),(8,_)] [(1,.var _)] 17 ⟨aU fun _ _ H K=>R.addN (i) (1) (eU K 8 O) (kI 1 O) bU H,mU 16 O O,Zt⟩ O O O O (tU O ?_)
     exact ⟨⟨(i + 1),⟨by omega,fun k hk=>(Nat.lt_succ_iff_lt_or_eq.1 hk).elim (hno k) (fun e=>e ▸ hc15)⟩⟩,rfl,(by simp only []; omega)⟩
 · obtain rfl : i = t.ins.length:=by omega
   refine W.exit (W.seq ?_)
   refine W.l0 1 [.y 2 _] [] [] [(2,_)] [(1,.var _)] 17 ⟨aU fun _ _ H _=>R.asg (kB false O) O H,Zt⟩ O O O O (tU O ?_)
   refine W.ret ?_
   exact Ends.one' (.inr O) O ((congrArg D.bool (seen_false hno)).symm) O O Zt
theorem bare_ok (t : TxS) (hwf : t.wf) : Fn Try.prog gl 58 [txD t] (.sl (some 5) 1 ((bareS t).map D.u8)):=by
 refine Fn.of (n:=23) Try.func58 rfl rfl rfl (nU rfl) fun C hC hD=>?_
 refine W.seq ?_
 refine W.l0 2 [] [] [] [(0,_)] [] 23 Zt O O O O (⟨O,_,R.box (gV 0 O) O O (nU O),⟨O,_,R.asg (kN O) O (nU O),tV [(1,_)] [(1,.var _)] 23 O O O ?_⟩⟩)
 refine W.seq ?_
 refine W.l0 3 [.y 4 _] [] [] [(1,_),(4,_)] [(1,.var _)] 23 ⟨aU fun _ _ H _=>R.bldSE (l:=[.nils]) (l':=[_]) (.nil O) Zt H,Zt⟩ O O O O (⟨O,_,R.box (gV 4 O) O O (nU O),⟨O,_,R.asg (gV 5 O) O (nU O),tV [(1,_),(3,_)] [(5,.var _),(1,.var _)] 23 O O O ?_⟩⟩)
 refine W.seq ?_
 refine W.asOwnP 5 [0] 5 1 (bx':=[(5,.var _),(1,.var _)]) O O O O O ?_
 have hbl:=hwf.body
 refine W.l0 5 [.y 6 _,.y 7 _,.y 8 _,.y 9 _] [] [] [(1,_),(3,_),(6,_),(9,_)] [(5,.var _),(1,.var _)] 23 ⟨mU 3 O O,aU (fU 1 O O),aU (lU 7 O O O O O O O),aU fun _ _ H K=>R.conv (eU K 8 O) O H,Zt⟩ O O O O (⟨O,_,R.callB [(0,5)] hC (wnumber_ok [] t.ver.toUInt64 4 dU (by first | omega | (simp only [List.length_append,lowI_len,List.length_cons,List.length_nil]; omega) | simp)) (EvB.cons (gV 6 O) O O O (EvB.cons (gV 9 O) O O O (EvB.cons (kI 4 O) O O O EvB.nil))) O ⟨O,Zt⟩ ⟨O,Zt⟩ O O O O O O (nU O),tV [(1,_),(3,_)] [(5,.var _),(1,.var _)] 23 O O O ?_⟩)
 refine W.seq ?_
 refine W.l0 3 [.y 11 _,.y 12 _] [] [] [(1,_),(3,_),(11,_),(12,_)] [(5,.var _),(1,.var _)] 23 ⟨mU 3 O O,aU (lU 1 O O O O O O O),Zt⟩ O O O O (⟨O,_,R.callB [(0,5)] hC (wbody_ok ([] ++ lowI t.ver.toUInt64 4) t hwf (by first | omega | (simp only [List.length_append,lowI_len,List.length_cons,List.length_nil]; omega) | simp)) (EvB.cons (gV 11 O) O O O (EvB.cons (gV 12 O) O O O EvB.nil)) O ⟨O,Zt⟩ ⟨O,Zt⟩ O O O O O O (nU O),tV [(1,_),(3,_)] [(5,.var _),(1,.var _)] 23 O O O ?_⟩)
 refine W.seq ?_
 refine W.l0 5 [.y 14 _,.y 15 _,.y 16 _,.y 17 _] [] [] [(3,_),(14,_),(17,_)] [(5,.var _),(1,.var _)] 23 ⟨mU 3 O O,aU (fU 1 O O),aU (lU 15 O O O O O O O),aU fun _ _ H K=>R.conv (eU K 16 O) O H,Zt⟩ O O O O (⟨O,_,R.callB [(0,5)] hC (wnumber_ok (([] ++ lowI t.ver.toUInt64 4) ++ bodyS t) t.lock.toUInt64 4 dU (by first | omega | (simp only [List.length_append,lowI_len,List.length_cons,List.length_nil]; omega) | simp)) (EvB.cons (gV 14 O) O O O (EvB.cons (gV 17 O) O O O (EvB.cons (kI 4 O) O O O EvB.nil))) O ⟨O,Zt⟩ ⟨O,Zt⟩ O O O O O O (nU O),tV [(3,_)] [(5,.var _),(1,.var _)] 23 O O O ?_⟩)
 refine W.seq ?_
 refine W.l0 5 [.y 19 _,.y 20 _,.y 21 _,.y 22 _] [] [] [(22,_)] [(5,.var _),(1,.var _)] 23 ⟨mU 3 O O,aU fun _ _ H K=>R.nilcP (K 19 _ O) H,aU (fU 20 O O),aU fun _ B H K=>R.ldO (K 21 _ O) (B 5 _ O) O H,Zt⟩ O O O O (⟨O,_,R.asgBP (gU 22 O) (xU 5 O) O O O O (gU 22 O) (nU O) dU,tV [(2,_)] [(5,.var _),(1,.var _)] 23 O O O ?_⟩)
 refine W.ret ?_
 exact Ends.one' (.inr O) O (by simp only [bareS,List.nil_append]) O O Zt
theorem put_ok (t : TxS) (hwf : t.wf) : Fn Try.prog gl 42 [txD t] (.sl (some 5) 1 ((putS t).map D.u8)):=by
 refine Fn.of (n:=65) Try.func42 rfl rfl rfl (nU rfl) fun C hC hD=>?_
 have h1:=hwf.ins
 have hbl:=hwf.body
 have hw0:=hwf.witsb _ (Nat.le_refl _)
 refine W.seq ?_
 refine W.l0 2 [] [] [] [(0,_)] [] 65 Zt O O O O (⟨O,_,R.box (gV 0 O) O O (nU O),⟨O,_,R.asg (kN O) O (nU O),tV [(1,_)] [(1,.var _)] 65 O O O ?_⟩⟩)
 refine W.seq (W.seq ?_)
 refine W.l0 3 [.y 8 _,.y 9 _,.y 10 _] [] [] [(1,_),(10,_)] [(1,.var _)] 65 ⟨aU (lU 1 O O O O O O O),aU fun _ _ H K=>R.callG hC (witnessed_ok t hwf) (Bc (Bp (eU K 8 O) O O) Bn) (FrsR.one (.bool _)) H,aU fun _ _ H K=>R.un (eU K 9 O) O H,Zt⟩ O O O O (tU O ?_)
 refine W.cond O (fun hc10=>?_) (fun hc10=>?_)
 · refine W.seq ?_
   refine W.l0 3 [.y 11 _,.y 12 _,.y 2 _] [(2,12)] [(2,12)] [(2,_)] [(1,.var _)] 65 ⟨aU (lU 1 O O O O O O O),aU fun _ _ H K=>R.callG hC (bare_ok t hwf) (Bc (Bp (eU K 11 O) O O) Bn) (FrsR.one (.sl _ _ _ (frs_map fun _=>.u8 _))) H,aU fun _ _ H K=>R.asgO (K 12 _ O) O H dU,Zt⟩ O O O O (tU O ?_)
   refine W.ret ?_
   exact Ends.one' (.inr O) O (by rw [putS,if_neg (by simpa using hc10)]) O O Zt
 · refine W.skip (W.seq ?_)
   refine W.l0 3 [.y 13 _] [] [] [(1,_),(13,_)] [(1,.var _)] 65 ⟨aU fun _ _ H _=>R.bldSE (l:=[.nils]) (l':=[_]) (.nil O) Zt H,Zt⟩ O O O O (⟨O,_,R.box (gV 13 O) O O (nU O),⟨O,_,R.asg (gV 14 O) O (nU O),tV [(1,_),(3,_)] [(14,.var _),(1,.var _)] 65 O O O ?_⟩⟩)
   refine W.seq ?_
   refine W.asOwnP 14 [0] 5 1 (bx':=[(14,.var _),(1,.var _)]) O O O O O ?_
   refine W.l0 5 [.y 15 _,.y 16 _,.y 17 _,.y 18 _] [] [] [(1,_),(3,_),(15,_),(18,_)] [(14,.var _),(1,.var _)] 65 ⟨mU 3 O O,aU (fU 1 O O),aU (lU 16 O O O O O O O),aU fun _ _ H K=>R.conv (eU K 17 O) O H,Zt⟩ O O O O (⟨O,_,R.callB [(0,14)] hC (wnumber_ok [] t.ver.toUInt64 4 dU (by first | omega | (simp only [List.length_append,lowI_len,List.length_cons,List.length_nil]; omega) | simp)) (EvB.cons (gV 15 O) O O O (EvB.cons (gV 18 O) O O O (EvB.cons (kI 4 O) O O O EvB.nil))) O ⟨O,Zt⟩ ⟨O,Zt⟩ O O O O O O (nU O),tV [(1,_),(3,_)] [(14,.var _),(1,.var _)] 65 O O O ?_⟩)
   refine W.seq ?_
   refine W.l0 10 [.y 20 _,.y 21 _,.y 22 _,.y 23 _,.y 24 _,.y 25 _] [] [] [(1,_),(3,_),(20,_),(24,_),(25,_)] [(14,.var _),(1,.var _)] 65 ⟨mU 3 O O,mU 3 O O,aU fun _ _ H K=>R.nilcP (K 21 _ O) H,aU (fU 22 O O),aU fun _ B H K=>R.ldO (K 23 _ O) (B 14 _ O) O H,aU fun _ _ H _=>R.bslE (z:=1) (.cons (show ev _ _ (.const (.int .u8 0)) = some (.u8 0) from O) (.cons (show ev _ _ (.const (.int .u8 1)) = some (.u8 1) from O) .nil)) ⟨⟨O,O,O⟩,⟨O,O,O⟩,Zt⟩ O H dU,Zt⟩ O O O O (⟨O,_,R.appBP (gU 24 O) (xU 14 O) O O O O (gU 24 O) (SrcO.sc (SC.sl (gU 25 O)) (pur_lit O)) (show _ = (((([] ++ lowI t.ver.toUInt64 4) ++ [0,1])).map D.u8) from (by simp)) (by simp [lowI_len]) (nU O) dU dU,⟨O,_,R.nilcP (gU 20 O) (nU O),⟨O,_,R.fdP (gU 27 O) (nU O),⟨O,_,R.stOZ (gU 28 O) (xU 14 O) O (gU 26 O) O O (by rfl) (by rfl) O O,tV [(1,_),(3,_)] [(14,.var _),(1,.var _)] 65 O O O ?_⟩⟩⟩⟩)
   refine W.seq ?_
   refine W.l0 3 [.y 29 _,.y 30 _] [] [] [(1,_),(3,_),(29,_),(30,_)] [(14,.var _),(1,.var _)] 65 ⟨mU 3 O O,aU (lU 1 O O O O O O O),Zt⟩ O O O O (⟨O,_,R.callB [(0,14)] hC (wbody_ok (([] ++ lowI t.ver.toUInt64 4) ++ [0,1]) t hwf (by first | omega | (simp only [List.length_append,lowI_len,List.length_cons,List.length_nil]; omega) | simp)) (EvB.cons (gV 29 O) O O O (EvB.cons (gV 30 O) O O O EvB.nil)) O ⟨O,Zt⟩ ⟨O,Zt⟩ O O O O O O (nU O),tV [(1,_),(3,_)] [(14,.var _),(1,.var _)] 65 O O O ?_⟩)
   refine W.seq (W.seq ?_)
   refine W.l0 4 [.y 32 _,.y 33 _,.y 34 _,.y 35 _] [] [] [(1,_),(3,_),(33,_),(34,_),(35,_)] [(14,.var _),(1,.var _)] 65 ⟨aU (fU 1 O O),aU (lU 32 O O O O O O O),aU fun _ _ H K=>R.lenE (SC.sl (K 33 _ O)) (lN _) H,aU fun _ _ H _=>R.mov (kI 0 O) O H,Zt⟩ O O O O (tU O ?_)
   refine W.block ?_
   refine W.loop (α:={q__ : Nat // q__ <= t.ins.length}) (fun q__=>⟨65,[(1,.ptr 1 0 []),(3,.ptr 14 0 []),(33,.sl none 36 (t.ins.map inD)),(34,.int ((t.ins.length : Nat) : Int)),(35,.int ((q__.1 : Nat) : Int))],[(14,.var (.agg [.sl (some 5) 1 ((((([] ++ lowI t.ver.toUInt64 4) ++ [0,1]) ++ bodyS t) ++ witsS t.ins q__.1).map D.u8)])),(1,.var (.agg [.u32 t.ver,.sl none 36 (t.ins.map inD),.sl none 2 (t.outs.map outD),.u32 t.lock]))]⟩) (fun q__=>t.ins.length - q__.1) ⟨(0),bU⟩ (by simp only [witsS,List.append_nil]; rfl) ?_
   rintro ⟨i,hi⟩
   show W _ _ _ _ ⟨65,[(1,.ptr 1 0 []),(3,.ptr 14 0 []),(33,.sl none 36 (t.ins.map inD)),(34,.int ((t.ins.length : Nat) : Int)),(35,.int ((i : Nat) : Int))],[(14,.var (.agg [.sl (some 5) 1 ((((([] ++ lowI t.ver.toUInt64 4) ++ [0,1]) ++ bodyS t) ++ witsS t.ins i).map D.u8)])),(1,.var (.agg [.u32 t.ver,.sl none 36 (t.ins.map inD),.sl none 2 (t.outs.map outD),.u32 t.lock]))]⟩
   have hi : i <= t.ins.length:=hi
   have hib:=hwf.witsb i hi
   have hx : i < t.ins.length -> t.ins[i]!.wit.length <= 1000000 /\ ∀ j ≤ t.ins[i]!.wit.length,(witS t.ins[i]!.wit j).length <= 1500000:=fun h=>hwf.witl _ (get_mem h)
   have hcl:=countS_len t.ins[i]!.wit.length
   refine W.seq ?_
   refine W.l0 1 [.y 36 _] [] [] [(1,_),(3,_),(33,_),(34,_),(35,_),(36,_)] [(14,.var _),(1,.var _)] 65 ⟨aU fun _ _ H K=>R.lssN (i) (t.ins.length) (eU K 35 O) (eU K 34 O) H,Zt⟩ O O O O (tU O ?_)
   refine W.seq ?_
   refine W.condD O (fun hc36=>?_) (fun hc36=>?_)
   · refine W.skip (W.seq (W.block (W.seq ?_)))
     refine W.l0 4 [.y 37 _,.y 38 _] [] [] [(1,_),(3,_),(33,_),(34,_),(35,_),(38,_)] [(14,.var _),(1,.var _)] 65 ⟨aU fun _ _ H K=>R.idxN (i) (SC.sl (K 33 _ O)) (evoI (eU K 35 O)) O bU H dU,aU fun _ _ H K=>R.ldE (K 37 _ O) (SC.sl (K 33 _ O)) (map_get! (l:=t.ins) bU) O O O O H,Zt⟩ O O O O (⟨O,_,R.alloc O (nU O),⟨O,_,R.stZ (gU 5 O) (xU 5 O) O (gV 38 O) (by rfl) (by rfl) (by rfl) (by rfl) O,tV [(1,_),(3,_),(5,_),(33,_),(34,_),(35,_)] [(5,.var _),(14,.var _),(1,.var _)] 65 O O O ?_⟩⟩)
     refine W.seq ?_
     refine W.l0 5 [.y 39 _,.y 40 _,.y 41 _,.y 42 _] [] [] [(1,_),(3,_),(5,_),(33,_),(34,_),(35,_),(39,_),(42,_)] [(5,.var _),(14,.var _),(1,.var _)] 65 ⟨mU 3 O O,aU (fU 5 O O),aU (lU 40 O O O O O O O),aU fun _ _ H K=>R.lenE (SC.sl (K 41 _ O)) (lN _) H,Zt⟩ O O O O (⟨O,_,R.callB [(0,14)] hC (wcount_ok (((([] ++ lowI t.ver.toUInt64 4) ++ [0,1]) ++ bodyS t) ++ witsS t.ins i) t.ins[i]!.wit.length (by first | omega | (simp only [List.length_append,lowI_len,List.length_cons,List.length_nil]; omega) | simp)) (EvB.cons (gV 39 O) O O O (EvB.cons (gV 42 O) O O O EvB.nil)) O ⟨O,Zt⟩ ⟨O,Zt⟩ O O O O O O (nU O),tV [(1,_),(3,_),(5,_),(33,_),(34,_),(35,_)] [(5,.var _),(14,.var _),(1,.var _)] 65 O O O ?_⟩)
     refine W.seq ?_
     refine W.l0 4 [.y 44 _,.y 45 _,.y 46 _,.y 47 _] [] [] [(1,_),(3,_),(33,_),(34,_),(35,_),(45,_),(46,_),(47,_)] [(5,.var _),(14,.var _),(1,.var _)] 65 ⟨aU (fU 5 O O),aU (lU 44 O O O O O O O),aU fun _ _ H K=>R.lenE (SC.sl (K 45 _ O)) (lN _) H,aU fun _ _ H _=>R.mov (kI 0 O) O H,Zt⟩ O O O O (tU O ?_)
     refine W.block ?_
     refine W.loop (α:={q__ : Nat // q__ <= t.ins[i]!.wit.length}) (fun q__=>⟨65,[(1,.ptr 1 0 []),(3,.ptr 14 0 []),(33,.sl none 36 (t.ins.map inD)),(34,.int ((t.ins.length : Nat) : Int)),(35,.int ((i : Nat) : Int)),(45,.sl none 1 (t.ins[i]!.wit.map bytesD)),(46,.int ((t.ins[i]!.wit.length : Nat) : Int)),(47,.int ((q__.1 : Nat) : Int))],[(5,.var (inD t.ins[i]!)),(14,.var (.agg [.sl (some 5) 1 ((((((([] ++ lowI t.ver.toUInt64 4) ++ [0,1]) ++ bodyS t) ++ witsS t.ins i) ++ countS t.ins[i]!.wit.length) ++ witS t.ins[i]!.wit q__.1).map D.u8)])),(1,.var (.agg [.u32 t.ver,.sl none 36 (t.ins.map inD),.sl none 2 (t.outs.map outD),.u32 t.lock]))]⟩) (fun q__=>t.ins[i]!.wit.length - q__.1) ⟨(0),bU⟩ (by simp only [witS,List.append_nil]; rfl) ?_
     rintro ⟨j,hj⟩
     show W _ _ _ _ ⟨65,[(1,.ptr 1 0 []),(3,.ptr 14 0 []),(33,.sl none 36 (t.ins.map inD)),(34,.int ((t.ins.length : Nat) : Int)),(35,.int ((i : Nat) : Int)),(45,.sl none 1 (t.ins[i]!.wit.map bytesD)),(46,.int ((t.ins[i]!.wit.length : Nat) : Int)),(47,.int ((j : Nat) : Int))],[(5,.var (inD t.ins[i]!)),(14,.var (.agg [.sl (some 5) 1 ((((((([] ++ lowI t.ver.toUInt64 4) ++ [0,1]) ++ bodyS t) ++ witsS t.ins i) ++ countS t.ins[i]!.wit.length) ++ witS t.ins[i]!.wit j).map D.u8)])),(1,.var (.agg [.u32 t.ver,.sl none 36 (t.ins.map inD),.sl none 2 (t.outs.map outD),.u32 t.lock]))]⟩
     have hj : j <= t.ins[i]!.wit.length:=hj
     have hjb:=(hx (by omega)).2 j hj
     have hil:=itemS_len t.ins[i]!.wit[j]!
     have hwi : j < t.ins[i]!.wit.length -> t.ins[i]!.wit[j]!.length <= 1000000:=fun h=>hwf.witi _ (get_mem (show i < t.ins.length by omega)) _ (get_mem h)
     refine W.seq ?_
     refine W.l0 1 [.y 48 _] [] [] [(1,_),(3,_),(33,_),(34,_),(35,_),(45,_),(46,_),(47,_),(48,_)] [(5,.var _),(14,.var _),(1,.var _)] 65 ⟨aU fun _ _ H K=>R.lssN (j) (t.ins[i]!.wit.length) (eU K 47 O) (eU K 46 O) H,Zt⟩ O O O O (tU O ?_)
     refine W.seq ?_
     refine W.condD O (fun hc48=>?_) (fun hc48=>?_)
     · refine W.skip (W.seq (W.block (W.seq ?_)))
       refine W.l0 3 [.y 49 _,.y 50 _,.y 7 _] [] [] [(1,_),(3,_),(7,_),(33,_),(34,_),(35,_),(45,_),(46,_),(47,_)] [(5,.var _),(14,.var _),(1,.var _)] 65 ⟨aU fun _ _ H K=>R.idxN (j) (SC.sl (K 45 _ O)) (evoI (eU K 47 O)) O bU H dU,aU fun _ _ H K=>R.ldE (K 49 _ O) (SC.sl (K 45 _ O)) (map_get! (l:=t.ins[i]!.wit) bU) O O O O H,aU fun _ _ H K=>R.asg (eU K 50 O) O H,Zt⟩ O O O O (tU O ?_)
       refine W.l0 3 [.y 51 _,.y 52 _] [] [] [(1,_),(3,_),(33,_),(34,_),(35,_),(45,_),(46,_),(47,_),(51,_),(52,_)] [(5,.var _),(14,.var _),(1,.var _)] 65 ⟨mU 3 O O,mU 7 O O,Zt⟩ O O O O (⟨O,_,R.callB [(0,14)] hC (witem_ok (((((([] ++ lowI t.ver.toUInt64 4) ++ [0,1]) ++ bodyS t) ++ witsS t.ins i) ++ countS t.ins[i]!.wit.length) ++ witS t.ins[i]!.wit j) t.ins[i]!.wit[j]! (by first | omega | (simp only [List.length_append,lowI_len,List.length_cons,List.length_nil]; omega) | simp) (by omega)) (EvB.cons (gV 51 O) O O O (EvB.cons (gV 52 O) O O O EvB.nil)) O ⟨O,Zt⟩ ⟨O,Zt⟩ O O O O O O (nU O),tV [(1,_),(3,_),(33,_),(34,_),(35,_),(45,_),(46,_),(47,_)] [(5,.var _),(14,.var _),(1,.var _)] 65 O O O ?_⟩)
       refine W.l0 2 [.y 54 _,.y 47 _] [] [] [(1,_),(3,_),(33,_),(34,_),(35,_),(45,_),(46,_),(47,_)] [(5,.var _),(14,.var _),(1,.var _)] 65 ⟨aU fun _ _ H K=>R.addN (j) (1) (eU K 47 O) (kI 1 O) bU H,mU 54 O O,Zt⟩ O O O O (tU O ?_)
       exact ⟨⟨(j + 1),bU⟩,(by simp only [witS,List.append_assoc]; rfl),(by simp only []; omega)⟩
     · obtain rfl : j = t.ins[i]!.wit.length:=by omega
       refine W.exit ?_
       refine W.dropB [1,14] (bx':=[(14,.var _),(1,.var _)]) O O O (pin_sub hD O) ?_
       refine W.l0 2 [.y 55 _,.y 35 _] [] [] [(1,_),(3,_),(33,_),(34,_),(35,_)] [(14,.var _),(1,.var _)] 65 ⟨aU fun _ _ H K=>R.addN (i) (1) (eU K 35 O) (kI 1 O) bU H,mU 55 O O,Zt⟩ O O O O (tU O ?_)
       exact ⟨⟨(i + 1),bU⟩,(by simp only [witsS,List.append_assoc]),(by simp only []; omega)⟩
   · obtain rfl : i = t.ins.length:=by omega
     refine W.exit (W.seq ?_)
     refine W.l0 5 [.y 56 _,.y 57 _,.y 58 _,.y 59 _] [] [] [(3,_),(56,_),(59,_)] [(14,.var _),(1,.var _)] 65 ⟨mU 3 O O,aU (fU 1 O O),aU (lU 57 O O O O O O O),aU fun _ _ H K=>R.conv (eU K 58 O) O H,Zt⟩ O O O O (⟨O,_,R.callB [(0,14)] hC (wnumber_ok (((([] ++ lowI t.ver.toUInt64 4) ++ [0,1]) ++ bodyS t) ++ witsS t.ins t.ins.length) t.lock.toUInt64 4 dU (by first | omega | (simp only [List.length_append,lowI_len,List.length_cons,List.length_nil]; omega) | simp)) (EvB.cons (gV 56 O) O O O (EvB.cons (gV 59 O) O O O (EvB.cons (kI 4 O) O O O EvB.nil))) O ⟨O,Zt⟩ ⟨O,Zt⟩ O O O O O O (nU O),tV [(3,_)] [(14,.var _),(1,.var _)] 65 O O O ?_⟩)
     refine W.seq ?_
     refine W.l0 5 [.y 61 _,.y 62 _,.y 63 _,.y 64 _] [] [] [(64,_)] [(14,.var _),(1,.var _)] 65 ⟨mU 3 O O,aU fun _ _ H K=>R.nilcP (K 61 _ O) H,aU (fU 62 O O),aU fun _ B H K=>R.ldO (K 63 _ O) (B 14 _ O) O H,Zt⟩ O O O O (⟨O,_,R.asgBP (gU 64 O) (xU 14 O) O O O O (gU 64 O) (nU O) dU,tV [(2,_)] [(14,.var _),(1,.var _)] 65 O O O ?_⟩)
     refine W.ret ?_
     exact Ends.one' (.inr O) O (by rw [putS,if_pos (by simpa using hc10)]; rfl) O O Zt
end Go.Sx

namespace Go.Sx
open Go.Proofs
theorem may_ok (t : TxS) (hwf : t.wf) : Fn Try.prog gl 33 [txD t] (.bool (mayS t)):=by
 refine Fn.of (n:=64) Try.func33 rfl rfl rfl (nU rfl) fun C hC hD=>?_
 have h1:=hwf.ins
 have h2:=hwf.outs
 refine W.seq ?_
 refine W.l0 2 [] [] [] [(0,_)] [] 64 Zt O O O O (⟨O,_,R.box (gV 0 O) O O (nU O),⟨O,_,R.asg (kB false O) O (nU O),tV [(1,_)] [(1,.var _)] 64 O O O ?_⟩⟩)
 refine W.seq (W.seq ?_)
 by_cases hz : t.ins.length = 0
 · refine W.l0 10 [.y 11 _,.y 12 _,.y 13 _,.y 14 _,.y 15 _,.x 16,.x 17,.x 18,.x 19,.y 20 _] [] [] [(1,_),(20,_)] [(1,.var _)] 64 ⟨aU (fU 1 O O),aU (lU 11 O O O O O O O),aU fun _ _ H K=>R.lenE (SC.sl (K 12 _ O)) (lN _) H,aU fun _ _ H K=>R.eqlN (t.ins.length) (0) (eU K 13 O) (kI 0 O) H,mU 14 O O,aF O O (gT (dT hz) O),aF O O (gT (dT hz) O),aF O O (gT (dT hz) O),aF O O (gT (dT hz) O),aU fun _ _ H K=>R.pickT (eU K 15 O) (dT hz) (kB true O) O H,Zt⟩ O O O O (tU O ?_)
   refine W.condT O (O) ?_
   refine W.seq ?_
   refine W.l0 1 [.y 2 _] [] [] [(2,_)] [(1,.var _)] 64 ⟨aU fun _ _ H _=>R.asg (kB false O) O H,Zt⟩ O O O O (tU O ?_)
   refine W.ret ?_
   exact Ends.one' (.inr O) O (congrArg D.bool (may_f1 hz).symm) O O Zt
 · refine W.l0 10 [.y 11 _,.y 12 _,.y 13 _,.y 14 _,.y 15 _,.y 16 _,.y 17 _,.y 18 _,.y 19 _,.y 20 _] [] [] [(1,_),(20,_)] [(1,.var _)] 64 ⟨aU (fU 1 O O),aU (lU 11 O O O O O O O),aU fun _ _ H K=>R.lenE (SC.sl (K 12 _ O)) (lN _) H,aU fun _ _ H K=>R.eqlN (t.ins.length) (0) (eU K 13 O) (kI 0 O) H,mU 14 O O,aW O O (gF (dF hz) O) (fU 1 O O),aW O O (gF (dF hz) O) (lU 16 O O O O O O O),aW O O (gF (dF hz) O) fun _ _ H K=>R.lenE (SC.sl (K 17 _ O)) (lN _) H,aW O O (gF (dF hz) O) fun _ _ H K=>R.eqlN (t.outs.length) (0) (eU K 18 O) (kI 0 O) H,aU fun _ _ H K=>R.pickF (eU K 15 O) (dF hz) (eU K 19 O) O H,Zt⟩ O O O O (tU O ?_)
   refine W.condD O (fun hc20=>?_) (fun hc20=>?_)
   · refine W.seq ?_
     refine W.l0 1 [.y 2 _] [] [] [(2,_)] [(1,.var _)] 64 ⟨aU fun _ _ H _=>R.asg (kB false O) O H,Zt⟩ O O O O (tU O ?_)
     refine W.ret ?_
     exact Ends.one' (.inr O) O (congrArg D.bool (may_f2 hc20).symm) O O Zt
   · refine W.skip (W.seq ?_)
     refine W.l0 2 [] [] [] [(1,_)] [(1,.var _)] 64 Zt O O O O (⟨O,_,R.mkmapK placeK D.int O (nU O),⟨O,_,R.asg (gV 21 O) O (nU O),tV [(1,_),(3,_)] [(21,mpK placeK D.int _),(1,.var _)] 64 O O O ?_⟩⟩)
     refine W.seq (W.seq ?_)
     refine W.l0 4 [.y 22 _,.y 23 _,.y 24 _,.y 25 _] [] [] [(1,_),(3,_),(23,_),(24,_),(25,_)] [(21,mpK placeK D.int _),(1,.var _)] 64 ⟨aU (fU 1 O O),aU (lU 22 O O O O O O O),aU fun _ _ H K=>R.lenE (SC.sl (K 23 _ O)) (lN _) H,aU fun _ _ H _=>R.mov (kI 0 O) O H,Zt⟩ O O O O (tU O ?_)
     refine W.block ?_
     refine W.loop (α:={q__ : Nat // q__ <= t.ins.length /\ ∀ j < q__,kHas (seenM t.ins j) (plc t.ins[j]!) = false}) (fun q__=>⟨64,[(1,.ptr 1 0 []),(3,.map 21),(23,.sl none 36 (t.ins.map inD)),(24,.int ((t.ins.length : Nat) : Int)),(25,.int ((q__.1 : Nat) : Int))],[(21,mpK placeK D.int (seenM t.ins q__.1)),(1,.var (.agg [.u32 t.ver,.sl none 36 (t.ins.map inD),.sl none 2 (t.outs.map outD),.u32 t.lock]))]⟩) (fun q__=>t.ins.length - q__.1) ⟨(0),⟨Nat.zero_le _,fun j h=>absurd h (Nat.not_lt_zero _)⟩⟩ O ?_
     rintro ⟨i,⟨hi,hno⟩⟩
     show W _ _ _ _ ⟨64,[(1,.ptr 1 0 []),(3,.map 21),(23,.sl none 36 (t.ins.map inD)),(24,.int ((t.ins.length : Nat) : Int)),(25,.int ((i : Nat) : Int))],[(21,mpK placeK D.int (seenM t.ins i)),(1,.var (.agg [.u32 t.ver,.sl none 36 (t.ins.map inD),.sl none 2 (t.outs.map outD),.u32 t.lock]))]⟩
     have hi : i <= t.ins.length:=hi
     have hno : ∀ j < i,kHas (seenM t.ins j) (plc t.ins[j]!) = false:=hno
     refine W.seq ?_
     refine W.l0 1 [.y 26 _] [] [] [(1,_),(3,_),(23,_),(24,_),(25,_),(26,_)] [(21,mpK placeK D.int _),(1,.var _)] 64 ⟨aU fun _ _ H K=>R.lssN (i) (t.ins.length) (eU K 25 O) (eU K 24 O) H,Zt⟩ O O O O (tU O ?_)
     refine W.seq ?_
     refine W.condD O (fun hc26=>?_) (fun hc26=>?_)
     · refine W.skip (W.seq (W.block (W.seq ?_)))
       refine W.l0 6 [.y 27 _,.y 28 _,.y 29 _] [] [] [(1,_),(3,_),(23,_),(24,_),(25,_),(27,_),(29,_)] [(21,mpK placeK D.int _),(1,.var _)] 64 ⟨mU 25 O O,aU fun _ _ H K=>R.idxN (i) (SC.sl (K 23 _ O)) (evoI (eU K 25 O)) O bU H dU,aU fun _ _ H K=>R.ldE (K 28 _ O) (SC.sl (K 23 _ O)) (map_get! (l:=t.ins) bU) O O O O H,Zt⟩ O O O O (⟨O,_,R.alloc O (nU O),⟨O,_,R.asg (gV 27 O) O (nU O),⟨O,_,R.stZ (gU 5 O) (xU 5 O) O (gV 29 O) (by rfl) (by rfl) (by rfl) (by rfl) O,tV [(1,_),(3,_),(4,_),(5,_),(23,_),(24,_),(25,_)] [(5,.var _),(21,mpK placeK D.int _),(1,.var _)] 64 O O O ?_⟩⟩⟩)
       refine W.seq (W.seq ?_)
       refine W.l0 9 [.y 31 _,.y 32 _,.y 33 _,.y 34 _,.y 30 _,.y 35 _,.y 36 _,.y 6 _,.y 7 _] [] [] [(1,_),(3,_),(4,_),(5,_),(7,_),(23,_),(24,_),(25,_)] [(5,.var _),(21,mpK placeK D.int _),(1,.var _)] 64 ⟨mU 3 O O,aU (fU 5 O O),aU (lU 32 O O O O O O O),aU fun _ B H K=>R.lookK (k:=plc t.ins[i]!) (z:=0) place_key (K 31 _ O) (B 21 _ O) (eU K 33 O) O O (fun _=>rfl) H,aU fun _ _ H K=>R.movT (K 34 _ O) O H,aU fun _ _ H K=>R.ext (K 30 _ O) O O H,aU fun _ _ H K=>R.ext (K 30 _ O) O O H,aU fun _ _ H K=>R.asg (eU K 35 O) O H,aU fun _ _ H K=>R.asg (eU K 36 O) O H,Zt⟩ O O O O (tU O ?_)
       refine W.seq ?_
       refine W.l0 1 [.y 37 _] [] [] [(1,_),(3,_),(4,_),(5,_),(23,_),(24,_),(25,_),(37,_)] [(5,.var _),(21,mpK placeK D.int _),(1,.var _)] 64 ⟨mU 7 O O,Zt⟩ O O O O (tU O ?_)
       refine W.cond O (fun hc37=>?_) (fun hc37=>?_)
       · refine W.seq ?_
         refine W.dropS (live:=[]) (env':=[]) (bx':=[(5,.var _),(21,mpK placeK D.int _),(1,.var _)]) (n':=64) O O O ?_
         refine W.dropBP [1,21] (bx':=[(21,mpK placeK D.int _),(1,.var _)]) O O ⟨okMpK (fun _=>rfl) (fun _=>rfl),⟨O,Zt⟩⟩ (pin_sub hD O) ?_
         refine W.l0 1 [.y 2 _] [] [] [(2,_)] [(21,mpK placeK D.int _),(1,.var _)] 64 ⟨aU fun _ _ H _=>R.asg (kB false O) O H,Zt⟩ O O O O (tU O ?_)
         refine W.ret ?_
         exact Ends.one' (.inr O) O (congrArg D.bool (may_f3 hc26 hc37).symm) O O Zt
       · refine W.skip ?_
         refine W.l0 5 [.y 38 _,.y 39 _,.y 40 _,.y 41 _] [] [] [(1,_),(3,_),(23,_),(24,_),(25,_),(38,_),(40,_),(41,_)] [(5,.var _),(21,mpK placeK D.int _),(1,.var _)] 64 ⟨mU 3 O O,aU (fU 5 O O),aU (lU 39 O O O O O O O),mU 4 O O,Zt⟩ O O O O (⟨O,_,R.mupdN (k:=plc t.ins[i]!) (u:=((i : Nat) : Int)) place_key (gU 38 O) (xU 21 O) (gV 40 O) O (gV 41 O) O O (hc37),tV [(1,_),(3,_),(23,_),(24,_),(25,_)] [(5,.var _),(21,mpK placeK D.int _),(1,.var _)] 64 O O O ?_⟩)
         refine W.dropBP [1,21] (bx':=[(21,mpK placeK D.int _),(1,.var _)]) O O ⟨okMpK (fun _=>rfl) (fun _=>rfl),⟨O,Zt⟩⟩ (pin_sub hD O) ?_
         refine W.l0 2 [.y 42 _,.y 25 _] [] [] [(1,_),(3,_),(23,_),(24,_),(25,_)] [(21,mpK placeK D.int _),(1,.var _)] 64 ⟨aU fun _ _ H K=>R.addN (i) (1) (eU K 25 O) (kI 1 O) bU H,mU 42 O O,Zt⟩ O O O O (tU O ?_)
         exact ⟨⟨(i + 1),⟨by omega,fun j hj=>(Nat.lt_succ_iff_lt_or_eq.1 hj).elim (hno j) (fun e=>e ▸ hc37)⟩⟩,rfl,(by simp only []; omega)⟩
     · obtain rfl : i = t.ins.length:=by omega
       refine W.exit (W.seq ?_)
       refine W.l0 1 [.y 8 _] [] [] [(1,_),(8,_)] [(21,mpK placeK D.int _),(1,.var _)] 64 ⟨aU fun _ _ H _=>R.asg (show ev _ _ (.const (.int .u64 0)) = some (.u64 0) from O) O H,Zt⟩ O O O O (tU O ?_)
       refine W.seq (W.seq ?_)
       refine W.l0 4 [.y 43 _,.y 44 _,.y 45 _,.y 46 _] [] [] [(1,_),(8,_),(44,_),(45,_),(46,_)] [(21,mpK placeK D.int _),(1,.var _)] 64 ⟨aU (fU 1 O O),aU (lU 43 O O O O O O O),aU fun _ _ H K=>R.lenE (SC.sl (K 44 _ O)) (lN _) H,aU fun _ _ H _=>R.mov (kI 0 O) O H,Zt⟩ O O O O (tU O ?_)
       refine W.block ?_
       refine W.loop (α:={q__ : Nat // q__ <= t.outs.length /\ ∀ j < q__,¬ 2100000000000000 < t.outs[j]!.value /\ ¬ 2100000000000000 < sumI t.outs (j + 1)}) (fun q__=>⟨64,[(1,.ptr 1 0 []),(8,.u64 (sumI t.outs q__.1)),(44,.sl none 2 (t.outs.map outD)),(45,.int ((t.outs.length : Nat) : Int)),(46,.int ((q__.1 : Nat) : Int))],[(21,mpK placeK D.int (seenM t.ins t.ins.length)),(1,.var (.agg [.u32 t.ver,.sl none 36 (t.ins.map inD),.sl none 2 (t.outs.map outD),.u32 t.lock]))]⟩) (fun q__=>t.outs.length - q__.1) ⟨(0),⟨Nat.zero_le _,fun j h=>absurd h (Nat.not_lt_zero _)⟩⟩ O ?_
       rintro ⟨i,⟨hi,hmo⟩⟩
       show W _ _ _ _ ⟨64,[(1,.ptr 1 0 []),(8,.u64 (sumI t.outs i)),(44,.sl none 2 (t.outs.map outD)),(45,.int ((t.outs.length : Nat) : Int)),(46,.int ((i : Nat) : Int))],[(21,mpK placeK D.int (seenM t.ins t.ins.length)),(1,.var (.agg [.u32 t.ver,.sl none 36 (t.ins.map inD),.sl none 2 (t.outs.map outD),.u32 t.lock]))]⟩
       have hi : i <= t.outs.length:=hi
       have hmo : ∀ j < i,¬ 2100000000000000 < t.outs[j]!.value /\ ¬ 2100000000000000 < sumI t.outs (j + 1):=hmo
       refine W.seq ?_
       refine W.l0 1 [.y 47 _] [] [] [(1,_),(8,_),(44,_),(45,_),(46,_),(47,_)] [(21,mpK placeK D.int _),(1,.var _)] 64 ⟨aU fun _ _ H K=>R.lssN (i) (t.outs.length) (eU K 46 O) (eU K 45 O) H,Zt⟩ O O O O (tU O ?_)
       refine W.seq ?_
       refine W.condD O (fun hc47=>?_) (fun hc47=>?_)
       · refine W.skip (W.seq (W.block (W.seq ?_)))
         refine W.l0 4 [.y 48 _,.y 49 _] [] [] [(1,_),(8,_),(44,_),(45,_),(46,_),(49,_)] [(21,mpK placeK D.int _),(1,.var _)] 64 ⟨aU fun _ _ H K=>R.idxN (i) (SC.sl (K 44 _ O)) (evoI (eU K 46 O)) O bU H dU,aU fun _ _ H K=>R.ldE (K 48 _ O) (SC.sl (K 44 _ O)) (map_get! (l:=t.outs) bU) O O O O H,Zt⟩ O O O O (⟨O,_,R.alloc O (nU O),⟨O,_,R.stZ (gU 10 O) (xU 10 O) O (gV 49 O) (by rfl) (by rfl) (by rfl) (by rfl) O,tV [(1,_),(8,_),(10,_),(44,_),(45,_),(46,_)] [(10,.var _),(21,mpK placeK D.int _),(1,.var _)] 64 O O O ?_⟩⟩)
         refine W.seq (W.seq ?_)
         refine W.l0 3 [.y 50 _,.y 51 _,.y 52 _] [] [] [(1,_),(8,_),(10,_),(44,_),(45,_),(46,_),(52,_)] [(10,.var _),(21,mpK placeK D.int _),(1,.var _)] 64 ⟨aU (fU 10 O O),aU (lU 50 O O O O O O O),aU fun _ _ H K=>R.bin (eU K 51 O) (show ev _ _ (.const (.int .u64 2100000000000000)) = some (.u64 2100000000000000) from O) O Zt H,Zt⟩ O O O O (tU O ?_)
         refine W.cond O (fun hc52=>?_) (fun hc52=>?_)
         · refine W.seq ?_
           refine W.dropS (live:=[]) (env':=[]) (bx':=[(10,.var _),(21,mpK placeK D.int _),(1,.var _)]) (n':=64) O O O ?_
           refine W.dropBP [1,21] (bx':=[(21,mpK placeK D.int _),(1,.var _)]) O O ⟨okMpK (fun _=>rfl) (fun _=>rfl),⟨O,Zt⟩⟩ (pin_sub hD O) ?_
           refine W.l0 1 [.y 2 _] [] [] [(2,_)] [(21,mpK placeK D.int _),(1,.var _)] 64 ⟨aU fun _ _ H _=>R.asg (kB false O) O H,Zt⟩ O O O O (tU O ?_)
           refine W.ret ?_
           exact Ends.one' (.inr O) O (congrArg D.bool (may_f4 hc47 (of_decide_eq_true hc52)).symm) O O Zt
         · refine W.skip (W.seq ?_)
           refine W.l0 5 [.y 53 _,.y 54 _,.y 55 _,.y 56 _,.y 8 _] [] [] [(1,_),(8,_),(44,_),(45,_),(46,_)] [(10,.var _),(21,mpK placeK D.int _),(1,.var _)] 64 ⟨mU 8 O O,aU (fU 10 O O),aU (lU 54 O O O O O O O),aU fun _ _ H K=>R.bin (eU K 53 O) (eU K 55 O) O Zt H,aU fun _ _ H K=>R.asg (eU K 56 O) O H,Zt⟩ O O O O (tU O ?_)
           refine W.seq ?_
           refine W.dropBP [1,21] (bx':=[(21,mpK placeK D.int _),(1,.var _)]) O O ⟨okMpK (fun _=>rfl) (fun _=>rfl),⟨O,Zt⟩⟩ (pin_sub hD O) ?_
           refine W.l0 2 [.y 57 _,.y 58 _] [] [] [(1,_),(8,_),(44,_),(45,_),(46,_),(58,_)] [(21,mpK placeK D.int _),(1,.var _)] 64 ⟨mU 8 O O,aU fun _ _ H K=>R.bin (eU K 57 O) (show ev _ _ (.const (.int .u64 2100000000000000)) = some (.u64 2100000000000000) from O) O Zt H,Zt⟩ O O O O (tU O ?_)
           refine W.cond O (fun hc58=>?_) (fun hc58=>?_)
           · refine W.seq ?_
             refine W.l0 1 [.y 2 _] [] [] [(2,_)] [(21,mpK placeK D.int _),(1,.var _)] 64 ⟨aU fun _ _ H _=>R.asg (kB false O) O H,Zt⟩ O O O O (tU O ?_)
             refine W.ret ?_
             exact Ends.one' (.inr O) O (congrArg D.bool (may_f5 hc47 (of_decide_eq_true hc58)).symm) O O Zt
           · refine W.skip ?_
             refine W.l0 2 [.y 59 _,.y 46 _] [] [] [(1,_),(8,_),(44,_),(45,_),(46,_)] [(21,mpK placeK D.int _),(1,.var _)] 64 ⟨aU fun _ _ H K=>R.addN (i) (1) (eU K 46 O) (kI 1 O) bU H,mU 59 O O,Zt⟩ O O O O (tU O ?_)
             exact ⟨⟨(i + 1),⟨by omega,fun j hj=>(Nat.lt_succ_iff_lt_or_eq.1 hj).elim (hmo j) (fun e=>e ▸ ⟨of_decide_eq_false hc52,of_decide_eq_false hc58⟩)⟩⟩,rfl,(by simp only []; omega)⟩
       · obtain rfl : i = t.outs.length:=by omega
         refine W.exit (W.seq ?_)
         refine W.l0 5 [.y 60 _,.y 61 _,.y 62 _,.y 63 _,.y 2 _] [] [] [(2,_)] [(21,mpK placeK D.int _),(1,.var _)] 64 ⟨aU (lU 1 O O O O O O O),aU fun _ _ H K=>R.callG hC (put_ok t hwf) (Bc (Bp (eU K 60 O) O O) Bn) (FrsR.one (.sl _ _ _ (frs_map fun _=>.u8 _))) H,aU fun _ _ H K=>R.lenE (SC.sl (K 61 _ O)) (lN _) H,aU fun _ _ H K=>R.leqN ((putS t).length) (16384) (eU K 62 O) (kI 16384 O) H,aU fun _ _ H K=>R.asg (eU K 63 O) O H,Zt⟩ O O O O (tU O ?_)
         refine W.ret ?_
         exact Ends.one' (.inr O) O (congrArg D.bool (may_fin hz hc20 hno hmo).symm) O O Zt
end Go.Sx

namespace Go.Sx
open Go.Proofs
theorem make_ok (l : List Un) (ws : List Wnt) (r : UInt64) (hl : l.length <= 4096) (hx : hs32 l) (hw : ws.length <= 1000000) (own : List UInt8) (ho : own.length <= 1000000) : Fn Try.prog gl 15 [.sl none 35 (l.map coD),.sl none 2 (ws.map wntD),.sl none 1 (own.map D.u8),.u64 r] (.tup [txD (mkT l ws own r),.int (mkE l ws own r)]):=by
 refine Fn.of (n:=78) Try.func15 rfl rfl rfl (nU rfl) fun C hC hD=>?_
 have hcl:=chC_len l ws r
 refine W.seq ?_
 refine W.l0 2 [] [] [] [(0,_),(1,_),(2,_),(3,_)] [] 78 Zt O O O O (⟨O,_,R.alloc O (nU O),⟨O,_,R.asg (kI 0 O) O (nU O),tV [(0,_),(1,_),(2,_),(3,_),(8,_)] [(8,.var _)] 78 O O O ?_⟩⟩)
 refine W.seq ?_
 refine W.l0 11 [.y 20 _,.y 21 _,.y 22 _,.y 23 _,.y 19 _,.y 24 _,.y 25 _,.y 26 _,.y 10 _,.y 11 _,.y 12 _] [] [] [(1,_),(2,_),(8,_),(10,_),(11,_),(12,_)] [(8,.var _)] 78 ⟨mU 0 O O,mU 1 O O,mU 3 O O,aU fun _ _ H K=>R.callPE hC (choose_ok l ws r hl hx hw) (EvP.cons (eU K 20 O) O O (EvP.cons (eU K 21 O) O O (EvP.cons (eU K 22 O) O O EvP.nil))) H,aU fun _ _ H K=>R.movT (K 23 _ O) O H,aU fun _ _ H K=>R.ext (K 19 _ O) O O H,aU fun _ _ H K=>R.ext (K 19 _ O) O O H,aU fun _ _ H K=>R.ext (K 19 _ O) O O H,aU fun _ _ H K=>R.asg (eU K 24 O) O H,aU fun _ _ H K=>R.asg (eU K 25 O) O H,aU fun _ _ H K=>R.asg (eU K 26 O) O H,Zt⟩ O O O O (tU O ?_)
 refine W.seq (W.block (W.seq ?_))
 refine W.l0 3 [.y 28 _,.y 29 _,.y 27 _] [] [] [(1,_),(2,_),(8,_),(10,_),(11,_),(12,_),(27,_)] [(8,.var _)] 78 ⟨mU 12 O O,aU fun _ _ H K=>R.bin (eU K 28 O) (kI 0 O) O Zt H,aU fun _ _ H K=>R.asg (eU K 29 O) O H,Zt⟩ O O O O (tU O ?_)
 refine W.cond O (fun hc27=>?_) (fun hc27=>?_)
 · refine W.seq ?_
   refine W.l0 4 [.y 30 _,.y 31 _] [] [] [(8,_),(30,_),(31,_)] [(8,.var _)] 78 ⟨aU fun _ _ H _=>R.bldSE (l:=[.u32 0,.nils,.nils,.u32 0]) (l':=[_,_,_,_]) (.nil O) Zt H,mU 12 O O,Zt⟩ O O O O (⟨O,_,R.stZ (gU 8 O) (xU 8 O) O (gV 30 O) (by rfl) (by rfl) (by rfl) (by rfl) O,⟨O,_,R.asg (gV 31 O) O (nU O),tV [(8,_),(9,_)] [(8,.var _)] 78 O O O ?_⟩⟩)
   refine W.wkB 8 (d':=txD zeroT) (bx':=[(8,.var _)]) O wk_zeroT O ?_
   refine W.ret ?_
   exact Ends.many (.inr O) (.cons O O O (show LdT _ 30 4 true from inferInstance) (.cons O O O Zt .nil)) (mk_1 (by simpa using hc27)) (show [(8,false),(9,true)].Nodup by decide)
 · refine W.seq ?_
   have he : chE l ws r = 0:=by simpa using hc27
   have hq:=chE_P he
   refine W.l0 4 [.y 33 _,.y 34 _,.y 35 _,.y 32 _] [] [] [(1,_),(2,_),(8,_),(10,_),(11,_),(32,_)] [(8,.var _)] 78 ⟨mU 2 O O,aU fun _ _ H K=>R.lenE (SC.sl (K 33 _ O)) (lN _) H,aU fun _ _ H K=>R.gtrN (own.length) (1000) (eU K 34 O) (kI 1000 O) H,aU fun _ _ H K=>R.asg (eU K 35 O) O H,Zt⟩ O O O O (tU O ?_)
   refine W.condD O (fun hc32=>?_) (fun hc32=>?_)
   · refine W.seq ?_
     refine W.l0 3 [.y 36 _] [] [] [(8,_),(36,_)] [(8,.var _)] 78 ⟨aU fun _ _ H _=>R.bldSE (l:=[.u32 0,.nils,.nils,.u32 0]) (l':=[_,_,_,_]) (.nil O) Zt H,Zt⟩ O O O O (⟨O,_,R.stZ (gU 8 O) (xU 8 O) O (gV 36 O) (by rfl) (by rfl) (by rfl) (by rfl) O,⟨O,_,R.asg (kI 1 O) O (nU O),tV [(8,_),(9,_)] [(8,.var _)] 78 O O O ?_⟩⟩)
     refine W.wkB 8 (d':=txD zeroT) (bx':=[(8,.var _)]) O wk_zeroT O ?_
     refine W.ret ?_
     exact Ends.many (.inr O) (.cons O O O (show LdT _ 30 4 true from inferInstance) (.cons O O O Zt .nil)) (mk_2 he (by first | exact hc32 | exact of_decide_eq_true hc32)) (show [(8,false),(9,true)].Nodup by decide)
   · refine W.skip (W.seq ?_)
     refine W.l0 3 [.y 37 _] [] [] [(1,_),(2,_),(8,_),(10,_),(11,_),(37,_)] [(8,.var _)] 78 ⟨aU fun _ _ H _=>R.bldSE (l:=[.u32 0,.nils,.nils,.u32 0]) (l':=[_,_,_,_]) (.cons (show ev _ _ (.const (.int .u32 2)) = some (.u32 2) from O) (.nil O)) ⟨⟨_,(show ev _ _ (.const (.int .u32 2)) = some (.u32 2) from O),O,O,O⟩,Zt⟩ H,Zt⟩ O O O O (⟨O,_,R.alloc O (nU O),⟨O,_,R.stZ (gU 13 O) (xU 13 O) O (gV 37 O) (by rfl) (by rfl) (by rfl) (by rfl) O,tV [(1,_),(2,_),(8,_),(10,_),(11,_),(13,_)] [(13,.var _),(8,.var _)] 78 O O O ?_⟩⟩)
     refine W.seq (W.seq ?_)
     refine W.asOwnP 13 [1] 46 36 (bx':=[(13,.var _),(8,.var _)]) O O O O O ?_
     refine W.l0 3 [.y 38 _,.y 39 _,.y 40 _] [] [] [(1,_),(2,_),(8,_),(11,_),(13,_),(38,_),(39,_),(40,_)] [(13,.var _),(8,.var _)] 78 ⟨mU 10 O O,aU fun _ _ H K=>R.lenE (SC.sl (K 38 _ O)) (lN _) H,aU fun _ _ H _=>R.mov (kI 0 O) O H,Zt⟩ O O O O (tU O ?_)
     refine W.block ?_
     refine W.loop (α:={q__ : Nat // q__ <= (chC l ws r).length}) (fun q__=>⟨78,[(1,.sl none 2 (ws.map wntD)),(2,.sl none 1 (own.map D.u8)),(8,.ptr 8 0 []),(11,.u64 (chV l ws r)),(13,.ptr 13 0 []),(38,.sl none 35 ((chC l ws r).map coD)),(39,.int (((chC l ws r).length : Nat) : Int)),(40,.int ((q__.1 : Nat) : Int))],[(13,.var (.agg [.u32 2,.sl (some 46) 36 (((chC l ws r).take q__.1).map inC),.nils,.u32 0])),(8,.var (.agg [.u32 0,.nils,.nils,.u32 0]))]⟩) (fun q__=>(chC l ws r).length - q__.1) ⟨(0),bU⟩ O ?_
     rintro ⟨i,hi⟩
     show W _ _ _ _ ⟨78,[(1,.sl none 2 (ws.map wntD)),(2,.sl none 1 (own.map D.u8)),(8,.ptr 8 0 []),(11,.u64 (chV l ws r)),(13,.ptr 13 0 []),(38,.sl none 35 ((chC l ws r).map coD)),(39,.int (((chC l ws r).length : Nat) : Int)),(40,.int ((i : Nat) : Int))],[(13,.var (.agg [.u32 2,.sl (some 46) 36 (((chC l ws r).take i).map inC),.nils,.u32 0])),(8,.var (.agg [.u32 0,.nils,.nils,.u32 0]))]⟩
     have hi : i <= (chC l ws r).length:=hi
     refine W.seq ?_
     refine W.l0 1 [.y 41 _] [] [] [(1,_),(2,_),(8,_),(11,_),(13,_),(38,_),(39,_),(40,_),(41,_)] [(13,.var _),(8,.var _)] 78 ⟨aU fun _ _ H K=>R.lssN (i) ((chC l ws r).length) (eU K 40 O) (eU K 39 O) H,Zt⟩ O O O O (tU O ?_)
     refine W.seq ?_
     refine W.condD O (fun hc41=>?_) (fun hc41=>?_)
     · refine W.skip (W.seq (W.block (W.seq ?_)))
       refine W.l0 4 [.y 42 _,.y 43 _] [] [] [(1,_),(2,_),(8,_),(11,_),(13,_),(38,_),(39,_),(40,_),(43,_)] [(13,.var _),(8,.var _)] 78 ⟨aU fun _ _ H K=>R.idxN (i) (SC.sl (K 38 _ O)) (evoI (eU K 40 O)) O bU H dU,aU fun _ _ H K=>R.ldE (K 42 _ O) (SC.sl (K 38 _ O)) (map_get! (l:=(chC l ws r)) bU) O O O O H,Zt⟩ O O O O (⟨O,_,R.alloc O (nU O),⟨O,_,R.stZ (gU 15 O) (xU 15 O) O (gV 43 O) (by rfl) (by rfl) (by rfl) (by rfl) O,tV [(1,_),(2,_),(8,_),(11,_),(13,_),(15,_),(38,_),(39,_),(40,_)] [(15,.var _),(13,.var _),(8,.var _)] 78 O O O ?_⟩⟩)
       refine W.l0 9 [.y 44 _,.y 45 _,.y 46 _,.y 47 _,.y 48 _,.y 49 _] [] [] [(1,_),(2,_),(8,_),(11,_),(13,_),(38,_),(39,_),(40,_),(45,_),(49,_)] [(15,.var _),(13,.var _),(8,.var _)] 78 ⟨aU (fU 13 O O),aU fun _ B H K=>R.ldO (K 44 _ O) (B 13 _ O) O H,aU (fU 15 O O),aU (lU 46 O O O O O O O),aU fun _ _ H K=>R.bldSE (l:=[.agg [.arr 32 1 ((List.replicate 32 0).map D.u8),.u32 0],.nils,.u32 0,.nils]) (l':=[_,_,_,_]) (.cons (eU K 47 O) (.cons (show ev _ _ (.const (.int .u32 4294967295)) = some (.u32 4294967295) from O) (.nil O))) ⟨⟨_,(eU K 47 O),O,O,O⟩,⟨⟨_,(show ev _ _ (.const (.int .u32 4294967295)) = some (.u32 4294967295) from O),O,O,O⟩,Zt⟩⟩ H,aU fun _ _ H K=>R.bslE (z:=36) (.cons (eU K 48 O) .nil) ⟨⟨O,O,O⟩,Zt⟩ O H dU,Zt⟩ O O O O (⟨O,_,R.appBP (gU 45 O) (xU 13 O) O O O O (gU 45 O) (SrcO.sc (SC.sl (gU 49 O)) (pur_lit O)) (show _ = (((chC l ws r).take (i + 1)).map inC) from (mkI_app hc41)) bU (nU O) dU dU,⟨O,_,R.fdP (gU 13 O) (nU O),⟨O,_,R.stOZ (gU 51 O) (xU 13 O) O (gU 50 O) O O (by rfl) (by rfl) O O,tV [(1,_),(2,_),(8,_),(11,_),(13,_),(38,_),(39,_),(40,_)] [(15,.var _),(13,.var _),(8,.var _)] 78 O O O ?_⟩⟩⟩)
       refine W.dropB [8,13] (bx':=[(13,.var _),(8,.var _)]) O O O (pin_sub hD O) ?_
       refine W.l0 2 [.y 52 _,.y 40 _] [] [] [(1,_),(2,_),(8,_),(11,_),(13,_),(38,_),(39,_),(40,_)] [(13,.var _),(8,.var _)] 78 ⟨aU fun _ _ H K=>R.addN (i) (1) (eU K 40 O) (kI 1 O) bU H,mU 52 O O,Zt⟩ O O O O (tU O ?_)
       exact ⟨⟨(i + 1),bU⟩,rfl,(by simp only []; omega)⟩
     · obtain rfl : i = (chC l ws r).length:=by omega
       rw [List.take_length]
       refine W.exit (W.seq ?_)
       refine W.wkB 13 (d':=.agg [.u32 2,.sl (some 46) 36 ((chC l ws r).map inC),.sl (some 48) 2 (([] : List OutS).map outOwn),.u32 0]) (bx':=[(13,.var _),(8,.var _)]) O (wk_mkE _ _) O ?_
       refine W.l0 2 [.y 53 _,.y 16 _] [] [] [(1,_),(2,_),(8,_),(11,_),(13,_),(16,_)] [(13,.var _),(8,.var _)] 78 ⟨aU fun _ _ H K=>R.mkfn1 (eU K 13 O) O O H,aU fun _ _ H K=>R.asg (eU K 53 O) O H,Zt⟩ O O O O (tU O ?_)
       refine W.seq (W.seq ?_)
       refine W.l0 3 [.y 54 _,.y 55 _,.y 56 _] [] [] [(2,_),(8,_),(11,_),(13,_),(16,_),(54,_),(55,_),(56,_)] [(13,.var _),(8,.var _)] 78 ⟨mU 1 O O,aU fun _ _ H K=>R.lenE (SC.sl (K 54 _ O)) (lN _) H,aU fun _ _ H _=>R.mov (kI 0 O) O H,Zt⟩ O O O O (tU O ?_)
       refine W.block ?_
       refine W.loop (α:={q__ : Nat // q__ <= ws.length}) (fun q__=>⟨78,[(2,.sl none 1 (own.map D.u8)),(8,.ptr 8 0 []),(11,.u64 (chV l ws r)),(13,.ptr 13 0 []),(16,.fn 31 [.ptr 13 0 []]),(54,.sl none 2 (ws.map wntD)),(55,.int ((ws.length : Nat) : Int)),(56,.int ((q__.1 : Nat) : Int))],[(13,.var (.agg [.u32 2,.sl (some 46) 36 ((chC l ws r).map inC),.sl (some 48) 2 (((ws.take q__.1).map woS).map outOwn),.u32 0])),(8,.var (.agg [.u32 0,.nils,.nils,.u32 0]))]⟩) (fun q__=>ws.length - q__.1) ⟨(0),bU⟩ O ?_
       rintro ⟨i,hi⟩
       show W _ _ _ _ ⟨78,[(2,.sl none 1 (own.map D.u8)),(8,.ptr 8 0 []),(11,.u64 (chV l ws r)),(13,.ptr 13 0 []),(16,.fn 31 [.ptr 13 0 []]),(54,.sl none 2 (ws.map wntD)),(55,.int ((ws.length : Nat) : Int)),(56,.int ((i : Nat) : Int))],[(13,.var (.agg [.u32 2,.sl (some 46) 36 ((chC l ws r).map inC),.sl (some 48) 2 (((ws.take i).map woS).map outOwn),.u32 0])),(8,.var (.agg [.u32 0,.nils,.nils,.u32 0]))]⟩
       have hi : i <= ws.length:=hi
       refine W.seq ?_
       refine W.l0 1 [.y 57 _] [] [] [(2,_),(8,_),(11,_),(13,_),(16,_),(54,_),(55,_),(56,_),(57,_)] [(13,.var _),(8,.var _)] 78 ⟨aU fun _ _ H K=>R.lssN (i) (ws.length) (eU K 56 O) (eU K 55 O) H,Zt⟩ O O O O (tU O ?_)
       refine W.seq ?_
       refine W.condD O (fun hc57=>?_) (fun hc57=>?_)
       · refine W.skip (W.seq (W.block (W.seq ?_)))
         refine W.l0 4 [.y 58 _,.y 59 _] [] [] [(2,_),(8,_),(11,_),(13,_),(16,_),(54,_),(55,_),(56,_),(59,_)] [(13,.var _),(8,.var _)] 78 ⟨aU fun _ _ H K=>R.idxN (i) (SC.sl (K 54 _ O)) (evoI (eU K 56 O)) O bU H dU,aU fun _ _ H K=>R.ldE (K 58 _ O) (SC.sl (K 54 _ O)) (map_get! (l:=ws) bU) O O O O H,Zt⟩ O O O O (⟨O,_,R.alloc O (nU O),⟨O,_,R.stZ (gU 18 O) (xU 18 O) O (gV 59 O) (by rfl) (by rfl) (by rfl) (by rfl) O,tV [(2,_),(8,_),(11,_),(13,_),(16,_),(18,_),(54,_),(55,_),(56,_)] [(18,.var _),(13,.var _),(8,.var _)] 78 O O O ?_⟩⟩)
         refine W.l0 6 [.y 60 _,.y 61 _,.y 62 _,.y 63 _,.y 64 _] [] [] [(2,_),(8,_),(11,_),(13,_),(16,_),(54,_),(55,_),(56,_),(60,_),(62,_),(64,_)] [(18,.var _),(13,.var _),(8,.var _)] 78 ⟨mU 16 O O,aU (fU 18 O O),aU (lU 61 O O O O O O O),aU (fU 18 O O),aU (lU 63 O O O O O O O),Zt⟩ O O O O (⟨O,_,R.callVB (ds:=[.sl none 1 (ws[i]!.script.map D.u8),.u64 ws[i]!.value]) (caps:=[.ptr 0 0 []]) [(0,13)] hC (gU 60 O) O O (make1_ok (chC l ws r) ((ws.take i).map woS) ws[i]!.script ws[i]!.value (by simp only [List.length_map,List.length_take]; have:=hq.1.2.1; omega) (by have:=(hq.1.2.2 i hc57).2.2; omega)) (EvB.cons (gV 62 O) O O O (EvB.cons (gV 64 O) O O O EvB.nil)) O ⟨O,Zt⟩ ⟨O,Zt⟩ O O O O O O (nU O),tV [(2,_),(8,_),(11,_),(13,_),(16,_),(54,_),(55,_),(56,_)] [(18,.var _),(13,.var _),(8,.var _)] 78 O O O ?_⟩)
         refine W.dropB [8,13] (bx':=[(13,.var _),(8,.var _)]) O O O (pin_sub hD O) ?_
         refine W.l0 2 [.y 66 _,.y 56 _] [] [] [(2,_),(8,_),(11,_),(13,_),(16,_),(54,_),(55,_),(56,_)] [(13,.var _),(8,.var _)] 78 ⟨aU fun _ _ H K=>R.addN (i) (1) (eU K 56 O) (kI 1 O) bU H,mU 66 O O,Zt⟩ O O O O (tU O ?_)
         exact ⟨⟨(i + 1),bU⟩,(by dsimp only; rw [woS_app hc57] <;> rfl),(by simp only []; omega)⟩
       · obtain rfl : i = ws.length:=by omega
         rw [List.take_length]
         refine W.exit ?_
         refine W.seqM (fun s__=>∃ q__ : {q__ : Unit // True},s__ = ⟨78,[(8,.ptr 8 0 []),(13,.ptr 13 0 [])],[(13,.var (.agg [.u32 2,.sl (some 46) 36 ((chC l ws r).map inC),.sl (some 48) 2 ((mkO ws (chV l ws r) own).map outOwn),.u32 0])),(8,.var (.agg [.u32 0,.nils,.nils,.u32 0]))]⟩) ?_ ?_
         · refine W.seq ?_
           refine W.l0 2 [.y 67 _,.y 68 _] [] [] [(2,_),(8,_),(11,_),(13,_),(16,_),(68,_)] [(13,.var _),(8,.var _)] 78 ⟨mU 11 O O,aU fun _ _ H K=>R.bin (eU K 67 O) (show ev _ _ (.const (.int .u64 0)) = some (.u64 0) from O) O Zt H,Zt⟩ O O O O (tU O ?_)
           refine W.cond O (fun hc68=>?_) (fun hc68=>?_)
           · refine W.l0 4 [.y 69 _,.y 70 _,.y 71 _] [] [] [(8,_),(13,_),(69,_),(70,_),(71,_)] [(13,.var _),(8,.var _)] 78 ⟨mU 16 O O,mU 2 O O,mU 11 O O,Zt⟩ O O O O (⟨O,_,R.callVB (ds:=[.sl none 1 (own.map D.u8),.u64 (chV l ws r)]) (caps:=[.ptr 0 0 []]) [(0,13)] hC (gU 69 O) O O (make1_ok (chC l ws r) (ws.map woS) own (chV l ws r) (by simp only [List.length_map]; have:=hq.1.2.1; omega) (ho)) (EvB.cons (gV 70 O) O O O (EvB.cons (gV 71 O) O O O EvB.nil)) O ⟨O,Zt⟩ ⟨O,Zt⟩ O O O O O O (nU O),tV [(8,_),(13,_)] [(13,.var _),(8,.var _)] 78 O O O ?_⟩)
             exact ⟨⟨(()),Zt⟩,(by rw [mkO_y (of_decide_eq_true hc68)] <;> rfl)⟩
           · refine W.dropS (live:=[8,13]) (env':=[(8,_),(13,_)]) (bx':=[(13,.var _),(8,.var _)]) (n':=78) O O O ?_
             refine W.skip ?_
             exact ⟨⟨(()),Zt⟩,(by rw [mkO_n (of_decide_eq_false hc68)] <;> rfl)⟩
         · rintro s__ ⟨⟨_,_⟩,rfl⟩
           refine W.seq (W.seq ?_)
           refine W.wkB 13 (d':=txOwn (mkX l ws own r)) (bx':=[(13,.var _),(8,.var _)]) O (wk_mk _ _) O ?_
           refine W.brwB 13 (d':=txD (mkX l ws own r)) (bx':=[(13,.var _),(8,.var _)]) O (brw_txOwn _) O ?_
           refine W.l0 3 [.y 73 _,.y 74 _,.y 75 _] [] [] [(8,_),(13,_),(75,_)] [(13,.var _),(8,.var _)] 78 ⟨aU (lU 13 O O O O O O O),aU fun _ _ H K=>R.callG hC (may_ok (mkX l ws own r) (mkX_wf hl hx he (by first | exact hc32 | exact of_decide_eq_false hc32 | simpa using hc32))) (Bc (Bp (eU K 73 O) O O) Bn) (FrsR.one (.bool _)) H,aU fun _ _ H K=>R.un (eU K 74 O) O H,Zt⟩ O O O O (tU O ?_)
           refine W.cond O (fun hc75=>?_) (fun hc75=>?_)
           · refine W.seq ?_
             refine W.l0 3 [.y 76 _] [] [] [(8,_),(76,_)] [(13,.var _),(8,.var _)] 78 ⟨aU fun _ _ H _=>R.bldSE (l:=[.u32 0,.nils,.nils,.u32 0]) (l':=[_,_,_,_]) (.nil O) Zt H,Zt⟩ O O O O (⟨O,_,R.stZ (gU 8 O) (xU 8 O) O (gV 76 O) (by rfl) (by rfl) (by rfl) (by rfl) O,⟨O,_,R.asg (kI 6 O) O (nU O),tV [(8,_),(9,_)] [(13,.var _),(8,.var _)] 78 O O O ?_⟩⟩)
             refine W.wkB 8 (d':=txD zeroT) (bx':=[(13,.var _),(8,.var _)]) O wk_zeroT O ?_
             refine W.ret ?_
             exact Ends.many (.inr O) (.cons O O O (show LdT _ 30 4 true from inferInstance) (.cons O O O Zt .nil)) (mk_3 he (by first | exact hc32 | exact of_decide_eq_false hc32) (by simpa using hc75)) (show [(8,false),(9,true)].Nodup by decide)
           · refine W.skip (W.seq ?_)
             refine W.l0 3 [.y 77 _] [] [] [(8,_),(77,_)] [(13,.var _),(8,.var _)] 78 ⟨aU (lU 13 O O O O O O O),Zt⟩ O O O O (⟨O,_,R.stZ (gU 8 O) (xU 8 O) O (gV 77 O) (by rfl) (by rfl) (by rfl) (by rfl) O,⟨O,_,R.asg (kI 0 O) O (nU O),tV [(8,_),(9,_)] [(13,.var _),(8,.var _)] 78 O O O ?_⟩⟩)
             refine W.ret ?_
             exact Ends.many (.inr O) (.cons O O O (show LdT _ 30 4 true from inferInstance) (.cons O O O Zt .nil)) (mk_4 he (by first | exact hc32 | exact of_decide_eq_false hc32) (by simpa using hc75)) (show [(8,false),(9,true)].Nodup by decide)
end Go.Sx
