/-
 The plain law: what sha computes is what scantlingref01 computes.
-/
import Derived.Test.YtgilikgghknbhaaDoorMSxPanic
import Derived.Test.YtgilikgghknbhaaDoorMSxTup
import Derived.Test.YtgilikgghknbhaaDoorMLdInst
set_option linter.unusedVariables false
set_option linter.unusedSimpArgs false
set_option linter.unnecessarySimpa false

namespace Go.Sx
theorem or_comm32 (a b : UInt32) : a ||| b = b ||| a:=by
 apply UInt32.toBitVec_inj.1
 simp [BitVec.or_comm]
theorem right_r (x : UInt32) : right x 2 = rright x 2 /\ right x 13 = rright x 13 /\ right x 22 = rright x 22 /\ right x 6 = rright x 6 /\ right x 11 = rright x 11 /\ right x 25 = rright x 25 /\
 right x 7 = rright x 7 /\ right x 18 = rright x 18 /\ right x 17 = rright x 17 /\ right x 19 = rright x 19:=by
 refine ⟨?_, ?_, ?_, ?_, ?_, ?_, ?_, ?_, ?_, ?_⟩ <;> exact or_comm32 _ _
theorem ch_r (e f g : UInt32) : g ^^^ (e &&& (f ^^^ g)) = e &&& f ^^^ ~~~e &&& g:=by
 apply UInt32.toBitVec_inj.1
 simp only [UInt32.toBitVec_xor,UInt32.toBitVec_and,UInt32.toBitVec_not]
 ext i hi
 simp only [BitVec.getElem_xor,BitVec.getElem_and,BitVec.getElem_not]
 cases e.toBitVec[i] <;> cases f.toBitVec[i] <;> cases g.toBitVec[i] <;> rfl
theorem maj_r (a b c : UInt32) : a &&& b ||| c &&& (a ||| b) = a &&& b ^^^ a &&& c ^^^ b &&& c:=by
 apply UInt32.toBitVec_inj.1
 simp only [UInt32.toBitVec_xor,UInt32.toBitVec_and,UInt32.toBitVec_or]
 ext i hi
 simp only [BitVec.getElem_xor,BitVec.getElem_and,BitVec.getElem_or]
 cases a.toBitVec[i] <;> cases b.toBitVec[i] <;> cases c.toBitVec[i] <;> rfl
theorem get!_append {α : Type} [Inhabited α] {l r : List α} {i : Nat} (h : i < l.length) : (l ++ r)[i]! = l[i]!:=by
 simp [List.getElem?_append_left h]
theorem get!_set_same {α : Type} [Inhabited α] {l : List α} {i : Nat} {v : α} (h : i < l.length) : (l.set i v)[i]! = v:=by simp [h]
theorem next_r (w r : List UInt32) (t : Nat) (h : 16 <= t) (hw : w.length = t) : nextW (w ++ r) t = nextR w t:=by
 unfold nextW nextR
 rw [get!_append (by omega),get!_append (by omega),get!_append (by omega),get!_append (by omega)]
 obtain ⟨_,_,_,_,_,_,h7,h18,_,_⟩:=right_r w[t - 15]!
 obtain ⟨_,_,_,_,_,_,_,_,h17,h19⟩:=right_r w[t - 2]!
 rw [h7,h18,h17,h19]
 generalize rright _ 7 ^^^ _ ^^^ _ = a
 generalize rright _ 17 ^^^ _ ^^^ _ = b
 generalize w[t - 16]! = c
 generalize w[t - 7]! = d
 apply UInt32.toBitVec_inj.1
 simp only [UInt32.toBitVec_add]
 ac_rfl
theorem shl_or (x y : UInt32) : shl_u32 (x ||| y) 8 = shl_u32 x 8 ||| shl_u32 y 8:=by
 apply UInt32.toBitVec_inj.1
 simp [shl_u32,BitVec.shiftLeft_or_distrib]
theorem shl_8_8 (x : UInt32) : shl_u32 (shl_u32 x 8) 8 = shl_u32 x 16:=by
 apply UInt32.toBitVec_inj.1
 simp [shl_u32,<- BitVec.shiftLeft_add]
theorem shl_16_8 (x : UInt32) : shl_u32 (shl_u32 x 16) 8 = shl_u32 x 24:=by
 apply UInt32.toBitVec_inj.1
 simp [shl_u32,<- BitVec.shiftLeft_add]
theorem sched_r (p : List UInt8) (t : Nat) (ht : t <= 64) : sched p t = wR p t ++ List.replicate (64 - t) 0:=by
 induction t with
 | zero=>simp [sched,wR]
 | succ t ih=>
  have ih:=ih (by omega)
  have hl:=wR_len p t
  have hset : ∀ v : UInt32,(wR p t ++ List.replicate (64 - t) 0).set t v = wR p t ++ [v] ++ List.replicate (64 - (t + 1)) 0:=by
   intro v
   rw [List.set_append_right _ _ (by omega),hl,Nat.sub_self,show 64 - t = (64 - (t + 1)) + 1 by omega,List.replicate_succ,List.set_cons_zero]
   simp
  simp only [sched,wR]
  by_cases h : t < 16
  · rw [if_pos h,if_pos h,ih]
    have h0 : (wR p t ++ List.replicate (64 - t) 0)[t]! = 0:=by
     simp only [getElem!_def]
     rw [List.getElem?_append_right (by omega),hl,Nat.sub_self]
     simp [show 0 < 64 - t by omega]
    have hlen : ∀ l : List UInt32,l.length = 64 -> t < l.length:=fun l hl=>by omega
    have e0 : (wR p t ++ List.replicate (64 - t) 0).length = 64:=by simp [hl]; omega
    have hins : inW p t (wR p t ++ List.replicate (64 - t) 0) 4 = (wR p t ++ List.replicate (64 - t) 0).set t (w4 p t):=by
     simp only [inW]
     simp only [List.set_set,get!_set_same (hlen _ e0),h0]
     congr 1
     unfold w4
     have hz : ∀ y : UInt32,shl_u32 0 8 ||| y = y:=fun y=>by
      apply UInt32.toBitVec_inj.1
      simp [shl_u32]
     simp only [hz,shl_or,shl_8_8,shl_16_8,Nat.add_zero]
    rw [hins,hset]
  · rw [if_neg h,if_neg h,ih,next_r _ _ _ (by omega) hl,hset]
theorem sched_64 (p : List UInt8) : sched p 64 = wR p 64:=by rw [sched_r p 64 (Nat.le_refl _)]; simp
theorem W8.list_get (v : W8) : v.list[0]! = v.a /\ v.list[1]! = v.b /\ v.list[2]! = v.c /\ v.list[3]! = v.d /\ v.list[4]! = v.e /\ v.list[5]! = v.f /\ v.list[6]! = v.g /\ v.list[7]! = v.l:=⟨rfl,rfl,rfl,rfl,rfl,rfl,rfl,rfl⟩
theorem of_list (h : List UInt32) (hh : h.length = 8) : (W8.of h).list = h:=by
 match h,hh with
 | [a,b,c,d,e,f,g,l],_=>rfl
theorem rnd_r (v : W8) (k w : UInt32) : (rnd v k w).list = rndR v.list k w:=by
 obtain ⟨e0,e1,e2,e3,e4,e5,e6,e7⟩:=W8.list_get v
 unfold rndR oneR twoR
 simp only [e0,e1,e2,e3,e4,e5,e6,e7]
 obtain ⟨h2,h13,h22,_⟩:=right_r v.a
 obtain ⟨_,_,_,h6,h11,h25,_⟩:=right_r v.e
 simp only [rnd,W8.list,one,two,ch_r,maj_r,h2,h13,h22,h6,h11,h25]
theorem rds_r (h w : List UInt32) (hh : h.length = 8) (t : Nat) : (rds h w t).list = rdsR h w t:=by
 induction t with
 | zero=>exact of_list h hh
 | succ t ih=>simp only [rds,rdsR,rnd_r,ih]
theorem comp_r (h : List UInt32) (p : List UInt8) (hh : h.length = 8) : comp h p = compR h p:=by
 unfold comp compR
 rw [sched_64,rds_r _ _ hh]
theorem outB_r (h : List UInt32) (i : Nat) (hi : i <= 32) : outB h i = outR h i:=by
 induction i with
 | zero=>rfl
 | succ i ih=>
  simp only [outB,outR,ih (by omega)]
  have : (UInt64.ofInt ((24 - 8 * (i % 4) : Nat) : Int)).toNat = 24 - 8 * (i % 4):=by
   have h:=ofInt_u64 ((24 - 8 * (i % 4) : Nat) : Int)
   omega
  rw [this]
theorem long_tail (n : UInt64) (i : Nat) (hi : i <= 8) : longB n i = tailR n i ++ List.replicate (8 - i) 0:=by
 induction i with
 | zero=>simp [longB,tailR]
 | succ i ih=>
  simp only [longB,tailR,ih (by omega)]
  have hl:=tailR_len n i
  rw [List.set_append_right _ _ (by omega),hl,Nat.sub_self,show 8 - i = (8 - (i + 1)) + 1 by omega,List.replicate_succ,List.set_cons_zero]
  have e : (UInt64.ofInt (wr (8 * (7 - ((i : Nat) : Int))))).toNat = 56 - 8 * i:=by
   have h:=ofInt_u64 (wr (8 * (7 - ((i : Nat) : Int))))
   have h2 : wr (8 * (7 - ((i : Nat) : Int))) = 8 * (7 - (i : Int)):=by unfold wr; rw [IntKind.wrap_i64]; omega
   rw [h2] at h
   rw [h2]
   omega
  rw [e]
  simp
theorem long_tail8 (n : UInt64) : longB n 8 = tailR n 8:=by rw [long_tail n 8 (Nat.le_refl _)]; simp
theorem hR_prefix (a b : List UInt8) (q : Nat) (h : 64 * q <= a.length) : hR (a ++ b) q = hR a q:=by
 induction q with
 | zero=>rfl
 | succ q ih=>
  simp only [hR,ih (by omega)]
  rw [List.drop_append_of_le_length (by omega),List.take_append_of_le_length (by simp; omega)]
structure Rep (s : ShaS) (b : List UInt8) : Prop where
 begun : s.begun = true
 n : s.n = UInt64.ofNat b.length
 h : s.h = hR b (b.length / 64)
 len : s.piece.length = 64
 piece : s.piece.take (b.length % 64) = b.drop (64 * (b.length / 64))
theorem Rep.mS {s : ShaS} {b : List UInt8} (h : Rep s b) : mS s = b.length % 64:=by
 unfold Go.Sx.mS
 rw [h.n,UInt64.toNat_mod,UInt64.toNat_ofNat']
 have : (64 : UInt64).toNat = 64:=rfl
 rw [this]; omega
theorem rep_start : Rep ShaS.start []:=⟨rfl,rfl,rfl,by simp [ShaS.start],by simp⟩
theorem rep_step {s : ShaS} {b c : List UInt8} (h : Rep s b) (hc : c.length ≠ 0) : Rep (stepS s c) (b ++ c.take (kS s c)):=by
 have hm:=h.mS
 have hk1:=kS_le s c
 have hk2:=kS_room s c
 have hk3:=kS_pos s c (by omega)
 have hmlt:=mS_lt s
 generalize hk : kS s c = k at hk1 hk2 hk3
 have hb' : (b ++ c.take k).length = b.length + k:=by simp; omega
 have hp : pieceS s c = b.drop (64 * (b.length / 64)) ++ c.take k ++ s.piece.drop (b.length % 64 + k):=by
  unfold pieceS; rw [hk,hm,h.piece]
 have hpl : (b.drop (64 * (b.length / 64))).length = b.length % 64:=by simp; omega
 have hn : nS s c = UInt64.ofNat (b.length + k):=by
  unfold nS
  rw [hk,h.n]
  apply UInt64.toNat_inj.1
  have h1:=ofInt_u64 ((k : Nat) : Int)
  simp only [UInt64.toNat_add,UInt64.toNat_ofNat']
  omega
 have hmod : (nS s c % 64 == 0) = decide ((b.length + k) % 64 = 0):=by
  rw [hn,Bool.eq_iff_iff,beq_iff_eq,decide_eq_true_eq,<- UInt64.toNat_inj,UInt64.toNat_mod,UInt64.toNat_ofNat']
  have h1 : (64 : UInt64).toNat = 64:=rfl
  have h2 : (0 : UInt64).toNat = 0:=rfl
  rw [h1,h2]; omega
 have hlen : (pieceS s c).length = 64:=by
  rw [hp]; simp only [List.length_append,List.length_drop,List.length_take,h.len]; omega
 refine ⟨h.begun,by simp only [stepS,hn,hb'], ?_,hlen, ?_⟩
 · simp only [stepS,hmod,hb']
   by_cases hd : (b.length + k) % 64 = 0
   · simp only [hd,decide_true,cond_true]
     have hq : (b.length + k) / 64 = b.length / 64 + 1:=by omega
     have hmk : b.length % 64 + k = 64:=by omega
     rw [hq]
     simp only [hR]
     rw [hR_prefix b _ _ (by omega),h.h,comp_r _ _ (hR_len _ _)]
     congr 1
     have e1 : (b ++ c.take k).drop (64 * (b.length / 64)) = b.drop (64 * (b.length / 64)) ++ c.take k:=List.drop_append_of_le_length (by omega)
     have e2 : s.piece.drop 64 = []:=List.drop_eq_nil_of_le (by rw [h.len]; exact Nat.le_refl _)
     rw [hp,hmk,e1,e2,List.append_nil]
     exact (List.take_of_length_le (by rw [List.length_append,hpl,List.length_take]; omega)).symm
   · simp only [hd,decide_false,cond_false]
     have hq : (b.length + k) / 64 = b.length / 64:=by omega
     rw [hq,hR_prefix b _ _ (by omega),h.h]
 · simp only [stepS,hb']
   by_cases hd : (b.length + k) % 64 = 0
   · rw [hd,List.take_zero,List.drop_eq_nil_of_le (by rw [hb']; omega)]
   · have hq : (b.length + k) / 64 = b.length / 64:=by omega
     have hr : (b.length + k) % 64 = b.length % 64 + k:=by omega
     rw [hq,hr,hp,List.drop_append_of_le_length (by omega)]
     rw [List.take_append_of_le_length (by simp; omega),List.take_of_length_le (by simp; omega)]
theorem rep_addW {s : ShaS} {b c : List UInt8} (h : Rep s b) : Rep (addW s c) (b ++ c):=by
 induction hn : c.length using Nat.strongRecOn generalizing s b c with
 | _ n ih=>
  by_cases h0 : c.length = 0
  · rw [addW_nil _ _ h0,List.length_eq_zero_iff.1 h0,List.append_nil]; exact h
  · rw [addW_step _ _ h0]
    have hk:=kS_pos s c (by omega)
    have:=ih _ (by rw [<- hn]; simp only [List.length_drop]; omega) (rep_step h h0) (c:=c.drop (kS s c)) rfl
    rw [List.append_assoc,List.take_append_drop] at this
    exact this
theorem rep_addS {s : ShaS} {b c : List UInt8} (h : Rep s b) : Rep (addS s c) (b ++ c):=by
 unfold addS; rw [h.begun]; exact rep_addW h
theorem rep_padS {s : ShaS} {b : List UInt8} (h : Rep s b) (k : Nat) : Rep (padS k s) (b ++ List.replicate k 0):=by
 induction k generalizing s b with
 | zero=>simpa [padS] using h
 | succ k ih=>
  have:=ih (rep_addS (c:=[0]) h)
  rw [List.append_assoc] at this
  simpa [padS,List.replicate_succ] using this
theorem end_r {s : ShaS} {b : List UInt8} (h : Rep s b) : endS s = sumR b:=by
 have h1 : Rep (pad1 s) (b ++ [128]):=rep_addS h
 have hz : padN (pad1 s) = zR b:=by
  unfold padN zR
  rw [h1.mS]
  simp only [List.length_append,List.length_singleton]
  omega
 have h2 : Rep (pad2 s) (b ++ [128] ++ List.replicate (zR b) 0):=by
  unfold pad2; rw [hz]; exact rep_padS h1 _
 have hn : s.n * 8 = bitsR b:=by
  rw [h.n]; unfold bitsR
  congr 1
  apply UInt64.toNat_inj.1
  have:=ofInt_u64 ((b.length : Nat) : Int)
  rw [UInt64.toNat_ofNat']
  omega
 have h3 : Rep (pad3 s) (textR b):=by
  unfold pad3 textR
  rw [long_tail8,hn]
  exact rep_addS h2
 unfold endS sumR
 rw [outB_r _ _ (Nat.le_refl _),h3.h,textR_pieces]
 congr 2
 omega
theorem rep_start_add (b : List UInt8) : Rep (addS ShaS.start b) b:=by
 have:=rep_addS (c:=b) rep_start
 simpa using this
theorem sum_r (b : List UInt8) : sumS b = sumR b:=end_r (rep_start_add b)
end Go.Sx

namespace Go.Sx
instance : Inhabited ShaS:=⟨ShaS.zero⟩
end Go.Sx

namespace Go.Sx
abbrev Hs:=List UInt8
def joinR (a b : Hs) : Hs:=twiceR (a ++ b)
theorem twiceR_len (b : Hs) : (twiceR b).length = 32:=by unfold twiceR; exact sumR_len _
theorem joinR_len (a b : Hs) : (joinR a b).length = 32:=twiceR_len _
theorem part32 (a : Hs) (ha : a.length = 32) : ((a.map D.u8).drop 0).take 32 = a.map D.u8:=by rw [List.drop_zero,List.take_of_length_le (by simp [ha])]
def upI (J : Hs -> Hs -> Hs) (l : List Hs) : Nat -> List Hs
 | 0=>[]
 | i + 1=>upI J l i ++ [J l[2 * i]! l[min (2 * i + 1) (l.length - 1)]!]
def upR (J : Hs -> Hs -> Hs) (l : List Hs) : List Hs:=upI J l ((l.length + 1) / 2)
def rowA (J : Hs -> Hs -> Hs) (l : List Hs) : Nat -> List Hs
 | 0=>l
 | k + 1=>upR J (rowA J l k)
def nRows (n : Nat) : Nat:=if n = 0 then 0 else if n = 1 then 1 else nRows ((n + 1) / 2) + 1
termination_by n
def lenA (n : Nat) : Nat -> Nat
 | 0=>n
 | k + 1=>(lenA n k + 1) / 2
theorem upI_len (J : Hs -> Hs -> Hs) (l : List Hs) (i : Nat) : (upI J l i).length = i:=by
 induction i with
 | zero=>rfl
 | succ i ih=>simp [upI,ih]
theorem upR_len (J : Hs -> Hs -> Hs) (l : List Hs) : (upR J l).length = (l.length + 1) / 2:=upI_len _ _ _
theorem rowA_len (J : Hs -> Hs -> Hs) (l : List Hs) (k : Nat) : (rowA J l k).length = lenA l.length k:=by
 induction k with
 | zero=>rfl
 | succ k ih=>simp only [rowA,lenA,upR_len,ih]
theorem lenA_le (n k : Nat) : lenA n k <= n:=by
 induction k with
 | zero=>exact Nat.le_refl _
 | succ k ih=>simp only [lenA]; omega
theorem nRows_0 : nRows 0 = 0:=by unfold nRows; rfl
theorem nRows_1 : nRows 1 = 1:=by unfold nRows; rfl
theorem nRows_2 {n : Nat} (h : 2 <= n) : nRows n = nRows ((n + 1) / 2) + 1:=by
 rw [nRows]
 simp [show n ≠ 0 by omega,show n ≠ 1 by omega]
theorem nRows_pos {n : Nat} (h : 1 <= n) : 1 <= nRows n:=by
 by_cases h1 : n = 1
 · subst h1; rw [nRows_1]; exact Nat.le_refl _
 · rw [nRows_2 (by omega)]; omega
theorem nRows_left (n k : Nat) (h : k < nRows n) : k + nRows (lenA n k) = nRows n:=by
 induction k with
 | zero=>simp [lenA]
 | succ k ih=>
  have h0:=ih (by omega)
  have h2 : 2 <= lenA n k:=by
   apply Nat.le_of_not_lt
   intro hc
   rcases Nat.lt_or_ge (lenA n k) 1 with h3 | h3
   · rw [show lenA n k = 0 by omega,nRows_0] at h0; omega
   · rw [show lenA n k = 1 by omega,nRows_1] at h0; omega
  rw [nRows_2 h2] at h0
  simp only [lenA]
  omega
theorem rowA_pos (J : Hs -> Hs -> Hs) (l : List Hs) (k : Nat) (h : k < nRows l.length) : 1 <= (rowA J l k).length:=by
 have h0:=nRows_left _ _ h
 rw [rowA_len]
 apply Nat.le_of_not_lt
 intro hc
 rw [show lenA l.length k = 0 by omega,nRows_0] at h0
 omega
def allH (l : List Hs) : Prop:=∀ h ∈ l,h.length = 32
theorem allH.get {l : List Hs} (h : allH l) {i : Nat} (hi : i < l.length) : l[i]!.length = 32:=by
 rw [getElem!_pos l i hi]; exact h _ (List.getElem_mem hi)
theorem upI_all {J : Hs -> Hs -> Hs} (hJ : ∀ a b,(J a b).length = 32) (l : List Hs) (i : Nat) : allH (upI J l i):=by
 induction i with
 | zero=>intro h hh; cases hh
 | succ i ih=>
  intro h hh
  rcases List.mem_append.1 hh with h1 | h1
  · exact ih h h1
  · rw [List.mem_singleton.1 h1]; exact hJ _ _
theorem rowA_all {J : Hs -> Hs -> Hs} (hJ : ∀ a b,(J a b).length = 32) {l : List Hs} (h : allH l) (k : Nat) : allH (rowA J l k):=by
 cases k with
 | zero=>exact h
 | succ k=>exact upI_all hJ _ _
theorem brw_hash (h : Hs) : (hashD h).brw = hashD h:=by
 unfold hashD
 simp only [D.brw,brws_eq]
 rw [brw_map (fun _=>rfl)]
theorem brw_hs (o : Option Nat) (z : Nat) (l : List Hs) : (D.sl o z (l.map hashD)).brw = .sl none z (l.map hashD):=by
 simp only [D.brw,brws_eq]
 rw [brw_map brw_hash]
theorem frs_hash' (h : Hs) : Frs (hashD h):=.arr _ _ _ (frs_map fun _=>.u8 _)
theorem frs_hs (e z : Nat) (l : List Hs) : Frs (.sl (some e) z (l.map hashD)):=.sl _ _ _ (frs_map frs_hash')
def zero32 : Hs:=List.replicate 32 0
theorem fdiv_pow (k : Int) (n : Nat) (h : 0 <= k) (hn : n <= 64) : k.fdiv (2 ^ min (n : Int).toNat 64) = ((k.toNat / 2 ^ n : Nat) : Int):=by
 have e : min (n : Int).toNat 64 = n:=by omega
 rw [e]
 obtain ⟨m,rfl⟩:=Int.eq_ofNat_of_zero_le h
 rw [Int.fdiv_eq_ediv_of_nonneg _ (by exact_mod_cast Nat.zero_le _)]
 norm_cast
def rootA (J : Hs -> Hs -> Hs) (l : List Hs) : Nat -> Hs
 | 0=>zero32
 | k + 1=>(rowA J l k)[0]!
def rootS (J : Hs -> Hs -> Hs) (l : List Hs) : Hs:=rootA J l (nRows l.length)
end Go.Sx

namespace Go.Sx
abbrev Bg:=List UInt64
def bgD (x : Bg) : D:=.arr 4 1 (x.map .u64)
def natD (n : Nat) : D:=.int ((n : Nat) : Int)
def zeroB : Bg:=[0,0,0,0]
def bitS (a : Bg) (i : Nat) : Nat:=if 256 <= i then 0 else (shr_u64 a[i / 64]! (i % 64) &&& 1).toNat
theorem and1_le (x : UInt64) : (x &&& 1).toNat <= 1:=by
 rw [UInt64.toNat_and]
 exact Nat.le_trans Nat.and_le_right (by decide)
theorem bitS_le (a : Bg) (i : Nat) : bitS a i <= 1:=by
 unfold bitS
 split
 · exact Nat.zero_le _
 · exact and1_le _
def fromI (l : List Nat) : Nat -> Bg
 | 0=>zeroB
 | i + 1=>if l[i]! = 1 then (fromI l i).set (i / 64) ((fromI l i)[i / 64]! ||| shl_u64 1 (i % 64)) else fromI l i
def fromS (l : List Nat) : Bg:=fromI l (min l.length 256)
theorem fromI_len (l : List Nat) (i : Nat) : (fromI l i).length = 4:=by
 induction i with
 | zero=>rfl
 | succ i ih=>simp only [fromI]; split <;> simp [ih]
theorem fromS_len (l : List Nat) : (fromS l).length = 4:=fromI_len _ _
def lessI (a b : Bg) : Nat -> Bool
 | 0=>false
 | i + 1=>if bitS a i ≠ bitS b i then decide (bitS a i < bitS b i) else lessI a b i
def lessS (a b : Bg) : Bool:=lessI a b 256
def nbI (a : Bg) : Nat -> Nat
 | 0=>0
 | i + 1=>if bitS a i = 1 then i + 1 else nbI a i
def nbS (a : Bg) : Nat:=nbI a 256
theorem nbI_le (a : Bg) (i : Nat) : nbI a i <= i:=by
 induction i with
 | zero=>exact Nat.le_refl _
 | succ i ih=>simp only [nbI]; split <;> omega
theorem nbS_le (a : Bg) : nbS a <= 256:=nbI_le a 256
def allB (l : List Nat) : Prop:=∀ x ∈ l,x <= 1
theorem allB.get {l : List Nat} (h : allB l) (i : Nat) : l[i]! <= 1:=by
 by_cases hi : i < l.length
 · rw [getElem!_pos l i hi]; exact h _ (List.getElem_mem hi)
 · rw [getElem!_neg l i hi]; exact Nat.zero_le _
theorem allB.set {l : List Nat} (h : allB l) (i x : Nat) (hx : x <= 1) : allB (l.set i x):=fun y hy=>by
 rcases List.mem_or_eq_of_mem_set hy with h1 | h1
 · exact h y h1
 · exact h1 ▸ hx
def bAddM (a b : Bg) : Nat -> Nat
 | 0=>0
 | i + 1=>(bitS a i + bitS b i + bAddM a b i) / 2
def bAddL (a b : Bg) : Nat -> List Nat
 | 0=>[]
 | i + 1=>bAddL a b i ++ [(bitS a i + bitS b i + bAddM a b i) % 2]
def bAdd (a b : Bg) : Bg:=fromS (bAddL a b 256)
def bOvr (a b : Bg) : Bool:=decide (bAddM a b 256 = 1)
theorem bAddM_le (a b : Bg) (i : Nat) : bAddM a b i <= 1:=by
 induction i with
 | zero=>exact Nat.zero_le _
 | succ i ih=>have:=bitS_le a i; have:=bitS_le b i; simp only [bAddM]; omega
theorem bAddL_len (a b : Bg) (i : Nat) : (bAddL a b i).length = i:=by
 induction i with
 | zero=>rfl
 | succ i ih=>simp [bAddL,ih]
def bSubM (a b : Bg) : Nat -> Nat
 | 0=>0
 | i + 1=>if bitS a i < bitS b i + bSubM a b i then 1 else 0
def bSubL (a b : Bg) : Nat -> List Nat
 | 0=>[]
 | i + 1=>bSubL a b i ++ [if bitS a i < bitS b i + bSubM a b i then bitS a i + 2 - (bitS b i + bSubM a b i) else bitS a i - (bitS b i + bSubM a b i)]
def bSub (a b : Bg) : Bg:=fromS (bSubL a b 256)
theorem bSubM_le (a b : Bg) (i : Nat) : bSubM a b i <= 1:=by
 cases i with
 | zero=>exact Nat.zero_le _
 | succ i=>simp only [bSubM]; split <;> omega
theorem bSubL_len (a b : Bg) (i : Nat) : (bSubL a b i).length = i:=by
 induction i with
 | zero=>rfl
 | succ i ih=>simp [bSubL,ih]
theorem bSub_len (a b : Bg) : (bSub a b).length = 4:=by unfold bSub; exact fromS_len _
theorem bAdd_len (a b : Bg) : (bAdd a b).length = 4:=by unfold bAdd; exact fromS_len _
def mulJM (a : Bg) (k : Nat) (l : List Nat) : Nat -> List Nat × Nat
 | 0=>(l,0)
 | j + 1=>((mulJM a k l j).1.set (k + j) (((mulJM a k l j).1[k + j]! + bitS a j + (mulJM a k l j).2) % 2),((mulJM a k l j).1[k + j]! + bitS a j + (mulJM a k l j).2) / 2)
def mulI (a : Bg) (n : UInt64) : Nat -> List Nat
 | 0=>List.replicate 320 0
 | k + 1=>if shr_u64 n k &&& 1 = 0 then mulI a n k else (mulJM a k (mulI a n k) (320 - k)).1
def overI (l : List Nat) : Nat -> UInt64
 | 0=>0
 | k + 1=>overI l k ||| shl_u64 (UInt64.ofInt ((l[256 + k]! : Nat) : Int)) k
def bMul (a : Bg) (n : UInt64) : Bg:=fromS (mulI a n 64)
def bMulO (a : Bg) (n : UInt64) : UInt64:=overI (mulI a n 64) 64
theorem mulJM_len (a : Bg) (k : Nat) (l : List Nat) (j : Nat) : (mulJM a k l j).1.length = l.length:=by
 induction j with
 | zero=>rfl
 | succ j ih=>simp [mulJM,ih]
theorem mulJM_bit (a : Bg) (k : Nat) (l : List Nat) (h : allB l) (j : Nat) : allB (mulJM a k l j).1 /\ (mulJM a k l j).2 <= 1:=by
 induction j with
 | zero=>exact ⟨h,Nat.zero_le _⟩
 | succ j ih=>
  have h1:=ih.1.get (k + j)
  have h2:=bitS_le a j
  have h3:=ih.2
  exact ⟨ih.1.set _ _ (by omega),by simp only [mulJM]; omega⟩
theorem mulI_len (a : Bg) (n : UInt64) (k : Nat) : (mulI a n k).length = 320:=by
 induction k with
 | zero=>exact List.length_replicate
 | succ k ih=>
  simp only [mulI]
  split
  · exact ih
  · rw [mulJM_len,ih]
theorem mulI_bit (a : Bg) (n : UInt64) (k : Nat) : allB (mulI a n k):=by
 induction k with
 | zero=>intro x hx; rw [(List.mem_replicate.1 hx).2]; exact Nat.zero_le _
 | succ k ih=>
  simp only [mulI]
  split
  · exact ih
  · exact (mulJM_bit a k _ ih _).1
def upS (a : Bg) (n : Nat) : Bg:=if n = 0 then a else fromS ((List.range 256).map fun i=>if 256 < n ∨ i < n then 0 else bitS a (i - n))
def downS (a : Bg) (n : Nat) : Bg:=if n = 0 then a else fromS ((List.range 256).map fun i=>if 256 < n then 0 else bitS a (i + n))
def upL (a : Bg) (n i : Nat) : List Nat:=(List.range i).map fun i=>if 256 < n ∨ i < n then 0 else bitS a (i - n)
def downL (a : Bg) (n i : Nat) : List Nat:=(List.range i).map fun i=>if 256 < n then 0 else bitS a (i + n)
theorem upL_succ (a : Bg) (n i : Nat) : upL a n (i + 1) = upL a n i ++ [if 256 < n ∨ i < n then 0 else bitS a (i - n)]:=by simp [upL,List.range_succ]
theorem downL_succ (a : Bg) (n i : Nat) : downL a n (i + 1) = downL a n i ++ [if 256 < n then 0 else bitS a (i + n)]:=by simp [downL,List.range_succ]
theorem upL_len (a : Bg) (n i : Nat) : (upL a n i).length = i:=by simp [upL]
theorem downL_len (a : Bg) (n i : Nat) : (downL a n i).length = i:=by simp [downL]
theorem upS_len {a : Bg} (ha : a.length = 4) (n : Nat) : (upS a n).length = 4:=by
 unfold upS
 split
 · exact ha
 · exact fromS_len _
theorem downS_len {a : Bg} (ha : a.length = 4) (n : Nat) : (downS a n).length = 4:=by
 unfold downS
 split
 · exact ha
 · exact fromS_len _
theorem bMul_len (a : Bg) (n : UInt64) : (bMul a n).length = 4:=by unfold bMul; exact fromS_len _
def upO (a r : Bg) (i : Nat) : Bg:=(upS r 1).set 0 ((upS r 1)[0]! ||| UInt64.ofInt ((bitS a i : Nat) : Int))
theorem upO_len {a r : Bg} (h : r.length = 4) (i : Nat) : (upO a r i).length = 4:=by unfold upO; rw [List.length_set]; exact upS_len h _
def divI (a b : Bg) : Nat -> List Nat × Bg
 | 0=>(List.replicate 256 0,zeroB)
 | t + 1=>
  if bitS (divI a b t).2 255 = 1 ∨ lessS (upO a (divI a b t).2 (255 - t)) b = false then
   ((divI a b t).1.set (255 - t) 1,bSub (upO a (divI a b t).2 (255 - t)) b)
  else ((divI a b t).1,upO a (divI a b t).2 (255 - t))
def divQ (a b : Bg) : Bg:=if b = zeroB then zeroB else fromS (divI a b 256).1
def divR (a b : Bg) : Bg:=if b = zeroB then zeroB else (divI a b 256).2
def divE (b : Bg) : Nat:=if b = zeroB then 1 else 0
theorem divR_len (a b : Bg) (h : (divI a b 256).2.length = 4) : (divR a b).length = 4:=by
 unfold divR
 split
 · rfl
 · exact h
theorem divQ_len (a b : Bg) : (divQ a b).length = 4:=by
 unfold divQ
 split
 · rfl
 · exact fromS_len _
theorem divI_len (a b : Bg) (t : Nat) : (divI a b t).1.length = 256 /\ (divI a b t).2.length = 4:=by
 induction t with
 | zero=>rw [divI]; exact ⟨List.length_replicate,rfl⟩
 | succ t ih=>
  rw [divI]
  generalize divI a b t = q at ih ⊢
  obtain ⟨h1,h2⟩:=ih
  split
  · dsimp only
    exact ⟨List.length_set.trans h1,bSub_len _ _⟩
  · dsimp only
    exact ⟨h1,upO_len h2 _⟩
def hbit (h : Hs) (i : Nat) : Nat:=(shr_u8 h[i / 8]! (i % 8) &&& 1).toNat
def ofHL (h : Hs) (i : Nat) : List Nat:=(List.range i).map (hbit h)
def ofHS (h : Hs) : Bg:=fromS (ofHL h 256)
theorem ofHL_succ (h : Hs) (i : Nat) : ofHL h (i + 1) = ofHL h i ++ [hbit h i]:=by simp [ofHL,List.range_succ]
theorem ofHL_len (h : Hs) (i : Nat) : (ofHL h i).length = i:=by simp [ofHL]
theorem ofInt64 (n : Nat) (h : n < 18446744073709551616) : (UInt64.ofInt ((n : Nat) : Int)).toNat = n:=by
 have : UInt64.ofInt ((n : Nat) : Int) = UInt64.ofNat n:=by
  unfold UInt64.ofInt
  congr 1
  omega
 rw [this]
 simp [UInt64.toNat_ofNat]
 omega
theorem shr_of (x : UInt64) (n : Nat) (h : n < 64) : shr_u64 x ((((UInt64.ofInt ((n : Nat) : Int)).toNat : Nat) : Int)).toNat = shr_u64 x n:=by
 rw [ofInt64 n (by omega)]
 rfl
theorem shl_of (x : UInt64) (n : Nat) (h : n < 64) : shl_u64 x ((((UInt64.ofInt ((n : Nat) : Int)).toNat : Nat) : Int)).toNat = shl_u64 x n:=by
 rw [ofInt64 n (by omega)]
 rfl
theorem shr8_of (x : UInt8) (n : Nat) (h : n < 8) : shr_u8 x ((((UInt64.ofInt ((n : Nat) : Int)).toNat : Nat) : Int)).toNat = shr_u8 x n:=by
 rw [ofInt64 n (by omega)]
 rfl
theorem wr_and1 (x : UInt64) : D.int (wr ((x &&& 1).toNat : Int)) = D.int (((x &&& 1).toNat : Nat) : Int):=by
 have:=and1_le x
 exact wr_eq rfl (by omega) (by omega)
theorem fromI_t {l : List Nat} {i : Nat} (h : l[i]! = 1) : fromI l (i + 1) = (fromI l i).set (i / 64) ((fromI l i)[i / 64]! ||| shl_u64 1 (i % 64)):=by rw [fromI,if_pos h]
theorem fromI_f {l : List Nat} {i : Nat} (h : ¬ l[i]! = 1) : fromI l (i + 1) = fromI l i:=by rw [fromI,if_neg h]
theorem subL_f {a b : Bg} {i : Nat} (h : ¬ ((bitS a i : Nat) : Int) - ((bitS b i : Nat) : Int) - ((bSubM a b i : Nat) : Int) < 0) :
 (bSubL a b i).map natD ++ [D.int (((bitS a i : Nat) : Int) - ((bitS b i : Nat) : Int) - ((bSubM a b i : Nat) : Int))] = (bSubL a b (i + 1)).map natD:=by
 rw [bSubL,List.map_append,if_neg (by omega)]
 congr 1
 simp only [List.map_cons,List.map_nil,natD]
 congr 2
 omega
theorem subL_t {a b : Bg} {i : Nat} (h : ((bitS a i : Nat) : Int) - ((bitS b i : Nat) : Int) - ((bSubM a b i : Nat) : Int) < 0) :
 (bSubL a b i).map natD ++ [D.int (((bitS a i : Nat) : Int) - ((bitS b i : Nat) : Int) - ((bSubM a b i : Nat) : Int) + 2)] = (bSubL a b (i + 1)).map natD:=by
 have h1:=bitS_le b i
 have h2:=bSubM_le a b i
 rw [bSubL,List.map_append,if_pos (by omega)]
 congr 1
 simp only [List.map_cons,List.map_nil,natD]
 congr 2
 omega
theorem subM_f {a b : Bg} {i : Nat} (h : ¬ ((bitS a i : Nat) : Int) - ((bitS b i : Nat) : Int) - ((bSubM a b i : Nat) : Int) < 0) : bSubM a b (i + 1) = 0:=by rw [bSubM,if_neg (by omega)]
theorem subM_t {a b : Bg} {i : Nat} (h : ((bitS a i : Nat) : Int) - ((bitS b i : Nat) : Int) - ((bSubM a b i : Nat) : Int) < 0) : bSubM a b (i + 1) = 1:=by rw [bSubM,if_pos (by omega)]
theorem lessI_f {a b : Bg} {i : Nat} (h : ¬ bitS a i ≠ bitS b i) : lessI a b (i + 1) = lessI a b i:=by rw [lessI,if_neg h]
theorem lessI_t {a b : Bg} {i : Nat} (h : bitS a i ≠ bitS b i) : lessI a b (i + 1) = decide (bitS a i < bitS b i):=by rw [lessI,if_pos h]
theorem nbI_t {a : Bg} {i : Nat} (h : bitS a i = 1) : nbI a (i + 1) = i + 1:=by rw [nbI,if_pos h]
theorem nbI_f {a : Bg} {i : Nat} (h : ¬ bitS a i = 1) : nbI a (i + 1) = nbI a i:=by rw [nbI,if_neg h]
theorem up_app {a : Bg} {n i x : Nat} (h : (if 256 < n ∨ i < n then 0 else bitS a (i - n)) = x) : (upL a n i).map natD ++ [D.int ((x : Nat) : Int)] = (upL a n (i + 1)).map natD:=by rw [upL_succ,List.map_append,h]; rfl
theorem down_app {a : Bg} {n i x : Nat} (h : (if 256 < n then 0 else bitS a (i + n)) = x) : (downL a n i).map natD ++ [D.int ((x : Nat) : Int)] = (downL a n (i + 1)).map natD:=by rw [downL_succ,List.map_append,h]; rfl
theorem upS_0 (a : Bg) : upS a 0 = a:=by rw [upS,if_pos rfl]
theorem upS_n {a : Bg} {n : Nat} (h : ¬ n <= 0) : upS a n = fromS (upL a n 256):=by rw [upS,if_neg (by omega),upL]
theorem downS_0 (a : Bg) : downS a 0 = a:=by rw [downS,if_pos rfl]
theorem downS_n {a : Bg} {n : Nat} (h : ¬ n <= 0) : downS a n = fromS (downL a n 256):=by rw [downS,if_neg (by omega),downL]
theorem zl (n : Nat) : (List.replicate n 0).map natD = List.replicate n (.int 0):=by rw [List.map_replicate]; rfl
theorem mulI_0 (a : Bg) (n : UInt64) : mulI a n 0 = List.replicate 320 0:=by rw [mulI]
theorem mulI_f {a : Bg} {n : UInt64} {k : Nat} (h : shr_u64 n k &&& 1 = 0) : mulI a n (k + 1) = mulI a n k:=by rw [mulI,if_pos h]
theorem mulI_t {a : Bg} {n : UInt64} {k : Nat} (h : ¬ shr_u64 n k &&& 1 = 0) : mulI a n (k + 1) = (mulJM a k (mulI a n k) (320 - k)).1:=by rw [mulI,if_neg h]
theorem mulJ_2 (a : Bg) (k : Nat) (l : List Nat) (j : Nat) : ((mulJM a k l j).1[k + j]! + bitS a j + (mulJM a k l j).2) / 2 = (mulJM a k l (j + 1)).2:=by rw [mulJM]
theorem mulJ_0 (a : Bg) (k : Nat) (l : List Nat) : mulJM a k l 0 = (l,0):=by rw [mulJM]
theorem divI_0 (a b : Bg) : divI a b 0 = (List.replicate 256 0,zeroB):=by rw [divI]
theorem divI_t {a b r : Bg} {q : List Nat} {k : Nat} (hq : divI a b k = (q,r)) (h : bitS r 255 = 1 ∨ lessS (upO a r (255 - k)) b = false) : divI a b (k + 1) = (q.set (255 - k) 1,bSub (upO a r (255 - k)) b):=by
 rw [divI,hq]
 exact if_pos h
theorem divI_f {a b r : Bg} {q : List Nat} {k : Nat} (hq : divI a b k = (q,r)) (h : ¬ bitS r 255 = 1) (h2 : ¬ lessS (upO a r (255 - k)) b = false) : divI a b (k + 1) = (q,upO a r (255 - k)):=by
 rw [divI,hq]
 exact if_neg (fun h3=>h3.elim h h2)
theorem divI_ok {a b r : Bg} {q : List Nat} {k : Nat} (hq : divI a b k = (q,r)) : q.length = 256 /\ r.length = 4:=by
 have:=divI_len a b k
 rw [hq] at this
 exact this
theorem div_z {a b : Bg} (h : (b == zeroB) = true) : divQ a b = zeroB /\ divR a b = zeroB /\ divE b = 1:=by
 have h:=eq_of_beq h
 exact ⟨by rw [divQ,if_pos h],by rw [divR,if_pos h],by rw [divE,if_pos h]⟩
theorem div_n {a b r : Bg} {q : List Nat} (h : (b == zeroB) = false) (hq : divI a b 256 = (q,r)) : divQ a b = fromS q /\ divR a b = r /\ divE b = 0:=by
 have h:=ne_of_beq_false h
 exact ⟨by rw [divQ,if_neg h,hq],by rw [divR,if_neg h,hq],by rw [divE,if_neg h]⟩
theorem divR_ok (a b : Bg) : (divR a b).length = 4:=divR_len a b (divI_len a b 256).2
theorem frs_bg (x : Bg) : Frs (bgD x):=.arr _ _ _ (frs_map fun _=>.u64 _)
def partB (bits : UInt32) : Bg:=[(bits &&& 8388607).toUInt64,0,0,0]
def tgtS (bits : UInt32) : Bg:=
 if (shr_u32 bits 24).toNat < 3 then downS (partB bits) (8 * (3 - (shr_u32 bits 24).toNat)) else upS (partB bits) (8 * ((shr_u32 bits 24).toNat - 3))
def ofS (bits : UInt32) : Option Bg:=
 if 3 <= (shr_u32 bits 24).toNat /\ 256 < nbS (partB bits) + 8 * ((shr_u32 bits 24).toNat - 3) /\ partB bits ≠ zeroB then none
 else if tgtS bits = zeroB ∨ bits &&& 8388608 ≠ 0 then none else some (tgtS bits)
def ofB (bits : UInt32) : Bg:=(ofS bits).getD zeroB
def compN (t : Bg) : Nat:=(nbS t + 7) / 8
def compP (t : Bg) : Bg:=if compN t < 3 then upS t (8 * (3 - compN t)) else downS t (8 * (compN t - 3))
def compS (t : Bg) : UInt32:=
 if t = zeroB then 0
 else if (8388608 : UInt64) <= (compP t)[0]! then shl_u32 (UInt32.ofInt ((compN t + 1 : Nat) : Int)) 24 ||| (downS (compP t) 8)[0]!.toUInt32
 else shl_u32 (UInt32.ofInt ((compN t : Nat) : Int)) 24 ||| (compP t)[0]!.toUInt32
def meetS (h : Hs) (t : Bg) : Bool:=t != zeroB && !lessS t (ofHS h)
theorem tgtS_len (bits : UInt32) : (tgtS bits).length = 4:=by
 unfold tgtS
 split
 · exact downS_len rfl _
 · exact upS_len rfl _
theorem ofB_len (bits : UInt32) : (ofB bits).length = 4:=by
 unfold ofB ofS
 split
 · rfl
 · split
   · rfl
   · exact tgtS_len _
theorem shr24_le (bits : UInt32) : (shr_u32 bits 24).toNat <= 255:=by
 unfold shr_u32
 rw [if_pos (by decide),UInt32.toNat_shiftRight]
 have:=bits.toNat_lt
 have e : (UInt32.ofNat 24).toNat % 32 = 24:=rfl
 rw [e,Nat.shiftRight_eq_div_pow]
 omega
theorem of_no1 {bits : UInt32} (h3 : ¬ (shr_u32 bits 24).toNat < 3) (hb : 256 < nbS (partB bits) + 8 * ((shr_u32 bits 24).toNat - 3)) (hn : (partB bits != zeroB) = true) : ofS bits = none:=by
 unfold ofS
 exact if_pos ⟨by omega,hb,bne_iff_ne.1 hn⟩
theorem of_go {bits : UInt32} (h : (shr_u32 bits 24).toNat < 3 ∨ ¬ 256 < nbS (partB bits) + 8 * ((shr_u32 bits 24).toNat - 3) ∨ (partB bits != zeroB) = false) : ofS bits = if tgtS bits = zeroB ∨ bits &&& 8388608 ≠ 0 then none else some (tgtS bits):=by
 unfold ofS
 refine if_neg (fun hc=>?_)
 rcases h with h | h | h
 · omega
 · exact h hc.2.1
 · exact bne_iff_ne.2 hc.2.2 |>.symm.trans h |> fun e=>by cases e
theorem tgt_d {bits : UInt32} (h : (shr_u32 bits 24).toNat < 3) : tgtS bits = downS (partB bits) (8 * (3 - (shr_u32 bits 24).toNat)):=by unfold tgtS; exact if_pos h
theorem tgt_u {bits : UInt32} (h : ¬ (shr_u32 bits 24).toNat < 3) : tgtS bits = upS (partB bits) (8 * ((shr_u32 bits 24).toNat - 3)):=by unfold tgtS; exact if_neg h
theorem of_r1 {bits : UInt32} {x : Bg} (hg : ofS bits = if tgtS bits = zeroB ∨ bits &&& 8388608 ≠ 0 then none else some (tgtS bits)) (ht : tgtS bits = x) (hz : x = zeroB) : ofS bits = none:=by rw [hg,if_pos (.inl (ht.trans hz))]
theorem of_r2 {bits : UInt32} (hg : ofS bits = if tgtS bits = zeroB ∨ bits &&& 8388608 ≠ 0 then none else some (tgtS bits)) (h : (bits &&& 8388608 != 0) = true) : ofS bits = none:=by rw [hg,if_pos (.inr (bne_iff_ne.1 h))]
theorem of_r3 {bits : UInt32} {x : Bg} (hg : ofS bits = if tgtS bits = zeroB ∨ bits &&& 8388608 ≠ 0 then none else some (tgtS bits)) (ht : tgtS bits = x) (hz : ¬ x = zeroB) (h : (bits &&& 8388608 != 0) = false) : ofS bits = some x:=by
 rw [hg,if_neg (fun hc=>hc.elim (fun e=>hz (ht.symm.trans e)) (fun e=>by rw [bne_iff_ne.2 e] at h; cases h)),ht]
theorem ofB_no {bits : UInt32} (h : ofS bits = none) : ofB bits = zeroB:=by rw [ofB,h]; rfl
theorem ofB_is {bits : UInt32} {x : Bg} (h : ofS bits = some x) : ofB bits = x:=by rw [ofB,h]; rfl
theorem comp_z {t : Bg} (h : (t == zeroB) = true) : compS t = 0:=by unfold compS; exact if_pos (eq_of_beq h)
theorem comp_t {t x : Bg} (h : (t == zeroB) = false) (hp : compP t = x) (h2 : (8388608 : UInt64) <= x[0]!) : compS t = shl_u32 (UInt32.ofInt ((compN t + 1 : Nat) : Int)) 24 ||| (downS x 8)[0]!.toUInt32:=by
 subst hp
 unfold compS
 rw [if_neg (ne_of_beq_false h),if_pos h2]
theorem comp_f {t x : Bg} (h : (t == zeroB) = false) (hp : compP t = x) (h2 : ¬ (8388608 : UInt64) <= x[0]!) : compS t = shl_u32 (UInt32.ofInt ((compN t : Nat) : Int)) 24 ||| x[0]!.toUInt32:=by
 subst hp
 unfold compS
 rw [if_neg (ne_of_beq_false h),if_neg h2]
theorem compP_t {t : Bg} (h : (nbS t + 7) / 8 < 3) : compP t = upS t (8 * (3 - (nbS t + 7) / 8)):=by unfold compP compN; exact if_pos h
theorem compP_f {t : Bg} (h : ¬ (nbS t + 7) / 8 < 3) : compP t = downS t (8 * ((nbS t + 7) / 8 - 3)):=by unfold compP compN; exact if_neg h
theorem ofHS_len (h : Hs) : (ofHS h).length = 4:=by unfold ofHS; exact fromS_len _
theorem meet_f {h : Hs} {t : Bg} (hz : t = zeroB) : meetS h t = false:=by unfold meetS; rw [hz]; rfl
theorem meet_t {h : Hs} {t : Bg} (hz : ¬ t = zeroB) : meetS h t = !lessS t (ofHS h):=by unfold meetS; rw [bne_iff_ne.2 hz,Bool.true_and]
end Go.Sx

namespace Go.Sx
open Go.Proofs
theorem bit_ok (a : Bg) (i : Nat) (ha : a.length = 4) (hi0 : i <= 1000000) : Fn Tryd.prog gl 105 [bgD a,.int ((i : Nat) : Int)] (.int ((bitS a i : Nat) : Int)):=by
 refine Fn.of (n:=21) Tryd.func105 rfl rfl rfl (nU rfl) fun C hC hD=>?_
 refine W.seq ?_
 refine W.l0 2 [] [] [] [(0,_),(1,_)] [] 21 Zt O O O O (⟨O,_,R.box (gV 0 O) O O (nU O),⟨O,_,R.asg (kI 0 O) O (nU O),tV [(1,_),(2,_)] [(2,.var _)] 21 O O O ?_⟩⟩)
 refine W.seq (W.seq ?_)
 refine W.l0 6 [.y 5 _,.y 6 _,.y 7 _,.y 8 _,.y 9 _,.y 10 _] [] [] [(1,_),(2,_),(10,_)] [(2,.var _)] 21 ⟨mU 1 O O,aU fun _ _ H K=>R.lssN (i) (0) (eU K 5 O) (kI 0 O) H,mU 6 O O,aW O O (gF (dF (Nat.not_lt_zero _)) O) fun _ _ H K=>R.mov (eU K 1 O) O H,aW O O (gF (dF (Nat.not_lt_zero _)) O) fun _ _ H K=>R.geqN (i) (256) (eU K 8 O) (kI 256 O) H,aU fun _ _ H K=>R.pickF (eU K 7 O) (dF (Nat.not_lt_zero _)) (eU K 9 O) O H,Zt⟩ O O O O (tU O ?_)
 refine W.condD O (fun hc10=>?_) (fun hc10=>?_)
 · refine W.seq ?_
   refine W.l0 1 [.y 4 _] [] [] [(4,_)] [(2,.var _)] 21 ⟨aU fun _ _ H _=>R.asg (kI 0 O) O H,Zt⟩ O O O O (tU O ?_)
   refine W.ret ?_
   exact Ends.one' (.inr O) O (by rw [bitS,if_pos hc10]) O O Zt
 · refine W.skip (W.seq ?_)
   refine W.l0 11 [.y 11 _,.y 12 _,.y 13 _,.y 14 _,.y 15 _,.y 16 _,.y 17 _,.y 18 _,.y 19 _,.y 20 _,.y 4 _] [] [] [(4,_)] [(2,.var _)] 21 ⟨mU 1 O O,aU fun _ _ H K=>R.quoN (i) (64) (eU K 11 O) (kI 64 O) bU bU H,aU fun _ _ H K=>R.idxP ((i / 64)) (K 2 _ O) (evoI (eU K 12 O)) O bU H,aU fun _ B H K=>R.ldP (K 13 _ O) (B 2 _ O) (loc_arr (map_get! (l:=a) bU) loc_nil bU) O O O H,mU 1 O O,aU fun _ _ H K=>R.remN (i) (64) (eU K 15 O) (kI 64 O) bU H,aU fun _ _ H K=>R.conv (eU K 16 O) O H,aU fun _ _ H K=>R.binE (d:=.u64 (shr_u64 a[i / 64]! (i % 64))) (eU K 14 O) (eU K 17 O) O bV (congrArg D.u64 (shr_of _ _ (by omega))) H,aU fun _ _ H K=>R.bin (eU K 18 O) (show ev _ _ (.const (.int .u64 1)) = some (.u64 1) from O) O Zt H,aU fun _ _ H K=>R.convE (d:=.int (((shr_u64 a[i / 64]! (i % 64) &&& 1).toNat : Nat) : Int)) (eU K 19 O) O (wr_and1 _) H,aU fun _ _ H K=>R.asg (eU K 20 O) O H,Zt⟩ O O O O (tU O ?_)
   refine W.ret ?_
   exact Ends.one' (.inr O) O (by rw [bitS,if_neg hc10]) O O Zt
theorem bit_neg (a : Bg) (i : Int) (hn : i < 0) (hi0 : -1000000 <= i) : Fn Tryd.prog gl 105 [bgD a,.int i] (.int ((0 : Nat) : Int)):=by
 refine Fn.of (n:=21) Tryd.func105 rfl rfl rfl (nU rfl) fun C hC hD=>?_
 refine W.seq ?_
 refine W.l0 2 [] [] [] [(0,_),(1,_)] [] 21 Zt O O O O (⟨O,_,R.box (gV 0 O) O O (nU O),⟨O,_,R.asg (kI 0 O) O (nU O),tV [(1,_),(2,_)] [(2,.var _)] 21 O O O ?_⟩⟩)
 refine W.seq (W.seq ?_)
 refine W.l0 6 [.y 5 _,.y 6 _,.y 7 _,.x 8,.x 9,.y 10 _] [] [] [(1,_),(2,_),(10,_)] [(2,.var _)] 21 ⟨mU 1 O O,aU fun _ _ H K=>R.bin (eU K 5 O) (kI 0 O) O Zt H,mU 6 O O,aF O O (gT (dT hn) O),aF O O (gT (dT hn) O),aU fun _ _ H K=>R.pickT (eU K 7 O) (dT hn) (kB true O) O H,Zt⟩ O O O O (tU O ?_)
 refine W.condT O (O) ?_
 refine W.seq ?_
 refine W.l0 1 [.y 4 _] [] [] [(4,_)] [(2,.var _)] 21 ⟨aU fun _ _ H _=>R.asg (kI 0 O) O H,Zt⟩ O O O O (tU O ?_)
 refine W.ret ?_
 exact Ends.one' (.inr O) O (O) O O Zt
theorem bfrom_ok (l : List Nat) (hl0 : l.length <= 1000000) : Fn Tryd.prog gl 106 [.sl none 1 (l.map natD)] (bgD (fromS l)):=by
 refine Fn.of (n:=33) Tryd.func106 rfl rfl rfl (nU rfl) fun C hC hD=>?_
 refine W.seq ?_
 refine W.l0 1 [] [] [] [(0,_)] [] 33 Zt O O O O (⟨O,_,R.alloc O (nU O),tV [(0,_),(2,_)] [(2,.var _)] 33 O O O ?_⟩)
 refine W.seq ?_
 refine W.l0 1 [] [] [] [(0,_),(2,_)] [(2,.var _)] 33 Zt O O O O (⟨O,_,R.alloc O (nU O),tV [(0,_),(2,_),(3,_)] [(3,.var _),(2,.var _)] 33 O O O ?_⟩)
 refine W.seq (W.seq ?_)
 refine W.l0 1 [.y 4 _] [] [] [(0,_),(2,_),(3,_),(4,_)] [(3,.var _),(2,.var _)] 33 ⟨aU fun _ _ H _=>R.asg (kI 0 O) O H,Zt⟩ O O O O (tU O ?_)
 refine W.block ?_
 refine W.loop (α:={q__ : Nat // q__ <= l.length /\ q__ <= 256}) (fun q__=>⟨33,[(0,.sl none 1 (l.map natD)),(2,.ptr 2 0 []),(3,.ptr 3 0 []),(4,.int ((q__.1 : Nat) : Int))],[(3,.var (bgD (fromI l q__.1))),(2,.var (bgD zeroB))]⟩) (fun q__=>256 - q__.1) ⟨(0),⟨Nat.zero_le _,Nat.zero_le _⟩⟩ O ?_
 rintro ⟨i,⟨hi,hi2⟩⟩
 show W _ _ _ _ ⟨33,[(0,.sl none 1 (l.map natD)),(2,.ptr 2 0 []),(3,.ptr 3 0 []),(4,.int ((i : Nat) : Int))],[(3,.var (bgD (fromI l i))),(2,.var (bgD zeroB))]⟩
 have hi : i <= l.length:=hi
 have hi2 : i <= 256:=hi2
 have hfl:=fromI_len l i
 refine W.seq (W.seq ?_)
 by_cases hs : i < l.length
 · refine W.l0 8 [.y 5 _,.y 6 _,.y 7 _,.y 8 _,.y 9 _,.y 10 _,.y 11 _,.y 12 _] [] [] [(0,_),(2,_),(3,_),(4,_),(12,_)] [(3,.var _),(2,.var _)] 33 ⟨mU 4 O O,mU 0 O O,aU fun _ _ H K=>R.lenE (SC.sl (K 6 _ O)) (lN _) H,aU fun _ _ H K=>R.lssN (i) (l.length) (eU K 5 O) (eU K 7 O) H,mU 8 O O,aW O O (gT (dT hs) O) fun _ _ H K=>R.mov (eU K 4 O) O H,aW O O (gT (dT hs) O) fun _ _ H K=>R.lssN (i) (256) (eU K 10 O) (kI 256 O) H,aU fun _ _ H K=>R.pickT (eU K 9 O) (dT hs) (eU K 11 O) O H,Zt⟩ O O O O (tU O ?_)
   refine W.condD O (fun hc12=>?_) (fun hc12=>?_)
   · refine W.skip (W.seq (W.block (W.seq ?_)))
     refine W.l0 5 [.y 15 _,.y 16 _,.y 17 _,.y 18 _,.y 19 _] [] [] [(0,_),(2,_),(3,_),(4,_),(19,_)] [(3,.var _),(2,.var _)] 33 ⟨mU 0 O O,mU 4 O O,aU fun _ _ H K=>R.idxN (i) (SC.sl (K 15 _ O)) (evoI (eU K 16 O)) O bU H dU,aU fun _ _ H K=>R.ldE (K 17 _ O) (SC.sl (K 15 _ O)) (map_get! (l:=l) bU) O O O O H,aU fun _ _ H K=>R.eqlN (l[i]!) (1) (eU K 18 O) (kI 1 O) H,Zt⟩ O O O O (tU O ?_)
     refine W.condD O (fun hc19=>?_) (fun hc19=>?_)
     · refine W.l0 13 [.y 20 _,.y 21 _,.y 22 _,.y 23 _,.y 24 _,.y 25 _,.y 26 _,.y 27 _,.y 28 _,.y 29 _,.y 30 _,.y 31 _] [] [] [(0,_),(2,_),(3,_),(4,_),(30,_),(31,_)] [(3,.var _),(2,.var _)] 33 ⟨mU 4 O O,aU fun _ _ H K=>R.quoN (i) (64) (eU K 20 O) (kI 64 O) bU bU H,mU 4 O O,aU fun _ _ H K=>R.quoN (i) (64) (eU K 22 O) (kI 64 O) bU bU H,aU fun _ _ H K=>R.idxP ((i / 64)) (K 3 _ O) (evoI (eU K 23 O)) O bU H,aU fun _ B H K=>R.ldP (K 24 _ O) (B 3 _ O) (loc_arr (map_get! (l:=(fromI l i)) bU) loc_nil bU) O O O H,mU 4 O O,aU fun _ _ H K=>R.remN (i) (64) (eU K 26 O) (kI 64 O) bU H,aU fun _ _ H K=>R.conv (eU K 27 O) O H,aU fun _ _ H K=>R.binE (d:=.u64 (shl_u64 1 (i % 64))) (show ev _ _ (.const (.int .u64 1)) = some (.u64 1) from O) (eU K 28 O) O bV (congrArg D.u64 (shl_of _ _ (by omega))) H,aU fun _ _ H K=>R.bin (eU K 25 O) (eU K 29 O) O Zt H,aU fun _ _ H K=>R.idxP ((i / 64)) (K 3 _ O) (evoI (eU K 21 O)) O bU H,Zt⟩ O O O O (⟨O,_,R.stZ (gU 31 O) (xU 3 O) (loc_arr (map_get! (l:=(fromI l i)) bU) loc_nil bU) (gV 30 O) (by rfl) (by rfl) (by rfl) (by rfl) (upd_arr (map_get! (l:=(fromI l i)) bU) upd_nil set_map),tV [(0,_),(2,_),(3,_),(4,_)] [(3,.var _),(2,.var _)] 33 O O O ?_⟩)
       refine W.l0 3 [.y 13 _,.y 14 _,.y 4 _] [] [] [(0,_),(2,_),(3,_),(4,_)] [(3,.var _),(2,.var _)] 33 ⟨mU 4 O O,aU fun _ _ H K=>R.addN (i) (1) (eU K 13 O) (kI 1 O) bU H,aU fun _ _ H K=>R.asg (eU K 14 O) O H,Zt⟩ O O O O (tU O ?_)
       exact ⟨⟨(i + 1),⟨by omega,by omega⟩⟩,(by first | (rw [fromI_t hc19] <;> rfl) | (rw [fromI_f hc19] <;> rfl)),(by simp only []; omega)⟩
     · refine W.skip ?_
       refine W.l0 3 [.y 13 _,.y 14 _,.y 4 _] [] [] [(0,_),(2,_),(3,_),(4,_)] [(3,.var _),(2,.var _)] 33 ⟨mU 4 O O,aU fun _ _ H K=>R.addN (i) (1) (eU K 13 O) (kI 1 O) bU H,aU fun _ _ H K=>R.asg (eU K 14 O) O H,Zt⟩ O O O O (tU O ?_)
       exact ⟨⟨(i + 1),⟨by omega,by omega⟩⟩,(by first | (rw [fromI_t hc19] <;> rfl) | (rw [fromI_f hc19] <;> rfl)),(by simp only []; omega)⟩
   · refine W.exit (W.seq ?_)
     refine W.l0 2 [.y 32 _] [] [] [(2,_),(32,_)] [(3,.var _),(2,.var _)] 33 ⟨aU (lU 3 O O O O O O O),Zt⟩ O O O O (⟨O,_,R.stZ (gU 2 O) (xU 2 O) O (gV 32 O) (by rfl) (by rfl) (by rfl) (by rfl) O,tV [(2,_)] [(3,.var _),(2,.var _)] 33 O O O ?_⟩)
     refine W.ret ?_
     exact Ends.one' (.inr O) O (by rw [fromS,show min l.length 256 = i by omega]) O O (show LdT _ 139 4 true from inferInstance)
 · refine W.l0 8 [.y 5 _,.y 6 _,.y 7 _,.y 8 _,.y 9 _,.x 10,.x 11,.y 12 _] [] [] [(0,_),(2,_),(3,_),(4,_),(12,_)] [(3,.var _),(2,.var _)] 33 ⟨mU 4 O O,mU 0 O O,aU fun _ _ H K=>R.lenE (SC.sl (K 6 _ O)) (lN _) H,aU fun _ _ H K=>R.lssN (i) (l.length) (eU K 5 O) (eU K 7 O) H,mU 8 O O,aF O O (gF (dF hs) O),aF O O (gF (dF hs) O),aU fun _ _ H K=>R.pickF (eU K 9 O) (dF hs) (kB false O) O H,Zt⟩ O O O O (tU O ?_)
   refine W.condF O (O) ?_
   refine W.exit (W.seq ?_)
   refine W.l0 2 [.y 32 _] [] [] [(2,_),(32,_)] [(3,.var _),(2,.var _)] 33 ⟨aU (lU 3 O O O O O O O),Zt⟩ O O O O (⟨O,_,R.stZ (gU 2 O) (xU 2 O) O (gV 32 O) (by rfl) (by rfl) (by rfl) (by rfl) O,tV [(2,_)] [(3,.var _),(2,.var _)] 33 O O O ?_⟩)
   refine W.ret ?_
   exact Ends.one' (.inr O) O (by rw [fromS,show min l.length 256 = i by omega]) O O (show LdT _ 139 4 true from inferInstance)
theorem bof_ok (n : UInt64) : Fn Tryd.prog gl 82 [.u64 n] (bgD [n,0,0,0]):=by
 refine Fn.of (n:=5) Tryd.func82 rfl rfl rfl (nU rfl) fun C hC hD=>?_
 refine W.seq ?_
 refine W.l0 1 [] [] [] [(0,_)] [] 5 Zt O O O O (⟨O,_,R.alloc O (nU O),tV [(0,_),(2,_)] [(2,.var _)] 5 O O O ?_⟩)
 refine W.seq ?_
 refine W.l0 3 [.y 3 _,.y 4 _] [] [] [(2,_),(4,_)] [(2,.var _)] 5 ⟨mU 0 O O,aU fun _ _ H K=>R.bldAP (z:=1) (l2:=([n,0,0,0].map D.u64)) (.cons (eU K 3 O) (.nil O)) ⟨⟨_,(eU K 3 O),O,O,O,O⟩,Zt⟩ (O) H,Zt⟩ O O O O (⟨O,_,R.stZ (gU 2 O) (xU 2 O) O (gV 4 O) (by rfl) (by rfl) (by rfl) (by rfl) O,tV [(2,_)] [(2,.var _)] 5 O O O ?_⟩)
 refine W.ret ?_
 exact Ends.one' (.inr O) O (O) O O (show LdT _ 139 4 true from inferInstance)
end Go.Sx

namespace Go.Sx
open Go.Proofs
theorem badd_ok (a b : Bg) (ha : a.length = 4) (hlb : b.length = 4) : Fn Tryd.prog gl 103 [bgD a,bgD b] (.tup [bgD (bAdd a b),.bool (bOvr a b)]):=by
 refine Fn.of (n:=34) Tryd.func103 rfl rfl rfl (nU rfl) fun C hC hD=>?_
 refine W.seq ?_
 refine W.l0 4 [] [] [] [(0,_),(1,_)] [] 34 Zt O O O O (⟨O,_,R.box (gV 0 O) O O (nU O),⟨O,_,R.box (gV 1 O) O O (nU O),⟨O,_,R.alloc O (nU O),⟨O,_,R.asg (kB false O) O (nU O),tV [(2,_),(3,_),(4,_)] [(4,.var _),(3,.var _),(2,.var _)] 34 O O O ?_⟩⟩⟩⟩)
 refine W.seq ?_
 refine W.l0 1 [.y 6 _] [] [] [(2,_),(3,_),(4,_),(6,_)] [(4,.var _),(3,.var _),(2,.var _)] 34 ⟨aU fun _ _ H _=>R.asg (kN O) O H,Zt⟩ O O O O (tU O ?_)
 refine W.seq ?_
 refine W.l0 1 [.y 7 _] [] [] [(2,_),(3,_),(4,_),(6,_),(7,_)] [(4,.var _),(3,.var _),(2,.var _)] 34 ⟨aU fun _ _ H _=>R.asg (kI 0 O) O H,Zt⟩ O O O O (tU O ?_)
 refine W.seq (W.seq ?_)
 refine W.l0 1 [.y 8 _] [] [] [(2,_),(3,_),(4,_),(6,_),(7,_),(8,_)] [(4,.var _),(3,.var _),(2,.var _)] 34 ⟨aU fun _ _ H _=>R.asg (kI 0 O) O H,Zt⟩ O O O O (tU O ?_)
 refine W.block ?_
 refine W.asOwn (s:=6) 3 1 O ?_
 refine W.loop (α:={q__ : Nat // q__ <= 256}) (fun q__=>⟨34,[(2,.ptr 2 0 []),(3,.ptr 3 0 []),(4,.ptr 4 0 []),(6,.sl (some 3) 1 ((bAddL a b q__.1).map natD)),(7,.int ((bAddM a b q__.1 : Nat) : Int)),(8,.int ((q__.1 : Nat) : Int))],[(4,.var (bgD zeroB)),(3,.var (bgD b)),(2,.var (bgD a))]⟩) (fun q__=>256 - q__.1) ⟨(0),bU⟩ O ?_
 rintro ⟨i,hi⟩
 show W _ _ _ _ ⟨34,[(2,.ptr 2 0 []),(3,.ptr 3 0 []),(4,.ptr 4 0 []),(6,.sl (some 3) 1 ((bAddL a b i).map natD)),(7,.int ((bAddM a b i : Nat) : Int)),(8,.int ((i : Nat) : Int))],[(4,.var (bgD zeroB)),(3,.var (bgD b)),(2,.var (bgD a))]⟩
 have hi : i <= 256:=hi
 have h1:=bitS_le a i
 have h2:=bitS_le b i
 have h3:=bAddM_le a b i
 have hll:=bAddL_len a b i
 refine W.seq (W.seq ?_)
 refine W.l0 2 [.y 10 _,.y 11 _] [] [] [(2,_),(3,_),(4,_),(6,_),(7,_),(8,_),(11,_)] [(4,.var _),(3,.var _),(2,.var _)] 34 ⟨mU 8 O O,aU fun _ _ H K=>R.lssN (i) (256) (eU K 10 O) (kI 256 O) H,Zt⟩ O O O O (tU O ?_)
 refine W.condD O (fun hc11=>?_) (fun hc11=>?_)
 · refine W.skip (W.seq (W.block (W.seq ?_)))
   refine W.draw (m:=10) (an:=[0,0,3,0,0,31,63,0,255,511]) hP dU O (its:=[.y 14 _,.y 15 _,.y 16 _,.y 17 _,.y 18 _,.y 19 _,.y 20 _,.y 21 _,.y 22 _,.y 9 _]) (ks:=[]) (kk:=[]) (live:=[2,3,4,6,8,9]) (env':=[(2,_),(3,_),(4,_),(6,_),(8,_),(9,_)]) (⟨nU O,O,⟨aU (lU 2 O O O O O O O),mU 8 O O,aU fun _ _ H K=>R.callG hC (bit_ok a i ha (by omega)) (Bc (Bp (eU K 14 O) O O) (Bc (Bp (eU K 15 O) O O) Bn)) (FrsR.one (.int _)) H,aU (lU 3 O O O O O O O),mU 8 O O,aU fun _ _ H K=>R.callG hC (bit_ok b i hlb (by omega)) (Bc (Bp (eU K 17 O) O O) (Bc (Bp (eU K 18 O) O O) Bn)) (FrsR.one (.int _)) H,aU fun _ _ H K=>R.addN (bitS a i) (bitS b i) (eU K 16 O) (eU K 19 O) bU H,mU 7 O O,aU fun _ _ H K=>R.addN ((bitS a i + bitS b i)) (bAddM a b i) (eU K 20 O) (eU K 21 O) bU H,aU fun _ _ H K=>R.asg (eU K 22 O) O H,Zt⟩,O,O,O⟩) O (bx':=[(4,.var _),(3,.var _),(2,.var _)]) O (n':=34) O (tV [(2,_),(3,_),(4,_),(6,_),(8,_),(9,_)] [(4,.var _),(3,.var _),(2,.var _)] 34 O O O ?_)
   refine W.seq ?_
   refine W.l0 6 [.y 23 _,.y 24 _,.y 25 _,.y 26 _,.y 27 _,.y 6 _] [(4,6),(5,27),(5,23)] [(4,6),(5,27)] [(2,_),(3,_),(4,_),(6,_),(8,_),(9,_)] [(4,.var _),(3,.var _),(2,.var _)] 34 ⟨aU fun _ _ H K=>R.al (K 6 _ O) H dU,mU 9 O O,aU fun _ _ H K=>R.remN (((bitS a i + bitS b i) + bAddM a b i)) (2) (eU K 24 O) (kI 2 O) bU H,aU fun _ _ H K=>R.bslE (z:=1) (.cons (eU K 25 O) .nil) ⟨⟨O,O,O⟩,Zt⟩ O H dU,aU fun _ _ H K=>R.appE (Or.inr (K 23 _ O)) (K 6 _ O) (SrcO.sc (SC.sl (K 26 _ O)) (pur_lit O)) (show _ = ((bAddL a b (i + 1)).map natD) from (by rw [bAddL,List.map_append]; rfl)) bU H dU dU,aU fun _ _ H K=>R.asgO (K 27 _ O) O H dU,Zt⟩ O O O O (tU O ?_)
   refine W.l0 3 [.y 28 _,.y 29 _,.y 7 _] [] [] [(2,_),(3,_),(4,_),(6,_),(7,_),(8,_)] [(4,.var _),(3,.var _),(2,.var _)] 34 ⟨mU 9 O O,aU fun _ _ H K=>R.quoN (((bitS a i + bitS b i) + bAddM a b i)) (2) (eU K 28 O) (kI 2 O) bU bU H,aU fun _ _ H K=>R.asg (eU K 29 O) O H,Zt⟩ O O O O (tU O ?_)
   refine W.l0 3 [.y 12 _,.y 13 _,.y 8 _] [] [] [(2,_),(3,_),(4,_),(6,_),(7,_),(8,_)] [(4,.var _),(3,.var _),(2,.var _)] 34 ⟨mU 8 O O,aU fun _ _ H K=>R.addN (i) (1) (eU K 12 O) (kI 1 O) bU H,aU fun _ _ H K=>R.asg (eU K 13 O) O H,Zt⟩ O O O O (tU O ?_)
   exact ⟨⟨(i + 1),bU⟩,rfl,(by simp only []; omega)⟩
 · obtain rfl : i = 256:=by omega
   refine W.exit (W.seq ?_)
   refine W.l0 6 [.y 30 _,.y 31 _,.y 32 _,.y 33 _] [] [] [(4,_),(31,_),(33,_)] [(4,.var _),(3,.var _),(2,.var _)] 34 ⟨aU fun _ _ H K=>R.al (K 6 _ O) H dU,aU fun _ _ H K=>R.callG hC (bfrom_ok (bAddL a b 256) (by rw [bAddL_len]; decide)) (Bc (Bor.sc (SC.al (K 30 _ O) (K 6 _ O)) (brw_map (fun _=>rfl))) Bn) (FrsR.one (frs_bg _)) H,mU 7 O O,aU fun _ _ H K=>R.eqlN (bAddM a b 256) (1) (eU K 32 O) (kI 1 O) H,Zt⟩ O O O O (⟨O,_,R.stZ (gU 4 O) (xU 4 O) O (gV 31 O) (by rfl) (by rfl) (by rfl) (by rfl) O,⟨O,_,R.asg (gV 33 O) O (nU O),tV [(4,_),(5,_)] [(4,.var _),(3,.var _),(2,.var _)] 34 O O O ?_⟩⟩)
   refine W.ret ?_
   exact Ends.many (.inr O) (.cons O O O (show LdT _ 139 4 true from inferInstance) (.cons O O O Zt .nil)) (by unfold bAdd bOvr; rfl) (show [(4,false),(5,true)].Nodup by decide)
theorem bsub_ok (a b : Bg) (ha : a.length = 4) (hlb : b.length = 4) : Fn Tryd.prog gl 115 [bgD a,bgD b] (.tup [bgD (bSub a b),.bool (decide (bSubM a b 256 = 1))]):=by
 refine Fn.of (n:=35) Tryd.func115 rfl rfl rfl (nU rfl) fun C hC hD=>?_
 refine W.seq ?_
 refine W.l0 4 [] [] [] [(0,_),(1,_)] [] 35 Zt O O O O (⟨O,_,R.box (gV 0 O) O O (nU O),⟨O,_,R.box (gV 1 O) O O (nU O),⟨O,_,R.alloc O (nU O),⟨O,_,R.asg (kB false O) O (nU O),tV [(2,_),(3,_),(4,_)] [(4,.var _),(3,.var _),(2,.var _)] 35 O O O ?_⟩⟩⟩⟩)
 refine W.seq ?_
 refine W.l0 1 [.y 6 _] [] [] [(2,_),(3,_),(4,_),(6,_)] [(4,.var _),(3,.var _),(2,.var _)] 35 ⟨aU fun _ _ H _=>R.asg (kN O) O H,Zt⟩ O O O O (tU O ?_)
 refine W.seq ?_
 refine W.l0 1 [.y 7 _] [] [] [(2,_),(3,_),(4,_),(6,_),(7,_)] [(4,.var _),(3,.var _),(2,.var _)] 35 ⟨aU fun _ _ H _=>R.asg (kI 0 O) O H,Zt⟩ O O O O (tU O ?_)
 refine W.seq (W.seq ?_)
 refine W.l0 1 [.y 8 _] [] [] [(2,_),(3,_),(4,_),(6,_),(7,_),(8,_)] [(4,.var _),(3,.var _),(2,.var _)] 35 ⟨aU fun _ _ H _=>R.asg (kI 0 O) O H,Zt⟩ O O O O (tU O ?_)
 refine W.block ?_
 refine W.asOwn (s:=6) 3 1 O ?_
 refine W.loop (α:={q__ : Nat // q__ <= 256}) (fun q__=>⟨35,[(2,.ptr 2 0 []),(3,.ptr 3 0 []),(4,.ptr 4 0 []),(6,.sl (some 3) 1 ((bSubL a b q__.1).map natD)),(7,.int ((bSubM a b q__.1 : Nat) : Int)),(8,.int ((q__.1 : Nat) : Int))],[(4,.var (bgD zeroB)),(3,.var (bgD b)),(2,.var (bgD a))]⟩) (fun q__=>256 - q__.1) ⟨(0),bU⟩ O ?_
 rintro ⟨i,hi⟩
 show W _ _ _ _ ⟨35,[(2,.ptr 2 0 []),(3,.ptr 3 0 []),(4,.ptr 4 0 []),(6,.sl (some 3) 1 ((bSubL a b i).map natD)),(7,.int ((bSubM a b i : Nat) : Int)),(8,.int ((i : Nat) : Int))],[(4,.var (bgD zeroB)),(3,.var (bgD b)),(2,.var (bgD a))]⟩
 have hi : i <= 256:=hi
 have h1:=bitS_le a i
 have h2:=bitS_le b i
 have h3:=bSubM_le a b i
 have hll:=bSubL_len a b i
 refine W.seq (W.seq ?_)
 refine W.l0 2 [.y 10 _,.y 11 _] [] [] [(2,_),(3,_),(4,_),(6,_),(7,_),(8,_),(11,_)] [(4,.var _),(3,.var _),(2,.var _)] 35 ⟨mU 8 O O,aU fun _ _ H K=>R.lssN (i) (256) (eU K 10 O) (kI 256 O) H,Zt⟩ O O O O (tU O ?_)
 refine W.condD O (fun hc11=>?_) (fun hc11=>?_)
 · refine W.skip (W.seq (W.block (W.seq ?_)))
   refine W.draw (m:=10) (an:=[0,0,3,0,0,31,63,0,255,511]) hP dU O (its:=[.y 14 _,.y 15 _,.y 16 _,.y 17 _,.y 18 _,.y 19 _,.y 20 _,.y 21 _,.y 22 _,.y 9 _]) (ks:=[]) (kk:=[]) (live:=[2,3,4,6,8,9]) (env':=[(2,_),(3,_),(4,_),(6,_),(8,_),(9,_)]) (⟨nU O,O,⟨aU (lU 2 O O O O O O O),mU 8 O O,aU fun _ _ H K=>R.callG hC (bit_ok a i ha (by omega)) (Bc (Bp (eU K 14 O) O O) (Bc (Bp (eU K 15 O) O O) Bn)) (FrsR.one (.int _)) H,aU (lU 3 O O O O O O O),mU 8 O O,aU fun _ _ H K=>R.callG hC (bit_ok b i hlb (by omega)) (Bc (Bp (eU K 17 O) O O) (Bc (Bp (eU K 18 O) O O) Bn)) (FrsR.one (.int _)) H,aU fun _ _ H K=>R.binE (d:=.int (((bitS a i : Nat) : Int) - ((bitS b i : Nat) : Int))) (eU K 16 O) (eU K 19 O) O Zt (wr_eq (by omega) (by omega) (by omega)) H,mU 7 O O,aU fun _ _ H K=>R.binE (d:=.int (((bitS a i : Nat) : Int) - ((bitS b i : Nat) : Int) - ((bSubM a b i : Nat) : Int))) (eU K 20 O) (eU K 21 O) O Zt (wr_eq (by omega) (by omega) (by omega)) H,aU fun _ _ H K=>R.asg (eU K 22 O) O H,Zt⟩,O,O,O⟩) O (bx':=[(4,.var _),(3,.var _),(2,.var _)]) O (n':=35) O (tV [(2,_),(3,_),(4,_),(6,_),(8,_),(9,_)] [(4,.var _),(3,.var _),(2,.var _)] 35 O O O ?_)
   refine W.seq ?_
   refine W.l0 1 [.y 7 _] [] [] [(2,_),(3,_),(4,_),(6,_),(7,_),(8,_),(9,_)] [(4,.var _),(3,.var _),(2,.var _)] 35 ⟨aU fun _ _ H _=>R.asg (kI 0 O) O H,Zt⟩ O O O O (tU O ?_)
   refine W.seq (W.seq ?_)
   refine W.l0 2 [.y 23 _,.y 24 _] [] [] [(2,_),(3,_),(4,_),(6,_),(7,_),(8,_),(9,_),(24,_)] [(4,.var _),(3,.var _),(2,.var _)] 35 ⟨mU 9 O O,aU fun _ _ H K=>R.bin (eU K 23 O) (kI 0 O) O Zt H,Zt⟩ O O O O (tU O ?_)
   refine W.cond O (fun hc24=>?_) (fun hc24=>?_)
   · refine W.seq ?_
     refine W.l0 3 [.y 25 _,.y 26 _,.y 9 _] [] [] [(2,_),(3,_),(4,_),(6,_),(8,_),(9,_)] [(4,.var _),(3,.var _),(2,.var _)] 35 ⟨mU 9 O O,aU fun _ _ H K=>R.binE (d:=.int (((bitS a i : Nat) : Int) - ((bitS b i : Nat) : Int) - ((bSubM a b i : Nat) : Int) + 2)) (eU K 25 O) (kI 2 O) O Zt (wr_eq (by omega) (by omega) (by omega)) H,aU fun _ _ H K=>R.asg (eU K 26 O) O H,Zt⟩ O O O O (tU O ?_)
     refine W.l0 1 [.y 7 _] [] [] [(2,_),(3,_),(4,_),(6,_),(7,_),(8,_),(9,_)] [(4,.var _),(3,.var _),(2,.var _)] 35 ⟨aU fun _ _ H _=>R.asg (kI 1 O) O H,Zt⟩ O O O O (tU O ?_)
     refine W.l0 5 [.y 27 _,.y 28 _,.y 29 _,.y 30 _,.y 6 _] [(3,6),(4,30),(4,27)] [(3,6),(4,30)] [(2,_),(3,_),(4,_),(6,_),(7,_),(8,_)] [(4,.var _),(3,.var _),(2,.var _)] 35 ⟨aU fun _ _ H K=>R.al (K 6 _ O) H dU,mU 9 O O,aU fun _ _ H K=>R.bslE (z:=1) (.cons (eU K 28 O) .nil) ⟨⟨O,O,O⟩,Zt⟩ O H dU,aU fun _ _ H K=>R.appE (Or.inr (K 27 _ O)) (K 6 _ O) (SrcO.sc (SC.sl (K 29 _ O)) (pur_lit O)) (show _ = ((bSubL a b (i + 1)).map natD) from (by first | exact subL_t (of_decide_eq_true hc24) | exact subL_f (of_decide_eq_false hc24))) bU H dU dU,aU fun _ _ H K=>R.asgO (K 30 _ O) O H dU,Zt⟩ O O O O (tU O ?_)
     refine W.l0 3 [.y 12 _,.y 13 _,.y 8 _] [] [] [(2,_),(3,_),(4,_),(6,_),(7,_),(8,_)] [(4,.var _),(3,.var _),(2,.var _)] 35 ⟨mU 8 O O,aU fun _ _ H K=>R.addN (i) (1) (eU K 12 O) (kI 1 O) bU H,aU fun _ _ H K=>R.asg (eU K 13 O) O H,Zt⟩ O O O O (tU O ?_)
     exact ⟨⟨(i + 1),bU⟩,(by first | (rw [subM_t (of_decide_eq_true hc24)] <;> rfl) | (rw [subM_f (of_decide_eq_false hc24)] <;> rfl)),(by simp only []; omega)⟩
   · refine W.skip ?_
     refine W.l0 5 [.y 27 _,.y 28 _,.y 29 _,.y 30 _,.y 6 _] [(3,6),(4,30),(4,27)] [(3,6),(4,30)] [(2,_),(3,_),(4,_),(6,_),(7,_),(8,_)] [(4,.var _),(3,.var _),(2,.var _)] 35 ⟨aU fun _ _ H K=>R.al (K 6 _ O) H dU,mU 9 O O,aU fun _ _ H K=>R.bslE (z:=1) (.cons (eU K 28 O) .nil) ⟨⟨O,O,O⟩,Zt⟩ O H dU,aU fun _ _ H K=>R.appE (Or.inr (K 27 _ O)) (K 6 _ O) (SrcO.sc (SC.sl (K 29 _ O)) (pur_lit O)) (show _ = ((bSubL a b (i + 1)).map natD) from (by first | exact subL_t (of_decide_eq_true hc24) | exact subL_f (of_decide_eq_false hc24))) bU H dU dU,aU fun _ _ H K=>R.asgO (K 30 _ O) O H dU,Zt⟩ O O O O (tU O ?_)
     refine W.l0 3 [.y 12 _,.y 13 _,.y 8 _] [] [] [(2,_),(3,_),(4,_),(6,_),(7,_),(8,_)] [(4,.var _),(3,.var _),(2,.var _)] 35 ⟨mU 8 O O,aU fun _ _ H K=>R.addN (i) (1) (eU K 12 O) (kI 1 O) bU H,aU fun _ _ H K=>R.asg (eU K 13 O) O H,Zt⟩ O O O O (tU O ?_)
     exact ⟨⟨(i + 1),bU⟩,(by first | (rw [subM_t (of_decide_eq_true hc24)] <;> rfl) | (rw [subM_f (of_decide_eq_false hc24)] <;> rfl)),(by simp only []; omega)⟩
 · obtain rfl : i = 256:=by omega
   refine W.exit (W.seq ?_)
   refine W.l0 6 [.y 31 _,.y 32 _,.y 33 _,.y 34 _] [] [] [(4,_),(32,_),(34,_)] [(4,.var _),(3,.var _),(2,.var _)] 35 ⟨aU fun _ _ H K=>R.al (K 6 _ O) H dU,aU fun _ _ H K=>R.callG hC (bfrom_ok (bSubL a b 256) (by rw [bSubL_len]; decide)) (Bc (Bor.sc (SC.al (K 31 _ O) (K 6 _ O)) (brw_map (fun _=>rfl))) Bn) (FrsR.one (frs_bg _)) H,mU 7 O O,aU fun _ _ H K=>R.eqlN (bSubM a b 256) (1) (eU K 33 O) (kI 1 O) H,Zt⟩ O O O O (⟨O,_,R.stZ (gU 4 O) (xU 4 O) O (gV 32 O) (by rfl) (by rfl) (by rfl) (by rfl) O,⟨O,_,R.asg (gV 34 O) O (nU O),tV [(4,_),(5,_)] [(4,.var _),(3,.var _),(2,.var _)] 35 O O O ?_⟩⟩)
   refine W.ret ?_
   exact Ends.many (.inr O) (.cons O O O (show LdT _ 139 4 true from inferInstance) (.cons O O O Zt .nil)) (by unfold bSub; rfl) (show [(4,false),(5,true)].Nodup by decide)
theorem bup_ok (a : Bg) (n : Nat) (ha : a.length = 4) (hn : n <= 100000) : Fn Tryd.prog gl 84 [bgD a,.int ((n : Nat) : Int)] (bgD (upS a n)):=by
 refine Fn.of (n:=29) Tryd.func84 rfl rfl rfl (nU rfl) fun C hC hD=>?_
 refine W.seq ?_
 refine W.l0 2 [] [] [] [(0,_),(1,_)] [] 29 Zt O O O O (⟨O,_,R.box (gV 0 O) O O (nU O),⟨O,_,R.alloc O (nU O),tV [(1,_),(2,_),(4,_)] [(4,.var _),(2,.var _)] 29 O O O ?_⟩⟩)
 refine W.seq (W.seq ?_)
 refine W.l0 2 [.y 7 _,.y 8 _] [] [] [(1,_),(2,_),(4,_),(8,_)] [(4,.var _),(2,.var _)] 29 ⟨mU 1 O O,aU fun _ _ H K=>R.leqN (n) (0) (eU K 7 O) (kI 0 O) H,Zt⟩ O O O O (tU O ?_)
 refine W.condD O (fun hc8=>?_) (fun hc8=>?_)
 · refine W.seq ?_
   refine W.l0 2 [.y 9 _] [] [] [(4,_),(9,_)] [(4,.var _),(2,.var _)] 29 ⟨aU (lU 2 O O O O O O O),Zt⟩ O O O O (⟨O,_,R.stZ (gU 4 O) (xU 4 O) O (gV 9 O) (by rfl) (by rfl) (by rfl) (by rfl) O,tV [(4,_)] [(4,.var _),(2,.var _)] 29 O O O ?_⟩)
   refine W.ret ?_
   exact Ends.one' (.inr rfl) rfl (by obtain rfl : n = 0:=(by omega); rw [upS_0]) rfl rfl (show LdT _ 139 4 true from inferInstance)
 · refine W.skip (W.seq ?_)
   refine W.l0 1 [.y 5 _] [] [] [(1,_),(2,_),(4,_),(5,_)] [(4,.var _),(2,.var _)] 29 ⟨aU fun _ _ H _=>R.asg (kN O) O H,Zt⟩ O O O O (tU O ?_)
   refine W.seq (W.seq ?_)
   refine W.l0 1 [.y 6 _] [] [] [(1,_),(2,_),(4,_),(5,_),(6,_)] [(4,.var _),(2,.var _)] 29 ⟨aU fun _ _ H _=>R.asg (kI 0 O) O H,Zt⟩ O O O O (tU O ?_)
   refine W.block ?_
   refine W.asOwn (s:=5) 3 1 O ?_
   refine W.loop (α:={q__ : Nat // q__ <= 256}) (fun q__=>⟨29,[(1,.int ((n : Nat) : Int)),(2,.ptr 2 0 []),(4,.ptr 4 0 []),(5,.sl (some 3) 1 ((upL a n q__.1).map natD)),(6,.int ((q__.1 : Nat) : Int))],[(4,.var (bgD zeroB)),(2,.var (bgD a))]⟩) (fun q__=>256 - q__.1) ⟨(0),bU⟩ O ?_
   rintro ⟨i,hi⟩
   show W _ _ _ _ ⟨29,[(1,.int ((n : Nat) : Int)),(2,.ptr 2 0 []),(4,.ptr 4 0 []),(5,.sl (some 3) 1 ((upL a n i).map natD)),(6,.int ((i : Nat) : Int))],[(4,.var (bgD zeroB)),(2,.var (bgD a))]⟩
   have hi : i <= 256:=hi
   have hll:=upL_len a n i
   refine W.seq (W.seq ?_)
   refine W.l0 2 [.y 10 _,.y 11 _] [] [] [(1,_),(2,_),(4,_),(5,_),(6,_),(11,_)] [(4,.var _),(2,.var _)] 29 ⟨mU 6 O O,aU fun _ _ H K=>R.lssN (i) (256) (eU K 10 O) (kI 256 O) H,Zt⟩ O O O O (tU O ?_)
   refine W.condD O (fun hc11=>?_) (fun hc11=>?_)
   · refine W.skip (W.seq (W.block (W.seq ?_)))
     refine W.l0 2 [.y 14 _,.y 15 _] [] [] [(1,_),(2,_),(4,_),(5,_),(6,_),(15,_)] [(4,.var _),(2,.var _)] 29 ⟨mU 1 O O,aU fun _ _ H K=>R.gtrN (n) (256) (eU K 14 O) (kI 256 O) H,Zt⟩ O O O O (tU O ?_)
     refine W.condD O (fun hc15=>?_) (fun hc15=>?_)
     · refine W.l0 4 [.y 16 _,.y 17 _,.y 18 _,.y 5 _] [(2,5),(3,18),(3,16)] [(2,5),(3,18)] [(1,_),(2,_),(4,_),(5,_),(6,_)] [(4,.var _),(2,.var _)] 29 ⟨aU fun _ _ H K=>R.al (K 5 _ O) H dU,aU fun _ _ H _=>R.bslE (z:=1) (.cons (kI 0 O) .nil) ⟨⟨O,O,O⟩,Zt⟩ O H dU,aU fun _ _ H K=>R.appE (Or.inr (K 16 _ O)) (K 5 _ O) (SrcO.sc (SC.sl (K 17 _ O)) (pur_lit O)) (show _ = ((upL a n (i + 1)).map natD) from (up_app (if_pos (.inl hc15)))) bU H dU dU,aU fun _ _ H K=>R.asgO (K 18 _ O) O H dU,Zt⟩ O O O O (tU O ?_)
       refine W.l0 3 [.y 12 _,.y 13 _,.y 6 _] [] [] [(1,_),(2,_),(4,_),(5,_),(6,_)] [(4,.var _),(2,.var _)] 29 ⟨mU 6 O O,aU fun _ _ H K=>R.addN (i) (1) (eU K 12 O) (kI 1 O) bU H,aU fun _ _ H K=>R.asg (eU K 13 O) O H,Zt⟩ O O O O (tU O ?_)
       exact ⟨⟨(i + 1),bU⟩,rfl,(by simp only []; omega)⟩
     · by_cases hin : i < n
       · refine W.l0 9 [.y 19 _,.y 20 _,.y 21 _,.y 22 _,.y 23 _,.y 24 _,.y 25 _,.y 26 _,.y 5 _] [(7,5),(8,26),(8,19)] [(7,5),(8,26)] [(1,_),(2,_),(4,_),(5,_),(6,_)] [(4,.var _),(2,.var _)] 29 ⟨aU fun _ _ H K=>R.al (K 5 _ O) H dU,aU (lU 2 O O O O O O O),mU 6 O O,mU 1 O O,aU fun _ _ H K=>R.binE (d:=.int (((i : Nat) : Int) - ((n : Nat) : Int))) (eU K 21 O) (eU K 22 O) O Zt (wr_eq (by omega) (by omega) (by omega)) H,aU fun _ _ H K=>R.callG hC (bit_neg a (((i : Nat) : Int) - ((n : Nat) : Int)) (by omega) (by omega)) (Bc (Bp (eU K 20 O) O O) (Bc (Bp (eU K 23 O) O O) Bn)) (FrsR.one (.int _)) H,aU fun _ _ H K=>R.bslE (z:=1) (.cons (eU K 24 O) .nil) ⟨⟨O,O,O⟩,Zt⟩ O H dU,aU fun _ _ H K=>R.appE (Or.inr (K 19 _ O)) (K 5 _ O) (SrcO.sc (SC.sl (K 25 _ O)) (pur_lit O)) (show _ = ((upL a n (i + 1)).map natD) from (up_app (if_pos (.inr hin)))) bU H dU dU,aU fun _ _ H K=>R.asgO (K 26 _ O) O H dU,Zt⟩ O O O O (tU O ?_)
         refine W.l0 3 [.y 12 _,.y 13 _,.y 6 _] [] [] [(1,_),(2,_),(4,_),(5,_),(6,_)] [(4,.var _),(2,.var _)] 29 ⟨mU 6 O O,aU fun _ _ H K=>R.addN (i) (1) (eU K 12 O) (kI 1 O) bU H,aU fun _ _ H K=>R.asg (eU K 13 O) O H,Zt⟩ O O O O (tU O ?_)
         exact ⟨⟨(i + 1),bU⟩,rfl,(by simp only []; omega)⟩
       · refine W.l0 9 [.y 19 _,.y 20 _,.y 21 _,.y 22 _,.y 23 _,.y 24 _,.y 25 _,.y 26 _,.y 5 _] [(7,5),(8,26),(8,19)] [(7,5),(8,26)] [(1,_),(2,_),(4,_),(5,_),(6,_)] [(4,.var _),(2,.var _)] 29 ⟨aU fun _ _ H K=>R.al (K 5 _ O) H dU,aU (lU 2 O O O O O O O),mU 6 O O,mU 1 O O,aU fun _ _ H K=>R.subN (i) (n) (eU K 21 O) (eU K 22 O) bU bU H,aU fun _ _ H K=>R.callG hC (bit_ok a (i - n) ha (by omega)) (Bc (Bp (eU K 20 O) O O) (Bc (Bp (eU K 23 O) O O) Bn)) (FrsR.one (.int _)) H,aU fun _ _ H K=>R.bslE (z:=1) (.cons (eU K 24 O) .nil) ⟨⟨O,O,O⟩,Zt⟩ O H dU,aU fun _ _ H K=>R.appE (Or.inr (K 19 _ O)) (K 5 _ O) (SrcO.sc (SC.sl (K 25 _ O)) (pur_lit O)) (show _ = ((upL a n (i + 1)).map natD) from (up_app (if_neg (by omega)))) bU H dU dU,aU fun _ _ H K=>R.asgO (K 26 _ O) O H dU,Zt⟩ O O O O (tU O ?_)
         refine W.l0 3 [.y 12 _,.y 13 _,.y 6 _] [] [] [(1,_),(2,_),(4,_),(5,_),(6,_)] [(4,.var _),(2,.var _)] 29 ⟨mU 6 O O,aU fun _ _ H K=>R.addN (i) (1) (eU K 12 O) (kI 1 O) bU H,aU fun _ _ H K=>R.asg (eU K 13 O) O H,Zt⟩ O O O O (tU O ?_)
         exact ⟨⟨(i + 1),bU⟩,rfl,(by simp only []; omega)⟩
   · obtain rfl : i = 256:=by omega
     refine W.exit (W.seq ?_)
     refine W.l0 3 [.y 27 _,.y 28 _] [] [] [(4,_),(28,_)] [(4,.var _),(2,.var _)] 29 ⟨aU fun _ _ H K=>R.al (K 5 _ O) H dU,aU fun _ _ H K=>R.callG hC (bfrom_ok (upL a n 256) (by rw [upL_len]; decide)) (Bc (Bor.sc (SC.al (K 27 _ O) (K 5 _ O)) (brw_map (fun _=>rfl))) Bn) (FrsR.one (frs_bg _)) H,Zt⟩ O O O O (⟨O,_,R.stZ (gU 4 O) (xU 4 O) O (gV 28 O) (by rfl) (by rfl) (by rfl) (by rfl) O,tV [(4,_)] [(4,.var _),(2,.var _)] 29 O O O ?_⟩)
     refine W.ret ?_
     exact Ends.one' (.inr O) O (by rw [upS_n hc8]) O O (show LdT _ 139 4 true from inferInstance)
theorem bdown_ok (a : Bg) (n : Nat) (ha : a.length = 4) (hn : n <= 100000) : Fn Tryd.prog gl 83 [bgD a,.int ((n : Nat) : Int)] (bgD (downS a n)):=by
 refine Fn.of (n:=29) Tryd.func83 rfl rfl rfl (nU rfl) fun C hC hD=>?_
 refine W.seq ?_
 refine W.l0 2 [] [] [] [(0,_),(1,_)] [] 29 Zt O O O O (⟨O,_,R.box (gV 0 O) O O (nU O),⟨O,_,R.alloc O (nU O),tV [(1,_),(2,_),(4,_)] [(4,.var _),(2,.var _)] 29 O O O ?_⟩⟩)
 refine W.seq (W.seq ?_)
 refine W.l0 2 [.y 7 _,.y 8 _] [] [] [(1,_),(2,_),(4,_),(8,_)] [(4,.var _),(2,.var _)] 29 ⟨mU 1 O O,aU fun _ _ H K=>R.leqN (n) (0) (eU K 7 O) (kI 0 O) H,Zt⟩ O O O O (tU O ?_)
 refine W.condD O (fun hc8=>?_) (fun hc8=>?_)
 · refine W.seq ?_
   refine W.l0 2 [.y 9 _] [] [] [(4,_),(9,_)] [(4,.var _),(2,.var _)] 29 ⟨aU (lU 2 O O O O O O O),Zt⟩ O O O O (⟨O,_,R.stZ (gU 4 O) (xU 4 O) O (gV 9 O) (by rfl) (by rfl) (by rfl) (by rfl) O,tV [(4,_)] [(4,.var _),(2,.var _)] 29 O O O ?_⟩)
   refine W.ret ?_
   exact Ends.one' (.inr rfl) rfl (by obtain rfl : n = 0:=(by omega); rw [downS_0]) rfl rfl (show LdT _ 139 4 true from inferInstance)
 · refine W.skip (W.seq ?_)
   refine W.l0 1 [.y 5 _] [] [] [(1,_),(2,_),(4,_),(5,_)] [(4,.var _),(2,.var _)] 29 ⟨aU fun _ _ H _=>R.asg (kN O) O H,Zt⟩ O O O O (tU O ?_)
   refine W.seq (W.seq ?_)
   refine W.l0 1 [.y 6 _] [] [] [(1,_),(2,_),(4,_),(5,_),(6,_)] [(4,.var _),(2,.var _)] 29 ⟨aU fun _ _ H _=>R.asg (kI 0 O) O H,Zt⟩ O O O O (tU O ?_)
   refine W.block ?_
   refine W.asOwn (s:=5) 3 1 O ?_
   refine W.loop (α:={q__ : Nat // q__ <= 256}) (fun q__=>⟨29,[(1,.int ((n : Nat) : Int)),(2,.ptr 2 0 []),(4,.ptr 4 0 []),(5,.sl (some 3) 1 ((downL a n q__.1).map natD)),(6,.int ((q__.1 : Nat) : Int))],[(4,.var (bgD zeroB)),(2,.var (bgD a))]⟩) (fun q__=>256 - q__.1) ⟨(0),bU⟩ O ?_
   rintro ⟨i,hi⟩
   show W _ _ _ _ ⟨29,[(1,.int ((n : Nat) : Int)),(2,.ptr 2 0 []),(4,.ptr 4 0 []),(5,.sl (some 3) 1 ((downL a n i).map natD)),(6,.int ((i : Nat) : Int))],[(4,.var (bgD zeroB)),(2,.var (bgD a))]⟩
   have hi : i <= 256:=hi
   have hll:=downL_len a n i
   refine W.seq (W.seq ?_)
   refine W.l0 2 [.y 10 _,.y 11 _] [] [] [(1,_),(2,_),(4,_),(5,_),(6,_),(11,_)] [(4,.var _),(2,.var _)] 29 ⟨mU 6 O O,aU fun _ _ H K=>R.lssN (i) (256) (eU K 10 O) (kI 256 O) H,Zt⟩ O O O O (tU O ?_)
   refine W.condD O (fun hc11=>?_) (fun hc11=>?_)
   · refine W.skip (W.seq (W.block (W.seq ?_)))
     refine W.l0 2 [.y 14 _,.y 15 _] [] [] [(1,_),(2,_),(4,_),(5,_),(6,_),(15,_)] [(4,.var _),(2,.var _)] 29 ⟨mU 1 O O,aU fun _ _ H K=>R.gtrN (n) (256) (eU K 14 O) (kI 256 O) H,Zt⟩ O O O O (tU O ?_)
     refine W.condD O (fun hc15=>?_) (fun hc15=>?_)
     · refine W.l0 4 [.y 16 _,.y 17 _,.y 18 _,.y 5 _] [(2,5),(3,18),(3,16)] [(2,5),(3,18)] [(1,_),(2,_),(4,_),(5,_),(6,_)] [(4,.var _),(2,.var _)] 29 ⟨aU fun _ _ H K=>R.al (K 5 _ O) H dU,aU fun _ _ H _=>R.bslE (z:=1) (.cons (kI 0 O) .nil) ⟨⟨O,O,O⟩,Zt⟩ O H dU,aU fun _ _ H K=>R.appE (Or.inr (K 16 _ O)) (K 5 _ O) (SrcO.sc (SC.sl (K 17 _ O)) (pur_lit O)) (show _ = ((downL a n (i + 1)).map natD) from (down_app (if_pos hc15))) bU H dU dU,aU fun _ _ H K=>R.asgO (K 18 _ O) O H dU,Zt⟩ O O O O (tU O ?_)
       refine W.l0 3 [.y 12 _,.y 13 _,.y 6 _] [] [] [(1,_),(2,_),(4,_),(5,_),(6,_)] [(4,.var _),(2,.var _)] 29 ⟨mU 6 O O,aU fun _ _ H K=>R.addN (i) (1) (eU K 12 O) (kI 1 O) bU H,aU fun _ _ H K=>R.asg (eU K 13 O) O H,Zt⟩ O O O O (tU O ?_)
       exact ⟨⟨(i + 1),bU⟩,rfl,(by simp only []; omega)⟩
     · refine W.l0 9 [.y 19 _,.y 20 _,.y 21 _,.y 22 _,.y 23 _,.y 24 _,.y 25 _,.y 26 _,.y 5 _] [(7,5),(8,26),(8,19)] [(7,5),(8,26)] [(1,_),(2,_),(4,_),(5,_),(6,_)] [(4,.var _),(2,.var _)] 29 ⟨aU fun _ _ H K=>R.al (K 5 _ O) H dU,aU (lU 2 O O O O O O O),mU 6 O O,mU 1 O O,aU fun _ _ H K=>R.addN (i) (n) (eU K 21 O) (eU K 22 O) bU H,aU fun _ _ H K=>R.callG hC (bit_ok a (i + n) ha (by omega)) (Bc (Bp (eU K 20 O) O O) (Bc (Bp (eU K 23 O) O O) Bn)) (FrsR.one (.int _)) H,aU fun _ _ H K=>R.bslE (z:=1) (.cons (eU K 24 O) .nil) ⟨⟨O,O,O⟩,Zt⟩ O H dU,aU fun _ _ H K=>R.appE (Or.inr (K 19 _ O)) (K 5 _ O) (SrcO.sc (SC.sl (K 25 _ O)) (pur_lit O)) (show _ = ((downL a n (i + 1)).map natD) from (down_app (if_neg hc15))) bU H dU dU,aU fun _ _ H K=>R.asgO (K 26 _ O) O H dU,Zt⟩ O O O O (tU O ?_)
       refine W.l0 3 [.y 12 _,.y 13 _,.y 6 _] [] [] [(1,_),(2,_),(4,_),(5,_),(6,_)] [(4,.var _),(2,.var _)] 29 ⟨mU 6 O O,aU fun _ _ H K=>R.addN (i) (1) (eU K 12 O) (kI 1 O) bU H,aU fun _ _ H K=>R.asg (eU K 13 O) O H,Zt⟩ O O O O (tU O ?_)
       exact ⟨⟨(i + 1),bU⟩,rfl,(by simp only []; omega)⟩
   · obtain rfl : i = 256:=by omega
     refine W.exit (W.seq ?_)
     refine W.l0 3 [.y 27 _,.y 28 _] [] [] [(4,_),(28,_)] [(4,.var _),(2,.var _)] 29 ⟨aU fun _ _ H K=>R.al (K 5 _ O) H dU,aU fun _ _ H K=>R.callG hC (bfrom_ok (downL a n 256) (by rw [downL_len]; decide)) (Bc (Bor.sc (SC.al (K 27 _ O) (K 5 _ O)) (brw_map (fun _=>rfl))) Bn) (FrsR.one (frs_bg _)) H,Zt⟩ O O O O (⟨O,_,R.stZ (gU 4 O) (xU 4 O) O (gV 28 O) (by rfl) (by rfl) (by rfl) (by rfl) O,tV [(4,_)] [(4,.var _),(2,.var _)] 29 O O O ?_⟩)
     refine W.ret ?_
     exact Ends.one' (.inr O) O (by rw [downS_n hc8]) O O (show LdT _ 139 4 true from inferInstance)
theorem bofh_ok (h : Hs) (hh : h.length = 32) : Fn Tryd.prog gl 87 [hashD h] (bgD (ofHS h)):=by
 refine Fn.of (n:=24) Tryd.func87 rfl rfl rfl (nU rfl) fun C hC hD=>?_
 refine W.seq ?_
 refine W.l0 2 [] [] [] [(0,_)] [] 24 Zt O O O O (⟨O,_,R.box (gV 0 O) O O (nU O),⟨O,_,R.alloc O (nU O),tV [(1,_),(2,_)] [(2,.var _),(1,.var _)] 24 O O O ?_⟩⟩)
 refine W.seq ?_
 refine W.l0 1 [.y 3 _] [] [] [(1,_),(2,_),(3,_)] [(2,.var _),(1,.var _)] 24 ⟨aU fun _ _ H _=>R.asg (kN O) O H,Zt⟩ O O O O (tU O ?_)
 refine W.seq (W.seq ?_)
 refine W.l0 1 [.y 4 _] [] [] [(1,_),(2,_),(3,_),(4,_)] [(2,.var _),(1,.var _)] 24 ⟨aU fun _ _ H _=>R.asg (kI 0 O) O H,Zt⟩ O O O O (tU O ?_)
 refine W.block ?_
 refine W.asOwn (s:=3) 3 1 O ?_
 refine W.loop (α:={q__ : Nat // q__ <= 256}) (fun q__=>⟨24,[(1,.ptr 1 0 []),(2,.ptr 2 0 []),(3,.sl (some 3) 1 ((ofHL h q__.1).map natD)),(4,.int ((q__.1 : Nat) : Int))],[(2,.var (bgD zeroB)),(1,.var (hashD h))]⟩) (fun q__=>256 - q__.1) ⟨(0),bU⟩ O ?_
 rintro ⟨i,hi⟩
 show W _ _ _ _ ⟨24,[(1,.ptr 1 0 []),(2,.ptr 2 0 []),(3,.sl (some 3) 1 ((ofHL h i).map natD)),(4,.int ((i : Nat) : Int))],[(2,.var (bgD zeroB)),(1,.var (hashD h))]⟩
 have hi : i <= 256:=hi
 have hll:=ofHL_len h i
 refine W.seq (W.seq ?_)
 refine W.l0 2 [.y 5 _,.y 6 _] [] [] [(1,_),(2,_),(3,_),(4,_),(6,_)] [(2,.var _),(1,.var _)] 24 ⟨mU 4 O O,aU fun _ _ H K=>R.lssN (i) (256) (eU K 5 O) (kI 256 O) H,Zt⟩ O O O O (tU O ?_)
 refine W.condD O (fun hc6=>?_) (fun hc6=>?_)
 · refine W.skip (W.seq (W.block ?_))
   refine W.l0 14 [.y 9 _,.y 10 _,.y 11 _,.y 12 _,.y 13 _,.y 14 _,.y 15 _,.y 16 _,.y 17 _,.y 18 _,.y 19 _,.y 20 _,.y 21 _,.y 3 _] [(12,3),(13,21),(13,9)] [(12,3),(13,21)] [(1,_),(2,_),(3,_),(4,_)] [(2,.var _),(1,.var _)] 24 ⟨aU fun _ _ H K=>R.al (K 3 _ O) H dU,mU 4 O O,aU fun _ _ H K=>R.quoN (i) (8) (eU K 10 O) (kI 8 O) bU bU H,aU fun _ _ H K=>R.idxP ((i / 8)) (K 1 _ O) (evoI (eU K 11 O)) O bU H,aU fun _ B H K=>R.ldP (K 12 _ O) (B 1 _ O) (loc_arr (map_get! (l:=h) bU) loc_nil bU) O O O H,mU 4 O O,aU fun _ _ H K=>R.remN (i) (8) (eU K 14 O) (kI 8 O) bU H,aU fun _ _ H K=>R.conv (eU K 15 O) O H,aU fun _ _ H K=>R.binE (d:=.u8 (shr_u8 h[i / 8]! (i % 8))) (eU K 13 O) (eU K 16 O) O bV (congrArg D.u8 (shr8_of _ _ (by omega))) H,aU fun _ _ H K=>R.bin (eU K 17 O) (show ev _ _ (.const (.int .u8 1)) = some (.u8 1) from O) O Zt H,aU fun _ _ H K=>R.conv (eU K 18 O) O H,aU fun _ _ H K=>R.bslE (z:=1) (.cons (eU K 19 O) .nil) ⟨⟨O,O,O⟩,Zt⟩ O H dU,aU fun _ _ H K=>R.appE (Or.inr (K 9 _ O)) (K 3 _ O) (SrcO.sc (SC.sl (K 20 _ O)) (pur_lit O)) (show _ = ((ofHL h (i + 1)).map natD) from (by rw [ofHL_succ,List.map_append]; rfl)) bU H dU dU,aU fun _ _ H K=>R.asgO (K 21 _ O) O H dU,Zt⟩ O O O O (tU O ?_)
   refine W.l0 3 [.y 7 _,.y 8 _,.y 4 _] [] [] [(1,_),(2,_),(3,_),(4,_)] [(2,.var _),(1,.var _)] 24 ⟨mU 4 O O,aU fun _ _ H K=>R.addN (i) (1) (eU K 7 O) (kI 1 O) bU H,aU fun _ _ H K=>R.asg (eU K 8 O) O H,Zt⟩ O O O O (tU O ?_)
   exact ⟨⟨(i + 1),bU⟩,rfl,(by simp only []; omega)⟩
 · obtain rfl : i = 256:=by omega
   refine W.exit (W.seq ?_)
   refine W.l0 3 [.y 22 _,.y 23 _] [] [] [(2,_),(23,_)] [(2,.var _),(1,.var _)] 24 ⟨aU fun _ _ H K=>R.al (K 3 _ O) H dU,aU fun _ _ H K=>R.callG hC (bfrom_ok (ofHL h 256) (by rw [ofHL_len]; decide)) (Bc (Bor.sc (SC.al (K 22 _ O) (K 3 _ O)) (brw_map (fun _=>rfl))) Bn) (FrsR.one (frs_bg _)) H,Zt⟩ O O O O (⟨O,_,R.stZ (gU 2 O) (xU 2 O) O (gV 23 O) (by rfl) (by rfl) (by rfl) (by rfl) O,tV [(2,_)] [(2,.var _),(1,.var _)] 24 O O O ?_⟩)
   refine W.ret ?_
   exact Ends.one' (.inr O) O (by rw [ofHS]) O O (show LdT _ 139 4 true from inferInstance)
theorem nbits_ok (a : Bg) (ha : a.length = 4) : Fn Tryd.prog gl 85 [bgD a] (.int ((nbS a : Nat) : Int)):=by
 refine Fn.of (n:=16) Tryd.func85 rfl rfl rfl (nU rfl) fun C hC hD=>?_
 refine W.seq ?_
 refine W.l0 2 [] [] [] [(0,_)] [] 16 Zt O O O O (⟨O,_,R.box (gV 0 O) O O (nU O),⟨O,_,R.asg (kI 0 O) O (nU O),tV [(1,_)] [(1,.var _)] 16 O O O ?_⟩⟩)
 refine W.seq ?_
 refine W.l0 1 [.y 3 _] [] [] [(1,_),(3,_)] [(1,.var _)] 16 ⟨aU fun _ _ H _=>R.asg (kI 0 O) O H,Zt⟩ O O O O (tU O ?_)
 refine W.seq (W.seq ?_)
 refine W.l0 1 [.y 4 _] [] [] [(1,_),(3,_),(4,_)] [(1,.var _)] 16 ⟨aU fun _ _ H _=>R.asg (kI 0 O) O H,Zt⟩ O O O O (tU O ?_)
 refine W.block ?_
 refine W.loop (α:={q__ : Nat // q__ <= 256}) (fun q__=>⟨16,[(1,.ptr 1 0 []),(3,.int ((nbI a q__.1 : Nat) : Int)),(4,.int ((q__.1 : Nat) : Int))],[(1,.var (bgD a))]⟩) (fun q__=>256 - q__.1) ⟨(0),bU⟩ O ?_
 rintro ⟨i,hi⟩
 show W _ _ _ _ ⟨16,[(1,.ptr 1 0 []),(3,.int ((nbI a i : Nat) : Int)),(4,.int ((i : Nat) : Int))],[(1,.var (bgD a))]⟩
 have hi : i <= 256:=hi
 have hnl:=nbI_le a i
 refine W.seq (W.seq ?_)
 refine W.l0 2 [.y 5 _,.y 6 _] [] [] [(1,_),(3,_),(4,_),(6,_)] [(1,.var _)] 16 ⟨mU 4 O O,aU fun _ _ H K=>R.lssN (i) (256) (eU K 5 O) (kI 256 O) H,Zt⟩ O O O O (tU O ?_)
 refine W.condD O (fun hc6=>?_) (fun hc6=>?_)
 · refine W.skip (W.seq (W.block (W.seq ?_)))
   refine W.l0 4 [.y 9 _,.y 10 _,.y 11 _,.y 12 _] [] [] [(1,_),(3,_),(4,_),(12,_)] [(1,.var _)] 16 ⟨aU (lU 1 O O O O O O O),mU 4 O O,aU fun _ _ H K=>R.callG hC (bit_ok a i ha (by omega)) (Bc (Bp (eU K 9 O) O O) (Bc (Bp (eU K 10 O) O O) Bn)) (FrsR.one (.int _)) H,aU fun _ _ H K=>R.eqlN (bitS a i) (1) (eU K 11 O) (kI 1 O) H,Zt⟩ O O O O (tU O ?_)
   refine W.condD O (fun hc12=>?_) (fun hc12=>?_)
   · refine W.l0 3 [.y 13 _,.y 14 _,.y 3 _] [] [] [(1,_),(3,_),(4,_)] [(1,.var _)] 16 ⟨mU 4 O O,aU fun _ _ H K=>R.addN (i) (1) (eU K 13 O) (kI 1 O) bU H,aU fun _ _ H K=>R.asg (eU K 14 O) O H,Zt⟩ O O O O (tU O ?_)
     refine W.l0 3 [.y 7 _,.y 8 _,.y 4 _] [] [] [(1,_),(3,_),(4,_)] [(1,.var _)] 16 ⟨mU 4 O O,aU fun _ _ H K=>R.addN (i) (1) (eU K 7 O) (kI 1 O) bU H,aU fun _ _ H K=>R.asg (eU K 8 O) O H,Zt⟩ O O O O (tU O ?_)
     exact ⟨⟨(i + 1),bU⟩,(by first | (rw [nbI_t hc12] <;> rfl) | (rw [nbI_f hc12] <;> rfl)),(by simp only []; omega)⟩
   · refine W.skip ?_
     refine W.l0 3 [.y 7 _,.y 8 _,.y 4 _] [] [] [(1,_),(3,_),(4,_)] [(1,.var _)] 16 ⟨mU 4 O O,aU fun _ _ H K=>R.addN (i) (1) (eU K 7 O) (kI 1 O) bU H,aU fun _ _ H K=>R.asg (eU K 8 O) O H,Zt⟩ O O O O (tU O ?_)
     exact ⟨⟨(i + 1),bU⟩,(by first | (rw [nbI_t hc12] <;> rfl) | (rw [nbI_f hc12] <;> rfl)),(by simp only []; omega)⟩
 · obtain rfl : i = 256:=by omega
   refine W.exit (W.seq ?_)
   refine W.l0 2 [.y 15 _,.y 2 _] [] [] [(2,_)] [(1,.var _)] 16 ⟨mU 3 O O,aU fun _ _ H K=>R.asg (eU K 15 O) O H,Zt⟩ O O O O (tU O ?_)
   refine W.ret ?_
   exact Ends.one' (.inr O) O (by rw [nbS]) O O Zt
end Go.Sx

namespace Go.Sx
open Go.Proofs
theorem eqv_bg (a b : Bg) : EqV Tryd.prog 2 139 (bgD a) (bgD b) (a == b):=EqV.arr64 a b
end Go.Sx

namespace Go.Sx
open Go.Proofs
theorem bless_ok (a b : Bg) (ha : a.length = 4) (hlb : b.length = 4) : Fn Tryd.prog gl 86 [bgD a,bgD b] (.bool (lessS a b)):=by
 refine Fn.of (n:=24) Tryd.func86 rfl rfl rfl (nU rfl) fun C hC hD=>?_
 refine W.seq ?_
 refine W.l0 3 [] [] [] [(0,_),(1,_)] [] 24 Zt O O O O (⟨O,_,R.box (gV 0 O) O O (nU O),⟨O,_,R.box (gV 1 O) O O (nU O),⟨O,_,R.asg (kB false O) O (nU O),tV [(2,_),(3,_)] [(3,.var _),(2,.var _)] 24 O O O ?_⟩⟩⟩)
 refine W.seq (W.seq ?_)
 refine W.l0 1 [.y 5 _] [] [] [(2,_),(3,_),(5,_)] [(3,.var _),(2,.var _)] 24 ⟨aU fun _ _ H _=>R.asg (kI 255 O) O H,Zt⟩ O O O O (tU O ?_)
 refine W.block ?_
 refine W.loop (α:={q__ : Nat // q__ <= 256 /\ lessI a b (256 - q__) = lessI a b 256}) (fun q__=>⟨24,[(2,.ptr 2 0 []),(3,.ptr 3 0 []),(5,.int ((255 : Int) - ((q__.1 : Nat) : Int)))],[(3,.var (bgD b)),(2,.var (bgD a))]⟩) (fun q__=>256 - q__.1) ⟨(0),⟨Nat.zero_le _,by rw [Nat.sub_zero]⟩⟩ O ?_
 rintro ⟨k,⟨hk,hle⟩⟩
 show W _ _ _ _ ⟨24,[(2,.ptr 2 0 []),(3,.ptr 3 0 []),(5,.int ((255 : Int) - ((k : Nat) : Int)))],[(3,.var (bgD b)),(2,.var (bgD a))]⟩
 have hk : k <= 256:=hk
 have hle : lessI a b (256 - k) = lessI a b 256:=hle
 refine W.seq (W.seq ?_)
 refine W.l0 2 [.y 6 _,.y 7 _] [] [] [(2,_),(3,_),(5,_),(7,_)] [(3,.var _),(2,.var _)] 24 ⟨mU 5 O O,aU fun _ _ H K=>R.bin (eU K 6 O) (kI 0 O) O Zt H,Zt⟩ O O O O (tU O ?_)
 refine W.cond O (fun hc7=>?_) (fun hc7=>?_)
 · refine W.skip (W.seq (W.block (W.seq ?_)))
   have h7:=of_decide_eq_true hc7
   rw [show (255 : Int) - ((k : Nat) : Int) = ((255 - k : Nat) : Int) by omega]
   refine W.draw (m:=7) (an:=[0,0,3,0,0,31,63]) hP dU O (its:=[.y 10 _,.y 11 _,.y 12 _,.y 13 _,.y 14 _,.y 15 _,.y 16 _]) (ks:=[]) (kk:=[]) (live:=[2,3,5,16]) (env':=[(2,_),(3,_),(5,_),(16,_)]) (⟨nU O,O,⟨aU (lU 2 O O O O O O O),mU 5 O O,aU fun _ _ H K=>R.callG hC (bit_ok a (255 - k) ha (by omega)) (Bc (Bp (eU K 10 O) O O) (Bc (Bp (eU K 11 O) O O) Bn)) (FrsR.one (.int _)) H,aU (lU 3 O O O O O O O),mU 5 O O,aU fun _ _ H K=>R.callG hC (bit_ok b (255 - k) hlb (by omega)) (Bc (Bp (eU K 13 O) O O) (Bc (Bp (eU K 14 O) O O) Bn)) (FrsR.one (.int _)) H,aU fun _ _ H K=>R.neqN (bitS a (255 - k)) (bitS b (255 - k)) (eU K 12 O) (eU K 15 O) H,Zt⟩,O,O,O⟩) O (bx':=[(3,.var _),(2,.var _)]) O (n':=24) O (tV [(2,_),(3,_),(5,_),(16,_)] [(3,.var _),(2,.var _)] 24 O O O ?_)
   refine W.condD O (fun hc16=>?_) (fun hc16=>?_)
   · refine W.seq ?_
     refine W.draw (m:=8) (an:=[0,0,3,0,0,31,63,127]) hP dU O (its:=[.y 17 _,.y 18 _,.y 19 _,.y 20 _,.y 21 _,.y 22 _,.y 23 _,.y 4 _]) (ks:=[]) (kk:=[]) (live:=[4]) (env':=[(4,_)]) (⟨nU O,O,⟨aU (lU 2 O O O O O O O),mU 5 O O,aU fun _ _ H K=>R.callG hC (bit_ok a (255 - k) ha (by omega)) (Bc (Bp (eU K 17 O) O O) (Bc (Bp (eU K 18 O) O O) Bn)) (FrsR.one (.int _)) H,aU (lU 3 O O O O O O O),mU 5 O O,aU fun _ _ H K=>R.callG hC (bit_ok b (255 - k) hlb (by omega)) (Bc (Bp (eU K 20 O) O O) (Bc (Bp (eU K 21 O) O O) Bn)) (FrsR.one (.int _)) H,aU fun _ _ H K=>R.lssN (bitS a (255 - k)) (bitS b (255 - k)) (eU K 19 O) (eU K 22 O) H,aU fun _ _ H K=>R.asg (eU K 23 O) O H,Zt⟩,O,O,O⟩) O (bx':=[(3,.var _),(2,.var _)]) O (n':=24) O (tV [(4,_)] [(3,.var _),(2,.var _)] 24 O O O ?_)
     refine W.ret ?_
     exact Ends.one' (.inr O) O (by rw [lessS,<- hle,show 256 - k = 255 - k + 1 by omega,lessI_t hc16]) O O Zt
   · refine W.skip ?_
     refine W.l0 3 [.y 8 _,.y 9 _,.y 5 _] [] [] [(2,_),(3,_),(5,_)] [(3,.var _),(2,.var _)] 24 ⟨mU 5 O O,aU fun _ _ H K=>R.binE (d:=.int ((255 : Int) - ((k + 1 : Nat) : Int))) (eU K 8 O) (kI 1 O) O Zt (wr_eq (by omega) (by omega) (by omega)) H,aU fun _ _ H K=>R.asg (eU K 9 O) O H,Zt⟩ O O O O (tU O ?_)
     exact ⟨⟨(k + 1),⟨by omega,by rw [<- hle,show 256 - k = 255 - k + 1 by omega,lessI_f hc16,show 256 - (k + 1) = 255 - k by omega]⟩⟩,rfl,(by simp only []; omega)⟩
 · have h7:=of_decide_eq_false hc7
   obtain rfl : k = 256:=by omega
   refine W.exit (W.seq ?_)
   refine W.l0 1 [.y 4 _] [] [] [(4,_)] [(3,.var _),(2,.var _)] 24 ⟨aU fun _ _ H _=>R.asg (kB false O) O H,Zt⟩ O O O O (tU O ?_)
   refine W.ret ?_
   exact Ends.one' (.inr O) O (by rw [lessS,<- hle,Nat.sub_self,lessI]) O O Zt
theorem bmul_ok (a : Bg) (n : UInt64) (ha : a.length = 4) : Fn Tryd.prog gl 102 [bgD a,.u64 n] (.tup [bgD (bMul a n),.u64 (bMulO a n)]):=by
 refine Fn.of (n:=66) Tryd.func102 rfl rfl rfl (nU rfl) fun C hC hD=>?_
 refine W.seq ?_
 refine W.l0 3 [] [] [] [(0,_),(1,_)] [] 66 Zt O O O O (⟨O,_,R.box (gV 0 O) O O (nU O),⟨O,_,R.alloc O (nU O),⟨O,_,R.asg (show ev _ _ (.const (.int .u64 0)) = some (.u64 0) from O) O (nU O),tV [(1,_),(2,_),(4,_)] [(4,.var _),(2,.var _)] 66 O O O ?_⟩⟩⟩)
 refine W.seq ?_
 refine W.l0 2 [.y 13 _,.y 6 _] [(1,13)] [(1,13)] [(1,_),(2,_),(4,_),(6,_)] [(4,.var _),(2,.var _)] 66 ⟨aU fun _ _ H _=>R.mk (n:=320) (kI 320 O) (kI 320 O) bU dU H,aU fun _ _ H K=>R.asgO (K 13 _ O) O H dU,Zt⟩ O O O O (tU O ?_)
 refine W.seq (W.seq ?_)
 refine W.l0 1 [.y 7 _] [] [] [(1,_),(2,_),(4,_),(6,_),(7,_)] [(4,.var _),(2,.var _)] 66 ⟨aU fun _ _ H _=>R.asg (kI 0 O) O H,Zt⟩ O O O O (tU O ?_)
 refine W.block ?_
 refine W.loop (α:={q__ : Nat // q__ <= 64}) (fun q__=>⟨66,[(1,.u64 n),(2,.ptr 2 0 []),(4,.ptr 4 0 []),(6,.sl (some 3) 1 ((mulI a n q__.1).map natD)),(7,.int ((q__.1 : Nat) : Int))],[(4,.var (bgD zeroB)),(2,.var (bgD a))]⟩) (fun q__=>64 - q__.1) ⟨(0),bU⟩ (by rw [mulI_0,zl]; rfl) ?_
 rintro ⟨k,hk⟩
 show W _ _ _ _ ⟨66,[(1,.u64 n),(2,.ptr 2 0 []),(4,.ptr 4 0 []),(6,.sl (some 3) 1 ((mulI a n k).map natD)),(7,.int ((k : Nat) : Int))],[(4,.var (bgD zeroB)),(2,.var (bgD a))]⟩
 have hk : k <= 64:=hk
 have hml:=mulI_len a n k
 have hmb:=mulI_bit a n k
 refine W.seq (W.seq ?_)
 refine W.l0 2 [.y 14 _,.y 15 _] [] [] [(1,_),(2,_),(4,_),(6,_),(7,_),(15,_)] [(4,.var _),(2,.var _)] 66 ⟨mU 7 O O,aU fun _ _ H K=>R.lssN (k) (64) (eU K 14 O) (kI 64 O) H,Zt⟩ O O O O (tU O ?_)
 refine W.condD O (fun hc15=>?_) (fun hc15=>?_)
 · refine W.skip (W.seq (W.block (W.seq (W.seq ?_))))
   refine W.l0 6 [.y 18 _,.y 19 _,.y 20 _,.y 21 _,.y 22 _,.y 23 _] [] [] [(1,_),(2,_),(4,_),(6,_),(7,_),(23,_)] [(4,.var _),(2,.var _)] 66 ⟨mU 1 O O,mU 7 O O,aU fun _ _ H K=>R.conv (eU K 19 O) O H,aU fun _ _ H K=>R.binE (d:=.u64 (shr_u64 n k)) (eU K 18 O) (eU K 20 O) O bV (congrArg D.u64 (shr_of _ _ (by omega))) H,aU fun _ _ H K=>R.bin (eU K 21 O) (show ev _ _ (.const (.int .u64 1)) = some (.u64 1) from O) O Zt H,aU fun _ _ H K=>R.bin (eU K 22 O) (show ev _ _ (.const (.int .u64 0)) = some (.u64 0) from O) O Zt H,Zt⟩ O O O O (tU O ?_)
   refine W.cond O (fun hc23=>?_) (fun hc23=>?_)
   · refine W.exit ?_
     refine W.l0 3 [.y 16 _,.y 17 _,.y 7 _] [] [] [(1,_),(2,_),(4,_),(6,_),(7,_)] [(4,.var _),(2,.var _)] 66 ⟨mU 7 O O,aU fun _ _ H K=>R.addN (k) (1) (eU K 16 O) (kI 1 O) bU H,aU fun _ _ H K=>R.asg (eU K 17 O) O H,Zt⟩ O O O O (tU O ?_)
     exact ⟨⟨(k + 1),bU⟩,(by first | (rw [mulI_f (eq_of_beq hc23)] <;> rfl) | (rw [mulI_t (ne_of_beq_false hc23)] <;> rfl)),(by simp only []; omega)⟩
   · refine W.skip (W.seq ?_)
     refine W.l0 1 [.y 8 _] [] [] [(1,_),(2,_),(4,_),(6,_),(7,_),(8,_)] [(4,.var _),(2,.var _)] 66 ⟨aU fun _ _ H _=>R.asg (kI 0 O) O H,Zt⟩ O O O O (tU O ?_)
     refine W.seq ?_
     refine W.l0 2 [.y 24 _,.y 9 _] [] [] [(1,_),(2,_),(4,_),(6,_),(7,_),(8,_),(9,_)] [(4,.var _),(2,.var _)] 66 ⟨mU 7 O O,aU fun _ _ H K=>R.asg (eU K 24 O) O H,Zt⟩ O O O O (tU O ?_)
     refine W.block ?_
     refine W.loop (α:={q__ : Nat // q__ <= 320 - k}) (fun q__=>⟨66,[(1,.u64 n),(2,.ptr 2 0 []),(4,.ptr 4 0 []),(6,.sl (some 3) 1 ((mulJM a k (mulI a n k) q__.1).1.map natD)),(7,.int ((k : Nat) : Int)),(8,.int (((mulJM a k (mulI a n k) q__.1).2 : Nat) : Int)),(9,.int (((k + q__.1) : Nat) : Int))],[(4,.var (bgD zeroB)),(2,.var (bgD a))]⟩) (fun q__=>320 - k - q__.1) ⟨(0),bU⟩ (by rw [mulJ_0] <;> rfl) ?_
     rintro ⟨j,hj⟩
     show W _ _ _ _ ⟨66,[(1,.u64 n),(2,.ptr 2 0 []),(4,.ptr 4 0 []),(6,.sl (some 3) 1 ((mulJM a k (mulI a n k) j).1.map natD)),(7,.int ((k : Nat) : Int)),(8,.int (((mulJM a k (mulI a n k) j).2 : Nat) : Int)),(9,.int (((k + j) : Nat) : Int))],[(4,.var (bgD zeroB)),(2,.var (bgD a))]⟩
     have hj : j <= 320 - k:=hj
     have hjl:=mulJM_len a k (mulI a n k) j
     have hjb:=mulJM_bit a k _ hmb j
     have hj1:=hjb.1.get (k + j)
     have hj2:=hjb.2
     have hj3:=bitS_le a j
     have hj4:=mulJ_2 a k (mulI a n k) j
     refine W.seq (W.seq ?_)
     refine W.l0 2 [.y 25 _,.y 26 _] [] [] [(1,_),(2,_),(4,_),(6,_),(7,_),(8,_),(9,_),(26,_)] [(4,.var _),(2,.var _)] 66 ⟨mU 9 O O,aU fun _ _ H K=>R.lssN ((k + j)) (320) (eU K 25 O) (kI 320 O) H,Zt⟩ O O O O (tU O ?_)
     refine W.condD O (fun hc26=>?_) (fun hc26=>?_)
     · refine W.skip (W.seq (W.block (W.seq ?_)))
       refine W.draw (m:=13) (an:=[0,0,3,7,0,0,0,96,240,511,0,2047,4095]) hP dU O (its:=[.y 29 _,.y 30 _,.y 31 _,.y 32 _,.y 33 _,.y 34 _,.y 35 _,.y 36 _,.y 37 _,.y 38 _,.y 39 _,.y 40 _,.y 10 _]) (ks:=[]) (kk:=[]) (live:=[1,2,4,6,7,9,10]) (env':=[(1,_),(2,_),(4,_),(6,_),(7,_),(9,_),(10,_)]) (⟨nU O,O,⟨aU fun _ _ H K=>R.al (K 6 _ O) H dU,mU 9 O O,aU fun _ _ H K=>R.idxN ((k + j)) (SC.al (K 29 _ O) (K 6 _ O)) (evoI (eU K 30 O)) O bU H dU,aU fun _ _ H K=>R.ldE (K 31 _ O) (SC.al (K 29 _ O) (K 6 _ O)) (map_get! (l:=(mulJM a k (mulI a n k) j).1) bU) O O O O H,aU (lU 2 O O O O O O O),mU 9 O O,mU 7 O O,aU fun _ _ H K=>R.binE (d:=.int ((j : Nat) : Int)) (eU K 34 O) (eU K 35 O) O Zt (wr_eq (by omega) (by omega) (by omega)) H,aU fun _ _ H K=>R.callG hC (bit_ok a j ha (by omega)) (Bc (Bp (eU K 33 O) O O) (Bc (Bp (eU K 36 O) O O) Bn)) (FrsR.one (.int _)) H,aU fun _ _ H K=>R.addN (((mulJM a k (mulI a n k) j).1)[(k + j)]!) (bitS a j) (eU K 32 O) (eU K 37 O) bU H,mU 8 O O,aU fun _ _ H K=>R.addN ((((mulJM a k (mulI a n k) j).1)[(k + j)]! + bitS a j)) ((mulJM a k (mulI a n k) j).2) (eU K 38 O) (eU K 39 O) bU H,aU fun _ _ H K=>R.asg (eU K 40 O) O H,Zt⟩,O,O,O⟩) O (bx':=[(4,.var _),(2,.var _)]) O (n':=66) O (tV [(1,_),(2,_),(4,_),(6,_),(7,_),(9,_),(10,_)] [(4,.var _),(2,.var _)] 66 O O O ?_)
       refine W.seq ?_
       refine W.l0 6 [.y 41 _,.y 42 _,.y 43 _,.y 44 _,.y 45 _] [] [] [(1,_),(2,_),(4,_),(6,_),(7,_),(9,_),(10,_),(41,_),(44,_),(45,_)] [(4,.var _),(2,.var _)] 66 ⟨aU fun _ _ H K=>R.al (K 6 _ O) H dU,mU 9 O O,mU 10 O O,aU fun _ _ H K=>R.remN (((((mulJM a k (mulI a n k) j).1)[(k + j)]! + bitS a j) + (mulJM a k (mulI a n k) j).2)) (2) (eU K 43 O) (kI 2 O) bU H,aU fun _ _ H K=>R.idxN ((k + j)) (SC.al (K 41 _ O) (K 6 _ O)) (evoI (eU K 42 O)) O bU H dU,Zt⟩ O O O O (⟨O,_,R.stEY (gU 45 O) (Or.inr (gU 41 O)) (gU 6 O) (map_get! (l:=(mulJM a k (mulI a n k) j).1) bU) O (gV 44 O) (by rfl) (by rfl) (by rfl) (by rfl) upd_nil set_map,tV [(1,_),(2,_),(4,_),(6,_),(7,_),(9,_),(10,_)] [(4,.var _),(2,.var _)] 66 O O O ?_⟩)
       refine W.l0 3 [.y 46 _,.y 47 _,.y 8 _] [] [] [(1,_),(2,_),(4,_),(6,_),(7,_),(8,_),(9,_)] [(4,.var _),(2,.var _)] 66 ⟨mU 10 O O,aU fun _ _ H K=>R.quoN (((((mulJM a k (mulI a n k) j).1)[(k + j)]! + bitS a j) + (mulJM a k (mulI a n k) j).2)) (2) (eU K 46 O) (kI 2 O) bU bU H,aU fun _ _ H K=>R.asg (eU K 47 O) O H,Zt⟩ O O O O (tU O ?_)
       refine W.l0 3 [.y 27 _,.y 28 _,.y 9 _] [] [] [(1,_),(2,_),(4,_),(6,_),(7,_),(8,_),(9,_)] [(4,.var _),(2,.var _)] 66 ⟨mU 9 O O,aU fun _ _ H K=>R.addN ((k + j)) (1) (eU K 27 O) (kI 1 O) bU H,aU fun _ _ H K=>R.asg (eU K 28 O) O H,Zt⟩ O O O O (tU O ?_)
       exact ⟨⟨(j + 1),bU⟩,(by rw [hj4] <;> rfl),(by simp only []; omega)⟩
     · obtain rfl : j = 320 - k:=by omega
       refine W.exit ?_
       refine W.l0 3 [.y 16 _,.y 17 _,.y 7 _] [] [] [(1,_),(2,_),(4,_),(6,_),(7,_)] [(4,.var _),(2,.var _)] 66 ⟨mU 7 O O,aU fun _ _ H K=>R.addN (k) (1) (eU K 16 O) (kI 1 O) bU H,aU fun _ _ H K=>R.asg (eU K 17 O) O H,Zt⟩ O O O O (tU O ?_)
       exact ⟨⟨(k + 1),bU⟩,(by first | (rw [mulI_f (eq_of_beq hc23)] <;> rfl) | (rw [mulI_t (ne_of_beq_false hc23)] <;> rfl)),(by simp only []; omega)⟩
 · obtain rfl : k = 64:=by omega
   refine W.exit (W.seq ?_)
   refine W.l0 1 [.y 11 _] [] [] [(4,_),(6,_),(11,_)] [(4,.var _),(2,.var _)] 66 ⟨aU fun _ _ H _=>R.asg (show ev _ _ (.const (.int .u64 0)) = some (.u64 0) from O) O H,Zt⟩ O O O O (tU O ?_)
   refine W.seq (W.seq ?_)
   refine W.l0 1 [.y 12 _] [] [] [(4,_),(6,_),(11,_),(12,_)] [(4,.var _),(2,.var _)] 66 ⟨aU fun _ _ H _=>R.asg (kI 0 O) O H,Zt⟩ O O O O (tU O ?_)
   refine W.block ?_
   refine W.loop (α:={q__ : Nat // q__ <= 64}) (fun q__=>⟨66,[(4,.ptr 4 0 []),(6,.sl (some 3) 1 ((mulI a n 64).map natD)),(11,.u64 (overI (mulI a n 64) q__.1)),(12,.int ((q__.1 : Nat) : Int))],[(4,.var (bgD zeroB)),(2,.var (bgD a))]⟩) (fun q__=>64 - q__.1) ⟨(0),bU⟩ O ?_
   rintro ⟨k,hk⟩
   show W _ _ _ _ ⟨66,[(4,.ptr 4 0 []),(6,.sl (some 3) 1 ((mulI a n 64).map natD)),(11,.u64 (overI (mulI a n 64) k)),(12,.int ((k : Nat) : Int))],[(4,.var (bgD zeroB)),(2,.var (bgD a))]⟩
   have hk : k <= 64:=hk
   have hml:=mulI_len a n 64
   refine W.seq (W.seq ?_)
   refine W.l0 2 [.y 48 _,.y 49 _] [] [] [(4,_),(6,_),(11,_),(12,_),(49,_)] [(4,.var _),(2,.var _)] 66 ⟨mU 12 O O,aU fun _ _ H K=>R.lssN (k) (64) (eU K 48 O) (kI 64 O) H,Zt⟩ O O O O (tU O ?_)
   refine W.condD O (fun hc49=>?_) (fun hc49=>?_)
   · refine W.skip (W.seq (W.block ?_))
     refine W.l0 12 [.y 52 _,.y 53 _,.y 54 _,.y 55 _,.y 56 _,.y 57 _,.y 58 _,.y 59 _,.y 60 _,.y 61 _,.y 62 _,.y 11 _] [] [] [(4,_),(6,_),(11,_),(12,_)] [(4,.var _),(2,.var _)] 66 ⟨mU 11 O O,aU fun _ _ H K=>R.al (K 6 _ O) H dU,mU 12 O O,aU fun _ _ H K=>R.addN (256) (k) (kI 256 O) (eU K 54 O) bU H,aU fun _ _ H K=>R.idxN ((256 + k)) (SC.al (K 53 _ O) (K 6 _ O)) (evoI (eU K 55 O)) O bU H dU,aU fun _ _ H K=>R.ldE (K 56 _ O) (SC.al (K 53 _ O) (K 6 _ O)) (map_get! (l:=(mulI a n 64)) bU) O O O O H,aU fun _ _ H K=>R.conv (eU K 57 O) O H,mU 12 O O,aU fun _ _ H K=>R.conv (eU K 59 O) O H,aU fun _ _ H K=>R.binE (d:=.u64 (shl_u64 (UInt64.ofInt (((mulI a n 64)[256 + k]! : Nat) : Int)) k)) (eU K 58 O) (eU K 60 O) O bV (congrArg D.u64 (shl_of _ _ (by omega))) H,aU fun _ _ H K=>R.bin (eU K 52 O) (eU K 61 O) O Zt H,aU fun _ _ H K=>R.asg (eU K 62 O) O H,Zt⟩ O O O O (tU O ?_)
     refine W.l0 3 [.y 50 _,.y 51 _,.y 12 _] [] [] [(4,_),(6,_),(11,_),(12,_)] [(4,.var _),(2,.var _)] 66 ⟨mU 12 O O,aU fun _ _ H K=>R.addN (k) (1) (eU K 50 O) (kI 1 O) bU H,aU fun _ _ H K=>R.asg (eU K 51 O) O H,Zt⟩ O O O O (tU O ?_)
     exact ⟨⟨(k + 1),bU⟩,rfl,(by simp only []; omega)⟩
   · obtain rfl : k = 64:=by omega
     refine W.exit (W.seq ?_)
     refine W.l0 5 [.y 63 _,.y 64 _,.y 65 _] [] [] [(4,_),(64,_),(65,_)] [(4,.var _),(2,.var _)] 66 ⟨aU fun _ _ H K=>R.al (K 6 _ O) H dU,aU fun _ _ H K=>R.callG hC (bfrom_ok (mulI a n 64) (by rw [mulI_len]; decide)) (Bc (Bor.sc (SC.al (K 63 _ O) (K 6 _ O)) (brw_map (fun _=>rfl))) Bn) (FrsR.one (frs_bg _)) H,mU 11 O O,Zt⟩ O O O O (⟨O,_,R.stZ (gU 4 O) (xU 4 O) O (gV 64 O) (by rfl) (by rfl) (by rfl) (by rfl) O,⟨O,_,R.asg (gV 65 O) O (nU O),tV [(4,_),(5,_)] [(4,.var _),(2,.var _)] 66 O O O ?_⟩⟩)
     refine W.ret ?_
     exact Ends.many (.inr O) (.cons O O O (show LdT _ 139 4 true from inferInstance) (.cons O O O Zt .nil)) (by rw [bMul,bMulO]) (show [(4,false),(5,true)].Nodup by decide)
end Go.Sx

namespace Go.Sx
open Go.Proofs
theorem bdiv_ok (a b : Bg) (ha : a.length = 4) (hlb : b.length = 4) : Fn Tryd.prog gl 101 [bgD a,bgD b] (.tup [bgD (divQ a b),bgD (divR a b),.int ((divE b : Nat) : Int)]):=by
 refine Fn.of (n:=54) Tryd.func101 rfl rfl rfl (nU rfl) fun C hC hD=>?_
 refine W.seq ?_
 refine W.l0 5 [] [] [] [(0,_),(1,_)] [] 54 Zt O O O O (⟨O,_,R.box (gV 0 O) O O (nU O),⟨O,_,R.box (gV 1 O) O O (nU O),⟨O,_,R.alloc O (nU O),⟨O,_,R.alloc O (nU O),⟨O,_,R.asg (kI 0 O) O (nU O),tV [(2,_),(3,_),(4,_),(5,_)] [(5,.var _),(4,.var _),(3,.var _),(2,.var _)] 54 O O O ?_⟩⟩⟩⟩⟩)
 refine W.seq ?_
 refine W.l0 2 [] [] [] [(2,_),(3,_),(4,_),(5,_)] [(5,.var _),(4,.var _),(3,.var _),(2,.var _)] 54 Zt O O O O (⟨O,_,R.alloc O (nU O),⟨O,_,R.alloc O (nU O),tV [(2,_),(3,_),(4,_),(5,_),(7,_),(8,_)] [(8,.var _),(7,.var _),(5,.var _),(4,.var _),(3,.var _),(2,.var _)] 54 O O O ?_⟩⟩)
 refine W.seq (W.seq ?_)
 refine W.l0 3 [.y 12 _,.y 13 _,.y 14 _] [] [] [(2,_),(3,_),(4,_),(5,_),(7,_),(8,_),(14,_)] [(8,.var _),(7,.var _),(5,.var _),(4,.var _),(3,.var _),(2,.var _)] 54 ⟨aU (lU 3 O O O O O O O),aU fun _ _ H _=>R.bldAZ O H,aU fun _ _ H K=>R.eqD (neg:=false) (b':=(b == zeroB)) (eqv_bg _ _) O (eU K 12 O) (eU K 13 O) O O O O (O) H,Zt⟩ O O O O (tU O ?_)
 refine W.cond O (fun hc14=>?_) (fun hc14=>?_)
 · refine W.seq ?_
   refine W.drawE (m:=3) (an:=[0,0,1,7,15]) (its:=[.y 15 _,.y 16 _,⟨56,.dead,true⟩]) (ks:=[(2,56)]) (kk:=[]) (efs:=[(2,[(4,.var _)])]) (live:=[4,5,16]) (env':=[(4,_),(5,_),(16,_)]) (nd:=40) (bx1:=[(4,.var _),(8,.var _),(7,.var _),(5,.var _),(3,.var _),(2,.var _)]) hP dU O ⟨⟨64,O⟩,nU O,O,O,O,O⟩ (        ⟨⟨O,nU O,O,fun _ τ hb ht hτ=>R.ldP (hτ 7 _ O) (hb 7 _ O) O O O O ht⟩,⟨⟨O,nU O,O,fun _ τ hb ht hτ=>R.ldP (hτ 8 _ O) (hb 8 _ O) O O O O ht⟩,⟨⟨O,O,O,(SpE.st (p:=4) (id:=4) O O O (fun τ hτ=>(evt (hτ 15 _ O))) (by rfl) (by rfl) (by rfl) (by rfl) O)⟩,Zt⟩⟩⟩) O O O (n':=54) O (⟨O,_,R.stZ (gU 5 O) (xU 5 O) O (gV 16 O) (by rfl) (by rfl) (by rfl) (by rfl) O,⟨O,_,R.asg (kI 1 O) O (nU O),⟨[4,5,6],[(4,_),(5,_),(6,_)],[(4,.var _),(8,.var _),(7,.var _),(5,.var _),(3,.var _),(2,.var _)],54,O,O,O, ?_⟩⟩⟩)
   refine W.ret ?_
   exact Ends.many (.inr O) (.cons O O O (show LdT _ 139 4 true from inferInstance) (.cons O O O (show LdT _ 139 4 true from inferInstance) (.cons O O O Zt .nil))) (by rw [(div_z (a:=a) hc14).1,(div_z (a:=a) hc14).2.1,(div_z (a:=a) hc14).2.2] <;> rfl) (show [(4,false),(5,false),(6,true)].Nodup by decide)
 · refine W.skip (W.seq ?_)
   refine W.l0 2 [.y 17 _,.y 9 _] [(1,17)] [(1,17)] [(2,_),(3,_),(4,_),(5,_),(8,_),(9,_)] [(8,.var _),(7,.var _),(5,.var _),(4,.var _),(3,.var _),(2,.var _)] 54 ⟨aU fun _ _ H _=>R.mk (n:=256) (kI 256 O) (kI 256 O) bU dU H,aU fun _ _ H K=>R.asgO (K 17 _ O) O H dU,Zt⟩ O O O O (tU O ?_)
   refine W.seq (W.seq ?_)
   refine W.l0 1 [.y 10 _] [] [] [(2,_),(3,_),(4,_),(5,_),(8,_),(9,_),(10,_)] [(8,.var _),(7,.var _),(5,.var _),(4,.var _),(3,.var _),(2,.var _)] 54 ⟨aU fun _ _ H _=>R.asg (kI 255 O) O H,Zt⟩ O O O O (tU O ?_)
   refine W.block ?_
   refine W.loop (α:={q__ : Nat × List Nat × Bg // q__.1 <= 256 /\ divI a b q__.1 = (q__.2.1,q__.2.2)}) (fun q__=>⟨54,[(2,.ptr 2 0 []),(3,.ptr 3 0 []),(4,.ptr 4 0 []),(5,.ptr 5 0 []),(8,.ptr 8 0 []),(9,.sl (some 3) 1 (q__.1.2.1.map natD)),(10,.int ((255 : Int) - ((q__.1.1 : Nat) : Int)))],[(8,.var (bgD q__.1.2.2)),(7,.var (bgD zeroB)),(5,.var (bgD zeroB)),(4,.var (bgD zeroB)),(3,.var (bgD b)),(2,.var (bgD a))]⟩) (fun q__=>256 - q__.1.1) ⟨(0,List.replicate 256 0,zeroB),⟨Nat.zero_le _,divI_0 a b⟩⟩ (by rw [zl]; rfl) ?_
   rintro ⟨⟨k,q,r⟩,⟨hk,hq⟩⟩
   show W _ _ _ _ ⟨54,[(2,.ptr 2 0 []),(3,.ptr 3 0 []),(4,.ptr 4 0 []),(5,.ptr 5 0 []),(8,.ptr 8 0 []),(9,.sl (some 3) 1 (q.map natD)),(10,.int ((255 : Int) - ((k : Nat) : Int)))],[(8,.var (bgD r)),(7,.var (bgD zeroB)),(5,.var (bgD zeroB)),(4,.var (bgD zeroB)),(3,.var (bgD b)),(2,.var (bgD a))]⟩
   have hk : k <= 256:=hk
   have hq : divI a b k = (q,r):=hq
   have hql:=(divI_ok hq).1
   have hr:=(divI_ok hq).2
   have hul:=upS_len hr 1
   refine W.seq (W.seq ?_)
   refine W.l0 2 [.y 18 _,.y 19 _] [] [] [(2,_),(3,_),(4,_),(5,_),(8,_),(9,_),(10,_),(19,_)] [(8,.var _),(7,.var _),(5,.var _),(4,.var _),(3,.var _),(2,.var _)] 54 ⟨mU 10 O O,aU fun _ _ H K=>R.bin (eU K 18 O) (kI 0 O) O Zt H,Zt⟩ O O O O (tU O ?_)
   refine W.cond O (fun hc19=>?_) (fun hc19=>?_)
   · refine W.skip (W.seq (W.block (W.seq ?_)))
     refine W.l0 3 [.y 22 _,.y 23 _,.y 11 _] [] [] [(2,_),(3,_),(4,_),(5,_),(8,_),(9,_),(10,_),(11,_)] [(8,.var _),(7,.var _),(5,.var _),(4,.var _),(3,.var _),(2,.var _)] 54 ⟨aU (lU 8 O O O O O O O),aU fun _ _ H K=>R.callG hC (bit_ok r 255 hr (by omega)) (Bc (Bp (eU K 22 O) O O) (Bc (Bp (kI 255 O) O O) Bn)) (FrsR.one (.int _)) H,aU fun _ _ H K=>R.asg (eU K 23 O) O H,Zt⟩ O O O O (tU O ?_)
     refine W.seq ?_
     refine W.l0 3 [.y 24 _,.y 25 _] [] [] [(2,_),(3,_),(4,_),(5,_),(8,_),(9,_),(10,_),(11,_),(25,_)] [(8,.var _),(7,.var _),(5,.var _),(4,.var _),(3,.var _),(2,.var _)] 54 ⟨aU (lU 8 O O O O O O O),aU fun _ _ H K=>R.callG hC (bup_ok r 1 hr dU) (Bc (Bp (eU K 24 O) O O) (Bc (Bp (kI 1 O) O O) Bn)) (FrsR.one (frs_bg _)) H,Zt⟩ O O O O (⟨O,_,R.stZ (gU 8 O) (xU 8 O) O (gV 25 O) (by rfl) (by rfl) (by rfl) (by rfl) O,tV [(2,_),(3,_),(4,_),(5,_),(8,_),(9,_),(10,_),(11,_)] [(8,.var _),(7,.var _),(5,.var _),(4,.var _),(3,.var _),(2,.var _)] 54 O O O ?_⟩)
     refine W.seq ?_
     have h7:=of_decide_eq_true hc19
     rw [show (255 : Int) - ((k : Nat) : Int) = ((255 - k : Nat) : Int) by omega]
     refine W.draw (m:=8) (an:=[0,1,0,0,12,28,63,127,255]) hP dU O (its:=[.y 26 _,.y 27 _,.y 28 _,.y 29 _,.y 30 _,.y 31 _,.y 32 _,.y 33 _]) (ks:=[]) (kk:=[]) (live:=[2,3,4,5,8,9,10,11,32,33]) (env':=[(2,_),(3,_),(4,_),(5,_),(8,_),(9,_),(10,_),(11,_),(32,_),(33,_)]) (⟨nU O,O,⟨aU fun _ _ H K=>R.idxP (0) (K 8 _ O) (evoI (kI 0 O)) O bU H,aU fun _ B H K=>R.ldP (K 26 _ O) (B 8 _ O) (loc_arr (map_get! (l:=(upS r 1)) bU) loc_nil bU) O O O H,aU (lU 2 O O O O O O O),mU 10 O O,aU fun _ _ H K=>R.callG hC (bit_ok a (255 - k) ha (by omega)) (Bc (Bp (eU K 28 O) O O) (Bc (Bp (eU K 29 O) O O) Bn)) (FrsR.one (.int _)) H,aU fun _ _ H K=>R.conv (eU K 30 O) O H,aU fun _ _ H K=>R.bin (eU K 27 O) (eU K 31 O) O Zt H,aU fun _ _ H K=>R.idxP (0) (K 8 _ O) (evoI (kI 0 O)) O bU H,Zt⟩,O,O,O⟩) O (bx':=[(8,.var _),(7,.var _),(5,.var _),(4,.var _),(3,.var _),(2,.var _)]) O (n':=54) O (⟨O,_,R.stZ (gU 33 O) (xU 8 O) (loc_arr (map_get! (l:=(upS r 1)) bU) loc_nil bU) (gV 32 O) (by rfl) (by rfl) (by rfl) (by rfl) (upd_arr (map_get! (l:=(upS r 1)) bU) upd_nil set_map),tV [(2,_),(3,_),(4,_),(5,_),(8,_),(9,_),(10,_),(11,_)] [(8,.var _),(7,.var _),(5,.var _),(4,.var _),(3,.var _),(2,.var _)] 54 O O O ?_⟩)
     refine W.seq ?_
     by_cases h55 : bitS r 255 = 1
     · refine W.l0 8 [.y 34 _,.y 35 _,.y 36 _,.x 37,.x 38,.x 39,.x 40,.y 41 _] [] [] [(2,_),(3,_),(4,_),(5,_),(8,_),(9,_),(10,_),(41,_)] [(8,.var _),(7,.var _),(5,.var _),(4,.var _),(3,.var _),(2,.var _)] 54 ⟨mU 11 O O,aU fun _ _ H K=>R.eqlN (bitS r 255) (1) (eU K 34 O) (kI 1 O) H,mU 35 O O,aF O O (gT (dT h55) O),aF O O (gT (dT h55) O),aF O O (gT (dT h55) O),aF O O (gT (dT h55) O),aU fun _ _ H K=>R.pickT (eU K 36 O) (dT h55) (kB true O) O H,Zt⟩ O O O O (tU O ?_)
       refine W.condT O (O) ?_
       refine W.seq ?_
       refine W.l0 7 [.y 43 _,.y 44 _,.y 45 _,.y 42 _,.y 46 _,.y 47 _] [] [] [(2,_),(3,_),(4,_),(5,_),(8,_),(9,_),(10,_),(46,_)] [(8,.var _),(7,.var _),(5,.var _),(4,.var _),(3,.var _),(2,.var _)] 54 ⟨aU (lU 8 O O O O O O O),aU (lU 3 O O O O O O O),aU fun _ _ H K=>R.callG hC (bsub_ok (upO a r (255 - k)) b (upO_len hr _) hlb) (Bc (Bp (eU K 43 O) O O) (Bc (Bp (eU K 44 O) O O) Bn)) (FrsR.two (frs_bg _) (.bool _)) H,aU fun _ _ H K=>R.movT (K 45 _ O) O H,aU fun _ _ H K=>R.ext (K 42 _ O) O O H,aU fun _ _ H K=>R.ext (K 42 _ O) O O H,Zt⟩ O O O O (⟨O,_,R.stZ (gU 8 O) (xU 8 O) O (gV 46 O) (by rfl) (by rfl) (by rfl) (by rfl) O,tV [(2,_),(3,_),(4,_),(5,_),(8,_),(9,_),(10,_)] [(8,.var _),(7,.var _),(5,.var _),(4,.var _),(3,.var _),(2,.var _)] 54 O O O ?_⟩)
       refine W.l0 4 [.y 48 _,.y 49 _,.y 50 _] [] [] [(2,_),(3,_),(4,_),(5,_),(8,_),(9,_),(10,_),(48,_),(50,_)] [(8,.var _),(7,.var _),(5,.var _),(4,.var _),(3,.var _),(2,.var _)] 54 ⟨aU fun _ _ H K=>R.al (K 9 _ O) H dU,mU 10 O O,aU fun _ _ H K=>R.idxN ((255 - k)) (SC.al (K 48 _ O) (K 9 _ O)) (evoI (eU K 49 O)) O bU H dU,Zt⟩ O O O O (⟨O,_,R.stEY (gU 50 O) (Or.inr (gU 48 O)) (gU 9 O) (map_get! (l:=q) bU) O (kI 1 O) (by rfl) (by rfl) (by rfl) (by rfl) upd_nil set_map,tV [(2,_),(3,_),(4,_),(5,_),(8,_),(9,_),(10,_)] [(8,.var _),(7,.var _),(5,.var _),(4,.var _),(3,.var _),(2,.var _)] 54 O O O ?_⟩)
       refine W.l0 3 [.y 20 _,.y 21 _,.y 10 _] [] [] [(2,_),(3,_),(4,_),(5,_),(8,_),(9,_),(10,_)] [(8,.var _),(7,.var _),(5,.var _),(4,.var _),(3,.var _),(2,.var _)] 54 ⟨mU 10 O O,aU fun _ _ H K=>R.binE (d:=.int ((255 : Int) - ((k + 1 : Nat) : Int))) (eU K 20 O) (kI 1 O) O Zt (wr_eq (by omega) (by omega) (by omega)) H,aU fun _ _ H K=>R.asg (eU K 21 O) O H,Zt⟩ O O O O (tU O ?_)
       exact ⟨⟨(k + 1,(divI a b (k + 1)).1,(divI a b (k + 1)).2),⟨by omega,(Prod.eta _).symm⟩⟩,(by first | (simp only [divI_t hq (.inl h55)]; done) | (simp only [divI_t hq (.inr (by simpa using hc41))]; done) | (simp only [divI_f hq h55 (by simpa using hc41),bgD,upO]; done)),(by simp only []; omega)⟩
     · refine W.l0 8 [.y 34 _,.y 35 _,.y 36 _,.y 37 _,.y 38 _,.y 39 _,.y 40 _,.y 41 _] [] [] [(2,_),(3,_),(4,_),(5,_),(8,_),(9,_),(10,_),(41,_)] [(8,.var _),(7,.var _),(5,.var _),(4,.var _),(3,.var _),(2,.var _)] 54 ⟨mU 11 O O,aU fun _ _ H K=>R.eqlN (bitS r 255) (1) (eU K 34 O) (kI 1 O) H,mU 35 O O,aW O O (gF (dF h55) O) (lU 8 O O O O O O O),aW O O (gF (dF h55) O) (lU 3 O O O O O O O),aW O O (gF (dF h55) O) fun _ _ H K=>R.callG hC (bless_ok (upO a r (255 - k)) b (upO_len hr _) hlb) (Bc (Bp (eU K 37 O) O O) (Bc (Bp (eU K 38 O) O O) Bn)) (FrsR.one (.bool _)) H,aW O O (gF (dF h55) O) fun _ _ H K=>R.un (eU K 39 O) O H,aU fun _ _ H K=>R.pickF (eU K 36 O) (dF h55) (eU K 40 O) O H,Zt⟩ O O O O (tU O ?_)
       refine W.cond O (fun hc41=>?_) (fun hc41=>?_)
       · refine W.seq ?_
         refine W.l0 7 [.y 43 _,.y 44 _,.y 45 _,.y 42 _,.y 46 _,.y 47 _] [] [] [(2,_),(3,_),(4,_),(5,_),(8,_),(9,_),(10,_),(46,_)] [(8,.var _),(7,.var _),(5,.var _),(4,.var _),(3,.var _),(2,.var _)] 54 ⟨aU (lU 8 O O O O O O O),aU (lU 3 O O O O O O O),aU fun _ _ H K=>R.callG hC (bsub_ok (upO a r (255 - k)) b (upO_len hr _) hlb) (Bc (Bp (eU K 43 O) O O) (Bc (Bp (eU K 44 O) O O) Bn)) (FrsR.two (frs_bg _) (.bool _)) H,aU fun _ _ H K=>R.movT (K 45 _ O) O H,aU fun _ _ H K=>R.ext (K 42 _ O) O O H,aU fun _ _ H K=>R.ext (K 42 _ O) O O H,Zt⟩ O O O O (⟨O,_,R.stZ (gU 8 O) (xU 8 O) O (gV 46 O) (by rfl) (by rfl) (by rfl) (by rfl) O,tV [(2,_),(3,_),(4,_),(5,_),(8,_),(9,_),(10,_)] [(8,.var _),(7,.var _),(5,.var _),(4,.var _),(3,.var _),(2,.var _)] 54 O O O ?_⟩)
         refine W.l0 4 [.y 48 _,.y 49 _,.y 50 _] [] [] [(2,_),(3,_),(4,_),(5,_),(8,_),(9,_),(10,_),(48,_),(50,_)] [(8,.var _),(7,.var _),(5,.var _),(4,.var _),(3,.var _),(2,.var _)] 54 ⟨aU fun _ _ H K=>R.al (K 9 _ O) H dU,mU 10 O O,aU fun _ _ H K=>R.idxN ((255 - k)) (SC.al (K 48 _ O) (K 9 _ O)) (evoI (eU K 49 O)) O bU H dU,Zt⟩ O O O O (⟨O,_,R.stEY (gU 50 O) (Or.inr (gU 48 O)) (gU 9 O) (map_get! (l:=q) bU) O (kI 1 O) (by rfl) (by rfl) (by rfl) (by rfl) upd_nil set_map,tV [(2,_),(3,_),(4,_),(5,_),(8,_),(9,_),(10,_)] [(8,.var _),(7,.var _),(5,.var _),(4,.var _),(3,.var _),(2,.var _)] 54 O O O ?_⟩)
         refine W.l0 3 [.y 20 _,.y 21 _,.y 10 _] [] [] [(2,_),(3,_),(4,_),(5,_),(8,_),(9,_),(10,_)] [(8,.var _),(7,.var _),(5,.var _),(4,.var _),(3,.var _),(2,.var _)] 54 ⟨mU 10 O O,aU fun _ _ H K=>R.binE (d:=.int ((255 : Int) - ((k + 1 : Nat) : Int))) (eU K 20 O) (kI 1 O) O Zt (wr_eq (by omega) (by omega) (by omega)) H,aU fun _ _ H K=>R.asg (eU K 21 O) O H,Zt⟩ O O O O (tU O ?_)
         exact ⟨⟨(k + 1,(divI a b (k + 1)).1,(divI a b (k + 1)).2),⟨by omega,(Prod.eta _).symm⟩⟩,(by first | (simp only [divI_t hq (.inl h55)]; done) | (simp only [divI_t hq (.inr (by simpa using hc41))]; done) | (simp only [divI_f hq h55 (by simpa using hc41),bgD,upO]; done)),(by simp only []; omega)⟩
       · refine W.skip ?_
         refine W.l0 3 [.y 20 _,.y 21 _,.y 10 _] [] [] [(2,_),(3,_),(4,_),(5,_),(8,_),(9,_),(10,_)] [(8,.var _),(7,.var _),(5,.var _),(4,.var _),(3,.var _),(2,.var _)] 54 ⟨mU 10 O O,aU fun _ _ H K=>R.binE (d:=.int ((255 : Int) - ((k + 1 : Nat) : Int))) (eU K 20 O) (kI 1 O) O Zt (wr_eq (by omega) (by omega) (by omega)) H,aU fun _ _ H K=>R.asg (eU K 21 O) O H,Zt⟩ O O O O (tU O ?_)
         exact ⟨⟨(k + 1,(divI a b (k + 1)).1,(divI a b (k + 1)).2),⟨by omega,(Prod.eta _).symm⟩⟩,(by first | (simp only [divI_t hq (.inl h55)]; done) | (simp only [divI_t hq (.inr (by simpa using hc41))]; done) | (simp only [divI_f hq h55 (by simpa using hc41),bgD,upO]; done)),(by simp only []; omega)⟩
   · have h7:=of_decide_eq_false hc19
     obtain rfl : k = 256:=by omega
     refine W.exit (W.seq ?_)
     refine W.drawE (m:=4) (an:=[0,1,0,3,15,31]) (its:=[.y 51 _,.y 52 _,.y 53 _,⟨57,.dead,true⟩]) (ks:=[(3,57)]) (kk:=[]) (efs:=[(3,[(4,.var _)])]) (live:=[4,5,53]) (env':=[(4,_),(5,_),(53,_)]) (nd:=40) (bx1:=[(4,.var _),(8,.var _),(7,.var _),(5,.var _),(3,.var _),(2,.var _)]) hP dU O ⟨⟨65,O⟩,nU O,O,O,O,O⟩ (          ⟨⟨O,nU O,O,fun _ τ hb ht hτ=>R.al (hτ 9 _ O) ht dU⟩,⟨⟨O,nU O,O,fun _ τ hb ht hτ=>R.callG hC (bfrom_ok q (by omega)) (Bc (Bor.sc (SC.al (hτ 51 _ O) (hτ 9 _ O)) (brw_map (fun _=>rfl))) Bn) (FrsR.one (frs_bg _)) ht⟩,⟨⟨O,nU O,O,fun _ τ hb ht hτ=>R.ldP (hτ 8 _ O) (hb 8 _ O) O O O O ht⟩,⟨⟨O,O,O,(SpE.st (p:=4) (id:=4) O O O (fun τ hτ=>(evt (hτ 52 _ O))) (by rfl) (by rfl) (by rfl) (by rfl) O)⟩,Zt⟩⟩⟩⟩) O O O (n':=54) O (⟨O,_,R.stZ (gU 5 O) (xU 5 O) O (gV 53 O) (by rfl) (by rfl) (by rfl) (by rfl) O,⟨O,_,R.asg (kI 0 O) O (nU O),⟨[4,5,6],[(4,_),(5,_),(6,_)],[(4,.var _),(8,.var _),(7,.var _),(5,.var _),(3,.var _),(2,.var _)],54,O,O,O, ?_⟩⟩⟩)
     refine W.ret ?_
     exact Ends.many (.inr O) (.cons O O O (show LdT _ 139 4 true from inferInstance) (.cons O O O (show LdT _ 139 4 true from inferInstance) (.cons O O O Zt .nil))) (by rw [(div_n hc14 hq).1,(div_n hc14 hq).2.1,(div_n hc14 hq).2.2] <;> rfl) (show [(4,false),(5,false),(6,true)].Nodup by decide)
end Go.Sx
