/-
 Between the walks: what is looked at.
-/
import Derived.Test.YtgilikgghknbhaaDoorMLdMid6
import Derived.Test.YtgilikgghknbhaaDoorMSxPanic
set_option linter.unusedVariables false
set_option linter.unusedSimpArgs false
set_option linter.unnecessarySimpa false

namespace Go.Sx
def fewP (p : PvS) : Prop:=p.t.ins.length <= 8 /\ p.t.outs.length <= 8 /\ ∀ j < p.t.outs.length,p.t.outs[j]!.script.length <= 200
instance (p : PvS) : Decidable (fewP p):=by unfold fewP; infer_instance
theorem pv_drop {l : List PvS} (h : allPv l) (k : Nat) : allPv (l.drop k):=⟨by have:=h.1; rw [List.length_drop]; omega,fun p hp=>h.2 p (List.mem_of_mem_drop hp)⟩
theorem hvS_len {l : List PvS} (h : allPv l) (sc : Hs) : (hvS l sc).length <= 1000000000:=by
 have:=hvI_len l sc l.length
 have:=h.1
 show (hvI l sc l.length).length <= _
 omega
theorem uvS_len {l : List PvS} (h : allPv l) (sc : Hs) : (uvS l sc).length <= 1000000000:=by
 have:=uvI_len (spI l l.length) h sc l.length (Nat.le_refl _)
 have:=h.1
 show (uvI (spI l l.length) l sc l.length).length <= _
 omega
end Go.Sx

namespace Go.Sx
def drO (n : Nat) (out : List UInt8) (i k : Nat) : Bool:=(List.range k).any fun j=>decide (out[j]!.toNat % n = i)
def keepI (A : List PvS) (out : List UInt8) : Nat -> List PvS
 | 0=>[]
 | i + 1=>if drO A.length out i out.length = true then keepI A out i else keepI A out i ++ [A[i]!]
def keepS (A : List PvS) (out : List UInt8) : List PvS:=keepI A out A.length
theorem dr_t {n : Nat} {out : List UInt8} {i k : Nat} (h : drO n out i k = true) : drO n out i (k + 1) = true:=by
 unfold drO at *
 rw [any_succ,h]; rfl
theorem dr_f {n : Nat} {out : List UInt8} {i k : Nat} (h : drO n out i k = false) : drO n out i (k + 1) = decide (out[k]!.toNat % n = i):=by
 unfold drO at *
 rw [any_succ,h]; rfl
section
variable {A : List PvS} {out : List UInt8} {i : Nat}
theorem keep_d (h : drO A.length out i out.length = true) : keepI A out (i + 1) = keepI A out i:=by rw [keepI,if_pos h]
theorem keep_app (h : drO A.length out i out.length = false) : (keepI A out i).map pvD ++ [pvD A[i]!] = (keepI A out (i + 1)).map pvD:=by
 rw [keepI,if_neg (by rw [h]; exact Bool.false_ne_true),List.map_append]
 rfl
theorem keep_sub (i : Nat) (hi : i <= A.length) : (keepI A out i).Sublist (A.take i):=by
 induction i with
 | zero=>exact List.nil_sublist _
 | succ i ih=>
  have h1:=ih (by omega)
  have h2 : A.take (i + 1) = A.take i ++ [A[i]!]:=by rw [getElem!_pos A i (by omega),List.take_append_getElem]
  rw [keepI,h2]
  split
  · exact h1.trans (List.sublist_append_left _ _)
  · exact h1.append (List.Sublist.refl _)
theorem keep_len (i : Nat) (hi : i <= A.length) : (keepI A out i).length <= i:=by
 have h1:=(keep_sub (out:=out) i hi).length_le
 rw [List.length_take] at h1
 omega
end
theorem keepS_sub (A : List PvS) (out : List UInt8) : (keepS A out).Sublist A:=by
 have:=keep_sub (A:=A) (out:=out) A.length (Nat.le_refl _)
 rwa [List.take_length] at this
theorem keepS_pv {A : List PvS} (h : allPv A) (out : List UInt8) : allPv (keepS A out):=⟨Nat.le_trans (keepS_sub A out).length_le h.1,fun p hp=>h.2 p ((keepS_sub A out).subset hp)⟩
theorem hrI_fil (l : List PvS) (sc : Hs) (i : Nat) (hi : i <= l.length) : hrI l sc i = ((l.take i).filter fun p=>tchR l p sc).map fun p=>(p.h,p.id):=by
 induction i with
 | zero=>rfl
 | succ i ih=>
  have h2 : l.take (i + 1) = l.take i ++ [l[i]!]:=by rw [getElem!_pos l i (by omega),List.take_append_getElem]
  rw [hrI,ih (by omega),h2,List.filter_append,List.map_append]
  cases h : tchR l l[i]! sc with
  | true=>rw [if_pos rfl,List.filter_cons_of_pos (p:=fun p=>tchR l p sc) h]; rfl
  | false=>rw [if_neg Bool.false_ne_true,List.filter_cons_of_neg (p:=fun p=>tchR l p sc) (by rw [h]; exact Bool.false_ne_true)]; simp
theorem hrS_fil (l : List PvS) (sc : Hs) : hrS l sc = (l.filter fun p=>tchR l p sc).map fun p=>(p.h,p.id):=by
 have:=hrI_fil l sc l.length (Nat.le_refl _)
 rwa [List.take_length] at this
theorem fil_sub {α : Type} {p q : α -> Bool} (l : List α) (h : ∀ x ∈ l,p x = true -> q x = true) : (l.filter p).Sublist (l.filter q):=by
 induction l with
 | nil=>exact List.Sublist.refl _
 | cons x l ih=>
  have ih:=ih fun y hy=>h y (List.mem_cons_of_mem _ hy)
  cases hp : p x with
  | true=>
   rw [List.filter_cons_of_pos hp,List.filter_cons_of_pos (h x (by simp) hp)]
   exact ih.cons_cons _
  | false=>
   rw [List.filter_cons_of_neg (by rw [hp]; exact Bool.false_ne_true)]
   cases hq : q x with
   | true=>rw [List.filter_cons_of_pos hq]; exact ih.cons _
   | false=>rw [List.filter_cons_of_neg (by rw [hq]; exact Bool.false_ne_true)]; exact ih
theorem pR_mem {l : List PvS} {q : Plc} {sc : Hs} : pR l q sc l.length = true ↔ ∃ p ∈ l,(p.id == q.1 && (decide (q.2.toNat < p.t.outs.length) && paysR p.t.outs[q.2.toNat]! sc)) = true:=by
 unfold pR
 rw [List.any_eq_true]
 constructor
 · rintro ⟨j,hj,h⟩
   exact ⟨_,get_mem (List.mem_range.1 hj),h⟩
 · rintro ⟨p,hp,h⟩
   obtain ⟨j,hj,rfl⟩:=List.mem_iff_getElem.1 hp
   exact ⟨j,List.mem_range.2 hj,by rw [getElem!_pos l j hj]; exact h⟩
theorem tchR_mono {l m : List PvS} (h : ∀ p ∈ l,p ∈ m) (p : PvS) (sc : Hs) (ht : tchR l p sc = true) : tchR m p sc = true:=by
 unfold tchR at *
 rw [Bool.or_eq_true] at *
 refine ht.imp id fun h2=>?_
 unfold inR at *
 rw [List.any_eq_true] at *
 obtain ⟨j,hj,h3⟩:=h2
 obtain ⟨x,hx,h4⟩:=pR_mem.1 h3
 exact ⟨j,hj,pR_mem.2 ⟨x,h x hx,h4⟩⟩
theorem hvS_sub {A : List PvS} (hA : allPv A) (out : List UInt8) (sc : Hs) : (hvS (keepS A out) sc).Sublist (hvS A sc):=by
 rw [hvS_eq hA,hvS_eq (keepS_pv hA out),hrS_fil,hrS_fil]
 refine List.Sublist.map _ (((keepS_sub A out).filter _).trans (fil_sub A fun p _ h=>?_))
 exact tchR_mono (fun q hq=>(keepS_sub A out).subset hq) p sc h
section
variable {α : Type} [Inhabited α] {H F : List α} {i k : Nat}
omit [Inhabited α] in
theorem sub_no (h : (H.drop i).Sublist (F.drop k)) (hi : i < H.length) (hk : F.length <= k) : False:=by
 rw [List.drop_eq_nil_of_le hk] at h
 have:=h.length_le
 rw [List.length_drop,List.length_nil] at this
 omega
theorem drop_get (hi : i < H.length) : H.drop i = H[i]! :: H.drop (i + 1):=by rw [getElem!_pos H i hi]; exact List.drop_eq_getElem_cons hi
theorem sub_next (h : (H.drop i).Sublist (F.drop k)) (hi : i < H.length) (hk : k < F.length) (he : F[k]! = H[i]!) : (H.drop (i + 1)).Sublist (F.drop (k + 1)):=by
 rw [drop_get hi,drop_get hk,he] at h
 exact List.cons_sublist_cons.1 h
theorem sub_skip (h : (H.drop i).Sublist (F.drop k)) (hi : i < H.length) (hk : k < F.length) (he : ¬ F[k]! = H[i]!) : (H.drop i).Sublist (F.drop (k + 1)):=by
 rw [drop_get hi,drop_get hk] at h
 rw [drop_get hi]
 generalize F[k]! = b at h he
 generalize H[i]! = a at h he ⊢
 cases h with
 | cons _ h=>exact h
 | cons_cons _ h=>exact absurd rfl he
end
def exP (p : PvS) (u : UnS) : Bool:=(p.id == u.1.1) && (decide (u.1.2.toNat < p.t.outs.length) && ((p.t.outs[u.1.2.toNat]!.value == u.2.1) && decide (p.h = u.2.2)))
def exO (L : List PvS) (u : UnS) (j : Nat) : Bool:=(List.range j).any fun q=>exP L[q]! u
section
variable {L : List PvS} {u : UnS} {j : Nat}
theorem ex_s : exO L u (j + 1) = (exO L u j || exP L[j]! u):=any_succ _ _
theorem ex_y (h1 : (L[j]!.id == u.1.1) = true) (h2 : u.1.2.toNat < L[j]!.t.outs.length) (h3 : (L[j]!.t.outs[u.1.2.toNat]!.value == u.2.1) = true) (h4 : decide (L[j]!.h = u.2.2) = true) : exO L u (j + 1) = true:=by
 rw [ex_s,exP,h1,decide_eq_true h2,h3,h4]
 simp
theorem ex_n1 (h1 : (L[j]!.id == u.1.1) = false) : exO L u (j + 1) = exO L u j:=by rw [ex_s,exP,h1]; simp
theorem ex_n2 (h2 : ¬ u.1.2.toNat < L[j]!.t.outs.length) : exO L u (j + 1) = exO L u j:=by rw [ex_s,exP,decide_eq_false h2]; simp
theorem ex_n3 (h3 : (L[j]!.t.outs[u.1.2.toNat]!.value == u.2.1) = false) : exO L u (j + 1) = exO L u j:=by rw [ex_s,exP,h3]; simp
theorem ex_n4 (h4 : decide (L[j]!.h = u.2.2) = false) : exO L u (j + 1) = exO L u j:=by rw [ex_s,exP,h4]; simp
end
theorem uvK_mem {g : List Plc} {p : PvS} {sc : Hs} {n : Nat} {u : UnS} (h : u ∈ uvK g p sc n) : ∃ k < n,uvC g p sc k = true /\ u = ((p.id,nK k),p.t.outs[k]!.value,p.h):=by
 induction n with
 | zero=>cases h
 | succ n ih=>
  rw [uvK] at h
  split at h
  · rename_i hc
    rcases List.mem_append.1 h with h | h
    · obtain ⟨k,h1,h2⟩:=ih h; exact ⟨k,by omega,h2⟩
    · exact ⟨n,by omega,hc,List.mem_singleton.1 h⟩
  · obtain ⟨k,h1,h2⟩:=ih h; exact ⟨k,by omega,h2⟩
theorem uvI_mem {g : List Plc} {l : List PvS} {sc : Hs} {i : Nat} {u : UnS} (h : u ∈ uvI g l sc i) : ∃ j < i,∃ k < l[j]!.t.outs.length,uvC g l[j]! sc k = true /\ u = ((l[j]!.id,nK k),l[j]!.t.outs[k]!.value,l[j]!.h):=by
 induction i with
 | zero=>cases h
 | succ i ih=>
  rw [uvI] at h
  rcases List.mem_append.1 h with h | h
  · obtain ⟨j,h1,h2⟩:=ih h; exact ⟨j,by omega,h2⟩
  · exact ⟨i,by omega,uvK_mem h⟩
theorem uv_ex {L : List PvS} (hL : allPv L) {sc : Hs} {i : Nat} (hi : i < (uvS L sc).length) : exO L (uvS L sc)[i]! L.length = true:=by
 have hm : (uvS L sc)[i]! ∈ uvI (spI L L.length) L sc L.length:=get_mem hi
 obtain ⟨j,hj,k,hk,_,he⟩:=uvI_mem hm
 have:=(hL.get hj).outs
 refine any_mono (k:=j + 1) ?_ (by omega)
 rw [any_succ,exP,he]
 have h1:=nK_toNat (k:=k) (by omega)
 dsimp only
 rw [h1,beq_self_eq_true,decide_eq_true hk,beq_self_eq_true,decide_eq_true rfl,Bool.and_self,Bool.and_self,Bool.and_self,Bool.or_true]
theorem uv_not {L : List PvS} {sc : Hs} {i j q : Nat} (hi : i < (uvS L sc).length) (hj : j < L.length) (hq : q < L[j]!.t.ins.length) : (plc L[j]!.t.ins[q]! == (uvS L sc)[i]!.1) = false:=by
 have hm : (uvS L sc)[i]! ∈ uvI (spI L L.length) L sc L.length:=get_mem hi
 obtain ⟨j',_,k,_,hc,he⟩:=uvI_mem hm
 rw [beq_eq_false_iff_ne]
 intro e
 unfold uvC at hc
 rw [Bool.and_eq_true] at hc
 have h0:=of_decide_eq_true hc.1
 have : 0 < kGet 0 (cntL (spI L L.length)) (L[j']!.id,nK k):=by
  refine (cntL_pos _ _).2 (spI_mem.2 ⟨j,hj,q,hq, ?_⟩)
  rw [e,he]
 omega
def aS (ps : List PlS) (key : UInt8) : List PvS:=(touS (blkS ps) [key]).map pvO
theorem aS_pv (ps : List PlS) (key : UInt8) : allPv (aS ps key):=tou_pv (blkS_all ps).1 [key]
end Go.Sx

namespace Go.Sx
def wkP1 : PlS:=⟨1,[],0⟩
def wkP2 : PlS:=⟨2,[⟨0,false,[1],0,0⟩],0⟩
def wkId1 : Hs:=[231,155,213,129,128,172,12,181,29,207,96,119,66,81,24,204,218,33,184,163,212,8,183,133,94,163,218,41,212,96,191,191]
def wkId2 : Hs:=[43,170,15,112,39,187,74,221,154,1,226,242,30,213,24,128,33,7,161,70,47,146,161,81,187,49,126,154,19,78,32,125]
def wkK1 : List UInt8:=[0,20,138,240,216,11,215,197,179,88,156,148,224,101,219,16,246,18,123,165,146,36]
def wkK2 : List UInt8:=[0,20,143,101,146,43,117,200,233,178,99,29,243,16,83,232,38,87,125,237,15,141]
def wkS1 : Hs:=[88,128,126,102,154,37,48,62,205,63,43,185,6,163,233,243,86,103,198,107,96,78,127,163,32,14,156,156,58,151,93,141]
def wkT1 : TxS:=⟨1,[⟨zero32,4294967295,[1,0,0],0,[]⟩],[⟨5000,wkK1⟩],0⟩
def wkT2 : TxS:=⟨1,[⟨zero32,4294967295,[2,0,1],0,[]⟩],[⟨5000,wkK2⟩],1⟩
def wkT3 : TxS:=⟨2,[⟨wkId1,0,[],0,[]⟩],[⟨5000,wkK1⟩],1⟩
def wkB0 : BlkS:=⟨easyH,[]⟩
def wkB1 : BlkS:=⟨⟨1,[61,203,117,189,137,197,20,104,21,221,192,209,215,49,76,183,70,25,253,247,43,253,106,115,55,132,161,91,255,182,29,187],wkId1,1001,545259519,0⟩,[wkT1]⟩
def wkB2 : BlkS:=⟨⟨1,[215,61,162,246,93,180,235,194,32,115,90,88,68,108,218,208,148,132,148,23,57,171,154,49,135,88,167,104,231,2,56,86],[73,100,174,11,28,170,198,9,50,68,106,194,225,137,176,95,56,115,185,78,244,86,43,23,252,146,220,5,11,112,78,148],1002,545259519,0⟩,[wkT2,wkT3]⟩
def wkL : List StS:=[⟨1,0,wkId1,wkT1⟩,⟨2,1,wkId2,wkT3⟩]
theorem wk_k1 : keyS 1 = wkK1:=by kernel_rfl
theorem wk_s1 : sumR wkK1 = wkS1:=by kernel_rfl
theorem wk_g1 : growS [wkB0] wkP1 0 = (wkB1,true):=by kernel_rfl
end Go.Sx

namespace Go.Sx
theorem wk_g2 : growS [wkB0,wkB1] wkP2 1 = (wkB2,true):=by kernel_rfl
end Go.Sx

namespace Go.Sx
theorem wk_tou : touS [wkB0,wkB1,wkB2] [1] = wkL:=by kernel_rfl
end Go.Sx

namespace Go.Sx
def wkPs : List PlS:=[wkP1,wkP2]
theorem wkPs_ok : allPl wkPs:=fun x hx s hs=>by
 rcases List.mem_cons.1 hx with rfl | hx
 · cases hs
 · rw [List.mem_singleton.1 hx] at hs
   rw [List.mem_singleton.1 hs]
   exact (by decide : 1 <= 140737488355328)
def spOwn (s : SpS) : D:=.agg [.u8 s.from_,.bool s.two,.sl (some 5) 1 (s.to.map .u8),.u8 s.part,.u8 s.extra]
def plOwn (x : PlS) : D:=.agg [.u8 x.pays,.sl (some 86) 5 (x.spends.map spOwn),.u8 x.step]
theorem brw_spOwn (s : SpS) : (spOwn s).brw = spD s:=by
 simp only [spOwn,spD,D.brw,brws_eq,List.map_cons,List.map_nil]
 rw [brw_map (fun _=>rfl)]
theorem brw_plOwn (x : PlS) : (plOwn x).brw = plD x:=by
 simp only [plOwn,plD,D.brw,brws_eq,List.map_cons,List.map_nil]
 rw [brw_mapO brw_spOwn]
theorem brw_plans (l : List PlS) : (D.sl (some 77) 3 (l.map plOwn)).brw = .sl none 3 (l.map plD):=by
 simp only [D.brw,brws_eq]
 rw [brw_mapO brw_plOwn]
theorem wk_plans : Wk (.sl (some 77) 3 [.agg [.u8 1,.nils,.u8 0],.agg [.u8 2,.sl (some 86) 5 [.agg [.u8 0,.bool false,.sl (some 5) 1 [.u8 1],.u8 0,.u8 0]],.u8 0]]) (.sl (some 77) 3 (wkPs.map plOwn)):=
 .slL (.cons (.aggL (.cons (.refl _) (.cons (.nils _ _) (.cons (.refl _) .nil)))) (.cons (.refl _) .nil))
theorem brw_one (e z : Nat) (x : UInt8) : (D.sl (some e) z [.u8 x]).brw = .sl none z ([x].map D.u8):=by simp [D.brw,D.brws]
end Go.Sx

namespace Go.Sx
theorem wk_bl : blkS wkPs = [wkB0,wkB1,wkB2]:=by
 have h1 : blkI wkPs 1 = [wkB0,wkB1]:=by
  show (if (growS [wkB0] wkP1 0).2 = true then [wkB0] ++ [(growS [wkB0] wkP1 0).1] else [wkB0]) = _
  rw [wk_g1]
  rfl
 show blkI wkPs 2 = _
 rw [blkI,h1]
 show (if (growS [wkB0,wkB1] wkP2 1).2 = true then [wkB0,wkB1] ++ [(growS [wkB0,wkB1] wkP2 1).1] else [wkB0,wkB1]) = _
 rw [wk_g2]
 rfl
def wkPv : List PvS:=wkL.map pvO
theorem wk_made : (touS (blkS wkPs) [1]).map pvO = wkPv:=by rw [wk_bl,wk_tou]; rfl
theorem wk_len : ((touS (blkS wkPs) [1]).map pvO).length = 2:=by rw [wk_made]; rfl
theorem wk_sum : sumK 1 = wkS1:=by
 unfold sumK
 rw [wk_k1,wk_s1]
theorem wk_pvAll : allPv wkPv:=by rw [<- wk_made]; exact tou_pv (blkS_all wkPs).1 [1]
theorem wk_hv : hvS wkPv wkS1 = [(1,wkId1),(2,wkId2)]:=by
 rw [hvS_eq wk_pvAll]
 kernel_rfl
theorem wk_uv : uvS wkPv wkS1 = [((wkId2,0),5000,2)]:=by
 rw [uvS_eq]
 kernel_rfl
theorem wk_hv1 : hvS (wkPv.drop 1) wkS1 = [(2,wkId2)]:=by
 rw [hvS_eq (pv_drop wk_pvAll 1)]
 kernel_rfl
theorem wk_h : (hvS ((touS (blkS wkPs) [1]).map pvO) (sumK 1)).length = 2:=by rw [wk_made,wk_sum,wk_hv]; rfl
theorem wk_u : (uvS ((touS (blkS wkPs) [1]).map pvO) (sumK 1)).length = 1:=by rw [wk_made,wk_sum,wk_uv]; rfl
theorem wk_b : blS (uvS ((touS (blkS wkPs) [1]).map pvO) (sumK 1)) = 5000:=by rw [wk_made,wk_sum,wk_uv]; rfl
theorem wk_h1 : (hvS (((touS (blkS wkPs) [1]).map pvO).drop 1) (sumK 1)).length = 1:=by rw [wk_made,wk_sum,wk_hv1]; rfl
end Go.Sx

namespace Go.Sx
open Go.Proofs
theorem blocks15_ok (ps : List PlS) (hps : allPl ps) : Fn Tryd.prog gl 9 [.agg [.u32 545259519,.int 10,.u32 10,.nils,hdrD easyH],.sl none 3 (ps.map plD)] (.sl none 69 ((blkS ps).map blkD)):=by
 refine Fn.of (n:=41) Tryd.func9 rfl rfl rfl (nU rfl) fun C hC hD=>?_
 refine W.seq ?_
 refine W.l0 2 [] [] [] [(0,_),(1,_)] [] 41 Zt O O O O (⟨O,_,R.box (gV 0 O) O O (nU O),⟨O,_,R.asg (kN O) O (nU O),tV [(1,_),(2,_)] [(2,.var _)] 41 O O O ?_⟩⟩)
 refine W.seq ?_
 refine W.l0 5 [.y 9 _,.y 10 _,.y 11 _,.y 12 _,.y 5 _] [(4,12)] [(4,12)] [(1,_),(2,_),(5,_)] [(2,.var _)] 41 ⟨aU (fU 2 O O),aU (lU 9 O O O O O O O),aU fun _ _ H K=>R.bldSE (l:=[.agg [.u32 0,.arr 32 1 ((List.replicate 32 0).map D.u8),.arr 32 1 ((List.replicate 32 0).map D.u8),.u32 0,.u32 0,.u32 0],.nils]) (l':=[_,_]) (.cons (eU K 10 O) (.nil O)) ⟨⟨_,(eU K 10 O),O,O,O⟩,Zt⟩ H,aU fun _ _ H K=>R.bslE (z:=69) (.cons (eU K 11 O) .nil) ⟨⟨O,O,O⟩,Zt⟩ O H dU,aU fun _ _ H K=>R.asgO (K 12 _ O) O H dU,Zt⟩ O O O O (tU O ?_)
 refine W.seq (W.seq ?_)
 refine W.wkS (s:=5) (d':=.sl (some 72) 69 ([(⟨easyH,[]⟩ : BlkS)].map blkD)) O O O (wk_blk0 _) ?_
 refine W.l0 1 [.y 6 _] [] [] [(1,_),(2,_),(5,_),(6,_)] [(2,.var _)] 41 ⟨aU fun _ _ H _=>R.asg (kI 0 O) O H,Zt⟩ O O O O (tU O ?_)
 refine W.block ?_
 refine W.loop (α:={q__ : Nat // q__ <= min ps.length 14}) (fun q__=>⟨41,[(1,.sl none 3 (ps.map plD)),(2,.ptr 2 0 []),(5,.sl (some 72) 69 ((blkI ps q__.1).map blkD)),(6,.int ((q__.1 : Nat) : Int))],[(2,.var (.agg [.u32 545259519,.int 10,.u32 10,.nils,hdrD easyH]))]⟩) (fun q__=>min ps.length 14 - q__.1) ⟨(0),bU⟩ O ?_
 rintro ⟨i,hi⟩
 show W _ _ _ _ ⟨41,[(1,.sl none 3 (ps.map plD)),(2,.ptr 2 0 []),(5,.sl (some 72) 69 ((blkI ps i).map blkD)),(6,.int ((i : Nat) : Int))],[(2,.var (.agg [.u32 545259519,.int 10,.u32 10,.nils,hdrD easyH]))]⟩
 have hi : i <= min ps.length 14:=hi
 have hbl:=blkI_all ps i (by omega)
 refine W.seq (W.seq ?_)
 by_cases h4 : i < ps.length
 · refine W.l0 8 [.y 13 _,.y 14 _,.y 15 _,.y 16 _,.y 17 _,.y 18 _,.y 19 _,.y 20 _] [] [] [(1,_),(2,_),(5,_),(6,_),(20,_)] [(2,.var _)] 41 ⟨mU 6 O O,mU 1 O O,aU fun _ _ H K=>R.lenE (SC.sl (K 14 _ O)) (lN _) H,aU fun _ _ H K=>R.lssN (i) (ps.length) (eU K 13 O) (eU K 15 O) H,mU 16 O O,aW O O (gT (dT h4) O) fun _ _ H K=>R.mov (eU K 6 O) O H,aW O O (gT (dT h4) O) fun _ _ H K=>R.lssN (i) (14) (eU K 18 O) (kI 14 O) H,aU fun _ _ H K=>R.pickT (eU K 17 O) (dT h4) (eU K 19 O) O H,Zt⟩ O O O O (tU O ?_)
   refine W.condD O (fun hc20=>?_) (fun hc20=>?_)
   · refine W.skip (W.seq (W.block (W.seq ?_)))
     refine W.drawE (m:=14) (an:=[0,0,0,0,12,28,0,64,255,511,1023,1023,0,6143,16383]) (its:=[.y 24 _,.y 25 _,.y 26 _,.y 27 _,.y 28 _,.y 29 _,.y 30 _,.y 31 _,.y 32 _,.y 23 _,.y 33 _,.y 34 _,.y 7 _,⟨54,.dead,true⟩]) (ks:=[(13,54)]) (kk:=[]) (efs:=[(12,[(7,.var _)]),(13,[(7,.var _)])]) (live:=[1,2,5,6,7,34]) (env':=[(1,_),(2,_),(5,_),(6,_),(7,_),(34,_)]) (nd:=40) (bx1:=[(7,.var _),(2,.var _)]) hP dU O ⟨⟨61,O⟩,nU O,O,O,O,O⟩ (          ⟨⟨O,nU O,O,fun _ τ hb ht hτ=>R.ldP (hτ 2 _ O) (hb 2 _ O) O O O O ht⟩,⟨⟨O,nU O,O,fun _ τ hb ht hτ=>R.al (hτ 5 _ O) ht dU⟩,⟨⟨O,nU O,O,fun _ τ hb ht hτ=>R.mov (evt (hτ 1 _ O)) O ht⟩,⟨⟨O,nU O,O,fun _ τ hb ht hτ=>R.mov (evt (hτ 6 _ O)) O ht⟩,⟨⟨O,nU O,O,fun _ τ hb ht hτ=>R.idxN (i) (SC.sl (hτ 26 _ O)) (evoI (evt (hτ 27 _ O))) O bU ht dU⟩,⟨⟨O,nU O,O,fun _ τ hb ht hτ=>R.ldE (hτ 28 _ O) (SC.sl (hτ 26 _ O)) (map_get! (l:=ps) bU) O O O O ht⟩,⟨⟨O,nU O,O,fun _ τ hb ht hτ=>R.mov (evt (hτ 6 _ O)) O ht⟩,⟨⟨O,nU O,O,fun _ τ hb ht hτ=>R.convE (d:=.u32 (UInt32.ofNat i)) (evt (hτ 30 _ O)) O (u32_int _) ht⟩,⟨⟨O,nU O,O,fun _ τ hb ht hτ=>R.callZ (r':=.tup [blkD (growS (blkI ps i) ps[i]! (UInt32.ofNat i)).1,.bool (growS (blkI ps i) ps[i]! (UInt32.ofNat i)).2]) (grow15_ok (blkI ps i) ps[i]! (UInt32.ofNat i) hbl.1 hbl.2.1 (by omega) (hps _ (get_mem h4))) hC (Bc (Bp (evt (hτ 24 _ O)) O O) (Bc (Bor.sc (SC.al (hτ 25 _ O) (hτ 5 _ O)) (brw_map brw_blkK)) (Bc (Bp (evt (hτ 29 _ O)) O O) (Bc (Bp (evt (hτ 31 _ O)) O O) Bn)))) (frs_grow _ _) (brw_grow _ _) ht⟩,⟨⟨O,nU O,O,fun _ τ hb ht hτ=>R.movT (hτ 32 _ O) O ht⟩,⟨⟨O,nU O,O,fun _ τ hb ht hτ=>R.ext (hτ 23 _ O) O O ht⟩,⟨⟨O,nU O,O,fun _ τ hb ht hτ=>R.ext (hτ 23 _ O) O O ht⟩,⟨⟨O,O,⟨O,nU O⟩,(SpE.alloc O (nU O))⟩,⟨⟨O,O,O,(SpE.st (p:=7) (id:=7) O O O (fun τ hτ=>(evt (hτ 33 _ O))) (by rfl) (by rfl) (by rfl) (by rfl) O)⟩,Zt⟩⟩⟩⟩⟩⟩⟩⟩⟩⟩⟩⟩⟩⟩) O O O (n':=41) O (⟨O,_,R.asg (gV 34 O) O (nU O),⟨[1,2,5,6,7,8],[(1,_),(2,_),(5,_),(6,_),(7,_),(8,_)],[(7,.var _),(2,.var _)],41,O,O,O, ?_⟩⟩)
     refine W.seq ?_
     refine W.l0 1 [.y 35 _] [] [] [(1,_),(2,_),(5,_),(6,_),(7,_),(35,_)] [(7,.var _),(2,.var _)] 41 ⟨mU 8 O O,Zt⟩ O O O O (tU O ?_)
     refine W.cond O (fun hc35=>?_) (fun hc35=>?_)
     · refine W.l0 5 [.y 36 _,.y 37 _,.y 38 _,.y 39 _,.y 5 _] [(3,5),(4,39),(4,36)] [(3,5),(4,39)] [(1,_),(2,_),(5,_),(6,_)] [(7,.var _),(2,.var _)] 41 ⟨aU fun _ _ H K=>R.al (K 5 _ O) H dU,aU (lU 7 O O O O O O O),aU fun _ _ H K=>R.bslE (z:=69) (.cons (eU K 37 O) .nil) ⟨⟨O,O,O⟩,Zt⟩ O H dU,aU fun _ _ H K=>R.appE (Or.inr (K 36 _ O)) (K 5 _ O) (SrcO.sc (SC.sl (K 38 _ O)) (pur_lit O)) (show _ = ((blkI ps (i + 1)).map blkD) from (blkI_app hc35)) (by simp only [List.length_map,List.length_cons,List.length_nil]; omega) H dU dU,aU fun _ _ H K=>R.asgO (K 39 _ O) O H dU,Zt⟩ O O O O (tU O ?_)
       refine W.dropB [2] (bx':=[(2,.var _)]) O O O (pin_sub hD O) ?_
       refine W.l0 3 [.y 21 _,.y 22 _,.y 6 _] [] [] [(1,_),(2,_),(5,_),(6,_)] [(2,.var _)] 41 ⟨mU 6 O O,aU fun _ _ H K=>R.addN (i) (1) (eU K 21 O) (kI 1 O) bU H,aU fun _ _ H K=>R.asg (eU K 22 O) O H,Zt⟩ O O O O (tU O ?_)
       exact ⟨⟨(i + 1),bU⟩,(by first | (dsimp only; rw [blkI_n hc35]) | rfl),(by show min ps.length 14 - (i + 1) < min ps.length 14 - i; omega)⟩
     · refine W.skip ?_
       refine W.dropS (live:=[1,2,5,6]) (env':=[(1,_),(2,_),(5,_),(6,_)]) (bx':=[(7,.var _),(2,.var _)]) (n':=41) O O O ?_
       refine W.dropB [2] (bx':=[(2,.var _)]) O O O (pin_sub hD O) ?_
       refine W.l0 3 [.y 21 _,.y 22 _,.y 6 _] [] [] [(1,_),(2,_),(5,_),(6,_)] [(2,.var _)] 41 ⟨mU 6 O O,aU fun _ _ H K=>R.addN (i) (1) (eU K 21 O) (kI 1 O) bU H,aU fun _ _ H K=>R.asg (eU K 22 O) O H,Zt⟩ O O O O (tU O ?_)
       exact ⟨⟨(i + 1),bU⟩,(by first | (dsimp only; rw [blkI_n hc35]) | rfl),(by show min ps.length 14 - (i + 1) < min ps.length 14 - i; omega)⟩
   · obtain rfl : i = min ps.length 14:=by omega
     refine W.exit (W.seq ?_)
     refine W.l0 2 [.y 40 _,.y 4 _] [(0,5),(1,40)] [(0,5),(1,40)] [(4,_)] [(2,.var _)] 41 ⟨aU fun _ _ H K=>R.movO (K 5 _ O) O H dU,aU fun _ _ H K=>R.asgO (K 40 _ O) O H dU,Zt⟩ O O O O (tU O ?_)
     refine W.frzS (s:=4) (d':=.sl none 69 ((blkS ps).map blkD)) O O (brw_blks _ _ _) ?_
     refine W.ret ?_
     exact Ends.one' (.inr O) O (O) O O Zt
 · refine W.l0 8 [.y 13 _,.y 14 _,.y 15 _,.y 16 _,.y 17 _,.x 18,.x 19,.y 20 _] [] [] [(1,_),(2,_),(5,_),(6,_),(20,_)] [(2,.var _)] 41 ⟨mU 6 O O,mU 1 O O,aU fun _ _ H K=>R.lenE (SC.sl (K 14 _ O)) (lN _) H,aU fun _ _ H K=>R.lssN (i) (ps.length) (eU K 13 O) (eU K 15 O) H,mU 16 O O,aF O O (gF (dF h4) O),aF O O (gF (dF h4) O),aU fun _ _ H K=>R.pickF (eU K 17 O) (dF h4) (kB false O) O H,Zt⟩ O O O O (tU O ?_)
   refine W.condF O (O) ?_
   obtain rfl : i = min ps.length 14:=by omega
   refine W.exit (W.seq ?_)
   refine W.l0 2 [.y 40 _,.y 4 _] [(0,5),(1,40)] [(0,5),(1,40)] [(4,_)] [(2,.var _)] 41 ⟨aU fun _ _ H K=>R.movO (K 5 _ O) O H dU,aU fun _ _ H K=>R.asgO (K 40 _ O) O H dU,Zt⟩ O O O O (tU O ?_)
   refine W.frzS (s:=4) (d':=.sl none 69 ((blkS ps).map blkD)) O O (brw_blks _ _ _) ?_
   refine W.ret ?_
   exact Ends.one' (.inr O) O (O) O O Zt
end Go.Sx

namespace Go.Sx
open Go.Proofs
theorem tou25_ok (l : List BlkS) (hl : allBl l) (ks : List UInt8) (hks : ks.length <= 1000000000) : Fn Tryd.prog gl 8 [.sl none 69 (l.map blkD),.sl none 1 (ks.map D.u8)] (.sl none 72 (((touS l ks).map pvO).map pvD)):=by
 refine Fn.of (n:=84) Tryd.func8 rfl rfl rfl (nU rfl) fun C hC hD=>?_
 have hsa:=allS_wf hl
 have hal:=hsa.1
 refine W.seq ?_
 refine W.l0 1 [.y 4 _] [] [] [(0,_),(1,_)] [] 84 ⟨aU fun _ _ H _=>R.asg (kN O) O H,Zt⟩ O O O O (tU O ?_)
 refine W.seq ?_
 refine W.l0 3 [.y 12 _,.y 13 _,.y 5 _] [(2,13)] [(2,13)] [(0,_),(1,_),(5,_)] [] 84 ⟨mU 0 O O,aU fun _ _ H K=>R.callPE hC (all15_ok l hl) (EvP.cons (eU K 12 O) O O EvP.nil) H,aU fun _ _ H K=>R.asgO (K 13 _ O) O H dU,Zt⟩ O O O O (tU O ?_)
 refine W.seq ?_
 refine W.frzS (s:=5) (d':=.sl none 38 ((allS l).map stsD)) O O (brw_sts _ _ _) ?_
 refine W.l0 1 [.y 6 _] [] [] [(0,_),(1,_),(5,_),(6,_)] [] 84 ⟨aU fun _ _ H _=>R.asg (kN O) O H,Zt⟩ O O O O (tU O ?_)
 refine W.seq (W.seq ?_)
 refine W.l0 1 [.y 7 _] [] [] [(0,_),(1,_),(5,_),(6,_),(7,_)] [] 84 ⟨aU fun _ _ H _=>R.asg (kI 0 O) O H,Zt⟩ O O O O (tU O ?_)
 refine W.block ?_
 refine W.asOwn (s:=6) 56 72 O ?_
 refine W.loop (α:={q__ : Nat // q__ <= (allS l).length}) (fun q__=>⟨84,[(0,.sl none 69 (l.map blkD)),(1,.sl none 1 (ks.map D.u8)),(5,.sl none 38 ((allS l).map stsD)),(6,.sl (some 56) 72 ((touI l ks q__.1).map pvN)),(7,.int ((q__.1 : Nat) : Int))],[]⟩) (fun q__=>(allS l).length - q__.1) ⟨(0),bU⟩ O ?_
 rintro ⟨i,hi⟩
 show W _ _ _ _ ⟨84,[(0,.sl none 69 (l.map blkD)),(1,.sl none 1 (ks.map D.u8)),(5,.sl none 38 ((allS l).map stsD)),(6,.sl (some 56) 72 ((touI l ks i).map pvN)),(7,.int ((i : Nat) : Int))],[]⟩
 have hi : i <= (allS l).length:=hi
 have htl:=touI_len l ks i
 refine W.seq (W.seq ?_)
 refine W.l0 4 [.y 14 _,.y 15 _,.y 16 _,.y 17 _] [] [] [(0,_),(1,_),(5,_),(6,_),(7,_),(17,_)] [] 84 ⟨mU 7 O O,mU 5 O O,aU fun _ _ H K=>R.lenE (SC.sl (K 15 _ O)) (lN _) H,aU fun _ _ H K=>R.lssN (i) ((allS l).length) (eU K 14 O) (eU K 16 O) H,Zt⟩ O O O O (tU O ?_)
 refine W.condD O (fun hc17=>?_) (fun hc17=>?_)
 · refine W.skip (W.seq (W.block (W.seq ?_)))
   refine W.l0 1 [.y 8 _] [] [] [(0,_),(1,_),(5,_),(6,_),(7,_),(8,_)] [] 84 ⟨aU fun _ _ H _=>R.asg (kB false O) O H,Zt⟩ O O O O (tU O ?_)
   refine W.seq (W.seq ?_)
   refine W.l0 1 [.y 9 _] [] [] [(0,_),(1,_),(5,_),(6,_),(7,_),(8,_),(9,_)] [] 84 ⟨aU fun _ _ H _=>R.asg (kI 0 O) O H,Zt⟩ O O O O (tU O ?_)
   refine W.block ?_
   refine W.loop (α:={q__ : Nat // q__ <= ks.length}) (fun q__=>⟨84,[(0,.sl none 69 (l.map blkD)),(1,.sl none 1 (ks.map D.u8)),(5,.sl none 38 ((allS l).map stsD)),(6,.sl (some 56) 72 ((touI l ks i).map pvN)),(7,.int ((i : Nat) : Int)),(8,.bool (kyT l ks (allS l)[i]!.id q__.1)),(9,.int ((q__.1 : Nat) : Int))],[]⟩) (fun q__=>ks.length - q__.1) ⟨(0),bU⟩ O ?_
   rintro ⟨k,hk⟩
   show W _ _ _ _ ⟨84,[(0,.sl none 69 (l.map blkD)),(1,.sl none 1 (ks.map D.u8)),(5,.sl none 38 ((allS l).map stsD)),(6,.sl (some 56) 72 ((touI l ks i).map pvN)),(7,.int ((i : Nat) : Int)),(8,.bool (kyT l ks (allS l)[i]!.id k)),(9,.int ((k : Nat) : Int))],[]⟩
   have hk : k <= ks.length:=hk
   refine W.seq (W.seq ?_)
   by_cases h5 : k < ks.length
   · refine W.l0 8 [.y 20 _,.y 21 _,.y 22 _,.y 23 _,.y 24 _,.y 25 _,.y 26 _,.y 27 _] [] [] [(0,_),(1,_),(5,_),(6,_),(7,_),(8,_),(9,_),(27,_)] [] 84 ⟨mU 9 O O,mU 1 O O,aU fun _ _ H K=>R.lenE (SC.sl (K 21 _ O)) (lN _) H,aU fun _ _ H K=>R.lssN (k) (ks.length) (eU K 20 O) (eU K 22 O) H,mU 23 O O,aW O O (gT (dT h5) O) fun _ _ H K=>R.mov (eU K 8 O) O H,aW O O (gT (dT h5) O) fun _ _ H K=>R.un (eU K 25 O) O H,aU fun _ _ H K=>R.pickT (eU K 24 O) (dT h5) (eU K 26 O) O H,Zt⟩ O O O O (tU O ?_)
     refine W.cond O (fun hc27=>?_) (fun hc27=>?_)
     · refine W.skip (W.seq (W.block (W.seq ?_)))
       refine W.l0 9 [.y 30 _,.y 31 _,.y 32 _,.y 33 _,.y 34 _,.y 35 _,.y 36 _,.y 37 _,.y 10 _] [(8,37)] [(8,37)] [(0,_),(1,_),(5,_),(6,_),(7,_),(8,_),(9,_),(10,_)] [] 84 ⟨mU 0 O O,mU 1 O O,mU 9 O O,aU fun _ _ H K=>R.idxN (k) (SC.sl (K 31 _ O)) (evoI (eU K 32 O)) O bU H dU,aU fun _ _ H K=>R.ldE (K 33 _ O) (SC.sl (K 31 _ O)) (map_get! (l:=ks) bU) O O O O H,aU fun _ _ H K=>R.bin (eU K 34 O) (show ev _ _ (.const (.int .u8 12)) = some (.u8 12) from O) O dU H,aU fun _ _ H K=>R.callG hC (sum15_ok (ks[k]! % 12)) (Bc (Bp (eU K 35 O) O O) Bn) (FrsR.one (frs_hash' _)) H,aU fun _ _ H K=>R.callG hC (hist15_ok l hl (sumK (ks[k]! % 12))) (Bc (Bp (eU K 30 O) O O) (Bc (Bp (eU K 36 O) O O) Bn)) (frs_ens _ _ _) H,aU fun _ _ H K=>R.asgO (K 37 _ O) O H dU,Zt⟩ O O O O (tU O ?_)
       refine W.seq ?_
       refine W.l0 1 [.y 11 _] [] [] [(0,_),(1,_),(5,_),(6,_),(7,_),(8,_),(9,_),(10,_),(11,_)] [] 84 ⟨aU fun _ _ H _=>R.asg (kI 0 O) O H,Zt⟩ O O O O (tU O ?_)
       refine W.block ?_
       refine W.loop (α:={q__ : Nat // q__ <= (histS l (sumK (ks[k]! % 12))).length}) (fun q__=>⟨84,[(0,.sl none 69 (l.map blkD)),(1,.sl none 1 (ks.map D.u8)),(5,.sl none 38 ((allS l).map stsD)),(6,.sl (some 56) 72 ((touI l ks i).map pvN)),(7,.int ((i : Nat) : Int)),(8,.bool ((kyT l ks (allS l)[i]!.id k) || hasT (histS l (sumK (ks[k]! % 12))) (allS l)[i]!.id q__.1)),(9,.int ((k : Nat) : Int)),(10,.sl (some 58) 33 ((histS l (sumK (ks[k]! % 12))).map enD)),(11,.int ((q__.1 : Nat) : Int))],[]⟩) (fun q__=>(histS l (sumK (ks[k]! % 12))).length - q__.1) ⟨(0),bU⟩ (by rw [hasT_0,Bool.or_false] <;> rfl) ?_
       rintro ⟨j,hj⟩
       show W _ _ _ _ ⟨84,[(0,.sl none 69 (l.map blkD)),(1,.sl none 1 (ks.map D.u8)),(5,.sl none 38 ((allS l).map stsD)),(6,.sl (some 56) 72 ((touI l ks i).map pvN)),(7,.int ((i : Nat) : Int)),(8,.bool ((kyT l ks (allS l)[i]!.id k) || hasT (histS l (sumK (ks[k]! % 12))) (allS l)[i]!.id j)),(9,.int ((k : Nat) : Int)),(10,.sl (some 58) 33 ((histS l (sumK (ks[k]! % 12))).map enD)),(11,.int ((j : Nat) : Int))],[]⟩
       have hj : j <= (histS l (sumK (ks[k]! % 12))).length:=hj
       have hhl:=hstI_len (allS l) (sumK (ks[k]! % 12)) (allS l).length
       have hhl : (histS l (sumK (ks[k]! % 12))).length <= (allS l).length:=hhl
       refine W.seq (W.seq ?_)
       refine W.l0 4 [.y 38 _,.y 39 _,.y 40 _,.y 41 _] [] [] [(0,_),(1,_),(5,_),(6,_),(7,_),(8,_),(9,_),(10,_),(11,_),(41,_)] [] 84 ⟨mU 11 O O,aU fun _ _ H K=>R.al (K 10 _ O) H dU,aU fun _ _ H K=>R.lenE (SC.al (K 39 _ O) (K 10 _ O)) (lN _) H,aU fun _ _ H K=>R.lssN (j) ((histS l (sumK (ks[k]! % 12))).length) (eU K 38 O) (eU K 40 O) H,Zt⟩ O O O O (tU O ?_)
       refine W.condD O (fun hc41=>?_) (fun hc41=>?_)
       · refine W.skip (W.seq (W.block ?_))
         by_cases hbo : ((kyT l ks (allS l)[i]!.id k) || hasT (histS l (sumK (ks[k]! % 12))) (allS l)[i]!.id j) = true
         · refine W.draw (m:=15) (an:=[0,1,3,3,15,31,63,3,3,387,899,1923,4095,8191,16383]) hP dU O (its:=[.y 44 _,.y 45 _,.x 46,.x 47,.x 48,.x 49,.x 50,.x 51,.x 52,.x 53,.x 54,.x 55,.x 56,.y 57 _,.y 8 _]) (ks:=[]) (kk:=[]) (live:=[0,1,5,6,7,8,9,10,11]) (env':=[(0,_),(1,_),(5,_),(6,_),(7,_),(8,_),(9,_),(10,_),(11,_)]) (⟨nU O,O,⟨mU 8 O O,mU 44 O O,aF O O (gT (hbo) O),aF O O (gT (hbo) O),aF O O (gT (hbo) O),aF O O (gT (hbo) O),aF O O (gT (hbo) O),aF O O (gT (hbo) O),aF O O (gT (hbo) O),aF O O (gT (hbo) O),aF O O (gT (hbo) O),aF O O (gT (hbo) O),aF O O (gT (hbo) O),aU fun _ _ H K=>R.pickT (eU K 45 O) (hbo) (kB true O) O H,aU fun _ _ H K=>R.asg (eU K 57 O) O H,Zt⟩,O,O,O⟩) O (bx':=[]) O (n':=84) O (tV [(0,_),(1,_),(5,_),(6,_),(7,_),(8,_),(9,_),(10,_),(11,_)] [] 84 O O O ?_)
           refine W.l0 3 [.y 42 _,.y 43 _,.y 11 _] [] [] [(0,_),(1,_),(5,_),(6,_),(7,_),(8,_),(9,_),(10,_),(11,_)] [] 84 ⟨mU 11 O O,aU fun _ _ H K=>R.addN (j) (1) (eU K 42 O) (kI 1 O) bU H,aU fun _ _ H K=>R.asg (eU K 43 O) O H,Zt⟩ O O O O (tU O ?_)
           exact ⟨⟨(j + 1),bU⟩,(by first | (dsimp only; rw [hasT_t hbo]) | (dsimp only; rw [hasT_f (bfalse hbo)])),(by simp only []; omega)⟩
         · refine W.draw (m:=15) (an:=[0,1,3,3,15,31,63,3,3,387,899,1923,4095,8191,16383]) hP dU O (its:=[.y 44 _,.y 45 _,.y 46 _,.y 47 _,.y 48 _,.y 49 _,.y 50 _,.y 51 _,.y 52 _,.y 53 _,.y 54 _,.y 55 _,.y 56 _,.y 57 _,.y 8 _]) (ks:=[]) (kk:=[]) (live:=[0,1,5,6,7,8,9,10,11]) (env':=[(0,_),(1,_),(5,_),(6,_),(7,_),(8,_),(9,_),(10,_),(11,_)]) (⟨nU O,O,⟨mU 8 O O,mU 44 O O,aW O O (gF (bfalse hbo) O) fun _ _ H K=>R.al (K 10 _ O) H dU,aW O O (gF (bfalse hbo) O) fun _ _ H K=>R.mov (eU K 11 O) O H,aW O O (gF (bfalse hbo) O) fun _ _ H K=>R.idxN (j) (SC.al (K 46 _ O) (K 10 _ O)) (evoI (eU K 47 O)) O bU H dU,aW O O (gF (bfalse hbo) O) fun _ _ H K=>R.fdE (K 48 _ O) H dU,aW O O (gF (bfalse hbo) O) fun _ _ H K=>R.ldE (K 49 _ O) (SC.al (K 46 _ O) (K 10 _ O)) (map_get! (l:=(histS l (sumK (ks[k]! % 12)))) bU) O O O O H,aW O O (gF (bfalse hbo) O) fun _ _ H K=>R.mov (eU K 5 O) O H,aW O O (gF (bfalse hbo) O) fun _ _ H K=>R.mov (eU K 7 O) O H,aW O O (gF (bfalse hbo) O) fun _ _ H K=>R.idxN (i) (SC.sl (K 51 _ O)) (evoI (eU K 52 O)) O bU H dU,aW O O (gF (bfalse hbo) O) fun _ _ H K=>R.fdE (K 53 _ O) H dU,aW O O (gF (bfalse hbo) O) fun _ _ H K=>R.ldE (K 54 _ O) (SC.sl (K 51 _ O)) (map_get! (l:=(allS l)) bU) O O O O H,aW O O (gF (bfalse hbo) O) fun _ _ H K=>R.eqAE (eU K 50 O) (eU K 55 O) H,aU fun _ _ H K=>R.pickF (eU K 45 O) (bfalse hbo) (eU K 56 O) O H,aU fun _ _ H K=>R.asg (eU K 57 O) O H,Zt⟩,O,O,O⟩) O (bx':=[]) O (n':=84) O (tV [(0,_),(1,_),(5,_),(6,_),(7,_),(8,_),(9,_),(10,_),(11,_)] [] 84 O O O ?_)
           refine W.l0 3 [.y 42 _,.y 43 _,.y 11 _] [] [] [(0,_),(1,_),(5,_),(6,_),(7,_),(8,_),(9,_),(10,_),(11,_)] [] 84 ⟨mU 11 O O,aU fun _ _ H K=>R.addN (j) (1) (eU K 42 O) (kI 1 O) bU H,aU fun _ _ H K=>R.asg (eU K 43 O) O H,Zt⟩ O O O O (tU O ?_)
           exact ⟨⟨(j + 1),bU⟩,(by first | (dsimp only; rw [hasT_t hbo]) | (dsimp only; rw [hasT_f (bfalse hbo)])),(by simp only []; omega)⟩
       · obtain rfl : j = (histS l (sumK (ks[k]! % 12))).length:=by omega
         refine W.exit ?_
         refine W.l0 3 [.y 28 _,.y 29 _,.y 9 _] [] [] [(0,_),(1,_),(5,_),(6,_),(7,_),(8,_),(9,_)] [] 84 ⟨mU 9 O O,aU fun _ _ H K=>R.addN (k) (1) (eU K 28 O) (kI 1 O) bU H,aU fun _ _ H K=>R.asg (eU K 29 O) O H,Zt⟩ O O O O (tU O ?_)
         exact ⟨⟨(k + 1),bU⟩,(by dsimp only; rw [kyT_s]),(by simp only []; omega)⟩
     · have hky : (kyT l ks (allS l)[i]!.id k) = (kyT l ks (allS l)[i]!.id ks.length):=by first | exact kyT_end hk (not_f hc27) | rw [show k = ks.length by omega]
       rw [hky]
       refine W.exit (W.seq ?_)
       refine W.l0 1 [.y 58 _] [] [] [(0,_),(1,_),(5,_),(6,_),(7,_),(58,_)] [] 84 ⟨mU 8 O O,Zt⟩ O O O O (tU O ?_)
       refine W.cond O (fun hc58=>?_) (fun hc58=>?_)
       · refine W.draw (m:=25) (an:=(0 :: 0 :: 0 :: 6 :: 14 :: 30 :: 0 :: 0 :: 192 :: 448 :: 960 :: 0 :: 0 :: 6144 :: 14336 :: 30720 :: 0 :: 0 :: 196608 :: 458752 :: 983040 :: 2097150 :: 4194302 :: 8388607 :: 16777215 :: [])) hP dU O (its:=(.y 59 _ :: .y 60 _ :: .y 61 _ :: .y 62 _ :: .y 63 _ :: .y 64 _ :: .y 65 _ :: .y 66 _ :: .y 67 _ :: .y 68 _ :: .y 69 _ :: .y 70 _ :: .y 71 _ :: .y 72 _ :: .y 73 _ :: .y 74 _ :: .y 75 _ :: .y 76 _ :: .y 77 _ :: .y 78 _ :: .y 79 _ :: .y 80 _ :: .y 81 _ :: .y 82 _ :: .y 6 _ :: [])) (ks:=[(23,6),(24,82),(24,59)]) (kk:=[(23,6),(24,82)]) (live:=[0,1,5,6,7]) (env':=[(0,_),(1,_),(5,_),(6,_),(7,_)]) (⟨nU O,O,⟨aU fun _ _ H K=>R.al (K 6 _ O) H dU,mU 5 O O,mU 7 O O,aU fun _ _ H K=>R.idxN (i) (SC.sl (K 60 _ O)) (evoI (eU K 61 O)) O bU H dU,aU fun _ _ H K=>R.fdE (K 62 _ O) H dU,aU fun _ _ H K=>R.ldE (K 63 _ O) (SC.sl (K 60 _ O)) (map_get! (l:=(allS l)) bU) O O O O H,mU 5 O O,mU 7 O O,aU fun _ _ H K=>R.idxN (i) (SC.sl (K 65 _ O)) (evoI (eU K 66 O)) O bU H dU,aU fun _ _ H K=>R.fdE (K 67 _ O) H dU,aU fun _ _ H K=>R.ldE (K 68 _ O) (SC.sl (K 65 _ O)) (map_get! (l:=(allS l)) bU) O O O O H,mU 5 O O,mU 7 O O,aU fun _ _ H K=>R.idxN (i) (SC.sl (K 70 _ O)) (evoI (eU K 71 O)) O bU H dU,aU fun _ _ H K=>R.fdE (K 72 _ O) H dU,aU fun _ _ H K=>R.ldE (K 73 _ O) (SC.sl (K 70 _ O)) (map_get! (l:=(allS l)) bU) O O O O H,mU 5 O O,mU 7 O O,aU fun _ _ H K=>R.idxN (i) (SC.sl (K 75 _ O)) (evoI (eU K 76 O)) O bU H dU,aU fun _ _ H K=>R.fdE (K 77 _ O) H dU,aU fun _ _ H K=>R.ldE (K 78 _ O) (SC.sl (K 75 _ O)) (map_get! (l:=(allS l)) bU) O O O O H,aU fun _ _ H K=>R.bldSE (l:=[.int 0,.arr 32 1 ((List.replicate 32 0).map D.u8),.int 0,.arr 32 1 ((List.replicate 32 0).map D.u8),.nils,.nils,.agg [.u32 0,.nils,.nils,.u32 0]]) (l':=[_,_,_,_,_,_,_]) (.cons (eU K 64 O) (.cons (eU K 69 O) (.cons (eU K 74 O) (.cons (eU K 79 O) (.nil O))))) ⟨⟨_,(eU K 64 O),O,O,O⟩,⟨⟨_,(eU K 69 O),O,O,O⟩,⟨⟨_,(eU K 74 O),O,O,szH O⟩,⟨⟨_,(eU K 79 O),O,O,O⟩,Zt⟩⟩⟩⟩ H,aU fun _ _ H K=>R.bslE (z:=72) (.cons (eU K 80 O) .nil) ⟨⟨O,O,O⟩,Zt⟩ O H dU,aU fun _ _ H K=>R.appE (Or.inr (K 59 _ O)) (K 6 _ O) (SrcO.sc (SC.sl (K 81 _ O)) (pur_lit O)) (show _ = ((touI l ks (i + 1)).map pvN) from (touI_app hc58)) (by simp only [List.length_map,List.length_cons,List.length_nil]; omega) H dU dU,aU fun _ _ H K=>R.asgO (K 82 _ O) O H dU,Zt⟩,O,O,O⟩) O (bx':=[]) O (n':=84) O (tV [(0,_),(1,_),(5,_),(6,_),(7,_)] [] 84 O O O ?_)
         refine W.l0 3 [.y 18 _,.y 19 _,.y 7 _] [] [] [(0,_),(1,_),(5,_),(6,_),(7,_)] [] 84 ⟨mU 7 O O,aU fun _ _ H K=>R.addN (i) (1) (eU K 18 O) (kI 1 O) bU H,aU fun _ _ H K=>R.asg (eU K 19 O) O H,Zt⟩ O O O O (tU O ?_)
         exact ⟨⟨(i + 1),bU⟩,(by first | (dsimp only; rw [touI_n hc58]) | rfl),(by simp only []; omega)⟩
       · refine W.skip ?_
         refine W.l0 3 [.y 18 _,.y 19 _,.y 7 _] [] [] [(0,_),(1,_),(5,_),(6,_),(7,_)] [] 84 ⟨mU 7 O O,aU fun _ _ H K=>R.addN (i) (1) (eU K 18 O) (kI 1 O) bU H,aU fun _ _ H K=>R.asg (eU K 19 O) O H,Zt⟩ O O O O (tU O ?_)
         exact ⟨⟨(i + 1),bU⟩,(by first | (dsimp only; rw [touI_n hc58]) | rfl),(by simp only []; omega)⟩
   · refine W.l0 8 [.y 20 _,.y 21 _,.y 22 _,.y 23 _,.y 24 _,.x 25,.x 26,.y 27 _] [] [] [(0,_),(1,_),(5,_),(6,_),(7,_),(8,_),(9,_),(27,_)] [] 84 ⟨mU 9 O O,mU 1 O O,aU fun _ _ H K=>R.lenE (SC.sl (K 21 _ O)) (lN _) H,aU fun _ _ H K=>R.lssN (k) (ks.length) (eU K 20 O) (eU K 22 O) H,mU 23 O O,aF O O (gF (dF h5) O),aF O O (gF (dF h5) O),aU fun _ _ H K=>R.pickF (eU K 24 O) (dF h5) (kB false O) O H,Zt⟩ O O O O (tU O ?_)
     refine W.condF O (O) ?_
     have hky : (kyT l ks (allS l)[i]!.id k) = (kyT l ks (allS l)[i]!.id ks.length):=by first | exact kyT_end hk (not_f hc27) | rw [show k = ks.length by omega]
     rw [hky]
     refine W.exit (W.seq ?_)
     refine W.l0 1 [.y 58 _] [] [] [(0,_),(1,_),(5,_),(6,_),(7,_),(58,_)] [] 84 ⟨mU 8 O O,Zt⟩ O O O O (tU O ?_)
     refine W.cond O (fun hc58=>?_) (fun hc58=>?_)
     · refine W.draw (m:=25) (an:=(0 :: 0 :: 0 :: 6 :: 14 :: 30 :: 0 :: 0 :: 192 :: 448 :: 960 :: 0 :: 0 :: 6144 :: 14336 :: 30720 :: 0 :: 0 :: 196608 :: 458752 :: 983040 :: 2097150 :: 4194302 :: 8388607 :: 16777215 :: [])) hP dU O (its:=(.y 59 _ :: .y 60 _ :: .y 61 _ :: .y 62 _ :: .y 63 _ :: .y 64 _ :: .y 65 _ :: .y 66 _ :: .y 67 _ :: .y 68 _ :: .y 69 _ :: .y 70 _ :: .y 71 _ :: .y 72 _ :: .y 73 _ :: .y 74 _ :: .y 75 _ :: .y 76 _ :: .y 77 _ :: .y 78 _ :: .y 79 _ :: .y 80 _ :: .y 81 _ :: .y 82 _ :: .y 6 _ :: [])) (ks:=[(23,6),(24,82),(24,59)]) (kk:=[(23,6),(24,82)]) (live:=[0,1,5,6,7]) (env':=[(0,_),(1,_),(5,_),(6,_),(7,_)]) (⟨nU O,O,⟨aU fun _ _ H K=>R.al (K 6 _ O) H dU,mU 5 O O,mU 7 O O,aU fun _ _ H K=>R.idxN (i) (SC.sl (K 60 _ O)) (evoI (eU K 61 O)) O bU H dU,aU fun _ _ H K=>R.fdE (K 62 _ O) H dU,aU fun _ _ H K=>R.ldE (K 63 _ O) (SC.sl (K 60 _ O)) (map_get! (l:=(allS l)) bU) O O O O H,mU 5 O O,mU 7 O O,aU fun _ _ H K=>R.idxN (i) (SC.sl (K 65 _ O)) (evoI (eU K 66 O)) O bU H dU,aU fun _ _ H K=>R.fdE (K 67 _ O) H dU,aU fun _ _ H K=>R.ldE (K 68 _ O) (SC.sl (K 65 _ O)) (map_get! (l:=(allS l)) bU) O O O O H,mU 5 O O,mU 7 O O,aU fun _ _ H K=>R.idxN (i) (SC.sl (K 70 _ O)) (evoI (eU K 71 O)) O bU H dU,aU fun _ _ H K=>R.fdE (K 72 _ O) H dU,aU fun _ _ H K=>R.ldE (K 73 _ O) (SC.sl (K 70 _ O)) (map_get! (l:=(allS l)) bU) O O O O H,mU 5 O O,mU 7 O O,aU fun _ _ H K=>R.idxN (i) (SC.sl (K 75 _ O)) (evoI (eU K 76 O)) O bU H dU,aU fun _ _ H K=>R.fdE (K 77 _ O) H dU,aU fun _ _ H K=>R.ldE (K 78 _ O) (SC.sl (K 75 _ O)) (map_get! (l:=(allS l)) bU) O O O O H,aU fun _ _ H K=>R.bldSE (l:=[.int 0,.arr 32 1 ((List.replicate 32 0).map D.u8),.int 0,.arr 32 1 ((List.replicate 32 0).map D.u8),.nils,.nils,.agg [.u32 0,.nils,.nils,.u32 0]]) (l':=[_,_,_,_,_,_,_]) (.cons (eU K 64 O) (.cons (eU K 69 O) (.cons (eU K 74 O) (.cons (eU K 79 O) (.nil O))))) ⟨⟨_,(eU K 64 O),O,O,O⟩,⟨⟨_,(eU K 69 O),O,O,O⟩,⟨⟨_,(eU K 74 O),O,O,szH O⟩,⟨⟨_,(eU K 79 O),O,O,O⟩,Zt⟩⟩⟩⟩ H,aU fun _ _ H K=>R.bslE (z:=72) (.cons (eU K 80 O) .nil) ⟨⟨O,O,O⟩,Zt⟩ O H dU,aU fun _ _ H K=>R.appE (Or.inr (K 59 _ O)) (K 6 _ O) (SrcO.sc (SC.sl (K 81 _ O)) (pur_lit O)) (show _ = ((touI l ks (i + 1)).map pvN) from (touI_app hc58)) (by simp only [List.length_map,List.length_cons,List.length_nil]; omega) H dU dU,aU fun _ _ H K=>R.asgO (K 82 _ O) O H dU,Zt⟩,O,O,O⟩) O (bx':=[]) O (n':=84) O (tV [(0,_),(1,_),(5,_),(6,_),(7,_)] [] 84 O O O ?_)
       refine W.l0 3 [.y 18 _,.y 19 _,.y 7 _] [] [] [(0,_),(1,_),(5,_),(6,_),(7,_)] [] 84 ⟨mU 7 O O,aU fun _ _ H K=>R.addN (i) (1) (eU K 18 O) (kI 1 O) bU H,aU fun _ _ H K=>R.asg (eU K 19 O) O H,Zt⟩ O O O O (tU O ?_)
       exact ⟨⟨(i + 1),bU⟩,(by first | (dsimp only; rw [touI_n hc58]) | rfl),(by simp only []; omega)⟩
     · refine W.skip ?_
       refine W.l0 3 [.y 18 _,.y 19 _,.y 7 _] [] [] [(0,_),(1,_),(5,_),(6,_),(7,_)] [] 84 ⟨mU 7 O O,aU fun _ _ H K=>R.addN (i) (1) (eU K 18 O) (kI 1 O) bU H,aU fun _ _ H K=>R.asg (eU K 19 O) O H,Zt⟩ O O O O (tU O ?_)
       exact ⟨⟨(i + 1),bU⟩,(by first | (dsimp only; rw [touI_n hc58]) | rfl),(by simp only []; omega)⟩
 · obtain rfl : i = (allS l).length:=by omega
   refine W.exit (W.seq ?_)
   refine W.l0 2 [.y 83 _,.y 4 _] [(0,6),(1,83)] [(0,6),(1,83)] [(4,_)] [] 84 ⟨aU fun _ _ H K=>R.movO (K 6 _ O) O H dU,aU fun _ _ H K=>R.asgO (K 83 _ O) O H dU,Zt⟩ O O O O (tU O ?_)
   refine W.wkS (s:=4) (d':=.sl (some 56) 72 (((touS l ks).map pvO).map pvD)) O O O (wk_pvs _ _ _) ?_
   refine W.frzS (s:=4) (d':=.sl none 72 (((touS l ks).map pvO).map pvD)) O O (brw_pvs _ _ _) ?_
   refine W.ret ?_
   exact Ends.one' (.inr O) O (O) O O Zt
end Go.Sx

namespace Go.Sx
open Go.Proofs
theorem vpays_ok (o : OutS) (sc : Hs) (ho : o.script.length <= 1000000) : Fn Tryd.prog gl 36 [outD o,hashD sc] (.bool (paysV o sc)):=by
 refine Fn.of (n:=10) Tryd.func36 rfl rfl rfl (nU rfl) fun C hC hD=>?_
 refine W.seq ?_
 refine W.l0 3 [] [] [] [(0,_),(1,_)] [] 10 Zt O O O O (⟨O,_,R.box (gV 0 O) O O (nU O),⟨O,_,R.box (gV 1 O) O O (nU O),⟨O,_,R.asg (kB false O) O (nU O),tV [(2,_),(3,_)] [(3,.var _),(2,.var _)] 10 O O O ?_⟩⟩⟩)
 refine W.seq ?_
 refine W.draw (m:=6) (an:=[0,1,3,0,15,31]) hP dU O (its:=[.y 5 _,.y 6 _,.y 7 _,.y 8 _,.y 9 _,.y 4 _]) (ks:=[]) (kk:=[]) (live:=[4]) (env':=[(4,_)]) (⟨nU O,O,⟨aU (fU 2 O O),aU (lU 5 O O O O O O O),aU fun _ _ H K=>R.callG hC (sum_ok o.script (Nat.le_trans ho dU)) (Bc (Bp (eU K 6 O) O O) Bn) (FrsR.one (frs_hash' _)) H,aU (lU 3 O O O O O O O),aU fun _ _ H K=>R.eqAE (eU K 7 O) (eU K 8 O) H,aU fun _ _ H K=>R.asg (eU K 9 O) O H,Zt⟩,O,O,O⟩) O (bx':=[(3,.var _),(2,.var _)]) O (n':=10) O (tV [(4,_)] [(3,.var _),(2,.var _)] 10 O O O ?_)
 refine W.ret ?_
 exact Ends.one' (.inr O) O (O) O O Zt
theorem paying_ok (l : List PvS) (hl : allPv l) (sc : Hs) : FnB Tryd.prog gl 31 [.sl none 72 (l.map pvD),hashD sc] [] (.map 10) [] [(10,mpK placeK natD (cntL (pyI l sc l.length)))]:=by
 refine FnB.of (n:=42) (ids:=[10]) Tryd.func31 rfl rfl rfl (nU rfl) fun C hC hD=>?_
 have hl1:=hl.1
 refine W.seq ?_
 refine W.l0 2 [] [] [] [(0,_),(1,_)] [] 42 Zt O O O O (⟨O,_,R.box (gV 1 O) O O (nU O),⟨O,_,R.asg (show ev _ _ (.const (.map none)) = some (.nilmap) from O) O (nU O),tV [(0,_),(3,_)] [(3,.var _)] 42 O O O ?_⟩⟩)
 refine W.seq ?_
 refine W.l0 2 [] [] [] [(0,_),(3,_)] [(3,.var _)] 42 Zt O O O O (⟨O,_,R.mkmapK placeK natD O (nU O),⟨O,_,R.asg (gV 10 O) O (nU O),tV [(0,_),(3,_),(5,_)] [(10,mpK placeK natD _),(3,.var _)] 42 O O O ?_⟩⟩)
 refine W.seq (W.seq ?_)
 refine W.l0 3 [.y 11 _,.y 12 _,.y 13 _] [] [] [(3,_),(5,_),(11,_),(12,_),(13,_)] [(10,mpK placeK natD _),(3,.var _)] 42 ⟨mU 0 O O,aU fun _ _ H K=>R.lenE (SC.sl (K 11 _ O)) (lN _) H,aU fun _ _ H _=>R.mov (kI 0 O) O H,Zt⟩ O O O O (tU O ?_)
 refine W.block ?_
 refine W.loop (α:={q__ : Nat // q__ <= l.length}) (fun q__=>⟨42,[(3,.ptr 3 0 []),(5,.map 10),(11,.sl none 72 (l.map pvD)),(12,.int ((l.length : Nat) : Int)),(13,.int ((q__.1 : Nat) : Int))],[(10,mpK placeK natD (cntL (pyI l sc q__.1))),(3,.var (hashD sc))]⟩) (fun q__=>l.length - q__.1) ⟨(0),bU⟩ O ?_
 rintro ⟨i,hi⟩
 show W _ _ _ _ ⟨42,[(3,.ptr 3 0 []),(5,.map 10),(11,.sl none 72 (l.map pvD)),(12,.int ((l.length : Nat) : Int)),(13,.int ((i : Nat) : Int))],[(10,mpK placeK natD (cntL (pyI l sc i))),(3,.var (hashD sc))]⟩
 have hi : i <= l.length:=hi
 have hpi:=fun (h : i < l.length)=>hl.get h
 refine W.seq ?_
 refine W.l0 1 [.y 14 _] [] [] [(3,_),(5,_),(11,_),(12,_),(13,_),(14,_)] [(10,mpK placeK natD _),(3,.var _)] 42 ⟨aU fun _ _ H K=>R.lssN (i) (l.length) (eU K 13 O) (eU K 12 O) H,Zt⟩ O O O O (tU O ?_)
 refine W.seq ?_
 refine W.condD O (fun hc14=>?_) (fun hc14=>?_)
 · refine W.skip (W.seq (W.block (W.seq ?_)))
   have hpi:=hpi hc14
   have hpo:=hpi.outs
   refine W.l0 4 [.y 15 _,.y 16 _] [] [] [(3,_),(5,_),(11,_),(12,_),(13,_),(16,_)] [(10,mpK placeK natD _),(3,.var _)] 42 ⟨aU fun _ _ H K=>R.idxN (i) (SC.sl (K 11 _ O)) (evoI (eU K 13 O)) O bU H dU,aU fun _ _ H K=>R.ldE (K 15 _ O) (SC.sl (K 11 _ O)) (map_get! (l:=l) bU) O O O O H,Zt⟩ O O O O (⟨O,_,R.alloc O (nU O),⟨O,_,R.stZ (gU 7 O) (xU 7 O) O (gV 16 O) (by rfl) (by rfl) (by rfl) (by rfl) O,tV [(3,_),(5,_),(7,_),(11,_),(12,_),(13,_)] [(7,.var _),(10,mpK placeK natD _),(3,.var _)] 42 O O O ?_⟩⟩)
   refine W.seq ?_
   refine W.l0 5 [.y 17 _,.y 18 _,.y 19 _,.y 20 _,.y 21 _] [] [] [(3,_),(5,_),(7,_),(11,_),(12,_),(13,_),(19,_),(20,_),(21,_)] [(7,.var _),(10,mpK placeK natD _),(3,.var _)] 42 ⟨aU (fU 7 O O),aU (fU 17 O O),aU (lU 18 O O O O O O O),aU fun _ _ H K=>R.lenE (SC.sl (K 19 _ O)) (lN _) H,aU fun _ _ H _=>R.mov (kI 0 O) O H,Zt⟩ O O O O (tU O ?_)
   refine W.block ?_
   refine W.loop (α:={q__ : Nat // q__ <= l[i]!.t.outs.length}) (fun q__=>⟨42,[(3,.ptr 3 0 []),(5,.map 10),(7,.ptr 7 0 []),(11,.sl none 72 (l.map pvD)),(12,.int ((l.length : Nat) : Int)),(13,.int ((i : Nat) : Int)),(19,.sl none 2 (l[i]!.t.outs.map outD)),(20,.int ((l[i]!.t.outs.length : Nat) : Int)),(21,.int ((q__.1 : Nat) : Int))],[(7,.var (pvD l[i]!)),(10,mpK placeK natD (cntL (pyI l sc i ++ pyK l[i]! sc q__.1))),(3,.var (hashD sc))]⟩) (fun q__=>l[i]!.t.outs.length - q__.1) ⟨(0),bU⟩ (by rw [pyK,List.append_nil] <;> rfl) ?_
   rintro ⟨n,hn⟩
   show W _ _ _ _ ⟨42,[(3,.ptr 3 0 []),(5,.map 10),(7,.ptr 7 0 []),(11,.sl none 72 (l.map pvD)),(12,.int ((l.length : Nat) : Int)),(13,.int ((i : Nat) : Int)),(19,.sl none 2 (l[i]!.t.outs.map outD)),(20,.int ((l[i]!.t.outs.length : Nat) : Int)),(21,.int ((n : Nat) : Int))],[(7,.var (pvD l[i]!)),(10,mpK placeK natD (cntL (pyI l sc i ++ pyK l[i]! sc n))),(3,.var (hashD sc))]⟩
   have hn : n <= l[i]!.t.outs.length:=hn
   refine W.seq ?_
   refine W.l0 1 [.y 22 _] [] [] [(3,_),(5,_),(7,_),(11,_),(12,_),(13,_),(19,_),(20,_),(21,_),(22,_)] [(7,.var _),(10,mpK placeK natD _),(3,.var _)] 42 ⟨aU fun _ _ H K=>R.lssN (n) (l[i]!.t.outs.length) (eU K 21 O) (eU K 20 O) H,Zt⟩ O O O O (tU O ?_)
   refine W.seq ?_
   refine W.condD O (fun hc22=>?_) (fun hc22=>?_)
   · refine W.skip (W.seq (W.block (W.seq ?_)))
     refine W.l0 6 [.y 23 _,.y 24 _,.y 25 _] [] [] [(3,_),(5,_),(7,_),(11,_),(12,_),(13,_),(19,_),(20,_),(21,_),(23,_),(25,_)] [(7,.var _),(10,mpK placeK natD _),(3,.var _)] 42 ⟨mU 21 O O,aU fun _ _ H K=>R.idxN (n) (SC.sl (K 19 _ O)) (evoI (eU K 21 O)) O bU H dU,aU fun _ _ H K=>R.ldE (K 24 _ O) (SC.sl (K 19 _ O)) (map_get! (l:=l[i]!.t.outs) bU) O O O O H,Zt⟩ O O O O (⟨O,_,R.alloc O (nU O),⟨O,_,R.asg (gV 23 O) O (nU O),⟨O,_,R.stZ (gU 9 O) (xU 9 O) O (gV 25 O) (by rfl) (by rfl) (by rfl) (by rfl) O,tV [(3,_),(5,_),(7,_),(8,_),(9,_),(11,_),(12,_),(13,_),(19,_),(20,_),(21,_)] [(9,.var _),(7,.var _),(10,mpK placeK natD _),(3,.var _)] 42 O O O ?_⟩⟩⟩)
     refine W.seq ?_
     refine W.l0 3 [.y 26 _,.y 27 _,.y 28 _] [] [] [(3,_),(5,_),(7,_),(8,_),(11,_),(12,_),(13,_),(19,_),(20,_),(21,_),(28,_)] [(9,.var _),(7,.var _),(10,mpK placeK natD _),(3,.var _)] 42 ⟨aU (lU 9 O O O O O O O),aU (lU 3 O O O O O O O),aU fun _ _ H K=>R.callG hC (vpays_ok l[i]!.t.outs[n]! sc (hpi.out (by omega))) (Bc (Bp (eU K 26 O) O O) (Bc (Bp (eU K 27 O) O O) Bn)) (FrsR.one (.bool _)) H,Zt⟩ O O O O (tU O ?_)
     refine W.cond O (fun hc28=>?_) (fun hc28=>?_)
     · refine W.dropBP [3,7,10] (bx':=[(7,.var _),(10,mpK placeK natD _),(3,.var _)]) O O ⟨O,⟨okMpK (fun _=>rfl) (fun _=>rfl),⟨O,Zt⟩⟩⟩ (pin_sub hD O) ?_
       have hkg:=cnt_le (pyI l sc i ++ pyK l[i]! sc n) (l[i]!.id,nK n)
       have hpl:=pyI_len hl sc i (by omega)
       have hpk:=pyK_len l[i]! sc n
       rw [List.length_append] at hkg
       refine W.drawC (m:=10) (an:=[0,0,2,0,8,30,63,127,63,319,1023]) (its:=[.y 29 _,.y 30 _,.y 31 _,.y 32 _,.y 33 _,.y 34 _,.y 35 _,.y 36 _,.y 37 _,.y 38 _]) (ks:=[]) (kk:=[]) (live:=[3,5,7,11,12,13,19,20,21,29,36,38]) (env':=[(3,_),(5,_),(7,_),(11,_),(12,_),(13,_),(19,_),(20,_),(21,_),(29,_),(36,_),(38,_)]) (bx1:=[(7,.var _),(10,mpK placeK natD _),(3,.var _)]) [(7,_),(3,_)] 8 [10] hP dU O ⟨nU O,O,O,O⟩ ⟨O,⟨O,Zt⟩⟩ (            ⟨⟨O,O,fun _ τ hb ht hτ=>R.mov (evt (hτ 5 _ O)) O ht⟩,⟨⟨O,O,fun _ τ hb ht hτ=>R.fdP (hτ 7 _ O) ht⟩,⟨⟨O,O,fun _ τ hb ht hτ=>R.ldP (hτ 30 _ O) (hb 7 _ O) O O O O ht⟩,⟨⟨O,O,fun _ τ hb ht hτ=>R.mov (evt (hτ 8 _ O)) O ht⟩,⟨⟨O,O,fun _ τ hb ht hτ=>R.convE (d:=.u32 (nK n)) (evt (hτ 32 _ O)) O (O) ht⟩,⟨⟨O,O,fun _ τ hb ht hτ=>R.bldSE (l:=[.arr 32 1 ((List.replicate 32 0).map D.u8),.u32 0]) (l':=[_,_]) (.cons (evt (hτ 31 _ O)) (.cons (evt (hτ 33 _ O)) (.nil O))) ⟨⟨_,(evt (hτ 31 _ O)),O,O,O⟩,⟨⟨_,(evt (hτ 33 _ O)),O,O,O⟩,Zt⟩⟩ ht⟩,⟨⟨O,O,fun _ τ hb ht hτ=>R.lookKe (m:=(cntL (pyI l sc i ++ pyK l[i]! sc n))) (k:=(l[i]!.id,nK n)) (z:=0) place_key (hτ 29 _ O) (hb.two O O) (evt (hτ 34 _ O)) O O (fun _=>rfl) ht⟩,⟨⟨O,O,fun _ τ hb ht hτ=>R.addN ((kGet 0 (cntL (pyI l sc i ++ pyK l[i]! sc n)) (l[i]!.id,nK n))) (1) (evt (hτ 35 _ O)) (kI 1 O) bU ht⟩,⟨⟨O,O,O,(SpC.mentryK (m:=(cntL (pyI l sc i ++ pyK l[i]! sc n))) (k:=(l[i]!.id,nK n)) (z:=0) place_key place_same O O (fun τ hτ=>(evt (hτ 34 _ O))) O O (fun _=>rfl) O)⟩,⟨⟨O,O,fun _ τ hb ht hτ=>R.ext (hτ 37 _ O) O O ht⟩,Zt⟩⟩⟩⟩⟩⟩⟩⟩⟩⟩) O O O (nU O) ⟨O,⟨O,Zt⟩⟩ O (n':=42) O (⟨O,_,R.estoreK (i:=kIdx (cntL (pyI l sc i ++ pyK l[i]! sc n)) (l[i]!.id,nK n)) (k:=(l[i]!.id,nK n)) (u:=(kGet 0 (cntL (pyI l sc i ++ pyK l[i]! sc n)) (l[i]!.id,nK n) + 1)) (gU 29 O) (xU 10 O) (gV 38 O) (gV 36 O) O O (kEnt_key 0 _ _),⟨[3,5,7,11,12,13,19,20,21],[(3,_),(5,_),(7,_),(11,_),(12,_),(13,_),(19,_),(20,_),(21,_)],[(7,.var _),(10,mpK placeK natD _),(3,.var _)],42,O,O,O, ?_⟩⟩)
       refine W.l0 2 [.y 39 _,.y 21 _] [] [] [(3,_),(5,_),(7,_),(11,_),(12,_),(13,_),(19,_),(20,_),(21,_)] [(7,.var _),(10,mpK placeK natD _),(3,.var _)] 42 ⟨aU fun _ _ H K=>R.addN (n) (1) (eU K 21 O) (kI 1 O) bU H,mU 39 O O,Zt⟩ O O O O (tU O ?_)
       exact ⟨⟨(n + 1),bU⟩,(by first | (dsimp only; rw [cnt_y _ hc28] <;> rfl) | (dsimp only; rw [pyK_n hc28])),(by simp only []; omega)⟩
     · refine W.skip ?_
       refine W.dropBP [3,7,10] (bx':=[(7,.var _),(10,mpK placeK natD _),(3,.var _)]) O O ⟨O,⟨okMpK (fun _=>rfl) (fun _=>rfl),⟨O,Zt⟩⟩⟩ (pin_sub hD O) ?_
       refine W.l0 2 [.y 39 _,.y 21 _] [] [] [(3,_),(5,_),(7,_),(11,_),(12,_),(13,_),(19,_),(20,_),(21,_)] [(7,.var _),(10,mpK placeK natD _),(3,.var _)] 42 ⟨aU fun _ _ H K=>R.addN (n) (1) (eU K 21 O) (kI 1 O) bU H,mU 39 O O,Zt⟩ O O O O (tU O ?_)
       exact ⟨⟨(n + 1),bU⟩,(by first | (dsimp only; rw [cnt_y _ hc28] <;> rfl) | (dsimp only; rw [pyK_n hc28])),(by simp only []; omega)⟩
   · obtain rfl : n = l[i]!.t.outs.length:=by omega
     refine W.exit ?_
     refine W.dropS (live:=[3,5,11,12,13]) (env':=[(3,_),(5,_),(11,_),(12,_),(13,_)]) (bx':=[(7,.var _),(10,mpK placeK natD _),(3,.var _)]) (n':=42) O O O ?_
     refine W.dropBP [3,10] (bx':=[(10,mpK placeK natD _),(3,.var _)]) O O ⟨okMpK (fun _=>rfl) (fun _=>rfl),⟨O,Zt⟩⟩ (pin_sub hD O) ?_
     refine W.l0 2 [.y 40 _,.y 13 _] [] [] [(3,_),(5,_),(11,_),(12,_),(13,_)] [(10,mpK placeK natD _),(3,.var _)] 42 ⟨aU fun _ _ H K=>R.addN (i) (1) (eU K 13 O) (kI 1 O) bU H,mU 40 O O,Zt⟩ O O O O (tU O ?_)
     exact ⟨⟨(i + 1),bU⟩,rfl,(by simp only []; omega)⟩
 · obtain rfl : i = l.length:=by omega
   refine W.exit (W.seq ?_)
   refine W.l0 2 [.y 41 _,.y 4 _] [] [] [(4,_)] [(10,mpK placeK natD _),(3,.var _)] 42 ⟨mU 5 O O,aU fun _ _ H K=>R.asg (eU K 41 O) O H,Zt⟩ O O O O (tU O ?_)
   refine W.ret ?_
   exact EndsB.one' (.inr O) O (O) O Zt O O (O) ⟨okPm _ _,Zt⟩ O
end Go.Sx

namespace Go.Sx
open Go.Proofs
theorem spent_ok (l : List PvS) (hl : allPv l) : FnB Tryd.prog gl 35 [.sl none 72 (l.map pvD)] [] (.map 8) [] [(8,mpK placeK natD (cntL (spI l l.length)))]:=by
 refine FnB.of (n:=33) (ids:=[8]) Tryd.func35 rfl rfl rfl (nU rfl) fun C hC hD=>?_
 have hl1:=hl.1
 refine W.seq ?_
 refine W.l0 1 [.y 2 _] [] [] [(0,_)] [] 33 ⟨aU fun _ _ H _=>R.asg (show ev _ _ (.const (.map none)) = some (.nilmap) from O) O H,Zt⟩ O O O O (tU O ?_)
 refine W.seq ?_
 refine W.l0 2 [] [] [] [(0,_)] [] 33 Zt O O O O (⟨O,_,R.mkmapK placeK natD O (nU O),⟨O,_,R.asg (gV 8 O) O (nU O),tV [(0,_),(3,_)] [(8,mpK placeK natD _)] 33 O O O ?_⟩⟩)
 refine W.seq (W.seq ?_)
 refine W.l0 3 [.y 9 _,.y 10 _,.y 11 _] [] [] [(3,_),(9,_),(10,_),(11,_)] [(8,mpK placeK natD _)] 33 ⟨mU 0 O O,aU fun _ _ H K=>R.lenE (SC.sl (K 9 _ O)) (lN _) H,aU fun _ _ H _=>R.mov (kI 0 O) O H,Zt⟩ O O O O (tU O ?_)
 refine W.block ?_
 refine W.loop (α:={q__ : Nat // q__ <= l.length}) (fun q__=>⟨33,[(3,.map 8),(9,.sl none 72 (l.map pvD)),(10,.int ((l.length : Nat) : Int)),(11,.int ((q__.1 : Nat) : Int))],[(8,mpK placeK natD (cntL (spI l q__.1)))]⟩) (fun q__=>l.length - q__.1) ⟨(0),bU⟩ O ?_
 rintro ⟨i,hi⟩
 show W _ _ _ _ ⟨33,[(3,.map 8),(9,.sl none 72 (l.map pvD)),(10,.int ((l.length : Nat) : Int)),(11,.int ((i : Nat) : Int))],[(8,mpK placeK natD (cntL (spI l i)))]⟩
 have hi : i <= l.length:=hi
 have hpi:=fun (h : i < l.length)=>hl.get h
 refine W.seq ?_
 refine W.l0 1 [.y 12 _] [] [] [(3,_),(9,_),(10,_),(11,_),(12,_)] [(8,mpK placeK natD _)] 33 ⟨aU fun _ _ H K=>R.lssN (i) (l.length) (eU K 11 O) (eU K 10 O) H,Zt⟩ O O O O (tU O ?_)
 refine W.seq ?_
 refine W.condD O (fun hc12=>?_) (fun hc12=>?_)
 · refine W.skip (W.seq (W.block (W.seq ?_)))
   have hpi:=hpi hc12
   have hpo:=hpi.ins
   refine W.l0 4 [.y 13 _,.y 14 _] [] [] [(3,_),(9,_),(10,_),(11,_),(14,_)] [(8,mpK placeK natD _)] 33 ⟨aU fun _ _ H K=>R.idxN (i) (SC.sl (K 9 _ O)) (evoI (eU K 11 O)) O bU H dU,aU fun _ _ H K=>R.ldE (K 13 _ O) (SC.sl (K 9 _ O)) (map_get! (l:=l) bU) O O O O H,Zt⟩ O O O O (⟨O,_,R.alloc O (nU O),⟨O,_,R.stZ (gU 5 O) (xU 5 O) O (gV 14 O) (by rfl) (by rfl) (by rfl) (by rfl) O,tV [(3,_),(5,_),(9,_),(10,_),(11,_)] [(5,.var _),(8,mpK placeK natD _)] 33 O O O ?_⟩⟩)
   refine W.seq ?_
   refine W.l0 5 [.y 15 _,.y 16 _,.y 17 _,.y 18 _,.y 19 _] [] [] [(3,_),(9,_),(10,_),(11,_),(17,_),(18,_),(19,_)] [(5,.var _),(8,mpK placeK natD _)] 33 ⟨aU (fU 5 O O),aU (fU 15 O O),aU (lU 16 O O O O O O O),aU fun _ _ H K=>R.lenE (SC.sl (K 17 _ O)) (lN _) H,aU fun _ _ H _=>R.mov (kI 0 O) O H,Zt⟩ O O O O (tU O ?_)
   refine W.block ?_
   refine W.loop (α:={q__ : Nat // q__ <= l[i]!.t.ins.length}) (fun q__=>⟨33,[(3,.map 8),(9,.sl none 72 (l.map pvD)),(10,.int ((l.length : Nat) : Int)),(11,.int ((i : Nat) : Int)),(17,.sl none 36 (l[i]!.t.ins.map inD)),(18,.int ((l[i]!.t.ins.length : Nat) : Int)),(19,.int ((q__.1 : Nat) : Int))],[(5,.var (pvD l[i]!)),(8,mpK placeK natD (cntL (spI l i ++ spK l[i]! q__.1)))]⟩) (fun q__=>l[i]!.t.ins.length - q__.1) ⟨(0),bU⟩ (by rw [spK,List.append_nil] <;> rfl) ?_
   rintro ⟨n,hn⟩
   show W _ _ _ _ ⟨33,[(3,.map 8),(9,.sl none 72 (l.map pvD)),(10,.int ((l.length : Nat) : Int)),(11,.int ((i : Nat) : Int)),(17,.sl none 36 (l[i]!.t.ins.map inD)),(18,.int ((l[i]!.t.ins.length : Nat) : Int)),(19,.int ((n : Nat) : Int))],[(5,.var (pvD l[i]!)),(8,mpK placeK natD (cntL (spI l i ++ spK l[i]! n)))]⟩
   have hn : n <= l[i]!.t.ins.length:=hn
   refine W.seq ?_
   refine W.l0 1 [.y 20 _] [] [] [(3,_),(9,_),(10,_),(11,_),(17,_),(18,_),(19,_),(20,_)] [(5,.var _),(8,mpK placeK natD _)] 33 ⟨aU fun _ _ H K=>R.lssN (n) (l[i]!.t.ins.length) (eU K 19 O) (eU K 18 O) H,Zt⟩ O O O O (tU O ?_)
   refine W.seq ?_
   refine W.condD O (fun hc20=>?_) (fun hc20=>?_)
   · refine W.skip (W.seq (W.block (W.seq ?_)))
     refine W.l0 4 [.y 21 _,.y 22 _] [] [] [(3,_),(9,_),(10,_),(11,_),(17,_),(18,_),(19,_),(22,_)] [(5,.var _),(8,mpK placeK natD _)] 33 ⟨aU fun _ _ H K=>R.idxN (n) (SC.sl (K 17 _ O)) (evoI (eU K 19 O)) O bU H dU,aU fun _ _ H K=>R.ldE (K 21 _ O) (SC.sl (K 17 _ O)) (map_get! (l:=l[i]!.t.ins) bU) O O O O H,Zt⟩ O O O O (⟨O,_,R.alloc O (nU O),⟨O,_,R.stZ (gU 7 O) (xU 7 O) O (gV 22 O) (by rfl) (by rfl) (by rfl) (by rfl) O,tV [(3,_),(7,_),(9,_),(10,_),(11,_),(17,_),(18,_),(19,_)] [(7,.var _),(5,.var _),(8,mpK placeK natD _)] 33 O O O ?_⟩⟩)
     have hkg:=cnt_le (spI l i ++ spK l[i]! n) (plc l[i]!.t.ins[n]!)
     have hpl:=spI_len hl i (by omega)
     have hpk:=spK_len l[i]! n
     rw [List.length_append] at hkg
     refine W.drawC (m:=7) (an:=[0,0,2,7,15,7,39,127]) (its:=[.y 23 _,.y 24 _,.y 25 _,.y 26 _,.y 27 _,.y 28 _,.y 29 _]) (ks:=[]) (kk:=[]) (live:=[3,9,10,11,17,18,19,23,27,29]) (env':=[(3,_),(9,_),(10,_),(11,_),(17,_),(18,_),(19,_),(23,_),(27,_),(29,_)]) (bx1:=[(7,.var _),(5,.var _),(8,mpK placeK natD _)]) [(7,_),(5,_)] 5 [8] hP dU O ⟨nU O,O,O,O⟩ ⟨O,⟨O,Zt⟩⟩ (          ⟨⟨O,O,fun _ τ hb ht hτ=>R.mov (evt (hτ 3 _ O)) O ht⟩,⟨⟨O,O,fun _ τ hb ht hτ=>R.fdP (hτ 7 _ O) ht⟩,⟨⟨O,O,fun _ τ hb ht hτ=>R.ldP (hτ 24 _ O) (hb 7 _ O) O O O O ht⟩,⟨⟨O,O,fun _ τ hb ht hτ=>R.lookKe (m:=(cntL (spI l i ++ spK l[i]! n))) (k:=(plc l[i]!.t.ins[n]!)) (z:=0) place_key (hτ 23 _ O) (hb.two O O) (evt (hτ 25 _ O)) O O (fun _=>rfl) ht⟩,⟨⟨O,O,fun _ τ hb ht hτ=>R.addN ((kGet 0 (cntL (spI l i ++ spK l[i]! n)) (plc l[i]!.t.ins[n]!))) (1) (evt (hτ 26 _ O)) (kI 1 O) bU ht⟩,⟨⟨O,O,O,(SpC.mentryK (m:=(cntL (spI l i ++ spK l[i]! n))) (k:=(plc l[i]!.t.ins[n]!)) (z:=0) place_key place_same O O (fun τ hτ=>(evt (hτ 25 _ O))) O O (fun _=>rfl) O)⟩,⟨⟨O,O,fun _ τ hb ht hτ=>R.ext (hτ 28 _ O) O O ht⟩,Zt⟩⟩⟩⟩⟩⟩⟩) O O O (nU O) ⟨O,⟨O,Zt⟩⟩ O (n':=33) O (⟨O,_,R.estoreK (i:=kIdx (cntL (spI l i ++ spK l[i]! n)) (plc l[i]!.t.ins[n]!)) (k:=(plc l[i]!.t.ins[n]!)) (u:=(kGet 0 (cntL (spI l i ++ spK l[i]! n)) (plc l[i]!.t.ins[n]!) + 1)) (gU 23 O) (xU 8 O) (gV 29 O) (gV 27 O) O O (kEnt_key 0 _ _),⟨[3,9,10,11,17,18,19],[(3,_),(9,_),(10,_),(11,_),(17,_),(18,_),(19,_)],[(7,.var _),(5,.var _),(8,mpK placeK natD _)],33,O,O,O, ?_⟩⟩)
     refine W.dropBP [5,8] (bx':=[(5,.var _),(8,mpK placeK natD _)]) O O ⟨O,⟨okMpK (fun _=>rfl) (fun _=>rfl),Zt⟩⟩ (pin_sub hD O) ?_
     refine W.l0 2 [.y 30 _,.y 19 _] [] [] [(3,_),(9,_),(10,_),(11,_),(17,_),(18,_),(19,_)] [(5,.var _),(8,mpK placeK natD _)] 33 ⟨aU fun _ _ H K=>R.addN (n) (1) (eU K 19 O) (kI 1 O) bU H,mU 30 O O,Zt⟩ O O O O (tU O ?_)
     exact ⟨⟨(n + 1),bU⟩,(by dsimp only; rw [cnt_s] <;> rfl),(by simp only []; omega)⟩
   · obtain rfl : n = l[i]!.t.ins.length:=by omega
     refine W.exit ?_
     refine W.dropBP [8] (bx':=[(8,mpK placeK natD _)]) O O ⟨okMpK (fun _=>rfl) (fun _=>rfl),Zt⟩ (pin_sub hD O) ?_
     refine W.l0 2 [.y 31 _,.y 11 _] [] [] [(3,_),(9,_),(10,_),(11,_)] [(8,mpK placeK natD _)] 33 ⟨aU fun _ _ H K=>R.addN (i) (1) (eU K 11 O) (kI 1 O) bU H,mU 31 O O,Zt⟩ O O O O (tU O ?_)
     exact ⟨⟨(i + 1),bU⟩,rfl,(by simp only []; omega)⟩
 · obtain rfl : i = l.length:=by omega
   refine W.exit (W.seq ?_)
   refine W.l0 2 [.y 32 _,.y 2 _] [] [] [(2,_)] [(8,mpK placeK natD _)] 33 ⟨mU 3 O O,aU fun _ _ H K=>R.asg (eU K 32 O) O H,Zt⟩ O O O O (tU O ?_)
   refine W.ret ?_
   exact EndsB.one' (.inr O) O (O) O Zt O O (O) ⟨okPm _ _,Zt⟩ O
end Go.Sx

namespace Go.Sx
open Go.Proofs
theorem touches_ok (ks : List Plc) (p : PvS) (sc : Hs) (hp : p.wf) : FnB Tryd.prog gl 32 [.map 0,pvD p,hashD sc] [(0,mpK placeK natD (cntL ks))] (.bool (tchV ks p sc)) [(0,mpK placeK natD (cntL ks))] []:=by
 refine FnB.of (n:=37) (ids:=[0]) Tryd.func32 rfl rfl rfl (nU rfl) fun C hC hD=>?_
 have hpo:=hp.outs
 have hpn:=hp.ins
 refine W.seq ?_
 refine W.l0 3 [] [] [] [(0,_),(1,_),(2,_)] [(0,mpK placeK natD _)] 37 Zt O O O O (⟨O,_,R.box (gV 1 O) O O (nU O),⟨O,_,R.box (gV 2 O) O O (nU O),⟨O,_,R.asg (kB false O) O (nU O),tV [(0,_),(4,_),(5,_)] [(5,.var _),(4,.var _),(0,mpK placeK natD _)] 37 O O O ?_⟩⟩⟩)
 refine W.seq (W.seq ?_)
 refine W.l0 5 [.y 11 _,.y 12 _,.y 13 _,.y 14 _,.y 15 _] [] [] [(0,_),(4,_),(5,_),(13,_),(14,_),(15,_)] [(5,.var _),(4,.var _),(0,mpK placeK natD _)] 37 ⟨aU (fU 4 O O),aU (fU 11 O O),aU (lU 12 O O O O O O O),aU fun _ _ H K=>R.lenE (SC.sl (K 13 _ O)) (lN _) H,aU fun _ _ H _=>R.mov (kI 0 O) O H,Zt⟩ O O O O (tU O ?_)
 refine W.block ?_
 refine W.loop (α:={q__ : Nat // q__ <= p.t.outs.length /\ orV p.t sc q__ = false}) (fun q__=>⟨37,[(0,.map 0),(4,.ptr 4 0 []),(5,.ptr 5 0 []),(13,.sl none 2 (p.t.outs.map outD)),(14,.int ((p.t.outs.length : Nat) : Int)),(15,.int ((q__.1 : Nat) : Int))],[(5,.var (hashD sc)),(4,.var (pvD p)),(0,mpK placeK natD (cntL ks))]⟩) (fun q__=>p.t.outs.length - q__.1) ⟨(0),⟨Nat.zero_le _,O⟩⟩ O ?_
 rintro ⟨n,⟨hn,hno⟩⟩
 show W _ _ _ _ ⟨37,[(0,.map 0),(4,.ptr 4 0 []),(5,.ptr 5 0 []),(13,.sl none 2 (p.t.outs.map outD)),(14,.int ((p.t.outs.length : Nat) : Int)),(15,.int ((n : Nat) : Int))],[(5,.var (hashD sc)),(4,.var (pvD p)),(0,mpK placeK natD (cntL ks))]⟩
 have hn : n <= p.t.outs.length:=hn
 have hno : orV p.t sc n = false:=hno
 refine W.seq ?_
 refine W.l0 1 [.y 16 _] [] [] [(0,_),(4,_),(5,_),(13,_),(14,_),(15,_),(16,_)] [(5,.var _),(4,.var _),(0,mpK placeK natD _)] 37 ⟨aU fun _ _ H K=>R.lssN (n) (p.t.outs.length) (eU K 15 O) (eU K 14 O) H,Zt⟩ O O O O (tU O ?_)
 refine W.seq ?_
 refine W.condD O (fun hc16=>?_) (fun hc16=>?_)
 · refine W.skip (W.seq (W.block (W.seq ?_)))
   refine W.l0 4 [.y 17 _,.y 18 _] [] [] [(0,_),(4,_),(5,_),(13,_),(14,_),(15,_),(18,_)] [(5,.var _),(4,.var _),(0,mpK placeK natD _)] 37 ⟨aU fun _ _ H K=>R.idxN (n) (SC.sl (K 13 _ O)) (evoI (eU K 15 O)) O bU H dU,aU fun _ _ H K=>R.ldE (K 17 _ O) (SC.sl (K 13 _ O)) (map_get! (l:=p.t.outs) bU) O O O O H,Zt⟩ O O O O (⟨O,_,R.alloc O (nU O),⟨O,_,R.stZ (gU 8 O) (xU 8 O) O (gV 18 O) (by rfl) (by rfl) (by rfl) (by rfl) O,tV [(0,_),(4,_),(5,_),(8,_),(13,_),(14,_),(15,_)] [(8,.var _),(5,.var _),(4,.var _),(0,mpK placeK natD _)] 37 O O O ?_⟩⟩)
   refine W.seq ?_
   refine W.l0 3 [.y 19 _,.y 20 _,.y 21 _] [] [] [(0,_),(4,_),(5,_),(13,_),(14,_),(15,_),(21,_)] [(8,.var _),(5,.var _),(4,.var _),(0,mpK placeK natD _)] 37 ⟨aU (lU 8 O O O O O O O),aU (lU 5 O O O O O O O),aU fun _ _ H K=>R.callG hC (vpays_ok p.t.outs[n]! sc (hp.out (by omega))) (Bc (Bp (eU K 19 O) O O) (Bc (Bp (eU K 20 O) O O) Bn)) (FrsR.one (.bool _)) H,Zt⟩ O O O O (tU O ?_)
   refine W.cond O (fun hc21=>?_) (fun hc21=>?_)
   · refine W.seq ?_
     refine W.dropBP [0,4,5] (bx':=[(5,.var _),(4,.var _),(0,mpK placeK natD _)]) O O ⟨O,⟨O,⟨okMpK (fun _=>rfl) (fun _=>rfl),Zt⟩⟩⟩ (pin_sub hD O) ?_
     refine W.l0 1 [.y 6 _] [] [] [(6,_)] [(5,.var _),(4,.var _),(0,mpK placeK natD _)] 37 ⟨aU fun _ _ H _=>R.asg (kB true O) O H,Zt⟩ O O O O (tU O ?_)
     refine W.ret ?_
     exact EndsB.one' (.inr O) O (by rw [tch_1 hc21 hc16]) O Zt O O (O) ⟨okPm _ _,Zt⟩ O
   · refine W.skip ?_
     refine W.dropBP [0,4,5] (bx':=[(5,.var _),(4,.var _),(0,mpK placeK natD _)]) O O ⟨O,⟨O,⟨okMpK (fun _=>rfl) (fun _=>rfl),Zt⟩⟩⟩ (pin_sub hD O) ?_
     refine W.l0 2 [.y 22 _,.y 15 _] [] [] [(0,_),(4,_),(5,_),(13,_),(14,_),(15,_)] [(5,.var _),(4,.var _),(0,mpK placeK natD _)] 37 ⟨aU fun _ _ H K=>R.addN (n) (1) (eU K 15 O) (kI 1 O) bU H,mU 22 O O,Zt⟩ O O O O (tU O ?_)
     exact ⟨⟨(n + 1),⟨(by show n + 1 <= p.t.outs.length; omega),orV_n hno hc21⟩⟩,rfl,(by simp only []; omega)⟩
 · obtain rfl : n = p.t.outs.length:=by omega
   have hnoA:=hno
   refine W.exit (W.seq (W.seq ?_))
   refine W.l0 5 [.y 23 _,.y 24 _,.y 25 _,.y 26 _,.y 27 _] [] [] [(0,_),(25,_),(26,_),(27,_)] [(5,.var _),(4,.var _),(0,mpK placeK natD _)] 37 ⟨aU (fU 4 O O),aU (fU 23 O O),aU (lU 24 O O O O O O O),aU fun _ _ H K=>R.lenE (SC.sl (K 25 _ O)) (lN _) H,aU fun _ _ H _=>R.mov (kI 0 O) O H,Zt⟩ O O O O (tU O ?_)
   refine W.block ?_
   refine W.loop (α:={q__ : Nat // q__ <= p.t.ins.length /\ inV ks p.t q__ = false}) (fun q__=>⟨37,[(0,.map 0),(25,.sl none 36 (p.t.ins.map inD)),(26,.int ((p.t.ins.length : Nat) : Int)),(27,.int ((q__.1 : Nat) : Int))],[(5,.var (hashD sc)),(4,.var (pvD p)),(0,mpK placeK natD (cntL ks))]⟩) (fun q__=>p.t.ins.length - q__.1) ⟨(0),⟨Nat.zero_le _,O⟩⟩ O ?_
   rintro ⟨n,⟨hn2,hno2⟩⟩
   show W _ _ _ _ ⟨37,[(0,.map 0),(25,.sl none 36 (p.t.ins.map inD)),(26,.int ((p.t.ins.length : Nat) : Int)),(27,.int ((n : Nat) : Int))],[(5,.var (hashD sc)),(4,.var (pvD p)),(0,mpK placeK natD (cntL ks))]⟩
   have hn2 : n <= p.t.ins.length:=hn2
   have hno2 : inV ks p.t n = false:=hno2
   refine W.seq ?_
   refine W.l0 1 [.y 28 _] [] [] [(0,_),(25,_),(26,_),(27,_),(28,_)] [(5,.var _),(4,.var _),(0,mpK placeK natD _)] 37 ⟨aU fun _ _ H K=>R.lssN (n) (p.t.ins.length) (eU K 27 O) (eU K 26 O) H,Zt⟩ O O O O (tU O ?_)
   refine W.seq ?_
   refine W.condD O (fun hc28=>?_) (fun hc28=>?_)
   · refine W.skip (W.seq (W.block (W.seq ?_)))
     refine W.l0 4 [.y 29 _,.y 30 _] [] [] [(0,_),(25,_),(26,_),(27,_),(30,_)] [(5,.var _),(4,.var _),(0,mpK placeK natD _)] 37 ⟨aU fun _ _ H K=>R.idxN (n) (SC.sl (K 25 _ O)) (evoI (eU K 27 O)) O bU H dU,aU fun _ _ H K=>R.ldE (K 29 _ O) (SC.sl (K 25 _ O)) (map_get! (l:=p.t.ins) bU) O O O O H,Zt⟩ O O O O (⟨O,_,R.alloc O (nU O),⟨O,_,R.stZ (gU 10 O) (xU 10 O) O (gV 30 O) (by rfl) (by rfl) (by rfl) (by rfl) O,tV [(0,_),(10,_),(25,_),(26,_),(27,_)] [(10,.var _),(5,.var _),(4,.var _),(0,mpK placeK natD _)] 37 O O O ?_⟩⟩)
     refine W.seq ?_
     refine W.l0 5 [.y 31 _,.y 32 _,.y 33 _,.y 34 _,.y 35 _] [] [] [(0,_),(25,_),(26,_),(27,_),(35,_)] [(10,.var _),(5,.var _),(4,.var _),(0,mpK placeK natD _)] 37 ⟨mU 0 O O,aU (fU 10 O O),aU (lU 32 O O O O O O O),aU fun _ B H K=>R.lookKv (m:=(cntL ks)) (k:=(plc p.t.ins[n]!)) (z:=0) place_key (K 31 _ O) (B 0 _ O) (eU K 33 O) O O (fun _=>rfl) H,aU fun _ _ H K=>R.gtrN ((kGet 0 (cntL ks) (plc p.t.ins[n]!))) (0) (eU K 34 O) (kI 0 O) H,Zt⟩ O O O O (tU O ?_)
     refine W.condD O (fun hc35=>?_) (fun hc35=>?_)
     · refine W.seq ?_
       refine W.dropBP [0,4,5] (bx':=[(5,.var _),(4,.var _),(0,mpK placeK natD _)]) O O ⟨O,⟨O,⟨okMpK (fun _=>rfl) (fun _=>rfl),Zt⟩⟩⟩ (pin_sub hD O) ?_
       refine W.l0 1 [.y 6 _] [] [] [(6,_)] [(5,.var _),(4,.var _),(0,mpK placeK natD _)] 37 ⟨aU fun _ _ H _=>R.asg (kB true O) O H,Zt⟩ O O O O (tU O ?_)
       refine W.ret ?_
       exact EndsB.one' (.inr O) O (by rw [tch_2 hc35 hc28]) O Zt O O (O) ⟨okPm _ _,Zt⟩ O
     · refine W.skip ?_
       refine W.dropBP [0,4,5] (bx':=[(5,.var _),(4,.var _),(0,mpK placeK natD _)]) O O ⟨O,⟨O,⟨okMpK (fun _=>rfl) (fun _=>rfl),Zt⟩⟩⟩ (pin_sub hD O) ?_
       refine W.l0 2 [.y 36 _,.y 27 _] [] [] [(0,_),(25,_),(26,_),(27,_)] [(5,.var _),(4,.var _),(0,mpK placeK natD _)] 37 ⟨aU fun _ _ H K=>R.addN (n) (1) (eU K 27 O) (kI 1 O) bU H,mU 36 O O,Zt⟩ O O O O (tU O ?_)
       exact ⟨⟨(n + 1),⟨(by show n + 1 <= p.t.ins.length; omega),inV_n hno2 hc35⟩⟩,rfl,(by simp only []; omega)⟩
   · obtain rfl : n = p.t.ins.length:=by omega
     refine W.exit (W.seq ?_)
     refine W.l0 1 [.y 6 _] [] [] [(6,_)] [(5,.var _),(4,.var _),(0,mpK placeK natD _)] 37 ⟨aU fun _ _ H _=>R.asg (kB false O) O H,Zt⟩ O O O O (tU O ?_)
     refine W.ret ?_
     exact EndsB.one' (.inr O) O (by rw [tch_3 hnoA hno2]) O Zt O O (O) ⟨okPm _ _,Zt⟩ O
end Go.Sx

namespace Go.Sx
open Go.Proofs
theorem vhist_ok (l : List PvS) (hl : allPv l) (sc : Hs) : Fn Tryd.prog gl 13 [.sl none 72 (l.map pvD),hashD sc] (.sl (some 58) 33 ((hvS l sc).map enD)):=by
 refine Fn.of (n:=31) Tryd.func13 rfl rfl rfl (nU rfl) fun C hC hD=>?_
 have hl1:=hl.1
 refine W.seq ?_
 refine W.l0 2 [] [] [] [(0,_),(1,_)] [] 31 Zt O O O O (⟨O,_,R.box (gV 1 O) O O (nU O),⟨O,_,R.asg (kN O) O (nU O),tV [(0,_),(3,_),(4,_)] [(3,.var _)] 31 O O O ?_⟩⟩)
 refine W.seq ?_
 refine W.l0 4 [.y 8 _,.y 9 _] [] [] [(0,_),(3,_),(4,_),(8,_),(9,_)] [(3,.var _)] 31 ⟨mU 0 O O,aU (lU 3 O O O O O O O),Zt⟩ O O O O (⟨O,_,R.callB [(10,10)] hC (paying_ok l hl sc) (EvB.cons (gV 8 O) O O O (EvB.cons (gV 9 O) O O O EvB.nil)) O Zt Zt O (renPm _ _ _ _) O O O O (nU O),⟨O,_,R.asg (gV 10 O) O (nU O),tV [(0,_),(3,_),(4,_),(5,_)] [(10,mpK placeK natD _),(3,.var _)] 31 O O O ?_⟩⟩)
 refine W.seq (W.seq ?_)
 refine W.l0 3 [.y 11 _,.y 12 _,.y 13 _] [] [] [(3,_),(4,_),(5,_),(11,_),(12,_),(13,_)] [(10,mpK placeK natD _),(3,.var _)] 31 ⟨mU 0 O O,aU fun _ _ H K=>R.lenE (SC.sl (K 11 _ O)) (lN _) H,aU fun _ _ H _=>R.mov (kI 0 O) O H,Zt⟩ O O O O (tU O ?_)
 refine W.block ?_
 refine W.asOwn (s:=4) 58 33 O ?_
 refine W.loop (α:={q__ : Nat // q__ <= l.length}) (fun q__=>⟨31,[(3,.ptr 3 0 []),(4,.sl (some 58) 33 ((hvI l sc q__.1).map enD)),(5,.map 10),(11,.sl none 72 (l.map pvD)),(12,.int ((l.length : Nat) : Int)),(13,.int ((q__.1 : Nat) : Int))],[(10,mpK placeK natD (cntL (pyI l sc l.length))),(3,.var (hashD sc))]⟩) (fun q__=>l.length - q__.1) ⟨(0),bU⟩ O ?_
 rintro ⟨i,hi⟩
 show W _ _ _ _ ⟨31,[(3,.ptr 3 0 []),(4,.sl (some 58) 33 ((hvI l sc i).map enD)),(5,.map 10),(11,.sl none 72 (l.map pvD)),(12,.int ((l.length : Nat) : Int)),(13,.int ((i : Nat) : Int))],[(10,mpK placeK natD (cntL (pyI l sc l.length))),(3,.var (hashD sc))]⟩
 have hi : i <= l.length:=hi
 have hvl:=hvI_len l sc i
 refine W.seq ?_
 refine W.l0 1 [.y 14 _] [] [] [(3,_),(4,_),(5,_),(11,_),(12,_),(13,_),(14,_)] [(10,mpK placeK natD _),(3,.var _)] 31 ⟨aU fun _ _ H K=>R.lssN (i) (l.length) (eU K 13 O) (eU K 12 O) H,Zt⟩ O O O O (tU O ?_)
 refine W.seq ?_
 refine W.condD O (fun hc14=>?_) (fun hc14=>?_)
 · refine W.skip (W.seq (W.block (W.seq ?_)))
   refine W.l0 4 [.y 15 _,.y 16 _] [] [] [(3,_),(4,_),(5,_),(11,_),(12,_),(13,_),(16,_)] [(10,mpK placeK natD _),(3,.var _)] 31 ⟨aU fun _ _ H K=>R.idxN (i) (SC.sl (K 11 _ O)) (evoI (eU K 13 O)) O bU H dU,aU fun _ _ H K=>R.ldE (K 15 _ O) (SC.sl (K 11 _ O)) (map_get! (l:=l) bU) O O O O H,Zt⟩ O O O O (⟨O,_,R.alloc O (nU O),⟨O,_,R.stZ (gU 7 O) (xU 7 O) O (gV 16 O) (by rfl) (by rfl) (by rfl) (by rfl) O,tV [(3,_),(4,_),(5,_),(7,_),(11,_),(12,_),(13,_)] [(7,.var _),(10,mpK placeK natD _),(3,.var _)] 31 O O O ?_⟩⟩)
   refine W.seq ?_
   refine W.l0 4 [.y 17 _,.y 18 _,.y 19 _] [] [] [(3,_),(4,_),(5,_),(7,_),(11,_),(12,_),(13,_),(17,_),(18,_),(19,_)] [(7,.var _),(10,mpK placeK natD _),(3,.var _)] 31 ⟨mU 5 O O,aU (lU 7 O O O O O O O),aU (lU 3 O O O O O O O),Zt⟩ O O O O (⟨O,_,R.callB [(0,10)] hC (touches_ok (pyI l sc l.length) l[i]! sc (hl.get (by omega))) (EvB.cons (gV 17 O) O O O (EvB.cons (gV 18 O) O O O (EvB.cons (gV 19 O) O O O EvB.nil))) (renPm _ _ _ _) ⟨O,Zt⟩ ⟨okPm _ _,Zt⟩ (renPm _ _ _ _) O O O O O (nU O),tV [(3,_),(4,_),(5,_),(7,_),(11,_),(12,_),(13,_),(20,_)] [(7,.var _),(10,mpK placeK natD _),(3,.var _)] 31 O O O ?_⟩)
   refine W.cond O (fun hc20=>?_) (fun hc20=>?_)
   · refine W.l0 9 [.y 21 _,.y 22 _,.y 23 _,.y 24 _,.y 25 _,.y 26 _,.y 27 _,.y 28 _,.y 4 _] [(7,4),(8,28),(8,21)] [(7,4),(8,28)] [(3,_),(4,_),(5,_),(11,_),(12,_),(13,_)] [(7,.var _),(10,mpK placeK natD _),(3,.var _)] 31 ⟨aU fun _ _ H K=>R.al (K 4 _ O) H dU,aU (fU 7 O O),aU (lU 22 O O O O O O O),aU (fU 7 O O),aU (lU 24 O O O O O O O),aU fun _ _ H K=>R.bldSE (l:=[.int 0,.arr 32 1 ((List.replicate 32 0).map D.u8)]) (l':=[_,_]) (.cons (eU K 23 O) (.cons (eU K 25 O) (.nil O))) ⟨⟨_,(eU K 23 O),O,O,O⟩,⟨⟨_,(eU K 25 O),O,O,O⟩,Zt⟩⟩ H,aU fun _ _ H K=>R.bslE (z:=33) (.cons (eU K 26 O) .nil) ⟨⟨O,O,O⟩,Zt⟩ O H dU,aU fun _ _ H K=>R.appE (Or.inr (K 21 _ O)) (K 4 _ O) (SrcO.sc (SC.sl (K 27 _ O)) (pur_lit O)) (show _ = ((hvI l sc (i + 1)).map enD) from (hvI_app hc20)) (by simp only [List.length_map,List.length_cons,List.length_nil]; omega) H dU dU,aU fun _ _ H K=>R.asgO (K 28 _ O) O H dU,Zt⟩ O O O O (tU O ?_)
     refine W.dropBP [3,10] (bx':=[(10,mpK placeK natD _),(3,.var _)]) O O ⟨okMpK (fun _=>rfl) (fun _=>rfl),⟨O,Zt⟩⟩ (pin_sub hD O) ?_
     refine W.l0 2 [.y 29 _,.y 13 _] [] [] [(3,_),(4,_),(5,_),(11,_),(12,_),(13,_)] [(10,mpK placeK natD _),(3,.var _)] 31 ⟨aU fun _ _ H K=>R.addN (i) (1) (eU K 13 O) (kI 1 O) bU H,mU 29 O O,Zt⟩ O O O O (tU O ?_)
     exact ⟨⟨(i + 1),bU⟩,(by first | (dsimp only; rw [hvI_n hc20]) | rfl),(by simp only []; omega)⟩
   · refine W.skip ?_
     refine W.dropS (live:=[3,4,5,11,12,13]) (env':=[(3,_),(4,_),(5,_),(11,_),(12,_),(13,_)]) (bx':=[(7,.var _),(10,mpK placeK natD _),(3,.var _)]) (n':=31) O O O ?_
     refine W.dropBP [3,10] (bx':=[(10,mpK placeK natD _),(3,.var _)]) O O ⟨okMpK (fun _=>rfl) (fun _=>rfl),⟨O,Zt⟩⟩ (pin_sub hD O) ?_
     refine W.l0 2 [.y 29 _,.y 13 _] [] [] [(3,_),(4,_),(5,_),(11,_),(12,_),(13,_)] [(10,mpK placeK natD _),(3,.var _)] 31 ⟨aU fun _ _ H K=>R.addN (i) (1) (eU K 13 O) (kI 1 O) bU H,mU 29 O O,Zt⟩ O O O O (tU O ?_)
     exact ⟨⟨(i + 1),bU⟩,(by first | (dsimp only; rw [hvI_n hc20]) | rfl),(by simp only []; omega)⟩
 · obtain rfl : i = l.length:=by omega
   refine W.exit (W.seq ?_)
   refine W.l0 2 [.y 30 _,.y 4 _] [(0,4),(1,30)] [(0,4),(1,30)] [(4,_)] [(10,mpK placeK natD _),(3,.var _)] 31 ⟨aU fun _ _ H K=>R.movO (K 4 _ O) O H dU,aU fun _ _ H K=>R.asgO (K 30 _ O) O H dU,Zt⟩ O O O O (tU O ?_)
   refine W.ret ?_
   exact Ends.one' (.inr O) O (O) O O Zt
end Go.Sx

namespace Go.Sx
open Go.Proofs
theorem vuns_ok (l : List PvS) (hl : allPv l) (sc : Hs) : Fn Tryd.prog gl 16 [.sl none 72 (l.map pvD),hashD sc] (.sl (some 62) 35 ((uvS l sc).map unD')):=by
 refine Fn.of (n:=54) Tryd.func16 rfl rfl rfl (nU rfl) fun C hC hD=>?_
 have hl1:=hl.1
 refine W.seq ?_
 refine W.l0 2 [] [] [] [(0,_),(1,_)] [] 54 Zt O O O O (⟨O,_,R.box (gV 1 O) O O (nU O),⟨O,_,R.asg (kN O) O (nU O),tV [(0,_),(3,_),(4,_)] [(3,.var _)] 54 O O O ?_⟩⟩)
 refine W.seq ?_
 refine W.l0 3 [.y 11 _] [] [] [(0,_),(3,_),(4,_),(11,_)] [(3,.var _)] 54 ⟨mU 0 O O,Zt⟩ O O O O (⟨O,_,R.callB [(8,12)] hC (spent_ok l hl) (EvB.cons (gV 11 O) O O O EvB.nil) O Zt Zt O (renPm _ _ _ _) O O O O (nU O),⟨O,_,R.asg (gV 12 O) O (nU O),tV [(0,_),(3,_),(4,_),(5,_)] [(12,mpK placeK natD _),(3,.var _)] 54 O O O ?_⟩⟩)
 refine W.seq (W.seq ?_)
 refine W.l0 3 [.y 13 _,.y 14 _,.y 15 _] [] [] [(3,_),(4,_),(5,_),(13,_),(14,_),(15,_)] [(12,mpK placeK natD _),(3,.var _)] 54 ⟨mU 0 O O,aU fun _ _ H K=>R.lenE (SC.sl (K 13 _ O)) (lN _) H,aU fun _ _ H _=>R.mov (kI 0 O) O H,Zt⟩ O O O O (tU O ?_)
 refine W.block ?_
 refine W.asOwn (s:=4) 62 35 O ?_
 refine W.loop (α:={q__ : Nat // q__ <= l.length}) (fun q__=>⟨54,[(3,.ptr 3 0 []),(4,.sl (some 62) 35 ((uvI (spI l l.length) l sc q__.1).map unD')),(5,.map 12),(13,.sl none 72 (l.map pvD)),(14,.int ((l.length : Nat) : Int)),(15,.int ((q__.1 : Nat) : Int))],[(12,mpK placeK natD (cntL (spI l l.length))),(3,.var (hashD sc))]⟩) (fun q__=>l.length - q__.1) ⟨(0),bU⟩ O ?_
 rintro ⟨i,hi⟩
 show W _ _ _ _ ⟨54,[(3,.ptr 3 0 []),(4,.sl (some 62) 35 ((uvI (spI l l.length) l sc i).map unD')),(5,.map 12),(13,.sl none 72 (l.map pvD)),(14,.int ((l.length : Nat) : Int)),(15,.int ((i : Nat) : Int))],[(12,mpK placeK natD (cntL (spI l l.length))),(3,.var (hashD sc))]⟩
 have hi : i <= l.length:=hi
 have huv:=uvI_len (spI l l.length) hl sc i hi
 have hpo:=fun (h : i < l.length)=>(hl.get h).outs
 refine W.seq ?_
 refine W.l0 1 [.y 16 _] [] [] [(3,_),(4,_),(5,_),(13,_),(14,_),(15,_),(16,_)] [(12,mpK placeK natD _),(3,.var _)] 54 ⟨aU fun _ _ H K=>R.lssN (i) (l.length) (eU K 15 O) (eU K 14 O) H,Zt⟩ O O O O (tU O ?_)
 refine W.seq ?_
 refine W.condD O (fun hc16=>?_) (fun hc16=>?_)
 · refine W.skip (W.seq (W.block (W.seq ?_)))
   have hpo:=hpo hc16
   refine W.l0 4 [.y 17 _,.y 18 _] [] [] [(3,_),(4,_),(5,_),(13,_),(14,_),(15,_),(18,_)] [(12,mpK placeK natD _),(3,.var _)] 54 ⟨aU fun _ _ H K=>R.idxN (i) (SC.sl (K 13 _ O)) (evoI (eU K 15 O)) O bU H dU,aU fun _ _ H K=>R.ldE (K 17 _ O) (SC.sl (K 13 _ O)) (map_get! (l:=l) bU) O O O O H,Zt⟩ O O O O (⟨O,_,R.alloc O (nU O),⟨O,_,R.stZ (gU 7 O) (xU 7 O) O (gV 18 O) (by rfl) (by rfl) (by rfl) (by rfl) O,tV [(3,_),(4,_),(5,_),(7,_),(13,_),(14,_),(15,_)] [(7,.var _),(12,mpK placeK natD _),(3,.var _)] 54 O O O ?_⟩⟩)
   refine W.seq ?_
   refine W.l0 5 [.y 19 _,.y 20 _,.y 21 _,.y 22 _,.y 23 _] [] [] [(3,_),(4,_),(5,_),(7,_),(13,_),(14,_),(15,_),(21,_),(22,_),(23,_)] [(7,.var _),(12,mpK placeK natD _),(3,.var _)] 54 ⟨aU (fU 7 O O),aU (fU 19 O O),aU (lU 20 O O O O O O O),aU fun _ _ H K=>R.lenE (SC.sl (K 21 _ O)) (lN _) H,aU fun _ _ H _=>R.mov (kI 0 O) O H,Zt⟩ O O O O (tU O ?_)
   refine W.block ?_
   refine W.loop (α:={q__ : Nat // q__ <= l[i]!.t.outs.length}) (fun q__=>⟨54,[(3,.ptr 3 0 []),(4,.sl (some 62) 35 ((uvI (spI l l.length) l sc i ++ uvK (spI l l.length) l[i]! sc q__.1).map unD')),(5,.map 12),(7,.ptr 7 0 []),(13,.sl none 72 (l.map pvD)),(14,.int ((l.length : Nat) : Int)),(15,.int ((i : Nat) : Int)),(21,.sl none 2 (l[i]!.t.outs.map outD)),(22,.int ((l[i]!.t.outs.length : Nat) : Int)),(23,.int ((q__.1 : Nat) : Int))],[(7,.var (pvD l[i]!)),(12,mpK placeK natD (cntL (spI l l.length))),(3,.var (hashD sc))]⟩) (fun q__=>l[i]!.t.outs.length - q__.1) ⟨(0),bU⟩ (by rw [uvK,List.append_nil] <;> rfl) ?_
   rintro ⟨n,hn⟩
   show W _ _ _ _ ⟨54,[(3,.ptr 3 0 []),(4,.sl (some 62) 35 ((uvI (spI l l.length) l sc i ++ uvK (spI l l.length) l[i]! sc n).map unD')),(5,.map 12),(7,.ptr 7 0 []),(13,.sl none 72 (l.map pvD)),(14,.int ((l.length : Nat) : Int)),(15,.int ((i : Nat) : Int)),(21,.sl none 2 (l[i]!.t.outs.map outD)),(22,.int ((l[i]!.t.outs.length : Nat) : Int)),(23,.int ((n : Nat) : Int))],[(7,.var (pvD l[i]!)),(12,mpK placeK natD (cntL (spI l l.length))),(3,.var (hashD sc))]⟩
   have hn : n <= l[i]!.t.outs.length:=hn
   have hul:=uvK_len (spI l l.length) l[i]! sc n
   refine W.seq ?_
   refine W.l0 1 [.y 24 _] [] [] [(3,_),(4,_),(5,_),(7,_),(13,_),(14,_),(15,_),(21,_),(22,_),(23,_),(24,_)] [(7,.var _),(12,mpK placeK natD _),(3,.var _)] 54 ⟨aU fun _ _ H K=>R.lssN (n) (l[i]!.t.outs.length) (eU K 23 O) (eU K 22 O) H,Zt⟩ O O O O (tU O ?_)
   refine W.seq ?_
   refine W.condD O (fun hc24=>?_) (fun hc24=>?_)
   · refine W.skip (W.seq (W.block (W.seq ?_)))
     refine W.l0 6 [.y 25 _,.y 26 _,.y 27 _] [] [] [(3,_),(4,_),(5,_),(7,_),(13,_),(14,_),(15,_),(21,_),(22,_),(23,_),(25,_),(27,_)] [(7,.var _),(12,mpK placeK natD _),(3,.var _)] 54 ⟨mU 23 O O,aU fun _ _ H K=>R.idxN (n) (SC.sl (K 21 _ O)) (evoI (eU K 23 O)) O bU H dU,aU fun _ _ H K=>R.ldE (K 26 _ O) (SC.sl (K 21 _ O)) (map_get! (l:=l[i]!.t.outs) bU) O O O O H,Zt⟩ O O O O (⟨O,_,R.alloc O (nU O),⟨O,_,R.asg (gV 25 O) O (nU O),⟨O,_,R.stZ (gU 9 O) (xU 9 O) O (gV 27 O) (by rfl) (by rfl) (by rfl) (by rfl) O,tV [(3,_),(4,_),(5,_),(7,_),(8,_),(9,_),(13,_),(14,_),(15,_),(21,_),(22,_),(23,_)] [(9,.var _),(7,.var _),(12,mpK placeK natD _),(3,.var _)] 54 O O O ?_⟩⟩⟩)
     refine W.seq ?_
     refine W.l0 7 [.y 28 _,.y 29 _,.y 30 _,.y 31 _,.y 32 _] [] [] [(3,_),(4,_),(5,_),(7,_),(9,_),(13,_),(14,_),(15,_),(21,_),(22,_),(23,_),(32,_)] [(9,.var _),(7,.var _),(12,mpK placeK natD _),(3,.var _)] 54 ⟨aU (fU 7 O O),aU (lU 28 O O O O O O O),mU 8 O O,aU fun _ _ H K=>R.convE (d:=.u32 (nK n)) (eU K 30 O) O (O) H,aU fun _ _ H K=>R.bldSE (l:=[.arr 32 1 ((List.replicate 32 0).map D.u8),.u32 0]) (l':=[_,_]) (.cons (eU K 29 O) (.cons (eU K 31 O) (.nil O))) ⟨⟨_,(eU K 29 O),O,O,O⟩,⟨⟨_,(eU K 31 O),O,O,O⟩,Zt⟩⟩ H,Zt⟩ O O O O (⟨O,_,R.alloc O (nU O),⟨O,_,R.stZ (gU 10 O) (xU 10 O) O (gV 32 O) (by rfl) (by rfl) (by rfl) (by rfl) O,tV [(3,_),(4,_),(5,_),(7,_),(9,_),(10,_),(13,_),(14,_),(15,_),(21,_),(22,_),(23,_)] [(10,.var _),(9,.var _),(7,.var _),(12,mpK placeK natD _),(3,.var _)] 54 O O O ?_⟩⟩)
     refine W.seq ?_
     by_cases h6 : kGet 0 (cntL (spI l l.length)) (l[i]!.id,nK n) = 0
     · refine W.l0 9 [.y 33 _,.y 34 _,.y 35 _,.y 36 _,.y 37 _,.y 38 _,.y 39 _,.y 40 _,.y 41 _] [] [] [(3,_),(4,_),(5,_),(7,_),(9,_),(10,_),(13,_),(14,_),(15,_),(21,_),(22,_),(23,_),(41,_)] [(10,.var _),(9,.var _),(7,.var _),(12,mpK placeK natD _),(3,.var _)] 54 ⟨mU 5 O O,aU (lU 10 O O O O O O O),aU fun _ B H K=>R.lookKv (m:=(cntL (spI l l.length))) (k:=(l[i]!.id,nK n)) (z:=0) place_key (K 33 _ O) (B 12 _ O) (eU K 34 O) O O (fun _=>rfl) H,aU fun _ _ H K=>R.eqlN ((kGet 0 (cntL (spI l l.length)) (l[i]!.id,nK n))) (0) (eU K 35 O) (kI 0 O) H,mU 36 O O,aW O O (gT (dT h6) O) (lU 9 O O O O O O O),aW O O (gT (dT h6) O) (lU 3 O O O O O O O),aW O O (gT (dT h6) O) fun _ _ H K=>R.callG hC (vpays_ok l[i]!.t.outs[n]! sc ((hl.get (by omega)).out (by omega))) (Bc (Bp (eU K 38 O) O O) (Bc (Bp (eU K 39 O) O O) Bn)) (FrsR.one (.bool _)) H,aU fun _ _ H K=>R.pickT (eU K 37 O) (dT h6) (eU K 40 O) O H,Zt⟩ O O O O (tU O ?_)
       refine W.cond O (fun hc41=>?_) (fun hc41=>?_)
       · refine W.l0 10 [.y 42 _,.y 43 _,.y 44 _,.y 45 _,.y 46 _,.y 47 _,.y 48 _,.y 49 _,.y 50 _,.y 4 _] [(8,4),(9,50),(9,42)] [(8,4),(9,50)] [(3,_),(4,_),(5,_),(7,_),(13,_),(14,_),(15,_),(21,_),(22,_),(23,_)] [(10,.var _),(9,.var _),(7,.var _),(12,mpK placeK natD _),(3,.var _)] 54 ⟨aU fun _ _ H K=>R.al (K 4 _ O) H dU,aU (lU 10 O O O O O O O),aU (fU 9 O O),aU (lU 44 O O O O O O O),aU (fU 7 O O),aU (lU 46 O O O O O O O),aU fun _ _ H K=>R.bldSE (l:=[.agg [.arr 32 1 ((List.replicate 32 0).map D.u8),.u32 0],.u64 0,.int 0]) (l':=[_,_,_]) (.cons (eU K 43 O) (.cons (eU K 45 O) (.cons (eU K 47 O) (.nil O)))) ⟨⟨_,(eU K 43 O),O,O,O⟩,⟨⟨_,(eU K 45 O),O,O,O⟩,⟨⟨_,(eU K 47 O),O,O,O⟩,Zt⟩⟩⟩ H,aU fun _ _ H K=>R.bslE (z:=35) (.cons (eU K 48 O) .nil) ⟨⟨O,O,O⟩,Zt⟩ O H dU,aU fun _ _ H K=>R.appE (Or.inr (K 42 _ O)) (K 4 _ O) (SrcO.sc (SC.sl (K 49 _ O)) (pur_lit O)) (show _ = ((uvI (spI l l.length) l sc i ++ uvK (spI l l.length) l[i]! sc (n + 1)).map unD') from (uvK_app _ ((uvC_1 h6).trans hc41))) (by simp only [List.length_map,List.length_append,List.length_cons,List.length_nil]; omega) H dU dU,aU fun _ _ H K=>R.asgO (K 50 _ O) O H dU,Zt⟩ O O O O (tU O ?_)
         refine W.dropBP [3,7,12] (bx':=[(7,.var _),(12,mpK placeK natD _),(3,.var _)]) O O ⟨O,⟨okMpK (fun _=>rfl) (fun _=>rfl),⟨O,Zt⟩⟩⟩ (pin_sub hD O) ?_
         refine W.l0 2 [.y 51 _,.y 23 _] [] [] [(3,_),(4,_),(5,_),(7,_),(13,_),(14,_),(15,_),(21,_),(22,_),(23,_)] [(7,.var _),(12,mpK placeK natD _),(3,.var _)] 54 ⟨aU fun _ _ H K=>R.addN (n) (1) (eU K 23 O) (kI 1 O) bU H,mU 51 O O,Zt⟩ O O O O (tU O ?_)
         exact ⟨⟨(n + 1),bU⟩,(by first | rfl | (dsimp only; rw [uvK_n (uvC_0 h6)]) | (dsimp only; rw [uvK_n ((uvC_1 h6).trans hc41)])),(by simp only []; omega)⟩
       · refine W.skip ?_
         refine W.dropS (live:=[3,4,5,7,13,14,15,21,22,23]) (env':=[(3,_),(4,_),(5,_),(7,_),(13,_),(14,_),(15,_),(21,_),(22,_),(23,_)]) (bx':=[(10,.var _),(9,.var _),(7,.var _),(12,mpK placeK natD _),(3,.var _)]) (n':=54) O O O ?_
         refine W.dropBP [3,7,12] (bx':=[(7,.var _),(12,mpK placeK natD _),(3,.var _)]) O O ⟨O,⟨okMpK (fun _=>rfl) (fun _=>rfl),⟨O,Zt⟩⟩⟩ (pin_sub hD O) ?_
         refine W.l0 2 [.y 51 _,.y 23 _] [] [] [(3,_),(4,_),(5,_),(7,_),(13,_),(14,_),(15,_),(21,_),(22,_),(23,_)] [(7,.var _),(12,mpK placeK natD _),(3,.var _)] 54 ⟨aU fun _ _ H K=>R.addN (n) (1) (eU K 23 O) (kI 1 O) bU H,mU 51 O O,Zt⟩ O O O O (tU O ?_)
         exact ⟨⟨(n + 1),bU⟩,(by first | rfl | (dsimp only; rw [uvK_n (uvC_0 h6)]) | (dsimp only; rw [uvK_n ((uvC_1 h6).trans hc41)])),(by simp only []; omega)⟩
     · refine W.l0 9 [.y 33 _,.y 34 _,.y 35 _,.y 36 _,.y 37 _,.x 38,.x 39,.x 40,.y 41 _] [] [] [(3,_),(4,_),(5,_),(7,_),(9,_),(10,_),(13,_),(14,_),(15,_),(21,_),(22,_),(23,_),(41,_)] [(10,.var _),(9,.var _),(7,.var _),(12,mpK placeK natD _),(3,.var _)] 54 ⟨mU 5 O O,aU (lU 10 O O O O O O O),aU fun _ B H K=>R.lookKv (m:=(cntL (spI l l.length))) (k:=(l[i]!.id,nK n)) (z:=0) place_key (K 33 _ O) (B 12 _ O) (eU K 34 O) O O (fun _=>rfl) H,aU fun _ _ H K=>R.eqlN ((kGet 0 (cntL (spI l l.length)) (l[i]!.id,nK n))) (0) (eU K 35 O) (kI 0 O) H,mU 36 O O,aF O O (gF (dF h6) O),aF O O (gF (dF h6) O),aF O O (gF (dF h6) O),aU fun _ _ H K=>R.pickF (eU K 37 O) (dF h6) (kB false O) O H,Zt⟩ O O O O (tU O ?_)
       refine W.condF O (O) ?_
       refine W.skip ?_
       refine W.dropS (live:=[3,4,5,7,13,14,15,21,22,23]) (env':=[(3,_),(4,_),(5,_),(7,_),(13,_),(14,_),(15,_),(21,_),(22,_),(23,_)]) (bx':=[(10,.var _),(9,.var _),(7,.var _),(12,mpK placeK natD _),(3,.var _)]) (n':=54) O O O ?_
       refine W.dropBP [3,7,12] (bx':=[(7,.var _),(12,mpK placeK natD _),(3,.var _)]) O O ⟨O,⟨okMpK (fun _=>rfl) (fun _=>rfl),⟨O,Zt⟩⟩⟩ (pin_sub hD O) ?_
       refine W.l0 2 [.y 51 _,.y 23 _] [] [] [(3,_),(4,_),(5,_),(7,_),(13,_),(14,_),(15,_),(21,_),(22,_),(23,_)] [(7,.var _),(12,mpK placeK natD _),(3,.var _)] 54 ⟨aU fun _ _ H K=>R.addN (n) (1) (eU K 23 O) (kI 1 O) bU H,mU 51 O O,Zt⟩ O O O O (tU O ?_)
       exact ⟨⟨(n + 1),bU⟩,(by first | rfl | (dsimp only; rw [uvK_n (uvC_0 h6)]) | (dsimp only; rw [uvK_n ((uvC_1 h6).trans hc41)])),(by simp only []; omega)⟩
   · obtain rfl : n = l[i]!.t.outs.length:=by omega
     refine W.exit ?_
     refine W.dropS (live:=[3,4,5,13,14,15]) (env':=[(3,_),(4,_),(5,_),(13,_),(14,_),(15,_)]) (bx':=[(7,.var _),(12,mpK placeK natD _),(3,.var _)]) (n':=54) O O O ?_
     refine W.dropBP [3,12] (bx':=[(12,mpK placeK natD _),(3,.var _)]) O O ⟨okMpK (fun _=>rfl) (fun _=>rfl),⟨O,Zt⟩⟩ (pin_sub hD O) ?_
     refine W.l0 2 [.y 52 _,.y 15 _] [] [] [(3,_),(4,_),(5,_),(13,_),(14,_),(15,_)] [(12,mpK placeK natD _),(3,.var _)] 54 ⟨aU fun _ _ H K=>R.addN (i) (1) (eU K 15 O) (kI 1 O) bU H,mU 52 O O,Zt⟩ O O O O (tU O ?_)
     exact ⟨⟨(i + 1),bU⟩,rfl,(by simp only []; omega)⟩
 · obtain rfl : i = l.length:=by omega
   refine W.exit (W.seq ?_)
   refine W.l0 2 [.y 53 _,.y 4 _] [(0,4),(1,53)] [(0,4),(1,53)] [(4,_)] [(12,mpK placeK natD _),(3,.var _)] 54 ⟨aU fun _ _ H K=>R.movO (K 4 _ O) O H dU,aU fun _ _ H K=>R.asgO (K 53 _ O) O H dU,Zt⟩ O O O O (tU O ?_)
   refine W.ret ?_
   exact Ends.one' (.inr O) O (O) O O Zt
end Go.Sx

namespace Go.Sx
open Go.Proofs
theorem vbal_ok (l : List PvS) (hl : allPv l) (sc : Hs) : Fn Tryd.prog gl 18 [.sl none 72 (l.map pvD),hashD sc] (.u64 (blS (uvS l sc))):=by
 refine Fn.of (n:=21) Tryd.func18 rfl rfl rfl (nU rfl) fun C hC hD=>?_
 have hl1:=hl.1
 have hul:=uvI_len (spI l l.length) hl sc l.length (Nat.le_refl _)
 have hul : (uvS l sc).length <= 1000 * l.length:=hul
 refine W.seq ?_
 refine W.l0 2 [] [] [] [(0,_),(1,_)] [] 21 Zt O O O O (⟨O,_,R.box (gV 1 O) O O (nU O),⟨O,_,R.asg (show ev _ _ (.const (.int .u64 0)) = some (.u64 0) from O) O (nU O),tV [(0,_),(3,_),(4,_)] [(3,.var _)] 21 O O O ?_⟩⟩)
 refine W.seq (W.seq ?_)
 refine W.l0 5 [.y 7 _,.y 8 _,.y 9 _,.y 10 _,.y 11 _] [] [] [(4,_),(9,_),(10,_),(11,_)] [(3,.var _)] 21 ⟨mU 0 O O,aU (lU 3 O O O O O O O),aU fun _ _ H K=>R.callG hC (vuns_ok l hl sc) (Bc (Bp (eU K 7 O) O O) (Bc (Bp (eU K 8 O) O O) Bn)) (frs_uns _ _ _) H,aU fun _ _ H K=>R.lenE (SC.sl (K 9 _ O)) (lN _) H,aU fun _ _ H _=>R.mov (kI 0 O) O H,Zt⟩ O O O O (tU O ?_)
 refine W.block ?_
 refine W.loop (α:={q__ : Nat // q__ <= (uvS l sc).length}) (fun q__=>⟨21,[(4,.u64 (blI (uvS l sc) q__.1)),(9,.sl (some 62) 35 ((uvS l sc).map unD')),(10,.int (((uvS l sc).length : Nat) : Int)),(11,.int ((q__.1 : Nat) : Int))],[(3,.var (hashD sc))]⟩) (fun q__=>(uvS l sc).length - q__.1) ⟨(0),bU⟩ O ?_
 rintro ⟨i,hi⟩
 show W _ _ _ _ ⟨21,[(4,.u64 (blI (uvS l sc) i)),(9,.sl (some 62) 35 ((uvS l sc).map unD')),(10,.int (((uvS l sc).length : Nat) : Int)),(11,.int ((i : Nat) : Int))],[(3,.var (hashD sc))]⟩
 have hi : i <= (uvS l sc).length:=hi
 refine W.seq ?_
 refine W.l0 1 [.y 12 _] [] [] [(4,_),(9,_),(10,_),(11,_),(12,_)] [(3,.var _)] 21 ⟨aU fun _ _ H K=>R.lssN (i) ((uvS l sc).length) (eU K 11 O) (eU K 10 O) H,Zt⟩ O O O O (tU O ?_)
 refine W.seq ?_
 refine W.condD O (fun hc12=>?_) (fun hc12=>?_)
 · refine W.skip (W.seq (W.block (W.seq ?_)))
   refine W.l0 4 [.y 13 _,.y 14 _] [] [] [(4,_),(9,_),(10,_),(11,_),(14,_)] [(3,.var _)] 21 ⟨aU fun _ _ H K=>R.idxN (i) (SC.sl (K 9 _ O)) (evoI (eU K 11 O)) O bU H dU,aU fun _ _ H K=>R.ldE (K 13 _ O) (SC.sl (K 9 _ O)) (map_get! (l:=(uvS l sc)) bU) O O O O H,Zt⟩ O O O O (⟨O,_,R.alloc O (nU O),⟨O,_,R.stZ (gU 6 O) (xU 6 O) O (gV 14 O) (by rfl) (by rfl) (by rfl) (by rfl) O,tV [(4,_),(6,_),(9,_),(10,_),(11,_)] [(6,.var _),(3,.var _)] 21 O O O ?_⟩⟩)
   refine W.l0 5 [.y 15 _,.y 16 _,.y 17 _,.y 18 _,.y 4 _] [] [] [(4,_),(9,_),(10,_),(11,_)] [(6,.var _),(3,.var _)] 21 ⟨mU 4 O O,aU (fU 6 O O),aU (lU 16 O O O O O O O),aU fun _ _ H K=>R.bin (eU K 15 O) (eU K 17 O) O Zt H,aU fun _ _ H K=>R.asg (eU K 18 O) O H,Zt⟩ O O O O (tU O ?_)
   refine W.dropB [3] (bx':=[(3,.var _)]) O O O (pin_sub hD O) ?_
   refine W.l0 2 [.y 19 _,.y 11 _] [] [] [(4,_),(9,_),(10,_),(11,_)] [(3,.var _)] 21 ⟨aU fun _ _ H K=>R.addN (i) (1) (eU K 11 O) (kI 1 O) bU H,mU 19 O O,Zt⟩ O O O O (tU O ?_)
   exact ⟨⟨(i + 1),bU⟩,(by rw [blI] <;> rfl),(by simp only []; omega)⟩
 · obtain rfl : i = (uvS l sc).length:=by omega
   refine W.exit (W.seq ?_)
   refine W.l0 2 [.y 20 _,.y 4 _] [] [] [(4,_)] [(3,.var _)] 21 ⟨mU 4 O O,aU fun _ _ H K=>R.asg (eU K 20 O) O H,Zt⟩ O O O O (tU O ?_)
   refine W.ret ?_
   exact Ends.one' (.inr O) O (O) O O Zt
end Go.Sx

namespace Go.Sx
open Go.Proofs
theorem wk25_ok : Fn Tryd.prog gl 7 [] (.bool true):=by
 refine Fn.of (n:=43) Tryd.func7 rfl rfl rfl (nU rfl) fun C hC hD=>?_
 have hmw:=tou_pv (blkS_all wkPs).1 [1]
 have hwl : ((touS (blkS wkPs) [1]).map pvO).length = 2:=wk_len
 refine W.seq ?_
 refine W.l0 1 [.y 0 _] [] [] [] [] 43 ⟨aU fun _ _ H _=>R.asg (kB false O) O H,Zt⟩ O O O O (tU O ?_)
 refine W.seq ?_
 refine W.l0 11 [.y 3 _,.y 4 _,.y 5 _,.y 6 _,.y 7 _,.y 8 _,.y 9 _,.y 10 _,.y 11 _,.y 12 _,.y 1 _] [(3,5),(4,6),(5,7),(6,8)] [(3,5),(4,6),(5,7),(6,8)] [(1,_)] [] 43 ⟨aU fun _ _ H _=>R.callPE hC (easy_ok) (EvP.cons (kI 10 O) O O (EvP.cons (show ev _ _ (.const (.int .u32 10)) = some (.u32 10) from O) O O EvP.nil)) H,aU fun _ _ H _=>R.bldSE (l:=[.u8 0,.nils,.u8 0]) (l':=[_,_,_]) (.cons (show ev _ _ (.const (.int .u8 1)) = some (.u8 1) from O) (.nil O)) ⟨⟨_,(show ev _ _ (.const (.int .u8 1)) = some (.u8 1) from O),O,O,O⟩,Zt⟩ H,aU fun _ _ H _=>R.bslE (z:=1) (.cons (show ev _ _ (.const (.int .u8 1)) = some (.u8 1) from O) .nil) ⟨⟨O,O,O⟩,Zt⟩ O H dU,aU fun _ _ H K=>R.bldO (l:=[.u8 0,.bool false,.nils,.u8 0,.u8 0]) (l':=[_,_,_,_,_]) (.own (K 5 _ O) O O O O (.nil O)) O H,aU fun _ _ H K=>R.bslO (z:=5) (.own (K 6 _ O) O O O O .nil) O O H dU,aU fun _ _ H K=>R.bldO (l:=[.u8 0,.nils,.u8 0]) (l':=[_,_,_]) (.pur (show ev _ _ (.const (.int .u8 2)) = some (.u8 2) from O) O O O (.own (K 7 _ O) O O O O (.nil O))) O H,aU fun _ _ H K=>R.frzT (r':=.sl none 3 (wkPs.map plD)) (R.wkT (r':=.sl (some 77) 3 (wkPs.map plOwn)) (R.bslO (z:=3) (.pur (eU K 4 O) O O O (.own (K 8 _ O) O O O O .nil)) O O H dU) O O (wk_plans)) O (brw_plans _),aU fun _ _ H K=>R.callPE hC (blocks15_ok wkPs wkPs_ok) (EvP.cons (eU K 3 O) O O (EvP.cons (eU K 9 O) O O EvP.nil)) H,aU fun _ _ H _=>R.frzT (r':=.sl none 1 ([1].map D.u8)) (R.bslE (z:=1) (.cons (show ev _ _ (.const (.int .u8 1)) = some (.u8 1) from O) .nil) ⟨⟨O,O,O⟩,Zt⟩ O H dU) O (brw_one _ _ _),aU fun _ _ H K=>R.callPE hC (tou25_ok (blkS wkPs) (blkS_all wkPs).1 [1] dU) (EvP.cons (eU K 10 O) O O (EvP.cons (eU K 11 O) O O EvP.nil)) H,aU fun _ _ H K=>R.asg (eU K 12 O) O H,Zt⟩ O O O O (tU O ?_)
 refine W.seq (W.seq ?_)
 refine W.l0 3 [.y 13 _,.y 14 _,.y 15 _] [] [] [(1,_),(15,_)] [] 43 ⟨mU 1 O O,aU fun _ _ H K=>R.lenE (SC.sl (K 13 _ O)) (lN _) H,aU fun _ _ H K=>R.neqN (((touS (blkS wkPs) [1]).map pvO).length) (2) (eU K 14 O) (kI 2 O) H,Zt⟩ O O O O (tU O ?_)
 refine W.condF O (dF (fun h=>h hwl)) ?_
 refine W.skip (W.seq ?_)
 refine W.l0 3 [.y 16 _] [] [] [(1,_),(16,_)] [] 43 ⟨aU fun _ _ H _=>R.callG hC (sum15_ok 1) (Bc (Bp (show ev _ _ (.const (.int .u8 1)) = some (.u8 1) from O) O O) Bn) (FrsR.one (frs_hash' _)) H,Zt⟩ O O O O (⟨O,_,R.alloc O (nU O),⟨O,_,R.stZ (gU 2 O) (xU 2 O) O (gV 16 O) (by rfl) (by rfl) (by rfl) (by rfl) O,tV [(1,_),(2,_)] [(2,.var _)] 43 O O O ?_⟩⟩)
 refine W.seq ?_
 refine W.draw (m:=27) (an:=(0 :: 0 :: 3 :: 7 :: 15 :: 31 :: 63 :: 63 :: 255 :: 511 :: 1023 :: 2047 :: 4095 :: 8191 :: 8191 :: 32767 :: 65535 :: 131071 :: 262143 :: 524287 :: 1048575 :: 524287 :: 4194303 :: 8388607 :: 16777215 :: 33554431 :: 67108863 :: [])) hP dU O (its:=(.y 17 _ :: .y 18 _ :: .y 19 _ :: .y 20 _ :: .y 21 _ :: .y 22 _ :: .y 23 _ :: .y 24 _ :: .y 25 _ :: .y 26 _ :: .y 27 _ :: .y 28 _ :: .y 29 _ :: .y 30 _ :: .y 31 _ :: .y 32 _ :: .y 33 _ :: .y 34 _ :: .y 35 _ :: .y 36 _ :: .y 37 _ :: .y 38 _ :: .y 39 _ :: .y 40 _ :: .y 41 _ :: .y 42 _ :: .y 0 _ :: [])) (ks:=[]) (kk:=[]) (live:=[0]) (env':=[(0,_)]) (⟨nU O,O,⟨mU 1 O O,aU (lU 2 O O O O O O O),aU fun _ _ H K=>R.callG hC (vhist_ok ((touS (blkS wkPs) [1]).map pvO) hmw (sumK 1)) (Bc (Bp (eU K 17 O) O O) (Bc (Bp (eU K 18 O) O O) Bn)) (frs_ens _ _ _) H,aU fun _ _ H K=>R.lenE (SC.sl (K 19 _ O)) (lN _) H,aU fun _ _ H K=>R.eqlN ((hvS ((touS (blkS wkPs) [1]).map pvO) (sumK 1)).length) (2) (eU K 20 O) (kI 2 O) H,mU 21 O O,aW O O (gT (dT wk_h) O) fun _ _ H K=>R.mov (eU K 1 O) O H,aW O O (gT (dT wk_h) O) (lU 2 O O O O O O O),aW O O (gT (dT wk_h) O) fun _ _ H K=>R.callG hC (vuns_ok ((touS (blkS wkPs) [1]).map pvO) hmw (sumK 1)) (Bc (Bp (eU K 23 O) O O) (Bc (Bp (eU K 24 O) O O) Bn)) (frs_uns _ _ _) H,aW O O (gT (dT wk_h) O) fun _ _ H K=>R.lenE (SC.sl (K 25 _ O)) (lN _) H,aW O O (gT (dT wk_h) O) fun _ _ H K=>R.eqlN ((uvS ((touS (blkS wkPs) [1]).map pvO) (sumK 1)).length) (1) (eU K 26 O) (kI 1 O) H,aU fun _ _ H K=>R.pickT (eU K 22 O) (dT wk_h) (eU K 27 O) O H,mU 28 O O,aW O O (gT (dT wk_u) O) fun _ _ H K=>R.mov (eU K 1 O) O H,aW O O (gT (dT wk_u) O) (lU 2 O O O O O O O),aW O O (gT (dT wk_u) O) fun _ _ H K=>R.callG hC (vbal_ok ((touS (blkS wkPs) [1]).map pvO) hmw (sumK 1)) (Bc (Bp (eU K 30 O) O O) (Bc (Bp (eU K 31 O) O O) Bn)) (FrsR.one (.u64 _)) H,aW O O (gT (dT wk_u) O) fun _ _ H K=>R.bin (eU K 32 O) (show ev _ _ (.const (.int .u64 5000)) = some (.u64 5000) from O) O Zt H,aU fun _ _ H K=>R.pickT (eU K 29 O) (dT wk_u) (eU K 33 O) O H,mU 34 O O,aW O O (gT (dT wk_b) O) fun _ _ H K=>R.mov (eU K 1 O) O H,aW O O (gT (dT wk_b) O) fun _ _ H K=>R.slIN (1) (((touS (blkS wkPs) [1]).map pvO).length) ((((touS (blkS wkPs) [1]).map pvO).length - 1)) (eU K 36 O) (evoI (kI 1 O)) O O (by simp) bU bU O (rest_map) H,aW O O (gT (dT wk_b) O) (lU 2 O O O O O O O),aW O O (gT (dT wk_b) O) fun _ _ H K=>R.callG hC (vhist_ok (((touS (blkS wkPs) [1]).map pvO).drop 1) (pv_drop hmw 1) (sumK 1)) (Bc (Bp (eU K 37 O) O O) (Bc (Bp (eU K 38 O) O O) Bn)) (frs_ens _ _ _) H,aW O O (gT (dT wk_b) O) fun _ _ H K=>R.lenE (SC.sl (K 39 _ O)) (lN _) H,aW O O (gT (dT wk_b) O) fun _ _ H K=>R.eqlN ((hvS (((touS (blkS wkPs) [1]).map pvO).drop 1) (sumK 1)).length) (1) (eU K 40 O) (kI 1 O) H,aU fun _ _ H K=>R.pickT (eU K 35 O) (dT wk_b) (eU K 41 O) O H,aU fun _ _ H K=>R.asg (eU K 42 O) O H,Zt⟩,O,O,O⟩) O (bx':=[(2,.var _)]) O (n':=43) O (tV [(0,_)] [(2,.var _)] 43 O O O ?_)
 refine W.ret ?_
 exact Ends.one' (.inr O) O (by rw [dT wk_h1]) O O Zt
end Go.Sx
