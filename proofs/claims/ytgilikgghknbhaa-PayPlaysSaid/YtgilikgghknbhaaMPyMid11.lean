/- Proved: what functions of the given program compute (used by the theorem of this claim). Conditions: none but those that each theorem states. -/
import Derived.Test.YtgilikgghknbhaaMPyLaw1
import Derived.Test.YtgilikgghknbhaaMPyMid3
import Derived.Test.YtgilikgghknbhaaMSxDrawE
set_option linter.unusedVariables false
set_option linter.unusedSimpArgs false
set_option linter.unnecessarySimpa false

namespace Go.Sx
open Go.Proofs
theorem wk_inR (c : Un) : Wk (inC c) (inD (mkI c)):=
 .aggL (.cons (.refl _) (.cons (.nils _ _) (.cons (.refl _) (.cons (.nils _ _) .nil))))
theorem wk_mkR (cs : List Un) (os : List OutS) : Wk (.agg [.u32 2,.sl (some 46) 36 (cs.map inC),.sl (some 48) 2 (os.map outD),.u32 0]) (.agg [.u32 2,.sl (some 46) 36 ((cs.map mkI).map inD),.sl (some 48) 2 (os.map outD),.u32 0]):=
 .aggL (.cons (.refl _) (.cons (by rw [List.map_map]; exact .slM fun c _=>wk_inR c) (.cons (.refl _) (.cons (.refl _) .nil))))
theorem brw_mkR (is_ : List InS) (os : List OutS) : (D.agg [.u32 2,.sl (some 46) 36 (is_.map inD),.sl (some 48) 2 (os.map outD),.u32 0]).brw = txD ⟨2,is_,os,0⟩:=by
 simp only [txD,D.brw,brws_eq,List.map_cons,List.map_nil]
 rw [brw_map brw_inD,brw_map brw_outD]
theorem woD_app {ws : List Wnt} {i : Nat} (h : i < ws.length) : ((ws.take i).map woS).map outD ++ [.agg [.u64 ws[i]!.value,bytesD ws[i]!.script]] = ((ws.take (i + 1)).map woS).map outD:=by
 rw [take_s h,List.map_append,List.map_append]; rfl
theorem woD_last (ws : List Wnt) (v : UInt64) (own : List UInt8) : (ws.map woS).map outD ++ [.agg [.u64 v,bytesD own]] = (ws.map woS ++ [(⟨v,own⟩ : OutS)]).map outD:=by
 rw [List.map_append]; rfl
def inI (l : List Un) (t : TxS) : Nat -> UInt64
 | 0=>0
 | i + 1=>inI l t i + kGet 0 (purI l l.length) (plc t.ins[i]!)
def lftO (l : List Un) (t : TxS) : Nat -> UInt64
 | 0=>inI l t t.ins.length
 | j + 1=>lftO l t j - t.outs[j]!.value
def ckI (l : List Un) (t : TxS) (i : Nat) : Prop:=kHas (purI l l.length) (plc t.ins[i]!) = true
instance (l : List Un) (t : TxS) (i : Nat) : Decidable (ckI l t i):=by unfold ckI; infer_instance
def ckP (l : List Un) (t : TxS) : Prop:=purP l /\ mayS t = true
instance (l : List Un) (t : TxS) : Decidable (ckP l t):=by unfold ckP; infer_instance
def ckQ (l : List Un) (t : TxS) : Prop:=(∀ i < t.ins.length,ckI l t i) /\ ∀ j < t.outs.length,¬ lftO l t j < t.outs[j]!.value
instance (l : List Un) (t : TxS) : Decidable (ckQ l t):=by unfold ckQ; infer_instance
def ckV (l : List Un) (t : TxS) : UInt64:=if ckP l t /\ ckQ l t then lftO l t t.outs.length else 0
def ckE (l : List Un) (t : TxS) : Int:=if ckP l t then (if ckQ l t then 0 else 14) else 1
theorem ck_1 {l : List Un} {t : TxS} (h : ¬ ckP l t) : [D.u64 0,D.int 1] = [.u64 (ckV l t),.int (ckE l t)]:=by
 rw [ckV,ckE,if_neg (fun hh=>h hh.1),if_neg h]
theorem ck_2 {l : List Un} {t : TxS} {i : Nat} (h : ckP l t) (hi : i < t.ins.length) (hn : kHas (purI l l.length) (plc t.ins[i]!) = false) : [D.u64 0,D.int 14] = [.u64 (ckV l t),.int (ckE l t)]:=by
 have hq : ¬ ckQ l t:=fun hq=>by
  have h1 : kHas _ _ = true:=hq.1 i hi
  rw [hn] at h1; cases h1
 rw [ckV,ckE,if_neg (fun hh=>hq hh.2),if_pos h,if_neg hq]
theorem ck_3 {l : List Un} {t : TxS} {j : Nat} (h : ckP l t) (hj : j < t.outs.length) (hn : lftO l t j < t.outs[j]!.value) : [D.u64 0,D.int 14] = [.u64 (ckV l t),.int (ckE l t)]:=by
 have hq : ¬ ckQ l t:=fun hq=>hq.2 j hj hn
 rw [ckV,ckE,if_neg (fun hh=>hq hh.2),if_pos h,if_neg hq]
theorem ck_4 {l : List Un} {t : TxS} (h : ckP l t) (h1 : ∀ i < t.ins.length,ckI l t i) (h2 : ∀ j < t.outs.length,¬ lftO l t j < t.outs[j]!.value) : [D.u64 (lftO l t t.outs.length),D.int 0] = [.u64 (ckV l t),.int (ckE l t)]:=by
 rw [ckV,ckE,if_pos ⟨h,h1,h2⟩,if_pos h,if_pos ⟨h1,h2⟩]
def addK (l : List Un) (p : Plc) : Nat -> UInt64
 | 0=>0
 | k + 1=>addK l p k + (if upl l[k]! = p then l[k]!.value else 0)
theorem u_add_zero (a : UInt64) : a + 0 = a:=by grind
theorem u_add_assoc (a b c : UInt64) : a + b + c = a + (b + c):=by grind
theorem addK_0 (a : UInt64) (l : List Un) (p : Plc) : a + addK l p 0 = a:=u_add_zero a
theorem thr_y {l : List Un} {p : Plc} {k : Nat} (h : upl l[k]! = p) : kHas (purI l (k + 1)) p = true:=purI_iff.2 ⟨k,by omega,h⟩
theorem thr_n {l : List Un} {p : Plc} {k : Nat} (h : upl l[k]! ≠ p) : kHas (purI l (k + 1)) p = kHas (purI l k) p:=by
 rw [Bool.eq_iff_iff,purI_iff,purI_iff]
 constructor
 · rintro ⟨j,hj,e⟩
   rcases Nat.lt_succ_iff_lt_or_eq.1 hj with h1 | h1
   · exact ⟨j,h1,e⟩
   · subst h1; exact absurd e h
 · rintro ⟨j,hj,e⟩; exact ⟨j,by omega,e⟩
theorem add_y {a : UInt64} {l : List Un} {p : Plc} {k : Nat} (h : upl l[k]! = p) : a + addK l p (k + 1) = a + addK l p k + l[k]!.value:=by
 rw [addK,if_pos h,u_add_assoc]
theorem add_n {a : UInt64} {l : List Un} {p : Plc} {k : Nat} (h : upl l[k]! ≠ p) : a + addK l p (k + 1) = a + addK l p k:=by
 rw [addK,if_neg h,u_add_zero]
theorem kGet_cons (z : UInt64) (a : Plc) (v : UInt64) (m : List (Plc × UInt64)) (k : Plc) : kGet z ((a,v) :: m) k = if a = k then v else kGet z m k:=by
 unfold kGet kIdx
 rw [List.findIdx_cons]
 show ((((a,v) :: m)[bif decide (a = k) then 0 else _]?).map _).getD z = _
 by_cases h : a = k
 · subst h; simp
 · rw [decide_eq_false h,if_neg h]; rfl
theorem kHas_cons (a : Plc) (v : UInt64) (m : List (Plc × UInt64)) (k : Plc) : kHas ((a,v) :: m) k = (decide (a = k) || kHas m k):=rfl
theorem kGet_no {z : UInt64} {m : List (Plc × UInt64)} {k : Plc} (h : kHas m k = false) : kGet z m k = z:=by
 induction m with
 | nil=>rfl
 | cons e m ih=>
  obtain ⟨a,v⟩:=e
  rw [kHas_cons,Bool.or_eq_false_iff] at h
  rw [kGet_cons,if_neg (of_decide_eq_false h.1),ih h.2]
theorem kGet_last {z : UInt64} {m : List (Plc × UInt64)} {k : Plc} {u : UInt64} (h : kHas m k = false) : kGet z (m ++ [(k,u)]) k = u:=by
 induction m with
 | nil=>rw [List.nil_append,kGet_cons,if_pos rfl]
 | cons e m ih=>
  obtain ⟨a,v⟩:=e
  rw [kHas_cons,Bool.or_eq_false_iff] at h
  rw [List.cons_append,kGet_cons,if_neg (of_decide_eq_false h.1),ih h.2]
theorem kGet_skip {z : UInt64} {m : List (Plc × UInt64)} {k q : Plc} {u : UInt64} (h : q ≠ k) : kGet z (m ++ [(q,u)]) k = kGet z m k:=by
 induction m with
 | nil=>rw [List.nil_append,kGet_cons,if_neg h]
 | cons e m ih=>
  obtain ⟨a,v⟩:=e
  rw [List.cons_append,kGet_cons,kGet_cons,ih]
theorem addK_get {l : List Un} (hp : purP l) (p : Plc) : ∀ k ≤ l.length,addK l p k = kGet 0 (purI l k) p:=by
 intro k
 induction k with
 | zero=>intro _; rfl
 | succ k ih=>
  intro hk
  have ih:=ih (by omega)
  have hno:=(hp k (by omega)).1
  rw [addK,ih,purI]
  by_cases h : upl l[k]! = p
  · subst h
    have h0 : kGet 0 (purI l k) (upl l[k]!) = 0:=kGet_no hno
    rw [if_pos rfl,h0,kGet_last hno]
    grind
  · rw [if_neg h,u_add_zero,kGet_skip h]
theorem inI_s {l : List Un} {t : TxS} {i : Nat} (hp : purP l) : inI l t (i + 1) = inI l t i + addK l (plc t.ins[i]!) l.length:=by
 rw [inI,addK_get hp _ _ (Nat.le_refl _)]
end Go.Sx

namespace Go.Sx
open Go.Proofs
theorem rmake_ok (l : List Un) (ws : List Wnt) (r : UInt64) (hl : l.length <= 4096) (hx : hs32 l) (hw : ws.length <= 1000000) (own : List UInt8) (ho : own.length <= 1000000) : Fn Try.prog gl 16 [.sl none 35 (l.map coD),.sl none 2 (ws.map wntD),.sl none 1 (own.map D.u8),.u64 r] (.tup [txD (mkT l ws own r),.int (mkE l ws own r)]):=by
 refine Fn.of (n:=87) Try.func16 rfl rfl rfl (nU rfl) fun C hC hD=>?_
 have hcl:=chC_len l ws r
 refine W.seq ?_
 refine W.l0 2 [] [] [] [(0,_),(1,_),(2,_),(3,_)] [] 87 Zt O O O O (⟨O,_,R.alloc O (nU O),⟨O,_,R.asg (kI 0 O) O (nU O),tV [(0,_),(1,_),(2,_),(3,_),(8,_)] [(8,.var _)] 87 O O O ?_⟩⟩)
 refine W.seq ?_
 refine W.l0 11 [.y 17 _,.y 18 _,.y 19 _,.y 20 _,.y 16 _,.y 21 _,.y 22 _,.y 23 _,.y 10 _,.y 11 _,.y 12 _] [] [] [(1,_),(2,_),(8,_),(10,_),(11,_),(12,_)] [(8,.var _)] 87 ⟨mU 0 O O,mU 1 O O,mU 3 O O,aU fun _ _ H K=>R.callPE hC (rchoose_ok l ws r hl hx hw) (EvP.cons (eU K 17 O) O O (EvP.cons (eU K 18 O) O O (EvP.cons (eU K 19 O) O O EvP.nil))) H,aU fun _ _ H K=>R.movT (K 20 _ O) O H,aU fun _ _ H K=>R.ext (K 16 _ O) O O H,aU fun _ _ H K=>R.ext (K 16 _ O) O O H,aU fun _ _ H K=>R.ext (K 16 _ O) O O H,aU fun _ _ H K=>R.asg (eU K 21 O) O H,aU fun _ _ H K=>R.asg (eU K 22 O) O H,aU fun _ _ H K=>R.asg (eU K 23 O) O H,Zt⟩ O O O O (tU O ?_)
 refine W.seq (W.seq ?_)
 refine W.l0 2 [.y 24 _,.y 25 _] [] [] [(1,_),(2,_),(8,_),(10,_),(11,_),(12,_),(25,_)] [(8,.var _)] 87 ⟨mU 12 O O,aU fun _ _ H K=>R.bin (eU K 24 O) (kI 0 O) O Zt H,Zt⟩ O O O O (tU O ?_)
 refine W.cond O (fun hc25=>?_) (fun hc25=>?_)
 · refine W.seq ?_
   refine W.l0 4 [.y 26 _,.y 27 _] [] [] [(8,_),(26,_),(27,_)] [(8,.var _)] 87 ⟨aU fun _ _ H _=>R.bldSE (l:=[.u32 0,.nils,.nils,.u32 0]) (l':=[_,_,_,_]) (.nil O) Zt H,mU 12 O O,Zt⟩ O O O O (⟨O,_,R.stZ (gU 8 O) (xU 8 O) O (gV 26 O) (by rfl) (by rfl) (by rfl) (by rfl) O,⟨O,_,R.asg (gV 27 O) O (nU O),tV [(8,_),(9,_)] [(8,.var _)] 87 O O O ?_⟩⟩)
   refine W.wkB 8 (d':=txD zeroT) (bx':=[(8,.var _)]) O wk_zeroT O ?_
   refine W.ret ?_
   exact Ends.many (.inr O) (.cons O O O (show LdT _ 30 4 true from inferInstance) (.cons O O O Zt .nil)) (mk_1 (by simpa using hc25)) (show [(8,false),(9,true)].Nodup by decide)
 · refine W.skip (W.seq (W.seq ?_))
   have he : chE l ws r = 0:=by simpa using hc25
   have hq:=chE_P he
   refine W.l0 3 [.y 28 _,.y 29 _,.y 30 _] [] [] [(1,_),(2,_),(8,_),(10,_),(11,_),(30,_)] [(8,.var _)] 87 ⟨mU 2 O O,aU fun _ _ H K=>R.lenE (SC.sl (K 28 _ O)) (lN _) H,aU fun _ _ H K=>R.gtrN (own.length) (1000) (eU K 29 O) (kI 1000 O) H,Zt⟩ O O O O (tU O ?_)
   refine W.condD O (fun hc30=>?_) (fun hc30=>?_)
   · refine W.seq ?_
     refine W.l0 3 [.y 31 _] [] [] [(8,_),(31,_)] [(8,.var _)] 87 ⟨aU fun _ _ H _=>R.bldSE (l:=[.u32 0,.nils,.nils,.u32 0]) (l':=[_,_,_,_]) (.nil O) Zt H,Zt⟩ O O O O (⟨O,_,R.stZ (gU 8 O) (xU 8 O) O (gV 31 O) (by rfl) (by rfl) (by rfl) (by rfl) O,⟨O,_,R.asg (kI 1 O) O (nU O),tV [(8,_),(9,_)] [(8,.var _)] 87 O O O ?_⟩⟩)
     refine W.wkB 8 (d':=txD zeroT) (bx':=[(8,.var _)]) O wk_zeroT O ?_
     refine W.ret ?_
     exact Ends.many (.inr O) (.cons O O O (show LdT _ 30 4 true from inferInstance) (.cons O O O Zt .nil)) (mk_2 he (by first | exact hc30 | exact of_decide_eq_true hc30)) (show [(8,false),(9,true)].Nodup by decide)
   · refine W.skip (W.seq ?_)
     refine W.l0 3 [.y 32 _] [] [] [(1,_),(2,_),(8,_),(10,_),(11,_),(32,_)] [(8,.var _)] 87 ⟨aU fun _ _ H _=>R.bldSE (l:=[.u32 0,.nils,.nils,.u32 0]) (l':=[_,_,_,_]) (.cons (show ev _ _ (.const (.int .u32 2)) = some (.u32 2) from O) (.nil O)) ⟨⟨_,(show ev _ _ (.const (.int .u32 2)) = some (.u32 2) from O),O,O,O⟩,Zt⟩ H,Zt⟩ O O O O (⟨O,_,R.alloc O (nU O),⟨O,_,R.stZ (gU 13 O) (xU 13 O) O (gV 32 O) (by rfl) (by rfl) (by rfl) (by rfl) O,tV [(1,_),(2,_),(8,_),(10,_),(11,_),(13,_)] [(13,.var _),(8,.var _)] 87 O O O ?_⟩⟩)
     refine W.seq (W.seq ?_)
     refine W.asOwnP 13 [1] 46 36 (bx':=[(13,.var _),(8,.var _)]) O O O O O ?_
     refine W.l0 1 [.y 14 _] [] [] [(1,_),(2,_),(8,_),(10,_),(11,_),(13,_),(14,_)] [(13,.var _),(8,.var _)] 87 ⟨aU fun _ _ H _=>R.asg (kI 0 O) O H,Zt⟩ O O O O (tU O ?_)
     refine W.block ?_
     refine W.loop (α:={q__ : Nat // q__ <= (chC l ws r).length}) (fun q__=>⟨87,[(1,.sl none 2 (ws.map wntD)),(2,.sl none 1 (own.map D.u8)),(8,.ptr 8 0 []),(10,.sl none 35 ((chC l ws r).map coD)),(11,.u64 (chV l ws r)),(13,.ptr 13 0 []),(14,.int ((q__.1 : Nat) : Int))],[(13,.var (.agg [.u32 2,.sl (some 46) 36 (((chC l ws r).take q__.1).map inC),.nils,.u32 0])),(8,.var (.agg [.u32 0,.nils,.nils,.u32 0]))]⟩) (fun q__=>(chC l ws r).length - q__.1) ⟨(0),bU⟩ O ?_
     rintro ⟨i,hi⟩
     show W _ _ _ _ ⟨87,[(1,.sl none 2 (ws.map wntD)),(2,.sl none 1 (own.map D.u8)),(8,.ptr 8 0 []),(10,.sl none 35 ((chC l ws r).map coD)),(11,.u64 (chV l ws r)),(13,.ptr 13 0 []),(14,.int ((i : Nat) : Int))],[(13,.var (.agg [.u32 2,.sl (some 46) 36 (((chC l ws r).take i).map inC),.nils,.u32 0])),(8,.var (.agg [.u32 0,.nils,.nils,.u32 0]))]⟩
     have hi : i <= (chC l ws r).length:=hi
     refine W.seq (W.seq ?_)
     refine W.l0 4 [.y 33 _,.y 34 _,.y 35 _,.y 36 _] [] [] [(1,_),(2,_),(8,_),(10,_),(11,_),(13,_),(14,_),(36,_)] [(13,.var _),(8,.var _)] 87 ⟨mU 14 O O,mU 10 O O,aU fun _ _ H K=>R.lenE (SC.sl (K 34 _ O)) (lN _) H,aU fun _ _ H K=>R.lssN (i) ((chC l ws r).length) (eU K 33 O) (eU K 35 O) H,Zt⟩ O O O O (tU O ?_)
     refine W.condD O (fun hc36=>?_) (fun hc36=>?_)
     · refine W.skip (W.seq (W.block ?_))
       refine W.draw (m:=9) (an:=[0,1,0,0,12,28,60,124,252,511,1023,2047]) hP dU O (its:=[.y 39 _,.y 40 _,.y 41 _,.y 42 _,.y 43 _,.y 44 _,.y 45 _,.y 46 _,.y 47 _]) (ks:=[]) (kk:=[]) (live:=[1,2,8,10,11,13,14,40,47]) (env':=[(1,_),(2,_),(8,_),(10,_),(11,_),(13,_),(14,_),(40,_),(47,_)]) (⟨nU O,O,⟨aU (fU 13 O O),aU fun _ B H K=>R.ldO (K 39 _ O) (B 13 _ O) O H,mU 10 O O,mU 14 O O,aU fun _ _ H K=>R.idxN (i) (SC.sl (K 41 _ O)) (evoI (eU K 42 O)) O bU H dU,aU fun _ _ H K=>R.fdE (K 43 _ O) H dU,aU fun _ _ H K=>R.ldE (K 44 _ O) (SC.sl (K 41 _ O)) (map_get! (l:=(chC l ws r)) bU) O O O O H,aU fun _ _ H K=>R.bldSE (l:=[.agg [.arr 32 1 ((List.replicate 32 0).map D.u8),.u32 0],.nils,.u32 0,.nils]) (l':=[_,_,_,_]) (.cons (eU K 45 O) (.cons (show ev _ _ (.const (.int .u32 4294967295)) = some (.u32 4294967295) from O) (.nil O))) ⟨⟨_,(eU K 45 O),O,O,O⟩,⟨⟨_,(show ev _ _ (.const (.int .u32 4294967295)) = some (.u32 4294967295) from O),O,O,O⟩,Zt⟩⟩ H,aU fun _ _ H K=>R.bslE (z:=36) (.cons (eU K 46 O) .nil) ⟨⟨O,O,O⟩,Zt⟩ O H dU,Zt⟩,O,O,O⟩) O (bx':=[(13,.var _),(8,.var _)]) O (n':=87) O (⟨O,_,R.appBP (gU 40 O) (xU 13 O) O O O O (gU 40 O) (SrcO.sc (SC.sl (gU 47 O)) (pur_lit O)) (show _ = (((chC l ws r).take (i + 1)).map inC) from (mkI_app hc36)) bU (nU O) dU dU,⟨O,_,R.fdP (gU 13 O) (nU O),⟨O,_,R.stOZ (gU 49 O) (xU 13 O) O (gU 48 O) O O (by rfl) (by rfl) O O,tV [(1,_),(2,_),(8,_),(10,_),(11,_),(13,_),(14,_)] [(13,.var _),(8,.var _)] 87 O O O ?_⟩⟩⟩)
       refine W.l0 3 [.y 37 _,.y 38 _,.y 14 _] [] [] [(1,_),(2,_),(8,_),(10,_),(11,_),(13,_),(14,_)] [(13,.var _),(8,.var _)] 87 ⟨mU 14 O O,aU fun _ _ H K=>R.addN (i) (1) (eU K 37 O) (kI 1 O) bU H,aU fun _ _ H K=>R.asg (eU K 38 O) O H,Zt⟩ O O O O (tU O ?_)
       exact ⟨⟨(i + 1),bU⟩,rfl,(by simp only []; omega)⟩
     · obtain rfl : i = (chC l ws r).length:=by omega
       rw [List.take_length]
       refine W.exit (W.seq (W.seq ?_))
       refine W.asOwnP 13 [2] 48 2 (bx':=[(13,.var _),(8,.var _)]) O O O O O ?_
       refine W.l0 1 [.y 15 _] [] [] [(1,_),(2,_),(8,_),(11,_),(13,_),(15,_)] [(13,.var _),(8,.var _)] 87 ⟨aU fun _ _ H _=>R.asg (kI 0 O) O H,Zt⟩ O O O O (tU O ?_)
       refine W.block ?_
       refine W.loop (α:={q__ : Nat // q__ <= ws.length}) (fun q__=>⟨87,[(1,.sl none 2 (ws.map wntD)),(2,.sl none 1 (own.map D.u8)),(8,.ptr 8 0 []),(11,.u64 (chV l ws r)),(13,.ptr 13 0 []),(15,.int ((q__.1 : Nat) : Int))],[(13,.var (.agg [.u32 2,.sl (some 46) 36 ((chC l ws r).map inC),.sl (some 48) 2 (((ws.take q__.1).map woS).map outD),.u32 0])),(8,.var (.agg [.u32 0,.nils,.nils,.u32 0]))]⟩) (fun q__=>ws.length - q__.1) ⟨(0),bU⟩ O ?_
       rintro ⟨i,hi⟩
       show W _ _ _ _ ⟨87,[(1,.sl none 2 (ws.map wntD)),(2,.sl none 1 (own.map D.u8)),(8,.ptr 8 0 []),(11,.u64 (chV l ws r)),(13,.ptr 13 0 []),(15,.int ((i : Nat) : Int))],[(13,.var (.agg [.u32 2,.sl (some 46) 36 ((chC l ws r).map inC),.sl (some 48) 2 (((ws.take i).map woS).map outD),.u32 0])),(8,.var (.agg [.u32 0,.nils,.nils,.u32 0]))]⟩
       have hi : i <= ws.length:=hi
       refine W.seq (W.seq ?_)
       refine W.l0 4 [.y 50 _,.y 51 _,.y 52 _,.y 53 _] [] [] [(1,_),(2,_),(8,_),(11,_),(13,_),(15,_),(53,_)] [(13,.var _),(8,.var _)] 87 ⟨mU 15 O O,mU 1 O O,aU fun _ _ H K=>R.lenE (SC.sl (K 51 _ O)) (lN _) H,aU fun _ _ H K=>R.lssN (i) (ws.length) (eU K 50 O) (eU K 52 O) H,Zt⟩ O O O O (tU O ?_)
       refine W.condD O (fun hc53=>?_) (fun hc53=>?_)
       · refine W.skip (W.seq (W.block ?_))
         refine W.draw (m:=14) (an:=[0,1,0,0,12,28,60,0,0,384,896,1920,4092,8188,16383,32767,65535]) hP dU O (its:=[.y 56 _,.y 57 _,.y 58 _,.y 59 _,.y 60 _,.y 61 _,.y 62 _,.y 63 _,.y 64 _,.y 65 _,.y 66 _,.y 67 _,.y 68 _,.y 69 _]) (ks:=[]) (kk:=[]) (live:=[1,2,8,11,13,15,57,69]) (env':=[(1,_),(2,_),(8,_),(11,_),(13,_),(15,_),(57,_),(69,_)]) (⟨nU O,O,⟨aU (fU 13 O O),aU fun _ B H K=>R.ldO (K 56 _ O) (B 13 _ O) O H,mU 1 O O,mU 15 O O,aU fun _ _ H K=>R.idxN (i) (SC.sl (K 58 _ O)) (evoI (eU K 59 O)) O bU H dU,aU fun _ _ H K=>R.fdE (K 60 _ O) H dU,aU fun _ _ H K=>R.ldE (K 61 _ O) (SC.sl (K 58 _ O)) (map_get! (l:=ws) bU) O O O O H,mU 1 O O,mU 15 O O,aU fun _ _ H K=>R.idxN (i) (SC.sl (K 63 _ O)) (evoI (eU K 64 O)) O bU H dU,aU fun _ _ H K=>R.fdE (K 65 _ O) H dU,aU fun _ _ H K=>R.ldE (K 66 _ O) (SC.sl (K 63 _ O)) (map_get! (l:=ws) bU) O O O O H,aU fun _ _ H K=>R.bldSE (l:=[.u64 0,.nils]) (l':=[_,_]) (.cons (eU K 62 O) (.cons (eU K 67 O) (.nil O))) ⟨⟨_,(eU K 62 O),O,O,O⟩,⟨⟨_,(eU K 67 O),O,O,O⟩,Zt⟩⟩ H,aU fun _ _ H K=>R.bslE (z:=2) (.cons (eU K 68 O) .nil) ⟨⟨O,O,O⟩,Zt⟩ O H dU,Zt⟩,O,O,O⟩) O (bx':=[(13,.var _),(8,.var _)]) O (n':=87) O (⟨O,_,R.appBP (gU 57 O) (xU 13 O) O O O O (gU 57 O) (SrcO.sc (SC.sl (gU 69 O)) (pur_lit O)) (show _ = (((ws.take (i + 1)).map woS).map outD) from (woD_app hc53)) (by simp only [List.length_map,List.length_take,List.length_cons,List.length_nil]; have:=hq.1.2.1; omega) (nU O) dU dU,⟨O,_,R.fdP (gU 13 O) (nU O),⟨O,_,R.stOZ (gU 71 O) (xU 13 O) O (gU 70 O) O O (by rfl) (by rfl) O O,tV [(1,_),(2,_),(8,_),(11,_),(13,_),(15,_)] [(13,.var _),(8,.var _)] 87 O O O ?_⟩⟩⟩)
         refine W.l0 3 [.y 54 _,.y 55 _,.y 15 _] [] [] [(1,_),(2,_),(8,_),(11,_),(13,_),(15,_)] [(13,.var _),(8,.var _)] 87 ⟨mU 15 O O,aU fun _ _ H K=>R.addN (i) (1) (eU K 54 O) (kI 1 O) bU H,aU fun _ _ H K=>R.asg (eU K 55 O) O H,Zt⟩ O O O O (tU O ?_)
         exact ⟨⟨(i + 1),bU⟩,rfl,(by simp only []; omega)⟩
       · obtain rfl : i = ws.length:=by omega
         rw [List.take_length]
         refine W.exit ?_
         refine W.seqM (fun s__=>∃ q__ : {q__ : Unit // True},s__ = ⟨87,[(8,.ptr 8 0 []),(13,.ptr 13 0 [])],[(13,.var (.agg [.u32 2,.sl (some 46) 36 ((chC l ws r).map inC),.sl (some 48) 2 ((mkO ws (chV l ws r) own).map outD),.u32 0])),(8,.var (.agg [.u32 0,.nils,.nils,.u32 0]))]⟩) ?_ ?_
         · refine W.seq ?_
           refine W.l0 2 [.y 72 _,.y 73 _] [] [] [(2,_),(8,_),(11,_),(13,_),(73,_)] [(13,.var _),(8,.var _)] 87 ⟨mU 11 O O,aU fun _ _ H K=>R.bin (eU K 72 O) (show ev _ _ (.const (.int .u64 0)) = some (.u64 0) from O) O Zt H,Zt⟩ O O O O (tU O ?_)
           refine W.cond O (fun hc73=>?_) (fun hc73=>?_)
           · refine W.l0 9 [.y 74 _,.y 75 _,.y 76 _,.y 77 _,.y 78 _,.y 79 _] [] [] [(8,_),(13,_),(75,_),(79,_)] [(13,.var _),(8,.var _)] 87 ⟨aU (fU 13 O O),aU fun _ B H K=>R.ldO (K 74 _ O) (B 13 _ O) O H,mU 11 O O,mU 2 O O,aU fun _ _ H K=>R.bldSE (l:=[.u64 0,.nils]) (l':=[_,_]) (.cons (eU K 76 O) (.cons (eU K 77 O) (.nil O))) ⟨⟨_,(eU K 76 O),O,O,O⟩,⟨⟨_,(eU K 77 O),O,O,O⟩,Zt⟩⟩ H,aU fun _ _ H K=>R.bslE (z:=2) (.cons (eU K 78 O) .nil) ⟨⟨O,O,O⟩,Zt⟩ O H dU,Zt⟩ O O O O (⟨O,_,R.appBP (gU 75 O) (xU 13 O) O O O O (gU 75 O) (SrcO.sc (SC.sl (gU 79 O)) (pur_lit O)) (show _ = ((ws.map woS ++ [(⟨(chV l ws r),own⟩ : OutS)]).map outD) from (woD_last _ _ _)) (by simp only [List.length_map,List.length_cons,List.length_nil]; have:=hq.1.2.1; omega) (nU O) dU dU,⟨O,_,R.fdP (gU 13 O) (nU O),⟨O,_,R.stOZ (gU 81 O) (xU 13 O) O (gU 80 O) O O (by rfl) (by rfl) O O,tV [(8,_),(13,_)] [(13,.var _),(8,.var _)] 87 O O O ?_⟩⟩⟩)
             exact ⟨⟨(()),Zt⟩,(by rw [mkO_y (of_decide_eq_true hc73)] <;> rfl)⟩
           · refine W.dropS (live:=[8,13]) (env':=[(8,_),(13,_)]) (bx':=[(13,.var _),(8,.var _)]) (n':=87) O O O ?_
             refine W.skip ?_
             exact ⟨⟨(()),Zt⟩,(by rw [mkO_n (of_decide_eq_false hc73)] <;> rfl)⟩
         · rintro s__ ⟨⟨_,_⟩,rfl⟩
           refine W.seq (W.seq ?_)
           refine W.wkB 13 (d':=.agg [.u32 2,.sl (some 46) 36 (((chC l ws r).map mkI).map inD),.sl (some 48) 2 ((mkO ws (chV l ws r) own).map outD),.u32 0]) (bx':=[(13,.var _),(8,.var _)]) O (wk_mkR _ _) O ?_
           refine W.brwB 13 (d':=txD (mkX l ws own r)) (bx':=[(13,.var _),(8,.var _)]) O (brw_mkR _ _) O ?_
           refine W.l0 3 [.y 82 _,.y 83 _,.y 84 _] [] [] [(8,_),(13,_),(84,_)] [(13,.var _),(8,.var _)] 87 ⟨aU (lU 13 O O O O O O O),aU fun _ _ H K=>R.callG hC (rmay_ok (mkX l ws own r) (mkX_wf hl hx he (by first | exact hc30 | exact of_decide_eq_false hc30))) (Bc (Bp (eU K 82 O) O O) Bn) (FrsR.one (.bool _)) H,aU fun _ _ H K=>R.un (eU K 83 O) O H,Zt⟩ O O O O (tU O ?_)
           refine W.cond O (fun hc84=>?_) (fun hc84=>?_)
           · refine W.seq ?_
             refine W.l0 3 [.y 85 _] [] [] [(8,_),(85,_)] [(13,.var _),(8,.var _)] 87 ⟨aU fun _ _ H _=>R.bldSE (l:=[.u32 0,.nils,.nils,.u32 0]) (l':=[_,_,_,_]) (.nil O) Zt H,Zt⟩ O O O O (⟨O,_,R.stZ (gU 8 O) (xU 8 O) O (gV 85 O) (by rfl) (by rfl) (by rfl) (by rfl) O,⟨O,_,R.asg (kI 6 O) O (nU O),tV [(8,_),(9,_)] [(13,.var _),(8,.var _)] 87 O O O ?_⟩⟩)
             refine W.wkB 8 (d':=txD zeroT) (bx':=[(13,.var _),(8,.var _)]) O wk_zeroT O ?_
             refine W.ret ?_
             exact Ends.many (.inr O) (.cons O O O (show LdT _ 30 4 true from inferInstance) (.cons O O O Zt .nil)) (mk_3 he (by first | exact hc30 | exact of_decide_eq_false hc30) (by simpa using hc84)) (show [(8,false),(9,true)].Nodup by decide)
           · refine W.skip (W.seq ?_)
             refine W.l0 3 [.y 86 _] [] [] [(8,_),(86,_)] [(13,.var _),(8,.var _)] 87 ⟨aU (lU 13 O O O O O O O),Zt⟩ O O O O (⟨O,_,R.stZ (gU 8 O) (xU 8 O) O (gV 86 O) (by rfl) (by rfl) (by rfl) (by rfl) O,⟨O,_,R.asg (kI 0 O) O (nU O),tV [(8,_),(9,_)] [(13,.var _),(8,.var _)] 87 O O O ?_⟩⟩)
             refine W.ret ?_
             exact Ends.many (.inr O) (.cons O O O (show LdT _ 30 4 true from inferInstance) (.cons O O O Zt .nil)) (mk_4 he (by first | exact hc30 | exact of_decide_eq_false hc30) (by simpa using hc84)) (show [(8,false),(9,true)].Nodup by decide)
end Go.Sx

namespace Go.Sx
open Go.Proofs
theorem check_ok (l : List Un) (t : TxS) (hl : l.length <= 4096) (hx : hs32 l) (hwf : t.wf) : Fn Try.prog gl 18 [.sl none 35 (l.map coD),txD t] (.tup [.u64 (ckV l t),.int (ckE l t)]):=by
 refine Fn.of (n:=63) Try.func18 rfl rfl rfl (nU rfl) fun C hC hD=>?_
 have h1:=hwf.ins
 have h2:=hwf.outs
 refine W.seq ?_
 refine W.l0 3 [] [] [] [(0,_),(1,_)] [] 63 Zt O O O O (⟨O,_,R.box (gV 1 O) O O (nU O),⟨O,_,R.asg (show ev _ _ (.const (.int .u64 0)) = some (.u64 0) from O) O (nU O),⟨O,_,R.asg (kI 0 O) O (nU O),tV [(0,_),(3,_),(4,_)] [(3,.var _)] 63 O O O ?_⟩⟩⟩)
 refine W.seq ?_
 by_cases hp : purP l
 · refine W.l0 7 [.y 15 _] [] [] [(3,_),(4,_),(15,_)] [(3,.var _)] 63 ⟨mU 0 O O,Zt⟩ O O O O (⟨O,_,R.callB [(12,16)] hC (purse_t l hl hp) (EvB.cons (gV 15 O) O O O EvB.nil) O Zt Zt O (renPu _ _ _ _) O O O O (nU O),⟨O,_,R.movT (gU 16 O) O (nU O),⟨O,_,R.ext (gU 14 O) O O (nU O),⟨O,_,R.ext (gU 14 O) O O (nU O),⟨O,_,R.asg (gV 17 O) O (nU O),⟨O,_,R.asg (gV 18 O) O (nU O),tV [(3,_),(4,_),(6,_),(7,_)] [(16,mpK placeK D.u64 _),(3,.var _)] 63 O O O ?_⟩⟩⟩⟩⟩⟩)
   refine W.seq (W.seq ?_)
   refine W.l0 7 [.y 19 _,.y 20 _,.y 21 _,.y 22 _,.y 23 _,.y 24 _,.y 25 _] [] [] [(3,_),(4,_),(6,_),(25,_)] [(16,mpK placeK D.u64 _),(3,.var _)] 63 ⟨mU 7 O O,aU fun _ _ H K=>R.un (eU K 19 O) O H,mU 20 O O,aW O O (gF (O) O) (lU 3 O O O O O O O),aW O O (gF (O) O) fun _ _ H K=>R.callG hC (may_ok t hwf) (Bc (Bp (eU K 22 O) O O) Bn) (FrsR.one (.bool _)) H,aW O O (gF (O) O) fun _ _ H K=>R.un (eU K 23 O) O H,aU fun _ _ H K=>R.pickF (eU K 21 O) (O) (eU K 24 O) O H,Zt⟩ O O O O (tU O ?_)
   refine W.cond O (fun hc25=>?_) (fun hc25=>?_)
   · refine W.seq ?_
     refine W.l0 2 [.y 4 _,.y 5 _] [] [] [(4,_),(5,_)] [(16,mpK placeK D.u64 _),(3,.var _)] 63 ⟨aU fun _ _ H _=>R.asg (show ev _ _ (.const (.int .u64 0)) = some (.u64 0) from O) O H,aU fun _ _ H _=>R.asg (kI 1 O) O H,Zt⟩ O O O O (tU O ?_)
     refine W.ret ?_
     exact Ends.many (.inr O) (.cons O O O Zt (.cons O O O Zt .nil)) (ck_1 (fun h=>by rw [h.2] at hc25; cases hc25)) (show [(4,true),(5,true)].Nodup by decide)
   · refine W.skip (W.seq (W.seq ?_))
     refine W.l0 4 [.y 26 _,.y 27 _,.y 28 _,.y 29 _] [] [] [(3,_),(4,_),(6,_),(27,_),(28,_),(29,_)] [(16,mpK placeK D.u64 _),(3,.var _)] 63 ⟨aU (fU 3 O O),aU (lU 26 O O O O O O O),aU fun _ _ H K=>R.lenE (SC.sl (K 27 _ O)) (lN _) H,aU fun _ _ H _=>R.mov (kI 0 O) O H,Zt⟩ O O O O (tU O ?_)
     refine W.block ?_
     refine W.loop (α:={q__ : Nat // q__ <= t.ins.length /\ ∀ j < q__,ckI l t j}) (fun q__=>⟨63,[(3,.ptr 3 0 []),(4,.u64 (inI l t q__.1)),(6,.map 16),(27,.sl none 36 (t.ins.map inD)),(28,.int ((t.ins.length : Nat) : Int)),(29,.int ((q__.1 : Nat) : Int))],[(16,mpK placeK D.u64 (purI l l.length)),(3,.var (.agg [.u32 t.ver,.sl none 36 (t.ins.map inD),.sl none 2 (t.outs.map outD),.u32 t.lock]))]⟩) (fun q__=>t.ins.length - q__.1) ⟨(0),⟨Nat.zero_le _,fun j h=>absurd h (Nat.not_lt_zero _)⟩⟩ O ?_
     rintro ⟨i,⟨hi,hok⟩⟩
     show W _ _ _ _ ⟨63,[(3,.ptr 3 0 []),(4,.u64 (inI l t i)),(6,.map 16),(27,.sl none 36 (t.ins.map inD)),(28,.int ((t.ins.length : Nat) : Int)),(29,.int ((i : Nat) : Int))],[(16,mpK placeK D.u64 (purI l l.length)),(3,.var (.agg [.u32 t.ver,.sl none 36 (t.ins.map inD),.sl none 2 (t.outs.map outD),.u32 t.lock]))]⟩
     have hi : i <= t.ins.length:=hi
     have hok : ∀ j < i,ckI l t j:=hok
     refine W.seq ?_
     refine W.l0 1 [.y 30 _] [] [] [(3,_),(4,_),(6,_),(27,_),(28,_),(29,_),(30,_)] [(16,mpK placeK D.u64 _),(3,.var _)] 63 ⟨aU fun _ _ H K=>R.lssN (i) (t.ins.length) (eU K 29 O) (eU K 28 O) H,Zt⟩ O O O O (tU O ?_)
     refine W.seq ?_
     refine W.condD O (fun hc30=>?_) (fun hc30=>?_)
     · refine W.skip (W.seq (W.block (W.seq ?_)))
       refine W.l0 4 [.y 31 _,.y 32 _] [] [] [(3,_),(4,_),(6,_),(27,_),(28,_),(29,_),(32,_)] [(16,mpK placeK D.u64 _),(3,.var _)] 63 ⟨aU fun _ _ H K=>R.idxN (i) (SC.sl (K 27 _ O)) (evoI (eU K 29 O)) O bU H dU,aU fun _ _ H K=>R.ldE (K 31 _ O) (SC.sl (K 27 _ O)) (map_get! (l:=t.ins) bU) O O O O H,Zt⟩ O O O O (⟨O,_,R.alloc O (nU O),⟨O,_,R.stZ (gU 9 O) (xU 9 O) O (gV 32 O) (by rfl) (by rfl) (by rfl) (by rfl) O,tV [(3,_),(4,_),(6,_),(9,_),(27,_),(28,_),(29,_)] [(9,.var _),(16,mpK placeK D.u64 _),(3,.var _)] 63 O O O ?_⟩⟩)
       refine W.seq ?_
       refine W.l0 9 [.y 34 _,.y 35 _,.y 36 _,.y 37 _,.y 33 _,.y 38 _,.y 39 _,.y 10 _,.y 11 _] [] [] [(3,_),(4,_),(6,_),(10,_),(11,_),(27,_),(28,_),(29,_)] [(9,.var _),(16,mpK placeK D.u64 _),(3,.var _)] 63 ⟨mU 6 O O,aU (fU 9 O O),aU (lU 35 O O O O O O O),aU fun _ B H K=>R.lookK (k:=plc t.ins[i]!) (z:=0) place_key (K 34 _ O) (B 16 _ O) (eU K 36 O) O O (fun _=>rfl) H,aU fun _ _ H K=>R.movT (K 37 _ O) O H,aU fun _ _ H K=>R.ext (K 33 _ O) O O H,aU fun _ _ H K=>R.ext (K 33 _ O) O O H,aU fun _ _ H K=>R.asg (eU K 38 O) O H,aU fun _ _ H K=>R.asg (eU K 39 O) O H,Zt⟩ O O O O (tU O ?_)
       refine W.seq (W.seq ?_)
       refine W.dropBP [3,16] (bx':=[(16,mpK placeK D.u64 _),(3,.var _)]) O O ⟨okMpK (fun _=>rfl) (fun _=>rfl),⟨O,Zt⟩⟩ (pin_sub hD O) ?_
       refine W.l0 2 [.y 40 _,.y 41 _] [] [] [(3,_),(4,_),(6,_),(10,_),(27,_),(28,_),(29,_),(41,_)] [(16,mpK placeK D.u64 _),(3,.var _)] 63 ⟨mU 11 O O,aU fun _ _ H K=>R.un (eU K 40 O) O H,Zt⟩ O O O O (tU O ?_)
       refine W.cond O (fun hc41=>?_) (fun hc41=>?_)
       · refine W.seq ?_
         refine W.l0 2 [.y 4 _,.y 5 _] [] [] [(4,_),(5,_)] [(16,mpK placeK D.u64 _),(3,.var _)] 63 ⟨aU fun _ _ H _=>R.asg (show ev _ _ (.const (.int .u64 0)) = some (.u64 0) from O) O H,aU fun _ _ H _=>R.asg (kI 14 O) O H,Zt⟩ O O O O (tU O ?_)
         refine W.ret ?_
         exact Ends.many (.inr O) (.cons O O O Zt (.cons O O O Zt .nil)) (ck_2 ⟨hp,by simpa using hc25⟩ hc30 (by simpa using hc41)) (show [(4,true),(5,true)].Nodup by decide)
       · refine W.skip ?_
         refine W.l0 4 [.y 42 _,.y 43 _,.y 44 _,.y 4 _] [] [] [(3,_),(4,_),(6,_),(27,_),(28,_),(29,_)] [(16,mpK placeK D.u64 _),(3,.var _)] 63 ⟨mU 4 O O,mU 10 O O,aU fun _ _ H K=>R.bin (eU K 42 O) (eU K 43 O) O Zt H,aU fun _ _ H K=>R.asg (eU K 44 O) O H,Zt⟩ O O O O (tU O ?_)
         refine W.l0 2 [.y 45 _,.y 29 _] [] [] [(3,_),(4,_),(6,_),(27,_),(28,_),(29,_)] [(16,mpK placeK D.u64 _),(3,.var _)] 63 ⟨aU fun _ _ H K=>R.addN (i) (1) (eU K 29 O) (kI 1 O) bU H,mU 45 O O,Zt⟩ O O O O (tU O ?_)
         exact ⟨⟨(i + 1),⟨(by show i + 1 <= t.ins.length; omega),ext_i hok (show kHas _ _ = true by simpa using hc41)⟩⟩,rfl,(by simp only []; omega)⟩
     · obtain rfl : i = t.ins.length:=by omega
       refine W.exit (W.seq (W.seq ?_))
       refine W.l0 4 [.y 46 _,.y 47 _,.y 48 _,.y 49 _] [] [] [(4,_),(47,_),(48,_),(49,_)] [(16,mpK placeK D.u64 _),(3,.var _)] 63 ⟨aU (fU 3 O O),aU (lU 46 O O O O O O O),aU fun _ _ H K=>R.lenE (SC.sl (K 47 _ O)) (lN _) H,aU fun _ _ H _=>R.mov (kI 0 O) O H,Zt⟩ O O O O (tU O ?_)
       refine W.block ?_
       refine W.loop (α:={q__ : Nat // q__ <= t.outs.length /\ ∀ k < q__,¬ lftO l t k < t.outs[k]!.value}) (fun q__=>⟨63,[(4,.u64 (lftO l t q__.1)),(47,.sl none 2 (t.outs.map outD)),(48,.int ((t.outs.length : Nat) : Int)),(49,.int ((q__.1 : Nat) : Int))],[(16,mpK placeK D.u64 (purI l l.length)),(3,.var (.agg [.u32 t.ver,.sl none 36 (t.ins.map inD),.sl none 2 (t.outs.map outD),.u32 t.lock]))]⟩) (fun q__=>t.outs.length - q__.1) ⟨(0),⟨Nat.zero_le _,fun j h=>absurd h (Nat.not_lt_zero _)⟩⟩ O ?_
       rintro ⟨j,⟨hj,hoo⟩⟩
       show W _ _ _ _ ⟨63,[(4,.u64 (lftO l t j)),(47,.sl none 2 (t.outs.map outD)),(48,.int ((t.outs.length : Nat) : Int)),(49,.int ((j : Nat) : Int))],[(16,mpK placeK D.u64 (purI l l.length)),(3,.var (.agg [.u32 t.ver,.sl none 36 (t.ins.map inD),.sl none 2 (t.outs.map outD),.u32 t.lock]))]⟩
       have hj : j <= t.outs.length:=hj
       have hoo : ∀ k < j,¬ lftO l t k < t.outs[k]!.value:=hoo
       refine W.seq ?_
       refine W.l0 1 [.y 50 _] [] [] [(4,_),(47,_),(48,_),(49,_),(50,_)] [(16,mpK placeK D.u64 _),(3,.var _)] 63 ⟨aU fun _ _ H K=>R.lssN (j) (t.outs.length) (eU K 49 O) (eU K 48 O) H,Zt⟩ O O O O (tU O ?_)
       refine W.seq ?_
       refine W.condD O (fun hc50=>?_) (fun hc50=>?_)
       · refine W.skip (W.seq (W.block (W.seq ?_)))
         refine W.l0 4 [.y 51 _,.y 52 _] [] [] [(4,_),(47,_),(48,_),(49,_),(52,_)] [(16,mpK placeK D.u64 _),(3,.var _)] 63 ⟨aU fun _ _ H K=>R.idxN (j) (SC.sl (K 47 _ O)) (evoI (eU K 49 O)) O bU H dU,aU fun _ _ H K=>R.ldE (K 51 _ O) (SC.sl (K 47 _ O)) (map_get! (l:=t.outs) bU) O O O O H,Zt⟩ O O O O (⟨O,_,R.alloc O (nU O),⟨O,_,R.stZ (gU 13 O) (xU 13 O) O (gV 52 O) (by rfl) (by rfl) (by rfl) (by rfl) O,tV [(4,_),(13,_),(47,_),(48,_),(49,_)] [(13,.var _),(16,mpK placeK D.u64 _),(3,.var _)] 63 O O O ?_⟩⟩)
         refine W.seq (W.seq ?_)
         refine W.l0 4 [.y 53 _,.y 54 _,.y 55 _,.y 56 _] [] [] [(4,_),(13,_),(47,_),(48,_),(49,_),(56,_)] [(13,.var _),(16,mpK placeK D.u64 _),(3,.var _)] 63 ⟨aU (fU 13 O O),aU (lU 53 O O O O O O O),mU 4 O O,aU fun _ _ H K=>R.bin (eU K 54 O) (eU K 55 O) O Zt H,Zt⟩ O O O O (tU O ?_)
         refine W.cond O (fun hc56=>?_) (fun hc56=>?_)
         · refine W.seq ?_
           refine W.dropS (live:=[]) (env':=[]) (bx':=[(13,.var _),(16,mpK placeK D.u64 _),(3,.var _)]) (n':=63) O O O ?_
           refine W.dropBP [3,16] (bx':=[(16,mpK placeK D.u64 _),(3,.var _)]) O O ⟨okMpK (fun _=>rfl) (fun _=>rfl),⟨O,Zt⟩⟩ (pin_sub hD O) ?_
           refine W.l0 2 [.y 4 _,.y 5 _] [] [] [(4,_),(5,_)] [(16,mpK placeK D.u64 _),(3,.var _)] 63 ⟨aU fun _ _ H _=>R.asg (show ev _ _ (.const (.int .u64 0)) = some (.u64 0) from O) O H,aU fun _ _ H _=>R.asg (kI 14 O) O H,Zt⟩ O O O O (tU O ?_)
           refine W.ret ?_
           exact Ends.many (.inr O) (.cons O O O Zt (.cons O O O Zt .nil)) (ck_3 ⟨hp,by simpa using hc25⟩ hc50 (of_decide_eq_true hc56)) (show [(4,true),(5,true)].Nodup by decide)
         · refine W.skip ?_
           refine W.l0 5 [.y 57 _,.y 58 _,.y 59 _,.y 60 _,.y 4 _] [] [] [(4,_),(47,_),(48,_),(49,_)] [(13,.var _),(16,mpK placeK D.u64 _),(3,.var _)] 63 ⟨mU 4 O O,aU (fU 13 O O),aU (lU 58 O O O O O O O),aU fun _ _ H K=>R.bin (eU K 57 O) (eU K 59 O) O Zt H,aU fun _ _ H K=>R.asg (eU K 60 O) O H,Zt⟩ O O O O (tU O ?_)
           refine W.dropBP [3,16] (bx':=[(16,mpK placeK D.u64 _),(3,.var _)]) O O ⟨okMpK (fun _=>rfl) (fun _=>rfl),⟨O,Zt⟩⟩ (pin_sub hD O) ?_
           refine W.l0 2 [.y 61 _,.y 49 _] [] [] [(4,_),(47,_),(48,_),(49,_)] [(16,mpK placeK D.u64 _),(3,.var _)] 63 ⟨aU fun _ _ H K=>R.addN (j) (1) (eU K 49 O) (kI 1 O) bU H,mU 61 O O,Zt⟩ O O O O (tU O ?_)
           exact ⟨⟨(j + 1),⟨(by show j + 1 <= t.outs.length; omega),ext_i hoo (of_decide_eq_false hc56)⟩⟩,rfl,(by simp only []; omega)⟩
       · obtain rfl : j = t.outs.length:=by omega
         refine W.exit (W.seq ?_)
         refine W.l0 3 [.y 62 _,.y 4 _,.y 5 _] [] [] [(4,_),(5,_)] [(16,mpK placeK D.u64 _),(3,.var _)] 63 ⟨mU 4 O O,aU fun _ _ H K=>R.asg (eU K 62 O) O H,aU fun _ _ H _=>R.asg (kI 0 O) O H,Zt⟩ O O O O (tU O ?_)
         refine W.ret ?_
         exact Ends.many (.inr O) (.cons O O O Zt (.cons O O O Zt .nil)) (ck_4 ⟨hp,by simpa using hc25⟩ hok hoo) (show [(4,true),(5,true)].Nodup by decide)
 · refine W.l0 7 [.y 15 _] [] [] [(3,_),(4,_),(15,_)] [(3,.var _)] 63 ⟨mU 0 O O,Zt⟩ O O O O (⟨O,_,R.callB [] hC (purse_f l hl hp) (EvB.cons (gV 15 O) O O O EvB.nil) O Zt Zt O O O O O O (nU O),⟨O,_,R.movT (gU 16 O) O (nU O),⟨O,_,R.ext (gU 14 O) O O (nU O),⟨O,_,R.ext (gU 14 O) O O (nU O),⟨O,_,R.asg (gV 17 O) O (nU O),⟨O,_,R.asg (gV 18 O) O (nU O),tV [(3,_),(4,_),(6,_),(7,_)] [(3,.var _)] 63 O O O ?_⟩⟩⟩⟩⟩⟩)
   refine W.seq (W.seq ?_)
   refine W.l0 7 [.y 19 _,.y 20 _,.y 21 _,.x 22,.x 23,.x 24,.y 25 _] [] [] [(3,_),(4,_),(6,_),(25,_)] [(3,.var _)] 63 ⟨mU 7 O O,aU fun _ _ H K=>R.un (eU K 19 O) O H,mU 20 O O,aF O O (gT (O) O),aF O O (gT (O) O),aF O O (gT (O) O),aU fun _ _ H K=>R.pickT (eU K 21 O) (O) (kB true O) O H,Zt⟩ O O O O (tU O ?_)
   refine W.condT O (O) ?_
   refine W.seq ?_
   refine W.l0 2 [.y 4 _,.y 5 _] [] [] [(4,_),(5,_)] [(3,.var _)] 63 ⟨aU fun _ _ H _=>R.asg (show ev _ _ (.const (.int .u64 0)) = some (.u64 0) from O) O H,aU fun _ _ H _=>R.asg (kI 1 O) O H,Zt⟩ O O O O (tU O ?_)
   refine W.ret ?_
   exact Ends.many (.inr O) (.cons O O O Zt (.cons O O O Zt .nil)) (ck_1 (fun h=>hp h.1)) (show [(4,true),(5,true)].Nodup by decide)
end Go.Sx

namespace Go.Sx
open Go.Proofs
theorem rcheck_ok (l : List Un) (t : TxS) (hl : l.length <= 4096) (hx : hs32 l) (hwf : t.wf) : Fn Try.prog gl 19 [.sl none 35 (l.map coD),txD t] (.tup [.u64 (ckV l t),.int (ckE l t)]):=by
 refine Fn.of (n:=77) Try.func19 rfl rfl rfl (nU rfl) fun C hC hD=>?_
 have h1:=hwf.ins
 have h2:=hwf.outs
 refine W.seq ?_
 refine W.l0 3 [] [] [] [(0,_),(1,_)] [] 77 Zt O O O O (⟨O,_,R.box (gV 1 O) O O (nU O),⟨O,_,R.asg (show ev _ _ (.const (.int .u64 0)) = some (.u64 0) from O) O (nU O),⟨O,_,R.asg (kI 0 O) O (nU O),tV [(0,_),(3,_)] [(3,.var _)] 77 O O O ?_⟩⟩⟩)
 refine W.seq (W.seq ?_)
 by_cases hp : purP l
 · refine W.l0 8 [.y 11 _,.y 12 _,.y 13 _,.y 14 _,.y 15 _,.y 16 _,.y 17 _,.y 18 _] [] [] [(0,_),(3,_),(18,_)] [(3,.var _)] 77 ⟨mU 0 O O,aU fun _ _ H K=>R.callG hC (coins_ok l hl) (Bc (Bp (eU K 11 O) O O) Bn) (FrsR.one (.bool _)) H,aU fun _ _ H K=>R.un (eU K 12 O) O H,mU 13 O O,aW O O (gF (by rw [dT hp]; rfl) O) (lU 3 O O O O O O O),aW O O (gF (by rw [dT hp]; rfl) O) fun _ _ H K=>R.callG hC (rmay_ok t hwf) (Bc (Bp (eU K 15 O) O O) Bn) (FrsR.one (.bool _)) H,aW O O (gF (by rw [dT hp]; rfl) O) fun _ _ H K=>R.un (eU K 16 O) O H,aU fun _ _ H K=>R.pickF (eU K 14 O) (by rw [dT hp]; rfl) (eU K 17 O) O H,Zt⟩ O O O O (tU O ?_)
   refine W.cond O (fun hc18=>?_) (fun hc18=>?_)
   · refine W.seq ?_
     refine W.l0 2 [.y 4 _,.y 5 _] [] [] [(4,_),(5,_)] [(3,.var _)] 77 ⟨aU fun _ _ H _=>R.asg (show ev _ _ (.const (.int .u64 0)) = some (.u64 0) from O) O H,aU fun _ _ H _=>R.asg (kI 1 O) O H,Zt⟩ O O O O (tU O ?_)
     refine W.ret ?_
     exact Ends.many (.inr O) (.cons O O O Zt (.cons O O O Zt .nil)) (ck_1 (fun h=>by rw [h.2] at hc18; cases hc18)) (show [(4,true),(5,true)].Nodup by decide)
   · refine W.skip (W.seq ?_)
     refine W.l0 1 [.y 6 _] [] [] [(0,_),(3,_),(6,_)] [(3,.var _)] 77 ⟨aU fun _ _ H _=>R.asg (show ev _ _ (.const (.int .u64 0)) = some (.u64 0) from O) O H,Zt⟩ O O O O (tU O ?_)
     refine W.seq (W.seq ?_)
     refine W.l0 1 [.y 7 _] [] [] [(0,_),(3,_),(6,_),(7,_)] [(3,.var _)] 77 ⟨aU fun _ _ H _=>R.asg (kI 0 O) O H,Zt⟩ O O O O (tU O ?_)
     refine W.block ?_
     refine W.loop (α:={q__ : Nat // q__ <= t.ins.length /\ ∀ j < q__,ckI l t j}) (fun q__=>⟨77,[(0,.sl none 35 (l.map coD)),(3,.ptr 3 0 []),(6,.u64 (inI l t q__.1)),(7,.int ((q__.1 : Nat) : Int))],[(3,.var (.agg [.u32 t.ver,.sl none 36 (t.ins.map inD),.sl none 2 (t.outs.map outD),.u32 t.lock]))]⟩) (fun q__=>t.ins.length - q__.1) ⟨(0),⟨Nat.zero_le _,fun j h=>absurd h (Nat.not_lt_zero _)⟩⟩ O ?_
     rintro ⟨i,⟨hi,hok⟩⟩
     show W _ _ _ _ ⟨77,[(0,.sl none 35 (l.map coD)),(3,.ptr 3 0 []),(6,.u64 (inI l t i)),(7,.int ((i : Nat) : Int))],[(3,.var (.agg [.u32 t.ver,.sl none 36 (t.ins.map inD),.sl none 2 (t.outs.map outD),.u32 t.lock]))]⟩
     have hi : i <= t.ins.length:=hi
     have hok : ∀ j < i,ckI l t j:=hok
     refine W.seq (W.seq ?_)
     refine W.l0 5 [.y 19 _,.y 20 _,.y 21 _,.y 22 _,.y 23 _] [] [] [(0,_),(3,_),(6,_),(7,_),(23,_)] [(3,.var _)] 77 ⟨mU 7 O O,aU (fU 3 O O),aU (lU 20 O O O O O O O),aU fun _ _ H K=>R.lenE (SC.sl (K 21 _ O)) (lN _) H,aU fun _ _ H K=>R.lssN (i) (t.ins.length) (eU K 19 O) (eU K 22 O) H,Zt⟩ O O O O (tU O ?_)
     refine W.condD O (fun hc23=>?_) (fun hc23=>?_)
     · refine W.skip (W.seq (W.block (W.seq ?_)))
       refine W.l0 1 [.y 8 _] [] [] [(0,_),(3,_),(6,_),(7,_),(8,_)] [(3,.var _)] 77 ⟨aU fun _ _ H _=>R.asg (kB false O) O H,Zt⟩ O O O O (tU O ?_)
       refine W.seq (W.seq ?_)
       refine W.l0 1 [.y 9 _] [] [] [(0,_),(3,_),(6,_),(7,_),(8,_),(9,_)] [(3,.var _)] 77 ⟨aU fun _ _ H _=>R.asg (kI 0 O) O H,Zt⟩ O O O O (tU O ?_)
       refine W.block ?_
       refine W.loop (α:={q__ : Nat // q__ <= l.length}) (fun q__=>⟨77,[(0,.sl none 35 (l.map coD)),(3,.ptr 3 0 []),(6,.u64 (inI l t i + addK l (plc t.ins[i]!) q__.1)),(7,.int ((i : Nat) : Int)),(8,.bool (kHas (purI l q__.1) (plc t.ins[i]!))),(9,.int ((q__.1 : Nat) : Int))],[(3,.var (.agg [.u32 t.ver,.sl none 36 (t.ins.map inD),.sl none 2 (t.outs.map outD),.u32 t.lock]))]⟩) (fun q__=>l.length - q__.1) ⟨(0),bU⟩ (by rw [addK_0] <;> rfl) ?_
       rintro ⟨k,hk⟩
       show W _ _ _ _ ⟨77,[(0,.sl none 35 (l.map coD)),(3,.ptr 3 0 []),(6,.u64 (inI l t i + addK l (plc t.ins[i]!) k)),(7,.int ((i : Nat) : Int)),(8,.bool (kHas (purI l k) (plc t.ins[i]!))),(9,.int ((k : Nat) : Int))],[(3,.var (.agg [.u32 t.ver,.sl none 36 (t.ins.map inD),.sl none 2 (t.outs.map outD),.u32 t.lock]))]⟩
       have hk : k <= l.length:=hk
       refine W.seq (W.seq ?_)
       refine W.l0 4 [.y 26 _,.y 27 _,.y 28 _,.y 29 _] [] [] [(0,_),(3,_),(6,_),(7,_),(8,_),(9,_),(29,_)] [(3,.var _)] 77 ⟨mU 9 O O,mU 0 O O,aU fun _ _ H K=>R.lenE (SC.sl (K 27 _ O)) (lN _) H,aU fun _ _ H K=>R.lssN (k) (l.length) (eU K 26 O) (eU K 28 O) H,Zt⟩ O O O O (tU O ?_)
       refine W.condD O (fun hc29=>?_) (fun hc29=>?_)
       · refine W.skip (W.seq (W.block (W.seq ?_)))
         refine W.draw (m:=12) (an:=[0,0,3,7,15,0,32,0,224,480,992,2047]) hP dU O (its:=[.y 32 _,.y 33 _,.y 34 _,.y 35 _,.y 36 _,.y 37 _,.y 38 _,.y 39 _,.y 40 _,.y 41 _,.y 42 _,.y 43 _]) (ks:=[]) (kk:=[]) (live:=[0,3,6,7,8,9,43]) (env':=[(0,_),(3,_),(6,_),(7,_),(8,_),(9,_),(43,_)]) (⟨nU O,O,⟨mU 0 O O,mU 9 O O,aU fun _ _ H K=>R.idxN (k) (SC.sl (K 32 _ O)) (evoI (eU K 33 O)) O bU H dU,aU fun _ _ H K=>R.fdE (K 34 _ O) H dU,aU fun _ _ H K=>R.ldE (K 35 _ O) (SC.sl (K 32 _ O)) (map_get! (l:=l) bU) O O O O H,aU (fU 3 O O),aU (lU 37 O O O O O O O),mU 7 O O,aU fun _ _ H K=>R.idxN (i) (SC.sl (K 38 _ O)) (evoI (eU K 39 O)) O bU H dU,aU fun _ _ H K=>R.fdE (K 40 _ O) H dU,aU fun _ _ H K=>R.ldE (K 41 _ O) (SC.sl (K 38 _ O)) (map_get! (l:=t.ins) bU) O O O O H,aU fun _ _ H K=>R.eqD (neg:=false) (b':=(upl l[k]! == plc t.ins[i]!)) (eqv_place (upl l[k]!) (plc t.ins[i]!)) O (eU K 36 O) (eU K 42 O) O O O O (O) H,Zt⟩,O,O,O⟩) O (bx':=[(3,.var _)]) O (n':=77) O (tV [(0,_),(3,_),(6,_),(7,_),(8,_),(9,_),(43,_)] [(3,.var _)] 77 O O O ?_)
         refine W.cond O (fun hc43=>?_) (fun hc43=>?_)
         · refine W.seq ?_
           refine W.l0 1 [.y 8 _] [] [] [(0,_),(3,_),(6,_),(7,_),(8,_),(9,_)] [(3,.var _)] 77 ⟨aU fun _ _ H _=>R.asg (kB true O) O H,Zt⟩ O O O O (tU O ?_)
           refine W.l0 8 [.y 44 _,.y 45 _,.y 46 _,.y 47 _,.y 48 _,.y 49 _,.y 50 _,.y 6 _] [] [] [(0,_),(3,_),(6,_),(7,_),(8,_),(9,_)] [(3,.var _)] 77 ⟨mU 6 O O,mU 0 O O,mU 9 O O,aU fun _ _ H K=>R.idxN (k) (SC.sl (K 45 _ O)) (evoI (eU K 46 O)) O bU H dU,aU fun _ _ H K=>R.fdE (K 47 _ O) H dU,aU fun _ _ H K=>R.ldE (K 48 _ O) (SC.sl (K 45 _ O)) (map_get! (l:=l) bU) O O O O H,aU fun _ _ H K=>R.bin (eU K 44 O) (eU K 49 O) O Zt H,aU fun _ _ H K=>R.asg (eU K 50 O) O H,Zt⟩ O O O O (tU O ?_)
           refine W.l0 3 [.y 30 _,.y 31 _,.y 9 _] [] [] [(0,_),(3,_),(6,_),(7,_),(8,_),(9,_)] [(3,.var _)] 77 ⟨mU 9 O O,aU fun _ _ H K=>R.addN (k) (1) (eU K 30 O) (kI 1 O) bU H,aU fun _ _ H K=>R.asg (eU K 31 O) O H,Zt⟩ O O O O (tU O ?_)
           exact ⟨⟨(k + 1),bU⟩,(by first | (dsimp only; rw [thr_y (beq_iff_eq.1 hc43),add_y (beq_iff_eq.1 hc43)]) | (dsimp only; rw [thr_n (ne_of_beqf hc43),add_n (ne_of_beqf hc43)])),(by simp only []; omega)⟩
         · refine W.skip ?_
           refine W.l0 3 [.y 30 _,.y 31 _,.y 9 _] [] [] [(0,_),(3,_),(6,_),(7,_),(8,_),(9,_)] [(3,.var _)] 77 ⟨mU 9 O O,aU fun _ _ H K=>R.addN (k) (1) (eU K 30 O) (kI 1 O) bU H,aU fun _ _ H K=>R.asg (eU K 31 O) O H,Zt⟩ O O O O (tU O ?_)
           exact ⟨⟨(k + 1),bU⟩,(by first | (dsimp only; rw [thr_y (beq_iff_eq.1 hc43),add_y (beq_iff_eq.1 hc43)]) | (dsimp only; rw [thr_n (ne_of_beqf hc43),add_n (ne_of_beqf hc43)])),(by simp only []; omega)⟩
       · obtain rfl : k = l.length:=by omega
         refine W.exit (W.seq ?_)
         refine W.l0 2 [.y 51 _,.y 52 _] [] [] [(0,_),(3,_),(6,_),(7,_),(52,_)] [(3,.var _)] 77 ⟨mU 8 O O,aU fun _ _ H K=>R.un (eU K 51 O) O H,Zt⟩ O O O O (tU O ?_)
         refine W.cond O (fun hc52=>?_) (fun hc52=>?_)
         · refine W.seq ?_
           refine W.l0 2 [.y 4 _,.y 5 _] [] [] [(4,_),(5,_)] [(3,.var _)] 77 ⟨aU fun _ _ H _=>R.asg (show ev _ _ (.const (.int .u64 0)) = some (.u64 0) from O) O H,aU fun _ _ H _=>R.asg (kI 14 O) O H,Zt⟩ O O O O (tU O ?_)
           refine W.ret ?_
           exact Ends.many (.inr O) (.cons O O O Zt (.cons O O O Zt .nil)) (ck_2 ⟨hp,by simpa using hc18⟩ hc23 (by simpa using hc52)) (show [(4,true),(5,true)].Nodup by decide)
         · refine W.skip ?_
           refine W.l0 3 [.y 24 _,.y 25 _,.y 7 _] [] [] [(0,_),(3,_),(6,_),(7,_)] [(3,.var _)] 77 ⟨mU 7 O O,aU fun _ _ H K=>R.addN (i) (1) (eU K 24 O) (kI 1 O) bU H,aU fun _ _ H K=>R.asg (eU K 25 O) O H,Zt⟩ O O O O (tU O ?_)
           exact ⟨⟨(i + 1),⟨(by show i + 1 <= t.ins.length; omega),ext_i hok (show kHas _ _ = true by simpa using hc52)⟩⟩,(by dsimp only; rw [inI_s hp]),(by simp only []; omega)⟩
     · obtain rfl : i = t.ins.length:=by omega
       refine W.exit (W.seq (W.seq ?_))
       refine W.l0 1 [.y 10 _] [] [] [(3,_),(6,_),(10,_)] [(3,.var _)] 77 ⟨aU fun _ _ H _=>R.asg (kI 0 O) O H,Zt⟩ O O O O (tU O ?_)
       refine W.block ?_
       refine W.loop (α:={q__ : Nat // q__ <= t.outs.length /\ ∀ k < q__,¬ lftO l t k < t.outs[k]!.value}) (fun q__=>⟨77,[(3,.ptr 3 0 []),(6,.u64 (lftO l t q__.1)),(10,.int ((q__.1 : Nat) : Int))],[(3,.var (.agg [.u32 t.ver,.sl none 36 (t.ins.map inD),.sl none 2 (t.outs.map outD),.u32 t.lock]))]⟩) (fun q__=>t.outs.length - q__.1) ⟨(0),⟨Nat.zero_le _,fun j h=>absurd h (Nat.not_lt_zero _)⟩⟩ O ?_
       rintro ⟨j,⟨hj,hoo⟩⟩
       show W _ _ _ _ ⟨77,[(3,.ptr 3 0 []),(6,.u64 (lftO l t j)),(10,.int ((j : Nat) : Int))],[(3,.var (.agg [.u32 t.ver,.sl none 36 (t.ins.map inD),.sl none 2 (t.outs.map outD),.u32 t.lock]))]⟩
       have hj : j <= t.outs.length:=hj
       have hoo : ∀ k < j,¬ lftO l t k < t.outs[k]!.value:=hoo
       refine W.seq (W.seq ?_)
       refine W.l0 5 [.y 53 _,.y 54 _,.y 55 _,.y 56 _,.y 57 _] [] [] [(3,_),(6,_),(10,_),(57,_)] [(3,.var _)] 77 ⟨mU 10 O O,aU (fU 3 O O),aU (lU 54 O O O O O O O),aU fun _ _ H K=>R.lenE (SC.sl (K 55 _ O)) (lN _) H,aU fun _ _ H K=>R.lssN (j) (t.outs.length) (eU K 53 O) (eU K 56 O) H,Zt⟩ O O O O (tU O ?_)
       refine W.condD O (fun hc57=>?_) (fun hc57=>?_)
       · refine W.skip (W.seq (W.block (W.seq (W.seq ?_))))
         refine W.l0 8 [.y 60 _,.y 61 _,.y 62 _,.y 63 _,.y 64 _,.y 65 _,.y 66 _,.y 67 _] [] [] [(3,_),(6,_),(10,_),(67,_)] [(3,.var _)] 77 ⟨aU (fU 3 O O),aU (lU 60 O O O O O O O),mU 10 O O,aU fun _ _ H K=>R.idxN (j) (SC.sl (K 61 _ O)) (evoI (eU K 62 O)) O bU H dU,aU fun _ _ H K=>R.fdE (K 63 _ O) H dU,aU fun _ _ H K=>R.ldE (K 64 _ O) (SC.sl (K 61 _ O)) (map_get! (l:=t.outs) bU) O O O O H,mU 6 O O,aU fun _ _ H K=>R.bin (eU K 65 O) (eU K 66 O) O Zt H,Zt⟩ O O O O (tU O ?_)
         refine W.cond O (fun hc67=>?_) (fun hc67=>?_)
         · refine W.seq ?_
           refine W.l0 2 [.y 4 _,.y 5 _] [] [] [(4,_),(5,_)] [(3,.var _)] 77 ⟨aU fun _ _ H _=>R.asg (show ev _ _ (.const (.int .u64 0)) = some (.u64 0) from O) O H,aU fun _ _ H _=>R.asg (kI 14 O) O H,Zt⟩ O O O O (tU O ?_)
           refine W.ret ?_
           exact Ends.many (.inr O) (.cons O O O Zt (.cons O O O Zt .nil)) (ck_3 ⟨hp,by simpa using hc18⟩ hc57 (of_decide_eq_true hc67)) (show [(4,true),(5,true)].Nodup by decide)
         · refine W.skip ?_
           refine W.l0 9 [.y 68 _,.y 69 _,.y 70 _,.y 71 _,.y 72 _,.y 73 _,.y 74 _,.y 75 _,.y 6 _] [] [] [(3,_),(6,_),(10,_)] [(3,.var _)] 77 ⟨mU 6 O O,aU (fU 3 O O),aU (lU 69 O O O O O O O),mU 10 O O,aU fun _ _ H K=>R.idxN (j) (SC.sl (K 70 _ O)) (evoI (eU K 71 O)) O bU H dU,aU fun _ _ H K=>R.fdE (K 72 _ O) H dU,aU fun _ _ H K=>R.ldE (K 73 _ O) (SC.sl (K 70 _ O)) (map_get! (l:=t.outs) bU) O O O O H,aU fun _ _ H K=>R.bin (eU K 68 O) (eU K 74 O) O Zt H,aU fun _ _ H K=>R.asg (eU K 75 O) O H,Zt⟩ O O O O (tU O ?_)
           refine W.l0 3 [.y 58 _,.y 59 _,.y 10 _] [] [] [(3,_),(6,_),(10,_)] [(3,.var _)] 77 ⟨mU 10 O O,aU fun _ _ H K=>R.addN (j) (1) (eU K 58 O) (kI 1 O) bU H,aU fun _ _ H K=>R.asg (eU K 59 O) O H,Zt⟩ O O O O (tU O ?_)
           exact ⟨⟨(j + 1),⟨(by show j + 1 <= t.outs.length; omega),ext_i hoo (of_decide_eq_false hc67)⟩⟩,rfl,(by simp only []; omega)⟩
       · obtain rfl : j = t.outs.length:=by omega
         refine W.exit (W.seq ?_)
         refine W.l0 3 [.y 76 _,.y 4 _,.y 5 _] [] [] [(4,_),(5,_)] [(3,.var _)] 77 ⟨mU 6 O O,aU fun _ _ H K=>R.asg (eU K 76 O) O H,aU fun _ _ H _=>R.asg (kI 0 O) O H,Zt⟩ O O O O (tU O ?_)
         refine W.ret ?_
         exact Ends.many (.inr O) (.cons O O O Zt (.cons O O O Zt .nil)) (ck_4 ⟨hp,by simpa using hc18⟩ hok hoo) (show [(4,true),(5,true)].Nodup by decide)
 · refine W.l0 8 [.y 11 _,.y 12 _,.y 13 _,.y 14 _,.x 15,.x 16,.x 17,.y 18 _] [] [] [(0,_),(3,_),(18,_)] [(3,.var _)] 77 ⟨mU 0 O O,aU fun _ _ H K=>R.callG hC (coins_ok l hl) (Bc (Bp (eU K 11 O) O O) Bn) (FrsR.one (.bool _)) H,aU fun _ _ H K=>R.un (eU K 12 O) O H,mU 13 O O,aF O O (gT (by rw [dF hp]; rfl) O),aF O O (gT (by rw [dF hp]; rfl) O),aF O O (gT (by rw [dF hp]; rfl) O),aU fun _ _ H K=>R.pickT (eU K 14 O) (by rw [dF hp]; rfl) (kB true O) O H,Zt⟩ O O O O (tU O ?_)
   refine W.condT O (O) ?_
   refine W.seq ?_
   refine W.l0 2 [.y 4 _,.y 5 _] [] [] [(4,_),(5,_)] [(3,.var _)] 77 ⟨aU fun _ _ H _=>R.asg (show ev _ _ (.const (.int .u64 0)) = some (.u64 0) from O) O H,aU fun _ _ H _=>R.asg (kI 1 O) O H,Zt⟩ O O O O (tU O ?_)
   refine W.ret ?_
   exact Ends.many (.inr O) (.cons O O O Zt (.cons O O O Zt .nil)) (ck_1 (fun h=>hp h.1)) (show [(4,true),(5,true)].Nodup by decide)
end Go.Sx

namespace Go.Sx
open Go.Proofs
theorem perm_uniq : ∀ (s t : List Un),s.Perm t -> s.Pairwise (fun a b=>ordS a b < 0) -> t.Pairwise (fun a b=>ordS a b < 0) -> s = t
 | [],t,hp,_,_=>by rw [hp.nil_eq]
 | a :: s,[],hp,_,_=>by have:=hp.length_eq; simp at this
 | a :: s,b :: t,hp,hs,ht=>by
  rw [List.pairwise_cons] at hs ht
  have e : a = b:=by
   have h1 : a ∈ b :: t:=hp.mem_iff.1 (by simp)
   have h2 : b ∈ a :: s:=hp.mem_iff.2 (by simp)
   rcases List.mem_cons.1 h1 with h | h
   · exact h
   · rcases List.mem_cons.1 h2 with h' | h'
     · exact h'.symm
     · have k1:=ht.1 a h
       have k2:=hs.1 b h'
       have:=ord_sym a b
       omega
  subst e
  rw [perm_uniq s t ((List.perm_cons a).1 hp) hs.2 ht.2]
theorem sortU_pair {l : List Un} (hx : hs32 l) (hp : purP l) : (sortU l).Pairwise (fun a b=>ordS a b < 0):=by
 rw [List.pairwise_iff_getElem]
 intro i j hi hj hij
 have:=sorted_lt hx hp hij (by rw [<- sortU_len l]; exact hj)
 rwa [getE hi,getE hj] at this
theorem sortU_uniq {l s : List Un} (hx : hs32 l) (hp : purP l) (h : s.Perm l) (hs : s.Pairwise (fun a b=>ordS a b < 0)) : sortU l = s:=
 perm_uniq _ _ ((sortU_perm hx).trans h.symm) (sortU_pair hx hp) hs
def W1 : List Un:=[coinS 1 5000,coinS 2 9000]
def W2 : List Wnt:=[⟨[],8000⟩]
def W3 : List Wnt:=[⟨[],14000⟩]
theorem w1_hs : hs32 W1:=by
 intro c hc
 simp only [W1,List.mem_cons,List.not_mem_nil,or_false] at hc
 rcases hc with rfl | rfl <;> rfl
theorem w1_pur : purP W1:=by decide +kernel
theorem w1_sort : sortU W1 = [coinS 2 9000,coinS 1 5000]:=
 sortU_uniq w1_hs w1_pur (List.Perm.swap _ _ _) (by decide +kernel)
theorem w1_chP2 : chP W1 W2 1:=by decide +kernel
theorem w1_chP3 : chP W1 W3 1:=by decide +kernel
theorem w1_L2 : ¬ chL W1 W2 1 0:=by unfold chL; rw [w1_sort]; decide +kernel
theorem w1_L3 : ∀ j < W1.length,chL W1 W3 1 j:=by
 intro j hj
 unfold chL
 rw [w1_sort]
 have h2 : W1.length = 2:=rfl
 have : j = 0 ∨ j = 1:=by omega
 rcases this with rfl | rfl <;> decide +kernel
theorem w1_F2 : chF W1 W2 1 = some 0:=chF_some (by decide) (fun j hj=>absurd hj (Nat.not_lt_zero _)) w1_L2
theorem w1_C2 : chC W1 W2 1 = [coinS 2 9000]:=by rw [chC,if_pos w1_chP2,w1_F2,w1_sort]; rfl
theorem w1_V2 : chV W1 W2 1 = 774:=by rw [chV,if_pos w1_chP2,w1_F2,w1_sort]; decide +kernel
theorem w1_E2 : chE W1 W2 1 = 0:=by rw [chE,if_pos w1_chP2,w1_F2]
theorem w1_E3 : chE W1 W3 1 = 14:=by rw [chE,if_pos w1_chP3,chF_none w1_L3]
theorem w1_C3 : chC W1 W3 1 = []:=by rw [chC,if_pos w1_chP3,chF_none w1_L3]
theorem w1_V3 : chV W1 W3 1 = 0:=by rw [chV,if_pos w1_chP3,chF_none w1_L3]
theorem w1_n4 : ¬ chP W1 [] 1:=by decide +kernel
theorem w1_E4 : chE W1 [] 1 = 1:=by rw [chE,if_neg w1_n4]
theorem w1_C4 : chC W1 [] 1 = []:=by rw [chC,if_neg w1_n4]
theorem w1_V4 : chV W1 [] 1 = 0:=by rw [chV,if_neg w1_n4]
def W5 : TxS:=⟨2,[⟨2 :: List.replicate 31 0,0,[],4294967295,[]⟩],[⟨8000,[]⟩,⟨774,[7]⟩],0⟩
theorem w1_X : mkX W1 W2 [7] 1 = W5:=by rw [mkX,w1_C2,w1_V2]; rfl
theorem w5_may : mayS W5 = true:=by decide +kernel
theorem w1_mE : mkE W1 W2 [7] 1 = 0:=by rw [mkE,w1_E2,if_pos rfl,if_neg (by decide),w1_X,if_pos w5_may]
theorem w1_mT : mkT W1 W2 [7] 1 = W5:=by rw [mkT,if_pos w1_mE,w1_X]
theorem w5_wf : W5.wf:=small_wf (by decide) (by decide) (fun x hx=>by
 simp only [W5,List.mem_cons,List.not_mem_nil,or_false] at hx
 subst hx; exact ⟨rfl,rfl,rfl⟩) (fun x hx=>by
 simp only [W5,List.mem_cons,List.not_mem_nil,or_false] at hx
 rcases hx with rfl | rfl <;> decide)
theorem w5_ckV : ckV W1 W5 = 226:=by decide +kernel
theorem w5_ckE : ckE W1 W5 = 0:=by decide +kernel
abbrev UnL (l : List Un) : D:=.sl none 35 (l.map coD)
abbrev WnL (l : List Wnt) : D:=.sl none 2 (l.map wntD)
theorem wk_ch2 : Fn Try.prog gl 11 [UnL W1,WnL W2,.u64 1] (.tup [UnL [coinS 2 9000],.u64 774,.int 0]):=by
 have:=choose_ok W1 W2 1 (by decide) w1_hs (by decide)
 rwa [w1_C2,w1_V2,w1_E2] at this
theorem wk_ch3 : Fn Try.prog gl 11 [UnL W1,WnL W3,.u64 1] (.tup [UnL [],.u64 0,.int 14]):=by
 have:=choose_ok W1 W3 1 (by decide) w1_hs (by decide)
 rwa [w1_C3,w1_V3,w1_E3] at this
theorem wk_ch4 : Fn Try.prog gl 11 [UnL W1,.nils,.u64 1] (.tup [UnL [],.u64 0,.int 1]):=by
 refine Fn.wkA (ds':=[UnL W1,WnL [],.u64 1]) (.cons (.refl _) (.cons (.nils _ _) (.cons (.refl _) .nil))) ?_
 have:=choose_ok W1 [] 1 (by decide) w1_hs (by decide)
 rwa [w1_C4,w1_V4,w1_E4] at this
theorem wk_fee : Fn Try.prog gl 9 [.int 1,.int 1,.u64 1] (.tup [.u64 192,.int 0]):=by
 have:=fee_ok 1 1 1
 rwa [show feeV 1 1 1 = 192 by decide +kernel,show feeE 1 1 1 = 0 by decide +kernel] at this
theorem wk_make : Fn Try.prog gl 15 [UnL W1,WnL W2,.sl none 1 (([7] : List UInt8).map D.u8),.u64 1] (.tup [txD W5,.int 0]):=by
 have:=make_ok W1 W2 1 (by decide) w1_hs (by decide) [7] (by decide)
 rwa [w1_mT,w1_mE] at this
theorem wk_check : Fn Try.prog gl 18 [UnL W1,txD W5] (.tup [.u64 226,.int 0]):=by
 have:=check_ok W1 W5 (by decide) w1_hs w5_wf
 rwa [w5_ckV,w5_ckE] at this
theorem brw_wnt (c : Wnt) : (wntD c).brw = wntD c:=by simp only [wntD,D.brw,brws_eq,List.map_cons,List.map_nil,brw_bytes]
theorem brw_wn (o : Option Nat) (l : List Wnt) : (D.sl o 2 (l.map wntD)).brw = .sl none 2 (l.map wntD):=by
 simp only [D.brw,brws_eq]; rw [brw_map brw_wnt]
theorem wk_wnt (o : Option Nat) (v : UInt64) : Wk (.sl o 2 [.agg [.nils,.u64 v]]) (.sl o 2 ([(⟨[],v⟩ : Wnt)].map wntD)):=.slL (.cons (.aggL (.cons (.nils _ _) (.cons (.refl _) .nil))) .nil)
theorem brw_u8s (o : Option Nat) (l : List UInt8) : (D.sl o 1 (l.map D.u8)).brw = .sl none 1 (l.map D.u8):=by
 simp only [D.brw,brws_eq]; rw [brw_map (fun _=>rfl)]
end Go.Sx

namespace Go.Sx
open Go.Proofs
theorem works_ok : Fn Try.prog gl 8 [] (.bool true):=by
 refine Fn.of (n:=122) Try.func8 rfl rfl rfl (nU rfl) fun C hC hD=>?_
 refine W.seq ?_
 refine W.l0 1 [.y 0 _] [] [] [] [] 122 ⟨aU fun _ _ H _=>R.asg (kB false O) O H,Zt⟩ O O O O (tU O ?_)
 refine W.seq ?_
 refine W.l0 4 [.y 17 _,.y 18 _,.y 19 _,.y 1 _] [] [] [(1,_)] [] 122 ⟨aU fun _ _ H _=>R.callG hC (coin_ok 1 5000) (Bc (Bp (show ev _ _ (.const (.int .u8 1)) = some (.u8 1) from O) O O) (Bc (Bp (show ev _ _ (.const (.int .u64 5000)) = some (.u64 5000) from O) O O) Bn)) (FrsR.one (frs_coD _)) H,aU fun _ _ H _=>R.callG hC (coin_ok 2 9000) (Bc (Bp (show ev _ _ (.const (.int .u8 2)) = some (.u8 2) from O) O O) (Bc (Bp (show ev _ _ (.const (.int .u64 9000)) = some (.u64 9000) from O) O O) Bn)) (FrsR.one (frs_coD _)) H,aU fun _ _ H K=>R.frzT (r':=.sl none 35 (W1.map coD)) (R.bslE (z:=35) (.cons (eU K 17 O) (.cons (eU K 18 O) .nil)) ⟨⟨O,O,O⟩,⟨O,O,O⟩,Zt⟩ O H dU) O (brw_co _ W1),aU fun _ _ H K=>R.asg (eU K 19 O) O H,Zt⟩ O O O O (tU O ?_)
 refine W.seq ?_
 refine W.l0 11 [.y 21 _,.y 22 _,.y 23 _,.y 24 _,.y 20 _,.y 25 _,.y 26 _,.y 27 _,.y 2 _,.y 3 _,.y 4 _] [] [] [(1,_),(2,_),(3,_),(4,_)] [] 122 ⟨mU 1 O O,aU fun _ _ H _=>R.bldSE (l:=[.nils,.u64 0]) (l':=[_,_]) (.cons (show ev _ _ (.const (.int .u64 8000)) = some (.u64 8000) from O) (.nil O)) ⟨⟨_,(show ev _ _ (.const (.int .u64 8000)) = some (.u64 8000) from O),O,O,O⟩,Zt⟩ H,aU fun _ _ H K=>R.frzT (r':=.sl none 2 (W2.map wntD)) (R.wkT (r':=.sl (some 70) 2 (W2.map wntD)) (R.bslE (z:=2) (.cons (eU K 22 O) .nil) ⟨⟨O,O,O⟩,Zt⟩ O H dU) O O (wk_wnt _ _)) O (brw_wn _ _),aU fun _ _ H K=>R.callPE hC (wk_ch2) (EvP.cons (eU K 21 O) O O (EvP.cons (eU K 23 O) O O (EvP.cons (show ev _ _ (.const (.int .u64 1)) = some (.u64 1) from O) O O EvP.nil))) H,aU fun _ _ H K=>R.movT (K 24 _ O) O H,aU fun _ _ H K=>R.ext (K 20 _ O) O O H,aU fun _ _ H K=>R.ext (K 20 _ O) O O H,aU fun _ _ H K=>R.ext (K 20 _ O) O O H,aU fun _ _ H K=>R.asg (eU K 25 O) O H,aU fun _ _ H K=>R.asg (eU K 26 O) O H,aU fun _ _ H K=>R.asg (eU K 27 O) O H,Zt⟩ O O O O (tU O ?_)
 refine W.seq ?_
 refine W.l0 6 [.y 29 _,.y 28 _,.y 30 _,.y 31 _,.y 5 _,.y 6 _] [] [] [(1,_),(2,_),(3,_),(4,_),(5,_),(6,_)] [] 122 ⟨aU fun _ _ H _=>R.callG hC (wk_fee) (Bc (Bp (kI 1 O) O O) (Bc (Bp (kI 1 O) O O) (Bc (Bp (show ev _ _ (.const (.int .u64 1)) = some (.u64 1) from O) O O) Bn))) (FrsR.two (.u64 _) (.int _)) H,aU fun _ _ H K=>R.movT (K 29 _ O) O H,aU fun _ _ H K=>R.ext (K 28 _ O) O O H,aU fun _ _ H K=>R.ext (K 28 _ O) O O H,aU fun _ _ H K=>R.asg (eU K 30 O) O H,aU fun _ _ H K=>R.asg (eU K 31 O) O H,Zt⟩ O O O O (tU O ?_)
 refine W.seq ?_
 refine W.l0 11 [.y 33 _,.y 34 _,.y 35 _,.y 36 _,.y 37 _,.y 32 _,.y 38 _,.y 39 _] [] [] [(1,_),(2,_),(3,_),(4,_),(5,_),(6,_),(38,_),(39,_)] [] 122 ⟨mU 1 O O,aU fun _ _ H _=>R.bldSE (l:=[.nils,.u64 0]) (l':=[_,_]) (.cons (show ev _ _ (.const (.int .u64 8000)) = some (.u64 8000) from O) (.nil O)) ⟨⟨_,(show ev _ _ (.const (.int .u64 8000)) = some (.u64 8000) from O),O,O,O⟩,Zt⟩ H,aU fun _ _ H K=>R.frzT (r':=.sl none 2 (W2.map wntD)) (R.wkT (r':=.sl (some 70) 2 (W2.map wntD)) (R.bslE (z:=2) (.cons (eU K 34 O) .nil) ⟨⟨O,O,O⟩,Zt⟩ O H dU) O O (wk_wnt _ _)) O (brw_wn _ _),aU fun _ _ H _=>R.frzT (r':=.sl none 1 (([7] : List UInt8).map D.u8)) (R.bslE (z:=1) (.cons (show ev _ _ (.const (.int .u8 7)) = some (.u8 7) from O) .nil) ⟨⟨O,O,O⟩,Zt⟩ O H dU) O (brw_u8s _ [7]),aU fun _ _ H K=>R.callPE hC (wk_make) (EvP.cons (eU K 33 O) O O (EvP.cons (eU K 35 O) O O (EvP.cons (eU K 36 O) O O (EvP.cons (show ev _ _ (.const (.int .u64 1)) = some (.u64 1) from O) O O EvP.nil)))) H,aU fun _ _ H K=>R.movT (K 37 _ O) O H,aU fun _ _ H K=>R.ext (K 32 _ O) O O H,aU fun _ _ H K=>R.ext (K 32 _ O) O O H,Zt⟩ O O O O (⟨O,_,R.alloc O (nU O),⟨O,_,R.stZ (gU 7 O) (xU 7 O) O (gV 38 O) (by rfl) (by rfl) (by rfl) (by rfl) O,⟨O,_,R.asg (gV 39 O) O (nU O),tV [(1,_),(2,_),(3,_),(4,_),(5,_),(6,_),(7,_),(8,_)] [(7,.var _)] 122 O O O ?_⟩⟩⟩)
 refine W.seq ?_
 refine W.l0 8 [.y 41 _,.y 42 _,.y 43 _,.y 40 _,.y 44 _,.y 45 _,.y 9 _,.y 10 _] [] [] [(1,_),(2,_),(3,_),(4,_),(5,_),(6,_),(7,_),(8,_),(9,_),(10,_)] [(7,.var _)] 122 ⟨mU 1 O O,aU (lU 7 O O O O O O O),aU fun _ _ H K=>R.callG hC (wk_check) (Bc (Bp (eU K 41 O) O O) (Bc (Bp (eU K 42 O) O O) Bn)) (FrsR.two (.u64 _) (.int _)) H,aU fun _ _ H K=>R.movT (K 43 _ O) O H,aU fun _ _ H K=>R.ext (K 40 _ O) O O H,aU fun _ _ H K=>R.ext (K 40 _ O) O O H,aU fun _ _ H K=>R.asg (eU K 44 O) O H,aU fun _ _ H K=>R.asg (eU K 45 O) O H,Zt⟩ O O O O (tU O ?_)
 refine W.seq ?_
 refine W.l0 11 [.y 47 _,.y 48 _,.y 49 _,.y 50 _,.y 46 _,.y 51 _,.y 52 _,.y 53 _,.y 11 _,.y 12 _,.y 13 _] [] [] [(1,_),(2,_),(3,_),(4,_),(5,_),(6,_),(7,_),(8,_),(9,_),(10,_),(13,_)] [(7,.var _)] 122 ⟨mU 1 O O,aU fun _ _ H _=>R.bldSE (l:=[.nils,.u64 0]) (l':=[_,_]) (.cons (show ev _ _ (.const (.int .u64 14000)) = some (.u64 14000) from O) (.nil O)) ⟨⟨_,(show ev _ _ (.const (.int .u64 14000)) = some (.u64 14000) from O),O,O,O⟩,Zt⟩ H,aU fun _ _ H K=>R.frzT (r':=.sl none 2 (W3.map wntD)) (R.wkT (r':=.sl (some 70) 2 (W3.map wntD)) (R.bslE (z:=2) (.cons (eU K 48 O) .nil) ⟨⟨O,O,O⟩,Zt⟩ O H dU) O O (wk_wnt _ _)) O (brw_wn _ _),aU fun _ _ H K=>R.callPE hC (wk_ch3) (EvP.cons (eU K 47 O) O O (EvP.cons (eU K 49 O) O O (EvP.cons (show ev _ _ (.const (.int .u64 1)) = some (.u64 1) from O) O O EvP.nil))) H,aU fun _ _ H K=>R.movT (K 50 _ O) O H,aU fun _ _ H K=>R.ext (K 46 _ O) O O H,aU fun _ _ H K=>R.ext (K 46 _ O) O O H,aU fun _ _ H K=>R.ext (K 46 _ O) O O H,aU fun _ _ H K=>R.asg (eU K 51 O) O H,aU fun _ _ H K=>R.asg (eU K 52 O) O H,aU fun _ _ H K=>R.asg (eU K 53 O) O H,Zt⟩ O O O O (tU O ?_)
 refine W.seq ?_
 refine W.l0 9 [.y 55 _,.y 56 _,.y 54 _,.y 57 _,.y 58 _,.y 59 _,.y 14 _,.y 15 _,.y 16 _] [] [] [(2,_),(3,_),(4,_),(5,_),(6,_),(7,_),(8,_),(9,_),(10,_),(13,_),(16,_)] [(7,.var _)] 122 ⟨mU 1 O O,aU fun _ _ H K=>R.callPE hC (wk_ch4) (EvP.cons (eU K 55 O) O O (EvP.cons (kN O) O O (EvP.cons (show ev _ _ (.const (.int .u64 1)) = some (.u64 1) from O) O O EvP.nil))) H,aU fun _ _ H K=>R.movT (K 56 _ O) O H,aU fun _ _ H K=>R.ext (K 54 _ O) O O H,aU fun _ _ H K=>R.ext (K 54 _ O) O O H,aU fun _ _ H K=>R.ext (K 54 _ O) O O H,aU fun _ _ H K=>R.asg (eU K 57 O) O H,aU fun _ _ H K=>R.asg (eU K 58 O) O H,aU fun _ _ H K=>R.asg (eU K 59 O) O H,Zt⟩ O O O O (tU O ?_)
 refine W.seq ?_
 have hw5 : W5.outs.length = 2:=rfl
 refine W.l0 63 (.y 60 _ :: .y 61 _ :: .y 62 _ :: .y 63 _ :: .y 64 _ :: .y 65 _ :: .y 66 _ :: .y 67 _ :: .y 68 _ :: .y 69 _ :: .y 70 _ :: .y 71 _ :: .y 72 _ :: .y 73 _ :: .y 74 _ :: .y 75 _ :: .y 76 _ :: .y 77 _ :: .y 78 _ :: .y 79 _ :: .y 80 _ :: .y 81 _ :: .y 82 _ :: .y 83 _ :: .y 84 _ :: .y 85 _ :: .y 86 _ :: .y 87 _ :: .y 88 _ :: .y 89 _ :: .y 90 _ :: .y 91 _ :: .y 92 _ :: .y 93 _ :: .y 94 _ :: .y 95 _ :: .y 96 _ :: .y 97 _ :: .y 98 _ :: .y 99 _ :: .y 100 _ :: .y 101 _ :: .y 102 _ :: .y 103 _ :: .y 104 _ :: .y 105 _ :: .y 106 _ :: .y 107 _ :: .y 108 _ :: .y 109 _ :: .y 110 _ :: .y 111 _ :: .y 112 _ :: .y 113 _ :: .y 114 _ :: .y 115 _ :: .y 116 _ :: .y 117 _ :: .y 118 _ :: .y 119 _ :: .y 120 _ :: .y 121 _ :: .y 0 _ :: []) [] [] [(0,_)] [(7,.var _)] 122 ⟨mU 4 O O,aU fun _ _ H K=>R.eqlN (0) (0) (eU K 60 O) (kI 0 O) H,mU 61 O O,aW O O (gT (O) O) fun _ _ H K=>R.mov (eU K 2 O) O H,aW O O (gT (O) O) fun _ _ H K=>R.lenE (SC.sl (K 63 _ O)) (lN _) H,aW O O (gT (O) O) fun _ _ H K=>R.eqlN ([coinS 2 9000].length) (1) (eU K 64 O) (kI 1 O) H,aU fun _ _ H K=>R.pickT (eU K 62 O) (O) (eU K 65 O) O H,mU 66 O O,aW O O (gT (O) O) fun _ _ H K=>R.mov (eU K 2 O) O H,aW O O (gT (O) O) fun _ _ H K=>R.idxN (0) (SC.sl (K 68 _ O)) (evoI (kI 0 O)) O bU H dU,aW O O (gT (O) O) fun _ _ H K=>R.fdE (K 69 _ O) H dU,aW O O (gT (O) O) fun _ _ H K=>R.ldE (K 70 _ O) (SC.sl (K 68 _ O)) (map_get! (l:=[coinS 2 9000]) bU) O O O O H,aW O O (gT (O) O) fun _ _ H K=>R.bin (eU K 71 O) (show ev _ _ (.const (.int .u64 9000)) = some (.u64 9000) from O) O Zt H,aU fun _ _ H K=>R.pickT (eU K 67 O) (O) (eU K 72 O) O H,mU 73 O O,aW O O (gT (O) O) fun _ _ H K=>R.mov (eU K 3 O) O H,aW O O (gT (O) O) fun _ _ H K=>R.bin (eU K 75 O) (show ev _ _ (.const (.int .u64 774)) = some (.u64 774) from O) O Zt H,aU fun _ _ H K=>R.pickT (eU K 74 O) (O) (eU K 76 O) O H,mU 77 O O,aW O O (gT (O) O) fun _ _ H K=>R.mov (eU K 5 O) O H,aW O O (gT (O) O) fun _ _ H K=>R.bin (eU K 79 O) (show ev _ _ (.const (.int .u64 192)) = some (.u64 192) from O) O Zt H,aU fun _ _ H K=>R.pickT (eU K 78 O) (O) (eU K 80 O) O H,mU 81 O O,aW O O (gT (O) O) fun _ _ H K=>R.mov (eU K 6 O) O H,aW O O (gT (O) O) fun _ _ H K=>R.eqlN (0) (0) (eU K 83 O) (kI 0 O) H,aU fun _ _ H K=>R.pickT (eU K 82 O) (O) (eU K 84 O) O H,mU 85 O O,aW O O (gT (O) O) fun _ _ H K=>R.mov (eU K 8 O) O H,aW O O (gT (O) O) fun _ _ H K=>R.eqlN (0) (0) (eU K 87 O) (kI 0 O) H,aU fun _ _ H K=>R.pickT (eU K 86 O) (O) (eU K 88 O) O H,mU 89 O O,aW O O (gT (O) O) (fU 7 O O),aW O O (gT (O) O) (lU 91 O O O O O O O),aW O O (gT (O) O) fun _ _ H K=>R.lenE (SC.sl (K 92 _ O)) (lN _) H,aW O O (gT (O) O) fun _ _ H K=>R.eqlN (W5.outs.length) (2) (eU K 93 O) (kI 2 O) H,aU fun _ _ H K=>R.pickT (eU K 90 O) (O) (eU K 94 O) O H,mU 95 O O,aW O O (gT (O) O) (fU 7 O O),aW O O (gT (O) O) (lU 97 O O O O O O O),aW O O (gT (O) O) fun _ _ H K=>R.idxN (1) (SC.sl (K 98 _ O)) (evoI (kI 1 O)) O bU H dU,aW O O (gT (O) O) fun _ _ H K=>R.fdE (K 99 _ O) H dU,aW O O (gT (O) O) fun _ _ H K=>R.ldE (K 100 _ O) (SC.sl (K 98 _ O)) (map_get! (l:=W5.outs) bU) O O O O H,aW O O (gT (O) O) fun _ _ H K=>R.bin (eU K 101 O) (show ev _ _ (.const (.int .u64 774)) = some (.u64 774) from O) O Zt H,aU fun _ _ H K=>R.pickT (eU K 96 O) (O) (eU K 102 O) O H,mU 103 O O,aW O O (gT (O) O) fun _ _ H K=>R.mov (eU K 10 O) O H,aW O O (gT (O) O) fun _ _ H K=>R.eqlN (0) (0) (eU K 105 O) (kI 0 O) H,aU fun _ _ H K=>R.pickT (eU K 104 O) (O) (eU K 106 O) O H,mU 107 O O,aW O O (gT (O) O) fun _ _ H K=>R.mov (eU K 9 O) O H,aW O O (gT (O) O) fun _ _ H K=>R.bin (eU K 109 O) (show ev _ _ (.const (.int .u64 226)) = some (.u64 226) from O) O Zt H,aU fun _ _ H K=>R.pickT (eU K 108 O) (O) (eU K 110 O) O H,mU 111 O O,aW O O (gT (O) O) fun _ _ H K=>R.mov (eU K 13 O) O H,aW O O (gT (O) O) fun _ _ H K=>R.eqlN (14) (14) (eU K 113 O) (kI 14 O) H,aU fun _ _ H K=>R.pickT (eU K 112 O) (O) (eU K 114 O) O H,mU 115 O O,aW O O (gT (O) O) fun _ _ H K=>R.mov (eU K 16 O) O H,aW O O (gT (O) O) fun _ _ H K=>R.eqlN (1) (1) (eU K 117 O) (kI 1 O) H,aU fun _ _ H K=>R.pickT (eU K 116 O) (O) (eU K 118 O) O H,mU 119 O O,aU fun _ _ H K=>R.pickT (eU K 120 O) (O) (kB true O) O H,aU fun _ _ H K=>R.asg (eU K 121 O) O H,Zt⟩ O O O O (tU O ?_)
 refine W.ret ?_
 exact Ends.one' (.inr O) O (O) O O Zt
end Go.Sx

namespace Go.Sx
def txF (os : List OutS) : D:=.agg [.u32 0,.nils,.sl none 2 (os.map outD),.u32 0]
def blkF (b : List (List OutS)) : D:=.agg [.agg [.u32 0,.arr 32 1 ((List.replicate 32 0).map D.u8),.arr 32 1 ((List.replicate 32 0).map D.u8),.u32 0,.u32 0,.u32 0],.sl none 4 (b.map txF)]
def sumO (os : List OutS) : Nat -> Nat
 | 0=>0
 | k + 1=>sumO os k + os[k]!.script.length
theorem sumO_le {os : List OutS} (h : ∀ o ∈ os,o.script.length <= 140737488355328) : ∀ k ≤ os.length,sumO os k <= k * 140737488355328:=by
 intro k
 induction k with
 | zero=>intro _; simp [sumO]
 | succ k ih=>
  intro hk
  have h1:=ih (by omega)
  have h2:=h _ (get_in (l:=os) (i:=k) (by omega))
  simp only [sumO]
  omega
def fewTx (os : List OutS) : Prop:=os.length <= 8 /\ sumO os os.length <= 1000
instance (os : List OutS) : Decidable (fewTx os):=by unfold fewTx; infer_instance
def fewBk (b : List (List OutS)) : Prop:=b.length <= 12 /\ ∀ j < b.length,fewTx b[j]!
instance (b : List (List OutS)) : Decidable (fewBk b):=by unfold fewBk; infer_instance
def fewP15 (bs : List (List (List OutS))) : Prop:=bs.length <= 20 /\ ∀ i < bs.length,fewBk bs[i]!
instance (bs : List (List (List OutS))) : Decidable (fewP15 bs):=by unfold fewP15; infer_instance
end Go.Sx

namespace Go.Sx
open Go.Proofs
theorem few15_ok (bs : List (List (List OutS))) (hb : bs.length <= 1000) (hbb : ∀ b ∈ bs,b.length <= 1000 /\ ∀ t ∈ b,∀ o ∈ t,o.script.length <= 140737488355328) : Fn Try.prog gl 7 [.sl none 69 (bs.map blkF)] (.bool (decide (fewP15 bs))):=by
 refine Fn.of (n:=119) Try.func7 rfl rfl rfl (nU rfl) fun C hC hD=>?_
 refine W.seq ?_
 refine W.l0 1 [.y 2 _] [] [] [(0,_)] [] 119 ⟨aU fun _ _ H _=>R.asg (kB false O) O H,Zt⟩ O O O O (tU O ?_)
 refine W.seq (W.seq ?_)
 refine W.l0 3 [.y 10 _,.y 11 _,.y 12 _] [] [] [(0,_),(12,_)] [] 119 ⟨mU 0 O O,aU fun _ _ H K=>R.lenE (SC.sl (K 10 _ O)) (lN _) H,aU fun _ _ H K=>R.gtrN (bs.length) (20) (eU K 11 O) (kI 20 O) H,Zt⟩ O O O O (tU O ?_)
 refine W.condD O (fun hc12=>?_) (fun hc12=>?_)
 · refine W.seq ?_
   refine W.l0 1 [.y 2 _] [] [] [(2,_)] [] 119 ⟨aU fun _ _ H _=>R.asg (kB false O) O H,Zt⟩ O O O O (tU O ?_)
   refine W.ret ?_
   exact Ends.one' (.inr O) O (congrArg D.bool (dF (fun h=>by have:=h.1; omega)).symm) O O Zt
 · refine W.skip (W.seq (W.seq ?_))
   refine W.l0 1 [.y 3 _] [] [] [(0,_),(3,_)] [] 119 ⟨aU fun _ _ H _=>R.asg (kI 0 O) O H,Zt⟩ O O O O (tU O ?_)
   refine W.block ?_
   refine W.loop (α:={q__ : Nat // q__ <= bs.length /\ ∀ a < q__,fewBk bs[a]!}) (fun q__=>⟨119,[(0,.sl none 69 (bs.map blkF)),(3,.int ((q__.1 : Nat) : Int))],[]⟩) (fun q__=>bs.length - q__.1) ⟨(0),⟨Nat.zero_le _,fun j h=>absurd h (Nat.not_lt_zero _)⟩⟩ O ?_
   rintro ⟨i,⟨hi,hok⟩⟩
   show W _ _ _ _ ⟨119,[(0,.sl none 69 (bs.map blkF)),(3,.int ((i : Nat) : Int))],[]⟩
   have hi : i <= bs.length:=hi
   have hok : ∀ a < i,fewBk bs[a]!:=hok
   refine W.seq (W.seq ?_)
   refine W.l0 4 [.y 13 _,.y 14 _,.y 15 _,.y 16 _] [] [] [(0,_),(3,_),(16,_)] [] 119 ⟨mU 3 O O,mU 0 O O,aU fun _ _ H K=>R.lenE (SC.sl (K 14 _ O)) (lN _) H,aU fun _ _ H K=>R.lssN (i) (bs.length) (eU K 13 O) (eU K 15 O) H,Zt⟩ O O O O (tU O ?_)
   refine W.condD O (fun hc16=>?_) (fun hc16=>?_)
   · refine W.skip (W.seq (W.block (W.seq (W.seq ?_))))
     refine W.l0 7 [.y 19 _,.y 20 _,.y 21 _,.y 22 _,.y 23 _,.y 24 _,.y 25 _] [] [] [(0,_),(3,_),(25,_)] [] 119 ⟨mU 0 O O,mU 3 O O,aU fun _ _ H K=>R.idxN (i) (SC.sl (K 19 _ O)) (evoI (eU K 20 O)) O bU H dU,aU fun _ _ H K=>R.fdE (K 21 _ O) H dU,aU fun _ _ H K=>R.ldE (K 22 _ O) (SC.sl (K 19 _ O)) (map_get! (l:=bs) bU) O O O O H,aU fun _ _ H K=>R.lenE (SC.sl (K 23 _ O)) (lN _) H,aU fun _ _ H K=>R.gtrN (bs[i]!.length) (12) (eU K 24 O) (kI 12 O) H,Zt⟩ O O O O (tU O ?_)
     refine W.condD O (fun hc25=>?_) (fun hc25=>?_)
     · refine W.seq ?_
       refine W.l0 1 [.y 2 _] [] [] [(2,_)] [] 119 ⟨aU fun _ _ H _=>R.asg (kB false O) O H,Zt⟩ O O O O (tU O ?_)
       refine W.ret ?_
       exact Ends.one' (.inr O) O (congrArg D.bool (dF (fun h=>by have:=(h.2 i hc16).1; omega)).symm) O O Zt
     · refine W.skip (W.seq ?_)
       have hbi:=hbb _ (get_in hc16)
       refine W.l0 1 [.y 4 _] [] [] [(0,_),(3,_),(4,_)] [] 119 ⟨aU fun _ _ H _=>R.asg (kI 0 O) O H,Zt⟩ O O O O (tU O ?_)
       refine W.block ?_
       refine W.loop (α:={q__ : Nat // q__ <= bs[i]!.length /\ ∀ a < q__,fewTx bs[i]![a]!}) (fun q__=>⟨119,[(0,.sl none 69 (bs.map blkF)),(3,.int ((i : Nat) : Int)),(4,.int ((q__.1 : Nat) : Int))],[]⟩) (fun q__=>bs[i]!.length - q__.1) ⟨(0),⟨Nat.zero_le _,fun j h=>absurd h (Nat.not_lt_zero _)⟩⟩ O ?_
       rintro ⟨j,⟨hj,hok2⟩⟩
       show W _ _ _ _ ⟨119,[(0,.sl none 69 (bs.map blkF)),(3,.int ((i : Nat) : Int)),(4,.int ((j : Nat) : Int))],[]⟩
       have hj : j <= bs[i]!.length:=hj
       have hok2 : ∀ a < j,fewTx bs[i]![a]!:=hok2
       refine W.seq (W.seq ?_)
       refine W.l0 8 [.y 26 _,.y 27 _,.y 28 _,.y 29 _,.y 30 _,.y 31 _,.y 32 _,.y 33 _] [] [] [(0,_),(3,_),(4,_),(33,_)] [] 119 ⟨mU 4 O O,mU 0 O O,mU 3 O O,aU fun _ _ H K=>R.idxN (i) (SC.sl (K 27 _ O)) (evoI (eU K 28 O)) O bU H dU,aU fun _ _ H K=>R.fdE (K 29 _ O) H dU,aU fun _ _ H K=>R.ldE (K 30 _ O) (SC.sl (K 27 _ O)) (map_get! (l:=bs) bU) O O O O H,aU fun _ _ H K=>R.lenE (SC.sl (K 31 _ O)) (lN _) H,aU fun _ _ H K=>R.lssN (j) (bs[i]!.length) (eU K 26 O) (eU K 32 O) H,Zt⟩ O O O O (tU O ?_)
       refine W.condD O (fun hc33=>?_) (fun hc33=>?_)
       · refine W.skip (W.seq (W.block (W.seq ?_)))
         refine W.l0 10 [.y 36 _,.y 37 _,.y 38 _,.y 39 _,.y 40 _,.y 41 _,.y 42 _,.y 43 _] [] [] [(0,_),(3,_),(4,_),(43,_)] [] 119 ⟨mU 0 O O,mU 3 O O,aU fun _ _ H K=>R.idxN (i) (SC.sl (K 36 _ O)) (evoI (eU K 37 O)) O bU H dU,aU fun _ _ H K=>R.fdE (K 38 _ O) H dU,aU fun _ _ H K=>R.ldE (K 39 _ O) (SC.sl (K 36 _ O)) (map_get! (l:=bs) bU) O O O O H,mU 4 O O,aU fun _ _ H K=>R.idxN (j) (SC.sl (K 40 _ O)) (evoI (eU K 41 O)) O bU H dU,aU fun _ _ H K=>R.ldE (K 42 _ O) (SC.sl (K 40 _ O)) (map_get! (l:=bs[i]!) bU) O O O O H,Zt⟩ O O O O (⟨O,_,R.alloc O (nU O),⟨O,_,R.stZ (gU 5 O) (xU 5 O) O (gV 43 O) (by rfl) (by rfl) (by rfl) (by rfl) O,tV [(0,_),(3,_),(4,_),(5,_)] [(5,.var _)] 119 O O O ?_⟩⟩)
         refine W.seq (W.seq ?_)
         have hob:=hbi.2 _ (get_in (i:=j) (by omega))
         refine W.l0 10 [.y 44 _,.y 45 _,.y 46 _,.y 47 _,.y 48 _,.y 49 _,.y 50 _,.y 51 _,.y 52 _,.y 53 _] [] [] [(0,_),(3,_),(4,_),(5,_),(53,_)] [(5,.var _)] 119 ⟨aU (fU 5 O O),aU (lU 44 O O O O O O O),aU fun _ _ H K=>R.len (SC.nil (z:=1) (K 45 _ O)) H,aU fun _ _ H K=>R.gtrN (0) (8) (eU K 46 O) (kI 8 O) H,mU 47 O O,aW O O (gF dU O) (fU 5 O O),aW O O (gF dU O) (lU 49 O O O O O O O),aW O O (gF dU O) fun _ _ H K=>R.lenE (SC.sl (K 50 _ O)) (lN _) H,aW O O (gF dU O) fun _ _ H K=>R.gtrN ((bs[i]!)[j]!.length) (8) (eU K 51 O) (kI 8 O) H,aU fun _ _ H K=>R.pickF (eU K 48 O) dU (eU K 52 O) O H,Zt⟩ O O O O (tU O ?_)
         refine W.condD O (fun hc53=>?_) (fun hc53=>?_)
         · refine W.seq ?_
           refine W.dropS (live:=[]) (env':=[]) (bx':=[(5,.var _)]) (n':=119) O O O ?_
           refine W.dropB [] (bx':=[]) O O O (pin_sub hD O) ?_
           refine W.l0 1 [.y 2 _] [] [] [(2,_)] [] 119 ⟨aU fun _ _ H _=>R.asg (kB false O) O H,Zt⟩ O O O O (tU O ?_)
           refine W.ret ?_
           exact Ends.one' (.inr O) O (congrArg D.bool (dF (fun h=>by have:=((h.2 i hc16).2 j hc33).1; omega)).symm) O O Zt
         · refine W.skip (W.seq ?_)
           refine W.l0 1 [.y 6 _] [] [] [(0,_),(3,_),(4,_),(5,_),(6,_)] [(5,.var _)] 119 ⟨aU fun _ _ H _=>R.asg (kI 0 O) O H,Zt⟩ O O O O (tU O ?_)
           refine W.seq (W.seq ?_)
           refine W.l0 1 [.y 7 _] [] [] [(0,_),(3,_),(4,_),(5,_),(6,_),(7,_)] [(5,.var _)] 119 ⟨aU fun _ _ H _=>R.asg (kI 0 O) O H,Zt⟩ O O O O (tU O ?_)
           refine W.block ?_
           refine W.loop (α:={q__ : Nat // q__ = 0}) (fun q__=>⟨119,[(0,.sl none 69 (bs.map blkF)),(3,.int ((i : Nat) : Int)),(4,.int ((j : Nat) : Int)),(5,.ptr 5 0 []),(6,.int ((0 : Nat) : Int)),(7,.int ((q__.1 : Nat) : Int))],[(5,.var (txF bs[i]![j]!))]⟩) (fun q__=>0) ⟨(0),O⟩ O ?_
           rintro ⟨q,hq⟩
           show W _ _ _ _ ⟨119,[(0,.sl none 69 (bs.map blkF)),(3,.int ((i : Nat) : Int)),(4,.int ((j : Nat) : Int)),(5,.ptr 5 0 []),(6,.int ((0 : Nat) : Int)),(7,.int ((q : Nat) : Int))],[(5,.var (txF bs[i]![j]!))]⟩
           have hq : q = 0:=hq
           refine W.seq (W.seq ?_)
           refine W.l0 5 [.y 54 _,.y 55 _,.y 56 _,.y 57 _,.y 58 _] [] [] [(0,_),(3,_),(4,_),(5,_),(6,_),(7,_),(58,_)] [(5,.var _)] 119 ⟨mU 7 O O,aU (fU 5 O O),aU (lU 55 O O O O O O O),aU fun _ _ H K=>R.len (SC.nil (z:=1) (K 56 _ O)) H,aU fun _ _ H K=>R.lssN (q) (0) (eU K 54 O) (eU K 57 O) H,Zt⟩ O O O O (tU O ?_)
           refine W.condF O (dF (by omega)) ?_
           refine W.exit (W.seq (W.seq ?_))
           refine W.l0 1 [.y 9 _] [] [] [(0,_),(3,_),(4,_),(5,_),(6,_),(9,_)] [(5,.var _)] 119 ⟨aU fun _ _ H _=>R.asg (kI 0 O) O H,Zt⟩ O O O O (tU O ?_)
           refine W.block ?_
           refine W.loop (α:={q__ : Nat // q__ <= bs[i]![j]!.length}) (fun q__=>⟨119,[(0,.sl none 69 (bs.map blkF)),(3,.int ((i : Nat) : Int)),(4,.int ((j : Nat) : Int)),(5,.ptr 5 0 []),(6,.int (((sumO bs[i]![j]! q__.1) : Nat) : Int)),(9,.int ((q__.1 : Nat) : Int))],[(5,.var (txF bs[i]![j]!))]⟩) (fun q__=>bs[i]![j]!.length - q__.1) ⟨(0),bU⟩ O ?_
           rintro ⟨k,hk⟩
           show W _ _ _ _ ⟨119,[(0,.sl none 69 (bs.map blkF)),(3,.int ((i : Nat) : Int)),(4,.int ((j : Nat) : Int)),(5,.ptr 5 0 []),(6,.int (((sumO bs[i]![j]! k) : Nat) : Int)),(9,.int ((k : Nat) : Int))],[(5,.var (txF bs[i]![j]!))]⟩
           have hk : k <= bs[i]![j]!.length:=hk
           refine W.seq (W.seq ?_)
           refine W.l0 5 [.y 101 _,.y 102 _,.y 103 _,.y 104 _,.y 105 _] [] [] [(0,_),(3,_),(4,_),(5,_),(6,_),(9,_),(105,_)] [(5,.var _)] 119 ⟨mU 9 O O,aU (fU 5 O O),aU (lU 102 O O O O O O O),aU fun _ _ H K=>R.lenE (SC.sl (K 103 _ O)) (lN _) H,aU fun _ _ H K=>R.lssN (k) (bs[i]![j]!.length) (eU K 101 O) (eU K 104 O) H,Zt⟩ O O O O (tU O ?_)
           refine W.condD O (fun hc105=>?_) (fun hc105=>?_)
           · refine W.skip (W.seq (W.block ?_))
             have hsk:=hob _ (get_in (i:=k) (by omega))
             have hsm:=sumO_le hob k (by omega)
             refine W.l0 10 [.y 108 _,.y 109 _,.y 110 _,.y 111 _,.y 112 _,.y 113 _,.y 114 _,.y 115 _,.y 116 _,.y 6 _] [] [] [(0,_),(3,_),(4,_),(5,_),(6,_),(9,_)] [(5,.var _)] 119 ⟨mU 6 O O,aU (fU 5 O O),aU (lU 109 O O O O O O O),mU 9 O O,aU fun _ _ H K=>R.idxN (k) (SC.sl (K 110 _ O)) (evoI (eU K 111 O)) O bU H dU,aU fun _ _ H K=>R.fdE (K 112 _ O) H dU,aU fun _ _ H K=>R.ldE (K 113 _ O) (SC.sl (K 110 _ O)) (map_get! (l:=bs[i]![j]!) bU) O O O O H,aU fun _ _ H K=>R.lenE (SC.sl (K 114 _ O)) (lN _) H,aU fun _ _ H K=>R.addN ((sumO bs[i]![j]! k)) ((bs[i]![j]!)[k]!.script.length) (eU K 108 O) (eU K 115 O) bU H,aU fun _ _ H K=>R.asg (eU K 116 O) O H,Zt⟩ O O O O (tU O ?_)
             refine W.l0 3 [.y 106 _,.y 107 _,.y 9 _] [] [] [(0,_),(3,_),(4,_),(5,_),(6,_),(9,_)] [(5,.var _)] 119 ⟨mU 9 O O,aU fun _ _ H K=>R.addN (k) (1) (eU K 106 O) (kI 1 O) bU H,aU fun _ _ H K=>R.asg (eU K 107 O) O H,Zt⟩ O O O O (tU O ?_)
             exact ⟨⟨(k + 1),bU⟩,rfl,(by simp only []; omega)⟩
           · obtain rfl : k = bs[i]![j]!.length:=by omega
             refine W.exit (W.seq ?_)
             refine W.dropS (live:=[0,3,4,6]) (env':=[(0,_),(3,_),(4,_),(6,_)]) (bx':=[(5,.var _)]) (n':=119) O O O ?_
             refine W.dropB [] (bx':=[]) O O O (pin_sub hD O) ?_
             refine W.l0 2 [.y 117 _,.y 118 _] [] [] [(0,_),(3,_),(4,_),(118,_)] [] 119 ⟨mU 6 O O,aU fun _ _ H K=>R.gtrN ((sumO bs[i]![j]! bs[i]![j]!.length)) (1000) (eU K 117 O) (kI 1000 O) H,Zt⟩ O O O O (tU O ?_)
             refine W.condD O (fun hc118=>?_) (fun hc118=>?_)
             · refine W.seq ?_
               refine W.l0 1 [.y 2 _] [] [] [(2,_)] [] 119 ⟨aU fun _ _ H _=>R.asg (kB false O) O H,Zt⟩ O O O O (tU O ?_)
               refine W.ret ?_
               exact Ends.one' (.inr O) O (congrArg D.bool (dF (fun h=>by have:=((h.2 i hc16).2 j hc33).2; omega)).symm) O O Zt
             · refine W.skip ?_
               refine W.l0 3 [.y 34 _,.y 35 _,.y 4 _] [] [] [(0,_),(3,_),(4,_)] [] 119 ⟨mU 4 O O,aU fun _ _ H K=>R.addN (j) (1) (eU K 34 O) (kI 1 O) bU H,aU fun _ _ H K=>R.asg (eU K 35 O) O H,Zt⟩ O O O O (tU O ?_)
               exact ⟨⟨(j + 1),⟨(by show j + 1 <= bs[i]!.length; omega),ext_i hok2 ⟨by omega,by omega⟩⟩⟩,rfl,(by simp only []; omega)⟩
       · obtain rfl : j = bs[i]!.length:=by omega
         refine W.exit ?_
         refine W.l0 3 [.y 17 _,.y 18 _,.y 3 _] [] [] [(0,_),(3,_)] [] 119 ⟨mU 3 O O,aU fun _ _ H K=>R.addN (i) (1) (eU K 17 O) (kI 1 O) bU H,aU fun _ _ H K=>R.asg (eU K 18 O) O H,Zt⟩ O O O O (tU O ?_)
         exact ⟨⟨(i + 1),⟨(by show i + 1 <= bs.length; omega),ext_i hok ⟨by omega,hok2⟩⟩⟩,rfl,(by simp only []; omega)⟩
   · obtain rfl : i = bs.length:=by omega
     refine W.exit (W.seq ?_)
     refine W.l0 1 [.y 2 _] [] [] [(2,_)] [] 119 ⟨aU fun _ _ H _=>R.asg (kB true O) O H,Zt⟩ O O O O (tU O ?_)
     refine W.ret ?_
     exact Ends.one' (.inr O) O (congrArg D.bool (dT ⟨by omega,hok⟩).symm) O O Zt
end Go.Sx

namespace Go.Sx
open Go.Proofs
structure TxS.bd (t : TxS) : Prop where
 ins : t.ins.length <= 140737488355328
 outs : t.outs.length <= 140737488355328
 scr : ∀ x ∈ t.ins,x.script.length <= 140737488355328
 wit : ∀ x ∈ t.ins,x.wit.length <= 140737488355328
 witi : ∀ x ∈ t.ins,∀ b ∈ x.wit,b.length <= 140737488355328
 oscr : ∀ x ∈ t.outs,x.script.length <= 140737488355328
structure TxS.arg (t : TxS) : Prop where
 bd : t.bd
 hash : ∀ x ∈ t.ins,x.tx.length = 32
theorem insS_mid {l : List InS} (h : ∀ x ∈ l,x.tx.length = 32 /\ x.script.length <= 200) : ∀ i ≤ l.length,(insS l i).length <= i * 249:=by
 intro i
 induction i with
 | zero=>intro _; simp [insS]
 | succ i ih=>
  intro hi
  have h1:=h _ (get_in (l:=l) (i:=i) (by omega))
  have h2:=ih (by omega)
  have h3:=itemS_len l[i]!.script
  simp only [insS,inS,List.length_append,lowI_len,h1.1] at *
  omega
theorem play_wf {t : TxS} (ht : t.arg) (hi : t.ins.length <= 150) (ho : t.outs.length <= 150) (h1 : ∀ j < t.ins.length,t.ins[j]!.script.length <= 200 /\ t.ins[j]!.wit.length = 0) (h2 : ∀ j < t.outs.length,t.outs[j]!.script.length <= 1000) : t.wf:=by
 have g1 : ∀ x ∈ t.ins,x.script.length <= 200 /\ x.wit = []:=fun x hx=>by
  obtain ⟨j,hj,rfl⟩:=mem_get hx
  exact ⟨(h1 j hj).1,List.length_eq_zero_iff.1 (h1 j hj).2⟩
 have g2 : ∀ x ∈ t.outs,x.script.length <= 1000:=fun x hx=>by
  obtain ⟨j,hj,rfl⟩:=mem_get hx
  exact h2 j hj
 refine ⟨by omega,by omega,ht.hash,fun x hx=>by have:=(g1 x hx).1; omega,fun x hx=>by have:=g2 x hx; omega,fun i h=>?_,fun i h=>?_,fun i h=>?_,fun x hx=>?_,fun x hx b hb=>?_⟩
 · have:=insS_mid (fun x hx=>⟨ht.hash x hx,(g1 x hx).1⟩) i h; omega
 · have:=outsS_small g2 i h; omega
 · have:=witsS_small (fun x hx=>(g1 x hx).2) i h; omega
 · rw [(g1 x hx).2]
   refine ⟨by simp,fun i hi=>?_⟩
   have : i = 0:=by simpa using hi
   rw [this]; simp [witS]
 · rw [(g1 x hx).2] at hb; cases hb
theorem zeroT_wf : zeroT.wf:=small_wf (by decide) (by decide) (fun x hx=>by cases hx) (fun x hx=>by cases hx)
theorem mkT_wf {l : List Un} {ws : List Wnt} {own : List UInt8} {r : UInt64} (hl : l.length <= 4096) (hx : hs32 l) : (mkT l ws own r).wf:=by
 unfold mkT
 split
 · rename_i h
   unfold mkE at h
   split at h
   · rename_i h1
     split at h
     · cases h
     · rename_i h2
       exact mkX_wf hl hx h1 h2
   · rename_i h1; exact absurd h h1
 · exact zeroT_wf
theorem eqIn_refl (x : InS) : eqIn x x = true:=by simp [eqIn,eqB_list]
theorem eqOut_refl (x : OutS) : eqOut x x = true:=by simp [eqOut]
theorem same_refl (t : TxS) : sameS t t = true:=sm_t rfl rfl rfl rfl (fun j _=>eqIn_refl _) (fun j _=>eqOut_refl _)
theorem two_wf {t u : TxS} (h1 : t.wf) (h2 : u.wf) {k : Nat} (hk : k < 2) : [t,u][k]!.wf:=by
 have : k = 0 ∨ k = 1:=by omega
 rcases this with rfl | rfl
 · exact h1
 · exact h2
theorem tk_outs (t : TxS) : ((t.outs.map outD).drop 0).take (min t.outs.length 8) = (t.outs.take (min t.outs.length 8)).map outD:=by
 rw [List.drop_zero,List.map_take]
theorem few_bd {t : TxS} (ht : t.arg) : ∀ b ∈ [[t.outs.take (min t.outs.length 8)]],b.length <= 1000 /\ ∀ q ∈ b,∀ o ∈ q,o.script.length <= 140737488355328:=by
 intro b hb
 rw [List.mem_singleton.1 hb]
 refine ⟨by simp,fun q hq o ho=>?_⟩
 rw [List.mem_singleton.1 hq] at ho
 exact ht.bd.oscr o (List.mem_of_mem_take ho)
theorem brw_blk15 {e : Nat} (os : List OutS) : [D.agg [.agg [.u32 0,.arr 32 1 ((List.replicate 32 0).map D.u8),.arr 32 1 ((List.replicate 32 0).map D.u8),.u32 0,.u32 0,.u32 0],.sl (some e) 4 [.agg [.u32 0,.nils,.sl none 2 (os.map outD),.u32 0]]]].map D.brw = [[os]].map blkF:=by
 simp only [List.map_cons,List.map_nil,D.brw,brws_eq,blkF,txF]
 rw [brw_map brw_outD]
 rfl
theorem few_of {ws : List Wnt} (h : fewS ws = true) : ws.length <= 80:=(of_decide_eq_true h : fewP ws).1
end Go.Sx

namespace Go.Sx
open Go.Proofs
theorem plays_ok (l : List Un) (ws : List Wnt) (own : List UInt8) (r : UInt64) (ins outs : Int) (t : TxS) (hl0 : l.length <= 140737488355328) (hx : hs32 l) (hw0 : ws.length <= 140737488355328) (ho0 : own.length <= 140737488355328) (hta : t.arg) : Fn Try.prog gl 3 [.sl none 35 (l.map coD),.sl none 2 (ws.map wntD),.sl none 1 (own.map D.u8),.u64 r,.int ins,.int outs,txD t] (.bool true):=by
 refine Fn.of (n:=239) Try.func3 rfl rfl rfl (nU rfl) fun C hC hD=>?_
 have hb1:=hta.bd.ins
 have hb2:=hta.bd.outs
 refine W.seq ?_
 refine W.l0 2 [] [] [] [(0,_),(1,_),(2,_),(3,_),(4,_),(5,_),(6,_)] [] 239 Zt O O O O (⟨O,_,R.box (gV 6 O) O O (nU O),⟨O,_,R.asg (kB false O) O (nU O),tV [(0,_),(1,_),(2,_),(3,_),(4,_),(5,_),(13,_)] [(13,.var _)] 239 O O O ?_⟩⟩)
 refine W.seq (W.seq ?_)
 by_cases k1 : 150 < l.length
 · refine W.l0 40 (.y 37 _ :: .y 38 _ :: .y 39 _ :: .y 40 _ :: .x 41 :: .x 42 :: .x 43 :: .y 44 _ :: .y 45 _ :: .x 46 :: .x 47 :: .x 48 :: .y 49 _ :: .y 50 _ :: .x 51 :: .x 52 :: .x 53 :: .x 54 :: .y 55 _ :: .y 56 _ :: .x 57 :: .x 58 :: .x 59 :: .x 60 :: .y 61 _ :: .y 62 _ :: .x 63 :: .x 64 :: .x 65 :: .x 66 :: .x 67 :: .x 68 :: .x 69 :: .x 70 :: .x 71 :: .x 72 :: .x 73 :: .x 74 :: .x 75 :: .y 76 _ :: []) [] [] [(0,_),(1,_),(2,_),(3,_),(4,_),(5,_),(13,_),(76,_)] [(13,.var _)] 239 ⟨mU 0 O O,aU fun _ _ H K=>R.lenE (SC.sl (K 37 _ O)) (lN _) H,aU fun _ _ H K=>R.gtrN (l.length) (150) (eU K 38 O) (kI 150 O) H,mU 39 O O,aF O O (gT (dT k1) O),aF O O (gT (dT k1) O),aF O O (gT (dT k1) O),aU fun _ _ H K=>R.pickT (eU K 40 O) (dT k1) (kB true O) O H,mU 44 O O,aF O O (gT (O) O),aF O O (gT (O) O),aF O O (gT (O) O),aU fun _ _ H K=>R.pickT (eU K 45 O) (O) (kB true O) O H,mU 49 O O,aF O O (gT (O) O),aF O O (gT (O) O),aF O O (gT (O) O),aF O O (gT (O) O),aU fun _ _ H K=>R.pickT (eU K 50 O) (O) (kB true O) O H,mU 55 O O,aF O O (gT (O) O),aF O O (gT (O) O),aF O O (gT (O) O),aF O O (gT (O) O),aU fun _ _ H K=>R.pickT (eU K 56 O) (O) (kB true O) O H,mU 61 O O,aF O O (gT (O) O),aF O O (gT (O) O),aF O O (gT (O) O),aF O O (gT (O) O),aF O O (gT (O) O),aF O O (gT (O) O),aF O O (gT (O) O),aF O O (gT (O) O),aF O O (gT (O) O),aF O O (gT (O) O),aF O O (gT (O) O),aF O O (gT (O) O),aF O O (gT (O) O),aU fun _ _ H K=>R.pickT (eU K 62 O) (O) (kB true O) O H,Zt⟩ O O O O (tU O ?_)
   refine W.condT O (O) ?_
   refine W.seq ?_
   refine W.l0 2 [.y 77 _,.y 14 _] [] [] [(14,_)] [(13,.var _)] 239 ⟨aU fun _ _ H _=>R.callG hC (works_ok) Bn (FrsR.one (.bool _)) H,aU fun _ _ H K=>R.asg (eU K 77 O) O H,Zt⟩ O O O O (tU O ?_)
   refine W.ret ?_
   exact Ends.one' (.inr O) O (O) O O Zt
 · by_cases k2 : ¬ fewS ws = true
   · refine W.l0 40 (.y 37 _ :: .y 38 _ :: .y 39 _ :: .y 40 _ :: .y 41 _ :: .y 42 _ :: .y 43 _ :: .y 44 _ :: .y 45 _ :: .x 46 :: .x 47 :: .x 48 :: .y 49 _ :: .y 50 _ :: .x 51 :: .x 52 :: .x 53 :: .x 54 :: .y 55 _ :: .y 56 _ :: .x 57 :: .x 58 :: .x 59 :: .x 60 :: .y 61 _ :: .y 62 _ :: .x 63 :: .x 64 :: .x 65 :: .x 66 :: .x 67 :: .x 68 :: .x 69 :: .x 70 :: .x 71 :: .x 72 :: .x 73 :: .x 74 :: .x 75 :: .y 76 _ :: []) [] [] [(0,_),(1,_),(2,_),(3,_),(4,_),(5,_),(13,_),(76,_)] [(13,.var _)] 239 ⟨mU 0 O O,aU fun _ _ H K=>R.lenE (SC.sl (K 37 _ O)) (lN _) H,aU fun _ _ H K=>R.gtrN (l.length) (150) (eU K 38 O) (kI 150 O) H,mU 39 O O,aW O O (gF (dF k1) O) fun _ _ H K=>R.mov (eU K 1 O) O H,aW O O (gF (dF k1) O) fun _ _ H K=>R.callG hC (few_ok ws hw0) (Bc (Bp (eU K 41 O) O O) Bn) (FrsR.one (.bool _)) H,aW O O (gF (dF k1) O) fun _ _ H K=>R.un (eU K 42 O) O H,aU fun _ _ H K=>R.pickF (eU K 40 O) (dF k1) (eU K 43 O) O H,mU 44 O O,aF O O (gT (by simpa using k2) O),aF O O (gT (by simpa using k2) O),aF O O (gT (by simpa using k2) O),aU fun _ _ H K=>R.pickT (eU K 45 O) (by simpa using k2) (kB true O) O H,mU 49 O O,aF O O (gT (O) O),aF O O (gT (O) O),aF O O (gT (O) O),aF O O (gT (O) O),aU fun _ _ H K=>R.pickT (eU K 50 O) (O) (kB true O) O H,mU 55 O O,aF O O (gT (O) O),aF O O (gT (O) O),aF O O (gT (O) O),aF O O (gT (O) O),aU fun _ _ H K=>R.pickT (eU K 56 O) (O) (kB true O) O H,mU 61 O O,aF O O (gT (O) O),aF O O (gT (O) O),aF O O (gT (O) O),aF O O (gT (O) O),aF O O (gT (O) O),aF O O (gT (O) O),aF O O (gT (O) O),aF O O (gT (O) O),aF O O (gT (O) O),aF O O (gT (O) O),aF O O (gT (O) O),aF O O (gT (O) O),aF O O (gT (O) O),aU fun _ _ H K=>R.pickT (eU K 62 O) (O) (kB true O) O H,Zt⟩ O O O O (tU O ?_)
     refine W.condT O (O) ?_
     refine W.seq ?_
     refine W.l0 2 [.y 77 _,.y 14 _] [] [] [(14,_)] [(13,.var _)] 239 ⟨aU fun _ _ H _=>R.callG hC (works_ok) Bn (FrsR.one (.bool _)) H,aU fun _ _ H K=>R.asg (eU K 77 O) O H,Zt⟩ O O O O (tU O ?_)
     refine W.ret ?_
     exact Ends.one' (.inr O) O (O) O O Zt
   · by_cases k3 : 1100 < own.length
     · refine W.l0 40 (.y 37 _ :: .y 38 _ :: .y 39 _ :: .y 40 _ :: .y 41 _ :: .y 42 _ :: .y 43 _ :: .y 44 _ :: .y 45 _ :: .y 46 _ :: .y 47 _ :: .y 48 _ :: .y 49 _ :: .y 50 _ :: .x 51 :: .x 52 :: .x 53 :: .x 54 :: .y 55 _ :: .y 56 _ :: .x 57 :: .x 58 :: .x 59 :: .x 60 :: .y 61 _ :: .y 62 _ :: .x 63 :: .x 64 :: .x 65 :: .x 66 :: .x 67 :: .x 68 :: .x 69 :: .x 70 :: .x 71 :: .x 72 :: .x 73 :: .x 74 :: .x 75 :: .y 76 _ :: []) [] [] [(0,_),(1,_),(2,_),(3,_),(4,_),(5,_),(13,_),(76,_)] [(13,.var _)] 239 ⟨mU 0 O O,aU fun _ _ H K=>R.lenE (SC.sl (K 37 _ O)) (lN _) H,aU fun _ _ H K=>R.gtrN (l.length) (150) (eU K 38 O) (kI 150 O) H,mU 39 O O,aW O O (gF (dF k1) O) fun _ _ H K=>R.mov (eU K 1 O) O H,aW O O (gF (dF k1) O) fun _ _ H K=>R.callG hC (few_ok ws hw0) (Bc (Bp (eU K 41 O) O O) Bn) (FrsR.one (.bool _)) H,aW O O (gF (dF k1) O) fun _ _ H K=>R.un (eU K 42 O) O H,aU fun _ _ H K=>R.pickF (eU K 40 O) (dF k1) (eU K 43 O) O H,mU 44 O O,aW O O (gF (by simpa using k2) O) fun _ _ H K=>R.mov (eU K 2 O) O H,aW O O (gF (by simpa using k2) O) fun _ _ H K=>R.lenE (SC.sl (K 46 _ O)) (lN _) H,aW O O (gF (by simpa using k2) O) fun _ _ H K=>R.gtrN (own.length) (1100) (eU K 47 O) (kI 1100 O) H,aU fun _ _ H K=>R.pickF (eU K 45 O) (by simpa using k2) (eU K 48 O) O H,mU 49 O O,aF O O (gT (dT k3) O),aF O O (gT (dT k3) O),aF O O (gT (dT k3) O),aF O O (gT (dT k3) O),aU fun _ _ H K=>R.pickT (eU K 50 O) (dT k3) (kB true O) O H,mU 55 O O,aF O O (gT (O) O),aF O O (gT (O) O),aF O O (gT (O) O),aF O O (gT (O) O),aU fun _ _ H K=>R.pickT (eU K 56 O) (O) (kB true O) O H,mU 61 O O,aF O O (gT (O) O),aF O O (gT (O) O),aF O O (gT (O) O),aF O O (gT (O) O),aF O O (gT (O) O),aF O O (gT (O) O),aF O O (gT (O) O),aF O O (gT (O) O),aF O O (gT (O) O),aF O O (gT (O) O),aF O O (gT (O) O),aF O O (gT (O) O),aF O O (gT (O) O),aU fun _ _ H K=>R.pickT (eU K 62 O) (O) (kB true O) O H,Zt⟩ O O O O (tU O ?_)
       refine W.condT O (O) ?_
       refine W.seq ?_
       refine W.l0 2 [.y 77 _,.y 14 _] [] [] [(14,_)] [(13,.var _)] 239 ⟨aU fun _ _ H _=>R.callG hC (works_ok) Bn (FrsR.one (.bool _)) H,aU fun _ _ H K=>R.asg (eU K 77 O) O H,Zt⟩ O O O O (tU O ?_)
       refine W.ret ?_
       exact Ends.one' (.inr O) O (O) O O Zt
     · by_cases k4 : 150 < t.ins.length
       · refine W.l0 40 (.y 37 _ :: .y 38 _ :: .y 39 _ :: .y 40 _ :: .y 41 _ :: .y 42 _ :: .y 43 _ :: .y 44 _ :: .y 45 _ :: .y 46 _ :: .y 47 _ :: .y 48 _ :: .y 49 _ :: .y 50 _ :: .y 51 _ :: .y 52 _ :: .y 53 _ :: .y 54 _ :: .y 55 _ :: .y 56 _ :: .x 57 :: .x 58 :: .x 59 :: .x 60 :: .y 61 _ :: .y 62 _ :: .x 63 :: .x 64 :: .x 65 :: .x 66 :: .x 67 :: .x 68 :: .x 69 :: .x 70 :: .x 71 :: .x 72 :: .x 73 :: .x 74 :: .x 75 :: .y 76 _ :: []) [] [] [(0,_),(1,_),(2,_),(3,_),(4,_),(5,_),(13,_),(76,_)] [(13,.var _)] 239 ⟨mU 0 O O,aU fun _ _ H K=>R.lenE (SC.sl (K 37 _ O)) (lN _) H,aU fun _ _ H K=>R.gtrN (l.length) (150) (eU K 38 O) (kI 150 O) H,mU 39 O O,aW O O (gF (dF k1) O) fun _ _ H K=>R.mov (eU K 1 O) O H,aW O O (gF (dF k1) O) fun _ _ H K=>R.callG hC (few_ok ws hw0) (Bc (Bp (eU K 41 O) O O) Bn) (FrsR.one (.bool _)) H,aW O O (gF (dF k1) O) fun _ _ H K=>R.un (eU K 42 O) O H,aU fun _ _ H K=>R.pickF (eU K 40 O) (dF k1) (eU K 43 O) O H,mU 44 O O,aW O O (gF (by simpa using k2) O) fun _ _ H K=>R.mov (eU K 2 O) O H,aW O O (gF (by simpa using k2) O) fun _ _ H K=>R.lenE (SC.sl (K 46 _ O)) (lN _) H,aW O O (gF (by simpa using k2) O) fun _ _ H K=>R.gtrN (own.length) (1100) (eU K 47 O) (kI 1100 O) H,aU fun _ _ H K=>R.pickF (eU K 45 O) (by simpa using k2) (eU K 48 O) O H,mU 49 O O,aW O O (gF (dF k3) O) (fU 13 O O),aW O O (gF (dF k3) O) (lU 51 O O O O O O O),aW O O (gF (dF k3) O) fun _ _ H K=>R.lenE (SC.sl (K 52 _ O)) (lN _) H,aW O O (gF (dF k3) O) fun _ _ H K=>R.gtrN (t.ins.length) (150) (eU K 53 O) (kI 150 O) H,aU fun _ _ H K=>R.pickF (eU K 50 O) (dF k3) (eU K 54 O) O H,mU 55 O O,aF O O (gT (dT k4) O),aF O O (gT (dT k4) O),aF O O (gT (dT k4) O),aF O O (gT (dT k4) O),aU fun _ _ H K=>R.pickT (eU K 56 O) (dT k4) (kB true O) O H,mU 61 O O,aF O O (gT (O) O),aF O O (gT (O) O),aF O O (gT (O) O),aF O O (gT (O) O),aF O O (gT (O) O),aF O O (gT (O) O),aF O O (gT (O) O),aF O O (gT (O) O),aF O O (gT (O) O),aF O O (gT (O) O),aF O O (gT (O) O),aF O O (gT (O) O),aF O O (gT (O) O),aU fun _ _ H K=>R.pickT (eU K 62 O) (O) (kB true O) O H,Zt⟩ O O O O (tU O ?_)
         refine W.condT O (O) ?_
         refine W.seq ?_
         refine W.l0 2 [.y 77 _,.y 14 _] [] [] [(14,_)] [(13,.var _)] 239 ⟨aU fun _ _ H _=>R.callG hC (works_ok) Bn (FrsR.one (.bool _)) H,aU fun _ _ H K=>R.asg (eU K 77 O) O H,Zt⟩ O O O O (tU O ?_)
         refine W.ret ?_
         exact Ends.one' (.inr O) O (O) O O Zt
       · by_cases k5 : 150 < t.outs.length
         · refine W.l0 40 (.y 37 _ :: .y 38 _ :: .y 39 _ :: .y 40 _ :: .y 41 _ :: .y 42 _ :: .y 43 _ :: .y 44 _ :: .y 45 _ :: .y 46 _ :: .y 47 _ :: .y 48 _ :: .y 49 _ :: .y 50 _ :: .y 51 _ :: .y 52 _ :: .y 53 _ :: .y 54 _ :: .y 55 _ :: .y 56 _ :: .y 57 _ :: .y 58 _ :: .y 59 _ :: .y 60 _ :: .y 61 _ :: .y 62 _ :: .x 63 :: .x 64 :: .x 65 :: .x 66 :: .x 67 :: .x 68 :: .x 69 :: .x 70 :: .x 71 :: .x 72 :: .x 73 :: .x 74 :: .x 75 :: .y 76 _ :: []) [] [] [(0,_),(1,_),(2,_),(3,_),(4,_),(5,_),(13,_),(76,_)] [(13,.var _)] 239 ⟨mU 0 O O,aU fun _ _ H K=>R.lenE (SC.sl (K 37 _ O)) (lN _) H,aU fun _ _ H K=>R.gtrN (l.length) (150) (eU K 38 O) (kI 150 O) H,mU 39 O O,aW O O (gF (dF k1) O) fun _ _ H K=>R.mov (eU K 1 O) O H,aW O O (gF (dF k1) O) fun _ _ H K=>R.callG hC (few_ok ws hw0) (Bc (Bp (eU K 41 O) O O) Bn) (FrsR.one (.bool _)) H,aW O O (gF (dF k1) O) fun _ _ H K=>R.un (eU K 42 O) O H,aU fun _ _ H K=>R.pickF (eU K 40 O) (dF k1) (eU K 43 O) O H,mU 44 O O,aW O O (gF (by simpa using k2) O) fun _ _ H K=>R.mov (eU K 2 O) O H,aW O O (gF (by simpa using k2) O) fun _ _ H K=>R.lenE (SC.sl (K 46 _ O)) (lN _) H,aW O O (gF (by simpa using k2) O) fun _ _ H K=>R.gtrN (own.length) (1100) (eU K 47 O) (kI 1100 O) H,aU fun _ _ H K=>R.pickF (eU K 45 O) (by simpa using k2) (eU K 48 O) O H,mU 49 O O,aW O O (gF (dF k3) O) (fU 13 O O),aW O O (gF (dF k3) O) (lU 51 O O O O O O O),aW O O (gF (dF k3) O) fun _ _ H K=>R.lenE (SC.sl (K 52 _ O)) (lN _) H,aW O O (gF (dF k3) O) fun _ _ H K=>R.gtrN (t.ins.length) (150) (eU K 53 O) (kI 150 O) H,aU fun _ _ H K=>R.pickF (eU K 50 O) (dF k3) (eU K 54 O) O H,mU 55 O O,aW O O (gF (dF k4) O) (fU 13 O O),aW O O (gF (dF k4) O) (lU 57 O O O O O O O),aW O O (gF (dF k4) O) fun _ _ H K=>R.lenE (SC.sl (K 58 _ O)) (lN _) H,aW O O (gF (dF k4) O) fun _ _ H K=>R.gtrN (t.outs.length) (150) (eU K 59 O) (kI 150 O) H,aU fun _ _ H K=>R.pickF (eU K 56 O) (dF k4) (eU K 60 O) O H,mU 61 O O,aF O O (gT (dT k5) O),aF O O (gT (dT k5) O),aF O O (gT (dT k5) O),aF O O (gT (dT k5) O),aF O O (gT (dT k5) O),aF O O (gT (dT k5) O),aF O O (gT (dT k5) O),aF O O (gT (dT k5) O),aF O O (gT (dT k5) O),aF O O (gT (dT k5) O),aF O O (gT (dT k5) O),aF O O (gT (dT k5) O),aF O O (gT (dT k5) O),aU fun _ _ H K=>R.pickT (eU K 62 O) (dT k5) (kB true O) O H,Zt⟩ O O O O (tU O ?_)
           refine W.condT O (O) ?_
           refine W.seq ?_
           refine W.l0 2 [.y 77 _,.y 14 _] [] [] [(14,_)] [(13,.var _)] 239 ⟨aU fun _ _ H _=>R.callG hC (works_ok) Bn (FrsR.one (.bool _)) H,aU fun _ _ H K=>R.asg (eU K 77 O) O H,Zt⟩ O O O O (tU O ?_)
           refine W.ret ?_
           exact Ends.one' (.inr O) O (O) O O Zt
         · refine W.l0 40 (.y 37 _ :: .y 38 _ :: .y 39 _ :: .y 40 _ :: .y 41 _ :: .y 42 _ :: .y 43 _ :: .y 44 _ :: .y 45 _ :: .y 46 _ :: .y 47 _ :: .y 48 _ :: .y 49 _ :: .y 50 _ :: .y 51 _ :: .y 52 _ :: .y 53 _ :: .y 54 _ :: .y 55 _ :: .y 56 _ :: .y 57 _ :: .y 58 _ :: .y 59 _ :: .y 60 _ :: .y 61 _ :: .y 62 _ :: .y 63 _ :: .y 64 _ :: .y 65 _ :: .y 66 _ :: .y 67 _ :: .y 68 _ :: .y 69 _ :: .y 70 _ :: .y 71 _ :: .y 72 _ :: .y 73 _ :: .y 74 _ :: .y 75 _ :: .y 76 _ :: []) [(35,71),(36,72)] [(35,71),(36,72)] [(0,_),(1,_),(2,_),(3,_),(4,_),(5,_),(13,_),(76,_)] [(13,.var _)] 239 ⟨mU 0 O O,aU fun _ _ H K=>R.lenE (SC.sl (K 37 _ O)) (lN _) H,aU fun _ _ H K=>R.gtrN (l.length) (150) (eU K 38 O) (kI 150 O) H,mU 39 O O,aW O O (gF (dF k1) O) fun _ _ H K=>R.mov (eU K 1 O) O H,aW O O (gF (dF k1) O) fun _ _ H K=>R.callG hC (few_ok ws hw0) (Bc (Bp (eU K 41 O) O O) Bn) (FrsR.one (.bool _)) H,aW O O (gF (dF k1) O) fun _ _ H K=>R.un (eU K 42 O) O H,aU fun _ _ H K=>R.pickF (eU K 40 O) (dF k1) (eU K 43 O) O H,mU 44 O O,aW O O (gF (by simpa using k2) O) fun _ _ H K=>R.mov (eU K 2 O) O H,aW O O (gF (by simpa using k2) O) fun _ _ H K=>R.lenE (SC.sl (K 46 _ O)) (lN _) H,aW O O (gF (by simpa using k2) O) fun _ _ H K=>R.gtrN (own.length) (1100) (eU K 47 O) (kI 1100 O) H,aU fun _ _ H K=>R.pickF (eU K 45 O) (by simpa using k2) (eU K 48 O) O H,mU 49 O O,aW O O (gF (dF k3) O) (fU 13 O O),aW O O (gF (dF k3) O) (lU 51 O O O O O O O),aW O O (gF (dF k3) O) fun _ _ H K=>R.lenE (SC.sl (K 52 _ O)) (lN _) H,aW O O (gF (dF k3) O) fun _ _ H K=>R.gtrN (t.ins.length) (150) (eU K 53 O) (kI 150 O) H,aU fun _ _ H K=>R.pickF (eU K 50 O) (dF k3) (eU K 54 O) O H,mU 55 O O,aW O O (gF (dF k4) O) (fU 13 O O),aW O O (gF (dF k4) O) (lU 57 O O O O O O O),aW O O (gF (dF k4) O) fun _ _ H K=>R.lenE (SC.sl (K 58 _ O)) (lN _) H,aW O O (gF (dF k4) O) fun _ _ H K=>R.gtrN (t.outs.length) (150) (eU K 59 O) (kI 150 O) H,aU fun _ _ H K=>R.pickF (eU K 56 O) (dF k4) (eU K 60 O) O H,mU 61 O O,aW O O (gF (dF k5) O) (fU 13 O O),aW O O (gF (dF k5) O) (lU 63 O O O O O O O),aW O O (gF (dF k5) O) (fU 13 O O),aW O O (gF (dF k5) O) (lU 65 O O O O O O O),aW O O (gF (dF k5) O) fun _ _ H K=>R.lenE (SC.sl (K 66 _ O)) (lN _) H,aW O O (gF (dF k5) O) fun _ _ H K=>R.minI (r:=(((min (t.outs.length) (8)) : Nat) : Int)) (eU K 67 O) (kI 8 O) (by omega) H,aW O O (gF (dF k5) O) fun _ _ H K=>R.slIN (0) ((min (t.outs.length) (8))) ((min (t.outs.length) (8))) (eU K 64 O) O (evoI (eU K 68 O)) O O bU bU O (tk_outs _) H,aW O O (gF (dF k5) O) fun _ _ H K=>R.bldSE (l:=[.u32 0,.nils,.nils,.u32 0]) (l':=[_,_,_,_]) (.cons (eU K 69 O) (.nil O)) ⟨⟨_,(eU K 69 O),O,O,O⟩,Zt⟩ H,aW O O (gF (dF k5) O) fun _ _ H K=>R.bslE (z:=4) (.cons (eU K 70 O) .nil) ⟨⟨O,O,O⟩,Zt⟩ O H dU,aW O O (gF (dF k5) O) fun _ _ H K=>R.bldO (l:=[.agg [.u32 0,.arr 32 1 ((List.replicate 32 0).map D.u8),.arr 32 1 ((List.replicate 32 0).map D.u8),.u32 0,.u32 0,.u32 0],.nils]) (l':=[_,_]) (.own (K 71 _ O) O O O O (.nil O)) O H,aW O O (gF (dF k5) O) fun _ _ H K=>R.bslO (z:=69) (.own (K 72 _ O) O O O O .nil) O O H dU,aW O O (gF (dF k5) O) fun _ _ H K=>R.callG hC (few15_ok [[(t.outs.take (min t.outs.length 8))]] (by simp) (few_bd hta)) (Bc (Bor.sc (SC.sl (K 73 _ O)) (by exact brw_blk15 _)) Bn) (FrsR.one (.bool _)) H,aW O O (gF (dF k5) O) fun _ _ H K=>R.un (eU K 74 O) O H,aU fun _ _ H K=>R.pickF (eU K 62 O) (dF k5) (eU K 75 O) O H,Zt⟩ O O O O (tU O ?_)
           refine W.cond O (fun hc76=>?_) (fun hc76=>?_)
           · refine W.seq ?_
             refine W.l0 2 [.y 77 _,.y 14 _] [] [] [(14,_)] [(13,.var _)] 239 ⟨aU fun _ _ H _=>R.callG hC (works_ok) Bn (FrsR.one (.bool _)) H,aU fun _ _ H K=>R.asg (eU K 77 O) O H,Zt⟩ O O O O (tU O ?_)
             refine W.ret ?_
             exact Ends.one' (.inr O) O (O) O O Zt
           · refine W.skip (W.seq (W.seq ?_))
             refine W.l0 1 [.y 15 _] [] [] [(0,_),(1,_),(2,_),(3,_),(4,_),(5,_),(13,_),(15,_)] [(13,.var _)] 239 ⟨aU fun _ _ H _=>R.asg (kI 0 O) O H,Zt⟩ O O O O (tU O ?_)
             refine W.block ?_
             refine W.loop (α:={q__ : Nat // q__ <= t.ins.length /\ ∀ j < q__,t.ins[j]!.script.length <= 200 /\ t.ins[j]!.wit.length = 0}) (fun q__=>⟨239,[(0,.sl none 35 (l.map coD)),(1,.sl none 2 (ws.map wntD)),(2,.sl none 1 (own.map D.u8)),(3,.u64 r),(4,.int ins),(5,.int outs),(13,.ptr 13 0 []),(15,.int ((q__.1 : Nat) : Int))],[(13,.var (.agg [.u32 t.ver,.sl none 36 (t.ins.map inD),.sl none 2 (t.outs.map outD),.u32 t.lock]))]⟩) (fun q__=>t.ins.length - q__.1) ⟨(0),⟨Nat.zero_le _,fun j h=>absurd h (Nat.not_lt_zero _)⟩⟩ O ?_
             rintro ⟨i,⟨hi,hok⟩⟩
             show W _ _ _ _ ⟨239,[(0,.sl none 35 (l.map coD)),(1,.sl none 2 (ws.map wntD)),(2,.sl none 1 (own.map D.u8)),(3,.u64 r),(4,.int ins),(5,.int outs),(13,.ptr 13 0 []),(15,.int ((i : Nat) : Int))],[(13,.var (.agg [.u32 t.ver,.sl none 36 (t.ins.map inD),.sl none 2 (t.outs.map outD),.u32 t.lock]))]⟩
             have hi : i <= t.ins.length:=hi
             have hok : ∀ j < i,t.ins[j]!.script.length <= 200 /\ t.ins[j]!.wit.length = 0:=hok
             refine W.seq (W.seq ?_)
             refine W.l0 5 [.y 78 _,.y 79 _,.y 80 _,.y 81 _,.y 82 _] [] [] [(0,_),(1,_),(2,_),(3,_),(4,_),(5,_),(13,_),(15,_),(82,_)] [(13,.var _)] 239 ⟨mU 15 O O,aU (fU 13 O O),aU (lU 79 O O O O O O O),aU fun _ _ H K=>R.lenE (SC.sl (K 80 _ O)) (lN _) H,aU fun _ _ H K=>R.lssN (i) (t.ins.length) (eU K 78 O) (eU K 81 O) H,Zt⟩ O O O O (tU O ?_)
             refine W.condD O (fun hc82=>?_) (fun hc82=>?_)
             · refine W.skip (W.seq (W.block (W.seq ?_)))
               by_cases q1 : 200 < t.ins[i]!.script.length
               · refine W.l0 18 [.y 85 _,.y 86 _,.y 87 _,.y 88 _,.y 89 _,.y 90 _,.y 91 _,.y 92 _,.y 93 _,.x 94,.x 95,.x 96,.x 97,.x 98,.x 99,.x 100,.x 101,.y 102 _] [] [] [(0,_),(1,_),(2,_),(3,_),(4,_),(5,_),(13,_),(15,_),(102,_)] [(13,.var _)] 239 ⟨aU (fU 13 O O),aU (lU 85 O O O O O O O),mU 15 O O,aU fun _ _ H K=>R.idxN (i) (SC.sl (K 86 _ O)) (evoI (eU K 87 O)) O bU H dU,aU fun _ _ H K=>R.fdE (K 88 _ O) H dU,aU fun _ _ H K=>R.ldE (K 89 _ O) (SC.sl (K 86 _ O)) (map_get! (l:=t.ins) bU) O O O O H,aU fun _ _ H K=>R.lenE (SC.sl (K 90 _ O)) (lN _) H,aU fun _ _ H K=>R.gtrN (t.ins[i]!.script.length) (200) (eU K 91 O) (kI 200 O) H,mU 92 O O,aF O O (gT (dT q1) O),aF O O (gT (dT q1) O),aF O O (gT (dT q1) O),aF O O (gT (dT q1) O),aF O O (gT (dT q1) O),aF O O (gT (dT q1) O),aF O O (gT (dT q1) O),aF O O (gT (dT q1) O),aU fun _ _ H K=>R.pickT (eU K 93 O) (dT q1) (kB true O) O H,Zt⟩ O O O O (tU O ?_)
                 refine W.condT O (O) ?_
                 refine W.seq ?_
                 refine W.l0 2 [.y 103 _,.y 14 _] [] [] [(14,_)] [(13,.var _)] 239 ⟨aU fun _ _ H _=>R.callG hC (works_ok) Bn (FrsR.one (.bool _)) H,aU fun _ _ H K=>R.asg (eU K 103 O) O H,Zt⟩ O O O O (tU O ?_)
                 refine W.ret ?_
                 exact Ends.one' (.inr O) O (O) O O Zt
               · refine W.l0 18 [.y 85 _,.y 86 _,.y 87 _,.y 88 _,.y 89 _,.y 90 _,.y 91 _,.y 92 _,.y 93 _,.y 94 _,.y 95 _,.y 96 _,.y 97 _,.y 98 _,.y 99 _,.y 100 _,.y 101 _,.y 102 _] [] [] [(0,_),(1,_),(2,_),(3,_),(4,_),(5,_),(13,_),(15,_),(102,_)] [(13,.var _)] 239 ⟨aU (fU 13 O O),aU (lU 85 O O O O O O O),mU 15 O O,aU fun _ _ H K=>R.idxN (i) (SC.sl (K 86 _ O)) (evoI (eU K 87 O)) O bU H dU,aU fun _ _ H K=>R.fdE (K 88 _ O) H dU,aU fun _ _ H K=>R.ldE (K 89 _ O) (SC.sl (K 86 _ O)) (map_get! (l:=t.ins) bU) O O O O H,aU fun _ _ H K=>R.lenE (SC.sl (K 90 _ O)) (lN _) H,aU fun _ _ H K=>R.gtrN (t.ins[i]!.script.length) (200) (eU K 91 O) (kI 200 O) H,mU 92 O O,aW O O (gF (dF q1) O) (fU 13 O O),aW O O (gF (dF q1) O) (lU 94 O O O O O O O),aW O O (gF (dF q1) O) fun _ _ H K=>R.mov (eU K 15 O) O H,aW O O (gF (dF q1) O) fun _ _ H K=>R.idxN (i) (SC.sl (K 95 _ O)) (evoI (eU K 96 O)) O bU H dU,aW O O (gF (dF q1) O) fun _ _ H K=>R.fdE (K 97 _ O) H dU,aW O O (gF (dF q1) O) fun _ _ H K=>R.ldE (K 98 _ O) (SC.sl (K 95 _ O)) (map_get! (l:=t.ins) bU) O O O O H,aW O O (gF (dF q1) O) fun _ _ H K=>R.lenE (SC.sl (K 99 _ O)) (lN _) H,aW O O (gF (dF q1) O) fun _ _ H K=>R.gtrN (t.ins[i]!.wit.length) (0) (eU K 100 O) (kI 0 O) H,aU fun _ _ H K=>R.pickF (eU K 93 O) (dF q1) (eU K 101 O) O H,Zt⟩ O O O O (tU O ?_)
                 refine W.condD O (fun hc102=>?_) (fun hc102=>?_)
                 · refine W.seq ?_
                   refine W.l0 2 [.y 103 _,.y 14 _] [] [] [(14,_)] [(13,.var _)] 239 ⟨aU fun _ _ H _=>R.callG hC (works_ok) Bn (FrsR.one (.bool _)) H,aU fun _ _ H K=>R.asg (eU K 103 O) O H,Zt⟩ O O O O (tU O ?_)
                   refine W.ret ?_
                   exact Ends.one' (.inr O) O (O) O O Zt
                 · refine W.skip ?_
                   refine W.l0 3 [.y 83 _,.y 84 _,.y 15 _] [] [] [(0,_),(1,_),(2,_),(3,_),(4,_),(5,_),(13,_),(15,_)] [(13,.var _)] 239 ⟨mU 15 O O,aU fun _ _ H K=>R.addN (i) (1) (eU K 83 O) (kI 1 O) bU H,aU fun _ _ H K=>R.asg (eU K 84 O) O H,Zt⟩ O O O O (tU O ?_)
                   exact ⟨⟨(i + 1),⟨(by show i + 1 <= t.ins.length; omega),ext_i hok ⟨by omega,by omega⟩⟩⟩,rfl,(by simp only []; omega)⟩
             · obtain rfl : i = t.ins.length:=by omega
               refine W.exit (W.seq (W.seq ?_))
               refine W.l0 1 [.y 16 _] [] [] [(0,_),(1,_),(2,_),(3,_),(4,_),(5,_),(13,_),(16,_)] [(13,.var _)] 239 ⟨aU fun _ _ H _=>R.asg (kI 0 O) O H,Zt⟩ O O O O (tU O ?_)
               refine W.block ?_
               refine W.loop (α:={q__ : Nat // q__ <= t.outs.length /\ ∀ j < q__,t.outs[j]!.script.length <= 1000}) (fun q__=>⟨239,[(0,.sl none 35 (l.map coD)),(1,.sl none 2 (ws.map wntD)),(2,.sl none 1 (own.map D.u8)),(3,.u64 r),(4,.int ins),(5,.int outs),(13,.ptr 13 0 []),(16,.int ((q__.1 : Nat) : Int))],[(13,.var (.agg [.u32 t.ver,.sl none 36 (t.ins.map inD),.sl none 2 (t.outs.map outD),.u32 t.lock]))]⟩) (fun q__=>t.outs.length - q__.1) ⟨(0),⟨Nat.zero_le _,fun j h=>absurd h (Nat.not_lt_zero _)⟩⟩ O ?_
               rintro ⟨i,⟨hi,hoo⟩⟩
               show W _ _ _ _ ⟨239,[(0,.sl none 35 (l.map coD)),(1,.sl none 2 (ws.map wntD)),(2,.sl none 1 (own.map D.u8)),(3,.u64 r),(4,.int ins),(5,.int outs),(13,.ptr 13 0 []),(16,.int ((i : Nat) : Int))],[(13,.var (.agg [.u32 t.ver,.sl none 36 (t.ins.map inD),.sl none 2 (t.outs.map outD),.u32 t.lock]))]⟩
               have hi : i <= t.outs.length:=hi
               have hoo : ∀ j < i,t.outs[j]!.script.length <= 1000:=hoo
               refine W.seq (W.seq ?_)
               refine W.l0 5 [.y 104 _,.y 105 _,.y 106 _,.y 107 _,.y 108 _] [] [] [(0,_),(1,_),(2,_),(3,_),(4,_),(5,_),(13,_),(16,_),(108,_)] [(13,.var _)] 239 ⟨mU 16 O O,aU (fU 13 O O),aU (lU 105 O O O O O O O),aU fun _ _ H K=>R.lenE (SC.sl (K 106 _ O)) (lN _) H,aU fun _ _ H K=>R.lssN (i) (t.outs.length) (eU K 104 O) (eU K 107 O) H,Zt⟩ O O O O (tU O ?_)
               refine W.condD O (fun hc108=>?_) (fun hc108=>?_)
               · refine W.skip (W.seq (W.block (W.seq ?_)))
                 refine W.l0 8 [.y 111 _,.y 112 _,.y 113 _,.y 114 _,.y 115 _,.y 116 _,.y 117 _,.y 118 _] [] [] [(0,_),(1,_),(2,_),(3,_),(4,_),(5,_),(13,_),(16,_),(118,_)] [(13,.var _)] 239 ⟨aU (fU 13 O O),aU (lU 111 O O O O O O O),mU 16 O O,aU fun _ _ H K=>R.idxN (i) (SC.sl (K 112 _ O)) (evoI (eU K 113 O)) O bU H dU,aU fun _ _ H K=>R.fdE (K 114 _ O) H dU,aU fun _ _ H K=>R.ldE (K 115 _ O) (SC.sl (K 112 _ O)) (map_get! (l:=t.outs) bU) O O O O H,aU fun _ _ H K=>R.lenE (SC.sl (K 116 _ O)) (lN _) H,aU fun _ _ H K=>R.gtrN (t.outs[i]!.script.length) (1000) (eU K 117 O) (kI 1000 O) H,Zt⟩ O O O O (tU O ?_)
                 refine W.condD O (fun hc118=>?_) (fun hc118=>?_)
                 · refine W.seq ?_
                   refine W.l0 2 [.y 119 _,.y 14 _] [] [] [(14,_)] [(13,.var _)] 239 ⟨aU fun _ _ H _=>R.callG hC (works_ok) Bn (FrsR.one (.bool _)) H,aU fun _ _ H K=>R.asg (eU K 119 O) O H,Zt⟩ O O O O (tU O ?_)
                   refine W.ret ?_
                   exact Ends.one' (.inr O) O (O) O O Zt
                 · refine W.skip ?_
                   refine W.l0 3 [.y 109 _,.y 110 _,.y 16 _] [] [] [(0,_),(1,_),(2,_),(3,_),(4,_),(5,_),(13,_),(16,_)] [(13,.var _)] 239 ⟨mU 16 O O,aU fun _ _ H K=>R.addN (i) (1) (eU K 109 O) (kI 1 O) bU H,aU fun _ _ H K=>R.asg (eU K 110 O) O H,Zt⟩ O O O O (tU O ?_)
                   exact ⟨⟨(i + 1),⟨(by show i + 1 <= t.outs.length; omega),ext_i hoo (by omega)⟩⟩,rfl,(by simp only []; omega)⟩
               · obtain rfl : i = t.outs.length:=by omega
                 refine W.exit (W.seq ?_)
                 have hf:=few_of (Classical.byContradiction k2)
                 have hwf:=play_wf hta (by omega) (by omega) hok hoo
                 refine W.l0 9 [.y 121 _,.y 122 _,.y 123 _,.y 124 _,.y 120 _,.y 125 _,.y 126 _,.y 17 _,.y 18 _] [] [] [(0,_),(1,_),(2,_),(3,_),(4,_),(5,_),(13,_),(17,_),(18,_)] [(13,.var _)] 239 ⟨mU 4 O O,mU 5 O O,mU 3 O O,aU fun _ _ H K=>R.callG hC (fee_ok ins outs r) (Bc (Bp (eU K 121 O) O O) (Bc (Bp (eU K 122 O) O O) (Bc (Bp (eU K 123 O) O O) Bn))) (FrsR.two (.u64 _) (.int _)) H,aU fun _ _ H K=>R.movT (K 124 _ O) O H,aU fun _ _ H K=>R.ext (K 120 _ O) O O H,aU fun _ _ H K=>R.ext (K 120 _ O) O O H,aU fun _ _ H K=>R.asg (eU K 125 O) O H,aU fun _ _ H K=>R.asg (eU K 126 O) O H,Zt⟩ O O O O (tU O ?_)
                 refine W.seq ?_
                 refine W.l0 9 [.y 128 _,.y 129 _,.y 130 _,.y 131 _,.y 127 _,.y 132 _,.y 133 _,.y 19 _,.y 20 _] [] [] [(0,_),(1,_),(2,_),(3,_),(13,_),(17,_),(18,_),(19,_),(20,_)] [(13,.var _)] 239 ⟨mU 4 O O,mU 5 O O,mU 3 O O,aU fun _ _ H K=>R.callG hC (rfee_ok ins outs r) (Bc (Bp (eU K 128 O) O O) (Bc (Bp (eU K 129 O) O O) (Bc (Bp (eU K 130 O) O O) Bn))) (FrsR.two (.u64 _) (.int _)) H,aU fun _ _ H K=>R.movT (K 131 _ O) O H,aU fun _ _ H K=>R.ext (K 127 _ O) O O H,aU fun _ _ H K=>R.ext (K 127 _ O) O O H,aU fun _ _ H K=>R.asg (eU K 132 O) O H,aU fun _ _ H K=>R.asg (eU K 133 O) O H,Zt⟩ O O O O (tU O ?_)
                 refine W.seq ?_
                 refine W.l0 13 [.y 135 _,.y 136 _,.y 137 _,.y 138 _,.y 139 _,.y 140 _,.y 134 _,.y 141 _,.y 142 _,.y 143 _,.y 21 _,.y 22 _,.y 23 _] [(2,135)] [(2,135)] [(0,_),(1,_),(2,_),(3,_),(13,_),(17,_),(18,_),(19,_),(20,_),(21,_),(22,_),(23,_)] [(13,.var _)] 239 ⟨aU fun _ _ H _=>R.bslE .nil Zt O H dU,mU 0 O O,aU fun _ _ H K=>R.frzT (r':=.sl none 35 (l.map coD)) (R.appE (Or.inl O) (K 135 _ O) (SrcO.sc (SC.sl (K 136 _ O)) (pur_map (fun _=>rfl))) (show _ = (l.map coD) from (List.nil_append _)) bU H dU dU) O (brw_co _ l),mU 1 O O,mU 3 O O,aU fun _ _ H K=>R.callPE hC (choose_ok l ws r (by omega) hx (by omega)) (EvP.cons (eU K 137 O) O O (EvP.cons (eU K 138 O) O O (EvP.cons (eU K 139 O) O O EvP.nil))) H,aU fun _ _ H K=>R.movT (K 140 _ O) O H,aU fun _ _ H K=>R.ext (K 134 _ O) O O H,aU fun _ _ H K=>R.ext (K 134 _ O) O O H,aU fun _ _ H K=>R.ext (K 134 _ O) O O H,aU fun _ _ H K=>R.asg (eU K 141 O) O H,aU fun _ _ H K=>R.asg (eU K 142 O) O H,aU fun _ _ H K=>R.asg (eU K 143 O) O H,Zt⟩ O O O O (tU O ?_)
                 refine W.seq ?_
                 refine W.l0 12 [.y 145 _,.y 146 _,.y 147 _,.y 148 _,.y 149 _,.y 144 _,.y 150 _,.y 151 _,.y 152 _,.y 24 _,.y 25 _,.y 26 _] [] [] [(0,_),(1,_),(2,_),(3,_),(13,_),(17,_),(18,_),(19,_),(20,_),(21,_),(22,_),(23,_),(24,_),(25,_),(26,_)] [(13,.var _)] 239 ⟨mU 0 O O,mU 1 O O,aU fun _ _ H K=>R.frzT (r':=.sl none 2 (ws.map wntD)) (R.callPE hC (refs_ok ws (by omega)) (EvP.cons (eU K 146 O) O O EvP.nil) H) O (brw_wn _ ws),mU 3 O O,aU fun _ _ H K=>R.callPE hC (rchoose_ok l ws r (by omega) hx (by omega)) (EvP.cons (eU K 145 O) O O (EvP.cons (eU K 147 O) O O (EvP.cons (eU K 148 O) O O EvP.nil))) H,aU fun _ _ H K=>R.movT (K 149 _ O) O H,aU fun _ _ H K=>R.ext (K 144 _ O) O O H,aU fun _ _ H K=>R.ext (K 144 _ O) O O H,aU fun _ _ H K=>R.ext (K 144 _ O) O O H,aU fun _ _ H K=>R.asg (eU K 150 O) O H,aU fun _ _ H K=>R.asg (eU K 151 O) O H,aU fun _ _ H K=>R.asg (eU K 152 O) O H,Zt⟩ O O O O (tU O ?_)
                 refine W.seq (W.seq ?_)
                 refine W.l0 24 [.y 153 _,.y 154 _,.y 155 _,.y 156 _,.y 157 _,.y 158 _,.y 159 _,.y 160 _,.y 161 _,.y 162 _,.y 163 _,.y 164 _,.y 165 _,.y 166 _,.y 167 _,.y 168 _,.y 169 _,.y 170 _,.y 171 _,.y 172 _,.y 173 _,.y 174 _,.y 175 _,.y 176 _] [] [] [(0,_),(1,_),(2,_),(3,_),(13,_),(176,_)] [(13,.var _)] 239 ⟨mU 17 O O,mU 19 O O,aU fun _ _ H K=>R.bin (eU K 153 O) (eU K 154 O) O Zt H,mU 155 O O,aW O O (gF (by simp) O) fun _ _ H K=>R.mov (eU K 18 O) O H,aW O O (gF (by simp) O) fun _ _ H K=>R.mov (eU K 20 O) O H,aW O O (gF (by simp) O) fun _ _ H K=>R.bin (eU K 157 O) (eU K 158 O) O Zt H,aU fun _ _ H K=>R.pickF (eU K 156 O) (by simp) (eU K 159 O) O H,mU 160 O O,aW O O (gF (by simp) O) fun _ _ H K=>R.mov (eU K 21 O) O H,aW O O (gF (by simp) O) fun _ _ H K=>R.mov (eU K 24 O) O H,aW O O (gF (by simp) O) fun _ _ H K=>R.callG hC (same31_ok (chC l ws r) (chC l ws r) (by have:=chC_len l ws r; omega) (by have:=chC_len l ws r; omega)) (Bc (Bp (eU K 162 O) O O) (Bc (Bp (eU K 163 O) O O) Bn)) (FrsR.one (.bool _)) H,aW O O (gF (by simp) O) fun _ _ H K=>R.un (eU K 164 O) O H,aU fun _ _ H K=>R.pickF (eU K 161 O) (by simp) (eU K 165 O) O H,mU 166 O O,aW O O (gF (by simp) O) fun _ _ H K=>R.mov (eU K 22 O) O H,aW O O (gF (by simp) O) fun _ _ H K=>R.mov (eU K 25 O) O H,aW O O (gF (by simp) O) fun _ _ H K=>R.bin (eU K 168 O) (eU K 169 O) O Zt H,aU fun _ _ H K=>R.pickF (eU K 167 O) (by simp) (eU K 170 O) O H,mU 171 O O,aW O O (gF (by simp) O) fun _ _ H K=>R.mov (eU K 23 O) O H,aW O O (gF (by simp) O) fun _ _ H K=>R.mov (eU K 26 O) O H,aW O O (gF (by simp) O) fun _ _ H K=>R.bin (eU K 173 O) (eU K 174 O) O Zt H,aU fun _ _ H K=>R.pickF (eU K 172 O) (by simp) (eU K 175 O) O H,Zt⟩ O O O O (tU O ?_)
                 refine W.condF O (by simp) ?_
                 refine W.skip (W.seq ?_)
                 refine W.l0 13 [.y 178 _,.y 179 _,.y 180 _,.y 181 _,.y 182 _,.y 183 _,.y 184 _,.y 177 _,.y 185 _,.y 186 _] [(2,178)] [(2,178)] [(0,_),(1,_),(2,_),(3,_),(13,_),(185,_),(186,_)] [(13,.var _)] 239 ⟨aU fun _ _ H _=>R.bslE .nil Zt O H dU,mU 0 O O,aU fun _ _ H K=>R.frzT (r':=.sl none 35 (l.map coD)) (R.appE (Or.inl O) (K 178 _ O) (SrcO.sc (SC.sl (K 179 _ O)) (pur_map (fun _=>rfl))) (show _ = (l.map coD) from (List.nil_append _)) bU H dU dU) O (brw_co _ l),mU 1 O O,mU 2 O O,mU 3 O O,aU fun _ _ H K=>R.callPE hC (make_ok l ws r (by omega) hx (by omega) own (by omega)) (EvP.cons (eU K 180 O) O O (EvP.cons (eU K 181 O) O O (EvP.cons (eU K 182 O) O O (EvP.cons (eU K 183 O) O O EvP.nil)))) H,aU fun _ _ H K=>R.movT (K 184 _ O) O H,aU fun _ _ H K=>R.ext (K 177 _ O) O O H,aU fun _ _ H K=>R.ext (K 177 _ O) O O H,Zt⟩ O O O O (⟨O,_,R.alloc O (nU O),⟨O,_,R.stZ (gU 27 O) (xU 27 O) O (gV 185 O) (by rfl) (by rfl) (by rfl) (by rfl) O,⟨O,_,R.asg (gV 186 O) O (nU O),tV [(0,_),(1,_),(2,_),(3,_),(13,_),(27,_),(28,_)] [(27,.var _),(13,.var _)] 239 O O O ?_⟩⟩⟩)
                 refine W.seq ?_
                 refine W.l0 12 [.y 188 _,.y 189 _,.y 190 _,.y 191 _,.y 192 _,.y 193 _,.y 187 _,.y 194 _,.y 195 _] [] [] [(0,_),(13,_),(27,_),(28,_),(194,_),(195,_)] [(27,.var _),(13,.var _)] 239 ⟨mU 0 O O,mU 1 O O,aU fun _ _ H K=>R.frzT (r':=.sl none 2 (ws.map wntD)) (R.callPE hC (refs_ok ws (by omega)) (EvP.cons (eU K 189 O) O O EvP.nil) H) O (brw_wn _ ws),mU 2 O O,mU 3 O O,aU fun _ _ H K=>R.callPE hC (rmake_ok l ws r (by omega) hx (by omega) own (by omega)) (EvP.cons (eU K 188 O) O O (EvP.cons (eU K 190 O) O O (EvP.cons (eU K 191 O) O O (EvP.cons (eU K 192 O) O O EvP.nil)))) H,aU fun _ _ H K=>R.movT (K 193 _ O) O H,aU fun _ _ H K=>R.ext (K 187 _ O) O O H,aU fun _ _ H K=>R.ext (K 187 _ O) O O H,Zt⟩ O O O O (⟨O,_,R.alloc O (nU O),⟨O,_,R.stZ (gU 29 O) (xU 29 O) O (gV 194 O) (by rfl) (by rfl) (by rfl) (by rfl) O,⟨O,_,R.asg (gV 195 O) O (nU O),tV [(0,_),(13,_),(27,_),(28,_),(29,_),(30,_)] [(29,.var _),(27,.var _),(13,.var _)] 239 O O O ?_⟩⟩⟩)
                 refine W.seq (W.seq ?_)
                 refine W.l0 9 [.y 196 _,.y 197 _,.y 198 _,.y 199 _,.y 200 _,.y 201 _,.y 202 _,.y 203 _,.y 204 _] [] [] [(0,_),(13,_),(29,_),(204,_)] [(29,.var _),(27,.var _),(13,.var _)] 239 ⟨mU 28 O O,mU 30 O O,aU fun _ _ H K=>R.bin (eU K 196 O) (eU K 197 O) O Zt H,mU 198 O O,aW O O (gF (by simp) O) (lU 27 O O O O O O O),aW O O (gF (by simp) O) (lU 29 O O O O O O O),aW O O (gF (by simp) O) fun _ _ H K=>R.callG hC (rsame_ok (mkT l ws own r) (mkT l ws own r) (mkT_wf (by omega) hx) (mkT_wf (by omega) hx)) (Bc (Bp (eU K 200 O) O O) (Bc (Bp (eU K 201 O) O O) Bn)) (FrsR.one (.bool _)) H,aW O O (gF (by simp) O) fun _ _ H K=>R.un (eU K 202 O) O H,aU fun _ _ H K=>R.pickF (eU K 199 O) (by simp) (eU K 203 O) O H,Zt⟩ O O O O (tU O ?_)
                 refine W.condF O (by rw [same_refl]; rfl) ?_
                 refine W.skip (W.seq ?_)
                 refine W.l0 4 [.y 205 _,.y 206 _,.y 207 _,.y 31 _] [(3,207)] [(3,207)] [(0,_),(31,_)] [(29,.var _),(27,.var _),(13,.var _)] 239 ⟨aU (lU 13 O O O O O O O),aU (lU 29 O O O O O O O),aU fun _ _ H K=>R.bslE (z:=4) (.cons (eU K 205 O) (.cons (eU K 206 O) .nil)) ⟨⟨O,O,O⟩,⟨O,O,O⟩,Zt⟩ O H dU,aU fun _ _ H K=>R.asgO (K 207 _ O) O H dU,Zt⟩ O O O O (tU O ?_)
                 refine W.seq (W.seq ?_)
                 refine W.l0 1 [.y 32 _] [] [] [(0,_),(31,_),(32,_)] [(29,.var _),(27,.var _),(13,.var _)] 239 ⟨aU fun _ _ H _=>R.asg (kI 0 O) O H,Zt⟩ O O O O (tU O ?_)
                 refine W.block ?_
                 refine W.loop (α:={q__ : Nat // q__ <= 2}) (fun q__=>⟨239,[(0,.sl none 35 (l.map coD)),(31,.sl (some 30) 4 ([t,(mkT l ws own r)].map txD)),(32,.int ((q__.1 : Nat) : Int))],[(29,.var (txD (mkT l ws own r))),(27,.var (txD (mkT l ws own r))),(13,.var (.agg [.u32 t.ver,.sl none 36 (t.ins.map inD),.sl none 2 (t.outs.map outD),.u32 t.lock]))]⟩) (fun q__=>2 - q__.1) ⟨(0),bU⟩ O ?_
                 rintro ⟨k,hk⟩
                 show W _ _ _ _ ⟨239,[(0,.sl none 35 (l.map coD)),(31,.sl (some 30) 4 ([t,(mkT l ws own r)].map txD)),(32,.int ((k : Nat) : Int))],[(29,.var (txD (mkT l ws own r))),(27,.var (txD (mkT l ws own r))),(13,.var (.agg [.u32 t.ver,.sl none 36 (t.ins.map inD),.sl none 2 (t.outs.map outD),.u32 t.lock]))]⟩
                 have hk : k <= 2:=hk
                 refine W.seq (W.seq ?_)
                 refine W.l0 2 [.y 208 _,.y 209 _] [] [] [(0,_),(31,_),(32,_),(209,_)] [(29,.var _),(27,.var _),(13,.var _)] 239 ⟨mU 32 O O,aU fun _ _ H K=>R.lssN (k) (2) (eU K 208 O) (kI 2 O) H,Zt⟩ O O O O (tU O ?_)
                 refine W.condD O (fun hc209=>?_) (fun hc209=>?_)
                 · refine W.skip (W.seq (W.block (W.seq ?_)))
                   have hkw:=two_wf hwf (mkT_wf (ws:=ws) (own:=own) (r:=r) (l:=l) (by omega) hx) (k:=k) (by omega)
                   refine W.l0 11 [.y 213 _,.y 214 _,.y 215 _,.y 216 _,.y 217 _,.y 218 _,.y 212 _,.y 219 _,.y 220 _,.y 33 _,.y 34 _] [] [] [(0,_),(31,_),(32,_),(33,_),(34,_)] [(29,.var _),(27,.var _),(13,.var _)] 239 ⟨mU 0 O O,aU fun _ _ H K=>R.al (K 31 _ O) H dU,mU 32 O O,aU fun _ _ H K=>R.idxN (k) (SC.al (K 214 _ O) (K 31 _ O)) (evoI (eU K 215 O)) O bU H dU,aU fun _ _ H K=>R.ldE (K 216 _ O) (SC.al (K 214 _ O) (K 31 _ O)) (map_get! (l:=[t,(mkT l ws own r)]) bU) O O O O H,aU fun _ _ H K=>R.callG hC (check_ok l [t,(mkT l ws own r)][k]! (by omega) hx hkw) (Bc (Bp (eU K 213 O) O O) (Bc (Bp (eU K 217 O) O O) Bn)) (FrsR.two (.u64 _) (.int _)) H,aU fun _ _ H K=>R.movT (K 218 _ O) O H,aU fun _ _ H K=>R.ext (K 212 _ O) O O H,aU fun _ _ H K=>R.ext (K 212 _ O) O O H,aU fun _ _ H K=>R.asg (eU K 219 O) O H,aU fun _ _ H K=>R.asg (eU K 220 O) O H,Zt⟩ O O O O (tU O ?_)
                   refine W.seq ?_
                   refine W.l0 11 [.y 222 _,.y 223 _,.y 224 _,.y 225 _,.y 226 _,.y 227 _,.y 221 _,.y 228 _,.y 229 _,.y 35 _,.y 36 _] [] [] [(0,_),(31,_),(32,_),(33,_),(34,_),(35,_),(36,_)] [(29,.var _),(27,.var _),(13,.var _)] 239 ⟨mU 0 O O,aU fun _ _ H K=>R.al (K 31 _ O) H dU,mU 32 O O,aU fun _ _ H K=>R.idxN (k) (SC.al (K 223 _ O) (K 31 _ O)) (evoI (eU K 224 O)) O bU H dU,aU fun _ _ H K=>R.ldE (K 225 _ O) (SC.al (K 223 _ O) (K 31 _ O)) (map_get! (l:=[t,(mkT l ws own r)]) bU) O O O O H,aU fun _ _ H K=>R.callG hC (rcheck_ok l [t,(mkT l ws own r)][k]! (by omega) hx hkw) (Bc (Bp (eU K 222 O) O O) (Bc (Bp (eU K 226 O) O O) Bn)) (FrsR.two (.u64 _) (.int _)) H,aU fun _ _ H K=>R.movT (K 227 _ O) O H,aU fun _ _ H K=>R.ext (K 221 _ O) O O H,aU fun _ _ H K=>R.ext (K 221 _ O) O O H,aU fun _ _ H K=>R.asg (eU K 228 O) O H,aU fun _ _ H K=>R.asg (eU K 229 O) O H,Zt⟩ O O O O (tU O ?_)
                   refine W.seq ?_
                   refine W.l0 8 [.y 230 _,.y 231 _,.y 232 _,.y 233 _,.y 234 _,.y 235 _,.y 236 _,.y 237 _] [] [] [(0,_),(31,_),(32,_),(237,_)] [(29,.var _),(27,.var _),(13,.var _)] 239 ⟨mU 33 O O,mU 35 O O,aU fun _ _ H K=>R.bin (eU K 230 O) (eU K 231 O) O Zt H,mU 232 O O,aW O O (gF (by simp) O) fun _ _ H K=>R.mov (eU K 34 O) O H,aW O O (gF (by simp) O) fun _ _ H K=>R.mov (eU K 36 O) O H,aW O O (gF (by simp) O) fun _ _ H K=>R.bin (eU K 234 O) (eU K 235 O) O Zt H,aU fun _ _ H K=>R.pickF (eU K 233 O) (by simp) (eU K 236 O) O H,Zt⟩ O O O O (tU O ?_)
                   refine W.condF O (by simp) ?_
                   refine W.skip ?_
                   refine W.l0 3 [.y 210 _,.y 211 _,.y 32 _] [] [] [(0,_),(31,_),(32,_)] [(29,.var _),(27,.var _),(13,.var _)] 239 ⟨mU 32 O O,aU fun _ _ H K=>R.addN (k) (1) (eU K 210 O) (kI 1 O) bU H,aU fun _ _ H K=>R.asg (eU K 211 O) O H,Zt⟩ O O O O (tU O ?_)
                   exact ⟨⟨(k + 1),bU⟩,rfl,(by simp only []; omega)⟩
                 · obtain rfl : k = 2:=by omega
                   refine W.exit (W.seq ?_)
                   refine W.l0 2 [.y 238 _,.y 14 _] [] [] [(14,_)] [(29,.var _),(27,.var _),(13,.var _)] 239 ⟨aU fun _ _ H _=>R.callG hC (works_ok) Bn (FrsR.one (.bool _)) H,aU fun _ _ H K=>R.asg (eU K 238 O) O H,Zt⟩ O O O O (tU O ?_)
                   refine W.ret ?_
                   exact Ends.one' (.inr O) O (O) O O Zt
end Go.Sx
