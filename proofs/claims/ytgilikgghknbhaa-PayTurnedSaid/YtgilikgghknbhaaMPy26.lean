/-
 Own library: arguments that a statement's form reads as data,as D; a contract from what a function computes.
-/
import Derived.Test.YtgilikgghknbhaaMSxDrawE
import Derived.Test.YtgilikgghknbhaaMPyMid7
import Derived.Test.YtgilikgghknbhaaMSxApp
import Derived.OpenShut
import Derived.Carry
import Derived.Deep.Slices
import Derived.Deep.DeepHandedRow
import Derived.Lib.LaidTab
set_option linter.unusedVariables false
set_option linter.unusedSimpArgs false
set_option linter.unnecessarySimpa false

namespace Go.Sx
open Go.Proofs
theorem check_ok (l : List Un) (t : TxS) (hl : l.length <= 4096) (hx : hs32 l) (hwf : t.wf) : Fn Try.prog gl 18 [.sl none 35 (l.map coD),txD t] (.tup [.u64 (ckV l t),.int (ckE l t)]):=by
 refine Fn.of (n:=63) Try.func18 rfl rfl rfl (nU rfl) fun C hC hD=>?_
 have h1:=hwf.ins
 have h2:=hwf.outs
 refine W.seq ?_
 refine W.l0 3 [] [] [] [(0,_),(1,_)] [] 63 Zt O O O O (⟨O,_,R.box (gV 1 O) O O (nU O),⟨O,_,R.asg (show ev _ _ (.const (.int .u64 0)) = some (.u64 0) from O) O (nU O),⟨O,_,R.asg (kI 0 O) O (nU O),tV [(0,_),(3,_),(4,_)] [(3,.var _)] 63 O O O ?_⟩⟩⟩)
 refine W.seq ?_
 by_cases hp : purP l
 · refine W.l0 7 [.y 15 _] [] [] [(3,_),(4,_),(15,_)] [(3,.var _)] 63 ⟨mU 0 O O,Zt⟩ O O O O (⟨O,_,R.callB [(12,16)] hC (purse_t l hl hp) (EvB.cons (gV 15 O) O O O EvB.nil) O Zt Zt O (renPu _ _ _ _) O O O O (nU O),⟨O,_,R.movT (gU 16 O) O (nU O),⟨O,_,R.ext (gU 14 O) O O (nU O),⟨O,_,R.ext (gU 14 O) O O (nU O),⟨O,_,R.asg (gV 17 O) O (nU O),⟨O,_,R.asg (gV 18 O) O (nU O),tV [(3,_),(4,_),(6,_),(7,_)] [(16,mpK placeK D.u64 _),(3,.var _)] 63 O O O ?_⟩⟩⟩⟩⟩⟩)
   refine W.seq (W.seq ?_)
   refine W.l0 7 [.y 19 _,.y 20 _,.y 21 _,.y 22 _,.y 23 _,.y 24 _,.y 25 _] [] [] [(3,_),(4,_),(6,_),(25,_)] [(16,mpK placeK D.u64 _),(3,.var _)] 63 ⟨mU 7 O O,aU fun _ _ H K=>R.un (eU K 19 O) O H,mU 20 O O,aW O O (gF (O) O) (lU 3 O O O O O O O),aW O O (gF (O) O) fun _ _ H K=>R.callG hC (may_ok t hwf) (Bc (Bp (eU K 22 O) O O) Bn) (FrsR.one (.bool _)) H,aW O O (gF (O) O) fun _ _ H K=>R.un (eU K 23 O) O H,aU fun _ _ H K=>R.pickF (eU K 21 O) (O) (eU K 24 O) O H,Zt⟩ O O O O (tU O ?_)
   refine W.cond O (fun hc25=>?_) (fun hc25=>?_)
   · refine W.seq ?_
     refine W.l0 2 [.y 4 _,.y 5 _] [] [] [(4,_),(5,_)] [(16,mpK placeK D.u64 _),(3,.var _)] 63 ⟨aU fun _ _ H _=>R.asg (show ev _ _ (.const (.int .u64 0)) = some (.u64 0) from O) O H,aU fun _ _ H _=>R.asg (kI 1 O) O H,Zt⟩ O O O O (tU O ?_)
     refine W.ret ?_
     exact Ends.many (.inr O) (.cons O O O Zt (.cons O O O Zt .nil)) (ck_1 (fun h=>by rw [h.2] at hc25; cases hc25)) (show [(4,true),(5,true)].Nodup by decide)
   · refine W.skip (W.seq (W.seq ?_))
     refine W.l0 4 [.y 26 _,.y 27 _,.y 28 _,.y 29 _] [] [] [(3,_),(4,_),(6,_),(27,_),(28,_),(29,_)] [(16,mpK placeK D.u64 _),(3,.var _)] 63 ⟨aU (fU 3 O O),aU (lU 26 O O O O O O O),aU fun _ _ H K=>R.lenE (SC.sl (K 27 _ O)) (lN _) H,aU fun _ _ H _=>R.mov (kI 0 O) O H,Zt⟩ O O O O (tU O ?_)
     refine W.block ?_
     refine W.loop (α:={q__ : Nat // q__ <= t.ins.length /\ ∀ j < q__,ckI l t j}) (fun q__=>⟨63,[(3,.ptr 3 0 []),(4,.u64 (inI l t q__.1)),(6,.map 16),(27,.sl none 36 (t.ins.map inD)),(28,.int ((t.ins.length : Nat) : Int)),(29,.int ((q__.1 : Nat) : Int))],[(16,mpK placeK D.u64 (purI l l.length)),(3,.var (.agg [.u32 t.ver,.sl none 36 (t.ins.map inD),.sl none 2 (t.outs.map outD),.u32 t.lock]))]⟩) (fun q__=>t.ins.length - q__.1) ⟨(0),⟨Nat.zero_le _,fun j h=>absurd h (Nat.not_lt_zero _)⟩⟩ O ?_
     rintro ⟨i,⟨hi,hok⟩⟩
     show W _ _ _ _ ⟨63,[(3,.ptr 3 0 []),(4,.u64 (inI l t i)),(6,.map 16),(27,.sl none 36 (t.ins.map inD)),(28,.int ((t.ins.length : Nat) : Int)),(29,.int ((i : Nat) : Int))],[(16,mpK placeK D.u64 (purI l l.length)),(3,.var (.agg [.u32 t.ver,.sl none 36 (t.ins.map inD),.sl none 2 (t.outs.map outD),.u32 t.lock]))]⟩
     have hi : i <= t.ins.length:=hi
     have hok : ∀ j < i,ckI l t j:=hok
     refine W.seq ?_
     refine W.l0 1 [.y 30 _] [] [] [(3,_),(4,_),(6,_),(27,_),(28,_),(29,_),(30,_)] [(16,mpK placeK D.u64 _),(3,.var _)] 63 ⟨aU fun _ _ H K=>R.lssN (i) (t.ins.length) (eU K 29 O) (eU K 28 O) H,Zt⟩ O O O O (tU O ?_)
     refine W.seq ?_
     refine W.condD O (fun hc30=>?_) (fun hc30=>?_)
     · refine W.skip (W.seq (W.block (W.seq ?_)))
       refine W.l0 4 [.y 31 _,.y 32 _] [] [] [(3,_),(4,_),(6,_),(27,_),(28,_),(29,_),(32,_)] [(16,mpK placeK D.u64 _),(3,.var _)] 63 ⟨aU fun _ _ H K=>R.idxN (i) (SC.sl (K 27 _ O)) (evoI (eU K 29 O)) O bU H dU,aU fun _ _ H K=>R.ldE (K 31 _ O) (SC.sl (K 27 _ O)) (map_get! (l:=t.ins) bU) O O O O H,Zt⟩ O O O O (⟨O,_,R.alloc O (nU O),⟨O,_,R.stZ (gU 9 O) (xU 9 O) O (gV 32 O) (by rfl) (by rfl) (by rfl) (by rfl) O,tV [(3,_),(4,_),(6,_),(9,_),(27,_),(28,_),(29,_)] [(9,.var _),(16,mpK placeK D.u64 _),(3,.var _)] 63 O O O ?_⟩⟩)
       refine W.seq ?_
       refine W.l0 9 [.y 34 _,.y 35 _,.y 36 _,.y 37 _,.y 33 _,.y 38 _,.y 39 _,.y 10 _,.y 11 _] [] [] [(3,_),(4,_),(6,_),(10,_),(11,_),(27,_),(28,_),(29,_)] [(9,.var _),(16,mpK placeK D.u64 _),(3,.var _)] 63 ⟨mU 6 O O,aU (fU 9 O O),aU (lU 35 O O O O O O O),aU fun _ B H K=>R.lookK (k:=plc t.ins[i]!) (z:=0) place_key (K 34 _ O) (B 16 _ O) (eU K 36 O) O O (fun _=>rfl) H,aU fun _ _ H K=>R.movT (K 37 _ O) O H,aU fun _ _ H K=>R.ext (K 33 _ O) O O H,aU fun _ _ H K=>R.ext (K 33 _ O) O O H,aU fun _ _ H K=>R.asg (eU K 38 O) O H,aU fun _ _ H K=>R.asg (eU K 39 O) O H,Zt⟩ O O O O (tU O ?_)
       refine W.seq (W.seq ?_)
       refine W.dropBP [3,16] (bx':=[(16,mpK placeK D.u64 _),(3,.var _)]) O O ⟨okMpK (fun _=>rfl) (fun _=>rfl),⟨O,Zt⟩⟩ (pin_sub hD O) ?_
       refine W.l0 2 [.y 40 _,.y 41 _] [] [] [(3,_),(4,_),(6,_),(10,_),(27,_),(28,_),(29,_),(41,_)] [(16,mpK placeK D.u64 _),(3,.var _)] 63 ⟨mU 11 O O,aU fun _ _ H K=>R.un (eU K 40 O) O H,Zt⟩ O O O O (tU O ?_)
       refine W.cond O (fun hc41=>?_) (fun hc41=>?_)
       · refine W.seq ?_
         refine W.l0 2 [.y 4 _,.y 5 _] [] [] [(4,_),(5,_)] [(16,mpK placeK D.u64 _),(3,.var _)] 63 ⟨aU fun _ _ H _=>R.asg (show ev _ _ (.const (.int .u64 0)) = some (.u64 0) from O) O H,aU fun _ _ H _=>R.asg (kI 14 O) O H,Zt⟩ O O O O (tU O ?_)
         refine W.ret ?_
         exact Ends.many (.inr O) (.cons O O O Zt (.cons O O O Zt .nil)) (ck_2 ⟨hp,by simpa using hc25⟩ hc30 (by simpa using hc41)) (show [(4,true),(5,true)].Nodup by decide)
       · refine W.skip ?_
         refine W.l0 4 [.y 42 _,.y 43 _,.y 44 _,.y 4 _] [] [] [(3,_),(4,_),(6,_),(27,_),(28,_),(29,_)] [(16,mpK placeK D.u64 _),(3,.var _)] 63 ⟨mU 4 O O,mU 10 O O,aU fun _ _ H K=>R.bin (eU K 42 O) (eU K 43 O) O Zt H,aU fun _ _ H K=>R.asg (eU K 44 O) O H,Zt⟩ O O O O (tU O ?_)
         refine W.l0 2 [.y 45 _,.y 29 _] [] [] [(3,_),(4,_),(6,_),(27,_),(28,_),(29,_)] [(16,mpK placeK D.u64 _),(3,.var _)] 63 ⟨aU fun _ _ H K=>R.addN (i) (1) (eU K 29 O) (kI 1 O) bU H,mU 45 O O,Zt⟩ O O O O (tU O ?_)
         exact ⟨⟨(i + 1),⟨(by show i + 1 <= t.ins.length; omega),ext_i hok (show kHas _ _ = true by simpa using hc41)⟩⟩,rfl,(by simp only []; omega)⟩
     · obtain rfl : i = t.ins.length:=by omega
       refine W.exit (W.seq (W.seq ?_))
       refine W.l0 4 [.y 46 _,.y 47 _,.y 48 _,.y 49 _] [] [] [(4,_),(47,_),(48,_),(49,_)] [(16,mpK placeK D.u64 _),(3,.var _)] 63 ⟨aU (fU 3 O O),aU (lU 46 O O O O O O O),aU fun _ _ H K=>R.lenE (SC.sl (K 47 _ O)) (lN _) H,aU fun _ _ H _=>R.mov (kI 0 O) O H,Zt⟩ O O O O (tU O ?_)
       refine W.block ?_
       refine W.loop (α:={q__ : Nat // q__ <= t.outs.length /\ ∀ k < q__,¬ lftO l t k < t.outs[k]!.value}) (fun q__=>⟨63,[(4,.u64 (lftO l t q__.1)),(47,.sl none 2 (t.outs.map outD)),(48,.int ((t.outs.length : Nat) : Int)),(49,.int ((q__.1 : Nat) : Int))],[(16,mpK placeK D.u64 (purI l l.length)),(3,.var (.agg [.u32 t.ver,.sl none 36 (t.ins.map inD),.sl none 2 (t.outs.map outD),.u32 t.lock]))]⟩) (fun q__=>t.outs.length - q__.1) ⟨(0),⟨Nat.zero_le _,fun j h=>absurd h (Nat.not_lt_zero _)⟩⟩ O ?_
       rintro ⟨j,⟨hj,hoo⟩⟩
       show W _ _ _ _ ⟨63,[(4,.u64 (lftO l t j)),(47,.sl none 2 (t.outs.map outD)),(48,.int ((t.outs.length : Nat) : Int)),(49,.int ((j : Nat) : Int))],[(16,mpK placeK D.u64 (purI l l.length)),(3,.var (.agg [.u32 t.ver,.sl none 36 (t.ins.map inD),.sl none 2 (t.outs.map outD),.u32 t.lock]))]⟩
       have hj : j <= t.outs.length:=hj
       have hoo : ∀ k < j,¬ lftO l t k < t.outs[k]!.value:=hoo
       refine W.seq ?_
       refine W.l0 1 [.y 50 _] [] [] [(4,_),(47,_),(48,_),(49,_),(50,_)] [(16,mpK placeK D.u64 _),(3,.var _)] 63 ⟨aU fun _ _ H K=>R.lssN (j) (t.outs.length) (eU K 49 O) (eU K 48 O) H,Zt⟩ O O O O (tU O ?_)
       refine W.seq ?_
       refine W.condD O (fun hc50=>?_) (fun hc50=>?_)
       · refine W.skip (W.seq (W.block (W.seq ?_)))
         refine W.l0 4 [.y 51 _,.y 52 _] [] [] [(4,_),(47,_),(48,_),(49,_),(52,_)] [(16,mpK placeK D.u64 _),(3,.var _)] 63 ⟨aU fun _ _ H K=>R.idxN (j) (SC.sl (K 47 _ O)) (evoI (eU K 49 O)) O bU H dU,aU fun _ _ H K=>R.ldE (K 51 _ O) (SC.sl (K 47 _ O)) (map_get! (l:=t.outs) bU) O O O O H,Zt⟩ O O O O (⟨O,_,R.alloc O (nU O),⟨O,_,R.stZ (gU 13 O) (xU 13 O) O (gV 52 O) (by rfl) (by rfl) (by rfl) (by rfl) O,tV [(4,_),(13,_),(47,_),(48,_),(49,_)] [(13,.var _),(16,mpK placeK D.u64 _),(3,.var _)] 63 O O O ?_⟩⟩)
         refine W.seq (W.seq ?_)
         refine W.l0 4 [.y 53 _,.y 54 _,.y 55 _,.y 56 _] [] [] [(4,_),(13,_),(47,_),(48,_),(49,_),(56,_)] [(13,.var _),(16,mpK placeK D.u64 _),(3,.var _)] 63 ⟨aU (fU 13 O O),aU (lU 53 O O O O O O O),mU 4 O O,aU fun _ _ H K=>R.bin (eU K 54 O) (eU K 55 O) O Zt H,Zt⟩ O O O O (tU O ?_)
         refine W.cond O (fun hc56=>?_) (fun hc56=>?_)
         · refine W.seq ?_
           refine W.dropS (live:=[]) (env':=[]) (bx':=[(13,.var _),(16,mpK placeK D.u64 _),(3,.var _)]) (n':=63) O O O ?_
           refine W.dropBP [3,16] (bx':=[(16,mpK placeK D.u64 _),(3,.var _)]) O O ⟨okMpK (fun _=>rfl) (fun _=>rfl),⟨O,Zt⟩⟩ (pin_sub hD O) ?_
           refine W.l0 2 [.y 4 _,.y 5 _] [] [] [(4,_),(5,_)] [(16,mpK placeK D.u64 _),(3,.var _)] 63 ⟨aU fun _ _ H _=>R.asg (show ev _ _ (.const (.int .u64 0)) = some (.u64 0) from O) O H,aU fun _ _ H _=>R.asg (kI 14 O) O H,Zt⟩ O O O O (tU O ?_)
           refine W.ret ?_
           exact Ends.many (.inr O) (.cons O O O Zt (.cons O O O Zt .nil)) (ck_3 ⟨hp,by simpa using hc25⟩ hc50 (of_decide_eq_true hc56)) (show [(4,true),(5,true)].Nodup by decide)
         · refine W.skip ?_
           refine W.l0 5 [.y 57 _,.y 58 _,.y 59 _,.y 60 _,.y 4 _] [] [] [(4,_),(47,_),(48,_),(49,_)] [(13,.var _),(16,mpK placeK D.u64 _),(3,.var _)] 63 ⟨mU 4 O O,aU (fU 13 O O),aU (lU 58 O O O O O O O),aU fun _ _ H K=>R.bin (eU K 57 O) (eU K 59 O) O Zt H,aU fun _ _ H K=>R.asg (eU K 60 O) O H,Zt⟩ O O O O (tU O ?_)
           refine W.dropBP [3,16] (bx':=[(16,mpK placeK D.u64 _),(3,.var _)]) O O ⟨okMpK (fun _=>rfl) (fun _=>rfl),⟨O,Zt⟩⟩ (pin_sub hD O) ?_
           refine W.l0 2 [.y 61 _,.y 49 _] [] [] [(4,_),(47,_),(48,_),(49,_)] [(16,mpK placeK D.u64 _),(3,.var _)] 63 ⟨aU fun _ _ H K=>R.addN (j) (1) (eU K 49 O) (kI 1 O) bU H,mU 61 O O,Zt⟩ O O O O (tU O ?_)
           exact ⟨⟨(j + 1),⟨(by show j + 1 <= t.outs.length; omega),ext_i hoo (of_decide_eq_false hc56)⟩⟩,rfl,(by simp only []; omega)⟩
       · obtain rfl : j = t.outs.length:=by omega
         refine W.exit (W.seq ?_)
         refine W.l0 3 [.y 62 _,.y 4 _,.y 5 _] [] [] [(4,_),(5,_)] [(16,mpK placeK D.u64 _),(3,.var _)] 63 ⟨mU 4 O O,aU fun _ _ H K=>R.asg (eU K 62 O) O H,aU fun _ _ H _=>R.asg (kI 0 O) O H,Zt⟩ O O O O (tU O ?_)
         refine W.ret ?_
         exact Ends.many (.inr O) (.cons O O O Zt (.cons O O O Zt .nil)) (ck_4 ⟨hp,by simpa using hc25⟩ hok hoo) (show [(4,true),(5,true)].Nodup by decide)
 · refine W.l0 7 [.y 15 _] [] [] [(3,_),(4,_),(15,_)] [(3,.var _)] 63 ⟨mU 0 O O,Zt⟩ O O O O (⟨O,_,R.callB [] hC (purse_f l hl hp) (EvB.cons (gV 15 O) O O O EvB.nil) O Zt Zt O O O O O O (nU O),⟨O,_,R.movT (gU 16 O) O (nU O),⟨O,_,R.ext (gU 14 O) O O (nU O),⟨O,_,R.ext (gU 14 O) O O (nU O),⟨O,_,R.asg (gV 17 O) O (nU O),⟨O,_,R.asg (gV 18 O) O (nU O),tV [(3,_),(4,_),(6,_),(7,_)] [(3,.var _)] 63 O O O ?_⟩⟩⟩⟩⟩⟩)
   refine W.seq (W.seq ?_)
   refine W.l0 7 [.y 19 _,.y 20 _,.y 21 _,.x 22,.x 23,.x 24,.y 25 _] [] [] [(3,_),(4,_),(6,_),(25,_)] [(3,.var _)] 63 ⟨mU 7 O O,aU fun _ _ H K=>R.un (eU K 19 O) O H,mU 20 O O,aF O O (gT (O) O),aF O O (gT (O) O),aF O O (gT (O) O),aU fun _ _ H K=>R.pickT (eU K 21 O) (O) (kB true O) O H,Zt⟩ O O O O (tU O ?_)
   refine W.condT O (O) ?_
   refine W.seq ?_
   refine W.l0 2 [.y 4 _,.y 5 _] [] [] [(4,_),(5,_)] [(3,.var _)] 63 ⟨aU fun _ _ H _=>R.asg (show ev _ _ (.const (.int .u64 0)) = some (.u64 0) from O) O H,aU fun _ _ H _=>R.asg (kI 1 O) O H,Zt⟩ O O O O (tU O ?_)
   refine W.ret ?_
   exact Ends.many (.inr O) (.cons O O O Zt (.cons O O O Zt .nil)) (ck_1 (fun h=>hp h.1)) (show [(4,true),(5,true)].Nodup by decide)
end Go.Sx

namespace Go.Sx
open Go.Proofs
end Go.Sx

namespace Go.Sx
open Go.Proofs
theorem perm_uniq : ∀ (s t : List Un),s.Perm t -> s.Pairwise (fun a b=>ordS a b < 0) -> t.Pairwise (fun a b=>ordS a b < 0) -> s = t
 | [],t,hp,_,_=>by rw [hp.nil_eq]
 | a :: s,[],hp,_,_=>by have:=hp.length_eq; simp at this
 | a :: s,b :: t,hp,hs,ht=>by
  rw [List.pairwise_cons] at hs ht
  have e : a = b:=by
   have h1 : a ∈ b :: t:=hp.mem_iff.1 (by simp)
   have h2 : b ∈ a :: s:=hp.mem_iff.2 (by simp)
   rcases List.mem_cons.1 h1 with h | h
   · exact h
   · rcases List.mem_cons.1 h2 with h' | h'
     · exact h'.symm
     · have k1:=ht.1 a h
       have k2:=hs.1 b h'
       have:=ord_sym a b
       omega
  subst e
  rw [perm_uniq s t ((List.perm_cons a).1 hp) hs.2 ht.2]
theorem sortU_pair {l : List Un} (hx : hs32 l) (hp : purP l) : (sortU l).Pairwise (fun a b=>ordS a b < 0):=by
 rw [List.pairwise_iff_getElem]
 intro i j hi hj hij
 have:=sorted_lt hx hp hij (by rw [<- sortU_len l]; exact hj)
 rwa [getE hi,getE hj] at this
theorem sortU_uniq {l s : List Un} (hx : hs32 l) (hp : purP l) (h : s.Perm l) (hs : s.Pairwise (fun a b=>ordS a b < 0)) : sortU l = s:=
 perm_uniq _ _ ((sortU_perm hx).trans h.symm) (sortU_pair hx hp) hs
theorem hs_perm {l s : List Un} (h : s.Perm l) (hx : hs32 l) : hs32 s:=fun c hc=>hx c (h.mem_iff.1 hc)
def W1 : List Un:=[coinS 1 5000,coinS 2 9000]
def W2 : List Wnt:=[⟨[],8000⟩]
def W3 : List Wnt:=[⟨[],14000⟩]
theorem w1_hs : hs32 W1:=by
 intro c hc
 simp only [W1,List.mem_cons,List.not_mem_nil,or_false] at hc
 rcases hc with rfl | rfl <;> rfl
theorem w1_pur : purP W1:=by decide +kernel
theorem w1_sort : sortU W1 = [coinS 2 9000,coinS 1 5000]:=
 sortU_uniq w1_hs w1_pur (List.Perm.swap _ _ _) (by decide +kernel)
theorem w1_chP2 : chP W1 W2 1:=by decide +kernel
theorem w1_chP3 : chP W1 W3 1:=by decide +kernel
theorem w1_L2 : ¬ chL W1 W2 1 0:=by unfold chL; rw [w1_sort]; decide +kernel
theorem w1_L3 : ∀ j < W1.length,chL W1 W3 1 j:=by
 intro j hj
 unfold chL
 rw [w1_sort]
 have h2 : W1.length = 2:=rfl
 have : j = 0 ∨ j = 1:=by omega
 rcases this with rfl | rfl <;> decide +kernel
theorem w1_F2 : chF W1 W2 1 = some 0:=chF_some (by decide) (fun j hj=>absurd hj (Nat.not_lt_zero _)) w1_L2
theorem w1_C2 : chC W1 W2 1 = [coinS 2 9000]:=by rw [chC,if_pos w1_chP2,w1_F2,w1_sort]; rfl
theorem w1_V2 : chV W1 W2 1 = 774:=by rw [chV,if_pos w1_chP2,w1_F2,w1_sort]; decide +kernel
theorem w1_E2 : chE W1 W2 1 = 0:=by rw [chE,if_pos w1_chP2,w1_F2]
theorem w1_E3 : chE W1 W3 1 = 14:=by rw [chE,if_pos w1_chP3,chF_none w1_L3]
theorem w1_C3 : chC W1 W3 1 = []:=by rw [chC,if_pos w1_chP3,chF_none w1_L3]
theorem w1_V3 : chV W1 W3 1 = 0:=by rw [chV,if_pos w1_chP3,chF_none w1_L3]
theorem w1_n4 : ¬ chP W1 [] 1:=by decide +kernel
theorem w1_E4 : chE W1 [] 1 = 1:=by rw [chE,if_neg w1_n4]
theorem w1_C4 : chC W1 [] 1 = []:=by rw [chC,if_neg w1_n4]
theorem w1_V4 : chV W1 [] 1 = 0:=by rw [chV,if_neg w1_n4]
def W5 : TxS:=⟨2,[⟨2 :: List.replicate 31 0,0,[],4294967295,[]⟩],[⟨8000,[]⟩,⟨774,[7]⟩],0⟩
theorem w1_X : mkX W1 W2 [7] 1 = W5:=by rw [mkX,w1_C2,w1_V2]; rfl
theorem w5_may : mayS W5 = true:=by decide +kernel
theorem w1_mE : mkE W1 W2 [7] 1 = 0:=by rw [mkE,w1_E2,if_pos rfl,if_neg (by decide),w1_X,if_pos w5_may]
theorem w1_mT : mkT W1 W2 [7] 1 = W5:=by rw [mkT,if_pos w1_mE,w1_X]
theorem w5_wf : W5.wf:=small_wf (by decide) (by decide) (fun x hx=>by
 simp only [W5,List.mem_cons,List.not_mem_nil,or_false] at hx
 subst hx; exact ⟨rfl,rfl,rfl⟩) (fun x hx=>by
 simp only [W5,List.mem_cons,List.not_mem_nil,or_false] at hx
 rcases hx with rfl | rfl <;> decide)
theorem w5_ckV : ckV W1 W5 = 226:=by decide +kernel
theorem w5_ckE : ckE W1 W5 = 0:=by decide +kernel
abbrev UnL (l : List Un) : D:=.sl none 35 (l.map coD)
abbrev WnL (l : List Wnt) : D:=.sl none 2 (l.map wntD)
theorem wk_ch2 : Fn Try.prog gl 11 [UnL W1,WnL W2,.u64 1] (.tup [UnL [coinS 2 9000],.u64 774,.int 0]):=by
 have:=choose_ok W1 W2 1 (by decide) w1_hs (by decide)
 rwa [w1_C2,w1_V2,w1_E2] at this
theorem wk_ch3 : Fn Try.prog gl 11 [UnL W1,WnL W3,.u64 1] (.tup [UnL [],.u64 0,.int 14]):=by
 have:=choose_ok W1 W3 1 (by decide) w1_hs (by decide)
 rwa [w1_C3,w1_V3,w1_E3] at this
theorem wk_ch4 : Fn Try.prog gl 11 [UnL W1,.nils,.u64 1] (.tup [UnL [],.u64 0,.int 1]):=by
 refine Fn.wkA (ds':=[UnL W1,WnL [],.u64 1]) (.cons (.refl _) (.cons (.nils _ _) (.cons (.refl _) .nil))) ?_
 have:=choose_ok W1 [] 1 (by decide) w1_hs (by decide)
 rwa [w1_C4,w1_V4,w1_E4] at this
theorem wk_fee : Fn Try.prog gl 9 [.int 1,.int 1,.u64 1] (.tup [.u64 192,.int 0]):=by
 have:=fee_ok 1 1 1
 rwa [show feeV 1 1 1 = 192 by decide +kernel,show feeE 1 1 1 = 0 by decide +kernel] at this
theorem wk_make : Fn Try.prog gl 15 [UnL W1,WnL W2,.sl none 1 (([7] : List UInt8).map D.u8),.u64 1] (.tup [txD W5,.int 0]):=by
 have:=make_ok W1 W2 1 (by decide) w1_hs (by decide) [7] (by decide)
 rwa [w1_mT,w1_mE] at this
theorem wk_check : Fn Try.prog gl 18 [UnL W1,txD W5] (.tup [.u64 226,.int 0]):=by
 have:=check_ok W1 W5 (by decide) w1_hs w5_wf
 rwa [w5_ckV,w5_ckE] at this
theorem brw_wnt (c : Wnt) : (wntD c).brw = wntD c:=by simp only [wntD,D.brw,brws_eq,List.map_cons,List.map_nil,brw_bytes]
theorem brw_wn (o : Option Nat) (l : List Wnt) : (D.sl o 2 (l.map wntD)).brw = .sl none 2 (l.map wntD):=by
 simp only [D.brw,brws_eq]; rw [brw_map brw_wnt]
theorem wk_wnt (o : Option Nat) (v : UInt64) : Wk (.sl o 2 [.agg [.nils,.u64 v]]) (.sl o 2 ([(⟨[],v⟩ : Wnt)].map wntD)):=.slL (.cons (.aggL (.cons (.nils _ _) (.cons (.refl _) .nil))) .nil)
theorem brw_u8s (o : Option Nat) (l : List UInt8) : (D.sl o 1 (l.map D.u8)).brw = .sl none 1 (l.map D.u8):=by
 simp only [D.brw,brws_eq]; rw [brw_map (fun _=>rfl)]
end Go.Sx

namespace Go.Sx
open Go.Proofs
theorem works_ok : Fn Try.prog gl 8 [] (.bool true):=by
 refine Fn.of (n:=122) Try.func8 rfl rfl rfl (nU rfl) fun C hC hD=>?_
 refine W.seq ?_
 refine W.l0 1 [.y 0 _] [] [] [] [] 122 ⟨aU fun _ _ H _=>R.asg (kB false O) O H,Zt⟩ O O O O (tU O ?_)
 refine W.seq ?_
 refine W.l0 4 [.y 17 _,.y 18 _,.y 19 _,.y 1 _] [] [] [(1,_)] [] 122 ⟨aU fun _ _ H _=>R.callG hC (coin_ok 1 5000) (Bc (Bp (show ev _ _ (.const (.int .u8 1)) = some (.u8 1) from O) O O) (Bc (Bp (show ev _ _ (.const (.int .u64 5000)) = some (.u64 5000) from O) O O) Bn)) (FrsR.one (frs_coD _)) H,aU fun _ _ H _=>R.callG hC (coin_ok 2 9000) (Bc (Bp (show ev _ _ (.const (.int .u8 2)) = some (.u8 2) from O) O O) (Bc (Bp (show ev _ _ (.const (.int .u64 9000)) = some (.u64 9000) from O) O O) Bn)) (FrsR.one (frs_coD _)) H,aU fun _ _ H K=>R.frzT (r':=.sl none 35 (W1.map coD)) (R.bslE (z:=35) (.cons (eU K 17 O) (.cons (eU K 18 O) .nil)) ⟨⟨O,O,O⟩,⟨O,O,O⟩,Zt⟩ O H dU) O (brw_co _ W1),aU fun _ _ H K=>R.asg (eU K 19 O) O H,Zt⟩ O O O O (tU O ?_)
 refine W.seq ?_
 refine W.l0 11 [.y 21 _,.y 22 _,.y 23 _,.y 24 _,.y 20 _,.y 25 _,.y 26 _,.y 27 _,.y 2 _,.y 3 _,.y 4 _] [] [] [(1,_),(2,_),(3,_),(4,_)] [] 122 ⟨mU 1 O O,aU fun _ _ H _=>R.bldSE (l:=[.nils,.u64 0]) (l':=[_,_]) (.cons (show ev _ _ (.const (.int .u64 8000)) = some (.u64 8000) from O) (.nil O)) ⟨⟨_,(show ev _ _ (.const (.int .u64 8000)) = some (.u64 8000) from O),O,O,O⟩,Zt⟩ H,aU fun _ _ H K=>R.frzT (r':=.sl none 2 (W2.map wntD)) (R.wkT (r':=.sl (some 70) 2 (W2.map wntD)) (R.bslE (z:=2) (.cons (eU K 22 O) .nil) ⟨⟨O,O,O⟩,Zt⟩ O H dU) O O (wk_wnt _ _)) O (brw_wn _ _),aU fun _ _ H K=>R.callPE hC (wk_ch2) (EvP.cons (eU K 21 O) O O (EvP.cons (eU K 23 O) O O (EvP.cons (show ev _ _ (.const (.int .u64 1)) = some (.u64 1) from O) O O EvP.nil))) H,aU fun _ _ H K=>R.movT (K 24 _ O) O H,aU fun _ _ H K=>R.ext (K 20 _ O) O O H,aU fun _ _ H K=>R.ext (K 20 _ O) O O H,aU fun _ _ H K=>R.ext (K 20 _ O) O O H,aU fun _ _ H K=>R.asg (eU K 25 O) O H,aU fun _ _ H K=>R.asg (eU K 26 O) O H,aU fun _ _ H K=>R.asg (eU K 27 O) O H,Zt⟩ O O O O (tU O ?_)
 refine W.seq ?_
 refine W.l0 6 [.y 29 _,.y 28 _,.y 30 _,.y 31 _,.y 5 _,.y 6 _] [] [] [(1,_),(2,_),(3,_),(4,_),(5,_),(6,_)] [] 122 ⟨aU fun _ _ H _=>R.callG hC (wk_fee) (Bc (Bp (kI 1 O) O O) (Bc (Bp (kI 1 O) O O) (Bc (Bp (show ev _ _ (.const (.int .u64 1)) = some (.u64 1) from O) O O) Bn))) (FrsR.two (.u64 _) (.int _)) H,aU fun _ _ H K=>R.movT (K 29 _ O) O H,aU fun _ _ H K=>R.ext (K 28 _ O) O O H,aU fun _ _ H K=>R.ext (K 28 _ O) O O H,aU fun _ _ H K=>R.asg (eU K 30 O) O H,aU fun _ _ H K=>R.asg (eU K 31 O) O H,Zt⟩ O O O O (tU O ?_)
 refine W.seq ?_
 refine W.l0 11 [.y 33 _,.y 34 _,.y 35 _,.y 36 _,.y 37 _,.y 32 _,.y 38 _,.y 39 _] [] [] [(1,_),(2,_),(3,_),(4,_),(5,_),(6,_),(38,_),(39,_)] [] 122 ⟨mU 1 O O,aU fun _ _ H _=>R.bldSE (l:=[.nils,.u64 0]) (l':=[_,_]) (.cons (show ev _ _ (.const (.int .u64 8000)) = some (.u64 8000) from O) (.nil O)) ⟨⟨_,(show ev _ _ (.const (.int .u64 8000)) = some (.u64 8000) from O),O,O,O⟩,Zt⟩ H,aU fun _ _ H K=>R.frzT (r':=.sl none 2 (W2.map wntD)) (R.wkT (r':=.sl (some 70) 2 (W2.map wntD)) (R.bslE (z:=2) (.cons (eU K 34 O) .nil) ⟨⟨O,O,O⟩,Zt⟩ O H dU) O O (wk_wnt _ _)) O (brw_wn _ _),aU fun _ _ H _=>R.frzT (r':=.sl none 1 (([7] : List UInt8).map D.u8)) (R.bslE (z:=1) (.cons (show ev _ _ (.const (.int .u8 7)) = some (.u8 7) from O) .nil) ⟨⟨O,O,O⟩,Zt⟩ O H dU) O (brw_u8s _ [7]),aU fun _ _ H K=>R.callPE hC (wk_make) (EvP.cons (eU K 33 O) O O (EvP.cons (eU K 35 O) O O (EvP.cons (eU K 36 O) O O (EvP.cons (show ev _ _ (.const (.int .u64 1)) = some (.u64 1) from O) O O EvP.nil)))) H,aU fun _ _ H K=>R.movT (K 37 _ O) O H,aU fun _ _ H K=>R.ext (K 32 _ O) O O H,aU fun _ _ H K=>R.ext (K 32 _ O) O O H,Zt⟩ O O O O (⟨O,_,R.alloc O (nU O),⟨O,_,R.stZ (gU 7 O) (xU 7 O) O (gV 38 O) (by rfl) (by rfl) (by rfl) (by rfl) O,⟨O,_,R.asg (gV 39 O) O (nU O),tV [(1,_),(2,_),(3,_),(4,_),(5,_),(6,_),(7,_),(8,_)] [(7,.var _)] 122 O O O ?_⟩⟩⟩)
 refine W.seq ?_
 refine W.l0 8 [.y 41 _,.y 42 _,.y 43 _,.y 40 _,.y 44 _,.y 45 _,.y 9 _,.y 10 _] [] [] [(1,_),(2,_),(3,_),(4,_),(5,_),(6,_),(7,_),(8,_),(9,_),(10,_)] [(7,.var _)] 122 ⟨mU 1 O O,aU (lU 7 O O O O O O O),aU fun _ _ H K=>R.callG hC (wk_check) (Bc (Bp (eU K 41 O) O O) (Bc (Bp (eU K 42 O) O O) Bn)) (FrsR.two (.u64 _) (.int _)) H,aU fun _ _ H K=>R.movT (K 43 _ O) O H,aU fun _ _ H K=>R.ext (K 40 _ O) O O H,aU fun _ _ H K=>R.ext (K 40 _ O) O O H,aU fun _ _ H K=>R.asg (eU K 44 O) O H,aU fun _ _ H K=>R.asg (eU K 45 O) O H,Zt⟩ O O O O (tU O ?_)
 refine W.seq ?_
 refine W.l0 11 [.y 47 _,.y 48 _,.y 49 _,.y 50 _,.y 46 _,.y 51 _,.y 52 _,.y 53 _,.y 11 _,.y 12 _,.y 13 _] [] [] [(1,_),(2,_),(3,_),(4,_),(5,_),(6,_),(7,_),(8,_),(9,_),(10,_),(13,_)] [(7,.var _)] 122 ⟨mU 1 O O,aU fun _ _ H _=>R.bldSE (l:=[.nils,.u64 0]) (l':=[_,_]) (.cons (show ev _ _ (.const (.int .u64 14000)) = some (.u64 14000) from O) (.nil O)) ⟨⟨_,(show ev _ _ (.const (.int .u64 14000)) = some (.u64 14000) from O),O,O,O⟩,Zt⟩ H,aU fun _ _ H K=>R.frzT (r':=.sl none 2 (W3.map wntD)) (R.wkT (r':=.sl (some 70) 2 (W3.map wntD)) (R.bslE (z:=2) (.cons (eU K 48 O) .nil) ⟨⟨O,O,O⟩,Zt⟩ O H dU) O O (wk_wnt _ _)) O (brw_wn _ _),aU fun _ _ H K=>R.callPE hC (wk_ch3) (EvP.cons (eU K 47 O) O O (EvP.cons (eU K 49 O) O O (EvP.cons (show ev _ _ (.const (.int .u64 1)) = some (.u64 1) from O) O O EvP.nil))) H,aU fun _ _ H K=>R.movT (K 50 _ O) O H,aU fun _ _ H K=>R.ext (K 46 _ O) O O H,aU fun _ _ H K=>R.ext (K 46 _ O) O O H,aU fun _ _ H K=>R.ext (K 46 _ O) O O H,aU fun _ _ H K=>R.asg (eU K 51 O) O H,aU fun _ _ H K=>R.asg (eU K 52 O) O H,aU fun _ _ H K=>R.asg (eU K 53 O) O H,Zt⟩ O O O O (tU O ?_)
 refine W.seq ?_
 refine W.l0 9 [.y 55 _,.y 56 _,.y 54 _,.y 57 _,.y 58 _,.y 59 _,.y 14 _,.y 15 _,.y 16 _] [] [] [(2,_),(3,_),(4,_),(5,_),(6,_),(7,_),(8,_),(9,_),(10,_),(13,_),(16,_)] [(7,.var _)] 122 ⟨mU 1 O O,aU fun _ _ H K=>R.callPE hC (wk_ch4) (EvP.cons (eU K 55 O) O O (EvP.cons (kN O) O O (EvP.cons (show ev _ _ (.const (.int .u64 1)) = some (.u64 1) from O) O O EvP.nil))) H,aU fun _ _ H K=>R.movT (K 56 _ O) O H,aU fun _ _ H K=>R.ext (K 54 _ O) O O H,aU fun _ _ H K=>R.ext (K 54 _ O) O O H,aU fun _ _ H K=>R.ext (K 54 _ O) O O H,aU fun _ _ H K=>R.asg (eU K 57 O) O H,aU fun _ _ H K=>R.asg (eU K 58 O) O H,aU fun _ _ H K=>R.asg (eU K 59 O) O H,Zt⟩ O O O O (tU O ?_)
 refine W.seq ?_
 have hw5 : W5.outs.length = 2:=rfl
 refine W.l0 63 (.y 60 _ :: .y 61 _ :: .y 62 _ :: .y 63 _ :: .y 64 _ :: .y 65 _ :: .y 66 _ :: .y 67 _ :: .y 68 _ :: .y 69 _ :: .y 70 _ :: .y 71 _ :: .y 72 _ :: .y 73 _ :: .y 74 _ :: .y 75 _ :: .y 76 _ :: .y 77 _ :: .y 78 _ :: .y 79 _ :: .y 80 _ :: .y 81 _ :: .y 82 _ :: .y 83 _ :: .y 84 _ :: .y 85 _ :: .y 86 _ :: .y 87 _ :: .y 88 _ :: .y 89 _ :: .y 90 _ :: .y 91 _ :: .y 92 _ :: .y 93 _ :: .y 94 _ :: .y 95 _ :: .y 96 _ :: .y 97 _ :: .y 98 _ :: .y 99 _ :: .y 100 _ :: .y 101 _ :: .y 102 _ :: .y 103 _ :: .y 104 _ :: .y 105 _ :: .y 106 _ :: .y 107 _ :: .y 108 _ :: .y 109 _ :: .y 110 _ :: .y 111 _ :: .y 112 _ :: .y 113 _ :: .y 114 _ :: .y 115 _ :: .y 116 _ :: .y 117 _ :: .y 118 _ :: .y 119 _ :: .y 120 _ :: .y 121 _ :: .y 0 _ :: []) [] [] [(0,_)] [(7,.var _)] 122 ⟨mU 4 O O,aU fun _ _ H K=>R.eqlN (0) (0) (eU K 60 O) (kI 0 O) H,mU 61 O O,aW O O (gT (O) O) fun _ _ H K=>R.mov (eU K 2 O) O H,aW O O (gT (O) O) fun _ _ H K=>R.lenE (SC.sl (K 63 _ O)) (lN _) H,aW O O (gT (O) O) fun _ _ H K=>R.eqlN ([coinS 2 9000].length) (1) (eU K 64 O) (kI 1 O) H,aU fun _ _ H K=>R.pickT (eU K 62 O) (O) (eU K 65 O) O H,mU 66 O O,aW O O (gT (O) O) fun _ _ H K=>R.mov (eU K 2 O) O H,aW O O (gT (O) O) fun _ _ H K=>R.idxN (0) (SC.sl (K 68 _ O)) (evoI (kI 0 O)) O bU H dU,aW O O (gT (O) O) fun _ _ H K=>R.fdE (K 69 _ O) H dU,aW O O (gT (O) O) fun _ _ H K=>R.ldE (K 70 _ O) (SC.sl (K 68 _ O)) (map_get! (l:=[coinS 2 9000]) bU) O O O O H,aW O O (gT (O) O) fun _ _ H K=>R.bin (eU K 71 O) (show ev _ _ (.const (.int .u64 9000)) = some (.u64 9000) from O) O Zt H,aU fun _ _ H K=>R.pickT (eU K 67 O) (O) (eU K 72 O) O H,mU 73 O O,aW O O (gT (O) O) fun _ _ H K=>R.mov (eU K 3 O) O H,aW O O (gT (O) O) fun _ _ H K=>R.bin (eU K 75 O) (show ev _ _ (.const (.int .u64 774)) = some (.u64 774) from O) O Zt H,aU fun _ _ H K=>R.pickT (eU K 74 O) (O) (eU K 76 O) O H,mU 77 O O,aW O O (gT (O) O) fun _ _ H K=>R.mov (eU K 5 O) O H,aW O O (gT (O) O) fun _ _ H K=>R.bin (eU K 79 O) (show ev _ _ (.const (.int .u64 192)) = some (.u64 192) from O) O Zt H,aU fun _ _ H K=>R.pickT (eU K 78 O) (O) (eU K 80 O) O H,mU 81 O O,aW O O (gT (O) O) fun _ _ H K=>R.mov (eU K 6 O) O H,aW O O (gT (O) O) fun _ _ H K=>R.eqlN (0) (0) (eU K 83 O) (kI 0 O) H,aU fun _ _ H K=>R.pickT (eU K 82 O) (O) (eU K 84 O) O H,mU 85 O O,aW O O (gT (O) O) fun _ _ H K=>R.mov (eU K 8 O) O H,aW O O (gT (O) O) fun _ _ H K=>R.eqlN (0) (0) (eU K 87 O) (kI 0 O) H,aU fun _ _ H K=>R.pickT (eU K 86 O) (O) (eU K 88 O) O H,mU 89 O O,aW O O (gT (O) O) (fU 7 O O),aW O O (gT (O) O) (lU 91 O O O O O O O),aW O O (gT (O) O) fun _ _ H K=>R.lenE (SC.sl (K 92 _ O)) (lN _) H,aW O O (gT (O) O) fun _ _ H K=>R.eqlN (W5.outs.length) (2) (eU K 93 O) (kI 2 O) H,aU fun _ _ H K=>R.pickT (eU K 90 O) (O) (eU K 94 O) O H,mU 95 O O,aW O O (gT (O) O) (fU 7 O O),aW O O (gT (O) O) (lU 97 O O O O O O O),aW O O (gT (O) O) fun _ _ H K=>R.idxN (1) (SC.sl (K 98 _ O)) (evoI (kI 1 O)) O bU H dU,aW O O (gT (O) O) fun _ _ H K=>R.fdE (K 99 _ O) H dU,aW O O (gT (O) O) fun _ _ H K=>R.ldE (K 100 _ O) (SC.sl (K 98 _ O)) (map_get! (l:=W5.outs) bU) O O O O H,aW O O (gT (O) O) fun _ _ H K=>R.bin (eU K 101 O) (show ev _ _ (.const (.int .u64 774)) = some (.u64 774) from O) O Zt H,aU fun _ _ H K=>R.pickT (eU K 96 O) (O) (eU K 102 O) O H,mU 103 O O,aW O O (gT (O) O) fun _ _ H K=>R.mov (eU K 10 O) O H,aW O O (gT (O) O) fun _ _ H K=>R.eqlN (0) (0) (eU K 105 O) (kI 0 O) H,aU fun _ _ H K=>R.pickT (eU K 104 O) (O) (eU K 106 O) O H,mU 107 O O,aW O O (gT (O) O) fun _ _ H K=>R.mov (eU K 9 O) O H,aW O O (gT (O) O) fun _ _ H K=>R.bin (eU K 109 O) (show ev _ _ (.const (.int .u64 226)) = some (.u64 226) from O) O Zt H,aU fun _ _ H K=>R.pickT (eU K 108 O) (O) (eU K 110 O) O H,mU 111 O O,aW O O (gT (O) O) fun _ _ H K=>R.mov (eU K 13 O) O H,aW O O (gT (O) O) fun _ _ H K=>R.eqlN (14) (14) (eU K 113 O) (kI 14 O) H,aU fun _ _ H K=>R.pickT (eU K 112 O) (O) (eU K 114 O) O H,mU 115 O O,aW O O (gT (O) O) fun _ _ H K=>R.mov (eU K 16 O) O H,aW O O (gT (O) O) fun _ _ H K=>R.eqlN (1) (1) (eU K 117 O) (kI 1 O) H,aU fun _ _ H K=>R.pickT (eU K 116 O) (O) (eU K 118 O) O H,mU 119 O O,aU fun _ _ H K=>R.pickT (eU K 120 O) (O) (kB true O) O H,aU fun _ _ H K=>R.asg (eU K 121 O) O H,Zt⟩ O O O O (tU O ?_)
 refine W.ret ?_
 exact Ends.one' (.inr O) O (O) O O Zt
end Go.Sx

namespace Go.Sx
def sumO (os : List OutS) : Nat -> Nat
 | 0=>0
 | k + 1=>sumO os k + os[k]!.script.length
def fewTx (os : List OutS) : Prop:=os.length <= 8 /\ sumO os os.length <= 1000
instance (os : List OutS) : Decidable (fewTx os):=by unfold fewTx; infer_instance
def fewBk (b : List (List OutS)) : Prop:=b.length <= 12 /\ ∀ j < b.length,fewTx b[j]!
instance (b : List (List OutS)) : Decidable (fewBk b):=by unfold fewBk; infer_instance
def fewP15 (bs : List (List (List OutS))) : Prop:=bs.length <= 20 /\ ∀ i < bs.length,fewBk bs[i]!
instance (bs : List (List (List OutS))) : Decidable (fewP15 bs):=by unfold fewP15; infer_instance
end Go.Sx

namespace Go.Sx
open Go.Proofs
end Go.Sx

namespace Go.Sx
open Go.Proofs
theorem zeroT_wf : zeroT.wf:=small_wf (by decide) (by decide) (fun x hx=>by cases hx) (fun x hx=>by cases hx)
theorem mkT_wf {l : List Un} {ws : List Wnt} {own : List UInt8} {r : UInt64} (hl : l.length <= 4096) (hx : hs32 l) : (mkT l ws own r).wf:=by
 unfold mkT
 split
 · rename_i h
   unfold mkE at h
   split at h
   · rename_i h1
     split at h
     · cases h
     · rename_i h2
       exact mkX_wf hl hx h1 h2
   · rename_i h1; exact absurd h h1
 · exact zeroT_wf
theorem eqIn_refl (x : InS) : eqIn x x = true:=by simp [eqIn,eqB_list]
theorem eqOut_refl (x : OutS) : eqOut x x = true:=by simp [eqOut]
theorem same_refl (t : TxS) : sameS t t = true:=sm_t rfl rfl rfl rfl (fun j _=>eqIn_refl _) (fun j _=>eqOut_refl _)
end Go.Sx

namespace Go.Sx
open Go.Proofs
structure Sane (l : List Un) (w : List Wnt) (r : UInt64) : Prop where
 hx : hs32 l
 hp : purP l
 ht : totP w
 hr : r.toNat <= 1000000
 hn : l.length <= 200
 hv : ∀ c ∈ l,c.value.toNat <= 4294967296
 hs : (totV w).toNat <= 1099511627776
def nsum (t : List Un) : Nat:=(t.map fun c=>c.value.toNat).sum
theorem nsum_app (s t : List Un) : nsum (s ++ t) = nsum s + nsum t:=by simp [nsum]
theorem sumU_nat {s : List Un} (h : ∀ c ∈ s,c.value.toNat <= 4294967296) : ∀ k ≤ s.length,k <= 1000 -> (sumU s k).toNat = nsum (s.take k) /\ nsum (s.take k) <= k * 4294967296:=by
 intro k
 induction k with
 | zero=>intro _ _; exact ⟨rfl,by simp [nsum]⟩
 | succ k ih=>
  intro hk hk2
  obtain ⟨a,b⟩:=ih (by omega) (by omega)
  have hv:=h _ (get_in (l:=s) (i:=k) (by omega))
  have e : nsum (s.take (k + 1)) = nsum (s.take k) + s[k]!.value.toNat:=by
   rw [take_s (by omega),nsum_app]; simp [nsum]
  refine ⟨?_,by rw [e]; omega⟩
  rw [sumU,UInt64.toNat_add,a,e]
  exact Nat.mod_eq_of_lt (by omega)
theorem fee_nat {i m : Nat} {r : UInt64} (hi : i <= 4096) (hm : m <= 4096) (hr : r.toNat <= 1000000) : (feeV ((i : Nat) : Int) ((m : Nat) : Int) r).toNat = (10 + 148 * i + 34 * m) * r.toNat /\ feeE ((i : Nat) : Int) ((m : Nat) : Int) r = 0:=by
 have hf : ¬ feeP ((i : Nat) : Int) ((m : Nat) : Int) r:=by
  unfold feeP
  rw [UInt64.lt_iff_toNat_lt]
  have : (1000000 : UInt64).toNat = 1000000:=rfl
  rw [this]
  omega
 refine ⟨?_,by rw [feeE,if_neg hf]⟩
 rw [feeV,if_neg hf,UInt64.toNat_mul]
 have e : (UInt64.ofInt (10 + 148 * ((i : Nat) : Int) + 34 * ((m : Nat) : Int))).toNat = 10 + 148 * i + 34 * m:=by
  have : (10 + 148 * ((i : Nat) : Int) + 34 * ((m : Nat) : Int)) = ((10 + 148 * i + 34 * m : Nat) : Int):=by omega
  rw [this]
  unfold UInt64.ofInt
  rw [UInt64.toNat_ofNat']
  omega
 rw [e]
 refine Nat.mod_eq_of_lt ?_
 have : (10 + 148 * i + 34 * m) * r.toNat <= 1000000 * 1000000:=Nat.mul_le_mul (by omega) hr
 omega
theorem fee_le {i m : Nat} {r : UInt64} (hi : i <= 4096) (hm : m <= 4096) (hr : r.toNat <= 1000000) : (10 + 148 * i + 34 * m) * r.toNat <= 1000000000000:=by
 have : (10 + 148 * i + 34 * m) * r.toNat <= 1000000 * 1000000:=Nat.mul_le_mul (by omega) hr
 omega
section
variable {l : List Un} {w : List Wnt} {r : UInt64}
theorem Sane.P (G : Sane l w r) : chP l w r:=⟨G.ht,G.hp,by rw [UInt64.lt_iff_toNat_lt]; have:=G.hr; have e : (1000000 : UInt64).toNat = 1000000:=rfl; omega⟩
theorem Sane.sv (G : Sane l w r) : ∀ c ∈ sortU l,c.value.toNat <= 4294967296:=fun c hc=>G.hv c ((sortU_perm G.hx).mem_iff.1 hc)
theorem Sane.L (G : Sane l w r) {i : Nat} (hi : i < l.length) : chL l w r i ↔ nsum ((sortU l).take (i + 1)) < (totV w).toNat + (10 + 148 * (i + 1) + 34 * w.length) * r.toNat:=by
 have h1:=sumU_nat G.sv (i + 1) (by rw [sortU_len]; omega) (by have:=G.hn; omega)
 have h2:=(fee_nat (i:=i + 1) (m:=w.length) (by have:=G.hn; omega) (by have:=G.ht.2.1; omega) G.hr).1
 have h3:=fee_le (i:=i + 1) (m:=w.length) (by have:=G.hn; omega) (by have:=G.ht.2.1; omega) G.hr
 unfold chL
 rw [UInt64.lt_iff_toNat_lt,UInt64.toNat_add,h1.1,h2,Nat.mod_eq_of_lt (by have:=G.hs; omega)]
theorem Sane.E (G : Sane l w r) (h : chE l w r = 0) : ∃ i,i < l.length /\ (∀ j < i,chL l w r j) /\ ¬ chL l w r i /\ chF l w r = some i /\ chC l w r = (sortU l).take (i + 1) /\ (chC l w r).length = i + 1 /\
 chV l w r = (if chM w r i + 546 <= sumU (sortU l) (i + 1) then sumU (sortU l) (i + 1) - chM w r i else 0):=by
 rw [chE,if_pos G.P] at h
 cases hf : chF l w r with
 | none=>rw [hf] at h; cases h
 | some i=>
  have hf':=hf
  unfold chF at hf
  rw [List.find?_eq_some_iff_append] at hf
  obtain ⟨h1,xs,ys,h2,h3⟩:=hf
  have hlen:=congrArg List.length h2
  simp only [List.length_range,List.length_append,List.length_cons] at hlen
  have hi : i = xs.length:=by
   have:=congrArg (fun x=>x[xs.length]?) h2
   simp only [List.getElem?_append_right (Nat.le_refl _),Nat.sub_self,List.getElem?_cons_zero] at this
   rw [List.getElem?_range (by omega)] at this
   simpa using this.symm
  have hil : i < l.length:=by omega
  have hC : chC l w r = (sortU l).take (i + 1):=by rw [chC,if_pos G.P,hf']
  refine ⟨i,hil,fun j hj=>?_,by simpa using h1,rfl,hC,by rw [hC,List.length_take,sortU_len]; omega,by rw [chV,if_pos G.P,hf']⟩
  have hm : j ∈ xs:=by
   have:=congrArg (fun x=>x[j]?) h2
   simp only [List.getElem?_append_left (show j < xs.length by omega)] at this
   rw [List.getElem?_range (by omega)] at this
   exact List.mem_of_getElem? this.symm
  simpa using h3 j hm
theorem Sane.pos (G : Sane l w r) (h : chE l w r = 0) : ¬ (chC l w r).length = 0:=by
 obtain ⟨i,_,_,_,_,_,h6,_⟩:=G.E h
 omega
theorem take_get {s : List Un} {k j : Nat} (hj : j < k) (hk : k <= s.length) : (s.take k)[j]! = s[j]!:=by
 rw [getE (by rw [List.length_take]; omega),getE (by omega),List.getElem_take]
theorem Sane.cget (G : Sane l w r) (h : chE l w r = 0) {j : Nat} (hj : j < (chC l w r).length) : (chC l w r)[j]! = (sortU l)[j]! /\ j < l.length:=by
 obtain ⟨i,h1,_,_,_,h5,h6,_⟩:=G.E h
 rw [h6] at hj
 rw [h5]
 exact ⟨take_get hj (by rw [sortU_len]; omega),by omega⟩
theorem Sane.csum (G : Sane l w r) (h : chE l w r = 0) : ∀ k ≤ (chC l w r).length,sumU (chC l w r) k = sumU (sortU l) k:=by
 intro k
 induction k with
 | zero=>intro _; rfl
 | succ k ih=>intro hk; rw [sumU,sumU,ih (by omega),(G.cget h (j:=k) (by omega)).1]
theorem Sane.m (G : Sane l w r) {i : Nat} (hi : i < l.length) : (chM w r i).toNat = (totV w).toNat + (10 + 148 * (i + 1) + 34 * (w.length + 1)) * r.toNat /\ (chM w r i).toNat <= 3000000000000:=by
 have h2:=(fee_nat (i:=i + 1) (m:=w.length + 1) (by have:=G.hn; omega) (by have:=G.ht.2.1; omega) G.hr).1
 have h3:=fee_le (i:=i + 1) (m:=w.length + 1) (by have:=G.hn; omega) (by have:=G.ht.2.1; omega) G.hr
 have e : (chM w r i).toNat = (totV w).toNat + (10 + 148 * (i + 1) + 34 * (w.length + 1)) * r.toNat:=by
  unfold chM
  rw [UInt64.toNat_add,h2,Nat.mod_eq_of_lt (by have:=G.hs; omega)]
 refine ⟨e, ?_⟩
 have:=G.hs
 omega
end
end Go.Sx

namespace Go.Sx
open Go.Proofs
def rr (rate : UInt16) : UInt64:=(rate % 1000).toUInt64
theorem rr_nat (rate : UInt16) : (rr rate).toNat = rate.toNat % 1000:=by
 rw [rr,UInt16.toNat_toUInt64,UInt16.toNat_mod]; rfl
theorem rr_le (rate : UInt16) : (rr rate).toNat <= 999:=by rw [rr_nat]; omega
def f0 (i : Nat) : UInt8:=UInt8.ofInt ((i : Nat) : Int)
def f1 (i : Nat) : UInt8:=UInt8.ofInt ((100 + i : Nat) : Int)
theorem u8_nat (n : Nat) : (UInt8.ofInt ((n : Nat) : Int)).toNat = n % 256:=by
 unfold UInt8.ofInt
 rw [UInt8.toNat_ofNat']
 omega
theorem f0_nat (i : Nat) : (f0 i).toNat = i % 256:=u8_nat i
theorem f1_nat (i : Nat) : (f1 i).toNat = (100 + i) % 256:=u8_nat (100 + i)
def cnF (f : Nat -> UInt8) (vs : List UInt32) : Nat -> List Un
 | 0=>[]
 | i + 1=>cnF f vs i ++ [coinS (f i) vs[i]!.toUInt64]
theorem cnF_app (f : Nat -> UInt8) (vs : List UInt32) (i : Nat) : (cnF f vs i).map coD ++ [coD (coinS (f i) vs[i]!.toUInt64)] = (cnF f vs (i + 1)).map coD:=by
 rw [cnF,List.map_append]; rfl
theorem cn_len (f : Nat -> UInt8) (vs : List UInt32) (n : Nat) : (cnF f vs n).length = n:=by
 induction n with
 | zero=>rfl
 | succ n ih=>rw [cnF,List.length_append,ih]; rfl
theorem cn_mem {f : Nat -> UInt8} {vs : List UInt32} {n : Nat} {c : Un} (h : c ∈ cnF f vs n) : ∃ j,j < n /\ c = coinS (f j) vs[j]!.toUInt64:=by
 induction n with
 | zero=>cases h
 | succ n ih=>
  rw [cnF] at h
  rcases List.mem_append.1 h with h | h
  · obtain ⟨j,hj,e⟩:=ih h; exact ⟨j,by omega,e⟩
  · exact ⟨n,by omega,List.mem_singleton.1 h⟩
theorem coin_upl {a b : UInt8} {v u : UInt64} (h : upl (coinS a v) = upl (coinS b u)) : a = b:=by
 simp only [upl,coinS,Prod.mk.injEq,List.cons.injEq] at h
 exact h.1.1
theorem u32_val (x : UInt32) : x.toUInt64.toNat <= 4294967295:=by
 rw [UInt32.toNat_toUInt64]
 have:=x.toNat_lt
 omega
theorem cn_hs (f : Nat -> UInt8) (vs : List UInt32) (n : Nat) : hs32 (cnF f vs n):=fun c hc=>by
 obtain ⟨j,_,rfl⟩:=cn_mem hc; rfl
theorem cn_val {f : Nat -> UInt8} {vs : List UInt32} {n : Nat} : ∀ c ∈ cnF f vs n,c.value.toNat <= 4294967295:=fun c hc=>by
 obtain ⟨j,_,rfl⟩:=cn_mem hc; exact u32_val _
theorem cn_nodup {f : Nat -> UInt8} {vs : List UInt32} {n : Nat} (hf : ∀ i j,i < j -> j < n -> f i ≠ f j) : ((cnF f vs n).map upl).Nodup:=by
 induction n with
 | zero=>exact List.nodup_nil
 | succ n ih=>
  rw [cnF,List.map_append,List.nodup_append]
  refine ⟨ih fun i j hij hj=>hf i j hij (by omega),by simp,fun a ha b hb=>?_⟩
  obtain ⟨c,hc,rfl⟩:=List.mem_map.1 ha
  obtain ⟨j,hj,rfl⟩:=cn_mem hc
  simp only [List.map_cons,List.map_nil,List.mem_singleton] at hb
  subst hb
  intro e
  exact hf j n hj (by omega) (coin_upl e)
theorem f0_ne {n : Nat} (hn : n <= 100) : ∀ i j,i < j -> j < n -> f0 i ≠ f0 j:=fun i j hij hj e=>by
 have:=congrArg UInt8.toNat e
 rw [f0_nat,f0_nat] at this
 omega
theorem f1_ne {n : Nat} (hn : n <= 100) : ∀ i j,i < j -> j < n -> f1 i ≠ f1 j:=fun i j hij hj e=>by
 have:=congrArg UInt8.toNat e
 rw [f1_nat,f1_nat] at this
 omega
theorem pur_of {l : List Un} (h : (l.map upl).Nodup) (hv : ∀ c ∈ l,c.value.toNat <= 2100000000000000) : purP l:=fun i hi=>
 ⟨purI_no fun k hk e=>by have:=nodup_get h (i:=k) (j:=i) (by omega) hi e; omega,by
  have:=hv _ (get_in hi)
  rw [UInt64.lt_iff_toNat_lt,MMn]; omega⟩
theorem cn_pur {vs : List UInt32} {n : Nat} (hn : n <= 100) : purP (cnF f0 vs n):=
 pur_of (cn_nodup (f0_ne hn)) fun c hc=>by have:=cn_val c hc; omega
def fB (i : Nat) : List UInt8:=[UInt8.ofInt ((i : Nat) : Int)]
def wnG (f : Nat -> List UInt8) (ws : List UInt32) : Nat -> List Wnt
 | 0=>[]
 | i + 1=>wnG f ws i ++ [⟨f i,1 + ws[i]!.toUInt64⟩]
def alI (ws : List UInt32) : Nat -> UInt64
 | 0=>0
 | i + 1=>alI ws i + (1 + ws[i]!.toUInt64)
theorem wn_len (f : Nat -> List UInt8) (ws : List UInt32) (n : Nat) : (wnG f ws n).length = n:=by
 induction n with
 | zero=>rfl
 | succ n ih=>rw [wnG,List.length_append,ih]; rfl
theorem wn_get (f : Nat -> List UInt8) (ws : List UInt32) : ∀ n j,j < n -> (wnG f ws n)[j]! = ⟨f j,1 + ws[j]!.toUInt64⟩:=by
 intro n
 induction n with
 | zero=>intro j hj; exact absurd hj (Nat.not_lt_zero _)
 | succ n ih=>
  intro j hj
  have hl:=wn_len f ws n
  rw [wnG,getE (by rw [List.length_append,hl]; simpa using hj),List.getElem_append]
  split
  · rename_i h
    rw [<- getE h]; exact ih j (by omega)
  · rename_i h
    have : j = n:=by omega
    subst this
    simp [hl]
theorem one_val (x : UInt32) : (1 + x.toUInt64).toNat = 1 + x.toNat /\ 1 + x.toNat <= 4294967296:=by
 have h1:=u32_val x
 have h2 : x.toUInt64.toNat = x.toNat:=UInt32.toNat_toUInt64 x
 rw [UInt64.toNat_add]
 have e : (1 : UInt64).toNat = 1:=rfl
 rw [e,h2]
 omega
theorem al_nat (ws : List UInt32) : ∀ i ≤ 100,(alI ws i).toNat <= i * 4294967296:=by
 intro i
 induction i with
 | zero=>intro _; simp [alI]
 | succ i ih=>
  intro hi
  have h1:=ih (by omega)
  have h2:=one_val ws[i]!
  rw [alI,UInt64.toNat_add,Nat.mod_eq_of_lt (by omega)]
  omega
theorem wsum_al (f : Nat -> List UInt8) (ws : List UInt32) (n : Nat) : ∀ i ≤ n,wsumI (wnG f ws n) i = alI ws i:=by
 intro i
 induction i with
 | zero=>intro _; rfl
 | succ i ih=>intro hi; rw [wsumI,alI,ih (by omega),wn_get f ws n i (by omega)]
theorem wn_tot {f : Nat -> List UInt8} {ws : List UInt32} {n : Nat} (hf : ∀ i,(f i).length <= 1000) (h1 : 1 <= n) (h2 : n <= 8) : totP (wnG f ws n) /\ totV (wnG f ws n) = alI ws n:=by
 have hl:=wn_len f ws n
 have hN : wanN (wnG f ws n) = n:=by unfold wanN; omega
 have hF : wanF (wnG f ws n):=fun j hj=>by
  rw [hN] at hj
  rw [wn_get f ws n j hj]
  have h3:=one_val ws[j]!
  refine ⟨?_, ?_,hf j⟩
  · show ¬ (1 + ws[j]!.toUInt64 : UInt64) < 1
    rw [UInt64.lt_iff_toNat_lt,h3.1]
    have e : (1 : UInt64).toNat = 1:=rfl
    omega
  · show ¬ (2100000000000000 : UInt64) < 1 + ws[j]!.toUInt64
    rw [UInt64.lt_iff_toNat_lt,h3.1,MMn]
    omega
 have ha:=al_nat ws n (by omega)
 have hw : wanP (wnG f ws n):=⟨hF,by omega,by omega,by rw [hN,wsum_al f ws n n (Nat.le_refl _),UInt64.le_iff_toNat_le,MMn]; omega⟩
 have ht:=(tot_wan _).2 hw
 refine ⟨ht, ?_⟩
 rw [<- tot_wanV ht,wanV,if_pos hF,hN,wsum_al f ws n n (Nat.le_refl _)]
theorem wn_sane {l : List Un} {f : Nat -> List UInt8} {ws : List UInt32} {r : UInt64} {n : Nat} (hf : ∀ i,(f i).length <= 1000) (h1 : 1 <= n) (h2 : n <= 8) (hx : hs32 l) (hp : purP l) (hr : r.toNat <= 1000000) (hn : l.length <= 200) (hv : ∀ c ∈ l,c.value.toNat <= 4294967296) : Sane l (wnG f ws n) r where
 hx:=hx
 hp:=hp
 ht:=(wn_tot hf h1 h2).1
 hr:=hr
 hn:=hn
 hv:=hv
 hs:=by rw [(wn_tot hf h1 h2).2]; have:=al_nat ws n (by omega); omega
theorem fB_le (i : Nat) : (fB i).length <= 1000:=by simp [fB]
theorem neF {α : Type} [BEq α] [LawfulBEq α] {a b : α} (h : a = b) : (a != b) = false:=by subst h; simp
end Go.Sx

namespace Go.Sx
open Go.Proofs
theorem perm_of : ∀ (a b : List Un),a.Nodup -> (∀ x ∈ a,x ∈ b) -> b.length <= a.length -> a.Perm b
 | [],b,_,_,hl=>by
  have : b = []:=List.length_eq_zero_iff.1 (by simpa using hl)
  rw [this]
 | x :: a,b,hn,hs,hl=>by
  rw [List.nodup_cons] at hn
  have hx : x ∈ b:=hs x (by simp)
  have hp:=List.perm_cons_erase hx
  have hlen:=hp.length_eq
  rw [List.length_cons] at hlen
  refine (List.Perm.cons x (perm_of a (b.erase x) hn.2 (fun y hy=>?_) (by simp only [List.length_cons] at hl; omega))).trans hp.symm
  have hne : y ≠ x:=fun e=>by subst e; exact hn.1 hy
  have:=hp.mem_iff.1 (hs y (by simp [hy]))
  rcases List.mem_cons.1 this with h | h
  · exact absurd h hne
  · exact h
def tnI (l : List Un) (t : Nat) : Nat -> List Un
 | 0=>[]
 | i + 1=>tnI l t i ++ [l[(l.length - 1 - i + t) % l.length]!]
theorem tn_len (l : List Un) (t n : Nat) : (tnI l t n).length = n:=by
 induction n with
 | zero=>rfl
 | succ n ih=>rw [tnI,List.length_append,ih]; rfl
theorem tn_mem {l : List Un} {t n : Nat} {c : Un} (h : c ∈ tnI l t n) : ∃ i,i < n /\ c = l[(l.length - 1 - i + t) % l.length]!:=by
 induction n with
 | zero=>cases h
 | succ n ih=>
  rw [tnI] at h
  rcases List.mem_append.1 h with h | h
  · obtain ⟨i,hi,e⟩:=ih h; exact ⟨i,by omega,e⟩
  · exact ⟨n,by omega,List.mem_singleton.1 h⟩
theorem tn_app (l : List Un) (t i : Nat) : (tnI l t i).map coD ++ [coD l[(l.length - 1 - i + t) % l.length]!] = (tnI l t (i + 1)).map coD:=by
 rw [tnI,List.map_append]; rfl
theorem mod_ne {n a b : Nat} (hn : b < a) (hd : a - b < n) : a % n ≠ b % n:=fun e=>by
 have:=Nat.sub_mod_eq_zero_of_mod_eq e
 rw [Nat.mod_eq_of_lt hd] at this
 omega
theorem tn_nodup {l : List Un} (hp : purP l) (t : Nat) : ∀ n ≤ l.length,(tnI l t n).Nodup:=by
 intro n
 induction n with
 | zero=>intro _; exact List.nodup_nil
 | succ n ih=>
  intro hn
  rw [tnI,List.nodup_append]
  refine ⟨ih (by omega),by simp,fun a ha b hb=>?_⟩
  obtain ⟨i,hi,rfl⟩:=tn_mem ha
  rw [List.mem_singleton] at hb
  subst hb
  intro e
  have h1:=nodup_get (pur_nodup hp) (i:=(l.length - 1 - i + t) % l.length) (j:=(l.length - 1 - n + t) % l.length) (Nat.mod_lt _ (by omega)) (Nat.mod_lt _ (by omega)) (by rw [e])
  exact mod_ne (n:=l.length) (a:=l.length - 1 - i + t) (b:=l.length - 1 - n + t) (by omega) (by omega) h1
theorem tn_perm {l : List Un} (hp : purP l) (t : Nat) : (tnI l t l.length).Perm l:=
 perm_of _ _ (tn_nodup hp t _ (Nat.le_refl _)) (fun x hx=>by
  obtain ⟨i,hi,rfl⟩:=tn_mem hx
  exact get_in (Nat.mod_lt _ (by omega))) (by rw [tn_len]; exact Nat.le_refl _)
theorem pur_perm {l s : List Un} (h : s.Perm l) (hp : purP l) : purP s:=by
 refine fun i hi=>⟨purI_no fun k hk e=>?_, ?_⟩
 · have:=nodup_get ((h.map upl).nodup_iff.2 (pur_nodup hp)) (i:=k) (j:=i) (by omega) hi e
   omega
 · obtain ⟨j,hj,e⟩:=mem_get (h.mem_iff.1 (get_in hi))
   rw [<- e]
   exact (hp j hj).2
theorem sort_perm {l s : List Un} (h : s.Perm l) (hx : hs32 l) (hp : purP l) : sortU s = sortU l:=
 sortU_uniq (hs_perm h hx) (pur_perm h hp) ((sortU_perm hx).trans h.symm) (sortU_pair hx hp)
theorem ch_perm {l s : List Un} (h : s.Perm l) (hx : hs32 l) (hp : purP l) (w : List Wnt) (r : UInt64) : chC s w r = chC l w r /\ chV s w r = chV l w r /\ chE s w r = chE l w r:=by
 have h1:=sort_perm h hx hp
 have h2:=h.length_eq
 have h3 : chP s w r ↔ chP l w r:=⟨fun ⟨a,_,c⟩=>⟨a,hp,c⟩,fun ⟨a,_,c⟩=>⟨a,pur_perm h hp,c⟩⟩
 have h4 : ∀ i,chL s w r i ↔ chL l w r i:=fun i=>by unfold chL; rw [h1]
 have h5 : chF s w r = chF l w r:=by
  unfold chF
  rw [h2]
  congr 1
  funext i
  simp only [h4]
 refine ⟨?_, ?_, ?_⟩
 · unfold chC; simp only [h3,h5,h1]
 · unfold chV; simp only [h3,h5,h1]
 · unfold chE; simp only [h3,h5]
theorem mk_perm {l s : List Un} (h : s.Perm l) (hx : hs32 l) (hp : purP l) (w : List Wnt) (own : List UInt8) (r : UInt64) : mkT s w own r = mkT l w own r /\ mkE s w own r = mkE l w own r:=by
 obtain ⟨h1,h2,h3⟩:=ch_perm h hx hp w r
 have h4 : mkX s w own r = mkX l w own r:=by unfold mkX; rw [h1,h2]
 have h5 : mkE s w own r = mkE l w own r:=by unfold mkE; rw [h3,h4]
 exact ⟨by unfold mkT; rw [h5,h4],h5⟩
theorem choose_perm {l s : List Un} (h : s.Perm l) (hx : hs32 l) (hp : purP l) (w : List Wnt) (r : UInt64) (hl : l.length <= 4096) (hw : w.length <= 1000000) :
 Fn Try.prog gl 11 [.sl none 35 (s.map coD),.sl none 2 (w.map wntD),.u64 r] (.tup [.sl none 35 ((chC l w r).map coD),.u64 (chV l w r),.int (chE l w r)]):=by
 obtain ⟨h1,h2,h3⟩:=ch_perm h hx hp w r
 have:=choose_ok s w r (by rw [h.length_eq]; exact hl) (hs_perm h hx) hw
 rwa [h1,h2,h3] at this
theorem make_perm {l s : List Un} (h : s.Perm l) (hx : hs32 l) (hp : purP l) (w : List Wnt) (r : UInt64) (hl : l.length <= 4096) (hw : w.length <= 1000000) (own : List UInt8) (ho : own.length <= 1000000) :
 Fn Try.prog gl 15 [.sl none 35 (s.map coD),.sl none 2 (w.map wntD),.sl none 1 (own.map D.u8),.u64 r] (.tup [txD (mkT l w own r),.int (mkE l w own r)]):=by
 obtain ⟨h1,h2⟩:=mk_perm h hx hp w own r
 have:=make_ok s w r (by rw [h.length_eq]; exact hl) (hs_perm h hx) hw own ho
 rwa [h1,h2] at this
theorem kGet_at {l : List Un} (hp : purP l) : ∀ k ≤ l.length,∀ j < k,kGet 0 (purI l k) (upl l[j]!) = l[j]!.value:=by
 intro k
 induction k with
 | zero=>intro _ j hj; exact absurd hj (Nat.not_lt_zero _)
 | succ k ih=>
  intro hk j hj
  rw [purI]
  rcases Nat.lt_succ_iff_lt_or_eq.1 hj with h | h
  · rw [kGet_skip (fun e=>pur_ne hp h (by omega) e.symm)]
    exact ih (by omega) j h
  · subst h
    exact kGet_last (hp j (by omega)).1
theorem map_get {α β : Type} [Inhabited α] [Inhabited β] (f : α -> β) {l : List α} {i : Nat} (h : i < l.length) : (l.map f)[i]! = f l[i]!:=by
 rw [getE (by simpa using h),getE h,List.getElem_map]
theorem in_sum {l c : List Un} {t : TxS} (hp : purP l) (hc : ∀ x ∈ c,x ∈ l) (ht : t.ins = c.map mkI) : ∀ i ≤ c.length,inI l t i = sumU c i /\ ∀ j < i,ckI l t j:=by
 intro i
 induction i with
 | zero=>intro _; exact ⟨rfl,fun j hj=>absurd hj (Nat.not_lt_zero _)⟩
 | succ i ih=>
  intro hi
  obtain ⟨h1,h2⟩:=ih (by omega)
  obtain ⟨j,hj,e⟩:=mem_get (hc _ (get_in (l:=c) (i:=i) (by omega)))
  have hpl : plc t.ins[i]! = upl l[j]!:=by rw [ht,map_get mkI (by omega),e]; rfl
  refine ⟨?_,ext_i h2 ?_⟩
  · rw [inI,sumU,h1,hpl,kGet_at hp _ (Nat.le_refl _) j hj,e]
  · show kHas _ _ = true
    rw [hpl]
    exact purI_iff.2 ⟨j,hj,rfl⟩
def onI (os : List OutS) : Nat -> Nat
 | 0=>0
 | j + 1=>onI os j + os[j]!.value.toNat
theorem on_mono (os : List OutS) {i j : Nat} (h : i <= j) : onI os i <= onI os j:=by
 induction j with
 | zero=>
  have : i = 0:=by omega
  subst this; exact Nat.le_refl _
 | succ j ih=>
  rcases Nat.lt_or_eq_of_le h with h1 | h1
  · have:=ih (by omega); rw [onI]; omega
  · subst h1; exact Nat.le_refl _
theorem lft_nat {l : List Un} {t : TxS} {S : UInt64} (h0 : inI l t t.ins.length = S) (hs : onI t.outs t.outs.length <= S.toNat) : ∀ j ≤ t.outs.length,(lftO l t j).toNat = S.toNat - onI t.outs j:=by
 intro j
 induction j with
 | zero=>intro _; rw [lftO,h0,onI]; rfl
 | succ j ih=>
  intro hj
  have h1:=ih (by omega)
  have h2:=on_mono t.outs (i:=j + 1) (j:=t.outs.length) hj
  rw [onI] at h2
  rw [lftO,UInt64.toNat_sub_of_le _ _ (UInt64.le_iff_toNat_le.2 (by rw [h1]; omega)),h1,onI]
  omega
theorem lft_same {l l' : List Un} {t : TxS} (h : inI l t t.ins.length = inI l' t t.ins.length) : ∀ j,lftO l t j = lftO l' t j:=by
 intro j
 induction j with
 | zero=>exact h
 | succ j ih=>rw [lftO,lftO,ih]
theorem ck_good {l c : List Un} {t : TxS} (hp : purP l) (hc : ∀ x ∈ c,x ∈ l) (ht : t.ins = c.map mkI) (hm : mayS t = true) (hs : onI t.outs t.outs.length <= (sumU c c.length).toNat) : ckE l t = 0 /\ ckV l t = lftO l t t.outs.length:=by
 have hl : t.ins.length = c.length:=by rw [ht,List.length_map]
 obtain ⟨h1,h2⟩:=in_sum hp hc ht c.length (Nat.le_refl _)
 rw [<- hl] at h1 h2
 have hq : ckQ l t:=⟨h2,fun j hj=>by
  have h3:=lft_nat (S:=sumU c c.length) (by rw [h1,hl]) hs j (by omega)
  have h4:=on_mono t.outs (i:=j + 1) (j:=t.outs.length) hj
  rw [onI] at h4
  rw [UInt64.lt_iff_toNat_lt,h3]
  omega⟩
 have hP : ckP l t:=⟨hp,hm⟩
 exact ⟨by rw [ckE,if_pos hP,if_pos hq],by rw [ckV,if_pos ⟨hP,hq⟩]⟩
section
variable {l : List Un} {r : UInt64} {f : Nat -> List UInt8} {ws : List UInt32} {n : Nat}
theorem on_wants (hf : ∀ i,(f i).length <= 1000) (tl : List OutS) : ∀ j ≤ n,n <= 100 -> onI ((wnG f ws n).map woS ++ tl) j = (alI ws j).toNat:=by
 intro j
 induction j with
 | zero=>intro _ _; rfl
 | succ j ih=>
  intro hj hn
  have h1:=one_val ws[j]!
  have h2:=al_nat ws j (by omega)
  have hg : ((wnG f ws n).map woS ++ tl)[j]! = woS (wnG f ws n)[j]!:=by
   have hl : j < ((wnG f ws n).map woS).length:=by rw [List.length_map,wn_len]; omega
   rw [getE (by rw [List.length_append]; omega),List.getElem_append_left hl,<- getE hl,map_get woS (by rw [wn_len]; omega)]
  rw [onI,ih (by omega) hn,alI,UInt64.toNat_add,hg,wn_get f ws n j (by omega)]
  show _ + (1 + ws[j]!.toUInt64 : UInt64).toNat = _
  rw [h1.1]
  exact (Nat.mod_eq_of_lt (by omega)).symm
theorem Sane.le {w : List Wnt} (G : Sane l w r) (h : chE l w r = 0) : (totV w).toNat + (chV l w r).toNat <= (sumU (chC l w r) (chC l w r).length).toNat:=by
 rw [G.csum h _ (Nat.le_refl _)]
 obtain ⟨i,h1,_,h3,_,_,h6,h7⟩:=G.E h
 rw [h6]
 have hm:=G.m h1
 have n546 : (546 : UInt64).toNat = 546:=rfl
 have hadd : (chM w r i + 546).toNat = (chM w r i).toNat + 546:=by rw [UInt64.toNat_add,n546,Nat.mod_eq_of_lt (by omega)]
 rw [G.L h1] at h3
 have hsu:=(sumU_nat G.sv (i + 1) (by rw [sortU_len]; omega) (by have:=G.hn; omega)).1
 rw [h7]
 split
 · rename_i hc
   rw [UInt64.le_iff_toNat_le,hadd] at hc
   rw [UInt64.toNat_sub_of_le _ _ (UInt64.le_iff_toNat_le.2 (by omega))]
   omega
 · show _ + 0 <= _
   rw [hsu]
   omega
theorem turned_on (G : Sane l (wnG f ws n) r) (hf : ∀ i,(f i).length <= 1000) (h1 : 1 <= n) (h2 : n <= 8) (own : List UInt8) (h : chE l (wnG f ws n) r = 0) :
 onI (mkX l (wnG f ws n) own r).outs (mkX l (wnG f ws n) own r).outs.length <= (sumU (chC l (wnG f ws n) r) (chC l (wnG f ws n) r).length).toNat:=by
 have h3:=G.le h
 rw [(wn_tot hf h1 h2).2] at h3
 show onI (mkO _ _ _) (mkO _ _ _).length <= _
 unfold mkO
 split
 · have h4:=on_wants (f:=f) (ws:=ws) (n:=n) hf [(⟨chV l (wnG f ws n) r,own⟩ : OutS)] n (Nat.le_refl _) (by omega)
   have hl : ((wnG f ws n).map woS ++ [(⟨chV l (wnG f ws n) r,own⟩ : OutS)]).length = n + 1:=by rw [List.length_append,List.length_map,wn_len]; rfl
   rw [hl,onI,h4]
   have : ((wnG f ws n).map woS ++ [(⟨chV l (wnG f ws n) r,own⟩ : OutS)])[n]! = ⟨chV l (wnG f ws n) r,own⟩:=by
    rw [getE (by omega),List.getElem_append_right (by rw [List.length_map,wn_len]; exact Nat.le_refl _)]
    simp [wn_len]
   rw [this]
   exact h3
 · have h4:=on_wants (f:=f) (ws:=ws) (n:=n) hf [] n (Nat.le_refl _) (by omega)
   rw [List.append_nil] at h4
   rw [List.length_map,wn_len,h4]
   omega
theorem Sane.last {w : List Wnt} (G : Sane l w r) (h : chE l w r = 0) : ¬ 0 < (chC l w r)[(chC l w r).length - 1]!.value -> (chC l w r).length = 1:=by
 obtain ⟨i,h1,h2,h3,_,_,h6,_⟩:=G.E h
 intro hz
 rw [h6] at hz ⊢
 rcases Nat.eq_zero_or_pos i with h0 | h0
 · omega
 · exfalso
   have hg:=G.cget h (j:=i + 1 - 1) (by omega)
   rw [hg.1,UInt64.lt_iff_toNat_lt] at hz
   have e0 : (0 : UInt64).toNat = 0:=rfl
   rw [e0,Nat.add_sub_cancel] at hz
   have h4:=(G.L (i:=i - 1) (by omega)).1 (h2 (i - 1) (by omega))
   rw [show i - 1 + 1 = i by omega] at h4
   apply h3
   rw [G.L h1,take_s (by rw [sortU_len]; exact h1),nsum_app]
   have e1 : nsum [(sortU l)[i]!] = (sortU l)[i]!.value.toNat:=by simp [nsum]
   rw [e1]
   have : (10 + 148 * i + 34 * w.length) * r.toNat <= (10 + 148 * (i + 1) + 34 * w.length) * r.toNat:=Nat.mul_le_mul_right _ (by omega)
   omega
end
theorem mkE_0 {l : List Un} {w : List Wnt} {own : List UInt8} {r : UInt64} (h : mkE l w own r = 0) : chE l w r = 0 /\ mayS (mkX l w own r) = true /\ mkT l w own r = mkX l w own r:=by
 have h':=h
 unfold mkE at h
 split at h
 · rename_i h1
   split at h
   · cases h
   · split at h
     · rename_i h3; exact ⟨h1,h3,by unfold mkT; rw [if_pos h']⟩
     · cases h
 · rename_i h1; exact absurd h h1
theorem mkE_n {l : List Un} {w : List Wnt} {r : UInt64} {b : UInt8} (h : ¬ mkE l w [b] r = 0) : (chE l w r = 0 -> mkE l w [b] r = 6) /\ (¬ chE l w r = 0 -> mkE l w [b] r = chE l w r):=by
 unfold mkE at h ⊢
 split
 · rename_i h1
   refine ⟨fun _=>?_,fun h2=>absurd h1 h2⟩
   rw [if_neg (by simp)]
   split
   · rename_i h3
     rw [if_pos h1,if_neg (by simp),if_pos h3] at h
     exact absurd rfl h
   · rfl
 · rename_i h1
   exact ⟨fun h2=>absurd h2 h1,fun _=>rfl⟩
theorem others_app (t : List Un) (os : List UInt32) (i : Nat) : (t ++ cnF f1 os i).map coD ++ [coD (coinS (f1 i) os[i]!.toUInt64)] = (t ++ cnF f1 os (i + 1)).map coD:=by
 rw [cnF,<- List.append_assoc,List.map_append (l₂:=[_])]; rfl
theorem others_pur {vs os : List UInt32} {t : List Un} (h1 : vs.length <= 60) (h2 : os.length <= 60) (ht : t.Perm (cnF f0 vs vs.length)) : purP (t ++ cnF f1 os os.length):=by
 refine pur_of ?_ fun c hc=>?_
 · rw [List.map_append,List.nodup_append]
   refine ⟨(ht.map upl).nodup_iff.2 (cn_nodup (f0_ne (by omega))),cn_nodup (f1_ne (by omega)),fun a ha b hb=>?_⟩
   obtain ⟨c,hc,rfl⟩:=List.mem_map.1 ha
   obtain ⟨d,hd,rfl⟩:=List.mem_map.1 hb
   obtain ⟨i,hi,rfl⟩:=cn_mem (ht.mem_iff.1 hc)
   obtain ⟨j,hj,rfl⟩:=cn_mem hd
   intro e
   have:=congrArg UInt8.toNat (coin_upl e)
   rw [f0_nat,f1_nat] at this
   omega
 · have : c.value.toNat <= 4294967295:=by
    rcases List.mem_append.1 hc with h | h
    · exact cn_val c (ht.mem_iff.1 h)
    · exact cn_val c h
   omega
theorem others_hs {vs os : List UInt32} {t : List Un} (ht : t.Perm (cnF f0 vs vs.length)) : hs32 (t ++ cnF f1 os os.length):=fun c hc=>by
 rcases List.mem_append.1 hc with h | h
 · exact cn_hs _ _ _ c (ht.mem_iff.1 h)
 · exact cn_hs _ _ _ c h
theorem turned_sane {vs ws : List UInt32} {rate : UInt16} (h1 : vs.length <= 60) (h2 : ws.length <= 8) (h3 : ¬ ws.length = 0) : Sane (cnF f0 vs vs.length) (wnG fB ws ws.length) (rr rate):=
 wn_sane fB_le (by omega) h2 (cn_hs _ _ _) (cn_pur (by omega)) (by have:=rr_le rate; omega) (by rw [cn_len]; omega) fun c hc=>by have:=cn_val c hc; omega
theorem mkX_ins (l : List Un) (w : List Wnt) (own : List UInt8) (r : UInt64) : (mkX l w own r).ins.length = (chC l w r).length:=by simp [mkX]
theorem same_no (c : List Un) : (!(decide (c = c))) = false:=by rw [decide_eq_true rfl]; rfl
theorem tx_no (t : TxS) : (!(sameS t t)) = false:=by rw [same_refl]; rfl
def wntO (w : Wnt) : D:=.agg [.sl (some 5) 1 (w.script.map D.u8),.u64 w.value]
theorem wnO_app (ws : List UInt32) (i : Nat) : (wnG fB ws i).map wntO ++ [.agg [.sl (some 5) 1 [D.u8 (f0 i)],.u64 (1 + ws[i]!.toUInt64)]] = (wnG fB ws (i + 1)).map wntO:=by
 rw [wnG,List.map_append]; rfl
theorem brw_wnO (w : Wnt) : (wntO w).brw = wntD w:=by
 simp only [wntO,wntD,D.brw,brws_eq,List.map_cons,List.map_nil]
 rw [brw_mapO (g:=D.u8) (fun _=>rfl)]; rfl
theorem brw_wnOs (o : Option Nat) (l : List Wnt) : (D.sl o 2 (l.map wntO)).brw = .sl none 2 (l.map wntD):=by
 simp only [D.brw,brws_eq]; rw [brw_mapO brw_wnO]
end Go.Sx

namespace Go.Sx
open Go.Proofs
set_option maxHeartbeats 2000000 in
theorem turned_ok (vs ws : List UInt32) (rate : UInt16) (turn : UInt8) (os : List UInt32) (hv0 : vs.length <= 140737488355328) (hw0 : ws.length <= 140737488355328) (ho0 : os.length <= 140737488355328) : Fn Try.prog gl 5 [.sl none 1 (vs.map D.u32),.sl none 1 (ws.map D.u32),.u16 rate,.u8 turn,.sl none 1 (os.map D.u32)] (.bool true):=by
 refine Fn.of (n:=295) Try.func5 rfl rfl rfl (nU rfl) fun C hC hD=>?_
 have hcl0:=cn_len f0 vs vs.length
 have hwl0:=wn_len fB ws ws.length
 have htl:=turn.toNat_lt
 refine W.seq ?_
 refine W.l0 1 [.y 10 _] [] [] [(0,_),(1,_),(2,_),(3,_),(4,_)] [] 295 ⟨aU fun _ _ H _=>R.asg (kB false O) O H,Zt⟩ O O O O (tU O ?_)
 refine W.seq (W.seq ?_)
 by_cases k1 : 60 < vs.length
 · refine W.l0 18 [.y 37 _,.y 38 _,.y 39 _,.y 40 _,.x 41,.x 42,.x 43,.y 44 _,.y 45 _,.x 46,.x 47,.x 48,.y 49 _,.y 50 _,.x 51,.x 52,.x 53,.y 54 _] [] [] [(0,_),(1,_),(2,_),(3,_),(4,_),(54,_)] [] 295 ⟨mU 0 O O,aU fun _ _ H K=>R.lenE (SC.sl (K 37 _ O)) (lN _) H,aU fun _ _ H K=>R.gtrN (vs.length) (60) (eU K 38 O) (kI 60 O) H,mU 39 O O,aF O O (gT (dT k1) O),aF O O (gT (dT k1) O),aF O O (gT (dT k1) O),aU fun _ _ H K=>R.pickT (eU K 40 O) (dT k1) (kB true O) O H,mU 44 O O,aF O O (gT (O) O),aF O O (gT (O) O),aF O O (gT (O) O),aU fun _ _ H K=>R.pickT (eU K 45 O) (O) (kB true O) O H,mU 49 O O,aF O O (gT (O) O),aF O O (gT (O) O),aF O O (gT (O) O),aU fun _ _ H K=>R.pickT (eU K 50 O) (O) (kB true O) O H,Zt⟩ O O O O (tU O ?_)
   refine W.condT O (O) ?_
   refine W.seq ?_
   refine W.l0 2 [.y 55 _,.y 10 _] [] [] [(10,_)] [] 295 ⟨aU fun _ _ H _=>R.callG hC (works_ok) Bn (FrsR.one (.bool _)) H,aU fun _ _ H K=>R.asg (eU K 55 O) O H,Zt⟩ O O O O (tU O ?_)
   refine W.ret ?_
   exact Ends.one' (.inr O) O (O) O O Zt
 · by_cases k2 : 8 < ws.length
   · refine W.l0 18 [.y 37 _,.y 38 _,.y 39 _,.y 40 _,.y 41 _,.y 42 _,.y 43 _,.y 44 _,.y 45 _,.x 46,.x 47,.x 48,.y 49 _,.y 50 _,.x 51,.x 52,.x 53,.y 54 _] [] [] [(0,_),(1,_),(2,_),(3,_),(4,_),(54,_)] [] 295 ⟨mU 0 O O,aU fun _ _ H K=>R.lenE (SC.sl (K 37 _ O)) (lN _) H,aU fun _ _ H K=>R.gtrN (vs.length) (60) (eU K 38 O) (kI 60 O) H,mU 39 O O,aW O O (gF (dF k1) O) fun _ _ H K=>R.mov (eU K 1 O) O H,aW O O (gF (dF k1) O) fun _ _ H K=>R.lenE (SC.sl (K 41 _ O)) (lN _) H,aW O O (gF (dF k1) O) fun _ _ H K=>R.gtrN (ws.length) (8) (eU K 42 O) (kI 8 O) H,aU fun _ _ H K=>R.pickF (eU K 40 O) (dF k1) (eU K 43 O) O H,mU 44 O O,aF O O (gT (dT k2) O),aF O O (gT (dT k2) O),aF O O (gT (dT k2) O),aU fun _ _ H K=>R.pickT (eU K 45 O) (dT k2) (kB true O) O H,mU 49 O O,aF O O (gT (O) O),aF O O (gT (O) O),aF O O (gT (O) O),aU fun _ _ H K=>R.pickT (eU K 50 O) (O) (kB true O) O H,Zt⟩ O O O O (tU O ?_)
     refine W.condT O (O) ?_
     refine W.seq ?_
     refine W.l0 2 [.y 55 _,.y 10 _] [] [] [(10,_)] [] 295 ⟨aU fun _ _ H _=>R.callG hC (works_ok) Bn (FrsR.one (.bool _)) H,aU fun _ _ H K=>R.asg (eU K 55 O) O H,Zt⟩ O O O O (tU O ?_)
     refine W.ret ?_
     exact Ends.one' (.inr O) O (O) O O Zt
   · by_cases k3 : ws.length = 0
     · refine W.l0 18 [.y 37 _,.y 38 _,.y 39 _,.y 40 _,.y 41 _,.y 42 _,.y 43 _,.y 44 _,.y 45 _,.y 46 _,.y 47 _,.y 48 _,.y 49 _,.y 50 _,.x 51,.x 52,.x 53,.y 54 _] [] [] [(0,_),(1,_),(2,_),(3,_),(4,_),(54,_)] [] 295 ⟨mU 0 O O,aU fun _ _ H K=>R.lenE (SC.sl (K 37 _ O)) (lN _) H,aU fun _ _ H K=>R.gtrN (vs.length) (60) (eU K 38 O) (kI 60 O) H,mU 39 O O,aW O O (gF (dF k1) O) fun _ _ H K=>R.mov (eU K 1 O) O H,aW O O (gF (dF k1) O) fun _ _ H K=>R.lenE (SC.sl (K 41 _ O)) (lN _) H,aW O O (gF (dF k1) O) fun _ _ H K=>R.gtrN (ws.length) (8) (eU K 42 O) (kI 8 O) H,aU fun _ _ H K=>R.pickF (eU K 40 O) (dF k1) (eU K 43 O) O H,mU 44 O O,aW O O (gF (dF k2) O) fun _ _ H K=>R.mov (eU K 1 O) O H,aW O O (gF (dF k2) O) fun _ _ H K=>R.lenE (SC.sl (K 46 _ O)) (lN _) H,aW O O (gF (dF k2) O) fun _ _ H K=>R.eqlN (ws.length) (0) (eU K 47 O) (kI 0 O) H,aU fun _ _ H K=>R.pickF (eU K 45 O) (dF k2) (eU K 48 O) O H,mU 49 O O,aF O O (gT (dT k3) O),aF O O (gT (dT k3) O),aF O O (gT (dT k3) O),aU fun _ _ H K=>R.pickT (eU K 50 O) (dT k3) (kB true O) O H,Zt⟩ O O O O (tU O ?_)
       refine W.condT O (O) ?_
       refine W.seq ?_
       refine W.l0 2 [.y 55 _,.y 10 _] [] [] [(10,_)] [] 295 ⟨aU fun _ _ H _=>R.callG hC (works_ok) Bn (FrsR.one (.bool _)) H,aU fun _ _ H K=>R.asg (eU K 55 O) O H,Zt⟩ O O O O (tU O ?_)
       refine W.ret ?_
       exact Ends.one' (.inr O) O (O) O O Zt
     · refine W.l0 18 [.y 37 _,.y 38 _,.y 39 _,.y 40 _,.y 41 _,.y 42 _,.y 43 _,.y 44 _,.y 45 _,.y 46 _,.y 47 _,.y 48 _,.y 49 _,.y 50 _,.y 51 _,.y 52 _,.y 53 _,.y 54 _] [] [] [(0,_),(1,_),(2,_),(3,_),(4,_),(54,_)] [] 295 ⟨mU 0 O O,aU fun _ _ H K=>R.lenE (SC.sl (K 37 _ O)) (lN _) H,aU fun _ _ H K=>R.gtrN (vs.length) (60) (eU K 38 O) (kI 60 O) H,mU 39 O O,aW O O (gF (dF k1) O) fun _ _ H K=>R.mov (eU K 1 O) O H,aW O O (gF (dF k1) O) fun _ _ H K=>R.lenE (SC.sl (K 41 _ O)) (lN _) H,aW O O (gF (dF k1) O) fun _ _ H K=>R.gtrN (ws.length) (8) (eU K 42 O) (kI 8 O) H,aU fun _ _ H K=>R.pickF (eU K 40 O) (dF k1) (eU K 43 O) O H,mU 44 O O,aW O O (gF (dF k2) O) fun _ _ H K=>R.mov (eU K 1 O) O H,aW O O (gF (dF k2) O) fun _ _ H K=>R.lenE (SC.sl (K 46 _ O)) (lN _) H,aW O O (gF (dF k2) O) fun _ _ H K=>R.eqlN (ws.length) (0) (eU K 47 O) (kI 0 O) H,aU fun _ _ H K=>R.pickF (eU K 45 O) (dF k2) (eU K 48 O) O H,mU 49 O O,aW O O (gF (dF k3) O) fun _ _ H K=>R.mov (eU K 4 O) O H,aW O O (gF (dF k3) O) fun _ _ H K=>R.lenE (SC.sl (K 51 _ O)) (lN _) H,aW O O (gF (dF k3) O) fun _ _ H K=>R.gtrN (os.length) (60) (eU K 52 O) (kI 60 O) H,aU fun _ _ H K=>R.pickF (eU K 50 O) (dF k3) (eU K 53 O) O H,Zt⟩ O O O O (tU O ?_)
       refine W.condD O (fun hc54=>?_) (fun hc54=>?_)
       · refine W.seq ?_
         refine W.l0 2 [.y 55 _,.y 10 _] [] [] [(10,_)] [] 295 ⟨aU fun _ _ H _=>R.callG hC (works_ok) Bn (FrsR.one (.bool _)) H,aU fun _ _ H K=>R.asg (eU K 55 O) O H,Zt⟩ O O O O (tU O ?_)
         refine W.ret ?_
         exact Ends.one' (.inr O) O (O) O O Zt
       · refine W.skip (W.seq ?_)
         refine W.l0 4 [.y 56 _,.y 57 _,.y 58 _,.y 11 _] [] [] [(0,_),(1,_),(3,_),(4,_),(11,_)] [] 295 ⟨mU 2 O O,aU fun _ _ H K=>R.bin (eU K 56 O) (show ev _ _ (.const (.int .u16 1000)) = some (.u16 1000) from O) O dU H,aU fun _ _ H K=>R.convE (d:=.u64 (rr rate)) (eU K 57 O) O (O) H,aU fun _ _ H K=>R.asg (eU K 58 O) O H,Zt⟩ O O O O (tU O ?_)
         refine W.seq ?_
         refine W.l0 1 [.y 12 _] [] [] [(0,_),(1,_),(3,_),(4,_),(11,_),(12,_)] [] 295 ⟨aU fun _ _ H _=>R.asg (kN O) O H,Zt⟩ O O O O (tU O ?_)
         refine W.seq ?_
         refine W.l0 1 [.y 13 _] [] [] [(0,_),(1,_),(3,_),(4,_),(11,_),(12,_),(13,_)] [] 295 ⟨aU fun _ _ H _=>R.asg (kN O) O H,Zt⟩ O O O O (tU O ?_)
         refine W.seq (W.seq ?_)
         refine W.l0 1 [.y 14 _] [] [] [(0,_),(1,_),(3,_),(4,_),(11,_),(12,_),(13,_),(14,_)] [] 295 ⟨aU fun _ _ H _=>R.asg (kI 0 O) O H,Zt⟩ O O O O (tU O ?_)
         refine W.block ?_
         refine W.asOwn (s:=12) 67 35 O ?_
         refine W.loop (α:={q__ : Nat // q__ <= vs.length}) (fun q__=>⟨295,[(0,.sl none 1 (vs.map D.u32)),(1,.sl none 1 (ws.map D.u32)),(3,.u8 turn),(4,.sl none 1 (os.map D.u32)),(11,.u64 (rr rate)),(12,.sl (some 67) 35 ((cnF f0 vs q__.1).map coD)),(13,.nils),(14,.int ((q__.1 : Nat) : Int))],[]⟩) (fun q__=>vs.length - q__.1) ⟨(0),bU⟩ O ?_
         rintro ⟨i,hi⟩
         show W _ _ _ _ ⟨295,[(0,.sl none 1 (vs.map D.u32)),(1,.sl none 1 (ws.map D.u32)),(3,.u8 turn),(4,.sl none 1 (os.map D.u32)),(11,.u64 (rr rate)),(12,.sl (some 67) 35 ((cnF f0 vs i).map coD)),(13,.nils),(14,.int ((i : Nat) : Int))],[]⟩
         have hi : i <= vs.length:=hi
         have hci:=cn_len f0 vs i
         refine W.seq (W.seq ?_)
         refine W.l0 4 [.y 59 _,.y 60 _,.y 61 _,.y 62 _] [] [] [(0,_),(1,_),(3,_),(4,_),(11,_),(12,_),(13,_),(14,_),(62,_)] [] 295 ⟨mU 14 O O,mU 0 O O,aU fun _ _ H K=>R.lenE (SC.sl (K 60 _ O)) (lN _) H,aU fun _ _ H K=>R.lssN (i) (vs.length) (eU K 59 O) (eU K 61 O) H,Zt⟩ O O O O (tU O ?_)
         refine W.condD O (fun hc62=>?_) (fun hc62=>?_)
         · refine W.skip (W.seq (W.block ?_))
           refine W.l0 12 [.y 65 _,.y 66 _,.y 67 _,.y 68 _,.y 69 _,.y 70 _,.y 71 _,.y 72 _,.y 73 _,.y 74 _,.y 75 _,.y 12 _] [(10,12),(11,75),(11,65)] [(10,12),(11,75)] [(0,_),(1,_),(3,_),(4,_),(11,_),(12,_),(13,_),(14,_)] [] 295 ⟨aU fun _ _ H K=>R.al (K 12 _ O) H dU,mU 14 O O,aU fun _ _ H K=>R.convE (d:=.u8 (f0 i)) (eU K 66 O) O (O) H,mU 0 O O,mU 14 O O,aU fun _ _ H K=>R.idxN (i) (SC.sl (K 68 _ O)) (evoI (eU K 69 O)) O bU H dU,aU fun _ _ H K=>R.ldE (K 70 _ O) (SC.sl (K 68 _ O)) (map_get! (l:=vs) bU) O O O O H,aU fun _ _ H K=>R.convE (d:=.u64 vs[i]!.toUInt64) (eU K 71 O) O (O) H,aU fun _ _ H K=>R.callG hC (coin_ok (f0 i) vs[i]!.toUInt64) (Bc (Bp (eU K 67 O) O O) (Bc (Bp (eU K 72 O) O O) Bn)) (FrsR.one (frs_coD _)) H,aU fun _ _ H K=>R.bslE (z:=35) (.cons (eU K 73 O) .nil) ⟨⟨O,O,O⟩,Zt⟩ O H dU,aU fun _ _ H K=>R.appE (Or.inr (K 65 _ O)) (K 12 _ O) (SrcO.sc (SC.sl (K 74 _ O)) (pur_lit O)) (show _ = ((cnF f0 vs (i + 1)).map coD) from (cnF_app _ _ _)) (by simp only [List.length_map,List.length_cons,List.length_nil,cn_len]; omega) H dU dU,aU fun _ _ H K=>R.asgO (K 75 _ O) O H dU,Zt⟩ O O O O (tU O ?_)
           refine W.l0 3 [.y 63 _,.y 64 _,.y 14 _] [] [] [(0,_),(1,_),(3,_),(4,_),(11,_),(12,_),(13,_),(14,_)] [] 295 ⟨mU 14 O O,aU fun _ _ H K=>R.addN (i) (1) (eU K 63 O) (kI 1 O) bU H,aU fun _ _ H K=>R.asg (eU K 64 O) O H,Zt⟩ O O O O (tU O ?_)
           exact ⟨⟨(i + 1),bU⟩,rfl,(by simp only []; omega)⟩
         · obtain rfl : i = vs.length:=by omega
           refine W.exit (W.seq (W.seq ?_))
           refine W.l0 1 [.y 15 _] [] [] [(1,_),(3,_),(4,_),(11,_),(12,_),(13,_),(15,_)] [] 295 ⟨aU fun _ _ H _=>R.asg (kI 0 O) O H,Zt⟩ O O O O (tU O ?_)
           refine W.block ?_
           refine W.asOwn (s:=13) 70 2 O ?_
           refine W.loop (α:={q__ : Nat // q__ <= ws.length}) (fun q__=>⟨295,[(1,.sl none 1 (ws.map D.u32)),(3,.u8 turn),(4,.sl none 1 (os.map D.u32)),(11,.u64 (rr rate)),(12,.sl (some 67) 35 ((cnF f0 vs vs.length).map coD)),(13,.sl (some 70) 2 ((wnG fB ws q__.1).map wntO)),(15,.int ((q__.1 : Nat) : Int))],[]⟩) (fun q__=>ws.length - q__.1) ⟨(0),bU⟩ O ?_
           rintro ⟨i,hi⟩
           show W _ _ _ _ ⟨295,[(1,.sl none 1 (ws.map D.u32)),(3,.u8 turn),(4,.sl none 1 (os.map D.u32)),(11,.u64 (rr rate)),(12,.sl (some 67) 35 ((cnF f0 vs vs.length).map coD)),(13,.sl (some 70) 2 ((wnG fB ws i).map wntO)),(15,.int ((i : Nat) : Int))],[]⟩
           have hi : i <= ws.length:=hi
           have hwi:=wn_len fB ws i
           refine W.seq (W.seq ?_)
           refine W.l0 4 [.y 76 _,.y 77 _,.y 78 _,.y 79 _] [] [] [(1,_),(3,_),(4,_),(11,_),(12,_),(13,_),(15,_),(79,_)] [] 295 ⟨mU 15 O O,mU 1 O O,aU fun _ _ H K=>R.lenE (SC.sl (K 77 _ O)) (lN _) H,aU fun _ _ H K=>R.lssN (i) (ws.length) (eU K 76 O) (eU K 78 O) H,Zt⟩ O O O O (tU O ?_)
           refine W.condD O (fun hc79=>?_) (fun hc79=>?_)
           · refine W.skip (W.seq (W.block ?_))
             refine W.l0 14 [.y 82 _,.y 83 _,.y 84 _,.y 85 _,.y 86 _,.y 87 _,.y 88 _,.y 89 _,.y 90 _,.y 91 _,.y 92 _,.y 93 _,.y 94 _,.y 13 _] [(10,85),(11,92),(12,13),(12,93),(13,94),(13,82)] [(10,85),(11,92),(12,13),(12,93),(13,94)] [(1,_),(3,_),(4,_),(11,_),(12,_),(13,_),(15,_)] [] 295 ⟨aU fun _ _ H K=>R.al (K 13 _ O) H dU,mU 15 O O,aU fun _ _ H K=>R.convE (d:=.u8 (f0 i)) (eU K 83 O) O (O) H,aU fun _ _ H K=>R.bslE (z:=1) (.cons (eU K 84 O) .nil) ⟨⟨O,O,O⟩,Zt⟩ O H dU,mU 1 O O,mU 15 O O,aU fun _ _ H K=>R.idxN (i) (SC.sl (K 86 _ O)) (evoI (eU K 87 O)) O bU H dU,aU fun _ _ H K=>R.ldE (K 88 _ O) (SC.sl (K 86 _ O)) (map_get! (l:=ws) bU) O O O O H,aU fun _ _ H K=>R.convE (d:=.u64 ws[i]!.toUInt64) (eU K 89 O) O (O) H,aU fun _ _ H K=>R.bin (show ev _ _ (.const (.int .u64 1)) = some (.u64 1) from O) (eU K 90 O) O Zt H,aU fun _ _ H K=>R.bldO (l:=[.nils,.u64 0]) (l':=[_,_]) (.own (K 85 _ O) O O O O (.pur (eU K 91 O) O O O (.nil O))) O H,aU fun _ _ H K=>R.bslO (z:=2) (.own (K 92 _ O) O O O O .nil) O O H dU,aU fun _ _ H K=>R.appO2 (Or.inr (K 82 _ O)) (K 13 _ O) (K 93 _ O) O (show _ = ((wnG fB ws (i + 1)).map wntO) from (wnO_app _ _)) (by simp only [List.length_map,List.length_cons,List.length_nil,wn_len]; omega) H O dU,aU fun _ _ H K=>R.asgO (K 94 _ O) O H dU,Zt⟩ O O O O (tU O ?_)
             refine W.l0 3 [.y 80 _,.y 81 _,.y 15 _] [] [] [(1,_),(3,_),(4,_),(11,_),(12,_),(13,_),(15,_)] [] 295 ⟨mU 15 O O,aU fun _ _ H K=>R.addN (i) (1) (eU K 80 O) (kI 1 O) bU H,aU fun _ _ H K=>R.asg (eU K 81 O) O H,Zt⟩ O O O O (tU O ?_)
             exact ⟨⟨(i + 1),bU⟩,rfl,(by simp only []; omega)⟩
           · obtain rfl : i = ws.length:=by omega
             refine W.exit (W.seq ?_)
             refine W.frzS (s:=12) (d':=.sl none 35 ((cnF f0 vs vs.length).map coD)) O O (brw_co _ _) ?_
             refine W.frzS (s:=13) (d':=.sl none 2 ((wnG fB ws ws.length).map wntD)) O O (brw_wnOs _ _) ?_
             refine W.l0 1 [.y 16 _] [] [] [(3,_),(4,_),(11,_),(12,_),(13,_),(16,_)] [] 295 ⟨aU fun _ _ H _=>R.asg (kN O) O H,Zt⟩ O O O O (tU O ?_)
             refine W.seq (W.seq ?_)
             refine W.l0 1 [.y 17 _] [] [] [(3,_),(4,_),(11,_),(12,_),(13,_),(16,_),(17,_)] [] 295 ⟨aU fun _ _ H _=>R.asg (kI 0 O) O H,Zt⟩ O O O O (tU O ?_)
             refine W.block ?_
             refine W.asOwn (s:=16) 67 35 O ?_
             refine W.loop (α:={q__ : Nat // q__ <= (cnF f0 vs vs.length).length}) (fun q__=>⟨295,[(3,.u8 turn),(4,.sl none 1 (os.map D.u32)),(11,.u64 (rr rate)),(12,.sl none 35 ((cnF f0 vs vs.length).map coD)),(13,.sl none 2 ((wnG fB ws ws.length).map wntD)),(16,.sl (some 67) 35 ((tnI (cnF f0 vs vs.length) turn.toNat q__.1).map coD)),(17,.int ((q__.1 : Nat) : Int))],[]⟩) (fun q__=>(cnF f0 vs vs.length).length - q__.1) ⟨(0),bU⟩ O ?_
             rintro ⟨i,hi⟩
             show W _ _ _ _ ⟨295,[(3,.u8 turn),(4,.sl none 1 (os.map D.u32)),(11,.u64 (rr rate)),(12,.sl none 35 ((cnF f0 vs vs.length).map coD)),(13,.sl none 2 ((wnG fB ws ws.length).map wntD)),(16,.sl (some 67) 35 ((tnI (cnF f0 vs vs.length) turn.toNat i).map coD)),(17,.int ((i : Nat) : Int))],[]⟩
             have hi : i <= (cnF f0 vs vs.length).length:=hi
             refine W.seq (W.seq ?_)
             refine W.l0 4 [.y 95 _,.y 96 _,.y 97 _,.y 98 _] [] [] [(3,_),(4,_),(11,_),(12,_),(13,_),(16,_),(17,_),(98,_)] [] 295 ⟨mU 17 O O,mU 12 O O,aU fun _ _ H K=>R.lenE (SC.sl (K 96 _ O)) (lN _) H,aU fun _ _ H K=>R.lssN (i) ((cnF f0 vs vs.length).length) (eU K 95 O) (eU K 97 O) H,Zt⟩ O O O O (tU O ?_)
             refine W.condD O (fun hc98=>?_) (fun hc98=>?_)
             · refine W.skip (W.seq (W.block ?_))
               have hml:=Nat.mod_lt ((cnF f0 vs vs.length).length - 1 - i + turn.toNat) (show 0 < (cnF f0 vs vs.length).length by omega)
               refine W.l0 18 [.y 101 _,.y 102 _,.y 103 _,.y 104 _,.y 105 _,.y 106 _,.y 107 _,.y 108 _,.y 109 _,.y 110 _,.y 111 _,.y 112 _,.y 113 _,.y 114 _,.y 115 _,.y 116 _,.y 117 _,.y 16 _] [(16,16),(17,117),(17,101)] [(16,16),(17,117)] [(3,_),(4,_),(11,_),(12,_),(13,_),(16,_),(17,_)] [] 295 ⟨aU fun _ _ H K=>R.al (K 16 _ O) H dU,mU 12 O O,mU 12 O O,aU fun _ _ H K=>R.lenE (SC.sl (K 103 _ O)) (lN _) H,aU fun _ _ H K=>R.subN ((cnF f0 vs vs.length).length) (1) (eU K 104 O) (kI 1 O) bU bU H,mU 17 O O,aU fun _ _ H K=>R.subN (((cnF f0 vs vs.length).length - 1)) (i) (eU K 105 O) (eU K 106 O) bU bU H,mU 3 O O,aU fun _ _ H K=>R.conv (eU K 108 O) O H,aU fun _ _ H K=>R.addN ((((cnF f0 vs vs.length).length - 1) - i)) (turn.toNat) (eU K 107 O) (eU K 109 O) bU H,mU 12 O O,aU fun _ _ H K=>R.lenE (SC.sl (K 111 _ O)) (lN _) H,aU fun _ _ H K=>R.remN (((((cnF f0 vs vs.length).length - 1) - i) + turn.toNat)) ((cnF f0 vs vs.length).length) (eU K 110 O) (eU K 112 O) bU H,aU fun _ _ H K=>R.idxN ((((cnF f0 vs vs.length).length - 1 - i + turn.toNat) % (cnF f0 vs vs.length).length)) (SC.sl (K 102 _ O)) (evoI (eU K 113 O)) O bU H dU,aU fun _ _ H K=>R.ldE (K 114 _ O) (SC.sl (K 102 _ O)) (map_get! (l:=(cnF f0 vs vs.length)) bU) O O O O H,aU fun _ _ H K=>R.bslE (z:=35) (.cons (eU K 115 O) .nil) ⟨⟨O,O,O⟩,Zt⟩ O H dU,aU fun _ _ H K=>R.appE (Or.inr (K 101 _ O)) (K 16 _ O) (SrcO.sc (SC.sl (K 116 _ O)) (pur_lit O)) (show _ = ((tnI (cnF f0 vs vs.length) turn.toNat (i + 1)).map coD) from (tn_app _ _ _)) (by simp only [List.length_map,List.length_cons,List.length_nil,tn_len]; omega) H dU dU,aU fun _ _ H K=>R.asgO (K 117 _ O) O H dU,Zt⟩ O O O O (tU O ?_)
               refine W.l0 3 [.y 99 _,.y 100 _,.y 17 _] [] [] [(3,_),(4,_),(11,_),(12,_),(13,_),(16,_),(17,_)] [] 295 ⟨mU 17 O O,aU fun _ _ H K=>R.addN (i) (1) (eU K 99 O) (kI 1 O) bU H,aU fun _ _ H K=>R.asg (eU K 100 O) O H,Zt⟩ O O O O (tU O ?_)
               exact ⟨⟨(i + 1),bU⟩,rfl,(by simp only []; omega)⟩
             · obtain rfl : i = (cnF f0 vs vs.length).length:=by omega
               refine W.exit (W.seq ?_)
               refine W.frzS (s:=16) (d':=.sl none 35 ((tnI (cnF f0 vs vs.length) turn.toNat (cnF f0 vs vs.length).length).map coD)) O O (brw_co _ _) ?_
               have G:=turned_sane (vs:=vs) (ws:=ws) (rate:=rate) (by omega) (by omega) (by omega)
               have hpm:=tn_perm G.hp turn.toNat
               have hfl:=chC_len (cnF f0 vs vs.length) (wnG fB ws ws.length) (rr rate)
               refine W.l0 11 [.y 119 _,.y 120 _,.y 121 _,.y 122 _,.y 118 _,.y 123 _,.y 124 _,.y 125 _,.y 18 _,.y 19 _,.y 20 _] [] [] [(4,_),(11,_),(12,_),(13,_),(16,_),(18,_),(19,_),(20,_)] [] 295 ⟨mU 12 O O,mU 13 O O,mU 11 O O,aU fun _ _ H K=>R.callPE hC (choose_ok (cnF f0 vs vs.length) (wnG fB ws ws.length) (rr rate) (by rw [cn_len]; omega) G.hx (by rw [wn_len]; omega)) (EvP.cons (eU K 119 O) O O (EvP.cons (eU K 120 O) O O (EvP.cons (eU K 121 O) O O EvP.nil))) H,aU fun _ _ H K=>R.movT (K 122 _ O) O H,aU fun _ _ H K=>R.ext (K 118 _ O) O O H,aU fun _ _ H K=>R.ext (K 118 _ O) O O H,aU fun _ _ H K=>R.ext (K 118 _ O) O O H,aU fun _ _ H K=>R.asg (eU K 123 O) O H,aU fun _ _ H K=>R.asg (eU K 124 O) O H,aU fun _ _ H K=>R.asg (eU K 125 O) O H,Zt⟩ O O O O (tU O ?_)
               refine W.seq ?_
               refine W.l0 11 [.y 127 _,.y 128 _,.y 129 _,.y 130 _,.y 126 _,.y 131 _,.y 132 _,.y 133 _,.y 21 _,.y 22 _,.y 23 _] [] [] [(4,_),(11,_),(12,_),(13,_),(16,_),(18,_),(19,_),(20,_),(21,_),(22,_),(23,_)] [] 295 ⟨mU 16 O O,mU 13 O O,mU 11 O O,aU fun _ _ H K=>R.callPE hC (choose_perm hpm G.hx G.hp (wnG fB ws ws.length) (rr rate) (by rw [cn_len]; omega) (by rw [wn_len]; omega)) (EvP.cons (eU K 127 O) O O (EvP.cons (eU K 128 O) O O (EvP.cons (eU K 129 O) O O EvP.nil))) H,aU fun _ _ H K=>R.movT (K 130 _ O) O H,aU fun _ _ H K=>R.ext (K 126 _ O) O O H,aU fun _ _ H K=>R.ext (K 126 _ O) O O H,aU fun _ _ H K=>R.ext (K 126 _ O) O O H,aU fun _ _ H K=>R.asg (eU K 131 O) O H,aU fun _ _ H K=>R.asg (eU K 132 O) O H,aU fun _ _ H K=>R.asg (eU K 133 O) O H,Zt⟩ O O O O (tU O ?_)
               refine W.seq ?_
               refine W.l0 11 [.y 135 _,.y 136 _,.y 137 _,.y 138 _,.y 139 _,.y 134 _,.y 140 _,.y 141 _] [] [] [(4,_),(11,_),(12,_),(13,_),(16,_),(18,_),(19,_),(20,_),(21,_),(22,_),(23,_),(140,_),(141,_)] [] 295 ⟨mU 12 O O,mU 13 O O,aU fun _ _ H _=>R.frzT (r':=.sl none 1 (([9] : List UInt8).map D.u8)) (R.bslE (z:=1) (.cons (show ev _ _ (.const (.int .u8 9)) = some (.u8 9) from O) .nil) ⟨⟨O,O,O⟩,Zt⟩ O H dU) O (brw_u8s _ [9]),mU 11 O O,aU fun _ _ H K=>R.callPE hC (make_ok (cnF f0 vs vs.length) (wnG fB ws ws.length) (rr rate) (by rw [cn_len]; omega) G.hx (by rw [wn_len]; omega) [9] dU) (EvP.cons (eU K 135 O) O O (EvP.cons (eU K 136 O) O O (EvP.cons (eU K 137 O) O O (EvP.cons (eU K 138 O) O O EvP.nil)))) H,aU fun _ _ H K=>R.movT (K 139 _ O) O H,aU fun _ _ H K=>R.ext (K 134 _ O) O O H,aU fun _ _ H K=>R.ext (K 134 _ O) O O H,Zt⟩ O O O O (⟨O,_,R.alloc O (nU O),⟨O,_,R.stZ (gU 24 O) (xU 24 O) O (gV 140 O) (by rfl) (by rfl) (by rfl) (by rfl) O,⟨O,_,R.asg (gV 141 O) O (nU O),tV [(4,_),(11,_),(12,_),(13,_),(16,_),(18,_),(19,_),(20,_),(21,_),(22,_),(23,_),(24,_),(25,_)] [(24,.var _)] 295 O O O ?_⟩⟩⟩)
               refine W.seq ?_
               refine W.l0 11 [.y 143 _,.y 144 _,.y 145 _,.y 146 _,.y 147 _,.y 142 _,.y 148 _,.y 149 _] [] [] [(4,_),(12,_),(16,_),(18,_),(19,_),(20,_),(21,_),(22,_),(23,_),(24,_),(25,_),(148,_),(149,_)] [(24,.var _)] 295 ⟨mU 16 O O,mU 13 O O,aU fun _ _ H _=>R.frzT (r':=.sl none 1 (([9] : List UInt8).map D.u8)) (R.bslE (z:=1) (.cons (show ev _ _ (.const (.int .u8 9)) = some (.u8 9) from O) .nil) ⟨⟨O,O,O⟩,Zt⟩ O H dU) O (brw_u8s _ [9]),mU 11 O O,aU fun _ _ H K=>R.callPE hC (make_perm hpm G.hx G.hp (wnG fB ws ws.length) (rr rate) (by rw [cn_len]; omega) (by rw [wn_len]; omega) [9] dU) (EvP.cons (eU K 143 O) O O (EvP.cons (eU K 144 O) O O (EvP.cons (eU K 145 O) O O (EvP.cons (eU K 146 O) O O EvP.nil)))) H,aU fun _ _ H K=>R.movT (K 147 _ O) O H,aU fun _ _ H K=>R.ext (K 142 _ O) O O H,aU fun _ _ H K=>R.ext (K 142 _ O) O O H,Zt⟩ O O O O (⟨O,_,R.alloc O (nU O),⟨O,_,R.stZ (gU 26 O) (xU 26 O) O (gV 148 O) (by rfl) (by rfl) (by rfl) (by rfl) O,⟨O,_,R.asg (gV 149 O) O (nU O),tV [(4,_),(12,_),(16,_),(18,_),(19,_),(20,_),(21,_),(22,_),(23,_),(24,_),(25,_),(26,_),(27,_)] [(26,.var _),(24,.var _)] 295 O O O ?_⟩⟩⟩)
               refine W.seq (W.seq ?_)
               refine W.l0 25 (.y 150 _ :: .y 151 _ :: .y 152 _ :: .y 153 _ :: .y 154 _ :: .y 155 _ :: .y 156 _ :: .y 157 _ :: .y 158 _ :: .y 159 _ :: .y 160 _ :: .y 161 _ :: .y 162 _ :: .y 163 _ :: .y 164 _ :: .y 165 _ :: .y 166 _ :: .y 167 _ :: .y 168 _ :: .y 169 _ :: .y 170 _ :: .y 171 _ :: .y 172 _ :: .y 173 _ :: .y 174 _ :: []) [] [] [(4,_),(12,_),(16,_),(18,_),(20,_),(24,_),(25,_),(174,_)] [(26,.var _),(24,.var _)] 295 ⟨mU 20 O O,mU 23 O O,aU fun _ _ H K=>R.bin (eU K 150 O) (eU K 151 O) O Zt H,mU 152 O O,aW O O (gF (neF O) O) fun _ _ H K=>R.mov (eU K 18 O) O H,aW O O (gF (neF O) O) fun _ _ H K=>R.mov (eU K 21 O) O H,aW O O (gF (neF O) O) fun _ _ H K=>R.callG hC (same31_ok (chC (cnF f0 vs vs.length) (wnG fB ws ws.length) (rr rate)) (chC (cnF f0 vs vs.length) (wnG fB ws ws.length) (rr rate)) (by omega) (by omega)) (Bc (Bp (eU K 154 O) O O) (Bc (Bp (eU K 155 O) O O) Bn)) (FrsR.one (.bool _)) H,aW O O (gF (neF O) O) fun _ _ H K=>R.un (eU K 156 O) O H,aU fun _ _ H K=>R.pickF (eU K 153 O) (neF O) (eU K 157 O) O H,mU 158 O O,aW O O (gF (same_no (chC (cnF f0 vs vs.length) (wnG fB ws ws.length) (rr rate))) O) fun _ _ H K=>R.mov (eU K 19 O) O H,aW O O (gF (same_no (chC (cnF f0 vs vs.length) (wnG fB ws ws.length) (rr rate))) O) fun _ _ H K=>R.mov (eU K 22 O) O H,aW O O (gF (same_no (chC (cnF f0 vs vs.length) (wnG fB ws ws.length) (rr rate))) O) fun _ _ H K=>R.bin (eU K 160 O) (eU K 161 O) O Zt H,aU fun _ _ H K=>R.pickF (eU K 159 O) (same_no (chC (cnF f0 vs vs.length) (wnG fB ws ws.length) (rr rate))) (eU K 162 O) O H,mU 163 O O,aW O O (gF (neF O) O) fun _ _ H K=>R.mov (eU K 25 O) O H,aW O O (gF (neF O) O) fun _ _ H K=>R.mov (eU K 27 O) O H,aW O O (gF (neF O) O) fun _ _ H K=>R.bin (eU K 165 O) (eU K 166 O) O Zt H,aU fun _ _ H K=>R.pickF (eU K 164 O) (neF O) (eU K 167 O) O H,mU 168 O O,aW O O (gF (neF O) O) (lU 24 O O O O O O O),aW O O (gF (neF O) O) (lU 26 O O O O O O O),aW O O (gF (neF O) O) fun _ _ H K=>R.callG hC (rsame_ok (mkT (cnF f0 vs vs.length) (wnG fB ws ws.length) [9] (rr rate)) (mkT (cnF f0 vs vs.length) (wnG fB ws ws.length) [9] (rr rate)) (mkT_wf (by rw [cn_len]; omega) G.hx) (mkT_wf (by rw [cn_len]; omega) G.hx)) (Bc (Bp (eU K 170 O) O O) (Bc (Bp (eU K 171 O) O O) Bn)) (FrsR.one (.bool _)) H,aW O O (gF (neF O) O) fun _ _ H K=>R.un (eU K 172 O) O H,aU fun _ _ H K=>R.pickF (eU K 169 O) (neF O) (eU K 173 O) O H,Zt⟩ O O O O (tU O ?_)
               refine W.condF O (tx_no (mkT (cnF f0 vs vs.length) (wnG fB ws ws.length) [9] (rr rate))) ?_
               refine W.skip (W.seq (W.seq ?_))
               refine W.l0 2 [.y 175 _,.y 176 _] [] [] [(4,_),(12,_),(16,_),(18,_),(20,_),(24,_),(25,_),(176,_)] [(26,.var _),(24,.var _)] 295 ⟨mU 25 O O,aU fun _ _ H K=>R.bin (eU K 175 O) (kI 0 O) O Zt H,Zt⟩ O O O O (tU O ?_)
               refine W.cond O (fun hc176=>?_) (fun hc176=>?_)
               · refine W.seq ?_
                 by_cases qe : chE (cnF f0 vs vs.length) (wnG fB ws ws.length) (rr rate) = 0
                 · have hn:=mkE_n (by simpa using hc176)
                   refine W.l0 11 [.y 177 _,.y 178 _,.y 179 _,.y 180 _,.y 181 _,.y 182 _,.y 183 _,.y 184 _,.y 185 _,.y 186 _,.y 10 _] [] [] [(10,_)] [(26,.var _),(24,.var _)] 295 ⟨mU 25 O O,mU 20 O O,aU fun _ _ H K=>R.bin (eU K 177 O) (eU K 178 O) O Zt H,mU 179 O O,aW O O (gF (by rw [hn.1 qe,qe]; rfl) O) fun _ _ H K=>R.mov (eU K 25 O) O H,aW O O (gF (by rw [hn.1 qe,qe]; rfl) O) fun _ _ H K=>R.bin (eU K 181 O) (kI 6 O) O Zt H,aU fun _ _ H K=>R.pickF (eU K 180 O) (by rw [hn.1 qe,qe]; rfl) (eU K 182 O) O H,mU 183 O O,aW O O (gT (by rw [hn.1 qe]; rfl) O) fun _ _ H _=>R.callG hC (works_ok) Bn (FrsR.one (.bool _)) H,aU fun _ _ H K=>R.pickT (eU K 184 O) (by rw [hn.1 qe]; rfl) (eU K 185 O) O H,aU fun _ _ H K=>R.asg (eU K 186 O) O H,Zt⟩ O O O O (tU O ?_)
                   refine W.ret ?_
                   exact Ends.one' (.inr O) O (O) O O Zt
                 · have hn:=mkE_n (by simpa using hc176)
                   refine W.l0 11 [.y 177 _,.y 178 _,.y 179 _,.y 180 _,.x 181,.x 182,.y 183 _,.y 184 _,.y 185 _,.y 186 _,.y 10 _] [] [] [(10,_)] [(26,.var _),(24,.var _)] 295 ⟨mU 25 O O,mU 20 O O,aU fun _ _ H K=>R.bin (eU K 177 O) (eU K 178 O) O Zt H,mU 179 O O,aF O O (gT (beq_iff_eq.2 (hn.2 qe)) O),aF O O (gT (beq_iff_eq.2 (hn.2 qe)) O),aU fun _ _ H K=>R.pickT (eU K 180 O) (beq_iff_eq.2 (hn.2 qe)) (kB true O) O H,mU 183 O O,aW O O (gT (O) O) fun _ _ H _=>R.callG hC (works_ok) Bn (FrsR.one (.bool _)) H,aU fun _ _ H K=>R.pickT (eU K 184 O) (O) (eU K 185 O) O H,aU fun _ _ H K=>R.asg (eU K 186 O) O H,Zt⟩ O O O O (tU O ?_)
                   refine W.ret ?_
                   exact Ends.one' (.inr O) O (O) O O Zt
               · refine W.skip (W.seq ?_)
                 have hM : mkE (cnF f0 vs vs.length) (wnG fB ws ws.length) [9] (rr rate) = 0:=by simpa using hc176
                 obtain ⟨hE,hmy,hX⟩:=mkE_0 hM
                 rw [hX]
                 have hon:=turned_on G fB_le (by omega) (by omega) [9] hE
                 have hwf:=mkX_wf (ws:=(wnG fB ws ws.length)) (own:=[9]) (r:=(rr rate)) (by rw [cn_len]; omega) G.hx hE dU
                 have hin:=(in_sum G.hp (fun c hc=>(sortU_perm G.hx).mem_iff.1 (chC_sub c hc)) (t:=(mkX (cnF f0 vs vs.length) (wnG fB ws ws.length) [9] (rr rate))) rfl _ (Nat.le_refl _)).1
                 have hck:=ck_good G.hp (fun c hc=>(sortU_perm G.hx).mem_iff.1 (chC_sub c hc)) (t:=(mkX (cnF f0 vs vs.length) (wnG fB ws ws.length) [9] (rr rate))) rfl hmy hon
                 have hpos:=G.pos hE
                 refine W.l0 1 [.y 28 _] [] [] [(4,_),(12,_),(16,_),(18,_),(24,_),(28,_)] [(26,.var _),(24,.var _)] 295 ⟨aU fun _ _ H _=>R.asg (show ev _ _ (.const (.int .u64 0)) = some (.u64 0) from O) O H,Zt⟩ O O O O (tU O ?_)
                 refine W.seq (W.seq ?_)
                 refine W.l0 1 [.y 29 _] [] [] [(4,_),(12,_),(16,_),(18,_),(24,_),(28,_),(29,_)] [(26,.var _),(24,.var _)] 295 ⟨aU fun _ _ H _=>R.asg (kI 0 O) O H,Zt⟩ O O O O (tU O ?_)
                 refine W.block ?_
                 refine W.loop (α:={q__ : Nat // q__ <= (chC (cnF f0 vs vs.length) (wnG fB ws ws.length) (rr rate)).length}) (fun q__=>⟨295,[(4,.sl none 1 (os.map D.u32)),(12,.sl none 35 ((cnF f0 vs vs.length).map coD)),(16,.sl none 35 ((tnI (cnF f0 vs vs.length) turn.toNat (cnF f0 vs vs.length).length).map coD)),(18,.sl none 35 ((chC (cnF f0 vs vs.length) (wnG fB ws ws.length) (rr rate)).map coD)),(24,.ptr 24 0 []),(28,.u64 (sumU (chC (cnF f0 vs vs.length) (wnG fB ws ws.length) (rr rate)) q__.1)),(29,.int ((q__.1 : Nat) : Int))],[(26,.var (txD (mkX (cnF f0 vs vs.length) (wnG fB ws ws.length) [9] (rr rate)))),(24,.var (txD (mkX (cnF f0 vs vs.length) (wnG fB ws ws.length) [9] (rr rate))))]⟩) (fun q__=>(chC (cnF f0 vs vs.length) (wnG fB ws ws.length) (rr rate)).length - q__.1) ⟨(0),bU⟩ O ?_
                 rintro ⟨i,hi⟩
                 show W _ _ _ _ ⟨295,[(4,.sl none 1 (os.map D.u32)),(12,.sl none 35 ((cnF f0 vs vs.length).map coD)),(16,.sl none 35 ((tnI (cnF f0 vs vs.length) turn.toNat (cnF f0 vs vs.length).length).map coD)),(18,.sl none 35 ((chC (cnF f0 vs vs.length) (wnG fB ws ws.length) (rr rate)).map coD)),(24,.ptr 24 0 []),(28,.u64 (sumU (chC (cnF f0 vs vs.length) (wnG fB ws ws.length) (rr rate)) i)),(29,.int ((i : Nat) : Int))],[(26,.var (txD (mkX (cnF f0 vs vs.length) (wnG fB ws ws.length) [9] (rr rate)))),(24,.var (txD (mkX (cnF f0 vs vs.length) (wnG fB ws ws.length) [9] (rr rate))))]⟩
                 have hi : i <= (chC (cnF f0 vs vs.length) (wnG fB ws ws.length) (rr rate)).length:=hi
                 refine W.seq (W.seq ?_)
                 refine W.l0 4 [.y 187 _,.y 188 _,.y 189 _,.y 190 _] [] [] [(4,_),(12,_),(16,_),(18,_),(24,_),(28,_),(29,_),(190,_)] [(26,.var _),(24,.var _)] 295 ⟨mU 29 O O,mU 18 O O,aU fun _ _ H K=>R.lenE (SC.sl (K 188 _ O)) (lN _) H,aU fun _ _ H K=>R.lssN (i) ((chC (cnF f0 vs vs.length) (wnG fB ws ws.length) (rr rate)).length) (eU K 187 O) (eU K 189 O) H,Zt⟩ O O O O (tU O ?_)
                 refine W.condD O (fun hc190=>?_) (fun hc190=>?_)
                 · refine W.skip (W.seq (W.block ?_))
                   refine W.l0 8 [.y 193 _,.y 194 _,.y 195 _,.y 196 _,.y 197 _,.y 198 _,.y 199 _,.y 28 _] [] [] [(4,_),(12,_),(16,_),(18,_),(24,_),(28,_),(29,_)] [(26,.var _),(24,.var _)] 295 ⟨mU 28 O O,mU 18 O O,mU 29 O O,aU fun _ _ H K=>R.idxN (i) (SC.sl (K 194 _ O)) (evoI (eU K 195 O)) O bU H dU,aU fun _ _ H K=>R.fdE (K 196 _ O) H dU,aU fun _ _ H K=>R.ldE (K 197 _ O) (SC.sl (K 194 _ O)) (map_get! (l:=(chC (cnF f0 vs vs.length) (wnG fB ws ws.length) (rr rate))) bU) O O O O H,aU fun _ _ H K=>R.bin (eU K 193 O) (eU K 198 O) O Zt H,aU fun _ _ H K=>R.asg (eU K 199 O) O H,Zt⟩ O O O O (tU O ?_)
                   refine W.l0 3 [.y 191 _,.y 192 _,.y 29 _] [] [] [(4,_),(12,_),(16,_),(18,_),(24,_),(28,_),(29,_)] [(26,.var _),(24,.var _)] 295 ⟨mU 29 O O,aU fun _ _ H K=>R.addN (i) (1) (eU K 191 O) (kI 1 O) bU H,aU fun _ _ H K=>R.asg (eU K 192 O) O H,Zt⟩ O O O O (tU O ?_)
                   exact ⟨⟨(i + 1),bU⟩,rfl,(by simp only []; omega)⟩
                 · obtain rfl : i = (chC (cnF f0 vs vs.length) (wnG fB ws ws.length) (rr rate)).length:=by omega
                   refine W.exit (W.seq (W.seq ?_))
                   refine W.l0 1 [.y 30 _] [] [] [(4,_),(12,_),(16,_),(18,_),(24,_),(28,_),(30,_)] [(26,.var _),(24,.var _)] 295 ⟨aU fun _ _ H _=>R.asg (kI 0 O) O H,Zt⟩ O O O O (tU O ?_)
                   refine W.block ?_
                   refine W.loop (α:={q__ : Nat // q__ <= (mkX (cnF f0 vs vs.length) (wnG fB ws ws.length) [9] (rr rate)).outs.length}) (fun q__=>⟨295,[(4,.sl none 1 (os.map D.u32)),(12,.sl none 35 ((cnF f0 vs vs.length).map coD)),(16,.sl none 35 ((tnI (cnF f0 vs vs.length) turn.toNat (cnF f0 vs vs.length).length).map coD)),(18,.sl none 35 ((chC (cnF f0 vs vs.length) (wnG fB ws ws.length) (rr rate)).map coD)),(24,.ptr 24 0 []),(28,.u64 (lftO (cnF f0 vs vs.length) (mkX (cnF f0 vs vs.length) (wnG fB ws ws.length) [9] (rr rate)) q__.1)),(30,.int ((q__.1 : Nat) : Int))],[(26,.var (txD (mkX (cnF f0 vs vs.length) (wnG fB ws ws.length) [9] (rr rate)))),(24,.var (txD (mkX (cnF f0 vs vs.length) (wnG fB ws ws.length) [9] (rr rate))))]⟩) (fun q__=>(mkX (cnF f0 vs vs.length) (wnG fB ws ws.length) [9] (rr rate)).outs.length - q__.1) ⟨(0),bU⟩ (by rw [<- hin,<- mkX_ins] <;> rfl) ?_
                   rintro ⟨j,hj⟩
                   show W _ _ _ _ ⟨295,[(4,.sl none 1 (os.map D.u32)),(12,.sl none 35 ((cnF f0 vs vs.length).map coD)),(16,.sl none 35 ((tnI (cnF f0 vs vs.length) turn.toNat (cnF f0 vs vs.length).length).map coD)),(18,.sl none 35 ((chC (cnF f0 vs vs.length) (wnG fB ws ws.length) (rr rate)).map coD)),(24,.ptr 24 0 []),(28,.u64 (lftO (cnF f0 vs vs.length) (mkX (cnF f0 vs vs.length) (wnG fB ws ws.length) [9] (rr rate)) j)),(30,.int ((j : Nat) : Int))],[(26,.var (txD (mkX (cnF f0 vs vs.length) (wnG fB ws ws.length) [9] (rr rate)))),(24,.var (txD (mkX (cnF f0 vs vs.length) (wnG fB ws ws.length) [9] (rr rate))))]⟩
                   have hj : j <= (mkX (cnF f0 vs vs.length) (wnG fB ws ws.length) [9] (rr rate)).outs.length:=hj
                   have hol : (mkX (cnF f0 vs vs.length) (wnG fB ws ws.length) [9] (rr rate)).outs.length <= (wnG fB ws ws.length).length + 1:=mkO_len _ _ _
                   refine W.seq (W.seq ?_)
                   refine W.l0 5 [.y 200 _,.y 201 _,.y 202 _,.y 203 _,.y 204 _] [] [] [(4,_),(12,_),(16,_),(18,_),(24,_),(28,_),(30,_),(204,_)] [(26,.var _),(24,.var _)] 295 ⟨mU 30 O O,aU (fU 24 O O),aU (lU 201 O O O O O O O),aU fun _ _ H K=>R.lenE (SC.sl (K 202 _ O)) (lN _) H,aU fun _ _ H K=>R.lssN (j) ((mkX (cnF f0 vs vs.length) (wnG fB ws ws.length) [9] (rr rate)).outs.length) (eU K 200 O) (eU K 203 O) H,Zt⟩ O O O O (tU O ?_)
                   refine W.condD O (fun hc204=>?_) (fun hc204=>?_)
                   · refine W.skip (W.seq (W.block ?_))
                     refine W.l0 9 [.y 207 _,.y 208 _,.y 209 _,.y 210 _,.y 211 _,.y 212 _,.y 213 _,.y 214 _,.y 28 _] [] [] [(4,_),(12,_),(16,_),(18,_),(24,_),(28,_),(30,_)] [(26,.var _),(24,.var _)] 295 ⟨mU 28 O O,aU (fU 24 O O),aU (lU 208 O O O O O O O),mU 30 O O,aU fun _ _ H K=>R.idxN (j) (SC.sl (K 209 _ O)) (evoI (eU K 210 O)) O bU H dU,aU fun _ _ H K=>R.fdE (K 211 _ O) H dU,aU fun _ _ H K=>R.ldE (K 212 _ O) (SC.sl (K 209 _ O)) (map_get! (l:=(mkX (cnF f0 vs vs.length) (wnG fB ws ws.length) [9] (rr rate)).outs) bU) O O O O H,aU fun _ _ H K=>R.bin (eU K 207 O) (eU K 213 O) O Zt H,aU fun _ _ H K=>R.asg (eU K 214 O) O H,Zt⟩ O O O O (tU O ?_)
                     refine W.l0 3 [.y 205 _,.y 206 _,.y 30 _] [] [] [(4,_),(12,_),(16,_),(18,_),(24,_),(28,_),(30,_)] [(26,.var _),(24,.var _)] 295 ⟨mU 30 O O,aU fun _ _ H K=>R.addN (j) (1) (eU K 205 O) (kI 1 O) bU H,aU fun _ _ H K=>R.asg (eU K 206 O) O H,Zt⟩ O O O O (tU O ?_)
                     exact ⟨⟨(j + 1),bU⟩,rfl,(by simp only []; omega)⟩
                   · obtain rfl : j = (mkX (cnF f0 vs vs.length) (wnG fB ws ws.length) [9] (rr rate)).outs.length:=by omega
                     refine W.exit (W.seq ?_)
                     refine W.l0 4 [.y 215 _,.y 216 _,.y 217 _,.y 31 _] [(2,215),(3,217)] [(2,215),(3,217)] [(4,_),(12,_),(18,_),(24,_),(28,_),(31,_)] [(26,.var _),(24,.var _)] 295 ⟨aU fun _ _ H _=>R.bslE .nil Zt O H dU,mU 16 O O,aU fun _ _ H K=>R.appE (Or.inl O) (K 215 _ O) (SrcO.sc (SC.sl (K 216 _ O)) (pur_map (fun _=>rfl))) (show _ = ((tnI (cnF f0 vs vs.length) turn.toNat (cnF f0 vs vs.length).length).map coD) from (List.nil_append _)) (by simp only [List.length_map,List.length_nil,cn_len,tn_len]; omega) H dU dU,aU fun _ _ H K=>R.asgO (K 217 _ O) O H dU,Zt⟩ O O O O (tU O ?_)
                     refine W.seq (W.seq ?_)
                     refine W.l0 1 [.y 32 _] [] [] [(4,_),(12,_),(18,_),(24,_),(28,_),(31,_),(32,_)] [(26,.var _),(24,.var _)] 295 ⟨aU fun _ _ H _=>R.asg (kI 0 O) O H,Zt⟩ O O O O (tU O ?_)
                     refine W.block ?_
                     refine W.loop (α:={q__ : Nat // q__ <= os.length}) (fun q__=>⟨295,[(4,.sl none 1 (os.map D.u32)),(12,.sl none 35 ((cnF f0 vs vs.length).map coD)),(18,.sl none 35 ((chC (cnF f0 vs vs.length) (wnG fB ws ws.length) (rr rate)).map coD)),(24,.ptr 24 0 []),(28,.u64 (lftO (cnF f0 vs vs.length) (mkX (cnF f0 vs vs.length) (wnG fB ws ws.length) [9] (rr rate)) (mkX (cnF f0 vs vs.length) (wnG fB ws ws.length) [9] (rr rate)).outs.length)),(31,.sl (some 67) 35 (((tnI (cnF f0 vs vs.length) turn.toNat (cnF f0 vs vs.length).length) ++ cnF f1 os q__.1).map coD)),(32,.int ((q__.1 : Nat) : Int))],[(26,.var (txD (mkX (cnF f0 vs vs.length) (wnG fB ws ws.length) [9] (rr rate)))),(24,.var (txD (mkX (cnF f0 vs vs.length) (wnG fB ws ws.length) [9] (rr rate))))]⟩) (fun q__=>os.length - q__.1) ⟨(0),bU⟩ (by rw [cnF,List.append_nil] <;> rfl) ?_
                     rintro ⟨i,hi⟩
                     show W _ _ _ _ ⟨295,[(4,.sl none 1 (os.map D.u32)),(12,.sl none 35 ((cnF f0 vs vs.length).map coD)),(18,.sl none 35 ((chC (cnF f0 vs vs.length) (wnG fB ws ws.length) (rr rate)).map coD)),(24,.ptr 24 0 []),(28,.u64 (lftO (cnF f0 vs vs.length) (mkX (cnF f0 vs vs.length) (wnG fB ws ws.length) [9] (rr rate)) (mkX (cnF f0 vs vs.length) (wnG fB ws ws.length) [9] (rr rate)).outs.length)),(31,.sl (some 67) 35 (((tnI (cnF f0 vs vs.length) turn.toNat (cnF f0 vs vs.length).length) ++ cnF f1 os i).map coD)),(32,.int ((i : Nat) : Int))],[(26,.var (txD (mkX (cnF f0 vs vs.length) (wnG fB ws ws.length) [9] (rr rate)))),(24,.var (txD (mkX (cnF f0 vs vs.length) (wnG fB ws ws.length) [9] (rr rate))))]⟩
                     have hi : i <= os.length:=hi
                     refine W.seq (W.seq ?_)
                     refine W.l0 4 [.y 218 _,.y 219 _,.y 220 _,.y 221 _] [] [] [(4,_),(12,_),(18,_),(24,_),(28,_),(31,_),(32,_),(221,_)] [(26,.var _),(24,.var _)] 295 ⟨mU 32 O O,mU 4 O O,aU fun _ _ H K=>R.lenE (SC.sl (K 219 _ O)) (lN _) H,aU fun _ _ H K=>R.lssN (i) (os.length) (eU K 218 O) (eU K 220 O) H,Zt⟩ O O O O (tU O ?_)
                     refine W.condD O (fun hc221=>?_) (fun hc221=>?_)
                     · refine W.skip (W.seq (W.block ?_))
                       refine W.l0 13 [.y 224 _,.y 225 _,.y 226 _,.y 227 _,.y 228 _,.y 229 _,.y 230 _,.y 231 _,.y 232 _,.y 233 _,.y 234 _,.y 235 _,.y 31 _] [(11,31),(12,235),(12,224)] [(11,31),(12,235)] [(4,_),(12,_),(18,_),(24,_),(28,_),(31,_),(32,_)] [(26,.var _),(24,.var _)] 295 ⟨aU fun _ _ H K=>R.al (K 31 _ O) H dU,mU 32 O O,aU fun _ _ H K=>R.addN (100) (i) (kI 100 O) (eU K 225 O) bU H,aU fun _ _ H K=>R.convE (d:=.u8 (f1 i)) (eU K 226 O) O (O) H,mU 4 O O,mU 32 O O,aU fun _ _ H K=>R.idxN (i) (SC.sl (K 228 _ O)) (evoI (eU K 229 O)) O bU H dU,aU fun _ _ H K=>R.ldE (K 230 _ O) (SC.sl (K 228 _ O)) (map_get! (l:=os) bU) O O O O H,aU fun _ _ H K=>R.convE (d:=.u64 os[i]!.toUInt64) (eU K 231 O) O (O) H,aU fun _ _ H K=>R.callG hC (coin_ok (f1 i) os[i]!.toUInt64) (Bc (Bp (eU K 227 O) O O) (Bc (Bp (eU K 232 O) O O) Bn)) (FrsR.one (frs_coD _)) H,aU fun _ _ H K=>R.bslE (z:=35) (.cons (eU K 233 O) .nil) ⟨⟨O,O,O⟩,Zt⟩ O H dU,aU fun _ _ H K=>R.appE (Or.inr (K 224 _ O)) (K 31 _ O) (SrcO.sc (SC.sl (K 234 _ O)) (pur_lit O)) (show _ = (((tnI (cnF f0 vs vs.length) turn.toNat (cnF f0 vs vs.length).length) ++ cnF f1 os (i + 1)).map coD) from (others_app _ _ _)) (by simp only [List.length_map,List.length_append,List.length_cons,List.length_nil,cn_len,tn_len]; omega) H dU dU,aU fun _ _ H K=>R.asgO (K 235 _ O) O H dU,Zt⟩ O O O O (tU O ?_)
                       refine W.l0 3 [.y 222 _,.y 223 _,.y 32 _] [] [] [(4,_),(12,_),(18,_),(24,_),(28,_),(31,_),(32,_)] [(26,.var _),(24,.var _)] 295 ⟨mU 32 O O,aU fun _ _ H K=>R.addN (i) (1) (eU K 222 O) (kI 1 O) bU H,aU fun _ _ H K=>R.asg (eU K 223 O) O H,Zt⟩ O O O O (tU O ?_)
                       exact ⟨⟨(i + 1),bU⟩,rfl,(by simp only []; omega)⟩
                     · obtain rfl : i = os.length:=by omega
                       refine W.exit (W.seq ?_)
                       refine W.frzS (s:=31) (d':=.sl none 35 (((tnI (cnF f0 vs vs.length) turn.toNat (cnF f0 vs vs.length).length) ++ cnF f1 os os.length).map coD)) O O (brw_co _ _) ?_
                       have hmp:=others_pur (os:=os) (by omega) (by omega) hpm
                       have hmc : ∀ c ∈ (chC (cnF f0 vs vs.length) (wnG fB ws ws.length) (rr rate)),c ∈ ((tnI (cnF f0 vs vs.length) turn.toNat (cnF f0 vs vs.length).length) ++ cnF f1 os os.length):=fun c hc=>List.mem_append.2 (.inl (hpm.mem_iff.2 ((sortU_perm G.hx).mem_iff.1 (chC_sub c hc))))
                       have hck2:=ck_good hmp hmc (t:=(mkX (cnF f0 vs vs.length) (wnG fB ws ws.length) [9] (rr rate))) rfl hmy hon
                       have hin2:=(in_sum hmp hmc (t:=(mkX (cnF f0 vs vs.length) (wnG fB ws ws.length) [9] (rr rate))) rfl _ (Nat.le_refl _)).1
                       have hls:=lft_same (l:=(cnF f0 vs vs.length)) (l':=((tnI (cnF f0 vs vs.length) turn.toNat (cnF f0 vs vs.length).length) ++ cnF f1 os os.length)) (t:=(mkX (cnF f0 vs vs.length) (wnG fB ws ws.length) [9] (rr rate))) (by rw [mkX_ins]; exact hin.trans hin2.symm) (mkX (cnF f0 vs vs.length) (wnG fB ws ws.length) [9] (rr rate)).outs.length
                       refine W.l0 8 [.y 237 _,.y 238 _,.y 239 _,.y 236 _,.y 240 _,.y 241 _,.y 33 _,.y 34 _] [] [] [(18,_),(24,_),(28,_),(31,_),(33,_),(34,_)] [(26,.var _),(24,.var _)] 295 ⟨mU 12 O O,aU (lU 24 O O O O O O O),aU fun _ _ H K=>R.callG hC (check_ok (cnF f0 vs vs.length) (mkX (cnF f0 vs vs.length) (wnG fB ws ws.length) [9] (rr rate)) (by rw [cn_len]; omega) G.hx hwf) (Bc (Bp (eU K 237 O) O O) (Bc (Bp (eU K 238 O) O O) Bn)) (FrsR.two (.u64 _) (.int _)) H,aU fun _ _ H K=>R.movT (K 239 _ O) O H,aU fun _ _ H K=>R.ext (K 236 _ O) O O H,aU fun _ _ H K=>R.ext (K 236 _ O) O O H,aU fun _ _ H K=>R.asg (eU K 240 O) O H,aU fun _ _ H K=>R.asg (eU K 241 O) O H,Zt⟩ O O O O (tU O ?_)
                       refine W.seq ?_
                       refine W.l0 8 [.y 243 _,.y 244 _,.y 245 _,.y 242 _,.y 246 _,.y 247 _,.y 35 _,.y 36 _] [] [] [(18,_),(24,_),(28,_),(33,_),(34,_),(35,_),(36,_)] [(26,.var _),(24,.var _)] 295 ⟨mU 31 O O,aU (lU 24 O O O O O O O),aU fun _ _ H K=>R.callG hC (check_ok ((tnI (cnF f0 vs vs.length) turn.toNat (cnF f0 vs vs.length).length) ++ cnF f1 os os.length) (mkX (cnF f0 vs vs.length) (wnG fB ws ws.length) [9] (rr rate)) (by rw [List.length_append,tn_len,cn_len,cn_len]; omega) (others_hs hpm) hwf) (Bc (Bp (eU K 243 O) O O) (Bc (Bp (eU K 244 O) O O) Bn)) (FrsR.two (.u64 _) (.int _)) H,aU fun _ _ H K=>R.movT (K 245 _ O) O H,aU fun _ _ H K=>R.ext (K 242 _ O) O O H,aU fun _ _ H K=>R.ext (K 242 _ O) O O H,aU fun _ _ H K=>R.asg (eU K 246 O) O H,aU fun _ _ H K=>R.asg (eU K 247 O) O H,Zt⟩ O O O O (tU O ?_)
                       refine W.seq ?_
                       by_cases zl : 0 < (chC (cnF f0 vs vs.length) (wnG fB ws ws.length) (rr rate))[(chC (cnF f0 vs vs.length) (wnG fB ws ws.length) (rr rate)).length - 1]!.value
                       · refine W.l0 48 (.y 248 _ :: .y 249 _ :: .y 250 _ :: .y 251 _ :: .y 252 _ :: .y 253 _ :: .y 254 _ :: .y 255 _ :: .y 256 _ :: .y 257 _ :: .y 258 _ :: .y 259 _ :: .y 260 _ :: .y 261 _ :: .y 262 _ :: .y 263 _ :: .y 264 _ :: .y 265 _ :: .y 266 _ :: .y 267 _ :: .y 268 _ :: .y 269 _ :: .y 270 _ :: .y 271 _ :: .y 272 _ :: .y 273 _ :: .y 274 _ :: .y 275 _ :: .y 276 _ :: .y 277 _ :: .y 278 _ :: .y 279 _ :: .y 280 _ :: .y 281 _ :: .y 282 _ :: .y 283 _ :: .y 284 _ :: .y 285 _ :: .y 286 _ :: .x 287 :: .x 288 :: .x 289 :: .y 290 _ :: .y 291 _ :: .y 292 _ :: .y 293 _ :: .y 294 _ :: .y 10 _ :: []) [] [] [(10,_)] [(26,.var _),(24,.var _)] 295 ⟨mU 34 O O,aU fun _ _ H K=>R.bin (eU K 248 O) (kI 0 O) O Zt H,mU 249 O O,aW O O (gT (beq_iff_eq.2 hck.1) O) fun _ _ H K=>R.mov (eU K 36 O) O H,aW O O (gT (beq_iff_eq.2 hck.1) O) fun _ _ H K=>R.bin (eU K 251 O) (kI 0 O) O Zt H,aU fun _ _ H K=>R.pickT (eU K 250 O) (beq_iff_eq.2 hck.1) (eU K 252 O) O H,mU 253 O O,aW O O (gT (beq_iff_eq.2 hck2.1) O) fun _ _ H K=>R.mov (eU K 33 O) O H,aW O O (gT (beq_iff_eq.2 hck2.1) O) fun _ _ H K=>R.mov (eU K 28 O) O H,aW O O (gT (beq_iff_eq.2 hck2.1) O) fun _ _ H K=>R.bin (eU K 255 O) (eU K 256 O) O Zt H,aU fun _ _ H K=>R.pickT (eU K 254 O) (beq_iff_eq.2 hck2.1) (eU K 257 O) O H,mU 258 O O,aW O O (gT (beq_iff_eq.2 hck.2) O) fun _ _ H K=>R.mov (eU K 35 O) O H,aW O O (gT (beq_iff_eq.2 hck.2) O) fun _ _ H K=>R.mov (eU K 28 O) O H,aW O O (gT (beq_iff_eq.2 hck.2) O) fun _ _ H K=>R.bin (eU K 260 O) (eU K 261 O) O Zt H,aU fun _ _ H K=>R.pickT (eU K 259 O) (beq_iff_eq.2 hck.2) (eU K 262 O) O H,mU 263 O O,aW O O (gT (beq_iff_eq.2 (hck2.2.trans hls.symm)) O) (fU 24 O O),aW O O (gT (beq_iff_eq.2 (hck2.2.trans hls.symm)) O) (lU 265 O O O O O O O),aW O O (gT (beq_iff_eq.2 (hck2.2.trans hls.symm)) O) fun _ _ H K=>R.lenE (SC.sl (K 266 _ O)) (lN _) H,aW O O (gT (beq_iff_eq.2 (hck2.2.trans hls.symm)) O) fun _ _ H K=>R.mov (eU K 18 O) O H,aW O O (gT (beq_iff_eq.2 (hck2.2.trans hls.symm)) O) fun _ _ H K=>R.lenE (SC.sl (K 268 _ O)) (lN _) H,aW O O (gT (beq_iff_eq.2 (hck2.2.trans hls.symm)) O) fun _ _ H K=>R.eqlN ((mkX (cnF f0 vs vs.length) (wnG fB ws ws.length) [9] (rr rate)).ins.length) ((chC (cnF f0 vs vs.length) (wnG fB ws ws.length) (rr rate)).length) (eU K 267 O) (eU K 269 O) H,aU fun _ _ H K=>R.pickT (eU K 264 O) (beq_iff_eq.2 (hck2.2.trans hls.symm)) (eU K 270 O) O H,mU 271 O O,aW O O (gT (dT (mkX_ins _ _ _ _)) O) fun _ _ H K=>R.mov (eU K 18 O) O H,aW O O (gT (dT (mkX_ins _ _ _ _)) O) fun _ _ H K=>R.lenE (SC.sl (K 273 _ O)) (lN _) H,aW O O (gT (dT (mkX_ins _ _ _ _)) O) fun _ _ H K=>R.gtrN ((chC (cnF f0 vs vs.length) (wnG fB ws ws.length) (rr rate)).length) (0) (eU K 274 O) (kI 0 O) H,aU fun _ _ H K=>R.pickT (eU K 272 O) (dT (mkX_ins _ _ _ _)) (eU K 275 O) O H,mU 276 O O,aW O O (gT (dT (Nat.pos_of_ne_zero hpos)) O) fun _ _ H K=>R.mov (eU K 18 O) O H,aW O O (gT (dT (Nat.pos_of_ne_zero hpos)) O) fun _ _ H K=>R.mov (eU K 18 O) O H,aW O O (gT (dT (Nat.pos_of_ne_zero hpos)) O) fun _ _ H K=>R.lenE (SC.sl (K 279 _ O)) (lN _) H,aW O O (gT (dT (Nat.pos_of_ne_zero hpos)) O) fun _ _ H K=>R.subN ((chC (cnF f0 vs vs.length) (wnG fB ws ws.length) (rr rate)).length) (1) (eU K 280 O) (kI 1 O) bU bU H,aW O O (gT (dT (Nat.pos_of_ne_zero hpos)) O) fun _ _ H K=>R.idxN (((chC (cnF f0 vs vs.length) (wnG fB ws ws.length) (rr rate)).length - 1)) (SC.sl (K 278 _ O)) (evoI (eU K 281 O)) O bU H dU,aW O O (gT (dT (Nat.pos_of_ne_zero hpos)) O) fun _ _ H K=>R.fdE (K 282 _ O) H dU,aW O O (gT (dT (Nat.pos_of_ne_zero hpos)) O) fun _ _ H K=>R.ldE (K 283 _ O) (SC.sl (K 278 _ O)) (map_get! (l:=(chC (cnF f0 vs vs.length) (wnG fB ws ws.length) (rr rate))) bU) O O O O H,aW O O (gT (dT (Nat.pos_of_ne_zero hpos)) O) fun _ _ H K=>R.bin (eU K 284 O) (show ev _ _ (.const (.int .u64 0)) = some (.u64 0) from O) O Zt H,aW O O (gT (dT (Nat.pos_of_ne_zero hpos)) O) fun _ _ H K=>R.mov (eU K 285 O) O H,aF O O (gT (dT zl) O),aF O O (gT (dT zl) O),aF O O (gT (dT zl) O),aW O O (gT (dT (Nat.pos_of_ne_zero hpos)) O) fun _ _ H K=>R.pickT (eU K 286 O) (dT zl) (kB true O) O H,aU fun _ _ H K=>R.pickT (eU K 277 O) (dT (Nat.pos_of_ne_zero hpos)) (eU K 290 O) O H,mU 291 O O,aW O O (gT (O) O) fun _ _ H _=>R.callG hC (works_ok) Bn (FrsR.one (.bool _)) H,aU fun _ _ H K=>R.pickT (eU K 292 O) (O) (eU K 293 O) O H,aU fun _ _ H K=>R.asg (eU K 294 O) O H,Zt⟩ O O O O (tU O ?_)
                         refine W.ret ?_
                         exact Ends.one' (.inr O) O (O) O O Zt
                       · refine W.l0 48 (.y 248 _ :: .y 249 _ :: .y 250 _ :: .y 251 _ :: .y 252 _ :: .y 253 _ :: .y 254 _ :: .y 255 _ :: .y 256 _ :: .y 257 _ :: .y 258 _ :: .y 259 _ :: .y 260 _ :: .y 261 _ :: .y 262 _ :: .y 263 _ :: .y 264 _ :: .y 265 _ :: .y 266 _ :: .y 267 _ :: .y 268 _ :: .y 269 _ :: .y 270 _ :: .y 271 _ :: .y 272 _ :: .y 273 _ :: .y 274 _ :: .y 275 _ :: .y 276 _ :: .y 277 _ :: .y 278 _ :: .y 279 _ :: .y 280 _ :: .y 281 _ :: .y 282 _ :: .y 283 _ :: .y 284 _ :: .y 285 _ :: .y 286 _ :: .y 287 _ :: .y 288 _ :: .y 289 _ :: .y 290 _ :: .y 291 _ :: .y 292 _ :: .y 293 _ :: .y 294 _ :: .y 10 _ :: []) [] [] [(10,_)] [(26,.var _),(24,.var _)] 295 ⟨mU 34 O O,aU fun _ _ H K=>R.bin (eU K 248 O) (kI 0 O) O Zt H,mU 249 O O,aW O O (gT (beq_iff_eq.2 hck.1) O) fun _ _ H K=>R.mov (eU K 36 O) O H,aW O O (gT (beq_iff_eq.2 hck.1) O) fun _ _ H K=>R.bin (eU K 251 O) (kI 0 O) O Zt H,aU fun _ _ H K=>R.pickT (eU K 250 O) (beq_iff_eq.2 hck.1) (eU K 252 O) O H,mU 253 O O,aW O O (gT (beq_iff_eq.2 hck2.1) O) fun _ _ H K=>R.mov (eU K 33 O) O H,aW O O (gT (beq_iff_eq.2 hck2.1) O) fun _ _ H K=>R.mov (eU K 28 O) O H,aW O O (gT (beq_iff_eq.2 hck2.1) O) fun _ _ H K=>R.bin (eU K 255 O) (eU K 256 O) O Zt H,aU fun _ _ H K=>R.pickT (eU K 254 O) (beq_iff_eq.2 hck2.1) (eU K 257 O) O H,mU 258 O O,aW O O (gT (beq_iff_eq.2 hck.2) O) fun _ _ H K=>R.mov (eU K 35 O) O H,aW O O (gT (beq_iff_eq.2 hck.2) O) fun _ _ H K=>R.mov (eU K 28 O) O H,aW O O (gT (beq_iff_eq.2 hck.2) O) fun _ _ H K=>R.bin (eU K 260 O) (eU K 261 O) O Zt H,aU fun _ _ H K=>R.pickT (eU K 259 O) (beq_iff_eq.2 hck.2) (eU K 262 O) O H,mU 263 O O,aW O O (gT (beq_iff_eq.2 (hck2.2.trans hls.symm)) O) (fU 24 O O),aW O O (gT (beq_iff_eq.2 (hck2.2.trans hls.symm)) O) (lU 265 O O O O O O O),aW O O (gT (beq_iff_eq.2 (hck2.2.trans hls.symm)) O) fun _ _ H K=>R.lenE (SC.sl (K 266 _ O)) (lN _) H,aW O O (gT (beq_iff_eq.2 (hck2.2.trans hls.symm)) O) fun _ _ H K=>R.mov (eU K 18 O) O H,aW O O (gT (beq_iff_eq.2 (hck2.2.trans hls.symm)) O) fun _ _ H K=>R.lenE (SC.sl (K 268 _ O)) (lN _) H,aW O O (gT (beq_iff_eq.2 (hck2.2.trans hls.symm)) O) fun _ _ H K=>R.eqlN ((mkX (cnF f0 vs vs.length) (wnG fB ws ws.length) [9] (rr rate)).ins.length) ((chC (cnF f0 vs vs.length) (wnG fB ws ws.length) (rr rate)).length) (eU K 267 O) (eU K 269 O) H,aU fun _ _ H K=>R.pickT (eU K 264 O) (beq_iff_eq.2 (hck2.2.trans hls.symm)) (eU K 270 O) O H,mU 271 O O,aW O O (gT (dT (mkX_ins _ _ _ _)) O) fun _ _ H K=>R.mov (eU K 18 O) O H,aW O O (gT (dT (mkX_ins _ _ _ _)) O) fun _ _ H K=>R.lenE (SC.sl (K 273 _ O)) (lN _) H,aW O O (gT (dT (mkX_ins _ _ _ _)) O) fun _ _ H K=>R.gtrN ((chC (cnF f0 vs vs.length) (wnG fB ws ws.length) (rr rate)).length) (0) (eU K 274 O) (kI 0 O) H,aU fun _ _ H K=>R.pickT (eU K 272 O) (dT (mkX_ins _ _ _ _)) (eU K 275 O) O H,mU 276 O O,aW O O (gT (dT (Nat.pos_of_ne_zero hpos)) O) fun _ _ H K=>R.mov (eU K 18 O) O H,aW O O (gT (dT (Nat.pos_of_ne_zero hpos)) O) fun _ _ H K=>R.mov (eU K 18 O) O H,aW O O (gT (dT (Nat.pos_of_ne_zero hpos)) O) fun _ _ H K=>R.lenE (SC.sl (K 279 _ O)) (lN _) H,aW O O (gT (dT (Nat.pos_of_ne_zero hpos)) O) fun _ _ H K=>R.subN ((chC (cnF f0 vs vs.length) (wnG fB ws ws.length) (rr rate)).length) (1) (eU K 280 O) (kI 1 O) bU bU H,aW O O (gT (dT (Nat.pos_of_ne_zero hpos)) O) fun _ _ H K=>R.idxN (((chC (cnF f0 vs vs.length) (wnG fB ws ws.length) (rr rate)).length - 1)) (SC.sl (K 278 _ O)) (evoI (eU K 281 O)) O bU H dU,aW O O (gT (dT (Nat.pos_of_ne_zero hpos)) O) fun _ _ H K=>R.fdE (K 282 _ O) H dU,aW O O (gT (dT (Nat.pos_of_ne_zero hpos)) O) fun _ _ H K=>R.ldE (K 283 _ O) (SC.sl (K 278 _ O)) (map_get! (l:=(chC (cnF f0 vs vs.length) (wnG fB ws ws.length) (rr rate))) bU) O O O O H,aW O O (gT (dT (Nat.pos_of_ne_zero hpos)) O) fun _ _ H K=>R.bin (eU K 284 O) (show ev _ _ (.const (.int .u64 0)) = some (.u64 0) from O) O Zt H,aW O O (gT (dT (Nat.pos_of_ne_zero hpos)) O) fun _ _ H K=>R.mov (eU K 285 O) O H,aW O O (gF (dF zl) O) fun _ _ H K=>R.mov (eU K 18 O) O H,aW O O (gF (dF zl) O) fun _ _ H K=>R.lenE (SC.sl (K 287 _ O)) (lN _) H,aW O O (gF (dF zl) O) fun _ _ H K=>R.eqlN ((chC (cnF f0 vs vs.length) (wnG fB ws ws.length) (rr rate)).length) (1) (eU K 288 O) (kI 1 O) H,aW O O (gT (dT (Nat.pos_of_ne_zero hpos)) O) fun _ _ H K=>R.pickF (eU K 286 O) (dF zl) (eU K 289 O) O H,aU fun _ _ H K=>R.pickT (eU K 277 O) (dT (Nat.pos_of_ne_zero hpos)) (eU K 290 O) O H,mU 291 O O,aW O O (gT (dT (G.last hE zl)) O) fun _ _ H _=>R.callG hC (works_ok) Bn (FrsR.one (.bool _)) H,aU fun _ _ H K=>R.pickT (eU K 292 O) (dT (G.last hE zl)) (eU K 293 O) O H,aU fun _ _ H K=>R.asg (eU K 294 O) O H,Zt⟩ O O O O (tU O ?_)
                         refine W.ret ?_
                         exact Ends.one' (.inr O) O (O) O O Zt
end Go.Sx

namespace Go.Sx
open Go.ChangeShapes Go.WideShapes
structure Rd (P : Program) (t : TypeId) (z : Nat) {α : Type} (f : α -> D) (q : α -> Prop) : Prop where
 cells : P.cellsOf t = z
 sz : ∀ a,q a -> (f a).sz = z
 rd : ∀ {H : Type} {enc : TypeId × Value -> H} {w : World} {n : Nat} {cs : List Value} {x : DataW H × List MemPlace},DataW.trod enc P w 0 (fun _=>true) true n t cs = some x ->
  (x.1.weights P t).all (· <= reachBytes) = true -> ∃ a,q a /\ Rc w (fun x=>x) (fun b=>b < w.heap.size) (fun _=>False) false (f a) cs []
variable {P : Program} {t e z : Nat}
theorem Rd.u8 (ht : P.underlying t = some (.int .u8)) (hz : P.cellsOf t = 1) : Rd P t 1 D.u8 (fun _=>True):=
 ⟨hz,fun _ _=>rfl,fun h _=>by
  obtain ⟨n,rfl,_,hw⟩:=DataW.trod_int ht h
  simp [Lit.wf,IntKind.min,IntKind.max,IntKind.signed,IntKind.bits] at hw
  refine ⟨UInt8.ofNat n.toNat,trivial, ?_⟩
  have : ((UInt8.ofNat n.toNat).toNat : Int) = n:=by simp [UInt8.toNat_ofNat']; omega
  have h1:=Rc.u8 (w:=‹World›) (ρ:=fun x=>x) (G:=fun b=>b < (‹World›).heap.size) (L:=fun _=>False) (p:=false) (UInt8.ofNat n.toNat)
  rw [this] at h1
  exact h1⟩
theorem Rd.u16 (ht : P.underlying t = some (.int .u16)) (hz : P.cellsOf t = 1) : Rd P t 1 D.u16 (fun _=>True):=
 ⟨hz,fun _ _=>rfl,fun h _=>by
  obtain ⟨n,rfl,_,hw⟩:=DataW.trod_int ht h
  simp [Lit.wf,IntKind.min,IntKind.max,IntKind.signed,IntKind.bits] at hw
  refine ⟨UInt16.ofNat n.toNat,trivial, ?_⟩
  have : ((UInt16.ofNat n.toNat).toNat : Int) = n:=by simp [UInt16.toNat_ofNat']; omega
  have h1:=Rc.u16 (w:=‹World›) (ρ:=fun x=>x) (G:=fun b=>b < (‹World›).heap.size) (L:=fun _=>False) (p:=false) (UInt16.ofNat n.toNat)
  rw [this] at h1
  exact h1⟩
theorem Rd.u32 (ht : P.underlying t = some (.int .u32)) (hz : P.cellsOf t = 1) : Rd P t 1 D.u32 (fun _=>True):=
 ⟨hz,fun _ _=>rfl,fun h _=>by
  obtain ⟨n,rfl,_,hw⟩:=DataW.trod_int ht h
  simp [Lit.wf,IntKind.min,IntKind.max,IntKind.signed,IntKind.bits] at hw
  refine ⟨UInt32.ofNat n.toNat,trivial, ?_⟩
  have : ((UInt32.ofNat n.toNat).toNat : Int) = n:=by simp [UInt32.toNat_ofNat']; omega
  have h1:=Rc.u32 (w:=‹World›) (ρ:=fun x=>x) (G:=fun b=>b < (‹World›).heap.size) (L:=fun _=>False) (p:=false) (UInt32.ofNat n.toNat)
  rw [this] at h1
  exact h1⟩
theorem weightsAll_mem {H : Type} {p : Nat -> Bool} {l : List (DataW H)} (h : (DataW.weightsAll P e l).all p = true) : ∀ d ∈ l,(d.weights P e).all p = true:=by
 induction l with
 | nil=>intro d hd; cases hd
 | cons x r ih=>
  simp only [DataW.weightsAll,List.all_append,Bool.and_eq_true] at h
  intro d hd
  rcases List.mem_cons.1 hd with rfl | hd
  · exact h.1
  · exact ih h.2 d hd
theorem weightsEach_get {H : Type} {p : Nat -> Bool} : ∀ {ts : List TypeId} {l : List (DataW H)},(DataW.weightsEach P ts l).all p = true -> ∀ (i : Nat) (t : TypeId) (d : DataW H),ts[i]? = some t -> l[i]? = some d -> (d.weights P t).all p = true:=by
 intro ts
 induction ts with
 | nil=>intro l _ i t d ht; simp at ht
 | cons t0 ts ih=>
  intro l h i t d ht hd
  cases l with
  | nil=>simp at hd
  | cons x r=>
   simp only [DataW.weightsEach,List.all_append,Bool.and_eq_true] at h
   cases i with
   | zero=>simp at ht hd; subst ht; subst hd; exact h.1
   | succ i=>exact ih h.2 i t d (by simpa using ht) (by simpa using hd)
theorem list_of {α : Type} {n : Nat} {p : Nat -> α -> Prop} (h : ∀ i,i < n -> ∃ a,p i a) : ∃ l : List α,l.length = n /\ ∀ i (hi : i < l.length),p i l[i]:=by
 induction n with
 | zero=>exact ⟨[],rfl,fun i hi=>by simp at hi⟩
 | succ n ih=>
  obtain ⟨l,hl,hp⟩:=ih (fun i hi=>h i (by omega))
  obtain ⟨a,ha⟩:=h n (by omega)
  refine ⟨l ++ [a],by simp [hl],fun i hi=>?_⟩
  rcases Nat.lt_or_ge i l.length with h1 | h1
  · rw [List.getElem_append_left h1]; exact hp i h1
  · have : i = n:=by simp at hi; omega
    subst this
    rw [List.getElem_append_right h1]
    simpa [hl] using ha
theorem cells_row {w : World} {b off n : Nat} {c : Array Value} {ty : TypeId} {fz : Nat × Nat} {cs : List Value} (hb : w.heap[b]? = some (.cells c ty fz)) (h : w.cells? 0 ⟨b,off,none⟩ n = some cs) (hn : 0 < n) :
 off + n <= c.size /\ cs = (c.toList.drop off).take n:=by
 obtain ⟨_,hl,hc⟩:=World.cells?_some h
 have hc' : ∀ i,i < n -> c[off + i]? = cs[i]?:=fun i hi=>by
  have:=hc i hi
  rw [add_lit,cell_of_row w b _ c ty fz hb] at this
  exact this
 have h1:=hc' (n - 1) (by omega)
 have h2 : off + (n - 1) < c.size:=by
  rw [List.getElem?_eq_getElem (by omega)] at h1
  exact (Array.getElem?_eq_some_iff.1 h1).1
 refine ⟨by omega, ?_⟩
 apply List.ext_getElem?
 intro i
 rw [List.getElem?_take]
 split
 · rw [List.getElem?_drop]
   rw [<- hc' i (by assumption)]
   simp
 · rw [List.getElem?_eq_none (by omega)]
theorem Rd.sl {α : Type} {f : α -> D} {q : α -> Prop} (ht : P.underlying t = some (.slice e)) (hz : P.cellsOf t = 1) (h0 : 0 < z) (hby : 0 < P.bytesOf e) (he : Rd P e z f q) :
 Rd P t 1 (fun l : List α=>.sl none z (l.map f)) (fun l=>l.length <= 140737488355328 /\ ∀ x ∈ l,q x):=
 ⟨hz,fun _ _=>rfl,fun {H enc w n cs x} h hwt=>by
  rcases Go.Deep.open_slice ht h with ⟨rfl,_⟩ | ⟨a,len,cap,m,n',Dd,Pl,rfl,_,hlc,hcm,hm,rfl,hx⟩
  · exact ⟨[],⟨by simp,by simp⟩,.slN none z⟩
  · simp only [if_true] at hm
    have hx:=fun i (hi : i < cap)=>hx i (by omega)
    simp only [DataW.weights,ht,List.all_cons,List.all_append,Bool.and_eq_true,decide_eq_true_eq,List.length_map,List.length_range] at hwt
    obtain ⟨hw1,hw2,hw3⟩:=hwt
    have hw4 : ∀ i,i < len -> ((Dd i).weights P e).all (· <= reachBytes) = true:=fun i hi=>weightsAll_mem hw2 _ (List.mem_map.2 ⟨i,List.mem_range.2 hi,rfl⟩)
    have hlen : len <= 140737488355328:=by
     have h6 : len * 1 <= (len + (m - len)) * P.bytesOf e:=Nat.mul_le_mul (by omega) hby
     simp only [reachBytes] at hw1
     omega
    rcases Nat.eq_zero_or_pos cap with rfl | hcap
    · have : len = 0:=by omega
      subst this
      exact ⟨[],⟨by simp,by simp⟩,.slE none z a⟩
    · rw [he.cells] at hx
      obtain ⟨b,off,sp⟩:=a
      obtain ⟨cs0,hc0,_⟩:=hx 0 hcap
      obtain ⟨_,hl0,hv0⟩:=World.cells?_some hc0
      have h1:=hv0 0 h0
      rw [List.getElem?_eq_getElem (by omega)] at h1
      have hblk : ∃ c ty fz,w.heap[b]? = some (.cells c ty fz) /\ sp = none:=by
       have e0 : ((⟨b,off,sp⟩ : Addr).add (0 * z)).add 0 = ⟨b,off,sp⟩:=by simp [Addr.add]
       rw [e0] at h1
       unfold World.cell? at h1
       simp only at h1
       split at h1
       · rename_i c ty fz hh
         cases sp with
         | none=>exact ⟨c,ty,fz,hh,rfl⟩
         | some s=>simp at h1
       · cases h1
      obtain ⟨c,ty,fz,hb,rfl⟩:=hblk
      have hrow : ∀ i,i < cap -> off + i * z + z <= c.size /\ (i < len -> ∃ a,q a /\ Rc w (fun x=>x) (fun b=>b < w.heap.size) (fun _=>False) false (f a) ((c.toList.drop (off + i * z)).take z) []):=fun i hi=>by
       obtain ⟨cs',h2,h3⟩:=hx i hi
       rw [add_lit] at h2
       obtain ⟨h4,rfl⟩:=cells_row hb h2 h0
       exact ⟨h4,fun hi=>he.rd h3 (hw4 i hi)⟩
      obtain ⟨l,hl,hp⟩:=list_of (fun i hi=>(hrow i (by omega : i < cap)).2 hi : ∀ i,i < len -> _)
      have hsz : off + cap * z <= c.size:=by
       have h5:=(hrow (cap - 1) (by omega)).1
       have : (cap - 1) * z + z = cap * z:=by rw [<- Nat.succ_mul]; congr 1; omega
       omega
      have hlz : len * z <= cap * z:=Nat.mul_le_mul_right z hlc
      refine ⟨l,⟨by omega,fun y hy=>?_⟩, ?_⟩
      · obtain ⟨i,hi,rfl⟩:=List.mem_iff_getElem.1 hy
        exact (hp i hi).1
      · have:=Rc.slI (w:=w) (ρ:=fun x=>x) (G:=fun b=>b < w.heap.size) (L:=fun _=>False) (p:=false) b off c ty fz cap z (l.map f) hb (Array.getElem?_eq_some_iff.1 hb).1 (by simp; omega) (by simp [hl]; omega)
         (fun i hi=>by simp only [List.getElem_map]; exact (hp i (by simpa using hi)).2)
        simpa [hl] using this⟩
def isAggT (P : Program) (t : TypeId) : Bool:=match P.underlying t with
 | some (.struct _)=>true
 | some (.array _ _)=>true
 | _=>false
theorem cells_one {r : Reach} {W : World} {base : Nat} {v : Value} (hu : isAggT P t = false) (hv : Value.okWide P W r base t v) : v.cells = #[v]:=by
 cases v with
 | agg cs=>
  exfalso
  unfold isAggT at hu
  unfold Value.okWide at hv
  split at hv
  · rename_i h; simp [h] at hu
  · rename_i h; simp [h] at hu
  · unfold Cell.okWide Cell.ok at hv
    split at hv <;> simp_all
 | _=>rfl
theorem Rd.arg {H : Type} {enc : TypeId × Value -> H} {α : Type} {f : α -> D} {q : α -> Prop} {g : Bool} {r : Reach} {W : World} {base : Nat} {v : Value} {d : DataW H} {ps : List MemPlace} (h : Rd P t z f q) (hu : isAggT P t = g) (hg : ∀ a,q a -> (f a).isAgg = g)
 (hv : Value.okWide P W r base t v) (hd : DataW.Trod enc P W 0 (fun _=>true) true t v d ps) (hw : (d.weights P t).all (· <= reachBytes) = true) :
 ∃ a,q a /\ VR W (fun x=>x) (fun b=>b < W.heap.size) (fun _=>False) (f a) v []:=by
 obtain ⟨fuel,hd⟩:=hd
 obtain ⟨a,ha,hr⟩:=h.rd hd hw
 refine ⟨a,ha, ?_⟩
 have hga:=hg a ha
 cases g with
 | true=>
  have : ∃ cs,v = .agg cs:=by
   unfold isAggT at hu
   unfold Value.okWide at hv
   split at hv
   · exact ⟨_,hv.choose_spec.1⟩
   · exact ⟨_,hv.choose_spec.1⟩
   · split at hu <;> simp_all
  obtain ⟨cs,rfl⟩:=this
  simp only [VR,hga,if_true]
  exact ⟨cs,rfl,hr.flag⟩
 | false=>
  rw [cells_one hu hv] at hr
  simp only [VR,hga,if_false,Bool.false_eq_true]
  exact hr.flag
theorem trodAll_stays {H : Type} {enc : TypeId × Value -> H} {W W' : World} {sp : Nat -> Bool} (hl : laidOutB P = true) (hb : ∀ b,b < W.heap.size -> W'.heap[b]? = W.heap[b]?) :
 ∀ {ts : List TypeId} {vs : List Value} {ds : List (DataW H)} {ps : List MemPlace},(ts.all fun t=>P.readableRec t && decide (t < P.types.size)) = true -> (∀ x ∈ ps,x.block < W.heap.size) -> (∀ x ∈ ps,sp x.block = true) ->
  DataW.TrodAll enc P W 0 (fun _=>true) true ts vs ds ps -> DataW.TrodAll enc P W' 0 sp true ts vs ds ps:=by
 intro ts
 induction ts with
 | nil=>intro vs ds ps _ _ _ h; obtain ⟨rfl,rfl,rfl⟩:=trodAll_nil h; exact trodAll_mk0
 | cons t ts ih=>
  intro vs ds ps ht hlt hs h
  obtain ⟨v,vs1,d,ds1,a,b,rfl,rfl,rfl,h1,h2⟩:=trodAll_cons h
  simp only [List.all_cons,Bool.and_eq_true,decide_eq_true_eq] at ht
  refine trodAll_cons_mk (Go.WideElems.Trod_stays hl ht.1.1 ht.1.2 h1 (fun x hx=>?_) (fun x hx=>hs x (List.mem_append.2 (.inl hx)))) (ih ht.2 (fun x hx=>hlt x (List.mem_append.2 (.inr hx))) (fun x hx=>hs x (List.mem_append.2 (.inr hx))) h2)
  have hx':=hlt x (List.mem_append.2 (.inl hx))
  cases x with
  | cell b o=>exact World.cell?_of_block (w:=W) (hb b hx')
  | map b=>exact hb b hx'
theorem contract_of {H : Type} {enc : TypeId × Value -> H} {fn : Func} {f : FuncId} {s : ChangeSpec} {W : World} {args : Array Value} {ds gs : List (DataW H)} {before : List MemPlace} {tb : TypeId} {gl : List (Nat × D)} {Ds : List D}
 (hl : laidOutB P = true) (hpar : (fn.params.toList.all fun t=>P.readableRec t && decide (t < P.types.size)) = true) (hres : fn.resultTypes = #[tb]) (htb : P.underlying tb = some .bool) (hsv : s.vars = [])
 (hfn : s.fn H ds = { results:=[.lit (.bool true)],args:=ds }) (hW : DataW.Whole enc P fn.params.toList s.vars false W args.toList ds gs before)
 (hgl : ∀ g d,(g,d) ∈ gl -> g < W.heap.size /\ ∃ cs e fz,W.heap[g]? = some (.cells cs e fz) /\ Rc W (fun x=>x) (fun _=>False) (fun _=>False) false d cs.toList [])
 (hlen : args.toList.length = Ds.length) (hargs : ∀ k (h : k < Ds.length),VR W (fun x=>x) (fun b=>b < W.heap.size) (fun _=>False) Ds[k] (args.toList.getD k undef) [])
 (hf : Fn P gl f Ds (.bool true)) : Calls P f args W fun e W'=>∃ v,e = .returned v /\ s.post enc P fn false true false false W args v W':=by
 have hrun:=hf W (fun b=>b < W.heap.size) args.toList hgl hlen hargs
 rw [Array.toArray_toList] at hrun
 refine hrun.mono fun ex W' ⟨v,F,he,hext,_,_,hrv⟩=>⟨v,he, ?_⟩
 have hv : v = .bool true:=by
  obtain ⟨_,h2⟩:=hrv
  simp only [VR,D.isAgg,Bool.false_eq_true,if_false] at h2
  cases h2
  rfl
 subst hv
 have hlt:=hW.lt
 have hW0:=hW
 obtain ⟨p,q',hA,hV,rfl,hfz,hnd⟩:=hW
 rw [hsv] at hV
 obtain ⟨rfl,rfl⟩:=trodVars_none hV
 simp only [List.append_nil] at hlt hW0
 have hst : ∀ sp : Nat -> Bool,(∀ x ∈ p,sp x.block = true) -> DataW.TrodAll enc P W' 0 sp true fn.params.toList args.toList ds p:=fun sp hs=>trodAll_stays hl (fun b hb=>hext.block b hb) hpar hlt hs hA
 refine ⟨ds,[],p,[],p,[],hW0, ?_, ?_, ?_,⟨hext.os,hext.output,fun i hi=>?_⟩,fun h=>by cases h⟩
 · rw [hres]
   simp only [List.append_nil,hfn]
   exact trodAll_cons_mk (Go.RowKit.shut_bool htb true) trodAll_mk0
 · simp only [List.append_nil,hfn]
   exact hst _ (fun x hx=>by simpa using hlt x hx)
 · simp only [List.append_nil,hfn,hsv]
   rfl
 · rw [hext.block i hi]
   cases hh : W.heap[i]? with
   | none=>simp
   | some o=>cases o <;> simp
end Go.Sx

namespace Go.Sx
open Go.Proofs
end Go.Sx
