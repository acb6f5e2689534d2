/- Proved: what functions of the given program compute (used by the theorem of this claim). Conditions: none but those that each theorem states. -/
import Derived.Test.YtdjoepmmffghhaaDoorMSxBldO
import Derived.Test.YtdjoepmmffghhaaDoorMTxDefs
set_option linter.unusedVariables false
set_option linter.unusedSimpArgs false
set_option linter.unnecessarySimpa false

namespace Go.Sx
open Go.Proofs
theorem rlow_ok (x : UInt64) (n : Nat) (hn : n ≤ 8) : Fn Tryd.prog gl 35 [.u64 x,.int ((n : Nat) : Int)] (.sl (some 5) 1 ((lowI x n).map D.u8)) := by
 refine Fn.of (n := 22) Tryd.func35 rfl rfl rfl (nU rfl) fun C hC hD => ?_
 refine W.seq ?_
 refine W.l0 1 [.y 4 _] [] [] [(0,_),(1,_)] [] 22 ⟨aU fun _ _ H _ => R.asg (kN rfl) rfl H,trivial⟩ rfl rfl rfl rfl (tU rfl ?_)
 refine W.seq ?_
 refine W.l0 1 [.y 5 _] [] [] [(0,_),(1,_),(5,_)] [] 22 ⟨aU fun _ _ H _ => R.asg (kN rfl) rfl H,trivial⟩ rfl rfl rfl rfl (tU rfl ?_)
 refine W.seq ?_
 refine W.seq ?_
 refine W.l0 1 [.y 6 _] [] [] [(0,_),(1,_),(5,_),(6,_)] [] 22 ⟨aU fun _ _ H _ => R.asg (kI 0 rfl) rfl H,trivial⟩ rfl rfl rfl rfl (tU rfl ?_)
 refine W.block ?_
 refine W.asOwn (s := 5) 5 1 rfl ?_
 refine W.loop (α := {q__ : Nat // q__ ≤ n}) (fun q__ => ⟨22,[(0,.u64 x),(1,.int ((n : Nat) : Int)),(5,.sl (some 5) 1 ((lowI x q__.1).map D.u8)),(6,.int ((q__.1 : Nat) : Int))],[]⟩) (fun q__ => n - q__.1) ⟨(0),bU⟩ rfl ?_
 rintro ⟨i,hi⟩
 show W _ _ _ _ ⟨22,[(0,.u64 x),(1,.int ((n : Nat) : Int)),(5,.sl (some 5) 1 ((lowI x i).map D.u8)),(6,.int ((i : Nat) : Int))],[]⟩
 have hi : i ≤ n := hi
 have hll := lowI_len x i
 refine W.seq ?_
 refine W.seq ?_
 refine W.l0 3 [.y 7 _,.y 8 _,.y 9 _] [] [] [(0,_),(1,_),(5,_),(6,_),(9,_)] [] 22 ⟨mU 6 rfl rfl,mU 1 rfl rfl,aU fun _ _ H K => R.lssN (i) (n) (eU K 7 rfl) (eU K 8 rfl) H,trivial⟩ rfl rfl rfl rfl (tU rfl ?_)
 refine W.condD rfl (fun hc9 => ?_) (fun hc9 => ?_)
 · refine W.skip ?_
   refine W.seq ?_
   refine W.block ?_
   refine W.l0 10 [.y 12 _,.y 13 _,.y 14 _,.y 15 _,.y 16 _,.y 17 _,.y 18 _,.y 19 _,.y 20 _,.y 5 _] [(8,5),(9,20),(9,12)] [(8,5),(9,20)] [(0,_),(1,_),(5,_),(6,_)] [] 22 ⟨aU fun _ _ H K => R.al (K 5 _ rfl) H (by decide),mU 0 rfl rfl,mU 6 rfl rfl,aU fun _ _ H K => R.mulN (8) (i) (kI 8 rfl) (eU K 14 rfl) bU H,aU fun _ _ H K => R.convE (d := .u64 (cU (8 * i))) (eU K 15 rfl) rfl (rfl) H,aU fun _ _ H K => R.binE (d := .u64 (shN x i)) (eU K 13 rfl) (eU K 16 rfl) rfl bV (congrArg D.u64 (shN_eq x i (by omega))) H,aU fun _ _ H K => R.conv (eU K 17 rfl) rfl H,aU fun _ _ H K => R.bslE (z := 1) (.cons (eU K 18 rfl) .nil) ⟨⟨rfl,rfl,rfl⟩,trivial⟩ rfl H (by decide),aU fun _ _ H K => R.appE (Or.inr (K 12 _ rfl)) (K 5 _ rfl) (SrcO.sc (SC.sl (K 19 _ rfl)) (pur_lit rfl)) (show _ = ((lowI x (i + 1)).map D.u8) from (by simp [lowI])) bU H (by decide) (by decide),aU fun _ _ H K => R.asgO (K 20 _ rfl) rfl H (by decide),trivial⟩ rfl rfl rfl rfl (tU rfl ?_)
   refine W.l0 3 [.y 10 _,.y 11 _,.y 6 _] [] [] [(0,_),(1,_),(5,_),(6,_)] [] 22 ⟨mU 6 rfl rfl,aU fun _ _ H K => R.addN (i) (1) (eU K 10 rfl) (kI 1 rfl) bU H,aU fun _ _ H K => R.asg (eU K 11 rfl) rfl H,trivial⟩ rfl rfl rfl rfl (tU rfl ?_)
   exact ⟨⟨(i + 1),bU⟩,rfl,(by simp only []; omega)⟩
 · obtain rfl : i = n := by omega
   refine W.exit ?_
   refine W.seq ?_
   refine W.l0 2 [.y 21 _,.y 4 _] [(0,5),(1,21)] [(0,5),(1,21)] [(4,_)] [] 22 ⟨aU fun _ _ H K => R.movO (K 5 _ rfl) rfl H (by decide),aU fun _ _ H K => R.asgO (K 21 _ rfl) rfl H (by decide),trivial⟩ rfl rfl rfl rfl (tU rfl ?_)
   refine W.ret ?_
   exact Ends.one' (.inr rfl) rfl (rfl) rfl rfl trivial

theorem rcnt_ok (n : Nat) : Fn Tryd.prog gl 37 [.int ((n : Nat) : Int)] (.sl (some 5) 1 ((countS n).map D.u8)) := by
 refine Fn.of (n := 27) Tryd.func37 rfl rfl rfl (nU rfl) fun C hC hD => ?_
 refine W.seq ?_
 refine W.l0 1 [.y 2 _] [] [] [(0,_)] [] 27 ⟨aU fun _ _ H _ => R.asg (kN rfl) rfl H,trivial⟩ rfl rfl rfl rfl (tU rfl ?_)
 refine W.seq ?_
 refine W.l0 3 [.y 4 _,.y 5 _,.y 3 _] [] [] [(3,_)] [] 27 ⟨mU 0 rfl rfl,aU fun _ _ H K => R.convE (d := .u64 (cU n)) (eU K 4 rfl) rfl (rfl) H,aU fun _ _ H K => R.asg (eU K 5 rfl) rfl H,trivial⟩ rfl rfl rfl rfl (tU rfl ?_)
 refine W.seq ?_
 refine W.seq ?_
 refine W.l0 2 [.y 6 _,.y 7 _] [] [] [(3,_),(7,_)] [] 27 ⟨mU 3 rfl rfl,aU fun _ _ H K => R.bin (eU K 6 rfl) (show ev _ _ (.const (.int .u64 253)) = some (.u64 253) from rfl) rfl trivial H,trivial⟩ rfl rfl rfl rfl (tU rfl ?_)
 refine W.cond rfl (fun hc7 => ?_) (fun hc7 => ?_)
 · refine W.seq ?_
   refine W.l0 4 [.y 8 _,.y 9 _,.y 10 _,.y 2 _] [(3,10)] [(3,10)] [(2,_)] [] 27 ⟨mU 3 rfl rfl,aU fun _ _ H K => R.conv (eU K 8 rfl) rfl H,aU fun _ _ H K => R.bslE (z := 1) (.cons (eU K 9 rfl) .nil) ⟨⟨rfl,rfl,rfl⟩,trivial⟩ rfl H (by decide),aU fun _ _ H K => R.asgO (K 10 _ rfl) rfl H (by decide),trivial⟩ rfl rfl rfl rfl (tU rfl ?_)
   refine W.ret ?_
   exact Ends.one' (.inr rfl) rfl (by rw [countS,if_pos (of_decide_eq_true hc7)]; rfl) rfl rfl trivial
 · refine W.skip ?_
   refine W.seq ?_
   refine W.seq ?_
   refine W.l0 2 [.y 11 _,.y 12 _] [] [] [(3,_),(12,_)] [] 27 ⟨mU 3 rfl rfl,aU fun _ _ H K => R.bin (eU K 11 rfl) (show ev _ _ (.const (.int .u64 65536)) = some (.u64 65536) from rfl) rfl trivial H,trivial⟩ rfl rfl rfl rfl (tU rfl ?_)
   refine W.cond rfl (fun hc12 => ?_) (fun hc12 => ?_)
   · refine W.seq ?_
     refine W.l0 5 [.y 13 _,.y 14 _,.y 15 _,.y 16 _,.y 2 _] [(3,13),(4,16)] [(3,13),(4,16)] [(2,_)] [] 27 ⟨aU fun _ _ H _ => R.bslE (z := 1) (.cons (show ev _ _ (.const (.int .u8 253)) = some (.u8 253) from rfl) .nil) ⟨⟨rfl,rfl,rfl⟩,trivial⟩ rfl H (by decide),mU 3 rfl rfl,aU fun _ _ H K => R.callG hC (rlow_ok (cU n) 2 (by decide)) (Bors.cons (Bor.pur (eU K 14 rfl) rfl rfl) (Bors.cons (Bor.pur (kI 2 rfl) rfl rfl) Bors.nil)) (FrsR.one (.sl _ _ _ (frs_map fun _ => .u8 _))) H,aU fun _ _ H K => R.appE (Or.inl rfl) (K 13 _ rfl) (SrcO.sc (SC.sl (K 15 _ rfl)) (pur_map (fun _ => rfl))) (show _ = ((lowI 253 1 ++ lowI (cU n) 2).map D.u8) from (by simp [lowI,shN])) (by simp [lowI_len]) H (by decide) (by decide),aU fun _ _ H K => R.asgO (K 16 _ rfl) rfl H (by decide),trivial⟩ rfl rfl rfl rfl (tU rfl ?_)
     refine W.ret ?_
     exact Ends.one' (.inr rfl) rfl (by rw [countS,if_neg (of_decide_eq_false hc7),if_pos (le_of_lt16 (of_decide_eq_true hc12))]) rfl rfl trivial
   · refine W.skip ?_
     refine W.seq ?_
     refine W.seq ?_
     refine W.l0 2 [.y 17 _,.y 18 _] [] [] [(3,_),(18,_)] [] 27 ⟨mU 3 rfl rfl,aU fun _ _ H K => R.bin (eU K 17 rfl) (show ev _ _ (.const (.int .u64 4294967296)) = some (.u64 4294967296) from rfl) rfl trivial H,trivial⟩ rfl rfl rfl rfl (tU rfl ?_)
     refine W.cond rfl (fun hc18 => ?_) (fun hc18 => ?_)
     · refine W.seq ?_
       refine W.l0 5 [.y 19 _,.y 20 _,.y 21 _,.y 22 _,.y 2 _] [(3,19),(4,22)] [(3,19),(4,22)] [(2,_)] [] 27 ⟨aU fun _ _ H _ => R.bslE (z := 1) (.cons (show ev _ _ (.const (.int .u8 254)) = some (.u8 254) from rfl) .nil) ⟨⟨rfl,rfl,rfl⟩,trivial⟩ rfl H (by decide),mU 3 rfl rfl,aU fun _ _ H K => R.callG hC (rlow_ok (cU n) 4 (by decide)) (Bors.cons (Bor.pur (eU K 20 rfl) rfl rfl) (Bors.cons (Bor.pur (kI 4 rfl) rfl rfl) Bors.nil)) (FrsR.one (.sl _ _ _ (frs_map fun _ => .u8 _))) H,aU fun _ _ H K => R.appE (Or.inl rfl) (K 19 _ rfl) (SrcO.sc (SC.sl (K 21 _ rfl)) (pur_map (fun _ => rfl))) (show _ = ((lowI 254 1 ++ lowI (cU n) 4).map D.u8) from (by simp [lowI,shN])) (by simp [lowI_len]) H (by decide) (by decide),aU fun _ _ H K => R.asgO (K 22 _ rfl) rfl H (by decide),trivial⟩ rfl rfl rfl rfl (tU rfl ?_)
       refine W.ret ?_
       exact Ends.one' (.inr rfl) rfl (by rw [countS,if_neg (of_decide_eq_false hc7),if_neg (fun h => of_decide_eq_false hc12 (lt_of_le16 h)),if_pos (le_of_lt32 (of_decide_eq_true hc18))]) rfl rfl trivial
     · refine W.skip ?_
       refine W.seq ?_
       refine W.l0 5 [.y 23 _,.y 24 _,.y 25 _,.y 26 _,.y 2 _] [(3,23),(4,26)] [(3,23),(4,26)] [(2,_)] [] 27 ⟨aU fun _ _ H _ => R.bslE (z := 1) (.cons (show ev _ _ (.const (.int .u8 255)) = some (.u8 255) from rfl) .nil) ⟨⟨rfl,rfl,rfl⟩,trivial⟩ rfl H (by decide),mU 3 rfl rfl,aU fun _ _ H K => R.callG hC (rlow_ok (cU n) 8 (by decide)) (Bors.cons (Bor.pur (eU K 24 rfl) rfl rfl) (Bors.cons (Bor.pur (kI 8 rfl) rfl rfl) Bors.nil)) (FrsR.one (.sl _ _ _ (frs_map fun _ => .u8 _))) H,aU fun _ _ H K => R.appE (Or.inl rfl) (K 23 _ rfl) (SrcO.sc (SC.sl (K 25 _ rfl)) (pur_map (fun _ => rfl))) (show _ = ((lowI 255 1 ++ lowI (cU n) 8).map D.u8) from (by simp [lowI,shN])) (by simp [lowI_len]) H (by decide) (by decide),aU fun _ _ H K => R.asgO (K 26 _ rfl) rfl H (by decide),trivial⟩ rfl rfl rfl rfl (tU rfl ?_)
       refine W.ret ?_
       exact Ends.one' (.inr rfl) rfl (by rw [countS,if_neg (of_decide_eq_false hc7),if_neg (fun h => of_decide_eq_false hc12 (lt_of_le16 h)),if_neg (fun h => of_decide_eq_false hc18 (lt_of_le32 h))]) rfl rfl trivial

theorem ritm_ok (x : List UInt8) (hx : x.length ≤ 1000000) : Fn Tryd.prog gl 38 [.sl none 1 (x.map D.u8)] (.sl (some 5) 1 ((itemS x).map D.u8)) := by
 refine Fn.of (n := 8) Tryd.func38 rfl rfl rfl (nU rfl) fun C hC hD => ?_
 have hcl := countS_len x.length
 refine W.seq ?_
 refine W.l0 1 [.y 2 _] [] [] [(0,_)] [] 8 ⟨aU fun _ _ H _ => R.asg (kN rfl) rfl H,trivial⟩ rfl rfl rfl rfl (tU rfl ?_)
 refine W.seq ?_
 refine W.l0 6 [.y 3 _,.y 4 _,.y 5 _,.y 6 _,.y 7 _,.y 2 _] [(4,5),(5,7)] [(4,5),(5,7)] [(2,_)] [] 8 ⟨mU 0 rfl rfl,aU fun _ _ H K => R.lenE (SC.sl (K 3 _ rfl)) (List.length_map _) H,aU fun _ _ H K => R.callG hC (rcnt_ok x.length) (Bors.cons (Bor.pur (eU K 4 rfl) rfl rfl) Bors.nil) (FrsR.one (.sl _ _ _ (frs_map fun _ => .u8 _))) H,mU 0 rfl rfl,aU fun _ _ H K => R.appE (Or.inl rfl) (K 5 _ rfl) (SrcO.sc (SC.sl (K 6 _ rfl)) (pur_map (fun _ => rfl))) (show _ = ((itemS x).map D.u8) from (by simp [itemS])) bU H (by decide) (by decide),aU fun _ _ H K => R.asgO (K 7 _ rfl) rfl H (by decide),trivial⟩ rfl rfl rfl rfl (tU rfl ?_)
 refine W.ret ?_
 exact Ends.one' (.inr rfl) rfl (rfl) rfl rfl trivial

theorem rinput_ok (x : InS) (hh : x.tx.length = 32) (hx : x.script.length ≤ 1000000) : Fn Tryd.prog gl 58 [inD x] (.sl (some 5) 1 ((inS x).map D.u8)) := by
 refine Fn.of (n := 27) Tryd.func58 rfl rfl rfl (nU rfl) fun C hC hD => ?_
 have hil := itemS_len x.script
 refine W.seq ?_
 refine W.l0 2 [] [] [] [(0,_)] [] 27 trivial rfl rfl rfl rfl (⟨rfl,_,R.box (gV 0 rfl) rfl rfl (nU rfl),⟨rfl,_,R.asg (kN rfl) rfl (nU rfl),tV [(1,_)] [(1,.var _)] 27 rfl rfl rfl ?_⟩⟩)
 refine W.seq ?_
 refine W.l0 6 [.y 4 _,.y 5 _,.y 6 _,.y 7 _,.y 8 _,.y 3 _] [(4,4),(5,8)] [(4,4),(5,8)] [(1,_),(3,_)] [(1,.var _)] 27 ⟨aU fun _ _ H _ => R.bslE .nil trivial rfl H (by decide),aU (fU 1 rfl rfl),aU (fU 5 rfl rfl),aU fun _ B H K => R.slAN (0) (32) (32) (K 6 _ rfl) (B 1 _ rfl) rfl rfl rfl rfl rfl bU bU rfl H,aU fun _ B H K => R.appE (Or.inl rfl) (K 4 _ rfl) (SrcO.sc (SC.va (K 7 _ rfl) (B 1 _ rfl) rfl bU) (pur_part (fun _ => rfl))) (show _ = (x.tx.map D.u8) from (by rw [List.drop_zero,List.take_of_length_le (by rw [List.length_map,hh]; exact Nat.le_refl _)]; simp)) bU H (by decide) (by decide),aU fun _ _ H K => R.asgO (K 8 _ rfl) rfl H (by decide),trivial⟩ rfl rfl rfl rfl (tU rfl ?_)
 refine W.seq ?_
 refine W.l0 8 [.y 9 _,.y 10 _,.y 11 _,.y 12 _,.y 13 _,.y 14 _,.y 15 _,.y 3 _] [(6,3),(7,15),(7,9)] [(6,3),(7,15)] [(1,_),(3,_)] [(1,.var _)] 27 ⟨aU fun _ _ H K => R.al (K 3 _ rfl) H (by decide),aU (fU 1 rfl rfl),aU (fU 10 rfl rfl),aU (lU 11 rfl rfl rfl rfl rfl rfl rfl),aU fun _ _ H K => R.conv (eU K 12 rfl) rfl H,aU fun _ _ H K => R.callG hC (rlow_ok x.n.toUInt64 4 (by decide)) (Bors.cons (Bor.pur (eU K 13 rfl) rfl rfl) (Bors.cons (Bor.pur (kI 4 rfl) rfl rfl) Bors.nil)) (FrsR.one (.sl _ _ _ (frs_map fun _ => .u8 _))) H,aU fun _ _ H K => R.appE (Or.inr (K 9 _ rfl)) (K 3 _ rfl) (SrcO.sc (SC.sl (K 14 _ rfl)) (pur_map (fun _ => rfl))) (show _ = (((x.tx ++ lowI x.n.toUInt64 4)).map D.u8) from (by simp)) (by simp only [List.length_map,List.length_append,lowI_len,List.length_cons,List.length_nil]; omega) H (by decide) (by decide),aU fun _ _ H K => R.asgO (K 15 _ rfl) rfl H (by decide),trivial⟩ rfl rfl rfl rfl (tU rfl ?_)
 refine W.seq ?_
 refine W.l0 6 [.y 16 _,.y 17 _,.y 18 _,.y 19 _,.y 20 _,.y 3 _] [(4,3),(5,20),(5,16)] [(4,3),(5,20)] [(1,_),(3,_)] [(1,.var _)] 27 ⟨aU fun _ _ H K => R.al (K 3 _ rfl) H (by decide),aU (fU 1 rfl rfl),aU (lU 17 rfl rfl rfl rfl rfl rfl rfl),aU fun _ _ H K => R.callG hC (ritm_ok x.script (hx)) (Bors.cons (Bor.pur (eU K 18 rfl) rfl rfl) Bors.nil) (FrsR.one (.sl _ _ _ (frs_map fun _ => .u8 _))) H,aU fun _ _ H K => R.appE (Or.inr (K 16 _ rfl)) (K 3 _ rfl) (SrcO.sc (SC.sl (K 19 _ rfl)) (pur_map (fun _ => rfl))) (show _ = ((((x.tx ++ lowI x.n.toUInt64 4) ++ itemS x.script)).map D.u8) from (by simp)) (by simp only [List.length_map,List.length_append,lowI_len,List.length_cons,List.length_nil]; omega) H (by decide) (by decide),aU fun _ _ H K => R.asgO (K 20 _ rfl) rfl H (by decide),trivial⟩ rfl rfl rfl rfl (tU rfl ?_)
 refine W.seq ?_
 refine W.l0 7 [.y 21 _,.y 22 _,.y 23 _,.y 24 _,.y 25 _,.y 26 _,.y 2 _] [(5,3),(6,26)] [(5,3),(6,26)] [(2,_)] [(1,.var _)] 27 ⟨aU fun _ _ H K => R.al (K 3 _ rfl) H (by decide),aU (fU 1 rfl rfl),aU (lU 22 rfl rfl rfl rfl rfl rfl rfl),aU fun _ _ H K => R.conv (eU K 23 rfl) rfl H,aU fun _ _ H K => R.callG hC (rlow_ok x.seq.toUInt64 4 (by decide)) (Bors.cons (Bor.pur (eU K 24 rfl) rfl rfl) (Bors.cons (Bor.pur (kI 4 rfl) rfl rfl) Bors.nil)) (FrsR.one (.sl _ _ _ (frs_map fun _ => .u8 _))) H,aU fun _ _ H K => R.appE (Or.inr (K 21 _ rfl)) (K 3 _ rfl) (SrcO.sc (SC.sl (K 25 _ rfl)) (pur_map (fun _ => rfl))) (show _ = ((((x.tx ++ lowI x.n.toUInt64 4) ++ itemS x.script) ++ lowI x.seq.toUInt64 4).map D.u8) from (by simp)) (by simp only [List.length_map,List.length_append,lowI_len,List.length_cons,List.length_nil]; omega) H (by decide) (by decide),aU fun _ _ H K => R.asgO (K 26 _ rfl) rfl H (by decide),trivial⟩ rfl rfl rfl rfl (tU rfl ?_)
 refine W.ret ?_
 exact Ends.one' (.inr rfl) rfl (by simp only [inS]) rfl rfl trivial

theorem rbdy_ok (t : TxS) (hwf : t.wf) : Fn Tryd.prog gl 36 [txD t] (.sl (some 5) 1 ((bodyS t).map D.u8)) := by
 refine Fn.of (n := 57) Tryd.func36 rfl rfl rfl (nU rfl) fun C hC hD => ?_
 have hc1 := countS_len t.ins.length
 have hc2 := countS_len t.outs.length
 have h1 := hwf.ins
 have h2 := hwf.outs
 have h3 := hwf.insb _ (Nat.le_refl _)
 have h4 := hwf.outsb _ (Nat.le_refl _)
 refine W.seq ?_
 refine W.l0 2 [] [] [] [(0,_)] [] 57 trivial rfl rfl rfl rfl (⟨rfl,_,R.box (gV 0 rfl) rfl rfl (nU rfl),⟨rfl,_,R.asg (kN rfl) rfl (nU rfl),tV [(1,_)] [(1,.var _)] 57 rfl rfl rfl ?_⟩⟩)
 refine W.seq ?_
 refine W.l0 5 [.y 6 _,.y 7 _,.y 8 _,.y 9 _,.y 3 _] [(4,9)] [(4,9)] [(1,_),(3,_)] [(1,.var _)] 57 ⟨aU (fU 1 rfl rfl),aU (lU 6 rfl rfl rfl rfl rfl rfl rfl),aU fun _ _ H K => R.lenE (SC.sl (K 7 _ rfl)) (List.length_map _) H,aU fun _ _ H K => R.callG hC (rcnt_ok t.ins.length) (Bors.cons (Bor.pur (eU K 8 rfl) rfl rfl) Bors.nil) (FrsR.one (.sl _ _ _ (frs_map fun _ => .u8 _))) H,aU fun _ _ H K => R.asgO (K 9 _ rfl) rfl H (by decide),trivial⟩ rfl rfl rfl rfl (tU rfl ?_)
 refine W.seq ?_
 refine W.seq ?_
 refine W.l0 1 [.y 4 _] [] [] [(1,_),(3,_),(4,_)] [(1,.var _)] 57 ⟨aU fun _ _ H _ => R.asg (kI 0 rfl) rfl H,trivial⟩ rfl rfl rfl rfl (tU rfl ?_)
 refine W.block ?_
 refine W.loop (α := {q__ : Nat // q__ ≤ t.ins.length}) (fun q__ => ⟨57,[(1,.ptr 1 0 []),(3,.sl (some 5) 1 ((countS t.ins.length ++ insS t.ins q__.1).map D.u8)),(4,.int ((q__.1 : Nat) : Int))],[(1,.var (.agg [.u32 t.ver,.sl none 36 (t.ins.map inD),.sl none 2 (t.outs.map outD),.u32 t.lock]))]⟩) (fun q__ => t.ins.length - q__.1) ⟨(0),bU⟩ (by simp only [insS,List.append_nil]; rfl) ?_
 rintro ⟨i,hi⟩
 show W _ _ _ _ ⟨57,[(1,.ptr 1 0 []),(3,.sl (some 5) 1 ((countS t.ins.length ++ insS t.ins i).map D.u8)),(4,.int ((i : Nat) : Int))],[(1,.var (.agg [.u32 t.ver,.sl none 36 (t.ins.map inD),.sl none 2 (t.outs.map outD),.u32 t.lock]))]⟩
 have hi : i ≤ t.ins.length := hi
 have hib := hwf.insb i hi
 have hib1 : i < t.ins.length → (insS t.ins (i + 1)).length ≤ 1500000 := fun h => hwf.insb (i + 1) h
 have hx : i < t.ins.length → t.ins[i]!.tx.length = 32 ∧ t.ins[i]!.script.length ≤ 1000000 := fun h => ⟨hwf.hash _ (get_mem h),hwf.insScript h⟩
 have hiS : (insS t.ins (i + 1)).length = (insS t.ins i).length + (inS t.ins[i]!).length := by simp [insS]
 refine W.seq ?_
 refine W.seq ?_
 refine W.l0 5 [.y 10 _,.y 11 _,.y 12 _,.y 13 _,.y 14 _] [] [] [(1,_),(3,_),(4,_),(14,_)] [(1,.var _)] 57 ⟨mU 4 rfl rfl,aU (fU 1 rfl rfl),aU (lU 11 rfl rfl rfl rfl rfl rfl rfl),aU fun _ _ H K => R.lenE (SC.sl (K 12 _ rfl)) (List.length_map _) H,aU fun _ _ H K => R.lssN (i) (t.ins.length) (eU K 10 rfl) (eU K 13 rfl) H,trivial⟩ rfl rfl rfl rfl (tU rfl ?_)
 refine W.condD rfl (fun hc14 => ?_) (fun hc14 => ?_)
 · refine W.skip ?_
   refine W.seq ?_
   refine W.block ?_
   refine W.l0 9 [.y 17 _,.y 18 _,.y 19 _,.y 20 _,.y 21 _,.y 22 _,.y 23 _,.y 24 _,.y 3 _] [(7,3),(8,24),(8,17)] [(7,3),(8,24)] [(1,_),(3,_),(4,_)] [(1,.var _)] 57 ⟨aU fun _ _ H K => R.al (K 3 _ rfl) H (by decide),aU (fU 1 rfl rfl),aU (lU 18 rfl rfl rfl rfl rfl rfl rfl),mU 4 rfl rfl,aU fun _ _ H K => R.idxN (i) (SC.sl (K 19 _ rfl)) (evoI (eU K 20 rfl)) rfl bU H (by decide),aU fun _ _ H K => R.ldE (K 21 _ rfl) (SC.sl (K 19 _ rfl)) (map_get! (l := t.ins) bU) rfl rfl rfl rfl H,aU fun _ _ H K => R.callG hC (rinput_ok t.ins[i]! ((hx (by omega)).1) ((hx (by omega)).2)) (Bors.cons (Bor.pur (eU K 22 rfl) rfl rfl) Bors.nil) (FrsR.one (.sl _ _ _ (frs_map fun _ => .u8 _))) H,aU fun _ _ H K => R.appE (Or.inr (K 17 _ rfl)) (K 3 _ rfl) (SrcO.sc (SC.sl (K 23 _ rfl)) (pur_map (fun _ => rfl))) (show _ = ((countS t.ins.length ++ insS t.ins (i + 1)).map D.u8) from (by simp [insS,outsS,outS',List.append_assoc])) (by simp only [List.length_map,List.length_append,lowI_len,List.length_cons,List.length_nil]; omega) H (by decide) (by decide),aU fun _ _ H K => R.asgO (K 24 _ rfl) rfl H (by decide),trivial⟩ rfl rfl rfl rfl (tU rfl ?_)
   refine W.l0 3 [.y 15 _,.y 16 _,.y 4 _] [] [] [(1,_),(3,_),(4,_)] [(1,.var _)] 57 ⟨mU 4 rfl rfl,aU fun _ _ H K => R.addN (i) (1) (eU K 15 rfl) (kI 1 rfl) bU H,aU fun _ _ H K => R.asg (eU K 16 rfl) rfl H,trivial⟩ rfl rfl rfl rfl (tU rfl ?_)
   exact ⟨⟨(i + 1),bU⟩,rfl,(by simp only []; omega)⟩
 · obtain rfl : i = t.ins.length := by omega
   refine W.exit ?_
   refine W.seq ?_
   refine W.l0 7 [.y 25 _,.y 26 _,.y 27 _,.y 28 _,.y 29 _,.y 30 _,.y 3 _] [(5,3),(6,30),(6,25)] [(5,3),(6,30)] [(1,_),(3,_)] [(1,.var _)] 57 ⟨aU fun _ _ H K => R.al (K 3 _ rfl) H (by decide),aU (fU 1 rfl rfl),aU (lU 26 rfl rfl rfl rfl rfl rfl rfl),aU fun _ _ H K => R.lenE (SC.sl (K 27 _ rfl)) (List.length_map _) H,aU fun _ _ H K => R.callG hC (rcnt_ok t.outs.length) (Bors.cons (Bor.pur (eU K 28 rfl) rfl rfl) Bors.nil) (FrsR.one (.sl _ _ _ (frs_map fun _ => .u8 _))) H,aU fun _ _ H K => R.appE (Or.inr (K 25 _ rfl)) (K 3 _ rfl) (SrcO.sc (SC.sl (K 29 _ rfl)) (pur_map (fun _ => rfl))) (show _ = (((countS t.ins.length ++ insS t.ins t.ins.length) ++ countS t.outs.length).map D.u8) from (by simp)) (by simp only [List.length_map,List.length_append,lowI_len,List.length_cons,List.length_nil]; omega) H (by decide) (by decide),aU fun _ _ H K => R.asgO (K 30 _ rfl) rfl H (by decide),trivial⟩ rfl rfl rfl rfl (tU rfl ?_)
   refine W.seq ?_
   refine W.seq ?_
   refine W.l0 1 [.y 5 _] [] [] [(1,_),(3,_),(5,_)] [(1,.var _)] 57 ⟨aU fun _ _ H _ => R.asg (kI 0 rfl) rfl H,trivial⟩ rfl rfl rfl rfl (tU rfl ?_)
   refine W.block ?_
   refine W.loop (α := {q__ : Nat // q__ ≤ t.outs.length}) (fun q__ => ⟨57,[(1,.ptr 1 0 []),(3,.sl (some 5) 1 (((countS t.ins.length ++ insS t.ins t.ins.length) ++ countS t.outs.length ++ outsS t.outs q__.1).map D.u8)),(5,.int ((q__.1 : Nat) : Int))],[(1,.var (.agg [.u32 t.ver,.sl none 36 (t.ins.map inD),.sl none 2 (t.outs.map outD),.u32 t.lock]))]⟩) (fun q__ => t.outs.length - q__.1) ⟨(0),bU⟩ (by simp only [outsS,List.append_nil]) ?_
   rintro ⟨i,hi⟩
   show W _ _ _ _ ⟨57,[(1,.ptr 1 0 []),(3,.sl (some 5) 1 (((countS t.ins.length ++ insS t.ins t.ins.length) ++ countS t.outs.length ++ outsS t.outs i).map D.u8)),(5,.int ((i : Nat) : Int))],[(1,.var (.agg [.u32 t.ver,.sl none 36 (t.ins.map inD),.sl none 2 (t.outs.map outD),.u32 t.lock]))]⟩
   have hi : i ≤ t.outs.length := hi
   have hib := hwf.outsb i hi
   have hib1 : i < t.outs.length → (outsS t.outs (i + 1)).length ≤ 1500000 := fun h => hwf.outsb (i + 1) h
   have hx : i < t.outs.length → t.outs[i]!.script.length ≤ 1000000 := fun h => hwf.outScript h
   have hiS : (outsS t.outs (i + 1)).length = (outsS t.outs i).length + (8 + (itemS t.outs[i]!.script).length) := by simp [outsS,outS',lowI_len]
   refine W.seq ?_
   refine W.seq ?_
   refine W.l0 5 [.y 31 _,.y 32 _,.y 33 _,.y 34 _,.y 35 _] [] [] [(1,_),(3,_),(5,_),(35,_)] [(1,.var _)] 57 ⟨mU 5 rfl rfl,aU (fU 1 rfl rfl),aU (lU 32 rfl rfl rfl rfl rfl rfl rfl),aU fun _ _ H K => R.lenE (SC.sl (K 33 _ rfl)) (List.length_map _) H,aU fun _ _ H K => R.lssN (i) (t.outs.length) (eU K 31 rfl) (eU K 34 rfl) H,trivial⟩ rfl rfl rfl rfl (tU rfl ?_)
   refine W.condD rfl (fun hc35 => ?_) (fun hc35 => ?_)
   · refine W.skip ?_
     refine W.seq ?_
     refine W.block ?_
     refine W.seq ?_
     refine W.l0 10 [.y 38 _,.y 39 _,.y 40 _,.y 41 _,.y 42 _,.y 43 _,.y 44 _,.y 45 _,.y 46 _,.y 3 _] [(8,3),(9,46),(9,38)] [(8,3),(9,46)] [(1,_),(3,_),(5,_)] [(1,.var _)] 57 ⟨aU fun _ _ H K => R.al (K 3 _ rfl) H (by decide),aU (fU 1 rfl rfl),aU (lU 39 rfl rfl rfl rfl rfl rfl rfl),mU 5 rfl rfl,aU fun _ _ H K => R.idxN (i) (SC.sl (K 40 _ rfl)) (evoI (eU K 41 rfl)) rfl bU H (by decide),aU fun _ _ H K => R.fdE (K 42 _ rfl) H (by decide),aU fun _ _ H K => R.ldE (K 43 _ rfl) (SC.sl (K 40 _ rfl)) (map_get! (l := t.outs) bU) rfl rfl rfl rfl H,aU fun _ _ H K => R.callG hC (rlow_ok t.outs[i]!.value 8 (by decide)) (Bors.cons (Bor.pur (eU K 44 rfl) rfl rfl) (Bors.cons (Bor.pur (kI 8 rfl) rfl rfl) Bors.nil)) (FrsR.one (.sl _ _ _ (frs_map fun _ => .u8 _))) H,aU fun _ _ H K => R.appE (Or.inr (K 38 _ rfl)) (K 3 _ rfl) (SrcO.sc (SC.sl (K 45 _ rfl)) (pur_map (fun _ => rfl))) (show _ = ((((countS t.ins.length ++ insS t.ins t.ins.length) ++ countS t.outs.length ++ outsS t.outs i) ++ lowI t.outs[i]!.value 8).map D.u8) from (by simp)) (by simp only [List.length_map,List.length_append,lowI_len,List.length_cons,List.length_nil]; omega) H (by decide) (by decide),aU fun _ _ H K => R.asgO (K 46 _ rfl) rfl H (by decide),trivial⟩ rfl rfl rfl rfl (tU rfl ?_)
     refine W.l0 10 [.y 47 _,.y 48 _,.y 49 _,.y 50 _,.y 51 _,.y 52 _,.y 53 _,.y 54 _,.y 55 _,.y 3 _] [(8,3),(9,55),(9,47)] [(8,3),(9,55)] [(1,_),(3,_),(5,_)] [(1,.var _)] 57 ⟨aU fun _ _ H K => R.al (K 3 _ rfl) H (by decide),aU (fU 1 rfl rfl),aU (lU 48 rfl rfl rfl rfl rfl rfl rfl),mU 5 rfl rfl,aU fun _ _ H K => R.idxN (i) (SC.sl (K 49 _ rfl)) (evoI (eU K 50 rfl)) rfl bU H (by decide),aU fun _ _ H K => R.fdE (K 51 _ rfl) H (by decide),aU fun _ _ H K => R.ldE (K 52 _ rfl) (SC.sl (K 49 _ rfl)) (map_get! (l := t.outs) bU) rfl rfl rfl rfl H,aU fun _ _ H K => R.callG hC (ritm_ok t.outs[i]!.script (hx (by omega))) (Bors.cons (Bor.pur (eU K 53 rfl) rfl rfl) Bors.nil) (FrsR.one (.sl _ _ _ (frs_map fun _ => .u8 _))) H,aU fun _ _ H K => R.appE (Or.inr (K 47 _ rfl)) (K 3 _ rfl) (SrcO.sc (SC.sl (K 54 _ rfl)) (pur_map (fun _ => rfl))) (show _ = (((countS t.ins.length ++ insS t.ins t.ins.length) ++ countS t.outs.length ++ outsS t.outs (i + 1)).map D.u8) from (by simp [insS,outsS,outS',List.append_assoc])) (by simp only [List.length_map,List.length_append,lowI_len,List.length_cons,List.length_nil]; omega) H (by decide) (by decide),aU fun _ _ H K => R.asgO (K 55 _ rfl) rfl H (by decide),trivial⟩ rfl rfl rfl rfl (tU rfl ?_)
     refine W.l0 3 [.y 36 _,.y 37 _,.y 5 _] [] [] [(1,_),(3,_),(5,_)] [(1,.var _)] 57 ⟨mU 5 rfl rfl,aU fun _ _ H K => R.addN (i) (1) (eU K 36 rfl) (kI 1 rfl) bU H,aU fun _ _ H K => R.asg (eU K 37 rfl) rfl H,trivial⟩ rfl rfl rfl rfl (tU rfl ?_)
     exact ⟨⟨(i + 1),bU⟩,rfl,(by simp only []; omega)⟩
   · obtain rfl : i = t.outs.length := by omega
     refine W.exit ?_
     refine W.seq ?_
     refine W.l0 2 [.y 56 _,.y 2 _] [(0,3),(1,56)] [(0,3),(1,56)] [(2,_)] [(1,.var _)] 57 ⟨aU fun _ _ H K => R.movO (K 3 _ rfl) rfl H (by decide),aU fun _ _ H K => R.asgO (K 56 _ rfl) rfl H (by decide),trivial⟩ rfl rfl rfl rfl (tU rfl ?_)
     refine W.ret ?_
     exact Ends.one' (.inr rfl) rfl (by simp only [bodyS]) rfl rfl trivial

theorem rbare_ok (t : TxS) (hwf : t.wf) : Fn Tryd.prog gl 16 [txD t] (.sl (some 5) 1 ((bareS t).map D.u8)) := by
 refine Fn.of (n := 17) Tryd.func16 rfl rfl rfl (nU rfl) fun C hC hD => ?_
 have hbl := hwf.body
 refine W.seq ?_
 refine W.l0 2 [] [] [] [(0,_)] [] 17 trivial rfl rfl rfl rfl (⟨rfl,_,R.box (gV 0 rfl) rfl rfl (nU rfl),⟨rfl,_,R.asg (kN rfl) rfl (nU rfl),tV [(1,_)] [(1,.var _)] 17 rfl rfl rfl ?_⟩⟩)
 refine W.seq ?_
 refine W.draw (m := 8) (an := [0,1,3,7,0,31,63,127]) hP (by decide) rfl (its := [.y 4 _,.y 5 _,.y 6 _,.y 7 _,.y 8 _,.y 9 _,.y 10 _,.y 3 _]) (ks := [(6,7),(7,10)]) (kk := [(6,7),(7,10)]) (live := [1,3]) (env' := [(1,_),(3,_)]) (⟨nU rfl,rfl,⟨aU (fU 1 rfl rfl),aU (lU 4 rfl rfl rfl rfl rfl rfl rfl),aU fun _ _ H K => R.conv (eU K 5 rfl) rfl H,aU fun _ _ H K => R.callG hC (rlow_ok t.ver.toUInt64 4 (by decide)) (Bors.cons (Bor.pur (eU K 6 rfl) rfl rfl) (Bors.cons (Bor.pur (kI 4 rfl) rfl rfl) Bors.nil)) (FrsR.one (.sl _ _ _ (frs_map fun _ => .u8 _))) H,aU (lU 1 rfl rfl rfl rfl rfl rfl rfl),aU fun _ _ H K => R.callG hC (rbdy_ok t hwf) (Bors.cons (Bor.pur (eU K 8 rfl) rfl rfl) Bors.nil) (FrsR.one (.sl _ _ _ (frs_map fun _ => .u8 _))) H,aU fun _ _ H K => R.appE (Or.inl rfl) (K 7 _ rfl) (SrcO.sc (SC.sl (K 9 _ rfl)) (pur_map (fun _ => rfl))) (show _ = ((lowI t.ver.toUInt64 4 ++ bodyS t).map D.u8) from (by simp)) (by simp only [List.length_map,List.length_append,lowI_len,List.length_cons,List.length_nil]; omega) H (by decide) (by decide),aU fun _ _ H K => R.asgO (K 10 _ rfl) rfl H (by decide),trivial⟩,rfl,rfl,rfl⟩) rfl (bx' := [(1,.var _)]) rfl (n' := 17) rfl (tV [(1,_),(3,_)] [(1,.var _)] 17 rfl rfl rfl ?_)
 refine W.seq ?_
 refine W.l0 7 [.y 11 _,.y 12 _,.y 13 _,.y 14 _,.y 15 _,.y 16 _,.y 2 _] [(5,3),(6,16)] [(5,3),(6,16)] [(2,_)] [(1,.var _)] 17 ⟨aU fun _ _ H K => R.al (K 3 _ rfl) H (by decide),aU (fU 1 rfl rfl),aU (lU 12 rfl rfl rfl rfl rfl rfl rfl),aU fun _ _ H K => R.conv (eU K 13 rfl) rfl H,aU fun _ _ H K => R.callG hC (rlow_ok t.lock.toUInt64 4 (by decide)) (Bors.cons (Bor.pur (eU K 14 rfl) rfl rfl) (Bors.cons (Bor.pur (kI 4 rfl) rfl rfl) Bors.nil)) (FrsR.one (.sl _ _ _ (frs_map fun _ => .u8 _))) H,aU fun _ _ H K => R.appE (Or.inr (K 11 _ rfl)) (K 3 _ rfl) (SrcO.sc (SC.sl (K 15 _ rfl)) (pur_map (fun _ => rfl))) (show _ = ((bareS t).map D.u8) from (by simp [bareS])) (by simp only [List.length_map,List.length_append,lowI_len,List.length_cons,List.length_nil]; omega) H (by decide) (by decide),aU fun _ _ H K => R.asgO (K 16 _ rfl) rfl H (by decide),trivial⟩ rfl rfl rfl rfl (tU rfl ?_)
 refine W.ret ?_
 exact Ends.one' (.inr rfl) rfl (rfl) rfl rfl trivial

end Go.Sx

namespace Go.Sx
open Go.Proofs
theorem rseen_ok (t : TxS) (hwf : t.wf) : Fn Tryd.prog gl 34 [txD t] (.bool (seenS t)) := by
 refine Fn.of (n := 19) Tryd.func34 rfl rfl rfl (nU rfl) fun C hC hD => ?_
 have h1 := hwf.ins
 refine W.seq ?_
 refine W.l0 2 [] [] [] [(0,_)] [] 19 trivial rfl rfl rfl rfl (⟨rfl,_,R.box (gV 0 rfl) rfl rfl (nU rfl),⟨rfl,_,R.asg (kB false rfl) rfl (nU rfl),tV [(1,_)] [(1,.var _)] 19 rfl rfl rfl ?_⟩⟩)
 refine W.seq ?_
 refine W.seq ?_
 refine W.l0 1 [.y 3 _] [] [] [(1,_),(3,_)] [(1,.var _)] 19 ⟨aU fun _ _ H _ => R.asg (kI 0 rfl) rfl H,trivial⟩ rfl rfl rfl rfl (tU rfl ?_)
 refine W.block ?_
 refine W.loop (α := {q__ : Nat // q__ ≤ t.ins.length ∧ ∀ k < q__,¬ 0 < t.ins[k]!.wit.length}) (fun q__ => ⟨19,[(1,.ptr 1 0 []),(3,.int ((q__.1 : Nat) : Int))],[(1,.var (.agg [.u32 t.ver,.sl none 36 (t.ins.map inD),.sl none 2 (t.outs.map outD),.u32 t.lock]))]⟩) (fun q__ => t.ins.length - q__.1) ⟨(0),⟨Nat.zero_le _,fun k h => absurd h (Nat.not_lt_zero _)⟩⟩ rfl ?_
 rintro ⟨i,⟨hi,hno⟩⟩
 show W _ _ _ _ ⟨19,[(1,.ptr 1 0 []),(3,.int ((i : Nat) : Int))],[(1,.var (.agg [.u32 t.ver,.sl none 36 (t.ins.map inD),.sl none 2 (t.outs.map outD),.u32 t.lock]))]⟩
 have hi : i ≤ t.ins.length := hi
 have hno : ∀ k < i,¬ 0 < t.ins[k]!.wit.length := hno
 have hwl : i < t.ins.length → t.ins[i]!.wit.length ≤ 1000000 := fun h => (hwf.witl _ (get_mem h)).1
 refine W.seq ?_
 refine W.seq ?_
 refine W.l0 5 [.y 4 _,.y 5 _,.y 6 _,.y 7 _,.y 8 _] [] [] [(1,_),(3,_),(8,_)] [(1,.var _)] 19 ⟨mU 3 rfl rfl,aU (fU 1 rfl rfl),aU (lU 5 rfl rfl rfl rfl rfl rfl rfl),aU fun _ _ H K => R.lenE (SC.sl (K 6 _ rfl)) (List.length_map _) H,aU fun _ _ H K => R.lssN (i) (t.ins.length) (eU K 4 rfl) (eU K 7 rfl) H,trivial⟩ rfl rfl rfl rfl (tU rfl ?_)
 refine W.condD rfl (fun hc8 => ?_) (fun hc8 => ?_)
 · refine W.skip ?_
   refine W.seq ?_
   refine W.block ?_
   refine W.seq ?_
   refine W.l0 8 [.y 11 _,.y 12 _,.y 13 _,.y 14 _,.y 15 _,.y 16 _,.y 17 _,.y 18 _] [] [] [(1,_),(3,_),(18,_)] [(1,.var _)] 19 ⟨aU (fU 1 rfl rfl),aU (lU 11 rfl rfl rfl rfl rfl rfl rfl),mU 3 rfl rfl,aU fun _ _ H K => R.idxN (i) (SC.sl (K 12 _ rfl)) (evoI (eU K 13 rfl)) rfl bU H (by decide),aU fun _ _ H K => R.fdE (K 14 _ rfl) H (by decide),aU fun _ _ H K => R.ldE (K 15 _ rfl) (SC.sl (K 12 _ rfl)) (map_get! (l := t.ins) bU) rfl rfl rfl rfl H,aU fun _ _ H K => R.lenE (SC.sl (K 16 _ rfl)) (List.length_map _) H,aU fun _ _ H K => R.gtrN (t.ins[i]!.wit.length) (0) (eU K 17 rfl) (kI 0 rfl) H,trivial⟩ rfl rfl rfl rfl (tU rfl ?_)
   refine W.condD rfl (fun hc18 => ?_) (fun hc18 => ?_)
   · refine W.seq ?_
     refine W.l0 1 [.y 2 _] [] [] [(2,_)] [(1,.var _)] 19 ⟨aU fun _ _ H _ => R.asg (kB true rfl) rfl H,trivial⟩ rfl rfl rfl rfl (tU rfl ?_)
     refine W.ret ?_
     exact Ends.one' (.inr rfl) rfl ((congrArg D.bool (seen_true hc8 hc18)).symm) rfl rfl trivial
   · refine W.skip ?_
     refine W.l0 3 [.y 9 _,.y 10 _,.y 3 _] [] [] [(1,_),(3,_)] [(1,.var _)] 19 ⟨mU 3 rfl rfl,aU fun _ _ H K => R.addN (i) (1) (eU K 9 rfl) (kI 1 rfl) bU H,aU fun _ _ H K => R.asg (eU K 10 rfl) rfl H,trivial⟩ rfl rfl rfl rfl (tU rfl ?_)
     exact ⟨⟨(i + 1),⟨by omega,fun k hk => (Nat.lt_succ_iff_lt_or_eq.1 hk).elim (hno k) (fun e => e ▸ hc18)⟩⟩,rfl,(by simp only []; omega)⟩
 · obtain rfl : i = t.ins.length := by omega
   refine W.exit ?_
   refine W.seq ?_
   refine W.l0 1 [.y 2 _] [] [] [(2,_)] [(1,.var _)] 19 ⟨aU fun _ _ H _ => R.asg (kB false rfl) rfl H,trivial⟩ rfl rfl rfl rfl (tU rfl ?_)
   refine W.ret ?_
   exact Ends.one' (.inr rfl) rfl ((congrArg D.bool (seen_false hno)).symm) rfl rfl trivial

theorem rput_ok (t : TxS) (hwf : t.wf) : Fn Tryd.prog gl 14 [txD t] (.sl (some 5) 1 ((putS t).map D.u8)) := by
 refine Fn.of (n := 59) Tryd.func14 rfl rfl rfl (nU rfl) fun C hC hD => ?_
 have h1 := hwf.ins
 have hbl := hwf.body
 have hw0 := hwf.witsb _ (Nat.le_refl _)
 refine W.seq ?_
 refine W.l0 2 [] [] [] [(0,_)] [] 59 trivial rfl rfl rfl rfl (⟨rfl,_,R.box (gV 0 rfl) rfl rfl (nU rfl),⟨rfl,_,R.asg (kN rfl) rfl (nU rfl),tV [(1,_)] [(1,.var _)] 59 rfl rfl rfl ?_⟩⟩)
 refine W.seq ?_
 refine W.seq ?_
 refine W.l0 3 [.y 7 _,.y 8 _,.y 9 _] [] [] [(1,_),(9,_)] [(1,.var _)] 59 ⟨aU (lU 1 rfl rfl rfl rfl rfl rfl rfl),aU fun _ _ H K => R.callG hC (rseen_ok t hwf) (Bors.cons (Bor.pur (eU K 7 rfl) rfl rfl) Bors.nil) (FrsR.one (.bool _)) H,aU fun _ _ H K => R.un (eU K 8 rfl) rfl H,trivial⟩ rfl rfl rfl rfl (tU rfl ?_)
 refine W.cond rfl (fun hc9 => ?_) (fun hc9 => ?_)
 · refine W.seq ?_
   refine W.l0 3 [.y 10 _,.y 11 _,.y 2 _] [(2,11)] [(2,11)] [(2,_)] [(1,.var _)] 59 ⟨aU (lU 1 rfl rfl rfl rfl rfl rfl rfl),aU fun _ _ H K => R.callG hC (rbare_ok t hwf) (Bors.cons (Bor.pur (eU K 10 rfl) rfl rfl) Bors.nil) (FrsR.one (.sl _ _ _ (frs_map fun _ => .u8 _))) H,aU fun _ _ H K => R.asgO (K 11 _ rfl) rfl H (by decide),trivial⟩ rfl rfl rfl rfl (tU rfl ?_)
   refine W.ret ?_
   exact Ends.one' (.inr rfl) rfl (by rw [putS,if_neg (by simpa using hc9)]) rfl rfl trivial
 · refine W.skip ?_
   refine W.seq ?_
   refine W.l0 7 [.y 12 _,.y 13 _,.y 14 _,.y 15 _,.y 16 _,.y 17 _,.y 3 _] [(5,15),(6,17)] [(5,15),(6,17)] [(1,_),(3,_)] [(1,.var _)] 59 ⟨aU (fU 1 rfl rfl),aU (lU 12 rfl rfl rfl rfl rfl rfl rfl),aU fun _ _ H K => R.conv (eU K 13 rfl) rfl H,aU fun _ _ H K => R.callG hC (rlow_ok t.ver.toUInt64 4 (by decide)) (Bors.cons (Bor.pur (eU K 14 rfl) rfl rfl) (Bors.cons (Bor.pur (kI 4 rfl) rfl rfl) Bors.nil)) (FrsR.one (.sl _ _ _ (frs_map fun _ => .u8 _))) H,aU fun _ _ H _ => R.bslE (z := 1) (.cons (show ev _ _ (.const (.int .u8 0)) = some (.u8 0) from rfl) (.cons (show ev _ _ (.const (.int .u8 1)) = some (.u8 1) from rfl) .nil)) ⟨⟨rfl,rfl,rfl⟩,⟨rfl,rfl,rfl⟩,trivial⟩ rfl H (by decide),aU fun _ _ H K => R.appE (Or.inl rfl) (K 15 _ rfl) (SrcO.sc (SC.sl (K 16 _ rfl)) (pur_lit rfl)) (show _ = (((lowI t.ver.toUInt64 4 ++ [0,1])).map D.u8) from (by simp)) (by simp only [List.length_map,List.length_append,lowI_len,List.length_cons,List.length_nil]; omega) H (by decide) (by decide),aU fun _ _ H K => R.asgO (K 17 _ rfl) rfl H (by decide),trivial⟩ rfl rfl rfl rfl (tU rfl ?_)
   refine W.seq ?_
   refine W.l0 5 [.y 18 _,.y 19 _,.y 20 _,.y 21 _,.y 3 _] [(3,3),(4,21),(4,18)] [(3,3),(4,21)] [(1,_),(3,_)] [(1,.var _)] 59 ⟨aU fun _ _ H K => R.al (K 3 _ rfl) H (by decide),aU (lU 1 rfl rfl rfl rfl rfl rfl rfl),aU fun _ _ H K => R.callG hC (rbdy_ok t hwf) (Bors.cons (Bor.pur (eU K 19 rfl) rfl rfl) Bors.nil) (FrsR.one (.sl _ _ _ (frs_map fun _ => .u8 _))) H,aU fun _ _ H K => R.appE (Or.inr (K 18 _ rfl)) (K 3 _ rfl) (SrcO.sc (SC.sl (K 20 _ rfl)) (pur_map (fun _ => rfl))) (show _ = ((((lowI t.ver.toUInt64 4 ++ [0,1]) ++ bodyS t)).map D.u8) from (by simp)) (by simp only [List.length_map,List.length_append,lowI_len,List.length_cons,List.length_nil]; omega) H (by decide) (by decide),aU fun _ _ H K => R.asgO (K 21 _ rfl) rfl H (by decide),trivial⟩ rfl rfl rfl rfl (tU rfl ?_)
   refine W.seq ?_
   refine W.seq ?_
   refine W.l0 1 [.y 4 _] [] [] [(1,_),(3,_),(4,_)] [(1,.var _)] 59 ⟨aU fun _ _ H _ => R.asg (kI 0 rfl) rfl H,trivial⟩ rfl rfl rfl rfl (tU rfl ?_)
   refine W.block ?_
   refine W.loop (α := {q__ : Nat // q__ ≤ t.ins.length}) (fun q__ => ⟨59,[(1,.ptr 1 0 []),(3,.sl (some 5) 1 ((((lowI t.ver.toUInt64 4 ++ [0,1]) ++ bodyS t) ++ witsS t.ins q__.1).map D.u8)),(4,.int ((q__.1 : Nat) : Int))],[(1,.var (.agg [.u32 t.ver,.sl none 36 (t.ins.map inD),.sl none 2 (t.outs.map outD),.u32 t.lock]))]⟩) (fun q__ => t.ins.length - q__.1) ⟨(0),bU⟩ (by simp only [witsS,List.append_nil]; rfl) ?_
   rintro ⟨i,hi⟩
   show W _ _ _ _ ⟨59,[(1,.ptr 1 0 []),(3,.sl (some 5) 1 ((((lowI t.ver.toUInt64 4 ++ [0,1]) ++ bodyS t) ++ witsS t.ins i).map D.u8)),(4,.int ((i : Nat) : Int))],[(1,.var (.agg [.u32 t.ver,.sl none 36 (t.ins.map inD),.sl none 2 (t.outs.map outD),.u32 t.lock]))]⟩
   have hi : i ≤ t.ins.length := hi
   have hib := hwf.witsb i hi
   have hx : i < t.ins.length → t.ins[i]!.wit.length ≤ 1000000 ∧ ∀ j ≤ t.ins[i]!.wit.length,(witS t.ins[i]!.wit j).length ≤ 1500000 := fun h => hwf.witl _ (get_mem h)
   have hcl := countS_len t.ins[i]!.wit.length
   refine W.seq ?_
   refine W.seq ?_
   refine W.l0 5 [.y 22 _,.y 23 _,.y 24 _,.y 25 _,.y 26 _] [] [] [(1,_),(3,_),(4,_),(26,_)] [(1,.var _)] 59 ⟨mU 4 rfl rfl,aU (fU 1 rfl rfl),aU (lU 23 rfl rfl rfl rfl rfl rfl rfl),aU fun _ _ H K => R.lenE (SC.sl (K 24 _ rfl)) (List.length_map _) H,aU fun _ _ H K => R.lssN (i) (t.ins.length) (eU K 22 rfl) (eU K 25 rfl) H,trivial⟩ rfl rfl rfl rfl (tU rfl ?_)
   refine W.condD rfl (fun hc26 => ?_) (fun hc26 => ?_)
   · refine W.skip ?_
     refine W.seq ?_
     refine W.block ?_
     refine W.seq ?_
     refine W.l0 7 [.y 29 _,.y 30 _,.y 31 _,.y 32 _,.y 33 _,.y 34 _,.y 5 _] [] [] [(1,_),(3,_),(4,_),(5,_)] [(1,.var _)] 59 ⟨aU (fU 1 rfl rfl),aU (lU 29 rfl rfl rfl rfl rfl rfl rfl),mU 4 rfl rfl,aU fun _ _ H K => R.idxN (i) (SC.sl (K 30 _ rfl)) (evoI (eU K 31 rfl)) rfl bU H (by decide),aU fun _ _ H K => R.fdE (K 32 _ rfl) H (by decide),aU fun _ _ H K => R.ldE (K 33 _ rfl) (SC.sl (K 30 _ rfl)) (map_get! (l := t.ins) bU) rfl rfl rfl rfl H,aU fun _ _ H K => R.asg (eU K 34 rfl) rfl H,trivial⟩ rfl rfl rfl rfl (tU rfl ?_)
     refine W.seq ?_
     refine W.l0 6 [.y 35 _,.y 36 _,.y 37 _,.y 38 _,.y 39 _,.y 3 _] [(4,3),(5,39),(5,35)] [(4,3),(5,39)] [(1,_),(3,_),(4,_),(5,_)] [(1,.var _)] 59 ⟨aU fun _ _ H K => R.al (K 3 _ rfl) H (by decide),mU 5 rfl rfl,aU fun _ _ H K => R.lenE (SC.sl (K 36 _ rfl)) (List.length_map _) H,aU fun _ _ H K => R.callG hC (rcnt_ok t.ins[i]!.wit.length) (Bors.cons (Bor.pur (eU K 37 rfl) rfl rfl) Bors.nil) (FrsR.one (.sl _ _ _ (frs_map fun _ => .u8 _))) H,aU fun _ _ H K => R.appE (Or.inr (K 35 _ rfl)) (K 3 _ rfl) (SrcO.sc (SC.sl (K 38 _ rfl)) (pur_map (fun _ => rfl))) (show _ = ((((((lowI t.ver.toUInt64 4 ++ [0,1]) ++ bodyS t) ++ witsS t.ins i) ++ countS t.ins[i]!.wit.length)).map D.u8) from (by simp)) (by simp only [List.length_map,List.length_append,lowI_len,List.length_cons,List.length_nil]; omega) H (by decide) (by decide),aU fun _ _ H K => R.asgO (K 39 _ rfl) rfl H (by decide),trivial⟩ rfl rfl rfl rfl (tU rfl ?_)
     refine W.seq ?_
     refine W.l0 1 [.y 6 _] [] [] [(1,_),(3,_),(4,_),(5,_),(6,_)] [(1,.var _)] 59 ⟨aU fun _ _ H _ => R.asg (kI 0 rfl) rfl H,trivial⟩ rfl rfl rfl rfl (tU rfl ?_)
     refine W.block ?_
     refine W.loop (α := {q__ : Nat // q__ ≤ t.ins[i]!.wit.length}) (fun q__ => ⟨59,[(1,.ptr 1 0 []),(3,.sl (some 5) 1 ((((((lowI t.ver.toUInt64 4 ++ [0,1]) ++ bodyS t) ++ witsS t.ins i) ++ countS t.ins[i]!.wit.length) ++ witS t.ins[i]!.wit q__.1).map D.u8)),(4,.int ((i : Nat) : Int)),(5,.sl none 1 (t.ins[i]!.wit.map bytesD)),(6,.int ((q__.1 : Nat) : Int))],[(1,.var (.agg [.u32 t.ver,.sl none 36 (t.ins.map inD),.sl none 2 (t.outs.map outD),.u32 t.lock]))]⟩) (fun q__ => t.ins[i]!.wit.length - q__.1) ⟨(0),bU⟩ (by simp only [witS,List.append_nil]) ?_
     rintro ⟨j,hj⟩
     show W _ _ _ _ ⟨59,[(1,.ptr 1 0 []),(3,.sl (some 5) 1 ((((((lowI t.ver.toUInt64 4 ++ [0,1]) ++ bodyS t) ++ witsS t.ins i) ++ countS t.ins[i]!.wit.length) ++ witS t.ins[i]!.wit j).map D.u8)),(4,.int ((i : Nat) : Int)),(5,.sl none 1 (t.ins[i]!.wit.map bytesD)),(6,.int ((j : Nat) : Int))],[(1,.var (.agg [.u32 t.ver,.sl none 36 (t.ins.map inD),.sl none 2 (t.outs.map outD),.u32 t.lock]))]⟩
     have hj : j ≤ t.ins[i]!.wit.length := hj
     have hjb := (hx (by omega)).2 j hj
     have hjb1 : j < t.ins[i]!.wit.length → (witS t.ins[i]!.wit (j + 1)).length ≤ 1500000 := fun h => (hx (by omega)).2 (j + 1) h
     have hjS : (witS t.ins[i]!.wit (j + 1)).length = (witS t.ins[i]!.wit j).length + (itemS t.ins[i]!.wit[j]!).length := by simp [witS]
     have hwl := (hx (by omega)).1
     have hwi : j < t.ins[i]!.wit.length → t.ins[i]!.wit[j]!.length ≤ 1000000 := fun h => hwf.witi _ (get_mem (show i < t.ins.length by omega)) _ (get_mem h)
     refine W.seq ?_
     refine W.seq ?_
     refine W.l0 4 [.y 40 _,.y 41 _,.y 42 _,.y 43 _] [] [] [(1,_),(3,_),(4,_),(5,_),(6,_),(43,_)] [(1,.var _)] 59 ⟨mU 6 rfl rfl,mU 5 rfl rfl,aU fun _ _ H K => R.lenE (SC.sl (K 41 _ rfl)) (List.length_map _) H,aU fun _ _ H K => R.lssN (j) (t.ins[i]!.wit.length) (eU K 40 rfl) (eU K 42 rfl) H,trivial⟩ rfl rfl rfl rfl (tU rfl ?_)
     refine W.condD rfl (fun hc43 => ?_) (fun hc43 => ?_)
     · refine W.skip ?_
       refine W.seq ?_
       refine W.block ?_
       refine W.l0 8 [.y 46 _,.y 47 _,.y 48 _,.y 49 _,.y 50 _,.y 51 _,.y 52 _,.y 3 _] [(6,3),(7,52),(7,46)] [(6,3),(7,52)] [(1,_),(3,_),(4,_),(5,_),(6,_)] [(1,.var _)] 59 ⟨aU fun _ _ H K => R.al (K 3 _ rfl) H (by decide),mU 5 rfl rfl,mU 6 rfl rfl,aU fun _ _ H K => R.idxN (j) (SC.sl (K 47 _ rfl)) (evoI (eU K 48 rfl)) rfl bU H (by decide),aU fun _ _ H K => R.ldE (K 49 _ rfl) (SC.sl (K 47 _ rfl)) (map_get! (l := t.ins[i]!.wit) bU) rfl rfl rfl rfl H,aU fun _ _ H K => R.callG hC (ritm_ok t.ins[i]!.wit[j]! (hwi (by omega))) (Bors.cons (Bor.pur (eU K 50 rfl) rfl rfl) Bors.nil) (FrsR.one (.sl _ _ _ (frs_map fun _ => .u8 _))) H,aU fun _ _ H K => R.appE (Or.inr (K 46 _ rfl)) (K 3 _ rfl) (SrcO.sc (SC.sl (K 51 _ rfl)) (pur_map (fun _ => rfl))) (show _ = ((((((lowI t.ver.toUInt64 4 ++ [0,1]) ++ bodyS t) ++ witsS t.ins i) ++ countS t.ins[i]!.wit.length) ++ witS t.ins[i]!.wit (j + 1)).map D.u8) from (by simp [witS,List.append_assoc])) (by simp only [List.length_map,List.length_append,lowI_len,List.length_cons,List.length_nil]; omega) H (by decide) (by decide),aU fun _ _ H K => R.asgO (K 52 _ rfl) rfl H (by decide),trivial⟩ rfl rfl rfl rfl (tU rfl ?_)
       refine W.l0 3 [.y 44 _,.y 45 _,.y 6 _] [] [] [(1,_),(3,_),(4,_),(5,_),(6,_)] [(1,.var _)] 59 ⟨mU 6 rfl rfl,aU fun _ _ H K => R.addN (j) (1) (eU K 44 rfl) (kI 1 rfl) bU H,aU fun _ _ H K => R.asg (eU K 45 rfl) rfl H,trivial⟩ rfl rfl rfl rfl (tU rfl ?_)
       exact ⟨⟨(j + 1),bU⟩,rfl,(by simp only []; omega)⟩
     · obtain rfl : j = t.ins[i]!.wit.length := by omega
       refine W.exit ?_
       refine W.l0 3 [.y 27 _,.y 28 _,.y 4 _] [] [] [(1,_),(3,_),(4,_)] [(1,.var _)] 59 ⟨mU 4 rfl rfl,aU fun _ _ H K => R.addN (i) (1) (eU K 27 rfl) (kI 1 rfl) bU H,aU fun _ _ H K => R.asg (eU K 28 rfl) rfl H,trivial⟩ rfl rfl rfl rfl (tU rfl ?_)
       exact ⟨⟨(i + 1),bU⟩,(by simp only [witsS,List.append_assoc]),(by simp only []; omega)⟩
   · obtain rfl : i = t.ins.length := by omega
     refine W.exit ?_
     refine W.seq ?_
     refine W.l0 7 [.y 53 _,.y 54 _,.y 55 _,.y 56 _,.y 57 _,.y 58 _,.y 2 _] [(5,3),(6,58)] [(5,3),(6,58)] [(2,_)] [(1,.var _)] 59 ⟨aU fun _ _ H K => R.al (K 3 _ rfl) H (by decide),aU (fU 1 rfl rfl),aU (lU 54 rfl rfl rfl rfl rfl rfl rfl),aU fun _ _ H K => R.conv (eU K 55 rfl) rfl H,aU fun _ _ H K => R.callG hC (rlow_ok t.lock.toUInt64 4 (by decide)) (Bors.cons (Bor.pur (eU K 56 rfl) rfl rfl) (Bors.cons (Bor.pur (kI 4 rfl) rfl rfl) Bors.nil)) (FrsR.one (.sl _ _ _ (frs_map fun _ => .u8 _))) H,aU fun _ _ H K => R.appE (Or.inr (K 53 _ rfl)) (K 3 _ rfl) (SrcO.sc (SC.sl (K 57 _ rfl)) (pur_map (fun _ => rfl))) (show _ = (((((lowI t.ver.toUInt64 4 ++ [0,1]) ++ bodyS t) ++ witsS t.ins t.ins.length) ++ lowI t.lock.toUInt64 4).map D.u8) from (by simp)) (by simp only [List.length_map,List.length_append,lowI_len,List.length_cons,List.length_nil]; omega) H (by decide) (by decide),aU fun _ _ H K => R.asgO (K 58 _ rfl) rfl H (by decide),trivial⟩ rfl rfl rfl rfl (tU rfl ?_)
     refine W.ret ?_
     exact Ends.one' (.inr rfl) rfl (by rw [putS,if_pos (by simpa using hc9)]) rfl rfl trivial

theorem rid_ok (t : TxS) (hwf : t.wf) : Fn Tryd.prog gl 18 [txD t] (hashD (idS t)) := by
 refine Fn.of (n := 6) Tryd.func18 rfl rfl rfl (nU rfl) fun C hC hD => ?_
 refine W.seq ?_
 refine W.l0 2 [] [] [] [(0,_)] [] 6 trivial rfl rfl rfl rfl (⟨rfl,_,R.box (gV 0 rfl) rfl rfl (nU rfl),⟨rfl,_,R.alloc rfl (nU rfl),tV [(1,_),(2,_)] [(2,.var _),(1,.var _)] 6 rfl rfl rfl ?_⟩⟩)
 refine W.seq ?_
 refine W.l0 4 [.y 3 _,.y 4 _,.y 5 _] [] [] [(2,_),(5,_)] [(2,.var _),(1,.var _)] 6 ⟨aU (lU 1 rfl rfl rfl rfl rfl rfl rfl),aU fun _ _ H K => R.callG hC (rbare_ok t hwf) (Bors.cons (Bor.pur (eU K 3 rfl) rfl rfl) Bors.nil) (FrsR.one (.sl _ _ _ (frs_map fun _ => .u8 _))) H,aU fun _ _ H K => R.callG hC (rtwice_ok (bareS t) (Nat.le_trans hwf.bareL (by decide))) (Bors.cons (Bor.sc (SC.sl (K 4 _ rfl)) (brw_map (fun _ => rfl))) Bors.nil) (FrsR.one (frs_hash _)) H,trivial⟩ rfl rfl rfl rfl (⟨rfl,_,R.stZ (gU 2 rfl) (xU 2 rfl) rfl (gV 5 rfl) (by rfl) (by rfl) (by rfl) (by rfl) rfl,tV [(2,_)] [(2,.var _),(1,.var _)] 6 rfl rfl rfl ?_⟩)
 refine W.ret ?_
 exact Ends.one' (.inr rfl) rfl (by rw [idS,twice_r]) rfl rfl (show LdT _ 32 32 true from inferInstance)

end Go.Sx

namespace Go.Sx
open Go.Proofs
theorem seenM_iff {l : List InS} {i : Nat} {p : Plc} : kHas (seenM l i) p = true ↔ ∃ j < i,plc l[j]! = p := by
 induction i with
 | zero => simp [seenM,kHas]
 | succ i ih =>
  have e : kHas (seenM l (i + 1)) p = (kHas (seenM l i) p || decide (plc l[i]! = p)) := by
   simp only [seenM,kHas,List.any_append,List.any_cons,List.any_nil,Bool.or_false]
   rfl
  rw [e,Bool.or_eq_true,ih,decide_eq_true_iff]
  constructor
  · rintro (⟨j,hj,h⟩ | h)
    · exact ⟨j,by omega,h⟩
    · exact ⟨i,by omega,h⟩
  · rintro ⟨j,hj,h⟩
    rcases Nat.lt_succ_iff_lt_or_eq.1 hj with h1 | rfl
    · exact .inl ⟨j,h1,h⟩
    · exact .inr h
theorem seenM_yes {l : List InS} {i j : Nat} (hj : j < i) (h : plc l[j]! = plc l[i]!) : kHas (seenM l i) (plc l[i]!) = true := seenM_iff.2 ⟨j,hj,h⟩
theorem seenM_no {l : List InS} {i : Nat} (h : ∀ k < i,plc l[k]! ≠ plc l[i]!) : kHas (seenM l i) (plc l[i]!) = false := by
 cases hh : kHas (seenM l i) (plc l[i]!) with
 | false => rfl
 | true => obtain ⟨j,hj,he⟩ := seenM_iff.1 hh; exact absurd he (h j hj)
theorem may_f6 {t : TxS} (h : 16384 < (putS t).length) : mayS t = false := decide_eq_false fun hm => by have := hm.2.2.2.2; omega
theorem may_true {t : TxS} (h1 : ¬ t.ins.length = 0) (h2 : ¬ t.outs.length = 0) (h3 : ∀ i < t.ins.length,kHas (seenM t.ins i) (plc t.ins[i]!) = false)
 (h4 : ∀ i < t.outs.length,¬ 2100000000000000 < t.outs[i]!.value ∧ ¬ 2100000000000000 < sumI t.outs (i + 1)) (h5 : (putS t).length ≤ 16384) : mayS t = true := by
 rw [may_fin h1 h2 h3 h4]; exact decide_eq_true h5
theorem putS_len {t : TxS} (h : t.wf) : (putS t).length ≤ 5000000 := by
 have h1 := h.body
 have h2 := h.witsb _ (Nat.le_refl _)
 have h3 := h.bareL
 unfold putS
 split
 · simp only [List.length_append,lowI_len,List.length_cons,List.length_nil]; omega
 · omega
end Go.Sx

namespace Go.Sx
open Go.Proofs
theorem beq_ok (a b : List UInt8) : Fn Tryd.prog gl 46 [.sl none 1 (a.map D.u8),.sl none 1 (b.map D.u8)] (.bool (a == b)) := by
 refine Fn.of (n := 10) Tryd.func46 rfl rfl rfl (nU rfl) fun C hC hD => ?_
 refine W.seq ?_
 refine W.l0 1 [.y 4 _] [] [] [(0,_),(1,_)] [] 10 ⟨aU fun _ _ H _ => R.asg (kB false rfl) rfl H,trivial⟩ rfl rfl rfl rfl (tU rfl ?_)
 refine W.seq ?_
 refine W.l0 6 [.y 5 _,.y 6 _,.y 7 _,.y 8 _,.y 9 _,.y 4 _] [] [] [(4,_)] [] 10 ⟨mU 0 rfl rfl,aU fun _ _ H K => R.cvS (xs := a) (SC.sl (K 5 _ rfl)) H,mU 1 rfl rfl,aU fun _ _ H K => R.cvS (xs := b) (SC.sl (K 7 _ rfl)) H,aU fun _ _ H K => R.bin (eU K 6 rfl) (eU K 8 rfl) rfl trivial H,aU fun _ _ H K => R.asg (eU K 9 rfl) rfl H,trivial⟩ rfl rfl rfl rfl (tU rfl ?_)
 refine W.ret ?_
 exact Ends.one' (.inr rfl) rfl (rfl) rfl rfl trivial

theorem rmay_ok (t : TxS) (hwf : t.wf) : Fn Tryd.prog gl 20 [txD t] (.bool (mayS t)) := by
 refine Fn.of (n := 72) Tryd.func20 rfl rfl rfl (nU rfl) fun C hC hD => ?_
 have h1 := hwf.ins
 have h2 := hwf.outs
 have hpl := putS_len hwf
 refine W.seq ?_
 refine W.l0 2 [] [] [] [(0,_)] [] 72 trivial rfl rfl rfl rfl (⟨rfl,_,R.box (gV 0 rfl) rfl rfl (nU rfl),⟨rfl,_,R.asg (kB false rfl) rfl (nU rfl),tV [(1,_)] [(1,.var _)] 72 rfl rfl rfl ?_⟩⟩)
 refine W.seq ?_
 refine W.seq ?_
 by_cases hz : t.ins.length = 0
 · refine W.l0 16 [.y 7 _,.y 8 _,.y 9 _,.y 10 _,.y 11 _,.x 12,.x 13,.x 14,.x 15,.y 16 _,.y 17 _,.x 18,.x 19,.x 20,.x 21,.y 22 _] [] [] [(1,_),(22,_)] [(1,.var _)] 72 ⟨aU (fU 1 rfl rfl),aU (lU 7 rfl rfl rfl rfl rfl rfl rfl),aU fun _ _ H K => R.lenE (SC.sl (K 8 _ rfl)) (List.length_map _) H,aU fun _ _ H K => R.eqlN (t.ins.length) (0) (eU K 9 rfl) (kI 0 rfl) H,mU 10 rfl rfl,aF rfl rfl (gT (decide_eq_true hz) rfl),aF rfl rfl (gT (decide_eq_true hz) rfl),aF rfl rfl (gT (decide_eq_true hz) rfl),aF rfl rfl (gT (decide_eq_true hz) rfl),aU fun _ _ H K => R.pickT (eU K 11 rfl) (decide_eq_true hz) (kB true rfl) rfl H,mU 16 rfl rfl,aF rfl rfl (gT (rfl) rfl),aF rfl rfl (gT (rfl) rfl),aF rfl rfl (gT (rfl) rfl),aF rfl rfl (gT (rfl) rfl),aU fun _ _ H K => R.pickT (eU K 17 rfl) (rfl) (kB true rfl) rfl H,trivial⟩ rfl rfl rfl rfl (tU rfl ?_)
   refine W.condT rfl (rfl) ?_
   refine W.seq ?_
   refine W.l0 1 [.y 2 _] [] [] [(2,_)] [(1,.var _)] 72 ⟨aU fun _ _ H _ => R.asg (kB false rfl) rfl H,trivial⟩ rfl rfl rfl rfl (tU rfl ?_)
   refine W.ret ?_
   exact Ends.one' (.inr rfl) rfl (congrArg D.bool (may_f1 hz).symm) rfl rfl trivial
 · by_cases ho : t.outs.length = 0
   · refine W.l0 16 [.y 7 _,.y 8 _,.y 9 _,.y 10 _,.y 11 _,.y 12 _,.y 13 _,.y 14 _,.y 15 _,.y 16 _,.y 17 _,.x 18,.x 19,.x 20,.x 21,.y 22 _] [] [] [(1,_),(22,_)] [(1,.var _)] 72 ⟨aU (fU 1 rfl rfl),aU (lU 7 rfl rfl rfl rfl rfl rfl rfl),aU fun _ _ H K => R.lenE (SC.sl (K 8 _ rfl)) (List.length_map _) H,aU fun _ _ H K => R.eqlN (t.ins.length) (0) (eU K 9 rfl) (kI 0 rfl) H,mU 10 rfl rfl,aW rfl rfl (gF (decide_eq_false hz) rfl) (fU 1 rfl rfl),aW rfl rfl (gF (decide_eq_false hz) rfl) (lU 12 rfl rfl rfl rfl rfl rfl rfl),aW rfl rfl (gF (decide_eq_false hz) rfl) fun _ _ H K => R.lenE (SC.sl (K 13 _ rfl)) (List.length_map _) H,aW rfl rfl (gF (decide_eq_false hz) rfl) fun _ _ H K => R.eqlN (t.outs.length) (0) (eU K 14 rfl) (kI 0 rfl) H,aU fun _ _ H K => R.pickF (eU K 11 rfl) (decide_eq_false hz) (eU K 15 rfl) rfl H,mU 16 rfl rfl,aF rfl rfl (gT (decide_eq_true ho) rfl),aF rfl rfl (gT (decide_eq_true ho) rfl),aF rfl rfl (gT (decide_eq_true ho) rfl),aF rfl rfl (gT (decide_eq_true ho) rfl),aU fun _ _ H K => R.pickT (eU K 17 rfl) (decide_eq_true ho) (kB true rfl) rfl H,trivial⟩ rfl rfl rfl rfl (tU rfl ?_)
     refine W.condT rfl (rfl) ?_
     refine W.seq ?_
     refine W.l0 1 [.y 2 _] [] [] [(2,_)] [(1,.var _)] 72 ⟨aU fun _ _ H _ => R.asg (kB false rfl) rfl H,trivial⟩ rfl rfl rfl rfl (tU rfl ?_)
     refine W.ret ?_
     exact Ends.one' (.inr rfl) rfl (congrArg D.bool (may_f2 ho).symm) rfl rfl trivial
   · refine W.l0 16 [.y 7 _,.y 8 _,.y 9 _,.y 10 _,.y 11 _,.y 12 _,.y 13 _,.y 14 _,.y 15 _,.y 16 _,.y 17 _,.y 18 _,.y 19 _,.y 20 _,.y 21 _,.y 22 _] [] [] [(1,_),(22,_)] [(1,.var _)] 72 ⟨aU (fU 1 rfl rfl),aU (lU 7 rfl rfl rfl rfl rfl rfl rfl),aU fun _ _ H K => R.lenE (SC.sl (K 8 _ rfl)) (List.length_map _) H,aU fun _ _ H K => R.eqlN (t.ins.length) (0) (eU K 9 rfl) (kI 0 rfl) H,mU 10 rfl rfl,aW rfl rfl (gF (decide_eq_false hz) rfl) (fU 1 rfl rfl),aW rfl rfl (gF (decide_eq_false hz) rfl) (lU 12 rfl rfl rfl rfl rfl rfl rfl),aW rfl rfl (gF (decide_eq_false hz) rfl) fun _ _ H K => R.lenE (SC.sl (K 13 _ rfl)) (List.length_map _) H,aW rfl rfl (gF (decide_eq_false hz) rfl) fun _ _ H K => R.eqlN (t.outs.length) (0) (eU K 14 rfl) (kI 0 rfl) H,aU fun _ _ H K => R.pickF (eU K 11 rfl) (decide_eq_false hz) (eU K 15 rfl) rfl H,mU 16 rfl rfl,aW rfl rfl (gF (decide_eq_false ho) rfl) (lU 1 rfl rfl rfl rfl rfl rfl rfl),aW rfl rfl (gF (decide_eq_false ho) rfl) fun _ _ H K => R.callG hC (rput_ok t hwf) (Bors.cons (Bor.pur (eU K 18 rfl) rfl rfl) Bors.nil) (FrsR.one (.sl _ _ _ (frs_map fun _ => .u8 _))) H,aW rfl rfl (gF (decide_eq_false ho) rfl) fun _ _ H K => R.lenE (SC.sl (K 19 _ rfl)) (List.length_map _) H,aW rfl rfl (gF (decide_eq_false ho) rfl) fun _ _ H K => R.gtrN ((putS t).length) (16384) (eU K 20 rfl) (kI 16384 rfl) H,aU fun _ _ H K => R.pickF (eU K 17 rfl) (decide_eq_false ho) (eU K 21 rfl) rfl H,trivial⟩ rfl rfl rfl rfl (tU rfl ?_)
     refine W.condD rfl (fun hc22 => ?_) (fun hc22 => ?_)
     · refine W.seq ?_
       refine W.l0 1 [.y 2 _] [] [] [(2,_)] [(1,.var _)] 72 ⟨aU fun _ _ H _ => R.asg (kB false rfl) rfl H,trivial⟩ rfl rfl rfl rfl (tU rfl ?_)
       refine W.ret ?_
       exact Ends.one' (.inr rfl) rfl (congrArg D.bool (may_f6 hc22).symm) rfl rfl trivial
     · refine W.skip ?_
       refine W.seq ?_
       refine W.seq ?_
       refine W.l0 1 [.y 3 _] [] [] [(1,_),(3,_)] [(1,.var _)] 72 ⟨aU fun _ _ H _ => R.asg (kI 0 rfl) rfl H,trivial⟩ rfl rfl rfl rfl (tU rfl ?_)
       refine W.block ?_
       refine W.loop (α := {q__ : Nat // q__ ≤ t.ins.length ∧ ∀ j < q__,kHas (seenM t.ins j) (plc t.ins[j]!) = false}) (fun q__ => ⟨72,[(1,.ptr 1 0 []),(3,.int ((q__.1 : Nat) : Int))],[(1,.var (.agg [.u32 t.ver,.sl none 36 (t.ins.map inD),.sl none 2 (t.outs.map outD),.u32 t.lock]))]⟩) (fun q__ => t.ins.length - q__.1) ⟨(0),⟨Nat.zero_le _,fun j h => absurd h (Nat.not_lt_zero _)⟩⟩ rfl ?_
       rintro ⟨i,⟨hi,hno⟩⟩
       show W _ _ _ _ ⟨72,[(1,.ptr 1 0 []),(3,.int ((i : Nat) : Int))],[(1,.var (.agg [.u32 t.ver,.sl none 36 (t.ins.map inD),.sl none 2 (t.outs.map outD),.u32 t.lock]))]⟩
       have hi : i ≤ t.ins.length := hi
       have hno : ∀ j < i,kHas (seenM t.ins j) (plc t.ins[j]!) = false := hno
       refine W.seq ?_
       refine W.seq ?_
       refine W.l0 5 [.y 23 _,.y 24 _,.y 25 _,.y 26 _,.y 27 _] [] [] [(1,_),(3,_),(27,_)] [(1,.var _)] 72 ⟨mU 3 rfl rfl,aU (fU 1 rfl rfl),aU (lU 24 rfl rfl rfl rfl rfl rfl rfl),aU fun _ _ H K => R.lenE (SC.sl (K 25 _ rfl)) (List.length_map _) H,aU fun _ _ H K => R.lssN (i) (t.ins.length) (eU K 23 rfl) (eU K 26 rfl) H,trivial⟩ rfl rfl rfl rfl (tU rfl ?_)
       refine W.condD rfl (fun hc27 => ?_) (fun hc27 => ?_)
       · refine W.skip ?_
         refine W.seq ?_
         refine W.block ?_
         refine W.seq ?_
         refine W.l0 1 [.y 4 _] [] [] [(1,_),(3,_),(4,_)] [(1,.var _)] 72 ⟨aU fun _ _ H _ => R.asg (kI 0 rfl) rfl H,trivial⟩ rfl rfl rfl rfl (tU rfl ?_)
         refine W.block ?_
         refine W.loop (α := {q__ : Nat // q__ ≤ i ∧ ∀ k < q__,plc t.ins[k]! ≠ plc t.ins[i]!}) (fun q__ => ⟨72,[(1,.ptr 1 0 []),(3,.int ((i : Nat) : Int)),(4,.int ((q__.1 : Nat) : Int))],[(1,.var (.agg [.u32 t.ver,.sl none 36 (t.ins.map inD),.sl none 2 (t.outs.map outD),.u32 t.lock]))]⟩) (fun q__ => i - q__.1) ⟨(0),⟨Nat.zero_le _,fun j h => absurd h (Nat.not_lt_zero _)⟩⟩ rfl ?_
         rintro ⟨j,⟨hj,hne⟩⟩
         show W _ _ _ _ ⟨72,[(1,.ptr 1 0 []),(3,.int ((i : Nat) : Int)),(4,.int ((j : Nat) : Int))],[(1,.var (.agg [.u32 t.ver,.sl none 36 (t.ins.map inD),.sl none 2 (t.outs.map outD),.u32 t.lock]))]⟩
         have hj : j ≤ i := hj
         have hne : ∀ k < j,plc t.ins[k]! ≠ plc t.ins[i]! := hne
         refine W.seq ?_
         refine W.seq ?_
         refine W.l0 3 [.y 30 _,.y 31 _,.y 32 _] [] [] [(1,_),(3,_),(4,_),(32,_)] [(1,.var _)] 72 ⟨mU 4 rfl rfl,mU 3 rfl rfl,aU fun _ _ H K => R.lssN (j) (i) (eU K 30 rfl) (eU K 31 rfl) H,trivial⟩ rfl rfl rfl rfl (tU rfl ?_)
         refine W.condD rfl (fun hc32 => ?_) (fun hc32 => ?_)
         · refine W.skip ?_
           refine W.seq ?_
           refine W.block ?_
           refine W.seq ?_
           refine W.draw (m := 13) (an := [0,1,0,7,15,31,0,64,0,448,960,1984,4095]) hP (by decide) rfl (its := [.y 35 _,.y 36 _,.y 37 _,.y 38 _,.y 39 _,.y 40 _,.y 41 _,.y 42 _,.y 43 _,.y 44 _,.y 45 _,.y 46 _,.y 47 _]) (ks := []) (kk := []) (live := [1,3,4,47]) (env' := [(1,_),(3,_),(4,_),(47,_)]) (⟨nU rfl,rfl,⟨aU (fU 1 rfl rfl),aU (lU 35 rfl rfl rfl rfl rfl rfl rfl),mU 3 rfl rfl,aU fun _ _ H K => R.idxN (i) (SC.sl (K 36 _ rfl)) (evoI (eU K 37 rfl)) rfl bU H (by decide),aU fun _ _ H K => R.fdE (K 38 _ rfl) H (by decide),aU fun _ _ H K => R.ldE (K 39 _ rfl) (SC.sl (K 36 _ rfl)) (map_get! (l := t.ins) bU) rfl rfl rfl rfl H,aU (fU 1 rfl rfl),aU (lU 41 rfl rfl rfl rfl rfl rfl rfl),mU 4 rfl rfl,aU fun _ _ H K => R.idxN (j) (SC.sl (K 42 _ rfl)) (evoI (eU K 43 rfl)) rfl bU H (by decide),aU fun _ _ H K => R.fdE (K 44 _ rfl) H (by decide),aU fun _ _ H K => R.ldE (K 45 _ rfl) (SC.sl (K 42 _ rfl)) (map_get! (l := t.ins) bU) rfl rfl rfl rfl H,aU fun _ _ H K => R.eqD (neg := false) (b' := (plc t.ins[i]! == plc t.ins[j]!)) (eqv_place (plc t.ins[i]!) (plc t.ins[j]!)) rfl (eU K 40 rfl) (eU K 46 rfl) rfl rfl rfl rfl (rfl) H,trivial⟩,rfl,rfl,rfl⟩) rfl (bx' := [(1,.var _)]) rfl (n' := 72) rfl (tV [(1,_),(3,_),(4,_),(47,_)] [(1,.var _)] 72 rfl rfl rfl ?_)
           refine W.cond rfl (fun hc47 => ?_) (fun hc47 => ?_)
           · refine W.seq ?_
             refine W.l0 1 [.y 2 _] [] [] [(2,_)] [(1,.var _)] 72 ⟨aU fun _ _ H _ => R.asg (kB false rfl) rfl H,trivial⟩ rfl rfl rfl rfl (tU rfl ?_)
             refine W.ret ?_
             exact Ends.one' (.inr rfl) rfl (congrArg D.bool (may_f3 hc27 (seenM_yes hc32 (beq_iff_eq.1 hc47).symm)).symm) rfl rfl trivial
           · refine W.skip ?_
             refine W.l0 3 [.y 33 _,.y 34 _,.y 4 _] [] [] [(1,_),(3,_),(4,_)] [(1,.var _)] 72 ⟨mU 4 rfl rfl,aU fun _ _ H K => R.addN (j) (1) (eU K 33 rfl) (kI 1 rfl) bU H,aU fun _ _ H K => R.asg (eU K 34 rfl) rfl H,trivial⟩ rfl rfl rfl rfl (tU rfl ?_)
             exact ⟨⟨(j + 1),⟨by omega,fun k hk => (Nat.lt_succ_iff_lt_or_eq.1 hk).elim (hne k) (fun e => by rw [e]; exact fun he => by have := beq_iff_eq.2 he.symm; rw [hc47] at this; cases this)⟩⟩,rfl,(by simp only []; omega)⟩
         · obtain rfl : i = j := by omega
           refine W.exit ?_
           refine W.l0 3 [.y 28 _,.y 29 _,.y 3 _] [] [] [(1,_),(3,_)] [(1,.var _)] 72 ⟨mU 3 rfl rfl,aU fun _ _ H K => R.addN (i) (1) (eU K 28 rfl) (kI 1 rfl) bU H,aU fun _ _ H K => R.asg (eU K 29 rfl) rfl H,trivial⟩ rfl rfl rfl rfl (tU rfl ?_)
           exact ⟨⟨(i + 1),⟨by omega,fun k hk => (Nat.lt_succ_iff_lt_or_eq.1 hk).elim (hno k) (fun e => by rw [e]; exact seenM_no hne)⟩⟩,rfl,(by simp only []; omega)⟩
       · obtain rfl : i = t.ins.length := by omega
         refine W.exit ?_
         refine W.seq ?_
         refine W.l0 1 [.y 5 _] [] [] [(1,_),(5,_)] [(1,.var _)] 72 ⟨aU fun _ _ H _ => R.asg (show ev _ _ (.const (.int .u64 0)) = some (.u64 0) from rfl) rfl H,trivial⟩ rfl rfl rfl rfl (tU rfl ?_)
         refine W.seq ?_
         refine W.seq ?_
         refine W.l0 1 [.y 6 _] [] [] [(1,_),(5,_),(6,_)] [(1,.var _)] 72 ⟨aU fun _ _ H _ => R.asg (kI 0 rfl) rfl H,trivial⟩ rfl rfl rfl rfl (tU rfl ?_)
         refine W.block ?_
         refine W.loop (α := {q__ : Nat // q__ ≤ t.outs.length ∧ ∀ j < q__,¬ 2100000000000000 < t.outs[j]!.value ∧ ¬ 2100000000000000 < sumI t.outs (j + 1)}) (fun q__ => ⟨72,[(1,.ptr 1 0 []),(5,.u64 (sumI t.outs q__.1)),(6,.int ((q__.1 : Nat) : Int))],[(1,.var (.agg [.u32 t.ver,.sl none 36 (t.ins.map inD),.sl none 2 (t.outs.map outD),.u32 t.lock]))]⟩) (fun q__ => t.outs.length - q__.1) ⟨(0),⟨Nat.zero_le _,fun j h => absurd h (Nat.not_lt_zero _)⟩⟩ rfl ?_
         rintro ⟨i,⟨hi,hmo⟩⟩
         show W _ _ _ _ ⟨72,[(1,.ptr 1 0 []),(5,.u64 (sumI t.outs i)),(6,.int ((i : Nat) : Int))],[(1,.var (.agg [.u32 t.ver,.sl none 36 (t.ins.map inD),.sl none 2 (t.outs.map outD),.u32 t.lock]))]⟩
         have hi : i ≤ t.outs.length := hi
         have hmo : ∀ j < i,¬ 2100000000000000 < t.outs[j]!.value ∧ ¬ 2100000000000000 < sumI t.outs (j + 1) := hmo
         refine W.seq ?_
         refine W.seq ?_
         refine W.l0 5 [.y 48 _,.y 49 _,.y 50 _,.y 51 _,.y 52 _] [] [] [(1,_),(5,_),(6,_),(52,_)] [(1,.var _)] 72 ⟨mU 6 rfl rfl,aU (fU 1 rfl rfl),aU (lU 49 rfl rfl rfl rfl rfl rfl rfl),aU fun _ _ H K => R.lenE (SC.sl (K 50 _ rfl)) (List.length_map _) H,aU fun _ _ H K => R.lssN (i) (t.outs.length) (eU K 48 rfl) (eU K 51 rfl) H,trivial⟩ rfl rfl rfl rfl (tU rfl ?_)
         refine W.condD rfl (fun hc52 => ?_) (fun hc52 => ?_)
         · refine W.skip ?_
           refine W.seq ?_
           refine W.block ?_
           refine W.seq ?_
           refine W.seq ?_
           refine W.l0 7 [.y 55 _,.y 56 _,.y 57 _,.y 58 _,.y 59 _,.y 60 _,.y 61 _] [] [] [(1,_),(5,_),(6,_),(61,_)] [(1,.var _)] 72 ⟨aU (fU 1 rfl rfl),aU (lU 55 rfl rfl rfl rfl rfl rfl rfl),mU 6 rfl rfl,aU fun _ _ H K => R.idxN (i) (SC.sl (K 56 _ rfl)) (evoI (eU K 57 rfl)) rfl bU H (by decide),aU fun _ _ H K => R.fdE (K 58 _ rfl) H (by decide),aU fun _ _ H K => R.ldE (K 59 _ rfl) (SC.sl (K 56 _ rfl)) (map_get! (l := t.outs) bU) rfl rfl rfl rfl H,aU fun _ _ H K => R.bin (eU K 60 rfl) (show ev _ _ (.const (.int .u64 2100000000000000)) = some (.u64 2100000000000000) from rfl) rfl trivial H,trivial⟩ rfl rfl rfl rfl (tU rfl ?_)
           refine W.cond rfl (fun hc61 => ?_) (fun hc61 => ?_)
           · refine W.seq ?_
             refine W.l0 1 [.y 2 _] [] [] [(2,_)] [(1,.var _)] 72 ⟨aU fun _ _ H _ => R.asg (kB false rfl) rfl H,trivial⟩ rfl rfl rfl rfl (tU rfl ?_)
             refine W.ret ?_
             exact Ends.one' (.inr rfl) rfl (congrArg D.bool (may_f4 hc52 (of_decide_eq_true hc61)).symm) rfl rfl trivial
           · refine W.skip ?_
             refine W.seq ?_
             refine W.l0 9 [.y 62 _,.y 63 _,.y 64 _,.y 65 _,.y 66 _,.y 67 _,.y 68 _,.y 69 _,.y 5 _] [] [] [(1,_),(5,_),(6,_)] [(1,.var _)] 72 ⟨mU 5 rfl rfl,aU (fU 1 rfl rfl),aU (lU 63 rfl rfl rfl rfl rfl rfl rfl),mU 6 rfl rfl,aU fun _ _ H K => R.idxN (i) (SC.sl (K 64 _ rfl)) (evoI (eU K 65 rfl)) rfl bU H (by decide),aU fun _ _ H K => R.fdE (K 66 _ rfl) H (by decide),aU fun _ _ H K => R.ldE (K 67 _ rfl) (SC.sl (K 64 _ rfl)) (map_get! (l := t.outs) bU) rfl rfl rfl rfl H,aU fun _ _ H K => R.bin (eU K 62 rfl) (eU K 68 rfl) rfl trivial H,aU fun _ _ H K => R.asg (eU K 69 rfl) rfl H,trivial⟩ rfl rfl rfl rfl (tU rfl ?_)
             refine W.seq ?_
             refine W.l0 2 [.y 70 _,.y 71 _] [] [] [(1,_),(5,_),(6,_),(71,_)] [(1,.var _)] 72 ⟨mU 5 rfl rfl,aU fun _ _ H K => R.bin (eU K 70 rfl) (show ev _ _ (.const (.int .u64 2100000000000000)) = some (.u64 2100000000000000) from rfl) rfl trivial H,trivial⟩ rfl rfl rfl rfl (tU rfl ?_)
             refine W.cond rfl (fun hc71 => ?_) (fun hc71 => ?_)
             · refine W.seq ?_
               refine W.l0 1 [.y 2 _] [] [] [(2,_)] [(1,.var _)] 72 ⟨aU fun _ _ H _ => R.asg (kB false rfl) rfl H,trivial⟩ rfl rfl rfl rfl (tU rfl ?_)
               refine W.ret ?_
               exact Ends.one' (.inr rfl) rfl (congrArg D.bool (may_f5 hc52 (of_decide_eq_true hc71)).symm) rfl rfl trivial
             · refine W.skip ?_
               refine W.l0 3 [.y 53 _,.y 54 _,.y 6 _] [] [] [(1,_),(5,_),(6,_)] [(1,.var _)] 72 ⟨mU 6 rfl rfl,aU fun _ _ H K => R.addN (i) (1) (eU K 53 rfl) (kI 1 rfl) bU H,aU fun _ _ H K => R.asg (eU K 54 rfl) rfl H,trivial⟩ rfl rfl rfl rfl (tU rfl ?_)
               exact ⟨⟨(i + 1),⟨by omega,fun j hj => (Nat.lt_succ_iff_lt_or_eq.1 hj).elim (hmo j) (fun e => e ▸ ⟨of_decide_eq_false hc61,of_decide_eq_false hc71⟩)⟩⟩,rfl,(by simp only []; omega)⟩
         · obtain rfl : i = t.outs.length := by omega
           refine W.exit ?_
           refine W.seq ?_
           refine W.l0 1 [.y 2 _] [] [] [(2,_)] [(1,.var _)] 72 ⟨aU fun _ _ H _ => R.asg (kB true rfl) rfl H,trivial⟩ rfl rfl rfl rfl (tU rfl ?_)
           refine W.ret ?_
           exact Ends.one' (.inr rfl) rfl (congrArg D.bool (may_true hz ho hno hmo (by omega)).symm) rfl rfl trivial

end Go.Sx

namespace Go.Sx
open Go.Proofs
def eqL {α : Type} [Inhabited α] (f : α → α → Bool) (a b : List α) : Bool := decide (a.length = b.length) && (List.range a.length).all fun i => f a[i]! b[i]!
def eqB (a b : List UInt8) : Bool := a == b
theorem eqL_f1 {α : Type} [Inhabited α] {f : α → α → Bool} {a b : List α} (h : a.length ≠ b.length) : eqL f a b = false := by simp [eqL,h]
theorem eqL_f2 {α : Type} [Inhabited α] {f : α → α → Bool} {a b : List α} (h : a.length = b.length) {i : Nat} (hi : i < a.length) (hf : f a[i]! b[i]! = false) : eqL f a b = false := by
 unfold eqL
 rw [decide_eq_true h,Bool.true_and,List.all_eq_false]
 exact ⟨i,List.mem_range.2 hi,by rw [hf]; simp⟩
theorem eqL_t {α : Type} [Inhabited α] {f : α → α → Bool} {a b : List α} (h : a.length = b.length) (he : ∀ j < a.length,f a[j]! b[j]! = true) : eqL f a b = true := by
 unfold eqL
 rw [decide_eq_true h,Bool.true_and,List.all_eq_true]
 exact fun i hi => he i (List.mem_range.1 hi)
def eqIn (x y : InS) : Bool := plc x == plc y && x.seq == y.seq && x.script == y.script && eqL eqB x.wit y.wit
def eqOut (x y : OutS) : Bool := x.value == y.value && x.script == y.script
theorem not_trueB {b : Bool} (h : (!b) = true) : b = false := by cases b <;> simp_all
theorem not_falseB {b : Bool} (h : (!b) = false) : b = true := by cases b <;> simp_all
def sameS (t u : TxS) : Bool := t.ver == u.ver && t.lock == u.lock && eqL eqIn t.ins u.ins && eqL eqOut t.outs u.outs
end Go.Sx

namespace Go.Sx
open Go.Proofs
theorem eqfB_ok (a b : List (List UInt8)) (ha : a.length ≤ 1000000) (hb : b.length ≤ 1000000) : Fn Tryd.prog gl 54 [.sl none 1 (a.map bytesD),.sl none 1 (b.map bytesD),.fn 46 []] (.bool (eqL eqB a b)) := by
 refine Fn.of (n := 32) Tryd.func54 rfl rfl rfl (nU rfl) fun C hC hD => ?_
 refine W.seq ?_
 refine W.l0 1 [.y 6 _] [] [] [(0,_),(1,_),(2,_)] [] 32 ⟨aU fun _ _ H _ => R.asg (kB false rfl) rfl H,trivial⟩ rfl rfl rfl rfl (tU rfl ?_)
 refine W.seq ?_
 refine W.seq ?_
 refine W.l0 5 [.y 10 _,.y 11 _,.y 12 _,.y 13 _,.y 14 _] [] [] [(0,_),(1,_),(2,_),(14,_)] [] 32 ⟨mU 0 rfl rfl,aU fun _ _ H K => R.lenE (SC.sl (K 10 _ rfl)) (List.length_map _) H,mU 1 rfl rfl,aU fun _ _ H K => R.lenE (SC.sl (K 12 _ rfl)) (List.length_map _) H,aU fun _ _ H K => R.neqN (a.length) (b.length) (eU K 11 rfl) (eU K 13 rfl) H,trivial⟩ rfl rfl rfl rfl (tU rfl ?_)
 refine W.condD rfl (fun hc14 => ?_) (fun hc14 => ?_)
 · refine W.seq ?_
   refine W.l0 1 [.y 6 _] [] [] [(6,_)] [] 32 ⟨aU fun _ _ H _ => R.asg (kB false rfl) rfl H,trivial⟩ rfl rfl rfl rfl (tU rfl ?_)
   refine W.ret ?_
   exact Ends.one' (.inr rfl) rfl (congrArg D.bool (eqL_f1 hc14).symm) rfl rfl trivial
 · refine W.skip ?_
   refine W.seq ?_
   refine W.seq ?_
   refine W.l0 3 [.y 15 _,.y 16 _,.y 17 _] [] [] [(1,_),(2,_),(15,_),(16,_),(17,_)] [] 32 ⟨mU 0 rfl rfl,aU fun _ _ H K => R.lenE (SC.sl (K 15 _ rfl)) (List.length_map _) H,aU fun _ _ H _ => R.mov (kI 0 rfl) rfl H,trivial⟩ rfl rfl rfl rfl (tU rfl ?_)
   refine W.block ?_
   refine W.loop (α := {q__ : Nat // q__ ≤ a.length ∧ ∀ j < q__,eqB a[j]! b[j]! = true}) (fun q__ => ⟨32,[(1,.sl none 1 (b.map bytesD)),(2,.fn 46 []),(15,.sl none 1 (a.map bytesD)),(16,.int ((a.length : Nat) : Int)),(17,.int ((q__.1 : Nat) : Int))],[]⟩) (fun q__ => a.length - q__.1) ⟨(0),⟨Nat.zero_le _,fun j h => absurd h (Nat.not_lt_zero _)⟩⟩ rfl ?_
   rintro ⟨i,⟨hi,heq⟩⟩
   show W _ _ _ _ ⟨32,[(1,.sl none 1 (b.map bytesD)),(2,.fn 46 []),(15,.sl none 1 (a.map bytesD)),(16,.int ((a.length : Nat) : Int)),(17,.int ((i : Nat) : Int))],[]⟩
   have hi : i ≤ a.length := hi
   have hlen : a.length = b.length := Decidable.not_not.1 hc14
   have heq : ∀ j < i,eqB a[j]! b[j]! = true := heq
   refine W.seq ?_
   refine W.l0 1 [.y 18 _] [] [] [(1,_),(2,_),(15,_),(16,_),(17,_),(18,_)] [] 32 ⟨aU fun _ _ H K => R.lssN (i) (a.length) (eU K 17 rfl) (eU K 16 rfl) H,trivial⟩ rfl rfl rfl rfl (tU rfl ?_)
   refine W.seq ?_
   refine W.condD rfl (fun hc18 => ?_) (fun hc18 => ?_)
   · refine W.skip ?_
     refine W.seq ?_
     refine W.block ?_
     refine W.seq ?_
     refine W.l0 5 [.y 19 _,.y 20 _,.y 21 _,.y 7 _,.y 8 _] [] [] [(1,_),(2,_),(7,_),(8,_),(15,_),(16,_),(17,_)] [] 32 ⟨mU 17 rfl rfl,aU fun _ _ H K => R.idxN (i) (SC.sl (K 15 _ rfl)) (evoI (eU K 17 rfl)) rfl bU H (by decide),aU fun _ _ H K => R.ldE (K 20 _ rfl) (SC.sl (K 15 _ rfl)) (map_get! (l := a) bU) rfl rfl rfl rfl H,aU fun _ _ H K => R.asg (eU K 19 rfl) rfl H,aU fun _ _ H K => R.asg (eU K 21 rfl) rfl H,trivial⟩ rfl rfl rfl rfl (tU rfl ?_)
     refine W.seq ?_
     refine W.l0 5 [.y 22 _,.y 23 _,.y 24 _,.y 25 _,.y 9 _] [] [] [(1,_),(2,_),(8,_),(9,_),(15,_),(16,_),(17,_)] [] 32 ⟨mU 1 rfl rfl,mU 7 rfl rfl,aU fun _ _ H K => R.idxN (i) (SC.sl (K 22 _ rfl)) (evoI (eU K 23 rfl)) rfl bU H (by decide),aU fun _ _ H K => R.ldE (K 24 _ rfl) (SC.sl (K 22 _ rfl)) (map_get! (l := b) bU) rfl rfl rfl rfl H,aU fun _ _ H K => R.asg (eU K 25 rfl) rfl H,trivial⟩ rfl rfl rfl rfl (tU rfl ?_)
     refine W.seq ?_
     refine W.l0 5 [.y 26 _,.y 27 _,.y 28 _,.y 29 _,.y 30 _] [] [] [(1,_),(2,_),(15,_),(16,_),(17,_),(30,_)] [] 32 ⟨mU 2 rfl rfl,mU 8 rfl rfl,mU 9 rfl rfl,aU fun _ _ H K => R.callV hC (K 26 _ rfl) (beq_ok a[i]! b[i]!) (Bors.cons (Bor.pur (eU K 27 rfl) rfl rfl) (Bors.cons (Bor.pur (eU K 28 rfl) rfl rfl) Bors.nil)) (FrsR.one (.bool _)) H,aU fun _ _ H K => R.un (eU K 29 rfl) rfl H,trivial⟩ rfl rfl rfl rfl (tU rfl ?_)
     refine W.cond rfl (fun hc30 => ?_) (fun hc30 => ?_)
     · refine W.seq ?_
       refine W.l0 1 [.y 6 _] [] [] [(6,_)] [] 32 ⟨aU fun _ _ H _ => R.asg (kB false rfl) rfl H,trivial⟩ rfl rfl rfl rfl (tU rfl ?_)
       refine W.ret ?_
       exact Ends.one' (.inr rfl) rfl (congrArg D.bool (eqL_f2 hlen hc18 (not_trueB hc30)).symm) rfl rfl trivial
     · refine W.skip ?_
       refine W.l0 2 [.y 31 _,.y 17 _] [] [] [(1,_),(2,_),(15,_),(16,_),(17,_)] [] 32 ⟨aU fun _ _ H K => R.addN (i) (1) (eU K 17 rfl) (kI 1 rfl) bU H,mU 31 rfl rfl,trivial⟩ rfl rfl rfl rfl (tU rfl ?_)
       exact ⟨⟨(i + 1),⟨by omega,fun k hk => (Nat.lt_succ_iff_lt_or_eq.1 hk).elim (heq k) (fun e => by rw [e]; exact not_falseB hc30)⟩⟩,rfl,(by simp only []; omega)⟩
   · obtain rfl : i = a.length := by omega
     refine W.exit ?_
     refine W.seq ?_
     refine W.l0 1 [.y 6 _] [] [] [(6,_)] [] 32 ⟨aU fun _ _ H _ => R.asg (kB true rfl) rfl H,trivial⟩ rfl rfl rfl rfl (tU rfl ?_)
     refine W.ret ?_
     exact Ends.one' (.inr rfl) rfl (congrArg D.bool (eqL_t hlen heq).symm) rfl rfl trivial

theorem same1_ok (x y : InS) (hx : x.wit.length ≤ 1000000) (hy : y.wit.length ≤ 1000000) : Fn Tryd.prog gl 53 [inD x,inD y] (.bool (eqIn x y)) := by
 refine Fn.of (n := 31) Tryd.func53 rfl rfl rfl (nU rfl) fun C hC hD => ?_
 refine W.seq ?_
 refine W.l0 3 [] [] [] [(0,_),(1,_)] [] 31 trivial rfl rfl rfl rfl (⟨rfl,_,R.box (gV 0 rfl) rfl rfl (nU rfl),⟨rfl,_,R.box (gV 1 rfl) rfl rfl (nU rfl),⟨rfl,_,R.asg (kB false rfl) rfl (nU rfl),tV [(2,_),(3,_)] [(3,.var _),(2,.var _)] 31 rfl rfl rfl ?_⟩⟩⟩)
 refine W.seq ?_
 by_cases h1 : plc x = plc y
 · by_cases h2 : x.seq = y.seq
   · by_cases h3 : x.script = y.script
     · refine W.l0 27 (.y 5 _ :: .y 6 _ :: .y 7 _ :: .y 8 _ :: .y 9 _ :: .y 10 _ :: .y 11 _ :: .y 12 _ :: .y 13 _ :: .y 14 _ :: .y 15 _ :: .y 16 _ :: .y 17 _ :: .y 18 _ :: .y 19 _ :: .y 20 _ :: .y 21 _ :: .y 22 _ :: .y 23 _ :: .y 24 _ :: .y 25 _ :: .y 26 _ :: .y 27 _ :: .y 28 _ :: .y 29 _ :: .y 30 _ :: .y 4 _ :: []) [] [] [(4,_)] [(3,.var _),(2,.var _)] 31 ⟨aU (fU 2 rfl rfl),aU (lU 5 rfl rfl rfl rfl rfl rfl rfl),aU (fU 3 rfl rfl),aU (lU 7 rfl rfl rfl rfl rfl rfl rfl),aU fun _ _ H K => R.eqD (neg := false) (b' := (plc x == plc y)) (eqv_place (plc x) (plc y)) rfl (eU K 6 rfl) (eU K 8 rfl) rfl rfl rfl rfl (rfl) H,mU 9 rfl rfl,aW rfl rfl (gT (beq_iff_eq.2 h1) rfl) (fU 2 rfl rfl),aW rfl rfl (gT (beq_iff_eq.2 h1) rfl) (lU 11 rfl rfl rfl rfl rfl rfl rfl),aW rfl rfl (gT (beq_iff_eq.2 h1) rfl) (fU 3 rfl rfl),aW rfl rfl (gT (beq_iff_eq.2 h1) rfl) (lU 13 rfl rfl rfl rfl rfl rfl rfl),aW rfl rfl (gT (beq_iff_eq.2 h1) rfl) fun _ _ H K => R.bin (eU K 12 rfl) (eU K 14 rfl) rfl trivial H,aU fun _ _ H K => R.pickT (eU K 10 rfl) (beq_iff_eq.2 h1) (eU K 15 rfl) rfl H,mU 16 rfl rfl,aW rfl rfl (gT (by simp [h2]) rfl) (fU 2 rfl rfl),aW rfl rfl (gT (by simp [h2]) rfl) (lU 18 rfl rfl rfl rfl rfl rfl rfl),aW rfl rfl (gT (by simp [h2]) rfl) (fU 3 rfl rfl),aW rfl rfl (gT (by simp [h2]) rfl) (lU 20 rfl rfl rfl rfl rfl rfl rfl),aW rfl rfl (gT (by simp [h2]) rfl) fun _ _ H K => R.callG hC (beq_ok x.script y.script) (Bors.cons (Bor.pur (eU K 19 rfl) rfl rfl) (Bors.cons (Bor.pur (eU K 21 rfl) rfl rfl) Bors.nil)) (FrsR.one (.bool _)) H,aU fun _ _ H K => R.pickT (eU K 17 rfl) (by simp [h2]) (eU K 22 rfl) rfl H,mU 23 rfl rfl,aW rfl rfl (gT (beq_iff_eq.2 h3) rfl) (fU 2 rfl rfl),aW rfl rfl (gT (beq_iff_eq.2 h3) rfl) (lU 25 rfl rfl rfl rfl rfl rfl rfl),aW rfl rfl (gT (beq_iff_eq.2 h3) rfl) (fU 3 rfl rfl),aW rfl rfl (gT (beq_iff_eq.2 h3) rfl) (lU 27 rfl rfl rfl rfl rfl rfl rfl),aW rfl rfl (gT (beq_iff_eq.2 h3) rfl) fun _ _ H K => R.callG hC (eqfB_ok x.wit y.wit hx hy) (Bors.cons (Bor.pur (eU K 26 rfl) rfl rfl) (Bors.cons (Bor.pur (eU K 28 rfl) rfl rfl) (Bors.cons (Bor.pur rfl rfl rfl) Bors.nil))) (FrsR.one (.bool _)) H,aU fun _ _ H K => R.pickT (eU K 24 rfl) (beq_iff_eq.2 h3) (eU K 29 rfl) rfl H,aU fun _ _ H K => R.asg (eU K 30 rfl) rfl H,trivial⟩ rfl rfl rfl rfl (tU rfl ?_)
       refine W.ret ?_
       exact Ends.one' (.inr rfl) rfl (by simp [eqIn,h1,h2,h3]) rfl rfl trivial
     · refine W.l0 27 (.y 5 _ :: .y 6 _ :: .y 7 _ :: .y 8 _ :: .y 9 _ :: .y 10 _ :: .y 11 _ :: .y 12 _ :: .y 13 _ :: .y 14 _ :: .y 15 _ :: .y 16 _ :: .y 17 _ :: .y 18 _ :: .y 19 _ :: .y 20 _ :: .y 21 _ :: .y 22 _ :: .y 23 _ :: .y 24 _ :: .x 25 :: .x 26 :: .x 27 :: .x 28 :: .x 29 :: .y 30 _ :: .y 4 _ :: []) [] [] [(4,_)] [(3,.var _),(2,.var _)] 31 ⟨aU (fU 2 rfl rfl),aU (lU 5 rfl rfl rfl rfl rfl rfl rfl),aU (fU 3 rfl rfl),aU (lU 7 rfl rfl rfl rfl rfl rfl rfl),aU fun _ _ H K => R.eqD (neg := false) (b' := (plc x == plc y)) (eqv_place (plc x) (plc y)) rfl (eU K 6 rfl) (eU K 8 rfl) rfl rfl rfl rfl (rfl) H,mU 9 rfl rfl,aW rfl rfl (gT (beq_iff_eq.2 h1) rfl) (fU 2 rfl rfl),aW rfl rfl (gT (beq_iff_eq.2 h1) rfl) (lU 11 rfl rfl rfl rfl rfl rfl rfl),aW rfl rfl (gT (beq_iff_eq.2 h1) rfl) (fU 3 rfl rfl),aW rfl rfl (gT (beq_iff_eq.2 h1) rfl) (lU 13 rfl rfl rfl rfl rfl rfl rfl),aW rfl rfl (gT (beq_iff_eq.2 h1) rfl) fun _ _ H K => R.bin (eU K 12 rfl) (eU K 14 rfl) rfl trivial H,aU fun _ _ H K => R.pickT (eU K 10 rfl) (beq_iff_eq.2 h1) (eU K 15 rfl) rfl H,mU 16 rfl rfl,aW rfl rfl (gT (by simp [h2]) rfl) (fU 2 rfl rfl),aW rfl rfl (gT (by simp [h2]) rfl) (lU 18 rfl rfl rfl rfl rfl rfl rfl),aW rfl rfl (gT (by simp [h2]) rfl) (fU 3 rfl rfl),aW rfl rfl (gT (by simp [h2]) rfl) (lU 20 rfl rfl rfl rfl rfl rfl rfl),aW rfl rfl (gT (by simp [h2]) rfl) fun _ _ H K => R.callG hC (beq_ok x.script y.script) (Bors.cons (Bor.pur (eU K 19 rfl) rfl rfl) (Bors.cons (Bor.pur (eU K 21 rfl) rfl rfl) Bors.nil)) (FrsR.one (.bool _)) H,aU fun _ _ H K => R.pickT (eU K 17 rfl) (by simp [h2]) (eU K 22 rfl) rfl H,mU 23 rfl rfl,aF rfl rfl (gF (beq_eq_false_iff_ne.2 h3) rfl),aF rfl rfl (gF (beq_eq_false_iff_ne.2 h3) rfl),aF rfl rfl (gF (beq_eq_false_iff_ne.2 h3) rfl),aF rfl rfl (gF (beq_eq_false_iff_ne.2 h3) rfl),aF rfl rfl (gF (beq_eq_false_iff_ne.2 h3) rfl),aU fun _ _ H K => R.pickF (eU K 24 rfl) (beq_eq_false_iff_ne.2 h3) (kB false rfl) rfl H,aU fun _ _ H K => R.asg (eU K 30 rfl) rfl H,trivial⟩ rfl rfl rfl rfl (tU rfl ?_)
       refine W.ret ?_
       exact Ends.one' (.inr rfl) rfl (by simp [eqIn,h1,h2,h3]) rfl rfl trivial
   · refine W.l0 27 (.y 5 _ :: .y 6 _ :: .y 7 _ :: .y 8 _ :: .y 9 _ :: .y 10 _ :: .y 11 _ :: .y 12 _ :: .y 13 _ :: .y 14 _ :: .y 15 _ :: .y 16 _ :: .y 17 _ :: .x 18 :: .x 19 :: .x 20 :: .x 21 :: .x 22 :: .y 23 _ :: .y 24 _ :: .x 25 :: .x 26 :: .x 27 :: .x 28 :: .x 29 :: .y 30 _ :: .y 4 _ :: []) [] [] [(4,_)] [(3,.var _),(2,.var _)] 31 ⟨aU (fU 2 rfl rfl),aU (lU 5 rfl rfl rfl rfl rfl rfl rfl),aU (fU 3 rfl rfl),aU (lU 7 rfl rfl rfl rfl rfl rfl rfl),aU fun _ _ H K => R.eqD (neg := false) (b' := (plc x == plc y)) (eqv_place (plc x) (plc y)) rfl (eU K 6 rfl) (eU K 8 rfl) rfl rfl rfl rfl (rfl) H,mU 9 rfl rfl,aW rfl rfl (gT (beq_iff_eq.2 h1) rfl) (fU 2 rfl rfl),aW rfl rfl (gT (beq_iff_eq.2 h1) rfl) (lU 11 rfl rfl rfl rfl rfl rfl rfl),aW rfl rfl (gT (beq_iff_eq.2 h1) rfl) (fU 3 rfl rfl),aW rfl rfl (gT (beq_iff_eq.2 h1) rfl) (lU 13 rfl rfl rfl rfl rfl rfl rfl),aW rfl rfl (gT (beq_iff_eq.2 h1) rfl) fun _ _ H K => R.bin (eU K 12 rfl) (eU K 14 rfl) rfl trivial H,aU fun _ _ H K => R.pickT (eU K 10 rfl) (beq_iff_eq.2 h1) (eU K 15 rfl) rfl H,mU 16 rfl rfl,aF rfl rfl (gF (by simp [h2]) rfl),aF rfl rfl (gF (by simp [h2]) rfl),aF rfl rfl (gF (by simp [h2]) rfl),aF rfl rfl (gF (by simp [h2]) rfl),aF rfl rfl (gF (by simp [h2]) rfl),aU fun _ _ H K => R.pickF (eU K 17 rfl) (by simp [h2]) (kB false rfl) rfl H,mU 23 rfl rfl,aF rfl rfl (gF (rfl) rfl),aF rfl rfl (gF (rfl) rfl),aF rfl rfl (gF (rfl) rfl),aF rfl rfl (gF (rfl) rfl),aF rfl rfl (gF (rfl) rfl),aU fun _ _ H K => R.pickF (eU K 24 rfl) (rfl) (kB false rfl) rfl H,aU fun _ _ H K => R.asg (eU K 30 rfl) rfl H,trivial⟩ rfl rfl rfl rfl (tU rfl ?_)
     refine W.ret ?_
     exact Ends.one' (.inr rfl) rfl (by simp [eqIn,h1,h2]) rfl rfl trivial
 · refine W.l0 27 (.y 5 _ :: .y 6 _ :: .y 7 _ :: .y 8 _ :: .y 9 _ :: .y 10 _ :: .x 11 :: .x 12 :: .x 13 :: .x 14 :: .x 15 :: .y 16 _ :: .y 17 _ :: .x 18 :: .x 19 :: .x 20 :: .x 21 :: .x 22 :: .y 23 _ :: .y 24 _ :: .x 25 :: .x 26 :: .x 27 :: .x 28 :: .x 29 :: .y 30 _ :: .y 4 _ :: []) [] [] [(4,_)] [(3,.var _),(2,.var _)] 31 ⟨aU (fU 2 rfl rfl),aU (lU 5 rfl rfl rfl rfl rfl rfl rfl),aU (fU 3 rfl rfl),aU (lU 7 rfl rfl rfl rfl rfl rfl rfl),aU fun _ _ H K => R.eqD (neg := false) (b' := (plc x == plc y)) (eqv_place (plc x) (plc y)) rfl (eU K 6 rfl) (eU K 8 rfl) rfl rfl rfl rfl (rfl) H,mU 9 rfl rfl,aF rfl rfl (gF (beq_eq_false_iff_ne.2 h1) rfl),aF rfl rfl (gF (beq_eq_false_iff_ne.2 h1) rfl),aF rfl rfl (gF (beq_eq_false_iff_ne.2 h1) rfl),aF rfl rfl (gF (beq_eq_false_iff_ne.2 h1) rfl),aF rfl rfl (gF (beq_eq_false_iff_ne.2 h1) rfl),aU fun _ _ H K => R.pickF (eU K 10 rfl) (beq_eq_false_iff_ne.2 h1) (kB false rfl) rfl H,mU 16 rfl rfl,aF rfl rfl (gF (rfl) rfl),aF rfl rfl (gF (rfl) rfl),aF rfl rfl (gF (rfl) rfl),aF rfl rfl (gF (rfl) rfl),aF rfl rfl (gF (rfl) rfl),aU fun _ _ H K => R.pickF (eU K 17 rfl) (rfl) (kB false rfl) rfl H,mU 23 rfl rfl,aF rfl rfl (gF (rfl) rfl),aF rfl rfl (gF (rfl) rfl),aF rfl rfl (gF (rfl) rfl),aF rfl rfl (gF (rfl) rfl),aF rfl rfl (gF (rfl) rfl),aU fun _ _ H K => R.pickF (eU K 24 rfl) (rfl) (kB false rfl) rfl H,aU fun _ _ H K => R.asg (eU K 30 rfl) rfl H,trivial⟩ rfl rfl rfl rfl (tU rfl ?_)
   refine W.ret ?_
   exact Ends.one' (.inr rfl) rfl (by simp [eqIn,h1]) rfl rfl trivial

theorem same2_ok (x y : OutS) : Fn Tryd.prog gl 55 [outD x,outD y] (.bool (eqOut x y)) := by
 refine Fn.of (n := 17) Tryd.func55 rfl rfl rfl (nU rfl) fun C hC hD => ?_
 refine W.seq ?_
 refine W.l0 3 [] [] [] [(0,_),(1,_)] [] 17 trivial rfl rfl rfl rfl (⟨rfl,_,R.box (gV 0 rfl) rfl rfl (nU rfl),⟨rfl,_,R.box (gV 1 rfl) rfl rfl (nU rfl),⟨rfl,_,R.asg (kB false rfl) rfl (nU rfl),tV [(2,_),(3,_)] [(3,.var _),(2,.var _)] 17 rfl rfl rfl ?_⟩⟩⟩)
 refine W.seq ?_
 by_cases h1 : x.value = y.value
 · refine W.l0 13 [.y 5 _,.y 6 _,.y 7 _,.y 8 _,.y 9 _,.y 10 _,.y 11 _,.y 12 _,.y 13 _,.y 14 _,.y 15 _,.y 16 _,.y 4 _] [] [] [(4,_)] [(3,.var _),(2,.var _)] 17 ⟨aU (fU 2 rfl rfl),aU (lU 5 rfl rfl rfl rfl rfl rfl rfl),aU (fU 3 rfl rfl),aU (lU 7 rfl rfl rfl rfl rfl rfl rfl),aU fun _ _ H K => R.bin (eU K 6 rfl) (eU K 8 rfl) rfl trivial H,mU 9 rfl rfl,aW rfl rfl (gT (by simp [h1]) rfl) (fU 2 rfl rfl),aW rfl rfl (gT (by simp [h1]) rfl) (lU 11 rfl rfl rfl rfl rfl rfl rfl),aW rfl rfl (gT (by simp [h1]) rfl) (fU 3 rfl rfl),aW rfl rfl (gT (by simp [h1]) rfl) (lU 13 rfl rfl rfl rfl rfl rfl rfl),aW rfl rfl (gT (by simp [h1]) rfl) fun _ _ H K => R.callG hC (beq_ok x.script y.script) (Bors.cons (Bor.pur (eU K 12 rfl) rfl rfl) (Bors.cons (Bor.pur (eU K 14 rfl) rfl rfl) Bors.nil)) (FrsR.one (.bool _)) H,aU fun _ _ H K => R.pickT (eU K 10 rfl) (by simp [h1]) (eU K 15 rfl) rfl H,aU fun _ _ H K => R.asg (eU K 16 rfl) rfl H,trivial⟩ rfl rfl rfl rfl (tU rfl ?_)
   refine W.ret ?_
   exact Ends.one' (.inr rfl) rfl (by simp [eqOut,h1]) rfl rfl trivial
 · refine W.l0 13 [.y 5 _,.y 6 _,.y 7 _,.y 8 _,.y 9 _,.y 10 _,.x 11,.x 12,.x 13,.x 14,.x 15,.y 16 _,.y 4 _] [] [] [(4,_)] [(3,.var _),(2,.var _)] 17 ⟨aU (fU 2 rfl rfl),aU (lU 5 rfl rfl rfl rfl rfl rfl rfl),aU (fU 3 rfl rfl),aU (lU 7 rfl rfl rfl rfl rfl rfl rfl),aU fun _ _ H K => R.bin (eU K 6 rfl) (eU K 8 rfl) rfl trivial H,mU 9 rfl rfl,aF rfl rfl (gF (by simp [h1]) rfl),aF rfl rfl (gF (by simp [h1]) rfl),aF rfl rfl (gF (by simp [h1]) rfl),aF rfl rfl (gF (by simp [h1]) rfl),aF rfl rfl (gF (by simp [h1]) rfl),aU fun _ _ H K => R.pickF (eU K 10 rfl) (by simp [h1]) (kB false rfl) rfl H,aU fun _ _ H K => R.asg (eU K 16 rfl) rfl H,trivial⟩ rfl rfl rfl rfl (tU rfl ?_)
   refine W.ret ?_
   exact Ends.one' (.inr rfl) rfl (by simp [eqOut,h1]) rfl rfl trivial

theorem eqfI_ok (a b : List InS) (ha : a.length ≤ 1000000) (hb : b.length ≤ 1000000) (hA : ∀ x ∈ a,x.wit.length ≤ 1000000) (hB : ∀ x ∈ b,x.wit.length ≤ 1000000) : Fn Tryd.prog gl 56 [.sl none 36 (a.map inD),.sl none 36 (b.map inD),.fn 53 []] (.bool (eqL eqIn a b)) := by
 refine Fn.of (n := 32) Tryd.func56 rfl rfl rfl (nU rfl) fun C hC hD => ?_
 refine W.seq ?_
 refine W.l0 1 [.y 6 _] [] [] [(0,_),(1,_),(2,_)] [] 32 ⟨aU fun _ _ H _ => R.asg (kB false rfl) rfl H,trivial⟩ rfl rfl rfl rfl (tU rfl ?_)
 refine W.seq ?_
 refine W.seq ?_
 refine W.l0 5 [.y 10 _,.y 11 _,.y 12 _,.y 13 _,.y 14 _] [] [] [(0,_),(1,_),(2,_),(14,_)] [] 32 ⟨mU 0 rfl rfl,aU fun _ _ H K => R.lenE (SC.sl (K 10 _ rfl)) (List.length_map _) H,mU 1 rfl rfl,aU fun _ _ H K => R.lenE (SC.sl (K 12 _ rfl)) (List.length_map _) H,aU fun _ _ H K => R.neqN (a.length) (b.length) (eU K 11 rfl) (eU K 13 rfl) H,trivial⟩ rfl rfl rfl rfl (tU rfl ?_)
 refine W.condD rfl (fun hc14 => ?_) (fun hc14 => ?_)
 · refine W.seq ?_
   refine W.l0 1 [.y 6 _] [] [] [(6,_)] [] 32 ⟨aU fun _ _ H _ => R.asg (kB false rfl) rfl H,trivial⟩ rfl rfl rfl rfl (tU rfl ?_)
   refine W.ret ?_
   exact Ends.one' (.inr rfl) rfl (congrArg D.bool (eqL_f1 hc14).symm) rfl rfl trivial
 · refine W.skip ?_
   refine W.seq ?_
   refine W.seq ?_
   refine W.l0 3 [.y 15 _,.y 16 _,.y 17 _] [] [] [(1,_),(2,_),(15,_),(16,_),(17,_)] [] 32 ⟨mU 0 rfl rfl,aU fun _ _ H K => R.lenE (SC.sl (K 15 _ rfl)) (List.length_map _) H,aU fun _ _ H _ => R.mov (kI 0 rfl) rfl H,trivial⟩ rfl rfl rfl rfl (tU rfl ?_)
   refine W.block ?_
   refine W.loop (α := {q__ : Nat // q__ ≤ a.length ∧ ∀ j < q__,eqIn a[j]! b[j]! = true}) (fun q__ => ⟨32,[(1,.sl none 36 (b.map inD)),(2,.fn 53 []),(15,.sl none 36 (a.map inD)),(16,.int ((a.length : Nat) : Int)),(17,.int ((q__.1 : Nat) : Int))],[]⟩) (fun q__ => a.length - q__.1) ⟨(0),⟨Nat.zero_le _,fun j h => absurd h (Nat.not_lt_zero _)⟩⟩ rfl ?_
   rintro ⟨i,⟨hi,heq⟩⟩
   show W _ _ _ _ ⟨32,[(1,.sl none 36 (b.map inD)),(2,.fn 53 []),(15,.sl none 36 (a.map inD)),(16,.int ((a.length : Nat) : Int)),(17,.int ((i : Nat) : Int))],[]⟩
   have hi : i ≤ a.length := hi
   have hlen : a.length = b.length := Decidable.not_not.1 hc14
   have heq : ∀ j < i,eqIn a[j]! b[j]! = true := heq
   refine W.seq ?_
   refine W.l0 1 [.y 18 _] [] [] [(1,_),(2,_),(15,_),(16,_),(17,_),(18,_)] [] 32 ⟨aU fun _ _ H K => R.lssN (i) (a.length) (eU K 17 rfl) (eU K 16 rfl) H,trivial⟩ rfl rfl rfl rfl (tU rfl ?_)
   refine W.seq ?_
   refine W.condD rfl (fun hc18 => ?_) (fun hc18 => ?_)
   · refine W.skip ?_
     refine W.seq ?_
     refine W.block ?_
     refine W.seq ?_
     refine W.l0 6 [.y 19 _,.y 20 _,.y 21 _] [] [] [(1,_),(2,_),(15,_),(16,_),(17,_),(19,_),(21,_)] [] 32 ⟨mU 17 rfl rfl,aU fun _ _ H K => R.idxN (i) (SC.sl (K 15 _ rfl)) (evoI (eU K 17 rfl)) rfl bU H (by decide),aU fun _ _ H K => R.ldE (K 20 _ rfl) (SC.sl (K 15 _ rfl)) (map_get! (l := a) bU) rfl rfl rfl rfl H,trivial⟩ rfl rfl rfl rfl (⟨rfl,_,R.alloc rfl (nU rfl),⟨rfl,_,R.asg (gV 19 rfl) rfl (nU rfl),⟨rfl,_,R.stZ (gU 8 rfl) (xU 8 rfl) rfl (gV 21 rfl) (by rfl) (by rfl) (by rfl) (by rfl) rfl,tV [(1,_),(2,_),(7,_),(8,_),(15,_),(16,_),(17,_)] [(8,.var _)] 32 rfl rfl rfl ?_⟩⟩⟩)
     refine W.seq ?_
     refine W.l0 6 [.y 22 _,.y 23 _,.y 24 _,.y 25 _] [] [] [(1,_),(2,_),(8,_),(15,_),(16,_),(17,_),(25,_)] [(8,.var _)] 32 ⟨mU 1 rfl rfl,mU 7 rfl rfl,aU fun _ _ H K => R.idxN (i) (SC.sl (K 22 _ rfl)) (evoI (eU K 23 rfl)) rfl bU H (by decide),aU fun _ _ H K => R.ldE (K 24 _ rfl) (SC.sl (K 22 _ rfl)) (map_get! (l := b) bU) rfl rfl rfl rfl H,trivial⟩ rfl rfl rfl rfl (⟨rfl,_,R.alloc rfl (nU rfl),⟨rfl,_,R.stZ (gU 9 rfl) (xU 9 rfl) rfl (gV 25 rfl) (by rfl) (by rfl) (by rfl) (by rfl) rfl,tV [(1,_),(2,_),(8,_),(9,_),(15,_),(16,_),(17,_)] [(9,.var _),(8,.var _)] 32 rfl rfl rfl ?_⟩⟩)
     refine W.seq ?_
     refine W.l0 5 [.y 26 _,.y 27 _,.y 28 _,.y 29 _,.y 30 _] [] [] [(1,_),(2,_),(15,_),(16,_),(17,_),(30,_)] [(9,.var _),(8,.var _)] 32 ⟨mU 2 rfl rfl,aU (lU 8 rfl rfl rfl rfl rfl rfl rfl),aU (lU 9 rfl rfl rfl rfl rfl rfl rfl),aU fun _ _ H K => R.callV hC (K 26 _ rfl) (same1_ok a[i]! b[i]! (hA _ (get_mem (by omega))) (hB _ (get_mem (by omega)))) (Bors.cons (Bor.pur (eU K 27 rfl) rfl rfl) (Bors.cons (Bor.pur (eU K 28 rfl) rfl rfl) Bors.nil)) (FrsR.one (.bool _)) H,aU fun _ _ H K => R.un (eU K 29 rfl) rfl H,trivial⟩ rfl rfl rfl rfl (tU rfl ?_)
     refine W.cond rfl (fun hc30 => ?_) (fun hc30 => ?_)
     · refine W.seq ?_
       refine W.dropB [] (bx' := []) rfl rfl rfl (pin_sub hD rfl) ?_
       refine W.l0 1 [.y 6 _] [] [] [(6,_)] [] 32 ⟨aU fun _ _ H _ => R.asg (kB false rfl) rfl H,trivial⟩ rfl rfl rfl rfl (tU rfl ?_)
       refine W.ret ?_
       exact Ends.one' (.inr rfl) rfl (congrArg D.bool (eqL_f2 hlen hc18 (not_trueB hc30)).symm) rfl rfl trivial
     · refine W.skip ?_
       refine W.dropB [] (bx' := []) rfl rfl rfl (pin_sub hD rfl) ?_
       refine W.l0 2 [.y 31 _,.y 17 _] [] [] [(1,_),(2,_),(15,_),(16,_),(17,_)] [] 32 ⟨aU fun _ _ H K => R.addN (i) (1) (eU K 17 rfl) (kI 1 rfl) bU H,mU 31 rfl rfl,trivial⟩ rfl rfl rfl rfl (tU rfl ?_)
       exact ⟨⟨(i + 1),⟨by omega,fun k hk => (Nat.lt_succ_iff_lt_or_eq.1 hk).elim (heq k) (fun e => by rw [e]; exact not_falseB hc30)⟩⟩,rfl,(by simp only []; omega)⟩
   · obtain rfl : i = a.length := by omega
     refine W.exit ?_
     refine W.seq ?_
     refine W.l0 1 [.y 6 _] [] [] [(6,_)] [] 32 ⟨aU fun _ _ H _ => R.asg (kB true rfl) rfl H,trivial⟩ rfl rfl rfl rfl (tU rfl ?_)
     refine W.ret ?_
     exact Ends.one' (.inr rfl) rfl (congrArg D.bool (eqL_t hlen heq).symm) rfl rfl trivial

theorem eqfO_ok (a b : List OutS) (ha : a.length ≤ 1000000) (hb : b.length ≤ 1000000) : Fn Tryd.prog gl 57 [.sl none 2 (a.map outD),.sl none 2 (b.map outD),.fn 55 []] (.bool (eqL eqOut a b)) := by
 refine Fn.of (n := 32) Tryd.func57 rfl rfl rfl (nU rfl) fun C hC hD => ?_
 refine W.seq ?_
 refine W.l0 1 [.y 6 _] [] [] [(0,_),(1,_),(2,_)] [] 32 ⟨aU fun _ _ H _ => R.asg (kB false rfl) rfl H,trivial⟩ rfl rfl rfl rfl (tU rfl ?_)
 refine W.seq ?_
 refine W.seq ?_
 refine W.l0 5 [.y 10 _,.y 11 _,.y 12 _,.y 13 _,.y 14 _] [] [] [(0,_),(1,_),(2,_),(14,_)] [] 32 ⟨mU 0 rfl rfl,aU fun _ _ H K => R.lenE (SC.sl (K 10 _ rfl)) (List.length_map _) H,mU 1 rfl rfl,aU fun _ _ H K => R.lenE (SC.sl (K 12 _ rfl)) (List.length_map _) H,aU fun _ _ H K => R.neqN (a.length) (b.length) (eU K 11 rfl) (eU K 13 rfl) H,trivial⟩ rfl rfl rfl rfl (tU rfl ?_)
 refine W.condD rfl (fun hc14 => ?_) (fun hc14 => ?_)
 · refine W.seq ?_
   refine W.l0 1 [.y 6 _] [] [] [(6,_)] [] 32 ⟨aU fun _ _ H _ => R.asg (kB false rfl) rfl H,trivial⟩ rfl rfl rfl rfl (tU rfl ?_)
   refine W.ret ?_
   exact Ends.one' (.inr rfl) rfl (congrArg D.bool (eqL_f1 hc14).symm) rfl rfl trivial
 · refine W.skip ?_
   refine W.seq ?_
   refine W.seq ?_
   refine W.l0 3 [.y 15 _,.y 16 _,.y 17 _] [] [] [(1,_),(2,_),(15,_),(16,_),(17,_)] [] 32 ⟨mU 0 rfl rfl,aU fun _ _ H K => R.lenE (SC.sl (K 15 _ rfl)) (List.length_map _) H,aU fun _ _ H _ => R.mov (kI 0 rfl) rfl H,trivial⟩ rfl rfl rfl rfl (tU rfl ?_)
   refine W.block ?_
   refine W.loop (α := {q__ : Nat // q__ ≤ a.length ∧ ∀ j < q__,eqOut a[j]! b[j]! = true}) (fun q__ => ⟨32,[(1,.sl none 2 (b.map outD)),(2,.fn 55 []),(15,.sl none 2 (a.map outD)),(16,.int ((a.length : Nat) : Int)),(17,.int ((q__.1 : Nat) : Int))],[]⟩) (fun q__ => a.length - q__.1) ⟨(0),⟨Nat.zero_le _,fun j h => absurd h (Nat.not_lt_zero _)⟩⟩ rfl ?_
   rintro ⟨i,⟨hi,heq⟩⟩
   show W _ _ _ _ ⟨32,[(1,.sl none 2 (b.map outD)),(2,.fn 55 []),(15,.sl none 2 (a.map outD)),(16,.int ((a.length : Nat) : Int)),(17,.int ((i : Nat) : Int))],[]⟩
   have hi : i ≤ a.length := hi
   have hlen : a.length = b.length := Decidable.not_not.1 hc14
   have heq : ∀ j < i,eqOut a[j]! b[j]! = true := heq
   refine W.seq ?_
   refine W.l0 1 [.y 18 _] [] [] [(1,_),(2,_),(15,_),(16,_),(17,_),(18,_)] [] 32 ⟨aU fun _ _ H K => R.lssN (i) (a.length) (eU K 17 rfl) (eU K 16 rfl) H,trivial⟩ rfl rfl rfl rfl (tU rfl ?_)
   refine W.seq ?_
   refine W.condD rfl (fun hc18 => ?_) (fun hc18 => ?_)
   · refine W.skip ?_
     refine W.seq ?_
     refine W.block ?_
     refine W.seq ?_
     refine W.l0 6 [.y 19 _,.y 20 _,.y 21 _] [] [] [(1,_),(2,_),(15,_),(16,_),(17,_),(19,_),(21,_)] [] 32 ⟨mU 17 rfl rfl,aU fun _ _ H K => R.idxN (i) (SC.sl (K 15 _ rfl)) (evoI (eU K 17 rfl)) rfl bU H (by decide),aU fun _ _ H K => R.ldE (K 20 _ rfl) (SC.sl (K 15 _ rfl)) (map_get! (l := a) bU) rfl rfl rfl rfl H,trivial⟩ rfl rfl rfl rfl (⟨rfl,_,R.alloc rfl (nU rfl),⟨rfl,_,R.asg (gV 19 rfl) rfl (nU rfl),⟨rfl,_,R.stZ (gU 8 rfl) (xU 8 rfl) rfl (gV 21 rfl) (by rfl) (by rfl) (by rfl) (by rfl) rfl,tV [(1,_),(2,_),(7,_),(8,_),(15,_),(16,_),(17,_)] [(8,.var _)] 32 rfl rfl rfl ?_⟩⟩⟩)
     refine W.seq ?_
     refine W.l0 6 [.y 22 _,.y 23 _,.y 24 _,.y 25 _] [] [] [(1,_),(2,_),(8,_),(15,_),(16,_),(17,_),(25,_)] [(8,.var _)] 32 ⟨mU 1 rfl rfl,mU 7 rfl rfl,aU fun _ _ H K => R.idxN (i) (SC.sl (K 22 _ rfl)) (evoI (eU K 23 rfl)) rfl bU H (by decide),aU fun _ _ H K => R.ldE (K 24 _ rfl) (SC.sl (K 22 _ rfl)) (map_get! (l := b) bU) rfl rfl rfl rfl H,trivial⟩ rfl rfl rfl rfl (⟨rfl,_,R.alloc rfl (nU rfl),⟨rfl,_,R.stZ (gU 9 rfl) (xU 9 rfl) rfl (gV 25 rfl) (by rfl) (by rfl) (by rfl) (by rfl) rfl,tV [(1,_),(2,_),(8,_),(9,_),(15,_),(16,_),(17,_)] [(9,.var _),(8,.var _)] 32 rfl rfl rfl ?_⟩⟩)
     refine W.seq ?_
     refine W.l0 5 [.y 26 _,.y 27 _,.y 28 _,.y 29 _,.y 30 _] [] [] [(1,_),(2,_),(15,_),(16,_),(17,_),(30,_)] [(9,.var _),(8,.var _)] 32 ⟨mU 2 rfl rfl,aU (lU 8 rfl rfl rfl rfl rfl rfl rfl),aU (lU 9 rfl rfl rfl rfl rfl rfl rfl),aU fun _ _ H K => R.callV hC (K 26 _ rfl) (same2_ok a[i]! b[i]!) (Bors.cons (Bor.pur (eU K 27 rfl) rfl rfl) (Bors.cons (Bor.pur (eU K 28 rfl) rfl rfl) Bors.nil)) (FrsR.one (.bool _)) H,aU fun _ _ H K => R.un (eU K 29 rfl) rfl H,trivial⟩ rfl rfl rfl rfl (tU rfl ?_)
     refine W.cond rfl (fun hc30 => ?_) (fun hc30 => ?_)
     · refine W.seq ?_
       refine W.dropB [] (bx' := []) rfl rfl rfl (pin_sub hD rfl) ?_
       refine W.l0 1 [.y 6 _] [] [] [(6,_)] [] 32 ⟨aU fun _ _ H _ => R.asg (kB false rfl) rfl H,trivial⟩ rfl rfl rfl rfl (tU rfl ?_)
       refine W.ret ?_
       exact Ends.one' (.inr rfl) rfl (congrArg D.bool (eqL_f2 hlen hc18 (not_trueB hc30)).symm) rfl rfl trivial
     · refine W.skip ?_
       refine W.dropB [] (bx' := []) rfl rfl rfl (pin_sub hD rfl) ?_
       refine W.l0 2 [.y 31 _,.y 17 _] [] [] [(1,_),(2,_),(15,_),(16,_),(17,_)] [] 32 ⟨aU fun _ _ H K => R.addN (i) (1) (eU K 17 rfl) (kI 1 rfl) bU H,mU 31 rfl rfl,trivial⟩ rfl rfl rfl rfl (tU rfl ?_)
       exact ⟨⟨(i + 1),⟨by omega,fun k hk => (Nat.lt_succ_iff_lt_or_eq.1 hk).elim (heq k) (fun e => by rw [e]; exact not_falseB hc30)⟩⟩,rfl,(by simp only []; omega)⟩
   · obtain rfl : i = a.length := by omega
     refine W.exit ?_
     refine W.seq ?_
     refine W.l0 1 [.y 6 _] [] [] [(6,_)] [] 32 ⟨aU fun _ _ H _ => R.asg (kB true rfl) rfl H,trivial⟩ rfl rfl rfl rfl (tU rfl ?_)
     refine W.ret ?_
     exact Ends.one' (.inr rfl) rfl (congrArg D.bool (eqL_t hlen heq).symm) rfl rfl trivial

theorem same_ok (t u : TxS) (hwf : t.wf) (huf : u.wf) : Fn Tryd.prog gl 26 [txD t,txD u] (.bool (sameS t u)) := by
 refine Fn.of (n := 35) Tryd.func26 rfl rfl rfl (nU rfl) fun C hC hD => ?_
 refine W.seq ?_
 refine W.l0 3 [] [] [] [(0,_),(1,_)] [] 35 trivial rfl rfl rfl rfl (⟨rfl,_,R.box (gV 0 rfl) rfl rfl (nU rfl),⟨rfl,_,R.box (gV 1 rfl) rfl rfl (nU rfl),⟨rfl,_,R.asg (kB false rfl) rfl (nU rfl),tV [(2,_),(3,_)] [(3,.var _),(2,.var _)] 35 rfl rfl rfl ?_⟩⟩⟩)
 refine W.seq ?_
 refine W.l0 1 [.y 5 _] [] [] [(2,_),(3,_),(5,_)] [(3,.var _),(2,.var _)] 35 ⟨aU fun _ _ H _ => R.asg rfl rfl H,trivial⟩ rfl rfl rfl rfl (tU rfl ?_)
 refine W.seq ?_
 refine W.l0 1 [.y 6 _] [] [] [(2,_),(3,_),(5,_),(6,_)] [(3,.var _),(2,.var _)] 35 ⟨aU fun _ _ H _ => R.asg rfl rfl H,trivial⟩ rfl rfl rfl rfl (tU rfl ?_)
 refine W.seq ?_
 by_cases h1 : t.ver = u.ver
 · by_cases h2 : t.lock = u.lock
   · by_cases h3 : eqL eqIn t.ins u.ins = true
     · refine W.l0 29 (.y 7 _ :: .y 8 _ :: .y 9 _ :: .y 10 _ :: .y 11 _ :: .y 12 _ :: .y 13 _ :: .y 14 _ :: .y 15 _ :: .y 16 _ :: .y 17 _ :: .y 18 _ :: .y 19 _ :: .y 20 _ :: .y 21 _ :: .y 22 _ :: .y 23 _ :: .y 24 _ :: .y 25 _ :: .y 26 _ :: .y 27 _ :: .y 28 _ :: .y 29 _ :: .y 30 _ :: .y 31 _ :: .y 32 _ :: .y 33 _ :: .y 34 _ :: .y 4 _ :: []) [] [] [(4,_)] [(3,.var _),(2,.var _)] 35 ⟨aU (fU 2 rfl rfl),aU (lU 7 rfl rfl rfl rfl rfl rfl rfl),aU (fU 3 rfl rfl),aU (lU 9 rfl rfl rfl rfl rfl rfl rfl),aU fun _ _ H K => R.bin (eU K 8 rfl) (eU K 10 rfl) rfl trivial H,mU 11 rfl rfl,aW rfl rfl (gT (by simp [h1]) rfl) (fU 2 rfl rfl),aW rfl rfl (gT (by simp [h1]) rfl) (lU 13 rfl rfl rfl rfl rfl rfl rfl),aW rfl rfl (gT (by simp [h1]) rfl) (fU 3 rfl rfl),aW rfl rfl (gT (by simp [h1]) rfl) (lU 15 rfl rfl rfl rfl rfl rfl rfl),aW rfl rfl (gT (by simp [h1]) rfl) fun _ _ H K => R.bin (eU K 14 rfl) (eU K 16 rfl) rfl trivial H,aU fun _ _ H K => R.pickT (eU K 12 rfl) (by simp [h1]) (eU K 17 rfl) rfl H,mU 18 rfl rfl,aW rfl rfl (gT (by simp [h2]) rfl) (fU 2 rfl rfl),aW rfl rfl (gT (by simp [h2]) rfl) (lU 20 rfl rfl rfl rfl rfl rfl rfl),aW rfl rfl (gT (by simp [h2]) rfl) (fU 3 rfl rfl),aW rfl rfl (gT (by simp [h2]) rfl) (lU 22 rfl rfl rfl rfl rfl rfl rfl),aW rfl rfl (gT (by simp [h2]) rfl) fun _ _ H K => R.mov (eU K 5 rfl) rfl H,aW rfl rfl (gT (by simp [h2]) rfl) fun _ _ H K => R.callG hC (eqfI_ok t.ins u.ins hwf.ins huf.ins (fun x h => (hwf.witl x h).1) (fun x h => (huf.witl x h).1)) (Bors.cons (Bor.pur (eU K 21 rfl) rfl rfl) (Bors.cons (Bor.pur (eU K 23 rfl) rfl rfl) (Bors.cons (Bor.pur (eU K 24 rfl) rfl rfl) Bors.nil))) (FrsR.one (.bool _)) H,aU fun _ _ H K => R.pickT (eU K 19 rfl) (by simp [h2]) (eU K 25 rfl) rfl H,mU 26 rfl rfl,aW rfl rfl (gT (h3) rfl) (fU 2 rfl rfl),aW rfl rfl (gT (h3) rfl) (lU 28 rfl rfl rfl rfl rfl rfl rfl),aW rfl rfl (gT (h3) rfl) (fU 3 rfl rfl),aW rfl rfl (gT (h3) rfl) (lU 30 rfl rfl rfl rfl rfl rfl rfl),aW rfl rfl (gT (h3) rfl) fun _ _ H K => R.mov (eU K 6 rfl) rfl H,aW rfl rfl (gT (h3) rfl) fun _ _ H K => R.callG hC (eqfO_ok t.outs u.outs hwf.outs huf.outs) (Bors.cons (Bor.pur (eU K 29 rfl) rfl rfl) (Bors.cons (Bor.pur (eU K 31 rfl) rfl rfl) (Bors.cons (Bor.pur (eU K 32 rfl) rfl rfl) Bors.nil))) (FrsR.one (.bool _)) H,aU fun _ _ H K => R.pickT (eU K 27 rfl) (h3) (eU K 33 rfl) rfl H,aU fun _ _ H K => R.asg (eU K 34 rfl) rfl H,trivial⟩ rfl rfl rfl rfl (tU rfl ?_)
       refine W.ret ?_
       exact Ends.one' (.inr rfl) rfl (by simp [sameS,h1,h2,h3]) rfl rfl trivial
     · refine W.l0 29 (.y 7 _ :: .y 8 _ :: .y 9 _ :: .y 10 _ :: .y 11 _ :: .y 12 _ :: .y 13 _ :: .y 14 _ :: .y 15 _ :: .y 16 _ :: .y 17 _ :: .y 18 _ :: .y 19 _ :: .y 20 _ :: .y 21 _ :: .y 22 _ :: .y 23 _ :: .y 24 _ :: .y 25 _ :: .y 26 _ :: .y 27 _ :: .x 28 :: .x 29 :: .x 30 :: .x 31 :: .x 32 :: .x 33 :: .y 34 _ :: .y 4 _ :: []) [] [] [(4,_)] [(3,.var _),(2,.var _)] 35 ⟨aU (fU 2 rfl rfl),aU (lU 7 rfl rfl rfl rfl rfl rfl rfl),aU (fU 3 rfl rfl),aU (lU 9 rfl rfl rfl rfl rfl rfl rfl),aU fun _ _ H K => R.bin (eU K 8 rfl) (eU K 10 rfl) rfl trivial H,mU 11 rfl rfl,aW rfl rfl (gT (by simp [h1]) rfl) (fU 2 rfl rfl),aW rfl rfl (gT (by simp [h1]) rfl) (lU 13 rfl rfl rfl rfl rfl rfl rfl),aW rfl rfl (gT (by simp [h1]) rfl) (fU 3 rfl rfl),aW rfl rfl (gT (by simp [h1]) rfl) (lU 15 rfl rfl rfl rfl rfl rfl rfl),aW rfl rfl (gT (by simp [h1]) rfl) fun _ _ H K => R.bin (eU K 14 rfl) (eU K 16 rfl) rfl trivial H,aU fun _ _ H K => R.pickT (eU K 12 rfl) (by simp [h1]) (eU K 17 rfl) rfl H,mU 18 rfl rfl,aW rfl rfl (gT (by simp [h2]) rfl) (fU 2 rfl rfl),aW rfl rfl (gT (by simp [h2]) rfl) (lU 20 rfl rfl rfl rfl rfl rfl rfl),aW rfl rfl (gT (by simp [h2]) rfl) (fU 3 rfl rfl),aW rfl rfl (gT (by simp [h2]) rfl) (lU 22 rfl rfl rfl rfl rfl rfl rfl),aW rfl rfl (gT (by simp [h2]) rfl) fun _ _ H K => R.mov (eU K 5 rfl) rfl H,aW rfl rfl (gT (by simp [h2]) rfl) fun _ _ H K => R.callG hC (eqfI_ok t.ins u.ins hwf.ins huf.ins (fun x h => (hwf.witl x h).1) (fun x h => (huf.witl x h).1)) (Bors.cons (Bor.pur (eU K 21 rfl) rfl rfl) (Bors.cons (Bor.pur (eU K 23 rfl) rfl rfl) (Bors.cons (Bor.pur (eU K 24 rfl) rfl rfl) Bors.nil))) (FrsR.one (.bool _)) H,aU fun _ _ H K => R.pickT (eU K 19 rfl) (by simp [h2]) (eU K 25 rfl) rfl H,mU 26 rfl rfl,aF rfl rfl (gF (Bool.eq_false_iff.2 h3) rfl),aF rfl rfl (gF (Bool.eq_false_iff.2 h3) rfl),aF rfl rfl (gF (Bool.eq_false_iff.2 h3) rfl),aF rfl rfl (gF (Bool.eq_false_iff.2 h3) rfl),aF rfl rfl (gF (Bool.eq_false_iff.2 h3) rfl),aF rfl rfl (gF (Bool.eq_false_iff.2 h3) rfl),aU fun _ _ H K => R.pickF (eU K 27 rfl) (Bool.eq_false_iff.2 h3) (kB false rfl) rfl H,aU fun _ _ H K => R.asg (eU K 34 rfl) rfl H,trivial⟩ rfl rfl rfl rfl (tU rfl ?_)
       refine W.ret ?_
       exact Ends.one' (.inr rfl) rfl (by simp [sameS,h1,h2,h3]) rfl rfl trivial
   · refine W.l0 29 (.y 7 _ :: .y 8 _ :: .y 9 _ :: .y 10 _ :: .y 11 _ :: .y 12 _ :: .y 13 _ :: .y 14 _ :: .y 15 _ :: .y 16 _ :: .y 17 _ :: .y 18 _ :: .y 19 _ :: .x 20 :: .x 21 :: .x 22 :: .x 23 :: .x 24 :: .x 25 :: .y 26 _ :: .y 27 _ :: .x 28 :: .x 29 :: .x 30 :: .x 31 :: .x 32 :: .x 33 :: .y 34 _ :: .y 4 _ :: []) [] [] [(4,_)] [(3,.var _),(2,.var _)] 35 ⟨aU (fU 2 rfl rfl),aU (lU 7 rfl rfl rfl rfl rfl rfl rfl),aU (fU 3 rfl rfl),aU (lU 9 rfl rfl rfl rfl rfl rfl rfl),aU fun _ _ H K => R.bin (eU K 8 rfl) (eU K 10 rfl) rfl trivial H,mU 11 rfl rfl,aW rfl rfl (gT (by simp [h1]) rfl) (fU 2 rfl rfl),aW rfl rfl (gT (by simp [h1]) rfl) (lU 13 rfl rfl rfl rfl rfl rfl rfl),aW rfl rfl (gT (by simp [h1]) rfl) (fU 3 rfl rfl),aW rfl rfl (gT (by simp [h1]) rfl) (lU 15 rfl rfl rfl rfl rfl rfl rfl),aW rfl rfl (gT (by simp [h1]) rfl) fun _ _ H K => R.bin (eU K 14 rfl) (eU K 16 rfl) rfl trivial H,aU fun _ _ H K => R.pickT (eU K 12 rfl) (by simp [h1]) (eU K 17 rfl) rfl H,mU 18 rfl rfl,aF rfl rfl (gF (by simp [h2]) rfl),aF rfl rfl (gF (by simp [h2]) rfl),aF rfl rfl (gF (by simp [h2]) rfl),aF rfl rfl (gF (by simp [h2]) rfl),aF rfl rfl (gF (by simp [h2]) rfl),aF rfl rfl (gF (by simp [h2]) rfl),aU fun _ _ H K => R.pickF (eU K 19 rfl) (by simp [h2]) (kB false rfl) rfl H,mU 26 rfl rfl,aF rfl rfl (gF (rfl) rfl),aF rfl rfl (gF (rfl) rfl),aF rfl rfl (gF (rfl) rfl),aF rfl rfl (gF (rfl) rfl),aF rfl rfl (gF (rfl) rfl),aF rfl rfl (gF (rfl) rfl),aU fun _ _ H K => R.pickF (eU K 27 rfl) (rfl) (kB false rfl) rfl H,aU fun _ _ H K => R.asg (eU K 34 rfl) rfl H,trivial⟩ rfl rfl rfl rfl (tU rfl ?_)
     refine W.ret ?_
     exact Ends.one' (.inr rfl) rfl (by simp [sameS,h1,h2]) rfl rfl trivial
 · refine W.l0 29 (.y 7 _ :: .y 8 _ :: .y 9 _ :: .y 10 _ :: .y 11 _ :: .y 12 _ :: .x 13 :: .x 14 :: .x 15 :: .x 16 :: .x 17 :: .y 18 _ :: .y 19 _ :: .x 20 :: .x 21 :: .x 22 :: .x 23 :: .x 24 :: .x 25 :: .y 26 _ :: .y 27 _ :: .x 28 :: .x 29 :: .x 30 :: .x 31 :: .x 32 :: .x 33 :: .y 34 _ :: .y 4 _ :: []) [] [] [(4,_)] [(3,.var _),(2,.var _)] 35 ⟨aU (fU 2 rfl rfl),aU (lU 7 rfl rfl rfl rfl rfl rfl rfl),aU (fU 3 rfl rfl),aU (lU 9 rfl rfl rfl rfl rfl rfl rfl),aU fun _ _ H K => R.bin (eU K 8 rfl) (eU K 10 rfl) rfl trivial H,mU 11 rfl rfl,aF rfl rfl (gF (by simp [h1]) rfl),aF rfl rfl (gF (by simp [h1]) rfl),aF rfl rfl (gF (by simp [h1]) rfl),aF rfl rfl (gF (by simp [h1]) rfl),aF rfl rfl (gF (by simp [h1]) rfl),aU fun _ _ H K => R.pickF (eU K 12 rfl) (by simp [h1]) (kB false rfl) rfl H,mU 18 rfl rfl,aF rfl rfl (gF (rfl) rfl),aF rfl rfl (gF (rfl) rfl),aF rfl rfl (gF (rfl) rfl),aF rfl rfl (gF (rfl) rfl),aF rfl rfl (gF (rfl) rfl),aF rfl rfl (gF (rfl) rfl),aU fun _ _ H K => R.pickF (eU K 19 rfl) (rfl) (kB false rfl) rfl H,mU 26 rfl rfl,aF rfl rfl (gF (rfl) rfl),aF rfl rfl (gF (rfl) rfl),aF rfl rfl (gF (rfl) rfl),aF rfl rfl (gF (rfl) rfl),aF rfl rfl (gF (rfl) rfl),aF rfl rfl (gF (rfl) rfl),aU fun _ _ H K => R.pickF (eU K 27 rfl) (rfl) (kB false rfl) rfl H,aU fun _ _ H K => R.asg (eU K 34 rfl) rfl H,trivial⟩ rfl rfl rfl rfl (tU rfl ?_)
   refine W.ret ?_
   exact Ends.one' (.inr rfl) rfl (by simp [sameS,h1]) rfl rfl trivial

end Go.Sx

namespace Go.Sx
open Go.Proofs
end Go.Sx

namespace Go.Sx
open Go.Proofs
section
variable {b r r2 : List UInt8} {bad e e2 : Bool} {x y : UInt64}
end
end Go.Sx

namespace Go.Sx
open Go.Proofs
end Go.Sx

namespace Go.Sx
open Go.Proofs
end Go.Sx

namespace Go.Sx
open Go.Proofs
def hvW (n : Nat) : List (List UInt8) → Nat
 | [] => n
 | x :: r => if n ≤ 32768 then hvW (n + 1 + x.length) r else n
def hvI (n : Nat) : List InS → Nat
 | [] => n
 | x :: r => if n ≤ 32768 then hvI (hvW (n + 41 + x.script.length) x.wit) r else n
def hvO (n : Nat) : List OutS → Nat
 | [] => n
 | x :: r => if n ≤ 32768 then hvO (n + 9 + x.script.length) r else n
def heavyS (t : TxS) : Bool := decide (32768 < hvO (hvI 0 t.ins) t.outs)
theorem hvW_big {n : Nat} {l : List (List UInt8)} (h : ¬ n ≤ 32768) : hvW n l = n := by cases l <;> simp [hvW,h]
theorem hvI_big {n : Nat} {l : List InS} (h : ¬ n ≤ 32768) : hvI n l = n := by cases l <;> simp [hvI,h]
theorem hvO_big {n : Nat} {l : List OutS} (h : ¬ n ≤ 32768) : hvO n l = n := by cases l <;> simp [hvO,h]
theorem hvW_step {n i : Nat} {l : List (List UInt8)} (hi : i < l.length) (h : n ≤ 32768) : hvW (n + 1 + l[i]!.length) (l.drop (i + 1)) = hvW n (l.drop i) := by
 rw [List.drop_eq_getElem_cons hi,getElem!_pos l i hi]; simp only [hvW,if_pos h]
theorem hvI_step {n i : Nat} {l : List InS} (hi : i < l.length) (h : n ≤ 32768) : hvI (hvW (n + 41 + l[i]!.script.length) l[i]!.wit) (l.drop (i + 1)) = hvI n (l.drop i) := by
 rw [List.drop_eq_getElem_cons hi,getElem!_pos l i hi]; simp only [hvI,if_pos h]
theorem hvO_step {n i : Nat} {l : List OutS} (hi : i < l.length) (h : n ≤ 32768) : hvO (n + 9 + l[i]!.script.length) (l.drop (i + 1)) = hvO n (l.drop i) := by
 rw [List.drop_eq_getElem_cons hi,getElem!_pos l i hi]; simp only [hvO,if_pos h]
theorem hvW_end {n i : Nat} {l : List (List UInt8)} (h : ¬ i < l.length ∨ ¬ n ≤ 32768) : hvW n (l.drop i) = n := by
 rcases h with h | h
 · rw [List.drop_eq_nil_of_le (by omega)]; rfl
 · exact hvW_big h
theorem hvI_end {n i : Nat} {l : List InS} (h : ¬ i < l.length ∨ ¬ n ≤ 32768) : hvI n (l.drop i) = n := by
 rcases h with h | h
 · rw [List.drop_eq_nil_of_le (by omega)]; rfl
 · exact hvI_big h
theorem hvO_end {n i : Nat} {l : List OutS} (h : ¬ i < l.length ∨ ¬ n ≤ 32768) : hvO n (l.drop i) = n := by
 rcases h with h | h
 · rw [List.drop_eq_nil_of_le (by omega)]; rfl
 · exact hvO_big h
structure TxS.bd (t : TxS) : Prop where
 ins : t.ins.length ≤ 140737488355328
 outs : t.outs.length ≤ 140737488355328
 scr : ∀ x ∈ t.ins,x.script.length ≤ 140737488355328
 wit : ∀ x ∈ t.ins,x.wit.length ≤ 140737488355328
 witi : ∀ x ∈ t.ins,∀ b ∈ x.wit,b.length ≤ 140737488355328
 oscr : ∀ x ∈ t.outs,x.script.length ≤ 140737488355328
end Go.Sx

namespace Go.Sx
open Go.Proofs
theorem heavy_ok (t : TxS) (hbd : t.bd) : Fn Tryd.prog gl 11 [txD t] (.bool (heavyS t)) := by
 refine Fn.of (n := 79) Tryd.func11 rfl rfl rfl (nU rfl) fun C hC hD => ?_
 have g1 := hbd.ins
 have g2 := hbd.outs
 refine W.seq ?_
 refine W.l0 2 [] [] [] [(0,_)] [] 79 trivial rfl rfl rfl rfl (⟨rfl,_,R.box (gV 0 rfl) rfl rfl (nU rfl),⟨rfl,_,R.asg (kB false rfl) rfl (nU rfl),tV [(1,_)] [(1,.var _)] 79 rfl rfl rfl ?_⟩⟩)
 refine W.seq ?_
 refine W.l0 1 [.y 3 _] [] [] [(1,_),(3,_)] [(1,.var _)] 79 ⟨aU fun _ _ H _ => R.asg (kI 0 rfl) rfl H,trivial⟩ rfl rfl rfl rfl (tU rfl ?_)
 refine W.seq ?_
 refine W.seq ?_
 refine W.l0 1 [.y 4 _] [] [] [(1,_),(3,_),(4,_)] [(1,.var _)] 79 ⟨aU fun _ _ H _ => R.asg (kI 0 rfl) rfl H,trivial⟩ rfl rfl rfl rfl (tU rfl ?_)
 refine W.block ?_
 refine W.loop (α := {q__ : Nat × Nat // q__.1 ≤ t.ins.length ∧ q__.2 ≤ 300000000000000 ∧ hvI q__.2 (t.ins.drop q__.1) = hvI 0 t.ins}) (fun q__ => ⟨79,[(1,.ptr 1 0 []),(3,.int ((q__.1.2 : Nat) : Int)),(4,.int ((q__.1.1 : Nat) : Int))],[(1,.var (.agg [.u32 t.ver,.sl none 36 (t.ins.map inD),.sl none 2 (t.outs.map outD),.u32 t.lock]))]⟩) (fun q__ => t.ins.length - q__.1.1) ⟨(0,0),⟨Nat.zero_le _,Nat.zero_le _,rfl⟩⟩ rfl ?_
 rintro ⟨⟨i,n⟩,⟨hi,hm,hv⟩⟩
 show W _ _ _ _ ⟨79,[(1,.ptr 1 0 []),(3,.int ((n : Nat) : Int)),(4,.int ((i : Nat) : Int))],[(1,.var (.agg [.u32 t.ver,.sl none 36 (t.ins.map inD),.sl none 2 (t.outs.map outD),.u32 t.lock]))]⟩
 have hi : i ≤ t.ins.length := hi
 have hm : n ≤ 300000000000000 := hm
 have hv : hvI n (t.ins.drop i) = hvI 0 t.ins := hv
 have hx : i < t.ins.length → t.ins[i]!.script.length ≤ 140737488355328 ∧ t.ins[i]!.wit.length ≤ 140737488355328 := fun h => ⟨hbd.scr _ (get_mem h),hbd.wit _ (get_mem h)⟩
 have hxw : i < t.ins.length → ∀ j < t.ins[i]!.wit.length,t.ins[i]!.wit[j]!.length ≤ 140737488355328 := fun h j hj => hbd.witi _ (get_mem h) _ (get_mem hj)
 refine W.seq ?_
 refine W.seq ?_
 by_cases h1 : i < t.ins.length
 · refine W.l0 9 [.y 7 _,.y 8 _,.y 9 _,.y 10 _,.y 11 _,.y 12 _,.y 13 _,.y 14 _,.y 15 _] [] [] [(1,_),(3,_),(4,_),(15,_)] [(1,.var _)] 79 ⟨mU 4 rfl rfl,aU (fU 1 rfl rfl),aU (lU 8 rfl rfl rfl rfl rfl rfl rfl),aU fun _ _ H K => R.lenE (SC.sl (K 9 _ rfl)) (List.length_map _) H,aU fun _ _ H K => R.lssN (i) (t.ins.length) (eU K 7 rfl) (eU K 10 rfl) H,mU 11 rfl rfl,aW rfl rfl (gT (decide_eq_true h1) rfl) fun _ _ H K => R.mov (eU K 3 rfl) rfl H,aW rfl rfl (gT (decide_eq_true h1) rfl) fun _ _ H K => R.leqN (n) (32768) (eU K 13 rfl) (kI 32768 rfl) H,aU fun _ _ H K => R.pickT (eU K 12 rfl) (decide_eq_true h1) (eU K 14 rfl) rfl H,trivial⟩ rfl rfl rfl rfl (tU rfl ?_)
   refine W.condD rfl (fun hc15 => ?_) (fun hc15 => ?_)
   · refine W.skip ?_
     refine W.seq ?_
     refine W.block ?_
     refine W.seq ?_
     refine W.l0 11 [.y 18 _,.y 19 _,.y 20 _,.y 21 _,.y 22 _,.y 23 _,.y 24 _,.y 25 _,.y 26 _,.y 27 _,.y 3 _] [] [] [(1,_),(3,_),(4,_)] [(1,.var _)] 79 ⟨mU 3 rfl rfl,aU fun _ _ H K => R.addN (n) (41) (eU K 18 rfl) (kI 41 rfl) bU H,aU (fU 1 rfl rfl),aU (lU 20 rfl rfl rfl rfl rfl rfl rfl),mU 4 rfl rfl,aU fun _ _ H K => R.idxN (i) (SC.sl (K 21 _ rfl)) (evoI (eU K 22 rfl)) rfl bU H (by decide),aU fun _ _ H K => R.fdE (K 23 _ rfl) H (by decide),aU fun _ _ H K => R.ldE (K 24 _ rfl) (SC.sl (K 21 _ rfl)) (map_get! (l := t.ins) bU) rfl rfl rfl rfl H,aU fun _ _ H K => R.lenE (SC.sl (K 25 _ rfl)) (List.length_map _) H,aU fun _ _ H K => R.addN ((n + 41)) (t.ins[i]!.script.length) (eU K 19 rfl) (eU K 26 rfl) bU H,aU fun _ _ H K => R.asg (eU K 27 rfl) rfl H,trivial⟩ rfl rfl rfl rfl (tU rfl ?_)
     refine W.seq ?_
     refine W.l0 1 [.y 5 _] [] [] [(1,_),(3,_),(4,_),(5,_)] [(1,.var _)] 79 ⟨aU fun _ _ H _ => R.asg (kI 0 rfl) rfl H,trivial⟩ rfl rfl rfl rfl (tU rfl ?_)
     refine W.block ?_
     refine W.loop (α := {q__ : Nat × Nat // q__.1 ≤ t.ins[i]!.wit.length ∧ q__.2 ≤ 300000000000000 ∧ hvW q__.2 (t.ins[i]!.wit.drop q__.1) = hvW (n + 41 + t.ins[i]!.script.length) t.ins[i]!.wit}) (fun q__ => ⟨79,[(1,.ptr 1 0 []),(3,.int ((q__.1.2 : Nat) : Int)),(4,.int ((i : Nat) : Int)),(5,.int ((q__.1.1 : Nat) : Int))],[(1,.var (.agg [.u32 t.ver,.sl none 36 (t.ins.map inD),.sl none 2 (t.outs.map outD),.u32 t.lock]))]⟩) (fun q__ => t.ins[i]!.wit.length - q__.1.1) ⟨(0,n + 41 + t.ins[i]!.script.length),⟨Nat.zero_le _,by omega,rfl⟩⟩ rfl ?_
     rintro ⟨⟨j,m⟩,⟨hj,hm1,hv1⟩⟩
     show W _ _ _ _ ⟨79,[(1,.ptr 1 0 []),(3,.int ((m : Nat) : Int)),(4,.int ((i : Nat) : Int)),(5,.int ((j : Nat) : Int))],[(1,.var (.agg [.u32 t.ver,.sl none 36 (t.ins.map inD),.sl none 2 (t.outs.map outD),.u32 t.lock]))]⟩
     have hj : j ≤ t.ins[i]!.wit.length := hj
     have hm1 : m ≤ 300000000000000 := hm1
     have hv1 : hvW m (t.ins[i]!.wit.drop j) = hvW (n + 41 + t.ins[i]!.script.length) t.ins[i]!.wit := hv1
     have hxj := hxw h1 j
     refine W.seq ?_
     refine W.seq ?_
     by_cases h2 : j < t.ins[i]!.wit.length
     · refine W.l0 13 [.y 28 _,.y 29 _,.y 30 _,.y 31 _,.y 32 _,.y 33 _,.y 34 _,.y 35 _,.y 36 _,.y 37 _,.y 38 _,.y 39 _,.y 40 _] [] [] [(1,_),(3,_),(4,_),(5,_),(40,_)] [(1,.var _)] 79 ⟨mU 5 rfl rfl,aU (fU 1 rfl rfl),aU (lU 29 rfl rfl rfl rfl rfl rfl rfl),mU 4 rfl rfl,aU fun _ _ H K => R.idxN (i) (SC.sl (K 30 _ rfl)) (evoI (eU K 31 rfl)) rfl bU H (by decide),aU fun _ _ H K => R.fdE (K 32 _ rfl) H (by decide),aU fun _ _ H K => R.ldE (K 33 _ rfl) (SC.sl (K 30 _ rfl)) (map_get! (l := t.ins) bU) rfl rfl rfl rfl H,aU fun _ _ H K => R.lenE (SC.sl (K 34 _ rfl)) (List.length_map _) H,aU fun _ _ H K => R.lssN (j) (t.ins[i]!.wit.length) (eU K 28 rfl) (eU K 35 rfl) H,mU 36 rfl rfl,aW rfl rfl (gT (decide_eq_true h2) rfl) fun _ _ H K => R.mov (eU K 3 rfl) rfl H,aW rfl rfl (gT (decide_eq_true h2) rfl) fun _ _ H K => R.leqN (m) (32768) (eU K 38 rfl) (kI 32768 rfl) H,aU fun _ _ H K => R.pickT (eU K 37 rfl) (decide_eq_true h2) (eU K 39 rfl) rfl H,trivial⟩ rfl rfl rfl rfl (tU rfl ?_)
       refine W.condD rfl (fun hc40 => ?_) (fun hc40 => ?_)
       · refine W.skip ?_
         refine W.seq ?_
         refine W.block ?_
         refine W.l0 14 [.y 43 _,.y 44 _,.y 45 _,.y 46 _,.y 47 _,.y 48 _,.y 49 _,.y 50 _,.y 51 _,.y 52 _,.y 53 _,.y 54 _,.y 55 _,.y 3 _] [] [] [(1,_),(3,_),(4,_),(5,_)] [(1,.var _)] 79 ⟨mU 3 rfl rfl,aU fun _ _ H K => R.addN (m) (1) (eU K 43 rfl) (kI 1 rfl) bU H,aU (fU 1 rfl rfl),aU (lU 45 rfl rfl rfl rfl rfl rfl rfl),mU 4 rfl rfl,aU fun _ _ H K => R.idxN (i) (SC.sl (K 46 _ rfl)) (evoI (eU K 47 rfl)) rfl bU H (by decide),aU fun _ _ H K => R.fdE (K 48 _ rfl) H (by decide),aU fun _ _ H K => R.ldE (K 49 _ rfl) (SC.sl (K 46 _ rfl)) (map_get! (l := t.ins) bU) rfl rfl rfl rfl H,mU 5 rfl rfl,aU fun _ _ H K => R.idxN (j) (SC.sl (K 50 _ rfl)) (evoI (eU K 51 rfl)) rfl bU H (by decide),aU fun _ _ H K => R.ldE (K 52 _ rfl) (SC.sl (K 50 _ rfl)) (map_get! (l := t.ins[i]!.wit) bU) rfl rfl rfl rfl H,aU fun _ _ H K => R.lenE (SC.sl (K 53 _ rfl)) (List.length_map _) H,aU fun _ _ H K => R.addN ((m + 1)) ((t.ins[i]!.wit)[j]!.length) (eU K 44 rfl) (eU K 54 rfl) bU H,aU fun _ _ H K => R.asg (eU K 55 rfl) rfl H,trivial⟩ rfl rfl rfl rfl (tU rfl ?_)
         refine W.l0 3 [.y 41 _,.y 42 _,.y 5 _] [] [] [(1,_),(3,_),(4,_),(5,_)] [(1,.var _)] 79 ⟨mU 5 rfl rfl,aU fun _ _ H K => R.addN (j) (1) (eU K 41 rfl) (kI 1 rfl) bU H,aU fun _ _ H K => R.asg (eU K 42 rfl) rfl H,trivial⟩ rfl rfl rfl rfl (tU rfl ?_)
         exact ⟨⟨(j + 1,m + 1 + t.ins[i]!.wit[j]!.length),⟨by omega,by have := hxj h2; omega,(hvW_step h2 hc40).trans hv1⟩⟩,rfl,(by simp only []; omega)⟩
       · have he1 : m = hvW (n + 41 + t.ins[i]!.script.length) t.ins[i]!.wit := by rw [← hv1]; exact (hvW_end (by first | exact .inl h2 | exact .inr hc40)).symm
         refine W.exit ?_
         refine W.l0 3 [.y 16 _,.y 17 _,.y 4 _] [] [] [(1,_),(3,_),(4,_)] [(1,.var _)] 79 ⟨mU 4 rfl rfl,aU fun _ _ H K => R.addN (i) (1) (eU K 16 rfl) (kI 1 rfl) bU H,aU fun _ _ H K => R.asg (eU K 17 rfl) rfl H,trivial⟩ rfl rfl rfl rfl (tU rfl ?_)
         exact ⟨⟨(i + 1,m),⟨by omega,hm1,by rw [he1]; exact (hvI_step h1 hc15).trans hv⟩⟩,rfl,(by simp only []; omega)⟩
     · refine W.l0 13 [.y 28 _,.y 29 _,.y 30 _,.y 31 _,.y 32 _,.y 33 _,.y 34 _,.y 35 _,.y 36 _,.y 37 _,.x 38,.x 39,.y 40 _] [] [] [(1,_),(3,_),(4,_),(5,_),(40,_)] [(1,.var _)] 79 ⟨mU 5 rfl rfl,aU (fU 1 rfl rfl),aU (lU 29 rfl rfl rfl rfl rfl rfl rfl),mU 4 rfl rfl,aU fun _ _ H K => R.idxN (i) (SC.sl (K 30 _ rfl)) (evoI (eU K 31 rfl)) rfl bU H (by decide),aU fun _ _ H K => R.fdE (K 32 _ rfl) H (by decide),aU fun _ _ H K => R.ldE (K 33 _ rfl) (SC.sl (K 30 _ rfl)) (map_get! (l := t.ins) bU) rfl rfl rfl rfl H,aU fun _ _ H K => R.lenE (SC.sl (K 34 _ rfl)) (List.length_map _) H,aU fun _ _ H K => R.lssN (j) (t.ins[i]!.wit.length) (eU K 28 rfl) (eU K 35 rfl) H,mU 36 rfl rfl,aF rfl rfl (gF (decide_eq_false h2) rfl),aF rfl rfl (gF (decide_eq_false h2) rfl),aU fun _ _ H K => R.pickF (eU K 37 rfl) (decide_eq_false h2) (kB false rfl) rfl H,trivial⟩ rfl rfl rfl rfl (tU rfl ?_)
       refine W.condF rfl (rfl) ?_
       have he1 : m = hvW (n + 41 + t.ins[i]!.script.length) t.ins[i]!.wit := by rw [← hv1]; exact (hvW_end (by first | exact .inl h2 | exact .inr hc40)).symm
       refine W.exit ?_
       refine W.l0 3 [.y 16 _,.y 17 _,.y 4 _] [] [] [(1,_),(3,_),(4,_)] [(1,.var _)] 79 ⟨mU 4 rfl rfl,aU fun _ _ H K => R.addN (i) (1) (eU K 16 rfl) (kI 1 rfl) bU H,aU fun _ _ H K => R.asg (eU K 17 rfl) rfl H,trivial⟩ rfl rfl rfl rfl (tU rfl ?_)
       exact ⟨⟨(i + 1,m),⟨by omega,hm1,by rw [he1]; exact (hvI_step h1 hc15).trans hv⟩⟩,rfl,(by simp only []; omega)⟩
   · have he : n = hvI 0 t.ins := by rw [← hv]; exact (hvI_end (by first | exact .inl h1 | exact .inr hc15)).symm
     refine W.exit ?_
     refine W.seq ?_
     refine W.seq ?_
     refine W.l0 1 [.y 6 _] [] [] [(1,_),(3,_),(6,_)] [(1,.var _)] 79 ⟨aU fun _ _ H _ => R.asg (kI 0 rfl) rfl H,trivial⟩ rfl rfl rfl rfl (tU rfl ?_)
     refine W.block ?_
     refine W.loop (α := {q__ : Nat × Nat // q__.1 ≤ t.outs.length ∧ q__.2 ≤ 300000000000000 ∧ hvO q__.2 (t.outs.drop q__.1) = hvO (hvI 0 t.ins) t.outs}) (fun q__ => ⟨79,[(1,.ptr 1 0 []),(3,.int ((q__.1.2 : Nat) : Int)),(6,.int ((q__.1.1 : Nat) : Int))],[(1,.var (.agg [.u32 t.ver,.sl none 36 (t.ins.map inD),.sl none 2 (t.outs.map outD),.u32 t.lock]))]⟩) (fun q__ => t.outs.length - q__.1.1) ⟨(0,n),⟨Nat.zero_le _,hm,by rw [he]; rfl⟩⟩ rfl ?_
     rintro ⟨⟨i,m⟩,⟨hi2,hm2,hv2⟩⟩
     show W _ _ _ _ ⟨79,[(1,.ptr 1 0 []),(3,.int ((m : Nat) : Int)),(6,.int ((i : Nat) : Int))],[(1,.var (.agg [.u32 t.ver,.sl none 36 (t.ins.map inD),.sl none 2 (t.outs.map outD),.u32 t.lock]))]⟩
     have hi2 : i ≤ t.outs.length := hi2
     have hm2 : m ≤ 300000000000000 := hm2
     have hv2 : hvO m (t.outs.drop i) = hvO (hvI 0 t.ins) t.outs := hv2
     have hx : i < t.outs.length → t.outs[i]!.script.length ≤ 140737488355328 := fun h => hbd.oscr _ (get_mem h)
     refine W.seq ?_
     refine W.seq ?_
     by_cases h3 : i < t.outs.length
     · refine W.l0 9 [.y 56 _,.y 57 _,.y 58 _,.y 59 _,.y 60 _,.y 61 _,.y 62 _,.y 63 _,.y 64 _] [] [] [(1,_),(3,_),(6,_),(64,_)] [(1,.var _)] 79 ⟨mU 6 rfl rfl,aU (fU 1 rfl rfl),aU (lU 57 rfl rfl rfl rfl rfl rfl rfl),aU fun _ _ H K => R.lenE (SC.sl (K 58 _ rfl)) (List.length_map _) H,aU fun _ _ H K => R.lssN (i) (t.outs.length) (eU K 56 rfl) (eU K 59 rfl) H,mU 60 rfl rfl,aW rfl rfl (gT (decide_eq_true h3) rfl) fun _ _ H K => R.mov (eU K 3 rfl) rfl H,aW rfl rfl (gT (decide_eq_true h3) rfl) fun _ _ H K => R.leqN (m) (32768) (eU K 62 rfl) (kI 32768 rfl) H,aU fun _ _ H K => R.pickT (eU K 61 rfl) (decide_eq_true h3) (eU K 63 rfl) rfl H,trivial⟩ rfl rfl rfl rfl (tU rfl ?_)
       refine W.condD rfl (fun hc64 => ?_) (fun hc64 => ?_)
       · refine W.skip ?_
         refine W.seq ?_
         refine W.block ?_
         refine W.l0 11 [.y 67 _,.y 68 _,.y 69 _,.y 70 _,.y 71 _,.y 72 _,.y 73 _,.y 74 _,.y 75 _,.y 76 _,.y 3 _] [] [] [(1,_),(3,_),(6,_)] [(1,.var _)] 79 ⟨mU 3 rfl rfl,aU fun _ _ H K => R.addN (m) (9) (eU K 67 rfl) (kI 9 rfl) bU H,aU (fU 1 rfl rfl),aU (lU 69 rfl rfl rfl rfl rfl rfl rfl),mU 6 rfl rfl,aU fun _ _ H K => R.idxN (i) (SC.sl (K 70 _ rfl)) (evoI (eU K 71 rfl)) rfl bU H (by decide),aU fun _ _ H K => R.fdE (K 72 _ rfl) H (by decide),aU fun _ _ H K => R.ldE (K 73 _ rfl) (SC.sl (K 70 _ rfl)) (map_get! (l := t.outs) bU) rfl rfl rfl rfl H,aU fun _ _ H K => R.lenE (SC.sl (K 74 _ rfl)) (List.length_map _) H,aU fun _ _ H K => R.addN ((m + 9)) (t.outs[i]!.script.length) (eU K 68 rfl) (eU K 75 rfl) bU H,aU fun _ _ H K => R.asg (eU K 76 rfl) rfl H,trivial⟩ rfl rfl rfl rfl (tU rfl ?_)
         refine W.l0 3 [.y 65 _,.y 66 _,.y 6 _] [] [] [(1,_),(3,_),(6,_)] [(1,.var _)] 79 ⟨mU 6 rfl rfl,aU fun _ _ H K => R.addN (i) (1) (eU K 65 rfl) (kI 1 rfl) bU H,aU fun _ _ H K => R.asg (eU K 66 rfl) rfl H,trivial⟩ rfl rfl rfl rfl (tU rfl ?_)
         exact ⟨⟨(i + 1,m + 9 + t.outs[i]!.script.length),⟨by omega,by omega,(hvO_step h3 hc64).trans hv2⟩⟩,rfl,(by simp only []; omega)⟩
       · have he2 : m = hvO (hvI 0 t.ins) t.outs := by rw [← hv2]; exact (hvO_end (by first | exact .inl h3 | exact .inr hc64)).symm
         refine W.exit ?_
         refine W.seq ?_
         refine W.l0 3 [.y 77 _,.y 78 _,.y 2 _] [] [] [(2,_)] [(1,.var _)] 79 ⟨mU 3 rfl rfl,aU fun _ _ H K => R.gtrN (m) (32768) (eU K 77 rfl) (kI 32768 rfl) H,aU fun _ _ H K => R.asg (eU K 78 rfl) rfl H,trivial⟩ rfl rfl rfl rfl (tU rfl ?_)
         refine W.ret ?_
         exact Ends.one' (.inr rfl) rfl (by rw [heavyS,← he2]) rfl rfl trivial
     · refine W.l0 9 [.y 56 _,.y 57 _,.y 58 _,.y 59 _,.y 60 _,.y 61 _,.x 62,.x 63,.y 64 _] [] [] [(1,_),(3,_),(6,_),(64,_)] [(1,.var _)] 79 ⟨mU 6 rfl rfl,aU (fU 1 rfl rfl),aU (lU 57 rfl rfl rfl rfl rfl rfl rfl),aU fun _ _ H K => R.lenE (SC.sl (K 58 _ rfl)) (List.length_map _) H,aU fun _ _ H K => R.lssN (i) (t.outs.length) (eU K 56 rfl) (eU K 59 rfl) H,mU 60 rfl rfl,aF rfl rfl (gF (decide_eq_false h3) rfl),aF rfl rfl (gF (decide_eq_false h3) rfl),aU fun _ _ H K => R.pickF (eU K 61 rfl) (decide_eq_false h3) (kB false rfl) rfl H,trivial⟩ rfl rfl rfl rfl (tU rfl ?_)
       refine W.condF rfl (rfl) ?_
       have he2 : m = hvO (hvI 0 t.ins) t.outs := by rw [← hv2]; exact (hvO_end (by first | exact .inl h3 | exact .inr hc64)).symm
       refine W.exit ?_
       refine W.seq ?_
       refine W.l0 3 [.y 77 _,.y 78 _,.y 2 _] [] [] [(2,_)] [(1,.var _)] 79 ⟨mU 3 rfl rfl,aU fun _ _ H K => R.gtrN (m) (32768) (eU K 77 rfl) (kI 32768 rfl) H,aU fun _ _ H K => R.asg (eU K 78 rfl) rfl H,trivial⟩ rfl rfl rfl rfl (tU rfl ?_)
       refine W.ret ?_
       exact Ends.one' (.inr rfl) rfl (by rw [heavyS,← he2]) rfl rfl trivial
 · refine W.l0 9 [.y 7 _,.y 8 _,.y 9 _,.y 10 _,.y 11 _,.y 12 _,.x 13,.x 14,.y 15 _] [] [] [(1,_),(3,_),(4,_),(15,_)] [(1,.var _)] 79 ⟨mU 4 rfl rfl,aU (fU 1 rfl rfl),aU (lU 8 rfl rfl rfl rfl rfl rfl rfl),aU fun _ _ H K => R.lenE (SC.sl (K 9 _ rfl)) (List.length_map _) H,aU fun _ _ H K => R.lssN (i) (t.ins.length) (eU K 7 rfl) (eU K 10 rfl) H,mU 11 rfl rfl,aF rfl rfl (gF (decide_eq_false h1) rfl),aF rfl rfl (gF (decide_eq_false h1) rfl),aU fun _ _ H K => R.pickF (eU K 12 rfl) (decide_eq_false h1) (kB false rfl) rfl H,trivial⟩ rfl rfl rfl rfl (tU rfl ?_)
   refine W.condF rfl (rfl) ?_
   have he : n = hvI 0 t.ins := by rw [← hv]; exact (hvI_end (by first | exact .inl h1 | exact .inr hc15)).symm
   refine W.exit ?_
   refine W.seq ?_
   refine W.seq ?_
   refine W.l0 1 [.y 6 _] [] [] [(1,_),(3,_),(6,_)] [(1,.var _)] 79 ⟨aU fun _ _ H _ => R.asg (kI 0 rfl) rfl H,trivial⟩ rfl rfl rfl rfl (tU rfl ?_)
   refine W.block ?_
   refine W.loop (α := {q__ : Nat × Nat // q__.1 ≤ t.outs.length ∧ q__.2 ≤ 300000000000000 ∧ hvO q__.2 (t.outs.drop q__.1) = hvO (hvI 0 t.ins) t.outs}) (fun q__ => ⟨79,[(1,.ptr 1 0 []),(3,.int ((q__.1.2 : Nat) : Int)),(6,.int ((q__.1.1 : Nat) : Int))],[(1,.var (.agg [.u32 t.ver,.sl none 36 (t.ins.map inD),.sl none 2 (t.outs.map outD),.u32 t.lock]))]⟩) (fun q__ => t.outs.length - q__.1.1) ⟨(0,n),⟨Nat.zero_le _,hm,by rw [he]; rfl⟩⟩ rfl ?_
   rintro ⟨⟨i,m⟩,⟨hi2,hm2,hv2⟩⟩
   show W _ _ _ _ ⟨79,[(1,.ptr 1 0 []),(3,.int ((m : Nat) : Int)),(6,.int ((i : Nat) : Int))],[(1,.var (.agg [.u32 t.ver,.sl none 36 (t.ins.map inD),.sl none 2 (t.outs.map outD),.u32 t.lock]))]⟩
   have hi2 : i ≤ t.outs.length := hi2
   have hm2 : m ≤ 300000000000000 := hm2
   have hv2 : hvO m (t.outs.drop i) = hvO (hvI 0 t.ins) t.outs := hv2
   have hx : i < t.outs.length → t.outs[i]!.script.length ≤ 140737488355328 := fun h => hbd.oscr _ (get_mem h)
   refine W.seq ?_
   refine W.seq ?_
   by_cases h3 : i < t.outs.length
   · refine W.l0 9 [.y 56 _,.y 57 _,.y 58 _,.y 59 _,.y 60 _,.y 61 _,.y 62 _,.y 63 _,.y 64 _] [] [] [(1,_),(3,_),(6,_),(64,_)] [(1,.var _)] 79 ⟨mU 6 rfl rfl,aU (fU 1 rfl rfl),aU (lU 57 rfl rfl rfl rfl rfl rfl rfl),aU fun _ _ H K => R.lenE (SC.sl (K 58 _ rfl)) (List.length_map _) H,aU fun _ _ H K => R.lssN (i) (t.outs.length) (eU K 56 rfl) (eU K 59 rfl) H,mU 60 rfl rfl,aW rfl rfl (gT (decide_eq_true h3) rfl) fun _ _ H K => R.mov (eU K 3 rfl) rfl H,aW rfl rfl (gT (decide_eq_true h3) rfl) fun _ _ H K => R.leqN (m) (32768) (eU K 62 rfl) (kI 32768 rfl) H,aU fun _ _ H K => R.pickT (eU K 61 rfl) (decide_eq_true h3) (eU K 63 rfl) rfl H,trivial⟩ rfl rfl rfl rfl (tU rfl ?_)
     refine W.condD rfl (fun hc64 => ?_) (fun hc64 => ?_)
     · refine W.skip ?_
       refine W.seq ?_
       refine W.block ?_
       refine W.l0 11 [.y 67 _,.y 68 _,.y 69 _,.y 70 _,.y 71 _,.y 72 _,.y 73 _,.y 74 _,.y 75 _,.y 76 _,.y 3 _] [] [] [(1,_),(3,_),(6,_)] [(1,.var _)] 79 ⟨mU 3 rfl rfl,aU fun _ _ H K => R.addN (m) (9) (eU K 67 rfl) (kI 9 rfl) bU H,aU (fU 1 rfl rfl),aU (lU 69 rfl rfl rfl rfl rfl rfl rfl),mU 6 rfl rfl,aU fun _ _ H K => R.idxN (i) (SC.sl (K 70 _ rfl)) (evoI (eU K 71 rfl)) rfl bU H (by decide),aU fun _ _ H K => R.fdE (K 72 _ rfl) H (by decide),aU fun _ _ H K => R.ldE (K 73 _ rfl) (SC.sl (K 70 _ rfl)) (map_get! (l := t.outs) bU) rfl rfl rfl rfl H,aU fun _ _ H K => R.lenE (SC.sl (K 74 _ rfl)) (List.length_map _) H,aU fun _ _ H K => R.addN ((m + 9)) (t.outs[i]!.script.length) (eU K 68 rfl) (eU K 75 rfl) bU H,aU fun _ _ H K => R.asg (eU K 76 rfl) rfl H,trivial⟩ rfl rfl rfl rfl (tU rfl ?_)
       refine W.l0 3 [.y 65 _,.y 66 _,.y 6 _] [] [] [(1,_),(3,_),(6,_)] [(1,.var _)] 79 ⟨mU 6 rfl rfl,aU fun _ _ H K => R.addN (i) (1) (eU K 65 rfl) (kI 1 rfl) bU H,aU fun _ _ H K => R.asg (eU K 66 rfl) rfl H,trivial⟩ rfl rfl rfl rfl (tU rfl ?_)
       exact ⟨⟨(i + 1,m + 9 + t.outs[i]!.script.length),⟨by omega,by omega,(hvO_step h3 hc64).trans hv2⟩⟩,rfl,(by simp only []; omega)⟩
     · have he2 : m = hvO (hvI 0 t.ins) t.outs := by rw [← hv2]; exact (hvO_end (by first | exact .inl h3 | exact .inr hc64)).symm
       refine W.exit ?_
       refine W.seq ?_
       refine W.l0 3 [.y 77 _,.y 78 _,.y 2 _] [] [] [(2,_)] [(1,.var _)] 79 ⟨mU 3 rfl rfl,aU fun _ _ H K => R.gtrN (m) (32768) (eU K 77 rfl) (kI 32768 rfl) H,aU fun _ _ H K => R.asg (eU K 78 rfl) rfl H,trivial⟩ rfl rfl rfl rfl (tU rfl ?_)
       refine W.ret ?_
       exact Ends.one' (.inr rfl) rfl (by rw [heavyS,← he2]) rfl rfl trivial
   · refine W.l0 9 [.y 56 _,.y 57 _,.y 58 _,.y 59 _,.y 60 _,.y 61 _,.x 62,.x 63,.y 64 _] [] [] [(1,_),(3,_),(6,_),(64,_)] [(1,.var _)] 79 ⟨mU 6 rfl rfl,aU (fU 1 rfl rfl),aU (lU 57 rfl rfl rfl rfl rfl rfl rfl),aU fun _ _ H K => R.lenE (SC.sl (K 58 _ rfl)) (List.length_map _) H,aU fun _ _ H K => R.lssN (i) (t.outs.length) (eU K 56 rfl) (eU K 59 rfl) H,mU 60 rfl rfl,aF rfl rfl (gF (decide_eq_false h3) rfl),aF rfl rfl (gF (decide_eq_false h3) rfl),aU fun _ _ H K => R.pickF (eU K 61 rfl) (decide_eq_false h3) (kB false rfl) rfl H,trivial⟩ rfl rfl rfl rfl (tU rfl ?_)
     refine W.condF rfl (rfl) ?_
     have he2 : m = hvO (hvI 0 t.ins) t.outs := by rw [← hv2]; exact (hvO_end (by first | exact .inl h3 | exact .inr hc64)).symm
     refine W.exit ?_
     refine W.seq ?_
     refine W.l0 3 [.y 77 _,.y 78 _,.y 2 _] [] [] [(2,_)] [(1,.var _)] 79 ⟨mU 3 rfl rfl,aU fun _ _ H K => R.gtrN (m) (32768) (eU K 77 rfl) (kI 32768 rfl) H,aU fun _ _ H K => R.asg (eU K 78 rfl) rfl H,trivial⟩ rfl rfl rfl rfl (tU rfl ?_)
     refine W.ret ?_
     exact Ends.one' (.inr rfl) rfl (by rw [heavyS,← he2]) rfl rfl trivial

end Go.Sx

namespace Go.Sx
open Go.Proofs
theorem brw_bytes (l : List UInt8) : (bytesD l).brw = bytesD l := by simp only [bytesD,D.brw,brws_eq]; rw [brw_map (fun _ => rfl)]
theorem brw_hash (l : List UInt8) : (hashD l).brw = hashD l := by simp only [hashD,D.brw,brws_eq]; rw [brw_map (fun _ => rfl)]
theorem brw_inD (x : InS) : (inD x).brw = inD x := by
 simp only [inD,D.brw,brws_eq,List.map_cons,List.map_nil]
 rw [brw_map (fun b => brw_bytes b)]
 simp only [brw_bytes,brw_hash]
theorem brw_inN (x : InS) : (inN x).brw = inN x := by
 simp only [inN,D.brw,brws_eq,List.map_cons,List.map_nil,brw_bytes,brw_hash]
theorem brw_outD (x : OutS) : (outD x).brw = outD x := by
 simp only [outD,D.brw,brws_eq,List.map_cons,List.map_nil,brw_bytes]
def plP (x : InS) : InS := { x with wit := [] }
def plI (l : List InS) : Nat → List InS
 | 0 => []
 | i + 1 => plI l i ++ [plP l[i]!]
def plainS (t : TxS) : TxS := { t with ins := plI t.ins t.ins.length }
theorem plI_len (l : List InS) (i : Nat) : (plI l i).length = i := by induction i with
 | zero => rfl
 | succ i ih => simp [plI,ih]
end Go.Sx

namespace Go.Sx
open Go.Proofs
end Go.Sx

namespace Go.Sx
open Go.Proofs
theorem plain_ok (t : TxS) (hwf : t.wf) : Fn Tryd.prog gl 27 [txD t] (txD (plainS t)) := by
 refine Fn.of (n := 35) Tryd.func27 rfl rfl rfl (nU rfl) fun C hC hD => ?_
 have h1 := hwf.ins
 have h2 := hwf.outs
 refine W.seq ?_
 refine W.l0 2 [] [] [] [(0,_)] [] 35 trivial rfl rfl rfl rfl (⟨rfl,_,R.box (gV 0 rfl) rfl rfl (nU rfl),⟨rfl,_,R.alloc rfl (nU rfl),tV [(1,_),(2,_)] [(2,.var _),(1,.var _)] 35 rfl rfl rfl ?_⟩⟩)
 refine W.seq ?_
 refine W.drawE (m := 10) (an := [0,1,0,4,0,0,32,112,255,0,1023]) (its := [.y 6 _,.y 7 _,.y 8 _,.y 9 _,.y 10 _,.y 11 _,.y 12 _,.y 13 _,.y 14 _,.y 3 _]) (ks := [(7,10)]) (kk := [(7,10)]) (efs := [(9,[(3,.var _)])]) (live := [1,2,3,14]) (env' := [(1,_),(2,_),(3,_),(14,_)]) (nd := 40) (bx1 := [(3,.var _),(2,.var _),(1,.var _)]) hP (by decide) rfl ⟨⟨51,rfl⟩,nU rfl,rfl,rfl,rfl,rfl⟩ (      ⟨⟨rfl,nU rfl,rfl,fun _ τ hb ht hτ => R.fdP (hτ 1 _ rfl) ht⟩,⟨⟨rfl,nU rfl,rfl,fun _ τ hb ht hτ => R.ldP (hτ 6 _ rfl) (hb 1 _ rfl) rfl rfl rfl rfl ht⟩,⟨⟨rfl,nU rfl,rfl,fun _ τ hb ht hτ => R.fdP (hτ 1 _ rfl) ht⟩,⟨⟨rfl,nU rfl,rfl,fun _ τ hb ht hτ => R.ldP (hτ 8 _ rfl) (hb 1 _ rfl) rfl rfl rfl rfl ht⟩,⟨⟨rfl,nU rfl,rfl,fun _ τ hb ht hτ => R.bslE .nil trivial rfl ht (by decide)⟩,⟨⟨rfl,nU rfl,rfl,fun _ τ hb ht hτ => R.fdP (hτ 1 _ rfl) ht⟩,⟨⟨rfl,nU rfl,rfl,fun _ τ hb ht hτ => R.ldP (hτ 11 _ rfl) (hb 1 _ rfl) rfl rfl rfl rfl ht⟩,⟨⟨rfl,nU rfl,rfl,fun _ τ hb ht hτ => R.frzT (r' := .sl none 2 (t.outs.map outD)) (R.appE (Or.inl rfl) (hτ 10 _ rfl) (SrcO.sc (SC.sl (hτ 12 _ rfl)) (pur_map (fun _ => rfl))) (List.nil_append _) bU ht (by decide) (by decide)) rfl (by simp only [D.brw,brws_eq]; rw [brw_map brw_outD])⟩,⟨⟨rfl,nU rfl,rfl,fun _ τ hb ht hτ => R.bldSE (l := [.u32 0,.nils,.nils,.u32 0]) (l' := [_,_,_,_]) (.cons (evt (hτ 7 _ rfl)) (.cons (evt (hτ 9 _ rfl)) (.cons (evt (hτ 13 _ rfl)) (.nil rfl)))) ⟨⟨_,(evt (hτ 7 _ rfl)),rfl,rfl,rfl⟩,⟨⟨_,(evt (hτ 9 _ rfl)),rfl,rfl,rfl⟩,⟨⟨_,(evt (hτ 13 _ rfl)),rfl,rfl,rfl⟩,trivial⟩⟩⟩ ht⟩,⟨⟨rfl,rfl,⟨rfl,nU rfl⟩,(SpE.alloc rfl (nU rfl))⟩,trivial⟩⟩⟩⟩⟩⟩⟩⟩⟩⟩) rfl rfl rfl (n' := 35) rfl (⟨rfl,_,R.stZ (gU 3 rfl) (xU 3 rfl) rfl (gV 14 rfl) (by rfl) (by rfl) (by rfl) (by rfl) rfl,⟨[1,2,3],[(1,_),(2,_),(3,_)],[(3,.var _),(2,.var _),(1,.var _)],35,rfl,rfl,rfl, ?_⟩⟩)
 refine W.seq ?_
 refine W.seq ?_
 refine W.asOwnP 3 [1] 56 36 (bx' := [(3,.var _),(2,.var _),(1,.var _)]) rfl rfl rfl rfl rfl ?_
 refine W.l0 1 [.y 4 _] [] [] [(1,_),(2,_),(3,_),(4,_)] [(3,.var _),(2,.var _),(1,.var _)] 35 ⟨aU fun _ _ H _ => R.asg (kI 0 rfl) rfl H,trivial⟩ rfl rfl rfl rfl (tU rfl ?_)
 refine W.block ?_
 refine W.loop (α := {q__ : Nat // q__ ≤ t.ins.length}) (fun q__ => ⟨35,[(1,.ptr 1 0 []),(2,.ptr 2 0 []),(3,.ptr 3 0 []),(4,.int ((q__.1 : Nat) : Int))],[(3,.var (.agg [.u32 t.ver,.sl (some 56) 36 ((plI t.ins q__.1).map inD),.sl none 2 (t.outs.map outD),.u32 t.lock])),(2,.var (.agg [.u32 0,.nils,.nils,.u32 0])),(1,.var (.agg [.u32 t.ver,.sl none 36 (t.ins.map inD),.sl none 2 (t.outs.map outD),.u32 t.lock]))]⟩) (fun q__ => t.ins.length - q__.1) ⟨(0),Nat.zero_le _⟩ rfl ?_
 rintro ⟨i,hi⟩
 show W _ _ _ _ ⟨35,[(1,.ptr 1 0 []),(2,.ptr 2 0 []),(3,.ptr 3 0 []),(4,.int ((i : Nat) : Int))],[(3,.var (.agg [.u32 t.ver,.sl (some 56) 36 ((plI t.ins i).map inD),.sl none 2 (t.outs.map outD),.u32 t.lock])),(2,.var (.agg [.u32 0,.nils,.nils,.u32 0])),(1,.var (.agg [.u32 t.ver,.sl none 36 (t.ins.map inD),.sl none 2 (t.outs.map outD),.u32 t.lock]))]⟩
 have hi : i ≤ t.ins.length := hi
 have hpl := plI_len t.ins i
 refine W.seq ?_
 refine W.seq ?_
 refine W.l0 5 [.y 15 _,.y 16 _,.y 17 _,.y 18 _,.y 19 _] [] [] [(1,_),(2,_),(3,_),(4,_),(19,_)] [(3,.var _),(2,.var _),(1,.var _)] 35 ⟨mU 4 rfl rfl,aU (fU 1 rfl rfl),aU (lU 16 rfl rfl rfl rfl rfl rfl rfl),aU fun _ _ H K => R.lenE (SC.sl (K 17 _ rfl)) (List.length_map _) H,aU fun _ _ H K => R.lssN (i) (t.ins.length) (eU K 15 rfl) (eU K 18 rfl) H,trivial⟩ rfl rfl rfl rfl (tU rfl ?_)
 refine W.condD rfl (fun hc19 => ?_) (fun hc19 => ?_)
 · refine W.skip ?_
   refine W.seq ?_
   refine W.block ?_
   refine W.seq ?_
   refine W.l0 7 [.y 22 _,.y 23 _,.y 24 _,.y 25 _,.y 26 _] [] [] [(1,_),(2,_),(3,_),(4,_),(26,_)] [(3,.var _),(2,.var _),(1,.var _)] 35 ⟨aU (fU 1 rfl rfl),aU (lU 22 rfl rfl rfl rfl rfl rfl rfl),mU 4 rfl rfl,aU fun _ _ H K => R.idxN (i) (SC.sl (K 23 _ rfl)) (evoI (eU K 24 rfl)) rfl bU H (by decide),aU fun _ _ H K => R.ldE (K 25 _ rfl) (SC.sl (K 23 _ rfl)) (map_get! (l := t.ins) bU) rfl rfl rfl rfl H,trivial⟩ rfl rfl rfl rfl (⟨rfl,_,R.alloc rfl (nU rfl),⟨rfl,_,R.stZ (gU 5 rfl) (xU 5 rfl) rfl (gV 26 rfl) (by rfl) (by rfl) (by rfl) (by rfl) rfl,tV [(1,_),(2,_),(3,_),(4,_),(5,_)] [(5,.var _),(3,.var _),(2,.var _),(1,.var _)] 35 rfl rfl rfl ?_⟩⟩)
   refine W.seq ?_
   refine W.l0 2 [.y 27 _] [] [] [(1,_),(2,_),(3,_),(4,_),(5,_),(27,_)] [(5,.var _),(3,.var _),(2,.var _),(1,.var _)] 35 ⟨aU (fU 5 rfl rfl),trivial⟩ rfl rfl rfl rfl (⟨rfl,_,R.stZ (gU 27 rfl) (xU 5 rfl) rfl (kN rfl) (by rfl) (by rfl) (by rfl) (by rfl) rfl,tV [(1,_),(2,_),(3,_),(4,_),(5,_)] [(5,.var _),(3,.var _),(2,.var _),(1,.var _)] 35 rfl rfl rfl ?_⟩)
   refine W.asNilP 5 [3] 1 (bx' := [(5,.var _),(3,.var _),(2,.var _),(1,.var _)]) rfl rfl rfl rfl rfl ?_
   refine W.l0 7 [.y 28 _,.y 29 _,.y 30 _,.y 31 _] [] [] [(1,_),(2,_),(3,_),(4,_),(29,_),(31,_)] [(5,.var _),(3,.var _),(2,.var _),(1,.var _)] 35 ⟨aU (fU 3 rfl rfl),aU fun _ B H K => R.ldO (K 28 _ rfl) (B 3 _ rfl) rfl H,aU (lU 5 rfl rfl rfl rfl rfl rfl rfl),aU fun _ _ H K => R.bslE (z := 36) (.cons (eU K 30 rfl) .nil) ⟨⟨rfl,rfl,rfl⟩,trivial⟩ rfl H (by decide),trivial⟩ rfl rfl rfl rfl (⟨rfl,_,R.appBP (gU 29 rfl) (xU 3 rfl) rfl rfl rfl rfl (gU 29 rfl) (SrcO.sc (SC.sl (gU 31 rfl)) (pur_lit rfl)) (show _ = ((plI t.ins (i + 1)).map inD) from (by simp only [plI,List.map_append]; rfl)) bU (nU rfl) (by decide) (by decide),⟨rfl,_,R.fdP (gU 3 rfl) (nU rfl),⟨rfl,_,R.stOZ (gU 33 rfl) (xU 3 rfl) rfl (gU 32 rfl) rfl rfl (by rfl) (by rfl) rfl rfl,tV [(1,_),(2,_),(3,_),(4,_)] [(5,.var _),(3,.var _),(2,.var _),(1,.var _)] 35 rfl rfl rfl ?_⟩⟩⟩)
   refine W.dropB [1,2,3] (bx' := [(3,.var _),(2,.var _),(1,.var _)]) rfl rfl rfl (pin_sub hD rfl) ?_
   refine W.l0 3 [.y 20 _,.y 21 _,.y 4 _] [] [] [(1,_),(2,_),(3,_),(4,_)] [(3,.var _),(2,.var _),(1,.var _)] 35 ⟨mU 4 rfl rfl,aU fun _ _ H K => R.addN (i) (1) (eU K 20 rfl) (kI 1 rfl) bU H,aU fun _ _ H K => R.asg (eU K 21 rfl) rfl H,trivial⟩ rfl rfl rfl rfl (tU rfl ?_)
   exact ⟨⟨(i + 1),by omega⟩,rfl,(by simp only []; omega)⟩
 · obtain rfl : i = t.ins.length := by omega
   refine W.exit ?_
   refine W.seq ?_
   refine W.brwB 3 (d' := .agg [.u32 t.ver,.sl none 36 ((plI t.ins t.ins.length).map inD),.sl none 2 (t.outs.map outD),.u32 t.lock]) (bx' := [(3,.var _),(2,.var _),(1,.var _)]) rfl (by simp only [D.brw,brws_eq,List.map_cons,List.map_nil]; rw [brw_map brw_inD,brw_map brw_outD]) rfl ?_
   refine W.l0 2 [.y 34 _] [] [] [(2,_),(34,_)] [(3,.var _),(2,.var _),(1,.var _)] 35 ⟨aU (lU 3 rfl rfl rfl rfl rfl rfl rfl),trivial⟩ rfl rfl rfl rfl (⟨rfl,_,R.stZ (gU 2 rfl) (xU 2 rfl) rfl (gV 34 rfl) (by rfl) (by rfl) (by rfl) (by rfl) rfl,tV [(2,_)] [(3,.var _),(2,.var _),(1,.var _)] 35 rfl rfl rfl ?_⟩)
   refine W.ret ?_
   exact Ends.one' (.inr rfl) rfl (rfl) rfl rfl (show LdT _ 26 4 true from inferInstance)

end Go.Sx
