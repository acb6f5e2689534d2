/- Proved: what functions of the given program compute (used by the theorem of this claim). Conditions: none but those that each theorem states. -/
import Derived.Test.YtdjoepmmffghhaaDoorMSxBldO
import Derived.Test.YtdjoepmmffghhaaDoorMTxDefs
set_option linter.unusedVariables false
set_option linter.unusedSimpArgs false
set_option linter.unnecessarySimpa false

namespace Go.Sx
open Go.Proofs
theorem rlow_ok (x : UInt64) (n : Nat) (hn : n ≤ 8) : Fn Tryd.prog gl 35 [.u64 x,.int ((n : Nat) : Int)] (.sl (some 5) 1 ((lowI x n).map D.u8)) := by
 refine Fn.of (n := 22) Tryd.func35 rfl rfl rfl (nU rfl) fun C hC hD => ?_
 refine W.seq ?_
 refine W.l0 1 [.y 4 _] [] [] [(0,_),(1,_)] [] 22 ⟨aU fun _ _ H _ => R.asg (kN rfl) rfl H,trivial⟩ rfl rfl rfl rfl (tU rfl ?_)
 refine W.seq ?_
 refine W.l0 1 [.y 5 _] [] [] [(0,_),(1,_),(5,_)] [] 22 ⟨aU fun _ _ H _ => R.asg (kN rfl) rfl H,trivial⟩ rfl rfl rfl rfl (tU rfl ?_)
 refine W.seq ?_
 refine W.seq ?_
 refine W.l0 1 [.y 6 _] [] [] [(0,_),(1,_),(5,_),(6,_)] [] 22 ⟨aU fun _ _ H _ => R.asg (kI 0 rfl) rfl H,trivial⟩ rfl rfl rfl rfl (tU rfl ?_)
 refine W.block ?_
 refine W.asOwn (s := 5) 5 1 rfl ?_
 refine W.loop (α := {q__ : Nat // q__ ≤ n}) (fun q__ => ⟨22,[(0,.u64 x),(1,.int ((n : Nat) : Int)),(5,.sl (some 5) 1 ((lowI x q__.1).map D.u8)),(6,.int ((q__.1 : Nat) : Int))],[]⟩) (fun q__ => n - q__.1) ⟨(0),bU⟩ rfl ?_
 rintro ⟨i,hi⟩
 show W _ _ _ _ ⟨22,[(0,.u64 x),(1,.int ((n : Nat) : Int)),(5,.sl (some 5) 1 ((lowI x i).map D.u8)),(6,.int ((i : Nat) : Int))],[]⟩
 have hi : i ≤ n := hi
 have hll := lowI_len x i
 refine W.seq ?_
 refine W.seq ?_
 refine W.l0 3 [.y 7 _,.y 8 _,.y 9 _] [] [] [(0,_),(1,_),(5,_),(6,_),(9,_)] [] 22 ⟨mU 6 rfl rfl,mU 1 rfl rfl,aU fun _ _ H K => R.lssN (i) (n) (eU K 7 rfl) (eU K 8 rfl) H,trivial⟩ rfl rfl rfl rfl (tU rfl ?_)
 refine W.condD rfl (fun hc9 => ?_) (fun hc9 => ?_)
 · refine W.skip ?_
   refine W.seq ?_
   refine W.block ?_
   refine W.l0 10 [.y 12 _,.y 13 _,.y 14 _,.y 15 _,.y 16 _,.y 17 _,.y 18 _,.y 19 _,.y 20 _,.y 5 _] [(8,5),(9,20),(9,12)] [(8,5),(9,20)] [(0,_),(1,_),(5,_),(6,_)] [] 22 ⟨aU fun _ _ H K => R.al (K 5 _ rfl) H (by decide),mU 0 rfl rfl,mU 6 rfl rfl,aU fun _ _ H K => R.mulN (8) (i) (kI 8 rfl) (eU K 14 rfl) bU H,aU fun _ _ H K => R.convE (d := .u64 (cU (8 * i))) (eU K 15 rfl) rfl (rfl) H,aU fun _ _ H K => R.binE (d := .u64 (shN x i)) (eU K 13 rfl) (eU K 16 rfl) rfl bV (congrArg D.u64 (shN_eq x i (by omega))) H,aU fun _ _ H K => R.conv (eU K 17 rfl) rfl H,aU fun _ _ H K => R.bslE (z := 1) (.cons (eU K 18 rfl) .nil) ⟨⟨rfl,rfl,rfl⟩,trivial⟩ rfl H (by decide),aU fun _ _ H K => R.appE (Or.inr (K 12 _ rfl)) (K 5 _ rfl) (SrcO.sc (SC.sl (K 19 _ rfl)) (pur_lit rfl)) (show _ = ((lowI x (i + 1)).map D.u8) from (by simp [lowI])) bU H (by decide) (by decide),aU fun _ _ H K => R.asgO (K 20 _ rfl) rfl H (by decide),trivial⟩ rfl rfl rfl rfl (tU rfl ?_)
   refine W.l0 3 [.y 10 _,.y 11 _,.y 6 _] [] [] [(0,_),(1,_),(5,_),(6,_)] [] 22 ⟨mU 6 rfl rfl,aU fun _ _ H K => R.addN (i) (1) (eU K 10 rfl) (kI 1 rfl) bU H,aU fun _ _ H K => R.asg (eU K 11 rfl) rfl H,trivial⟩ rfl rfl rfl rfl (tU rfl ?_)
   exact ⟨⟨(i + 1),bU⟩,rfl,(by simp only []; omega)⟩
 · obtain rfl : i = n := by omega
   refine W.exit ?_
   refine W.seq ?_
   refine W.l0 2 [.y 21 _,.y 4 _] [(0,5),(1,21)] [(0,5),(1,21)] [(4,_)] [] 22 ⟨aU fun _ _ H K => R.movO (K 5 _ rfl) rfl H (by decide),aU fun _ _ H K => R.asgO (K 21 _ rfl) rfl H (by decide),trivial⟩ rfl rfl rfl rfl (tU rfl ?_)
   refine W.ret ?_
   exact Ends.one' (.inr rfl) rfl (rfl) rfl rfl trivial

theorem rcnt_ok (n : Nat) : Fn Tryd.prog gl 37 [.int ((n : Nat) : Int)] (.sl (some 5) 1 ((countS n).map D.u8)) := by
 refine Fn.of (n := 27) Tryd.func37 rfl rfl rfl (nU rfl) fun C hC hD => ?_
 refine W.seq ?_
 refine W.l0 1 [.y 2 _] [] [] [(0,_)] [] 27 ⟨aU fun _ _ H _ => R.asg (kN rfl) rfl H,trivial⟩ rfl rfl rfl rfl (tU rfl ?_)
 refine W.seq ?_
 refine W.l0 3 [.y 4 _,.y 5 _,.y 3 _] [] [] [(3,_)] [] 27 ⟨mU 0 rfl rfl,aU fun _ _ H K => R.convE (d := .u64 (cU n)) (eU K 4 rfl) rfl (rfl) H,aU fun _ _ H K => R.asg (eU K 5 rfl) rfl H,trivial⟩ rfl rfl rfl rfl (tU rfl ?_)
 refine W.seq ?_
 refine W.seq ?_
 refine W.l0 2 [.y 6 _,.y 7 _] [] [] [(3,_),(7,_)] [] 27 ⟨mU 3 rfl rfl,aU fun _ _ H K => R.bin (eU K 6 rfl) (show ev _ _ (.const (.int .u64 253)) = some (.u64 253) from rfl) rfl trivial H,trivial⟩ rfl rfl rfl rfl (tU rfl ?_)
 refine W.cond rfl (fun hc7 => ?_) (fun hc7 => ?_)
 · refine W.seq ?_
   refine W.l0 4 [.y 8 _,.y 9 _,.y 10 _,.y 2 _] [(3,10)] [(3,10)] [(2,_)] [] 27 ⟨mU 3 rfl rfl,aU fun _ _ H K => R.conv (eU K 8 rfl) rfl H,aU fun _ _ H K => R.bslE (z := 1) (.cons (eU K 9 rfl) .nil) ⟨⟨rfl,rfl,rfl⟩,trivial⟩ rfl H (by decide),aU fun _ _ H K => R.asgO (K 10 _ rfl) rfl H (by decide),trivial⟩ rfl rfl rfl rfl (tU rfl ?_)
   refine W.ret ?_
   exact Ends.one' (.inr rfl) rfl (by rw [countS,if_pos (of_decide_eq_true hc7)]; rfl) rfl rfl trivial
 · refine W.skip ?_
   refine W.seq ?_
   refine W.seq ?_
   refine W.l0 2 [.y 11 _,.y 12 _] [] [] [(3,_),(12,_)] [] 27 ⟨mU 3 rfl rfl,aU fun _ _ H K => R.bin (eU K 11 rfl) (show ev _ _ (.const (.int .u64 65536)) = some (.u64 65536) from rfl) rfl trivial H,trivial⟩ rfl rfl rfl rfl (tU rfl ?_)
   refine W.cond rfl (fun hc12 => ?_) (fun hc12 => ?_)
   · refine W.seq ?_
     refine W.l0 5 [.y 13 _,.y 14 _,.y 15 _,.y 16 _,.y 2 _] [(3,13),(4,16)] [(3,13),(4,16)] [(2,_)] [] 27 ⟨aU fun _ _ H _ => R.bslE (z := 1) (.cons (show ev _ _ (.const (.int .u8 253)) = some (.u8 253) from rfl) .nil) ⟨⟨rfl,rfl,rfl⟩,trivial⟩ rfl H (by decide),mU 3 rfl rfl,aU fun _ _ H K => R.callG hC (rlow_ok (cU n) 2 (by decide)) (Bors.cons (Bor.pur (eU K 14 rfl) rfl rfl) (Bors.cons (Bor.pur (kI 2 rfl) rfl rfl) Bors.nil)) (FrsR.one (.sl _ _ _ (frs_map fun _ => .u8 _))) H,aU fun _ _ H K => R.appE (Or.inl rfl) (K 13 _ rfl) (SrcO.sc (SC.sl (K 15 _ rfl)) (pur_map (fun _ => rfl))) (show _ = ((lowI 253 1 ++ lowI (cU n) 2).map D.u8) from (by simp [lowI,shN])) (by simp [lowI_len]) H (by decide) (by decide),aU fun _ _ H K => R.asgO (K 16 _ rfl) rfl H (by decide),trivial⟩ rfl rfl rfl rfl (tU rfl ?_)
     refine W.ret ?_
     exact Ends.one' (.inr rfl) rfl (by rw [countS,if_neg (of_decide_eq_false hc7),if_pos (le_of_lt16 (of_decide_eq_true hc12))]) rfl rfl trivial
   · refine W.skip ?_
     refine W.seq ?_
     refine W.seq ?_
     refine W.l0 2 [.y 17 _,.y 18 _] [] [] [(3,_),(18,_)] [] 27 ⟨mU 3 rfl rfl,aU fun _ _ H K => R.bin (eU K 17 rfl) (show ev _ _ (.const (.int .u64 4294967296)) = some (.u64 4294967296) from rfl) rfl trivial H,trivial⟩ rfl rfl rfl rfl (tU rfl ?_)
     refine W.cond rfl (fun hc18 => ?_) (fun hc18 => ?_)
     · refine W.seq ?_
       refine W.l0 5 [.y 19 _,.y 20 _,.y 21 _,.y 22 _,.y 2 _] [(3,19),(4,22)] [(3,19),(4,22)] [(2,_)] [] 27 ⟨aU fun _ _ H _ => R.bslE (z := 1) (.cons (show ev _ _ (.const (.int .u8 254)) = some (.u8 254) from rfl) .nil) ⟨⟨rfl,rfl,rfl⟩,trivial⟩ rfl H (by decide),mU 3 rfl rfl,aU fun _ _ H K => R.callG hC (rlow_ok (cU n) 4 (by decide)) (Bors.cons (Bor.pur (eU K 20 rfl) rfl rfl) (Bors.cons (Bor.pur (kI 4 rfl) rfl rfl) Bors.nil)) (FrsR.one (.sl _ _ _ (frs_map fun _ => .u8 _))) H,aU fun _ _ H K => R.appE (Or.inl rfl) (K 19 _ rfl) (SrcO.sc (SC.sl (K 21 _ rfl)) (pur_map (fun _ => rfl))) (show _ = ((lowI 254 1 ++ lowI (cU n) 4).map D.u8) from (by simp [lowI,shN])) (by simp [lowI_len]) H (by decide) (by decide),aU fun _ _ H K => R.asgO (K 22 _ rfl) rfl H (by decide),trivial⟩ rfl rfl rfl rfl (tU rfl ?_)
       refine W.ret ?_
       exact Ends.one' (.inr rfl) rfl (by rw [countS,if_neg (of_decide_eq_false hc7),if_neg (fun h => of_decide_eq_false hc12 (lt_of_le16 h)),if_pos (le_of_lt32 (of_decide_eq_true hc18))]) rfl rfl trivial
     · refine W.skip ?_
       refine W.seq ?_
       refine W.l0 5 [.y 23 _,.y 24 _,.y 25 _,.y 26 _,.y 2 _] [(3,23),(4,26)] [(3,23),(4,26)] [(2,_)] [] 27 ⟨aU fun _ _ H _ => R.bslE (z := 1) (.cons (show ev _ _ (.const (.int .u8 255)) = some (.u8 255) from rfl) .nil) ⟨⟨rfl,rfl,rfl⟩,trivial⟩ rfl H (by decide),mU 3 rfl rfl,aU fun _ _ H K => R.callG hC (rlow_ok (cU n) 8 (by decide)) (Bors.cons (Bor.pur (eU K 24 rfl) rfl rfl) (Bors.cons (Bor.pur (kI 8 rfl) rfl rfl) Bors.nil)) (FrsR.one (.sl _ _ _ (frs_map fun _ => .u8 _))) H,aU fun _ _ H K => R.appE (Or.inl rfl) (K 23 _ rfl) (SrcO.sc (SC.sl (K 25 _ rfl)) (pur_map (fun _ => rfl))) (show _ = ((lowI 255 1 ++ lowI (cU n) 8).map D.u8) from (by simp [lowI,shN])) (by simp [lowI_len]) H (by decide) (by decide),aU fun _ _ H K => R.asgO (K 26 _ rfl) rfl H (by decide),trivial⟩ rfl rfl rfl rfl (tU rfl ?_)
       refine W.ret ?_
       exact Ends.one' (.inr rfl) rfl (by rw [countS,if_neg (of_decide_eq_false hc7),if_neg (fun h => of_decide_eq_false hc12 (lt_of_le16 h)),if_neg (fun h => of_decide_eq_false hc18 (lt_of_le32 h))]) rfl rfl trivial

theorem ritm_ok (x : List UInt8) (hx : x.length ≤ 1000000) : Fn Tryd.prog gl 38 [.sl none 1 (x.map D.u8)] (.sl (some 5) 1 ((itemS x).map D.u8)) := by
 refine Fn.of (n := 8) Tryd.func38 rfl rfl rfl (nU rfl) fun C hC hD => ?_
 have hcl := countS_len x.length
 refine W.seq ?_
 refine W.l0 1 [.y 2 _] [] [] [(0,_)] [] 8 ⟨aU fun _ _ H _ => R.asg (kN rfl) rfl H,trivial⟩ rfl rfl rfl rfl (tU rfl ?_)
 refine W.seq ?_
 refine W.l0 6 [.y 3 _,.y 4 _,.y 5 _,.y 6 _,.y 7 _,.y 2 _] [(4,5),(5,7)] [(4,5),(5,7)] [(2,_)] [] 8 ⟨mU 0 rfl rfl,aU fun _ _ H K => R.lenE (SC.sl (K 3 _ rfl)) (List.length_map _) H,aU fun _ _ H K => R.callG hC (rcnt_ok x.length) (Bors.cons (Bor.pur (eU K 4 rfl) rfl rfl) Bors.nil) (FrsR.one (.sl _ _ _ (frs_map fun _ => .u8 _))) H,mU 0 rfl rfl,aU fun _ _ H K => R.appE (Or.inl rfl) (K 5 _ rfl) (SrcO.sc (SC.sl (K 6 _ rfl)) (pur_map (fun _ => rfl))) (show _ = ((itemS x).map D.u8) from (by simp [itemS])) bU H (by decide) (by decide),aU fun _ _ H K => R.asgO (K 7 _ rfl) rfl H (by decide),trivial⟩ rfl rfl rfl rfl (tU rfl ?_)
 refine W.ret ?_
 exact Ends.one' (.inr rfl) rfl (rfl) rfl rfl trivial

theorem rinput_ok (x : InS) (hh : x.tx.length = 32) (hx : x.script.length ≤ 1000000) : Fn Tryd.prog gl 58 [inD x] (.sl (some 5) 1 ((inS x).map D.u8)) := by
 refine Fn.of (n := 27) Tryd.func58 rfl rfl rfl (nU rfl) fun C hC hD => ?_
 have hil := itemS_len x.script
 refine W.seq ?_
 refine W.l0 2 [] [] [] [(0,_)] [] 27 trivial rfl rfl rfl rfl (⟨rfl,_,R.box (gV 0 rfl) rfl rfl (nU rfl),⟨rfl,_,R.asg (kN rfl) rfl (nU rfl),tV [(1,_)] [(1,.var _)] 27 rfl rfl rfl ?_⟩⟩)
 refine W.seq ?_
 refine W.l0 6 [.y 4 _,.y 5 _,.y 6 _,.y 7 _,.y 8 _,.y 3 _] [(4,4),(5,8)] [(4,4),(5,8)] [(1,_),(3,_)] [(1,.var _)] 27 ⟨aU fun _ _ H _ => R.bslE .nil trivial rfl H (by decide),aU (fU 1 rfl rfl),aU (fU 5 rfl rfl),aU fun _ B H K => R.slAN (0) (32) (32) (K 6 _ rfl) (B 1 _ rfl) rfl rfl rfl rfl rfl bU bU rfl H,aU fun _ B H K => R.appE (Or.inl rfl) (K 4 _ rfl) (SrcO.sc (SC.va (K 7 _ rfl) (B 1 _ rfl) rfl bU) (pur_part (fun _ => rfl))) (show _ = (x.tx.map D.u8) from (by rw [List.drop_zero,List.take_of_length_le (by rw [List.length_map,hh]; exact Nat.le_refl _)]; simp)) bU H (by decide) (by decide),aU fun _ _ H K => R.asgO (K 8 _ rfl) rfl H (by decide),trivial⟩ rfl rfl rfl rfl (tU rfl ?_)
 refine W.seq ?_
 refine W.l0 8 [.y 9 _,.y 10 _,.y 11 _,.y 12 _,.y 13 _,.y 14 _,.y 15 _,.y 3 _] [(6,3),(7,15),(7,9)] [(6,3),(7,15)] [(1,_),(3,_)] [(1,.var _)] 27 ⟨aU fun _ _ H K => R.al (K 3 _ rfl) H (by decide),aU (fU 1 rfl rfl),aU (fU 10 rfl rfl),aU (lU 11 rfl rfl rfl rfl rfl rfl rfl),aU fun _ _ H K => R.conv (eU K 12 rfl) rfl H,aU fun _ _ H K => R.callG hC (rlow_ok x.n.toUInt64 4 (by decide)) (Bors.cons (Bor.pur (eU K 13 rfl) rfl rfl) (Bors.cons (Bor.pur (kI 4 rfl) rfl rfl) Bors.nil)) (FrsR.one (.sl _ _ _ (frs_map fun _ => .u8 _))) H,aU fun _ _ H K => R.appE (Or.inr (K 9 _ rfl)) (K 3 _ rfl) (SrcO.sc (SC.sl (K 14 _ rfl)) (pur_map (fun _ => rfl))) (show _ = (((x.tx ++ lowI x.n.toUInt64 4)).map D.u8) from (by simp)) (by simp only [List.length_map,List.length_append,lowI_len,List.length_cons,List.length_nil]; omega) H (by decide) (by decide),aU fun _ _ H K => R.asgO (K 15 _ rfl) rfl H (by decide),trivial⟩ rfl rfl rfl rfl (tU rfl ?_)
 refine W.seq ?_
 refine W.l0 6 [.y 16 _,.y 17 _,.y 18 _,.y 19 _,.y 20 _,.y 3 _] [(4,3),(5,20),(5,16)] [(4,3),(5,20)] [(1,_),(3,_)] [(1,.var _)] 27 ⟨aU fun _ _ H K => R.al (K 3 _ rfl) H (by decide),aU (fU 1 rfl rfl),aU (lU 17 rfl rfl rfl rfl rfl rfl rfl),aU fun _ _ H K => R.callG hC (ritm_ok x.script (hx)) (Bors.cons (Bor.pur (eU K 18 rfl) rfl rfl) Bors.nil) (FrsR.one (.sl _ _ _ (frs_map fun _ => .u8 _))) H,aU fun _ _ H K => R.appE (Or.inr (K 16 _ rfl)) (K 3 _ rfl) (SrcO.sc (SC.sl (K 19 _ rfl)) (pur_map (fun _ => rfl))) (show _ = ((((x.tx ++ lowI x.n.toUInt64 4) ++ itemS x.script)).map D.u8) from (by simp)) (by simp only [List.length_map,List.length_append,lowI_len,List.length_cons,List.length_nil]; omega) H (by decide) (by decide),aU fun _ _ H K => R.asgO (K 20 _ rfl) rfl H (by decide),trivial⟩ rfl rfl rfl rfl (tU rfl ?_)
 refine W.seq ?_
 refine W.l0 7 [.y 21 _,.y 22 _,.y 23 _,.y 24 _,.y 25 _,.y 26 _,.y 2 _] [(5,3),(6,26)] [(5,3),(6,26)] [(2,_)] [(1,.var _)] 27 ⟨aU fun _ _ H K => R.al (K 3 _ rfl) H (by decide),aU (fU 1 rfl rfl),aU (lU 22 rfl rfl rfl rfl rfl rfl rfl),aU fun _ _ H K => R.conv (eU K 23 rfl) rfl H,aU fun _ _ H K => R.callG hC (rlow_ok x.seq.toUInt64 4 (by decide)) (Bors.cons (Bor.pur (eU K 24 rfl) rfl rfl) (Bors.cons (Bor.pur (kI 4 rfl) rfl rfl) Bors.nil)) (FrsR.one (.sl _ _ _ (frs_map fun _ => .u8 _))) H,aU fun _ _ H K => R.appE (Or.inr (K 21 _ rfl)) (K 3 _ rfl) (SrcO.sc (SC.sl (K 25 _ rfl)) (pur_map (fun _ => rfl))) (show _ = ((((x.tx ++ lowI x.n.toUInt64 4) ++ itemS x.script) ++ lowI x.seq.toUInt64 4).map D.u8) from (by simp)) (by simp only [List.length_map,List.length_append,lowI_len,List.length_cons,List.length_nil]; omega) H (by decide) (by decide),aU fun _ _ H K => R.asgO (K 26 _ rfl) rfl H (by decide),trivial⟩ rfl rfl rfl rfl (tU rfl ?_)
 refine W.ret ?_
 exact Ends.one' (.inr rfl) rfl (by simp only [inS]) rfl rfl trivial

theorem rbdy_ok (t : TxS) (hwf : t.wf) : Fn Tryd.prog gl 36 [txD t] (.sl (some 5) 1 ((bodyS t).map D.u8)) := by
 refine Fn.of (n := 57) Tryd.func36 rfl rfl rfl (nU rfl) fun C hC hD => ?_
 have hc1 := countS_len t.ins.length
 have hc2 := countS_len t.outs.length
 have h1 := hwf.ins
 have h2 := hwf.outs
 have h3 := hwf.insb _ (Nat.le_refl _)
 have h4 := hwf.outsb _ (Nat.le_refl _)
 refine W.seq ?_
 refine W.l0 2 [] [] [] [(0,_)] [] 57 trivial rfl rfl rfl rfl (⟨rfl,_,R.box (gV 0 rfl) rfl rfl (nU rfl),⟨rfl,_,R.asg (kN rfl) rfl (nU rfl),tV [(1,_)] [(1,.var _)] 57 rfl rfl rfl ?_⟩⟩)
 refine W.seq ?_
 refine W.l0 5 [.y 6 _,.y 7 _,.y 8 _,.y 9 _,.y 3 _] [(4,9)] [(4,9)] [(1,_),(3,_)] [(1,.var _)] 57 ⟨aU (fU 1 rfl rfl),aU (lU 6 rfl rfl rfl rfl rfl rfl rfl),aU fun _ _ H K => R.lenE (SC.sl (K 7 _ rfl)) (List.length_map _) H,aU fun _ _ H K => R.callG hC (rcnt_ok t.ins.length) (Bors.cons (Bor.pur (eU K 8 rfl) rfl rfl) Bors.nil) (FrsR.one (.sl _ _ _ (frs_map fun _ => .u8 _))) H,aU fun _ _ H K => R.asgO (K 9 _ rfl) rfl H (by decide),trivial⟩ rfl rfl rfl rfl (tU rfl ?_)
 refine W.seq ?_
 refine W.seq ?_
 refine W.l0 1 [.y 4 _] [] [] [(1,_),(3,_),(4,_)] [(1,.var _)] 57 ⟨aU fun _ _ H _ => R.asg (kI 0 rfl) rfl H,trivial⟩ rfl rfl rfl rfl (tU rfl ?_)
 refine W.block ?_
 refine W.loop (α := {q__ : Nat // q__ ≤ t.ins.length}) (fun q__ => ⟨57,[(1,.ptr 1 0 []),(3,.sl (some 5) 1 ((countS t.ins.length ++ insS t.ins q__.1).map D.u8)),(4,.int ((q__.1 : Nat) : Int))],[(1,.var (.agg [.u32 t.ver,.sl none 36 (t.ins.map inD),.sl none 2 (t.outs.map outD),.u32 t.lock]))]⟩) (fun q__ => t.ins.length - q__.1) ⟨(0),bU⟩ (by simp only [insS,List.append_nil]; rfl) ?_
 rintro ⟨i,hi⟩
 show W _ _ _ _ ⟨57,[(1,.ptr 1 0 []),(3,.sl (some 5) 1 ((countS t.ins.length ++ insS t.ins i).map D.u8)),(4,.int ((i : Nat) : Int))],[(1,.var (.agg [.u32 t.ver,.sl none 36 (t.ins.map inD),.sl none 2 (t.outs.map outD),.u32 t.lock]))]⟩
 have hi : i ≤ t.ins.length := hi
 have hib := hwf.insb i hi
 have hib1 : i < t.ins.length → (insS t.ins (i + 1)).length ≤ 1500000 := fun h => hwf.insb (i + 1) h
 have hx : i < t.ins.length → t.ins[i]!.tx.length = 32 ∧ t.ins[i]!.script.length ≤ 1000000 := fun h => ⟨hwf.hash _ (get_mem h),hwf.insScript h⟩
 have hiS : (insS t.ins (i + 1)).length = (insS t.ins i).length + (inS t.ins[i]!).length := by simp [insS]
 refine W.seq ?_
 refine W.seq ?_
 refine W.l0 5 [.y 10 _,.y 11 _,.y 12 _,.y 13 _,.y 14 _] [] [] [(1,_),(3,_),(4,_),(14,_)] [(1,.var _)] 57 ⟨mU 4 rfl rfl,aU (fU 1 rfl rfl),aU (lU 11 rfl rfl rfl rfl rfl rfl rfl),aU fun _ _ H K => R.lenE (SC.sl (K 12 _ rfl)) (List.length_map _) H,aU fun _ _ H K => R.lssN (i) (t.ins.length) (eU K 10 rfl) (eU K 13 rfl) H,trivial⟩ rfl rfl rfl rfl (tU rfl ?_)
 refine W.condD rfl (fun hc14 => ?_) (fun hc14 => ?_)
 · refine W.skip ?_
   refine W.seq ?_
   refine W.block ?_
   refine W.l0 9 [.y 17 _,.y 18 _,.y 19 _,.y 20 _,.y 21 _,.y 22 _,.y 23 _,.y 24 _,.y 3 _] [(7,3),(8,24),(8,17)] [(7,3),(8,24)] [(1,_),(3,_),(4,_)] [(1,.var _)] 57 ⟨aU fun _ _ H K => R.al (K 3 _ rfl) H (by decide),aU (fU 1 rfl rfl),aU (lU 18 rfl rfl rfl rfl rfl rfl rfl),mU 4 rfl rfl,aU fun _ _ H K => R.idxN (i) (SC.sl (K 19 _ rfl)) (evoI (eU K 20 rfl)) rfl bU H (by decide),aU fun _ _ H K => R.ldE (K 21 _ rfl) (SC.sl (K 19 _ rfl)) (map_get! (l := t.ins) bU) rfl rfl rfl rfl H,aU fun _ _ H K => R.callG hC (rinput_ok t.ins[i]! ((hx (by omega)).1) ((hx (by omega)).2)) (Bors.cons (Bor.pur (eU K 22 rfl) rfl rfl) Bors.nil) (FrsR.one (.sl _ _ _ (frs_map fun _ => .u8 _))) H,aU fun _ _ H K => R.appE (Or.inr (K 17 _ rfl)) (K 3 _ rfl) (SrcO.sc (SC.sl (K 23 _ rfl)) (pur_map (fun _ => rfl))) (show _ = ((countS t.ins.length ++ insS t.ins (i + 1)).map D.u8) from (by simp [insS,outsS,outS',List.append_assoc])) (by simp only [List.length_map,List.length_append,lowI_len,List.length_cons,List.length_nil]; omega) H (by decide) (by decide),aU fun _ _ H K => R.asgO (K 24 _ rfl) rfl H (by decide),trivial⟩ rfl rfl rfl rfl (tU rfl ?_)
   refine W.l0 3 [.y 15 _,.y 16 _,.y 4 _] [] [] [(1,_),(3,_),(4,_)] [(1,.var _)] 57 ⟨mU 4 rfl rfl,aU fun _ _ H K => R.addN (i) (1) (eU K 15 rfl) (kI 1 rfl) bU H,aU fun _ _ H K => R.asg (eU K 16 rfl) rfl H,trivial⟩ rfl rfl rfl rfl (tU rfl ?_)
   exact ⟨⟨(i + 1),bU⟩,rfl,(by simp only []; omega)⟩
 · obtain rfl : i = t.ins.length := by omega
   refine W.exit ?_
   refine W.seq ?_
   refine W.l0 7 [.y 25 _,.y 26 _,.y 27 _,.y 28 _,.y 29 _,.y 30 _,.y 3 _] [(5,3),(6,30),(6,25)] [(5,3),(6,30)] [(1,_),(3,_)] [(1,.var _)] 57 ⟨aU fun _ _ H K => R.al (K 3 _ rfl) H (by decide),aU (fU 1 rfl rfl),aU (lU 26 rfl rfl rfl rfl rfl rfl rfl),aU fun _ _ H K => R.lenE (SC.sl (K 27 _ rfl)) (List.length_map _) H,aU fun _ _ H K => R.callG hC (rcnt_ok t.outs.length) (Bors.cons (Bor.pur (eU K 28 rfl) rfl rfl) Bors.nil) (FrsR.one (.sl _ _ _ (frs_map fun _ => .u8 _))) H,aU fun _ _ H K => R.appE (Or.inr (K 25 _ rfl)) (K 3 _ rfl) (SrcO.sc (SC.sl (K 29 _ rfl)) (pur_map (fun _ => rfl))) (show _ = (((countS t.ins.length ++ insS t.ins t.ins.length) ++ countS t.outs.length).map D.u8) from (by simp)) (by simp only [List.length_map,List.length_append,lowI_len,List.length_cons,List.length_nil]; omega) H (by decide) (by decide),aU fun _ _ H K => R.asgO (K 30 _ rfl) rfl H (by decide),trivial⟩ rfl rfl rfl rfl (tU rfl ?_)
   refine W.seq ?_
   refine W.seq ?_
   refine W.l0 1 [.y 5 _] [] [] [(1,_),(3,_),(5,_)] [(1,.var _)] 57 ⟨aU fun _ _ H _ => R.asg (kI 0 rfl) rfl H,trivial⟩ rfl rfl rfl rfl (tU rfl ?_)
   refine W.block ?_
   refine W.loop (α := {q__ : Nat // q__ ≤ t.outs.length}) (fun q__ => ⟨57,[(1,.ptr 1 0 []),(3,.sl (some 5) 1 (((countS t.ins.length ++ insS t.ins t.ins.length) ++ countS t.outs.length ++ outsS t.outs q__.1).map D.u8)),(5,.int ((q__.1 : Nat) : Int))],[(1,.var (.agg [.u32 t.ver,.sl none 36 (t.ins.map inD),.sl none 2 (t.outs.map outD),.u32 t.lock]))]⟩) (fun q__ => t.outs.length - q__.1) ⟨(0),bU⟩ (by simp only [outsS,List.append_nil]) ?_
   rintro ⟨i,hi⟩
   show W _ _ _ _ ⟨57,[(1,.ptr 1 0 []),(3,.sl (some 5) 1 (((countS t.ins.length ++ insS t.ins t.ins.length) ++ countS t.outs.length ++ outsS t.outs i).map D.u8)),(5,.int ((i : Nat) : Int))],[(1,.var (.agg [.u32 t.ver,.sl none 36 (t.ins.map inD),.sl none 2 (t.outs.map outD),.u32 t.lock]))]⟩
   have hi : i ≤ t.outs.length := hi
   have hib := hwf.outsb i hi
   have hib1 : i < t.outs.length → (outsS t.outs (i + 1)).length ≤ 1500000 := fun h => hwf.outsb (i + 1) h
   have hx : i < t.outs.length → t.outs[i]!.script.length ≤ 1000000 := fun h => hwf.outScript h
   have hiS : (outsS t.outs (i + 1)).length = (outsS t.outs i).length + (8 + (itemS t.outs[i]!.script).length) := by simp [outsS,outS',lowI_len]
   refine W.seq ?_
   refine W.seq ?_
   refine W.l0 5 [.y 31 _,.y 32 _,.y 33 _,.y 34 _,.y 35 _] [] [] [(1,_),(3,_),(5,_),(35,_)] [(1,.var _)] 57 ⟨mU 5 rfl rfl,aU (fU 1 rfl rfl),aU (lU 32 rfl rfl rfl rfl rfl rfl rfl),aU fun _ _ H K => R.lenE (SC.sl (K 33 _ rfl)) (List.length_map _) H,aU fun _ _ H K => R.lssN (i) (t.outs.length) (eU K 31 rfl) (eU K 34 rfl) H,trivial⟩ rfl rfl rfl rfl (tU rfl ?_)
   refine W.condD rfl (fun hc35 => ?_) (fun hc35 => ?_)
   · refine W.skip ?_
     refine W.seq ?_
     refine W.block ?_
     refine W.seq ?_
     refine W.l0 10 [.y 38 _,.y 39 _,.y 40 _,.y 41 _,.y 42 _,.y 43 _,.y 44 _,.y 45 _,.y 46 _,.y 3 _] [(8,3),(9,46),(9,38)] [(8,3),(9,46)] [(1,_),(3,_),(5,_)] [(1,.var _)] 57 ⟨aU fun _ _ H K => R.al (K 3 _ rfl) H (by decide),aU (fU 1 rfl rfl),aU (lU 39 rfl rfl rfl rfl rfl rfl rfl),mU 5 rfl rfl,aU fun _ _ H K => R.idxN (i) (SC.sl (K 40 _ rfl)) (evoI (eU K 41 rfl)) rfl bU H (by decide),aU fun _ _ H K => R.fdE (K 42 _ rfl) H (by decide),aU fun _ _ H K => R.ldE (K 43 _ rfl) (SC.sl (K 40 _ rfl)) (map_get! (l := t.outs) bU) rfl rfl rfl rfl H,aU fun _ _ H K => R.callG hC (rlow_ok t.outs[i]!.value 8 (by decide)) (Bors.cons (Bor.pur (eU K 44 rfl) rfl rfl) (Bors.cons (Bor.pur (kI 8 rfl) rfl rfl) Bors.nil)) (FrsR.one (.sl _ _ _ (frs_map fun _ => .u8 _))) H,aU fun _ _ H K => R.appE (Or.inr (K 38 _ rfl)) (K 3 _ rfl) (SrcO.sc (SC.sl (K 45 _ rfl)) (pur_map (fun _ => rfl))) (show _ = ((((countS t.ins.length ++ insS t.ins t.ins.length) ++ countS t.outs.length ++ outsS t.outs i) ++ lowI t.outs[i]!.value 8).map D.u8) from (by simp)) (by simp only [List.length_map,List.length_append,lowI_len,List.length_cons,List.length_nil]; omega) H (by decide) (by decide),aU fun _ _ H K => R.asgO (K 46 _ rfl) rfl H (by decide),trivial⟩ rfl rfl rfl rfl (tU rfl ?_)
     refine W.l0 10 [.y 47 _,.y 48 _,.y 49 _,.y 50 _,.y 51 _,.y 52 _,.y 53 _,.y 54 _,.y 55 _,.y 3 _] [(8,3),(9,55),(9,47)] [(8,3),(9,55)] [(1,_),(3,_),(5,_)] [(1,.var _)] 57 ⟨aU fun _ _ H K => R.al (K 3 _ rfl) H (by decide),aU (fU 1 rfl rfl),aU (lU 48 rfl rfl rfl rfl rfl rfl rfl),mU 5 rfl rfl,aU fun _ _ H K => R.idxN (i) (SC.sl (K 49 _ rfl)) (evoI (eU K 50 rfl)) rfl bU H (by decide),aU fun _ _ H K => R.fdE (K 51 _ rfl) H (by decide),aU fun _ _ H K => R.ldE (K 52 _ rfl) (SC.sl (K 49 _ rfl)) (map_get! (l := t.outs) bU) rfl rfl rfl rfl H,aU fun _ _ H K => R.callG hC (ritm_ok t.outs[i]!.script (hx (by omega))) (Bors.cons (Bor.pur (eU K 53 rfl) rfl rfl) Bors.nil) (FrsR.one (.sl _ _ _ (frs_map fun _ => .u8 _))) H,aU fun _ _ H K => R.appE (Or.inr (K 47 _ rfl)) (K 3 _ rfl) (SrcO.sc (SC.sl (K 54 _ rfl)) (pur_map (fun _ => rfl))) (show _ = (((countS t.ins.length ++ insS t.ins t.ins.length) ++ countS t.outs.length ++ outsS t.outs (i + 1)).map D.u8) from (by simp [insS,outsS,outS',List.append_assoc])) (by simp only [List.length_map,List.length_append,lowI_len,List.length_cons,List.length_nil]; omega) H (by decide) (by decide),aU fun _ _ H K => R.asgO (K 55 _ rfl) rfl H (by decide),trivial⟩ rfl rfl rfl rfl (tU rfl ?_)
     refine W.l0 3 [.y 36 _,.y 37 _,.y 5 _] [] [] [(1,_),(3,_),(5,_)] [(1,.var _)] 57 ⟨mU 5 rfl rfl,aU fun _ _ H K => R.addN (i) (1) (eU K 36 rfl) (kI 1 rfl) bU H,aU fun _ _ H K => R.asg (eU K 37 rfl) rfl H,trivial⟩ rfl rfl rfl rfl (tU rfl ?_)
     exact ⟨⟨(i + 1),bU⟩,rfl,(by simp only []; omega)⟩
   · obtain rfl : i = t.outs.length := by omega
     refine W.exit ?_
     refine W.seq ?_
     refine W.l0 2 [.y 56 _,.y 2 _] [(0,3),(1,56)] [(0,3),(1,56)] [(2,_)] [(1,.var _)] 57 ⟨aU fun _ _ H K => R.movO (K 3 _ rfl) rfl H (by decide),aU fun _ _ H K => R.asgO (K 56 _ rfl) rfl H (by decide),trivial⟩ rfl rfl rfl rfl (tU rfl ?_)
     refine W.ret ?_
     exact Ends.one' (.inr rfl) rfl (by simp only [bodyS]) rfl rfl trivial

theorem rbare_ok (t : TxS) (hwf : t.wf) : Fn Tryd.prog gl 16 [txD t] (.sl (some 5) 1 ((bareS t).map D.u8)) := by
 refine Fn.of (n := 17) Tryd.func16 rfl rfl rfl (nU rfl) fun C hC hD => ?_
 have hbl := hwf.body
 refine W.seq ?_
 refine W.l0 2 [] [] [] [(0,_)] [] 17 trivial rfl rfl rfl rfl (⟨rfl,_,R.box (gV 0 rfl) rfl rfl (nU rfl),⟨rfl,_,R.asg (kN rfl) rfl (nU rfl),tV [(1,_)] [(1,.var _)] 17 rfl rfl rfl ?_⟩⟩)
 refine W.seq ?_
 refine W.draw (m := 8) (an := [0,1,3,7,0,31,63,127]) hP (by decide) rfl (its := [.y 4 _,.y 5 _,.y 6 _,.y 7 _,.y 8 _,.y 9 _,.y 10 _,.y 3 _]) (ks := [(6,7),(7,10)]) (kk := [(6,7),(7,10)]) (live := [1,3]) (env' := [(1,_),(3,_)]) (⟨nU rfl,rfl,⟨aU (fU 1 rfl rfl),aU (lU 4 rfl rfl rfl rfl rfl rfl rfl),aU fun _ _ H K => R.conv (eU K 5 rfl) rfl H,aU fun _ _ H K => R.callG hC (rlow_ok t.ver.toUInt64 4 (by decide)) (Bors.cons (Bor.pur (eU K 6 rfl) rfl rfl) (Bors.cons (Bor.pur (kI 4 rfl) rfl rfl) Bors.nil)) (FrsR.one (.sl _ _ _ (frs_map fun _ => .u8 _))) H,aU (lU 1 rfl rfl rfl rfl rfl rfl rfl),aU fun _ _ H K => R.callG hC (rbdy_ok t hwf) (Bors.cons (Bor.pur (eU K 8 rfl) rfl rfl) Bors.nil) (FrsR.one (.sl _ _ _ (frs_map fun _ => .u8 _))) H,aU fun _ _ H K => R.appE (Or.inl rfl) (K 7 _ rfl) (SrcO.sc (SC.sl (K 9 _ rfl)) (pur_map (fun _ => rfl))) (show _ = ((lowI t.ver.toUInt64 4 ++ bodyS t).map D.u8) from (by simp)) (by simp only [List.length_map,List.length_append,lowI_len,List.length_cons,List.length_nil]; omega) H (by decide) (by decide),aU fun _ _ H K => R.asgO (K 10 _ rfl) rfl H (by decide),trivial⟩,rfl,rfl,rfl⟩) rfl (bx' := [(1,.var _)]) rfl (n' := 17) rfl (tV [(1,_),(3,_)] [(1,.var _)] 17 rfl rfl rfl ?_)
 refine W.seq ?_
 refine W.l0 7 [.y 11 _,.y 12 _,.y 13 _,.y 14 _,.y 15 _,.y 16 _,.y 2 _] [(5,3),(6,16)] [(5,3),(6,16)] [(2,_)] [(1,.var _)] 17 ⟨aU fun _ _ H K => R.al (K 3 _ rfl) H (by decide),aU (fU 1 rfl rfl),aU (lU 12 rfl rfl rfl rfl rfl rfl rfl),aU fun _ _ H K => R.conv (eU K 13 rfl) rfl H,aU fun _ _ H K => R.callG hC (rlow_ok t.lock.toUInt64 4 (by decide)) (Bors.cons (Bor.pur (eU K 14 rfl) rfl rfl) (Bors.cons (Bor.pur (kI 4 rfl) rfl rfl) Bors.nil)) (FrsR.one (.sl _ _ _ (frs_map fun _ => .u8 _))) H,aU fun _ _ H K => R.appE (Or.inr (K 11 _ rfl)) (K 3 _ rfl) (SrcO.sc (SC.sl (K 15 _ rfl)) (pur_map (fun _ => rfl))) (show _ = ((bareS t).map D.u8) from (by simp [bareS])) (by simp only [List.length_map,List.length_append,lowI_len,List.length_cons,List.length_nil]; omega) H (by decide) (by decide),aU fun _ _ H K => R.asgO (K 16 _ rfl) rfl H (by decide),trivial⟩ rfl rfl rfl rfl (tU rfl ?_)
 refine W.ret ?_
 exact Ends.one' (.inr rfl) rfl (rfl) rfl rfl trivial

end Go.Sx

namespace Go.Sx
open Go.Proofs
theorem rid_ok (t : TxS) (hwf : t.wf) : Fn Tryd.prog gl 18 [txD t] (hashD (idS t)) := by
 refine Fn.of (n := 6) Tryd.func18 rfl rfl rfl (nU rfl) fun C hC hD => ?_
 refine W.seq ?_
 refine W.l0 2 [] [] [] [(0,_)] [] 6 trivial rfl rfl rfl rfl (⟨rfl,_,R.box (gV 0 rfl) rfl rfl (nU rfl),⟨rfl,_,R.alloc rfl (nU rfl),tV [(1,_),(2,_)] [(2,.var _),(1,.var _)] 6 rfl rfl rfl ?_⟩⟩)
 refine W.seq ?_
 refine W.l0 4 [.y 3 _,.y 4 _,.y 5 _] [] [] [(2,_),(5,_)] [(2,.var _),(1,.var _)] 6 ⟨aU (lU 1 rfl rfl rfl rfl rfl rfl rfl),aU fun _ _ H K => R.callG hC (rbare_ok t hwf) (Bors.cons (Bor.pur (eU K 3 rfl) rfl rfl) Bors.nil) (FrsR.one (.sl _ _ _ (frs_map fun _ => .u8 _))) H,aU fun _ _ H K => R.callG hC (rtwice_ok (bareS t) (Nat.le_trans hwf.bareL (by decide))) (Bors.cons (Bor.sc (SC.sl (K 4 _ rfl)) (brw_map (fun _ => rfl))) Bors.nil) (FrsR.one (frs_hash _)) H,trivial⟩ rfl rfl rfl rfl (⟨rfl,_,R.stZ (gU 2 rfl) (xU 2 rfl) rfl (gV 5 rfl) (by rfl) (by rfl) (by rfl) (by rfl) rfl,tV [(2,_)] [(2,.var _),(1,.var _)] 6 rfl rfl rfl ?_⟩)
 refine W.ret ?_
 exact Ends.one' (.inr rfl) rfl (by rw [idS,twice_r]) rfl rfl (show LdT _ 32 32 true from inferInstance)

end Go.Sx

namespace Go.Sx
open Go.Proofs
theorem str_eq {a b : List UInt8} (h : (a != b) = false) : a = b := by simpa using h
theorem str_ne {a b : List UInt8} (h : (a != b) = true) : a ≠ b := by simpa using h
theorem ls_f1 {a b : List (List UInt8)} (h : a.length ≠ b.length) : (a == b) = false := beq_eq_false_iff_ne.2 fun e => h (by rw [e])
theorem ls_f2 {a b : List (List UInt8)} {i : Nat} (hi : i < a.length) (h : a[i]! ≠ b[i]!) : (a == b) = false := beq_eq_false_iff_ne.2 fun e => h (by rw [e])
theorem ls_t {a b : List (List UInt8)} (h : a.length = b.length) (he : ∀ j < a.length,a[j]! = b[j]!) : (a == b) = true := by
 refine beq_iff_eq.2 (List.ext_getElem h fun i h1 h2 => ?_)
 have := he i h1
 rwa [getElem!_pos a i h1,getElem!_pos b i h2] at this
end Go.Sx

namespace Go.Sx
open Go.Proofs
theorem beq_ok (a b : List UInt8) : Fn Tryd.prog gl 46 [.sl none 1 (a.map D.u8),.sl none 1 (b.map D.u8)] (.bool (a == b)) := by
 refine Fn.of (n := 10) Tryd.func46 rfl rfl rfl (nU rfl) fun C hC hD => ?_
 refine W.seq ?_
 refine W.l0 1 [.y 4 _] [] [] [(0,_),(1,_)] [] 10 ⟨aU fun _ _ H _ => R.asg (kB false rfl) rfl H,trivial⟩ rfl rfl rfl rfl (tU rfl ?_)
 refine W.seq ?_
 refine W.l0 6 [.y 5 _,.y 6 _,.y 7 _,.y 8 _,.y 9 _,.y 4 _] [] [] [(4,_)] [] 10 ⟨mU 0 rfl rfl,aU fun _ _ H K => R.cvS (xs := a) (SC.sl (K 5 _ rfl)) H,mU 1 rfl rfl,aU fun _ _ H K => R.cvS (xs := b) (SC.sl (K 7 _ rfl)) H,aU fun _ _ H K => R.bin (eU K 6 rfl) (eU K 8 rfl) rfl trivial H,aU fun _ _ H K => R.asg (eU K 9 rfl) rfl H,trivial⟩ rfl rfl rfl rfl (tU rfl ?_)
 refine W.ret ?_
 exact Ends.one' (.inr rfl) rfl (rfl) rfl rfl trivial

theorem lists_ok (a b : List (List UInt8)) (ha : a.length ≤ 1000000) (hb : b.length ≤ 1000000) : Fn Tryd.prog gl 52 [.sl none 1 (a.map bytesD),.sl none 1 (b.map bytesD)] (.bool (a == b)) := by
 refine Fn.of (n := 28) Tryd.func52 rfl rfl rfl (nU rfl) fun C hC hD => ?_
 refine W.seq ?_
 refine W.l0 1 [.y 4 _] [] [] [(0,_),(1,_)] [] 28 ⟨aU fun _ _ H _ => R.asg (kB false rfl) rfl H,trivial⟩ rfl rfl rfl rfl (tU rfl ?_)
 refine W.seq ?_
 refine W.seq ?_
 refine W.l0 5 [.y 6 _,.y 7 _,.y 8 _,.y 9 _,.y 10 _] [] [] [(0,_),(1,_),(10,_)] [] 28 ⟨mU 0 rfl rfl,aU fun _ _ H K => R.lenE (SC.sl (K 6 _ rfl)) (List.length_map _) H,mU 1 rfl rfl,aU fun _ _ H K => R.lenE (SC.sl (K 8 _ rfl)) (List.length_map _) H,aU fun _ _ H K => R.neqN (a.length) (b.length) (eU K 7 rfl) (eU K 9 rfl) H,trivial⟩ rfl rfl rfl rfl (tU rfl ?_)
 refine W.condD rfl (fun hc10 => ?_) (fun hc10 => ?_)
 · refine W.seq ?_
   refine W.l0 1 [.y 4 _] [] [] [(4,_)] [] 28 ⟨aU fun _ _ H _ => R.asg (kB false rfl) rfl H,trivial⟩ rfl rfl rfl rfl (tU rfl ?_)
   refine W.ret ?_
   exact Ends.one' (.inr rfl) rfl (congrArg D.bool (ls_f1 hc10).symm) rfl rfl trivial
 · refine W.skip ?_
   refine W.seq ?_
   refine W.seq ?_
   refine W.l0 1 [.y 5 _] [] [] [(0,_),(1,_),(5,_)] [] 28 ⟨aU fun _ _ H _ => R.asg (kI 0 rfl) rfl H,trivial⟩ rfl rfl rfl rfl (tU rfl ?_)
   refine W.block ?_
   refine W.loop (α := {q__ : Nat // q__ ≤ a.length ∧ ∀ j < q__,a[j]! = b[j]!}) (fun q__ => ⟨28,[(0,.sl none 1 (a.map bytesD)),(1,.sl none 1 (b.map bytesD)),(5,.int ((q__.1 : Nat) : Int))],[]⟩) (fun q__ => a.length - q__.1) ⟨(0),⟨Nat.zero_le _,fun j h => absurd h (Nat.not_lt_zero _)⟩⟩ rfl ?_
   rintro ⟨i,⟨hi,heq⟩⟩
   show W _ _ _ _ ⟨28,[(0,.sl none 1 (a.map bytesD)),(1,.sl none 1 (b.map bytesD)),(5,.int ((i : Nat) : Int))],[]⟩
   have hi : i ≤ a.length := hi
   have hlen : a.length = b.length := Decidable.not_not.1 hc10
   have heq : ∀ j < i,a[j]! = b[j]! := heq
   refine W.seq ?_
   refine W.seq ?_
   refine W.l0 4 [.y 11 _,.y 12 _,.y 13 _,.y 14 _] [] [] [(0,_),(1,_),(5,_),(14,_)] [] 28 ⟨mU 5 rfl rfl,mU 0 rfl rfl,aU fun _ _ H K => R.lenE (SC.sl (K 12 _ rfl)) (List.length_map _) H,aU fun _ _ H K => R.lssN (i) (a.length) (eU K 11 rfl) (eU K 13 rfl) H,trivial⟩ rfl rfl rfl rfl (tU rfl ?_)
   refine W.condD rfl (fun hc14 => ?_) (fun hc14 => ?_)
   · refine W.skip ?_
     refine W.seq ?_
     refine W.block ?_
     refine W.seq ?_
     refine W.draw (m := 11) (an := [0,0,3,7,15,0,0,96,224,480,1023]) hP (by decide) rfl (its := [.y 17 _,.y 18 _,.y 19 _,.y 20 _,.y 21 _,.y 22 _,.y 23 _,.y 24 _,.y 25 _,.y 26 _,.y 27 _]) (ks := []) (kk := []) (live := [0,1,5,27]) (env' := [(0,_),(1,_),(5,_),(27,_)]) (⟨nU rfl,rfl,⟨mU 0 rfl rfl,mU 5 rfl rfl,aU fun _ _ H K => R.idxN (i) (SC.sl (K 17 _ rfl)) (evoI (eU K 18 rfl)) rfl bU H (by decide),aU fun _ _ H K => R.ldE (K 19 _ rfl) (SC.sl (K 17 _ rfl)) (map_get! (l := a) bU) rfl rfl rfl rfl H,aU fun _ _ H K => R.cvS (xs := a[i]!) (SC.sl (K 20 _ rfl)) H,mU 1 rfl rfl,mU 5 rfl rfl,aU fun _ _ H K => R.idxN (i) (SC.sl (K 22 _ rfl)) (evoI (eU K 23 rfl)) rfl bU H (by decide),aU fun _ _ H K => R.ldE (K 24 _ rfl) (SC.sl (K 22 _ rfl)) (map_get! (l := b) bU) rfl rfl rfl rfl H,aU fun _ _ H K => R.cvS (xs := b[i]!) (SC.sl (K 25 _ rfl)) H,aU fun _ _ H K => R.bin (eU K 21 rfl) (eU K 26 rfl) rfl trivial H,trivial⟩,rfl,rfl,rfl⟩) rfl (bx' := []) rfl (n' := 28) rfl (tV [(0,_),(1,_),(5,_),(27,_)] [] 28 rfl rfl rfl ?_)
     refine W.cond rfl (fun hc27 => ?_) (fun hc27 => ?_)
     · refine W.seq ?_
       refine W.l0 1 [.y 4 _] [] [] [(4,_)] [] 28 ⟨aU fun _ _ H _ => R.asg (kB false rfl) rfl H,trivial⟩ rfl rfl rfl rfl (tU rfl ?_)
       refine W.ret ?_
       exact Ends.one' (.inr rfl) rfl (congrArg D.bool (ls_f2 hc14 (str_ne hc27)).symm) rfl rfl trivial
     · refine W.skip ?_
       refine W.l0 3 [.y 15 _,.y 16 _,.y 5 _] [] [] [(0,_),(1,_),(5,_)] [] 28 ⟨mU 5 rfl rfl,aU fun _ _ H K => R.addN (i) (1) (eU K 15 rfl) (kI 1 rfl) bU H,aU fun _ _ H K => R.asg (eU K 16 rfl) rfl H,trivial⟩ rfl rfl rfl rfl (tU rfl ?_)
       exact ⟨⟨(i + 1),⟨by omega,fun k hk => (Nat.lt_succ_iff_lt_or_eq.1 hk).elim (heq k) (fun e => by rw [e]; exact str_eq hc27)⟩⟩,rfl,(by simp only []; omega)⟩
   · obtain rfl : i = a.length := by omega
     refine W.exit ?_
     refine W.seq ?_
     refine W.l0 1 [.y 4 _] [] [] [(4,_)] [] 28 ⟨aU fun _ _ H _ => R.asg (kB true rfl) rfl H,trivial⟩ rfl rfl rfl rfl (tU rfl ?_)
     refine W.ret ?_
     exact Ends.one' (.inr rfl) rfl (congrArg D.bool (ls_t hlen heq).symm) rfl rfl trivial

end Go.Sx

namespace Go.Sx
open Go.Proofs
def eqL {α : Type} [Inhabited α] (f : α → α → Bool) (a b : List α) : Bool := decide (a.length = b.length) && (List.range a.length).all fun i => f a[i]! b[i]!
def eqB (a b : List UInt8) : Bool := a == b
theorem eqL_f1 {α : Type} [Inhabited α] {f : α → α → Bool} {a b : List α} (h : a.length ≠ b.length) : eqL f a b = false := by simp [eqL,h]
theorem eqL_f2 {α : Type} [Inhabited α] {f : α → α → Bool} {a b : List α} (h : a.length = b.length) {i : Nat} (hi : i < a.length) (hf : f a[i]! b[i]! = false) : eqL f a b = false := by
 unfold eqL
 rw [decide_eq_true h,Bool.true_and,List.all_eq_false]
 exact ⟨i,List.mem_range.2 hi,by rw [hf]; simp⟩
theorem eqL_t {α : Type} [Inhabited α] {f : α → α → Bool} {a b : List α} (h : a.length = b.length) (he : ∀ j < a.length,f a[j]! b[j]! = true) : eqL f a b = true := by
 unfold eqL
 rw [decide_eq_true h,Bool.true_and,List.all_eq_true]
 exact fun i hi => he i (List.mem_range.1 hi)
def eqIn (x y : InS) : Bool := plc x == plc y && x.seq == y.seq && x.script == y.script && eqL eqB x.wit y.wit
def eqOut (x y : OutS) : Bool := x.value == y.value && x.script == y.script
theorem not_trueB {b : Bool} (h : (!b) = true) : b = false := by cases b <;> simp_all
theorem not_falseB {b : Bool} (h : (!b) = false) : b = true := by cases b <;> simp_all
def sameS (t u : TxS) : Bool := t.ver == u.ver && t.lock == u.lock && eqL eqIn t.ins u.ins && eqL eqOut t.outs u.outs
end Go.Sx

namespace Go.Sx
open Go.Proofs
theorem eqfB_ok (a b : List (List UInt8)) (ha : a.length ≤ 1000000) (hb : b.length ≤ 1000000) : Fn Tryd.prog gl 54 [.sl none 1 (a.map bytesD),.sl none 1 (b.map bytesD),.fn 46 []] (.bool (eqL eqB a b)) := by
 refine Fn.of (n := 32) Tryd.func54 rfl rfl rfl (nU rfl) fun C hC hD => ?_
 refine W.seq ?_
 refine W.l0 1 [.y 6 _] [] [] [(0,_),(1,_),(2,_)] [] 32 ⟨aU fun _ _ H _ => R.asg (kB false rfl) rfl H,trivial⟩ rfl rfl rfl rfl (tU rfl ?_)
 refine W.seq ?_
 refine W.seq ?_
 refine W.l0 5 [.y 10 _,.y 11 _,.y 12 _,.y 13 _,.y 14 _] [] [] [(0,_),(1,_),(2,_),(14,_)] [] 32 ⟨mU 0 rfl rfl,aU fun _ _ H K => R.lenE (SC.sl (K 10 _ rfl)) (List.length_map _) H,mU 1 rfl rfl,aU fun _ _ H K => R.lenE (SC.sl (K 12 _ rfl)) (List.length_map _) H,aU fun _ _ H K => R.neqN (a.length) (b.length) (eU K 11 rfl) (eU K 13 rfl) H,trivial⟩ rfl rfl rfl rfl (tU rfl ?_)
 refine W.condD rfl (fun hc14 => ?_) (fun hc14 => ?_)
 · refine W.seq ?_
   refine W.l0 1 [.y 6 _] [] [] [(6,_)] [] 32 ⟨aU fun _ _ H _ => R.asg (kB false rfl) rfl H,trivial⟩ rfl rfl rfl rfl (tU rfl ?_)
   refine W.ret ?_
   exact Ends.one' (.inr rfl) rfl (congrArg D.bool (eqL_f1 hc14).symm) rfl rfl trivial
 · refine W.skip ?_
   refine W.seq ?_
   refine W.seq ?_
   refine W.l0 3 [.y 15 _,.y 16 _,.y 17 _] [] [] [(1,_),(2,_),(15,_),(16,_),(17,_)] [] 32 ⟨mU 0 rfl rfl,aU fun _ _ H K => R.lenE (SC.sl (K 15 _ rfl)) (List.length_map _) H,aU fun _ _ H _ => R.mov (kI 0 rfl) rfl H,trivial⟩ rfl rfl rfl rfl (tU rfl ?_)
   refine W.block ?_
   refine W.loop (α := {q__ : Nat // q__ ≤ a.length ∧ ∀ j < q__,eqB a[j]! b[j]! = true}) (fun q__ => ⟨32,[(1,.sl none 1 (b.map bytesD)),(2,.fn 46 []),(15,.sl none 1 (a.map bytesD)),(16,.int ((a.length : Nat) : Int)),(17,.int ((q__.1 : Nat) : Int))],[]⟩) (fun q__ => a.length - q__.1) ⟨(0),⟨Nat.zero_le _,fun j h => absurd h (Nat.not_lt_zero _)⟩⟩ rfl ?_
   rintro ⟨i,⟨hi,heq⟩⟩
   show W _ _ _ _ ⟨32,[(1,.sl none 1 (b.map bytesD)),(2,.fn 46 []),(15,.sl none 1 (a.map bytesD)),(16,.int ((a.length : Nat) : Int)),(17,.int ((i : Nat) : Int))],[]⟩
   have hi : i ≤ a.length := hi
   have hlen : a.length = b.length := Decidable.not_not.1 hc14
   have heq : ∀ j < i,eqB a[j]! b[j]! = true := heq
   refine W.seq ?_
   refine W.l0 1 [.y 18 _] [] [] [(1,_),(2,_),(15,_),(16,_),(17,_),(18,_)] [] 32 ⟨aU fun _ _ H K => R.lssN (i) (a.length) (eU K 17 rfl) (eU K 16 rfl) H,trivial⟩ rfl rfl rfl rfl (tU rfl ?_)
   refine W.seq ?_
   refine W.condD rfl (fun hc18 => ?_) (fun hc18 => ?_)
   · refine W.skip ?_
     refine W.seq ?_
     refine W.block ?_
     refine W.seq ?_
     refine W.l0 5 [.y 19 _,.y 20 _,.y 21 _,.y 7 _,.y 8 _] [] [] [(1,_),(2,_),(7,_),(8,_),(15,_),(16,_),(17,_)] [] 32 ⟨mU 17 rfl rfl,aU fun _ _ H K => R.idxN (i) (SC.sl (K 15 _ rfl)) (evoI (eU K 17 rfl)) rfl bU H (by decide),aU fun _ _ H K => R.ldE (K 20 _ rfl) (SC.sl (K 15 _ rfl)) (map_get! (l := a) bU) rfl rfl rfl rfl H,aU fun _ _ H K => R.asg (eU K 19 rfl) rfl H,aU fun _ _ H K => R.asg (eU K 21 rfl) rfl H,trivial⟩ rfl rfl rfl rfl (tU rfl ?_)
     refine W.seq ?_
     refine W.l0 5 [.y 22 _,.y 23 _,.y 24 _,.y 25 _,.y 9 _] [] [] [(1,_),(2,_),(8,_),(9,_),(15,_),(16,_),(17,_)] [] 32 ⟨mU 1 rfl rfl,mU 7 rfl rfl,aU fun _ _ H K => R.idxN (i) (SC.sl (K 22 _ rfl)) (evoI (eU K 23 rfl)) rfl bU H (by decide),aU fun _ _ H K => R.ldE (K 24 _ rfl) (SC.sl (K 22 _ rfl)) (map_get! (l := b) bU) rfl rfl rfl rfl H,aU fun _ _ H K => R.asg (eU K 25 rfl) rfl H,trivial⟩ rfl rfl rfl rfl (tU rfl ?_)
     refine W.seq ?_
     refine W.l0 5 [.y 26 _,.y 27 _,.y 28 _,.y 29 _,.y 30 _] [] [] [(1,_),(2,_),(15,_),(16,_),(17,_),(30,_)] [] 32 ⟨mU 2 rfl rfl,mU 8 rfl rfl,mU 9 rfl rfl,aU fun _ _ H K => R.callV hC (K 26 _ rfl) (beq_ok a[i]! b[i]!) (Bors.cons (Bor.pur (eU K 27 rfl) rfl rfl) (Bors.cons (Bor.pur (eU K 28 rfl) rfl rfl) Bors.nil)) (FrsR.one (.bool _)) H,aU fun _ _ H K => R.un (eU K 29 rfl) rfl H,trivial⟩ rfl rfl rfl rfl (tU rfl ?_)
     refine W.cond rfl (fun hc30 => ?_) (fun hc30 => ?_)
     · refine W.seq ?_
       refine W.l0 1 [.y 6 _] [] [] [(6,_)] [] 32 ⟨aU fun _ _ H _ => R.asg (kB false rfl) rfl H,trivial⟩ rfl rfl rfl rfl (tU rfl ?_)
       refine W.ret ?_
       exact Ends.one' (.inr rfl) rfl (congrArg D.bool (eqL_f2 hlen hc18 (not_trueB hc30)).symm) rfl rfl trivial
     · refine W.skip ?_
       refine W.l0 2 [.y 31 _,.y 17 _] [] [] [(1,_),(2,_),(15,_),(16,_),(17,_)] [] 32 ⟨aU fun _ _ H K => R.addN (i) (1) (eU K 17 rfl) (kI 1 rfl) bU H,mU 31 rfl rfl,trivial⟩ rfl rfl rfl rfl (tU rfl ?_)
       exact ⟨⟨(i + 1),⟨by omega,fun k hk => (Nat.lt_succ_iff_lt_or_eq.1 hk).elim (heq k) (fun e => by rw [e]; exact not_falseB hc30)⟩⟩,rfl,(by simp only []; omega)⟩
   · obtain rfl : i = a.length := by omega
     refine W.exit ?_
     refine W.seq ?_
     refine W.l0 1 [.y 6 _] [] [] [(6,_)] [] 32 ⟨aU fun _ _ H _ => R.asg (kB true rfl) rfl H,trivial⟩ rfl rfl rfl rfl (tU rfl ?_)
     refine W.ret ?_
     exact Ends.one' (.inr rfl) rfl (congrArg D.bool (eqL_t hlen heq).symm) rfl rfl trivial

theorem same1_ok (x y : InS) (hx : x.wit.length ≤ 1000000) (hy : y.wit.length ≤ 1000000) : Fn Tryd.prog gl 53 [inD x,inD y] (.bool (eqIn x y)) := by
 refine Fn.of (n := 31) Tryd.func53 rfl rfl rfl (nU rfl) fun C hC hD => ?_
 refine W.seq ?_
 refine W.l0 3 [] [] [] [(0,_),(1,_)] [] 31 trivial rfl rfl rfl rfl (⟨rfl,_,R.box (gV 0 rfl) rfl rfl (nU rfl),⟨rfl,_,R.box (gV 1 rfl) rfl rfl (nU rfl),⟨rfl,_,R.asg (kB false rfl) rfl (nU rfl),tV [(2,_),(3,_)] [(3,.var _),(2,.var _)] 31 rfl rfl rfl ?_⟩⟩⟩)
 refine W.seq ?_
 by_cases h1 : plc x = plc y
 · by_cases h2 : x.seq = y.seq
   · by_cases h3 : x.script = y.script
     · refine W.l0 27 (.y 5 _ :: .y 6 _ :: .y 7 _ :: .y 8 _ :: .y 9 _ :: .y 10 _ :: .y 11 _ :: .y 12 _ :: .y 13 _ :: .y 14 _ :: .y 15 _ :: .y 16 _ :: .y 17 _ :: .y 18 _ :: .y 19 _ :: .y 20 _ :: .y 21 _ :: .y 22 _ :: .y 23 _ :: .y 24 _ :: .y 25 _ :: .y 26 _ :: .y 27 _ :: .y 28 _ :: .y 29 _ :: .y 30 _ :: .y 4 _ :: []) [] [] [(4,_)] [(3,.var _),(2,.var _)] 31 ⟨aU (fU 2 rfl rfl),aU (lU 5 rfl rfl rfl rfl rfl rfl rfl),aU (fU 3 rfl rfl),aU (lU 7 rfl rfl rfl rfl rfl rfl rfl),aU fun _ _ H K => R.eqD (neg := false) (b' := (plc x == plc y)) (eqv_place (plc x) (plc y)) rfl (eU K 6 rfl) (eU K 8 rfl) rfl rfl rfl rfl (rfl) H,mU 9 rfl rfl,aW rfl rfl (gT (beq_iff_eq.2 h1) rfl) (fU 2 rfl rfl),aW rfl rfl (gT (beq_iff_eq.2 h1) rfl) (lU 11 rfl rfl rfl rfl rfl rfl rfl),aW rfl rfl (gT (beq_iff_eq.2 h1) rfl) (fU 3 rfl rfl),aW rfl rfl (gT (beq_iff_eq.2 h1) rfl) (lU 13 rfl rfl rfl rfl rfl rfl rfl),aW rfl rfl (gT (beq_iff_eq.2 h1) rfl) fun _ _ H K => R.bin (eU K 12 rfl) (eU K 14 rfl) rfl trivial H,aU fun _ _ H K => R.pickT (eU K 10 rfl) (beq_iff_eq.2 h1) (eU K 15 rfl) rfl H,mU 16 rfl rfl,aW rfl rfl (gT (by simp [h2]) rfl) (fU 2 rfl rfl),aW rfl rfl (gT (by simp [h2]) rfl) (lU 18 rfl rfl rfl rfl rfl rfl rfl),aW rfl rfl (gT (by simp [h2]) rfl) (fU 3 rfl rfl),aW rfl rfl (gT (by simp [h2]) rfl) (lU 20 rfl rfl rfl rfl rfl rfl rfl),aW rfl rfl (gT (by simp [h2]) rfl) fun _ _ H K => R.callG hC (beq_ok x.script y.script) (Bors.cons (Bor.pur (eU K 19 rfl) rfl rfl) (Bors.cons (Bor.pur (eU K 21 rfl) rfl rfl) Bors.nil)) (FrsR.one (.bool _)) H,aU fun _ _ H K => R.pickT (eU K 17 rfl) (by simp [h2]) (eU K 22 rfl) rfl H,mU 23 rfl rfl,aW rfl rfl (gT (beq_iff_eq.2 h3) rfl) (fU 2 rfl rfl),aW rfl rfl (gT (beq_iff_eq.2 h3) rfl) (lU 25 rfl rfl rfl rfl rfl rfl rfl),aW rfl rfl (gT (beq_iff_eq.2 h3) rfl) (fU 3 rfl rfl),aW rfl rfl (gT (beq_iff_eq.2 h3) rfl) (lU 27 rfl rfl rfl rfl rfl rfl rfl),aW rfl rfl (gT (beq_iff_eq.2 h3) rfl) fun _ _ H K => R.callG hC (eqfB_ok x.wit y.wit hx hy) (Bors.cons (Bor.pur (eU K 26 rfl) rfl rfl) (Bors.cons (Bor.pur (eU K 28 rfl) rfl rfl) (Bors.cons (Bor.pur rfl rfl rfl) Bors.nil))) (FrsR.one (.bool _)) H,aU fun _ _ H K => R.pickT (eU K 24 rfl) (beq_iff_eq.2 h3) (eU K 29 rfl) rfl H,aU fun _ _ H K => R.asg (eU K 30 rfl) rfl H,trivial⟩ rfl rfl rfl rfl (tU rfl ?_)
       refine W.ret ?_
       exact Ends.one' (.inr rfl) rfl (by simp [eqIn,h1,h2,h3]) rfl rfl trivial
     · refine W.l0 27 (.y 5 _ :: .y 6 _ :: .y 7 _ :: .y 8 _ :: .y 9 _ :: .y 10 _ :: .y 11 _ :: .y 12 _ :: .y 13 _ :: .y 14 _ :: .y 15 _ :: .y 16 _ :: .y 17 _ :: .y 18 _ :: .y 19 _ :: .y 20 _ :: .y 21 _ :: .y 22 _ :: .y 23 _ :: .y 24 _ :: .x 25 :: .x 26 :: .x 27 :: .x 28 :: .x 29 :: .y 30 _ :: .y 4 _ :: []) [] [] [(4,_)] [(3,.var _),(2,.var _)] 31 ⟨aU (fU 2 rfl rfl),aU (lU 5 rfl rfl rfl rfl rfl rfl rfl),aU (fU 3 rfl rfl),aU (lU 7 rfl rfl rfl rfl rfl rfl rfl),aU fun _ _ H K => R.eqD (neg := false) (b' := (plc x == plc y)) (eqv_place (plc x) (plc y)) rfl (eU K 6 rfl) (eU K 8 rfl) rfl rfl rfl rfl (rfl) H,mU 9 rfl rfl,aW rfl rfl (gT (beq_iff_eq.2 h1) rfl) (fU 2 rfl rfl),aW rfl rfl (gT (beq_iff_eq.2 h1) rfl) (lU 11 rfl rfl rfl rfl rfl rfl rfl),aW rfl rfl (gT (beq_iff_eq.2 h1) rfl) (fU 3 rfl rfl),aW rfl rfl (gT (beq_iff_eq.2 h1) rfl) (lU 13 rfl rfl rfl rfl rfl rfl rfl),aW rfl rfl (gT (beq_iff_eq.2 h1) rfl) fun _ _ H K => R.bin (eU K 12 rfl) (eU K 14 rfl) rfl trivial H,aU fun _ _ H K => R.pickT (eU K 10 rfl) (beq_iff_eq.2 h1) (eU K 15 rfl) rfl H,mU 16 rfl rfl,aW rfl rfl (gT (by simp [h2]) rfl) (fU 2 rfl rfl),aW rfl rfl (gT (by simp [h2]) rfl) (lU 18 rfl rfl rfl rfl rfl rfl rfl),aW rfl rfl (gT (by simp [h2]) rfl) (fU 3 rfl rfl),aW rfl rfl (gT (by simp [h2]) rfl) (lU 20 rfl rfl rfl rfl rfl rfl rfl),aW rfl rfl (gT (by simp [h2]) rfl) fun _ _ H K => R.callG hC (beq_ok x.script y.script) (Bors.cons (Bor.pur (eU K 19 rfl) rfl rfl) (Bors.cons (Bor.pur (eU K 21 rfl) rfl rfl) Bors.nil)) (FrsR.one (.bool _)) H,aU fun _ _ H K => R.pickT (eU K 17 rfl) (by simp [h2]) (eU K 22 rfl) rfl H,mU 23 rfl rfl,aF rfl rfl (gF (beq_eq_false_iff_ne.2 h3) rfl),aF rfl rfl (gF (beq_eq_false_iff_ne.2 h3) rfl),aF rfl rfl (gF (beq_eq_false_iff_ne.2 h3) rfl),aF rfl rfl (gF (beq_eq_false_iff_ne.2 h3) rfl),aF rfl rfl (gF (beq_eq_false_iff_ne.2 h3) rfl),aU fun _ _ H K => R.pickF (eU K 24 rfl) (beq_eq_false_iff_ne.2 h3) (kB false rfl) rfl H,aU fun _ _ H K => R.asg (eU K 30 rfl) rfl H,trivial⟩ rfl rfl rfl rfl (tU rfl ?_)
       refine W.ret ?_
       exact Ends.one' (.inr rfl) rfl (by simp [eqIn,h1,h2,h3]) rfl rfl trivial
   · refine W.l0 27 (.y 5 _ :: .y 6 _ :: .y 7 _ :: .y 8 _ :: .y 9 _ :: .y 10 _ :: .y 11 _ :: .y 12 _ :: .y 13 _ :: .y 14 _ :: .y 15 _ :: .y 16 _ :: .y 17 _ :: .x 18 :: .x 19 :: .x 20 :: .x 21 :: .x 22 :: .y 23 _ :: .y 24 _ :: .x 25 :: .x 26 :: .x 27 :: .x 28 :: .x 29 :: .y 30 _ :: .y 4 _ :: []) [] [] [(4,_)] [(3,.var _),(2,.var _)] 31 ⟨aU (fU 2 rfl rfl),aU (lU 5 rfl rfl rfl rfl rfl rfl rfl),aU (fU 3 rfl rfl),aU (lU 7 rfl rfl rfl rfl rfl rfl rfl),aU fun _ _ H K => R.eqD (neg := false) (b' := (plc x == plc y)) (eqv_place (plc x) (plc y)) rfl (eU K 6 rfl) (eU K 8 rfl) rfl rfl rfl rfl (rfl) H,mU 9 rfl rfl,aW rfl rfl (gT (beq_iff_eq.2 h1) rfl) (fU 2 rfl rfl),aW rfl rfl (gT (beq_iff_eq.2 h1) rfl) (lU 11 rfl rfl rfl rfl rfl rfl rfl),aW rfl rfl (gT (beq_iff_eq.2 h1) rfl) (fU 3 rfl rfl),aW rfl rfl (gT (beq_iff_eq.2 h1) rfl) (lU 13 rfl rfl rfl rfl rfl rfl rfl),aW rfl rfl (gT (beq_iff_eq.2 h1) rfl) fun _ _ H K => R.bin (eU K 12 rfl) (eU K 14 rfl) rfl trivial H,aU fun _ _ H K => R.pickT (eU K 10 rfl) (beq_iff_eq.2 h1) (eU K 15 rfl) rfl H,mU 16 rfl rfl,aF rfl rfl (gF (by simp [h2]) rfl),aF rfl rfl (gF (by simp [h2]) rfl),aF rfl rfl (gF (by simp [h2]) rfl),aF rfl rfl (gF (by simp [h2]) rfl),aF rfl rfl (gF (by simp [h2]) rfl),aU fun _ _ H K => R.pickF (eU K 17 rfl) (by simp [h2]) (kB false rfl) rfl H,mU 23 rfl rfl,aF rfl rfl (gF (rfl) rfl),aF rfl rfl (gF (rfl) rfl),aF rfl rfl (gF (rfl) rfl),aF rfl rfl (gF (rfl) rfl),aF rfl rfl (gF (rfl) rfl),aU fun _ _ H K => R.pickF (eU K 24 rfl) (rfl) (kB false rfl) rfl H,aU fun _ _ H K => R.asg (eU K 30 rfl) rfl H,trivial⟩ rfl rfl rfl rfl (tU rfl ?_)
     refine W.ret ?_
     exact Ends.one' (.inr rfl) rfl (by simp [eqIn,h1,h2]) rfl rfl trivial
 · refine W.l0 27 (.y 5 _ :: .y 6 _ :: .y 7 _ :: .y 8 _ :: .y 9 _ :: .y 10 _ :: .x 11 :: .x 12 :: .x 13 :: .x 14 :: .x 15 :: .y 16 _ :: .y 17 _ :: .x 18 :: .x 19 :: .x 20 :: .x 21 :: .x 22 :: .y 23 _ :: .y 24 _ :: .x 25 :: .x 26 :: .x 27 :: .x 28 :: .x 29 :: .y 30 _ :: .y 4 _ :: []) [] [] [(4,_)] [(3,.var _),(2,.var _)] 31 ⟨aU (fU 2 rfl rfl),aU (lU 5 rfl rfl rfl rfl rfl rfl rfl),aU (fU 3 rfl rfl),aU (lU 7 rfl rfl rfl rfl rfl rfl rfl),aU fun _ _ H K => R.eqD (neg := false) (b' := (plc x == plc y)) (eqv_place (plc x) (plc y)) rfl (eU K 6 rfl) (eU K 8 rfl) rfl rfl rfl rfl (rfl) H,mU 9 rfl rfl,aF rfl rfl (gF (beq_eq_false_iff_ne.2 h1) rfl),aF rfl rfl (gF (beq_eq_false_iff_ne.2 h1) rfl),aF rfl rfl (gF (beq_eq_false_iff_ne.2 h1) rfl),aF rfl rfl (gF (beq_eq_false_iff_ne.2 h1) rfl),aF rfl rfl (gF (beq_eq_false_iff_ne.2 h1) rfl),aU fun _ _ H K => R.pickF (eU K 10 rfl) (beq_eq_false_iff_ne.2 h1) (kB false rfl) rfl H,mU 16 rfl rfl,aF rfl rfl (gF (rfl) rfl),aF rfl rfl (gF (rfl) rfl),aF rfl rfl (gF (rfl) rfl),aF rfl rfl (gF (rfl) rfl),aF rfl rfl (gF (rfl) rfl),aU fun _ _ H K => R.pickF (eU K 17 rfl) (rfl) (kB false rfl) rfl H,mU 23 rfl rfl,aF rfl rfl (gF (rfl) rfl),aF rfl rfl (gF (rfl) rfl),aF rfl rfl (gF (rfl) rfl),aF rfl rfl (gF (rfl) rfl),aF rfl rfl (gF (rfl) rfl),aU fun _ _ H K => R.pickF (eU K 24 rfl) (rfl) (kB false rfl) rfl H,aU fun _ _ H K => R.asg (eU K 30 rfl) rfl H,trivial⟩ rfl rfl rfl rfl (tU rfl ?_)
   refine W.ret ?_
   exact Ends.one' (.inr rfl) rfl (by simp [eqIn,h1]) rfl rfl trivial

theorem same2_ok (x y : OutS) : Fn Tryd.prog gl 55 [outD x,outD y] (.bool (eqOut x y)) := by
 refine Fn.of (n := 17) Tryd.func55 rfl rfl rfl (nU rfl) fun C hC hD => ?_
 refine W.seq ?_
 refine W.l0 3 [] [] [] [(0,_),(1,_)] [] 17 trivial rfl rfl rfl rfl (⟨rfl,_,R.box (gV 0 rfl) rfl rfl (nU rfl),⟨rfl,_,R.box (gV 1 rfl) rfl rfl (nU rfl),⟨rfl,_,R.asg (kB false rfl) rfl (nU rfl),tV [(2,_),(3,_)] [(3,.var _),(2,.var _)] 17 rfl rfl rfl ?_⟩⟩⟩)
 refine W.seq ?_
 by_cases h1 : x.value = y.value
 · refine W.l0 13 [.y 5 _,.y 6 _,.y 7 _,.y 8 _,.y 9 _,.y 10 _,.y 11 _,.y 12 _,.y 13 _,.y 14 _,.y 15 _,.y 16 _,.y 4 _] [] [] [(4,_)] [(3,.var _),(2,.var _)] 17 ⟨aU (fU 2 rfl rfl),aU (lU 5 rfl rfl rfl rfl rfl rfl rfl),aU (fU 3 rfl rfl),aU (lU 7 rfl rfl rfl rfl rfl rfl rfl),aU fun _ _ H K => R.bin (eU K 6 rfl) (eU K 8 rfl) rfl trivial H,mU 9 rfl rfl,aW rfl rfl (gT (by simp [h1]) rfl) (fU 2 rfl rfl),aW rfl rfl (gT (by simp [h1]) rfl) (lU 11 rfl rfl rfl rfl rfl rfl rfl),aW rfl rfl (gT (by simp [h1]) rfl) (fU 3 rfl rfl),aW rfl rfl (gT (by simp [h1]) rfl) (lU 13 rfl rfl rfl rfl rfl rfl rfl),aW rfl rfl (gT (by simp [h1]) rfl) fun _ _ H K => R.callG hC (beq_ok x.script y.script) (Bors.cons (Bor.pur (eU K 12 rfl) rfl rfl) (Bors.cons (Bor.pur (eU K 14 rfl) rfl rfl) Bors.nil)) (FrsR.one (.bool _)) H,aU fun _ _ H K => R.pickT (eU K 10 rfl) (by simp [h1]) (eU K 15 rfl) rfl H,aU fun _ _ H K => R.asg (eU K 16 rfl) rfl H,trivial⟩ rfl rfl rfl rfl (tU rfl ?_)
   refine W.ret ?_
   exact Ends.one' (.inr rfl) rfl (by simp [eqOut,h1]) rfl rfl trivial
 · refine W.l0 13 [.y 5 _,.y 6 _,.y 7 _,.y 8 _,.y 9 _,.y 10 _,.x 11,.x 12,.x 13,.x 14,.x 15,.y 16 _,.y 4 _] [] [] [(4,_)] [(3,.var _),(2,.var _)] 17 ⟨aU (fU 2 rfl rfl),aU (lU 5 rfl rfl rfl rfl rfl rfl rfl),aU (fU 3 rfl rfl),aU (lU 7 rfl rfl rfl rfl rfl rfl rfl),aU fun _ _ H K => R.bin (eU K 6 rfl) (eU K 8 rfl) rfl trivial H,mU 9 rfl rfl,aF rfl rfl (gF (by simp [h1]) rfl),aF rfl rfl (gF (by simp [h1]) rfl),aF rfl rfl (gF (by simp [h1]) rfl),aF rfl rfl (gF (by simp [h1]) rfl),aF rfl rfl (gF (by simp [h1]) rfl),aU fun _ _ H K => R.pickF (eU K 10 rfl) (by simp [h1]) (kB false rfl) rfl H,aU fun _ _ H K => R.asg (eU K 16 rfl) rfl H,trivial⟩ rfl rfl rfl rfl (tU rfl ?_)
   refine W.ret ?_
   exact Ends.one' (.inr rfl) rfl (by simp [eqOut,h1]) rfl rfl trivial

theorem eqfI_ok (a b : List InS) (ha : a.length ≤ 1000000) (hb : b.length ≤ 1000000) (hA : ∀ x ∈ a,x.wit.length ≤ 1000000) (hB : ∀ x ∈ b,x.wit.length ≤ 1000000) : Fn Tryd.prog gl 56 [.sl none 36 (a.map inD),.sl none 36 (b.map inD),.fn 53 []] (.bool (eqL eqIn a b)) := by
 refine Fn.of (n := 32) Tryd.func56 rfl rfl rfl (nU rfl) fun C hC hD => ?_
 refine W.seq ?_
 refine W.l0 1 [.y 6 _] [] [] [(0,_),(1,_),(2,_)] [] 32 ⟨aU fun _ _ H _ => R.asg (kB false rfl) rfl H,trivial⟩ rfl rfl rfl rfl (tU rfl ?_)
 refine W.seq ?_
 refine W.seq ?_
 refine W.l0 5 [.y 10 _,.y 11 _,.y 12 _,.y 13 _,.y 14 _] [] [] [(0,_),(1,_),(2,_),(14,_)] [] 32 ⟨mU 0 rfl rfl,aU fun _ _ H K => R.lenE (SC.sl (K 10 _ rfl)) (List.length_map _) H,mU 1 rfl rfl,aU fun _ _ H K => R.lenE (SC.sl (K 12 _ rfl)) (List.length_map _) H,aU fun _ _ H K => R.neqN (a.length) (b.length) (eU K 11 rfl) (eU K 13 rfl) H,trivial⟩ rfl rfl rfl rfl (tU rfl ?_)
 refine W.condD rfl (fun hc14 => ?_) (fun hc14 => ?_)
 · refine W.seq ?_
   refine W.l0 1 [.y 6 _] [] [] [(6,_)] [] 32 ⟨aU fun _ _ H _ => R.asg (kB false rfl) rfl H,trivial⟩ rfl rfl rfl rfl (tU rfl ?_)
   refine W.ret ?_
   exact Ends.one' (.inr rfl) rfl (congrArg D.bool (eqL_f1 hc14).symm) rfl rfl trivial
 · refine W.skip ?_
   refine W.seq ?_
   refine W.seq ?_
   refine W.l0 3 [.y 15 _,.y 16 _,.y 17 _] [] [] [(1,_),(2,_),(15,_),(16,_),(17,_)] [] 32 ⟨mU 0 rfl rfl,aU fun _ _ H K => R.lenE (SC.sl (K 15 _ rfl)) (List.length_map _) H,aU fun _ _ H _ => R.mov (kI 0 rfl) rfl H,trivial⟩ rfl rfl rfl rfl (tU rfl ?_)
   refine W.block ?_
   refine W.loop (α := {q__ : Nat // q__ ≤ a.length ∧ ∀ j < q__,eqIn a[j]! b[j]! = true}) (fun q__ => ⟨32,[(1,.sl none 36 (b.map inD)),(2,.fn 53 []),(15,.sl none 36 (a.map inD)),(16,.int ((a.length : Nat) : Int)),(17,.int ((q__.1 : Nat) : Int))],[]⟩) (fun q__ => a.length - q__.1) ⟨(0),⟨Nat.zero_le _,fun j h => absurd h (Nat.not_lt_zero _)⟩⟩ rfl ?_
   rintro ⟨i,⟨hi,heq⟩⟩
   show W _ _ _ _ ⟨32,[(1,.sl none 36 (b.map inD)),(2,.fn 53 []),(15,.sl none 36 (a.map inD)),(16,.int ((a.length : Nat) : Int)),(17,.int ((i : Nat) : Int))],[]⟩
   have hi : i ≤ a.length := hi
   have hlen : a.length = b.length := Decidable.not_not.1 hc14
   have heq : ∀ j < i,eqIn a[j]! b[j]! = true := heq
   refine W.seq ?_
   refine W.l0 1 [.y 18 _] [] [] [(1,_),(2,_),(15,_),(16,_),(17,_),(18,_)] [] 32 ⟨aU fun _ _ H K => R.lssN (i) (a.length) (eU K 17 rfl) (eU K 16 rfl) H,trivial⟩ rfl rfl rfl rfl (tU rfl ?_)
   refine W.seq ?_
   refine W.condD rfl (fun hc18 => ?_) (fun hc18 => ?_)
   · refine W.skip ?_
     refine W.seq ?_
     refine W.block ?_
     refine W.seq ?_
     refine W.l0 6 [.y 19 _,.y 20 _,.y 21 _] [] [] [(1,_),(2,_),(15,_),(16,_),(17,_),(19,_),(21,_)] [] 32 ⟨mU 17 rfl rfl,aU fun _ _ H K => R.idxN (i) (SC.sl (K 15 _ rfl)) (evoI (eU K 17 rfl)) rfl bU H (by decide),aU fun _ _ H K => R.ldE (K 20 _ rfl) (SC.sl (K 15 _ rfl)) (map_get! (l := a) bU) rfl rfl rfl rfl H,trivial⟩ rfl rfl rfl rfl (⟨rfl,_,R.alloc rfl (nU rfl),⟨rfl,_,R.asg (gV 19 rfl) rfl (nU rfl),⟨rfl,_,R.stZ (gU 8 rfl) (xU 8 rfl) rfl (gV 21 rfl) (by rfl) (by rfl) (by rfl) (by rfl) rfl,tV [(1,_),(2,_),(7,_),(8,_),(15,_),(16,_),(17,_)] [(8,.var _)] 32 rfl rfl rfl ?_⟩⟩⟩)
     refine W.seq ?_
     refine W.l0 6 [.y 22 _,.y 23 _,.y 24 _,.y 25 _] [] [] [(1,_),(2,_),(8,_),(15,_),(16,_),(17,_),(25,_)] [(8,.var _)] 32 ⟨mU 1 rfl rfl,mU 7 rfl rfl,aU fun _ _ H K => R.idxN (i) (SC.sl (K 22 _ rfl)) (evoI (eU K 23 rfl)) rfl bU H (by decide),aU fun _ _ H K => R.ldE (K 24 _ rfl) (SC.sl (K 22 _ rfl)) (map_get! (l := b) bU) rfl rfl rfl rfl H,trivial⟩ rfl rfl rfl rfl (⟨rfl,_,R.alloc rfl (nU rfl),⟨rfl,_,R.stZ (gU 9 rfl) (xU 9 rfl) rfl (gV 25 rfl) (by rfl) (by rfl) (by rfl) (by rfl) rfl,tV [(1,_),(2,_),(8,_),(9,_),(15,_),(16,_),(17,_)] [(9,.var _),(8,.var _)] 32 rfl rfl rfl ?_⟩⟩)
     refine W.seq ?_
     refine W.l0 5 [.y 26 _,.y 27 _,.y 28 _,.y 29 _,.y 30 _] [] [] [(1,_),(2,_),(15,_),(16,_),(17,_),(30,_)] [(9,.var _),(8,.var _)] 32 ⟨mU 2 rfl rfl,aU (lU 8 rfl rfl rfl rfl rfl rfl rfl),aU (lU 9 rfl rfl rfl rfl rfl rfl rfl),aU fun _ _ H K => R.callV hC (K 26 _ rfl) (same1_ok a[i]! b[i]! (hA _ (get_mem (by omega))) (hB _ (get_mem (by omega)))) (Bors.cons (Bor.pur (eU K 27 rfl) rfl rfl) (Bors.cons (Bor.pur (eU K 28 rfl) rfl rfl) Bors.nil)) (FrsR.one (.bool _)) H,aU fun _ _ H K => R.un (eU K 29 rfl) rfl H,trivial⟩ rfl rfl rfl rfl (tU rfl ?_)
     refine W.cond rfl (fun hc30 => ?_) (fun hc30 => ?_)
     · refine W.seq ?_
       refine W.dropB [] (bx' := []) rfl rfl rfl (pin_sub hD rfl) ?_
       refine W.l0 1 [.y 6 _] [] [] [(6,_)] [] 32 ⟨aU fun _ _ H _ => R.asg (kB false rfl) rfl H,trivial⟩ rfl rfl rfl rfl (tU rfl ?_)
       refine W.ret ?_
       exact Ends.one' (.inr rfl) rfl (congrArg D.bool (eqL_f2 hlen hc18 (not_trueB hc30)).symm) rfl rfl trivial
     · refine W.skip ?_
       refine W.dropB [] (bx' := []) rfl rfl rfl (pin_sub hD rfl) ?_
       refine W.l0 2 [.y 31 _,.y 17 _] [] [] [(1,_),(2,_),(15,_),(16,_),(17,_)] [] 32 ⟨aU fun _ _ H K => R.addN (i) (1) (eU K 17 rfl) (kI 1 rfl) bU H,mU 31 rfl rfl,trivial⟩ rfl rfl rfl rfl (tU rfl ?_)
       exact ⟨⟨(i + 1),⟨by omega,fun k hk => (Nat.lt_succ_iff_lt_or_eq.1 hk).elim (heq k) (fun e => by rw [e]; exact not_falseB hc30)⟩⟩,rfl,(by simp only []; omega)⟩
   · obtain rfl : i = a.length := by omega
     refine W.exit ?_
     refine W.seq ?_
     refine W.l0 1 [.y 6 _] [] [] [(6,_)] [] 32 ⟨aU fun _ _ H _ => R.asg (kB true rfl) rfl H,trivial⟩ rfl rfl rfl rfl (tU rfl ?_)
     refine W.ret ?_
     exact Ends.one' (.inr rfl) rfl (congrArg D.bool (eqL_t hlen heq).symm) rfl rfl trivial

theorem eqfO_ok (a b : List OutS) (ha : a.length ≤ 1000000) (hb : b.length ≤ 1000000) : Fn Tryd.prog gl 57 [.sl none 2 (a.map outD),.sl none 2 (b.map outD),.fn 55 []] (.bool (eqL eqOut a b)) := by
 refine Fn.of (n := 32) Tryd.func57 rfl rfl rfl (nU rfl) fun C hC hD => ?_
 refine W.seq ?_
 refine W.l0 1 [.y 6 _] [] [] [(0,_),(1,_),(2,_)] [] 32 ⟨aU fun _ _ H _ => R.asg (kB false rfl) rfl H,trivial⟩ rfl rfl rfl rfl (tU rfl ?_)
 refine W.seq ?_
 refine W.seq ?_
 refine W.l0 5 [.y 10 _,.y 11 _,.y 12 _,.y 13 _,.y 14 _] [] [] [(0,_),(1,_),(2,_),(14,_)] [] 32 ⟨mU 0 rfl rfl,aU fun _ _ H K => R.lenE (SC.sl (K 10 _ rfl)) (List.length_map _) H,mU 1 rfl rfl,aU fun _ _ H K => R.lenE (SC.sl (K 12 _ rfl)) (List.length_map _) H,aU fun _ _ H K => R.neqN (a.length) (b.length) (eU K 11 rfl) (eU K 13 rfl) H,trivial⟩ rfl rfl rfl rfl (tU rfl ?_)
 refine W.condD rfl (fun hc14 => ?_) (fun hc14 => ?_)
 · refine W.seq ?_
   refine W.l0 1 [.y 6 _] [] [] [(6,_)] [] 32 ⟨aU fun _ _ H _ => R.asg (kB false rfl) rfl H,trivial⟩ rfl rfl rfl rfl (tU rfl ?_)
   refine W.ret ?_
   exact Ends.one' (.inr rfl) rfl (congrArg D.bool (eqL_f1 hc14).symm) rfl rfl trivial
 · refine W.skip ?_
   refine W.seq ?_
   refine W.seq ?_
   refine W.l0 3 [.y 15 _,.y 16 _,.y 17 _] [] [] [(1,_),(2,_),(15,_),(16,_),(17,_)] [] 32 ⟨mU 0 rfl rfl,aU fun _ _ H K => R.lenE (SC.sl (K 15 _ rfl)) (List.length_map _) H,aU fun _ _ H _ => R.mov (kI 0 rfl) rfl H,trivial⟩ rfl rfl rfl rfl (tU rfl ?_)
   refine W.block ?_
   refine W.loop (α := {q__ : Nat // q__ ≤ a.length ∧ ∀ j < q__,eqOut a[j]! b[j]! = true}) (fun q__ => ⟨32,[(1,.sl none 2 (b.map outD)),(2,.fn 55 []),(15,.sl none 2 (a.map outD)),(16,.int ((a.length : Nat) : Int)),(17,.int ((q__.1 : Nat) : Int))],[]⟩) (fun q__ => a.length - q__.1) ⟨(0),⟨Nat.zero_le _,fun j h => absurd h (Nat.not_lt_zero _)⟩⟩ rfl ?_
   rintro ⟨i,⟨hi,heq⟩⟩
   show W _ _ _ _ ⟨32,[(1,.sl none 2 (b.map outD)),(2,.fn 55 []),(15,.sl none 2 (a.map outD)),(16,.int ((a.length : Nat) : Int)),(17,.int ((i : Nat) : Int))],[]⟩
   have hi : i ≤ a.length := hi
   have hlen : a.length = b.length := Decidable.not_not.1 hc14
   have heq : ∀ j < i,eqOut a[j]! b[j]! = true := heq
   refine W.seq ?_
   refine W.l0 1 [.y 18 _] [] [] [(1,_),(2,_),(15,_),(16,_),(17,_),(18,_)] [] 32 ⟨aU fun _ _ H K => R.lssN (i) (a.length) (eU K 17 rfl) (eU K 16 rfl) H,trivial⟩ rfl rfl rfl rfl (tU rfl ?_)
   refine W.seq ?_
   refine W.condD rfl (fun hc18 => ?_) (fun hc18 => ?_)
   · refine W.skip ?_
     refine W.seq ?_
     refine W.block ?_
     refine W.seq ?_
     refine W.l0 6 [.y 19 _,.y 20 _,.y 21 _] [] [] [(1,_),(2,_),(15,_),(16,_),(17,_),(19,_),(21,_)] [] 32 ⟨mU 17 rfl rfl,aU fun _ _ H K => R.idxN (i) (SC.sl (K 15 _ rfl)) (evoI (eU K 17 rfl)) rfl bU H (by decide),aU fun _ _ H K => R.ldE (K 20 _ rfl) (SC.sl (K 15 _ rfl)) (map_get! (l := a) bU) rfl rfl rfl rfl H,trivial⟩ rfl rfl rfl rfl (⟨rfl,_,R.alloc rfl (nU rfl),⟨rfl,_,R.asg (gV 19 rfl) rfl (nU rfl),⟨rfl,_,R.stZ (gU 8 rfl) (xU 8 rfl) rfl (gV 21 rfl) (by rfl) (by rfl) (by rfl) (by rfl) rfl,tV [(1,_),(2,_),(7,_),(8,_),(15,_),(16,_),(17,_)] [(8,.var _)] 32 rfl rfl rfl ?_⟩⟩⟩)
     refine W.seq ?_
     refine W.l0 6 [.y 22 _,.y 23 _,.y 24 _,.y 25 _] [] [] [(1,_),(2,_),(8,_),(15,_),(16,_),(17,_),(25,_)] [(8,.var _)] 32 ⟨mU 1 rfl rfl,mU 7 rfl rfl,aU fun _ _ H K => R.idxN (i) (SC.sl (K 22 _ rfl)) (evoI (eU K 23 rfl)) rfl bU H (by decide),aU fun _ _ H K => R.ldE (K 24 _ rfl) (SC.sl (K 22 _ rfl)) (map_get! (l := b) bU) rfl rfl rfl rfl H,trivial⟩ rfl rfl rfl rfl (⟨rfl,_,R.alloc rfl (nU rfl),⟨rfl,_,R.stZ (gU 9 rfl) (xU 9 rfl) rfl (gV 25 rfl) (by rfl) (by rfl) (by rfl) (by rfl) rfl,tV [(1,_),(2,_),(8,_),(9,_),(15,_),(16,_),(17,_)] [(9,.var _),(8,.var _)] 32 rfl rfl rfl ?_⟩⟩)
     refine W.seq ?_
     refine W.l0 5 [.y 26 _,.y 27 _,.y 28 _,.y 29 _,.y 30 _] [] [] [(1,_),(2,_),(15,_),(16,_),(17,_),(30,_)] [(9,.var _),(8,.var _)] 32 ⟨mU 2 rfl rfl,aU (lU 8 rfl rfl rfl rfl rfl rfl rfl),aU (lU 9 rfl rfl rfl rfl rfl rfl rfl),aU fun _ _ H K => R.callV hC (K 26 _ rfl) (same2_ok a[i]! b[i]!) (Bors.cons (Bor.pur (eU K 27 rfl) rfl rfl) (Bors.cons (Bor.pur (eU K 28 rfl) rfl rfl) Bors.nil)) (FrsR.one (.bool _)) H,aU fun _ _ H K => R.un (eU K 29 rfl) rfl H,trivial⟩ rfl rfl rfl rfl (tU rfl ?_)
     refine W.cond rfl (fun hc30 => ?_) (fun hc30 => ?_)
     · refine W.seq ?_
       refine W.dropB [] (bx' := []) rfl rfl rfl (pin_sub hD rfl) ?_
       refine W.l0 1 [.y 6 _] [] [] [(6,_)] [] 32 ⟨aU fun _ _ H _ => R.asg (kB false rfl) rfl H,trivial⟩ rfl rfl rfl rfl (tU rfl ?_)
       refine W.ret ?_
       exact Ends.one' (.inr rfl) rfl (congrArg D.bool (eqL_f2 hlen hc18 (not_trueB hc30)).symm) rfl rfl trivial
     · refine W.skip ?_
       refine W.dropB [] (bx' := []) rfl rfl rfl (pin_sub hD rfl) ?_
       refine W.l0 2 [.y 31 _,.y 17 _] [] [] [(1,_),(2,_),(15,_),(16,_),(17,_)] [] 32 ⟨aU fun _ _ H K => R.addN (i) (1) (eU K 17 rfl) (kI 1 rfl) bU H,mU 31 rfl rfl,trivial⟩ rfl rfl rfl rfl (tU rfl ?_)
       exact ⟨⟨(i + 1),⟨by omega,fun k hk => (Nat.lt_succ_iff_lt_or_eq.1 hk).elim (heq k) (fun e => by rw [e]; exact not_falseB hc30)⟩⟩,rfl,(by simp only []; omega)⟩
   · obtain rfl : i = a.length := by omega
     refine W.exit ?_
     refine W.seq ?_
     refine W.l0 1 [.y 6 _] [] [] [(6,_)] [] 32 ⟨aU fun _ _ H _ => R.asg (kB true rfl) rfl H,trivial⟩ rfl rfl rfl rfl (tU rfl ?_)
     refine W.ret ?_
     exact Ends.one' (.inr rfl) rfl (congrArg D.bool (eqL_t hlen heq).symm) rfl rfl trivial

theorem same_ok (t u : TxS) (hwf : t.wf) (huf : u.wf) : Fn Tryd.prog gl 26 [txD t,txD u] (.bool (sameS t u)) := by
 refine Fn.of (n := 35) Tryd.func26 rfl rfl rfl (nU rfl) fun C hC hD => ?_
 refine W.seq ?_
 refine W.l0 3 [] [] [] [(0,_),(1,_)] [] 35 trivial rfl rfl rfl rfl (⟨rfl,_,R.box (gV 0 rfl) rfl rfl (nU rfl),⟨rfl,_,R.box (gV 1 rfl) rfl rfl (nU rfl),⟨rfl,_,R.asg (kB false rfl) rfl (nU rfl),tV [(2,_),(3,_)] [(3,.var _),(2,.var _)] 35 rfl rfl rfl ?_⟩⟩⟩)
 refine W.seq ?_
 refine W.l0 1 [.y 5 _] [] [] [(2,_),(3,_),(5,_)] [(3,.var _),(2,.var _)] 35 ⟨aU fun _ _ H _ => R.asg rfl rfl H,trivial⟩ rfl rfl rfl rfl (tU rfl ?_)
 refine W.seq ?_
 refine W.l0 1 [.y 6 _] [] [] [(2,_),(3,_),(5,_),(6,_)] [(3,.var _),(2,.var _)] 35 ⟨aU fun _ _ H _ => R.asg rfl rfl H,trivial⟩ rfl rfl rfl rfl (tU rfl ?_)
 refine W.seq ?_
 by_cases h1 : t.ver = u.ver
 · by_cases h2 : t.lock = u.lock
   · by_cases h3 : eqL eqIn t.ins u.ins = true
     · refine W.l0 29 (.y 7 _ :: .y 8 _ :: .y 9 _ :: .y 10 _ :: .y 11 _ :: .y 12 _ :: .y 13 _ :: .y 14 _ :: .y 15 _ :: .y 16 _ :: .y 17 _ :: .y 18 _ :: .y 19 _ :: .y 20 _ :: .y 21 _ :: .y 22 _ :: .y 23 _ :: .y 24 _ :: .y 25 _ :: .y 26 _ :: .y 27 _ :: .y 28 _ :: .y 29 _ :: .y 30 _ :: .y 31 _ :: .y 32 _ :: .y 33 _ :: .y 34 _ :: .y 4 _ :: []) [] [] [(4,_)] [(3,.var _),(2,.var _)] 35 ⟨aU (fU 2 rfl rfl),aU (lU 7 rfl rfl rfl rfl rfl rfl rfl),aU (fU 3 rfl rfl),aU (lU 9 rfl rfl rfl rfl rfl rfl rfl),aU fun _ _ H K => R.bin (eU K 8 rfl) (eU K 10 rfl) rfl trivial H,mU 11 rfl rfl,aW rfl rfl (gT (by simp [h1]) rfl) (fU 2 rfl rfl),aW rfl rfl (gT (by simp [h1]) rfl) (lU 13 rfl rfl rfl rfl rfl rfl rfl),aW rfl rfl (gT (by simp [h1]) rfl) (fU 3 rfl rfl),aW rfl rfl (gT (by simp [h1]) rfl) (lU 15 rfl rfl rfl rfl rfl rfl rfl),aW rfl rfl (gT (by simp [h1]) rfl) fun _ _ H K => R.bin (eU K 14 rfl) (eU K 16 rfl) rfl trivial H,aU fun _ _ H K => R.pickT (eU K 12 rfl) (by simp [h1]) (eU K 17 rfl) rfl H,mU 18 rfl rfl,aW rfl rfl (gT (by simp [h2]) rfl) (fU 2 rfl rfl),aW rfl rfl (gT (by simp [h2]) rfl) (lU 20 rfl rfl rfl rfl rfl rfl rfl),aW rfl rfl (gT (by simp [h2]) rfl) (fU 3 rfl rfl),aW rfl rfl (gT (by simp [h2]) rfl) (lU 22 rfl rfl rfl rfl rfl rfl rfl),aW rfl rfl (gT (by simp [h2]) rfl) fun _ _ H K => R.mov (eU K 5 rfl) rfl H,aW rfl rfl (gT (by simp [h2]) rfl) fun _ _ H K => R.callG hC (eqfI_ok t.ins u.ins hwf.ins huf.ins (fun x h => (hwf.witl x h).1) (fun x h => (huf.witl x h).1)) (Bors.cons (Bor.pur (eU K 21 rfl) rfl rfl) (Bors.cons (Bor.pur (eU K 23 rfl) rfl rfl) (Bors.cons (Bor.pur (eU K 24 rfl) rfl rfl) Bors.nil))) (FrsR.one (.bool _)) H,aU fun _ _ H K => R.pickT (eU K 19 rfl) (by simp [h2]) (eU K 25 rfl) rfl H,mU 26 rfl rfl,aW rfl rfl (gT (h3) rfl) (fU 2 rfl rfl),aW rfl rfl (gT (h3) rfl) (lU 28 rfl rfl rfl rfl rfl rfl rfl),aW rfl rfl (gT (h3) rfl) (fU 3 rfl rfl),aW rfl rfl (gT (h3) rfl) (lU 30 rfl rfl rfl rfl rfl rfl rfl),aW rfl rfl (gT (h3) rfl) fun _ _ H K => R.mov (eU K 6 rfl) rfl H,aW rfl rfl (gT (h3) rfl) fun _ _ H K => R.callG hC (eqfO_ok t.outs u.outs hwf.outs huf.outs) (Bors.cons (Bor.pur (eU K 29 rfl) rfl rfl) (Bors.cons (Bor.pur (eU K 31 rfl) rfl rfl) (Bors.cons (Bor.pur (eU K 32 rfl) rfl rfl) Bors.nil))) (FrsR.one (.bool _)) H,aU fun _ _ H K => R.pickT (eU K 27 rfl) (h3) (eU K 33 rfl) rfl H,aU fun _ _ H K => R.asg (eU K 34 rfl) rfl H,trivial⟩ rfl rfl rfl rfl (tU rfl ?_)
       refine W.ret ?_
       exact Ends.one' (.inr rfl) rfl (by simp [sameS,h1,h2,h3]) rfl rfl trivial
     · refine W.l0 29 (.y 7 _ :: .y 8 _ :: .y 9 _ :: .y 10 _ :: .y 11 _ :: .y 12 _ :: .y 13 _ :: .y 14 _ :: .y 15 _ :: .y 16 _ :: .y 17 _ :: .y 18 _ :: .y 19 _ :: .y 20 _ :: .y 21 _ :: .y 22 _ :: .y 23 _ :: .y 24 _ :: .y 25 _ :: .y 26 _ :: .y 27 _ :: .x 28 :: .x 29 :: .x 30 :: .x 31 :: .x 32 :: .x 33 :: .y 34 _ :: .y 4 _ :: []) [] [] [(4,_)] [(3,.var _),(2,.var _)] 35 ⟨aU (fU 2 rfl rfl),aU (lU 7 rfl rfl rfl rfl rfl rfl rfl),aU (fU 3 rfl rfl),aU (lU 9 rfl rfl rfl rfl rfl rfl rfl),aU fun _ _ H K => R.bin (eU K 8 rfl) (eU K 10 rfl) rfl trivial H,mU 11 rfl rfl,aW rfl rfl (gT (by simp [h1]) rfl) (fU 2 rfl rfl),aW rfl rfl (gT (by simp [h1]) rfl) (lU 13 rfl rfl rfl rfl rfl rfl rfl),aW rfl rfl (gT (by simp [h1]) rfl) (fU 3 rfl rfl),aW rfl rfl (gT (by simp [h1]) rfl) (lU 15 rfl rfl rfl rfl rfl rfl rfl),aW rfl rfl (gT (by simp [h1]) rfl) fun _ _ H K => R.bin (eU K 14 rfl) (eU K 16 rfl) rfl trivial H,aU fun _ _ H K => R.pickT (eU K 12 rfl) (by simp [h1]) (eU K 17 rfl) rfl H,mU 18 rfl rfl,aW rfl rfl (gT (by simp [h2]) rfl) (fU 2 rfl rfl),aW rfl rfl (gT (by simp [h2]) rfl) (lU 20 rfl rfl rfl rfl rfl rfl rfl),aW rfl rfl (gT (by simp [h2]) rfl) (fU 3 rfl rfl),aW rfl rfl (gT (by simp [h2]) rfl) (lU 22 rfl rfl rfl rfl rfl rfl rfl),aW rfl rfl (gT (by simp [h2]) rfl) fun _ _ H K => R.mov (eU K 5 rfl) rfl H,aW rfl rfl (gT (by simp [h2]) rfl) fun _ _ H K => R.callG hC (eqfI_ok t.ins u.ins hwf.ins huf.ins (fun x h => (hwf.witl x h).1) (fun x h => (huf.witl x h).1)) (Bors.cons (Bor.pur (eU K 21 rfl) rfl rfl) (Bors.cons (Bor.pur (eU K 23 rfl) rfl rfl) (Bors.cons (Bor.pur (eU K 24 rfl) rfl rfl) Bors.nil))) (FrsR.one (.bool _)) H,aU fun _ _ H K => R.pickT (eU K 19 rfl) (by simp [h2]) (eU K 25 rfl) rfl H,mU 26 rfl rfl,aF rfl rfl (gF (Bool.eq_false_iff.2 h3) rfl),aF rfl rfl (gF (Bool.eq_false_iff.2 h3) rfl),aF rfl rfl (gF (Bool.eq_false_iff.2 h3) rfl),aF rfl rfl (gF (Bool.eq_false_iff.2 h3) rfl),aF rfl rfl (gF (Bool.eq_false_iff.2 h3) rfl),aF rfl rfl (gF (Bool.eq_false_iff.2 h3) rfl),aU fun _ _ H K => R.pickF (eU K 27 rfl) (Bool.eq_false_iff.2 h3) (kB false rfl) rfl H,aU fun _ _ H K => R.asg (eU K 34 rfl) rfl H,trivial⟩ rfl rfl rfl rfl (tU rfl ?_)
       refine W.ret ?_
       exact Ends.one' (.inr rfl) rfl (by simp [sameS,h1,h2,h3]) rfl rfl trivial
   · refine W.l0 29 (.y 7 _ :: .y 8 _ :: .y 9 _ :: .y 10 _ :: .y 11 _ :: .y 12 _ :: .y 13 _ :: .y 14 _ :: .y 15 _ :: .y 16 _ :: .y 17 _ :: .y 18 _ :: .y 19 _ :: .x 20 :: .x 21 :: .x 22 :: .x 23 :: .x 24 :: .x 25 :: .y 26 _ :: .y 27 _ :: .x 28 :: .x 29 :: .x 30 :: .x 31 :: .x 32 :: .x 33 :: .y 34 _ :: .y 4 _ :: []) [] [] [(4,_)] [(3,.var _),(2,.var _)] 35 ⟨aU (fU 2 rfl rfl),aU (lU 7 rfl rfl rfl rfl rfl rfl rfl),aU (fU 3 rfl rfl),aU (lU 9 rfl rfl rfl rfl rfl rfl rfl),aU fun _ _ H K => R.bin (eU K 8 rfl) (eU K 10 rfl) rfl trivial H,mU 11 rfl rfl,aW rfl rfl (gT (by simp [h1]) rfl) (fU 2 rfl rfl),aW rfl rfl (gT (by simp [h1]) rfl) (lU 13 rfl rfl rfl rfl rfl rfl rfl),aW rfl rfl (gT (by simp [h1]) rfl) (fU 3 rfl rfl),aW rfl rfl (gT (by simp [h1]) rfl) (lU 15 rfl rfl rfl rfl rfl rfl rfl),aW rfl rfl (gT (by simp [h1]) rfl) fun _ _ H K => R.bin (eU K 14 rfl) (eU K 16 rfl) rfl trivial H,aU fun _ _ H K => R.pickT (eU K 12 rfl) (by simp [h1]) (eU K 17 rfl) rfl H,mU 18 rfl rfl,aF rfl rfl (gF (by simp [h2]) rfl),aF rfl rfl (gF (by simp [h2]) rfl),aF rfl rfl (gF (by simp [h2]) rfl),aF rfl rfl (gF (by simp [h2]) rfl),aF rfl rfl (gF (by simp [h2]) rfl),aF rfl rfl (gF (by simp [h2]) rfl),aU fun _ _ H K => R.pickF (eU K 19 rfl) (by simp [h2]) (kB false rfl) rfl H,mU 26 rfl rfl,aF rfl rfl (gF (rfl) rfl),aF rfl rfl (gF (rfl) rfl),aF rfl rfl (gF (rfl) rfl),aF rfl rfl (gF (rfl) rfl),aF rfl rfl (gF (rfl) rfl),aF rfl rfl (gF (rfl) rfl),aU fun _ _ H K => R.pickF (eU K 27 rfl) (rfl) (kB false rfl) rfl H,aU fun _ _ H K => R.asg (eU K 34 rfl) rfl H,trivial⟩ rfl rfl rfl rfl (tU rfl ?_)
     refine W.ret ?_
     exact Ends.one' (.inr rfl) rfl (by simp [sameS,h1,h2]) rfl rfl trivial
 · refine W.l0 29 (.y 7 _ :: .y 8 _ :: .y 9 _ :: .y 10 _ :: .y 11 _ :: .y 12 _ :: .x 13 :: .x 14 :: .x 15 :: .x 16 :: .x 17 :: .y 18 _ :: .y 19 _ :: .x 20 :: .x 21 :: .x 22 :: .x 23 :: .x 24 :: .x 25 :: .y 26 _ :: .y 27 _ :: .x 28 :: .x 29 :: .x 30 :: .x 31 :: .x 32 :: .x 33 :: .y 34 _ :: .y 4 _ :: []) [] [] [(4,_)] [(3,.var _),(2,.var _)] 35 ⟨aU (fU 2 rfl rfl),aU (lU 7 rfl rfl rfl rfl rfl rfl rfl),aU (fU 3 rfl rfl),aU (lU 9 rfl rfl rfl rfl rfl rfl rfl),aU fun _ _ H K => R.bin (eU K 8 rfl) (eU K 10 rfl) rfl trivial H,mU 11 rfl rfl,aF rfl rfl (gF (by simp [h1]) rfl),aF rfl rfl (gF (by simp [h1]) rfl),aF rfl rfl (gF (by simp [h1]) rfl),aF rfl rfl (gF (by simp [h1]) rfl),aF rfl rfl (gF (by simp [h1]) rfl),aU fun _ _ H K => R.pickF (eU K 12 rfl) (by simp [h1]) (kB false rfl) rfl H,mU 18 rfl rfl,aF rfl rfl (gF (rfl) rfl),aF rfl rfl (gF (rfl) rfl),aF rfl rfl (gF (rfl) rfl),aF rfl rfl (gF (rfl) rfl),aF rfl rfl (gF (rfl) rfl),aF rfl rfl (gF (rfl) rfl),aU fun _ _ H K => R.pickF (eU K 19 rfl) (rfl) (kB false rfl) rfl H,mU 26 rfl rfl,aF rfl rfl (gF (rfl) rfl),aF rfl rfl (gF (rfl) rfl),aF rfl rfl (gF (rfl) rfl),aF rfl rfl (gF (rfl) rfl),aF rfl rfl (gF (rfl) rfl),aF rfl rfl (gF (rfl) rfl),aU fun _ _ H K => R.pickF (eU K 27 rfl) (rfl) (kB false rfl) rfl H,aU fun _ _ H K => R.asg (eU K 34 rfl) rfl H,trivial⟩ rfl rfl rfl rfl (tU rfl ?_)
   refine W.ret ?_
   exact Ends.one' (.inr rfl) rfl (by simp [sameS,h1]) rfl rfl trivial

end Go.Sx

namespace Go.Sx
open Go.Proofs
end Go.Sx

namespace Go.Sx
open Go.Proofs
section
variable {b r r2 : List UInt8} {bad e e2 : Bool} {x y : UInt64}
end
end Go.Sx

namespace Go.Sx
open Go.Proofs
end Go.Sx

namespace Go.Sx
open Go.Proofs
end Go.Sx

namespace Go.Sx
open Go.Proofs
end Go.Sx

namespace Go.Sx
open Go.Proofs
end Go.Sx

namespace Go.Sx
open Go.Proofs
theorem nq_t {α : Type} [BEq α] [LawfulBEq α] {a b : α} (h : a ≠ b) : (!(a == b)) = true := by rw [beq_eq_false_iff_ne.2 h]; rfl
theorem nq_f {α : Type} [BEq α] [LawfulBEq α] {a b : α} (h : ¬ a ≠ b) : (!(a == b)) = false := by
 have : a = b := Classical.byContradiction h
 subst this; simp
theorem eqB_list (a b : List (List UInt8)) : eqL eqB a b = (a == b) := by
 by_cases h : a.length = b.length
 · cases he : (a == b) with
   | true =>
    have := eq_of_beq he
    subst this
    exact eqL_t rfl fun j _ => by simp [eqB]
   | false =>
    have hne : a ≠ b := by simpa using he
    have : ∃ i,i < a.length ∧ a[i]! ≠ b[i]! := by
     apply Classical.byContradiction
     intro hn
     apply hne
     refine List.ext_getElem h fun i h1 h2 => ?_
     have h3 : a[i]! = b[i]! := Classical.byContradiction fun h3 => hn ⟨i,h1,h3⟩
     rwa [getElem!_pos a i h1,getElem!_pos b i h2] at h3
    obtain ⟨i,hi,hx⟩ := this
    exact eqL_f2 h hi (by simpa [eqB] using hx)
 · rw [eqL_f1 h,ls_f1 h]
theorem sm_f1 {t u : TxS} (h : t.ver ≠ u.ver) : sameS t u = false := by simp [sameS,h]
theorem sm_f2 {t u : TxS} (h : t.lock ≠ u.lock) : sameS t u = false := by simp [sameS,h]
theorem sm_f3 {t u : TxS} (h : t.ins.length ≠ u.ins.length) : sameS t u = false := by simp [sameS,eqL_f1 h]
theorem sm_f4 {t u : TxS} (h : t.outs.length ≠ u.outs.length) : sameS t u = false := by simp [sameS,eqL_f1 h]
theorem sm_fi {t u : TxS} {i : Nat} (h : t.ins.length = u.ins.length) (hi : i < t.ins.length) (he : eqIn t.ins[i]! u.ins[i]! = false) : sameS t u = false := by simp [sameS,eqL_f2 h hi he]
theorem sm_fo {t u : TxS} {i : Nat} (h : t.outs.length = u.outs.length) (hi : i < t.outs.length) (he : eqOut t.outs[i]! u.outs[i]! = false) : sameS t u = false := by simp [sameS,eqL_f2 h hi he]
theorem sm_t {t u : TxS} (h1 : t.ver = u.ver) (h2 : t.lock = u.lock) (h3 : t.ins.length = u.ins.length) (h4 : t.outs.length = u.outs.length) (h5 : ∀ j < t.ins.length,eqIn t.ins[j]! u.ins[j]! = true) (h6 : ∀ j < t.outs.length,eqOut t.outs[j]! u.outs[j]! = true) : sameS t u = true := by
 simp [sameS,h1,h2,eqL_t h3 h5,eqL_t h4 h6]
theorem ei_f1 {x y : InS} (h : plc x ≠ plc y) : eqIn x y = false := by simp [eqIn,h]
theorem ei_f2 {x y : InS} (h : x.script ≠ y.script) : eqIn x y = false := by simp [eqIn,h]
theorem ei_f3 {x y : InS} (h : x.seq ≠ y.seq) : eqIn x y = false := by simp [eqIn,h]
theorem ei_f4 {x y : InS} (h : (!(x.wit == y.wit)) = true) : eqIn x y = false := by simp [eqIn,eqB_list,not_trueB h]
theorem ei_t {x y : InS} (h1 : ¬ plc x ≠ plc y) (h2 : ¬ x.script ≠ y.script) (h3 : ¬ x.seq ≠ y.seq) (h4 : (!(x.wit == y.wit)) = false) : eqIn x y = true := by
 have h1' : plc x = plc y := Classical.byContradiction h1
 have h2' : x.script = y.script := Classical.byContradiction h2
 have h3' : x.seq = y.seq := Classical.byContradiction h3
 simp [eqIn,eqB_list,not_falseB h4,h1',h2',h3']
theorem eo_f1 {x y : OutS} (h : x.value ≠ y.value) : eqOut x y = false := by simp [eqOut,h]
theorem eo_f2 {x y : OutS} (h : (x.script != y.script) = true) : eqOut x y = false := by simp [eqOut]; intro _; simpa using h
theorem eo_t {x y : OutS} (h1 : ¬ x.value ≠ y.value) (h2 : (x.script != y.script) = false) : eqOut x y = true := by
 have h1' : x.value = y.value := Classical.byContradiction h1
 simp only [eqOut,h1',beq_self_eq_true,Bool.true_and]; simpa using h2
theorem ext_i {P : Nat → Prop} {i : Nat} (h : ∀ j < i,P j) (hi : P i) : ∀ j < i + 1,P j := fun j hj => by
 rcases Nat.lt_succ_iff_lt_or_eq.1 hj with h1 | h1
 · exact h j h1
 · rw [h1]; exact hi
theorem brw_bytes (l : List UInt8) : (bytesD l).brw = bytesD l := by simp only [bytesD,D.brw,brws_eq]; rw [brw_map (fun _ => rfl)]
theorem brw_hash (l : List UInt8) : (hashD l).brw = hashD l := by simp only [hashD,D.brw,brws_eq]; rw [brw_map (fun _ => rfl)]
theorem brw_inD (x : InS) : (inD x).brw = inD x := by
 simp only [inD,D.brw,brws_eq,List.map_cons,List.map_nil]
 rw [brw_map (fun b => brw_bytes b)]
 simp only [brw_bytes,brw_hash]
theorem brw_inN (x : InS) : (inN x).brw = inN x := by
 simp only [inN,D.brw,brws_eq,List.map_cons,List.map_nil,brw_bytes,brw_hash]
theorem brw_outD (x : OutS) : (outD x).brw = outD x := by
 simp only [outD,D.brw,brws_eq,List.map_cons,List.map_nil,brw_bytes]
def plP (x : InS) : InS := { x with wit := [] }
end Go.Sx

namespace Go.Sx
open Go.Proofs
theorem rsame_ok (t u : TxS) (hwf : t.wf) (huf : u.wf) : Fn Tryd.prog gl 25 [txD t,txD u] (.bool (sameS t u)) := by
 refine Fn.of (n := 122) Tryd.func25 rfl rfl rfl (nU rfl) fun C hC hD => ?_
 have h1 := hwf.ins
 have h2 := hwf.outs
 have g1 := huf.ins
 have g2 := huf.outs
 refine W.seq ?_
 refine W.l0 3 [] [] [] [(0,_),(1,_)] [] 122 trivial rfl rfl rfl rfl (⟨rfl,_,R.box (gV 0 rfl) rfl rfl (nU rfl),⟨rfl,_,R.box (gV 1 rfl) rfl rfl (nU rfl),⟨rfl,_,R.asg (kB false rfl) rfl (nU rfl),tV [(2,_),(3,_)] [(3,.var _),(2,.var _)] 122 rfl rfl rfl ?_⟩⟩⟩)
 refine W.seq ?_
 refine W.seq ?_
 by_cases k1 : t.ver ≠ u.ver
 · refine W.l0 30 (.y 9 _ :: .y 10 _ :: .y 11 _ :: .y 12 _ :: .y 13 _ :: .y 14 _ :: .x 15 :: .x 16 :: .x 17 :: .x 18 :: .x 19 :: .y 20 _ :: .y 21 _ :: .x 22 :: .x 23 :: .x 24 :: .x 25 :: .x 26 :: .x 27 :: .x 28 :: .y 29 _ :: .y 30 _ :: .x 31 :: .x 32 :: .x 33 :: .x 34 :: .x 35 :: .x 36 :: .x 37 :: .y 38 _ :: []) [] [] [(2,_),(3,_),(38,_)] [(3,.var _),(2,.var _)] 122 ⟨aU (fU 2 rfl rfl),aU (lU 9 rfl rfl rfl rfl rfl rfl rfl),aU (fU 3 rfl rfl),aU (lU 11 rfl rfl rfl rfl rfl rfl rfl),aU fun _ _ H K => R.bin (eU K 10 rfl) (eU K 12 rfl) rfl trivial H,mU 13 rfl rfl,aF rfl rfl (gT (by simp [k1]) rfl),aF rfl rfl (gT (by simp [k1]) rfl),aF rfl rfl (gT (by simp [k1]) rfl),aF rfl rfl (gT (by simp [k1]) rfl),aF rfl rfl (gT (by simp [k1]) rfl),aU fun _ _ H K => R.pickT (eU K 14 rfl) (by simp [k1]) (kB true rfl) rfl H,mU 20 rfl rfl,aF rfl rfl (gT (rfl) rfl),aF rfl rfl (gT (rfl) rfl),aF rfl rfl (gT (rfl) rfl),aF rfl rfl (gT (rfl) rfl),aF rfl rfl (gT (rfl) rfl),aF rfl rfl (gT (rfl) rfl),aF rfl rfl (gT (rfl) rfl),aU fun _ _ H K => R.pickT (eU K 21 rfl) (rfl) (kB true rfl) rfl H,mU 29 rfl rfl,aF rfl rfl (gT (rfl) rfl),aF rfl rfl (gT (rfl) rfl),aF rfl rfl (gT (rfl) rfl),aF rfl rfl (gT (rfl) rfl),aF rfl rfl (gT (rfl) rfl),aF rfl rfl (gT (rfl) rfl),aF rfl rfl (gT (rfl) rfl),aU fun _ _ H K => R.pickT (eU K 30 rfl) (rfl) (kB true rfl) rfl H,trivial⟩ rfl rfl rfl rfl (tU rfl ?_)
   refine W.condT rfl (rfl) ?_
   refine W.seq ?_
   refine W.l0 1 [.y 4 _] [] [] [(4,_)] [(3,.var _),(2,.var _)] 122 ⟨aU fun _ _ H _ => R.asg (kB false rfl) rfl H,trivial⟩ rfl rfl rfl rfl (tU rfl ?_)
   refine W.ret ?_
   exact Ends.one' (.inr rfl) rfl (by rw [sm_f1 k1]) rfl rfl trivial
 · by_cases k2 : t.lock ≠ u.lock
   · refine W.l0 30 (.y 9 _ :: .y 10 _ :: .y 11 _ :: .y 12 _ :: .y 13 _ :: .y 14 _ :: .y 15 _ :: .y 16 _ :: .y 17 _ :: .y 18 _ :: .y 19 _ :: .y 20 _ :: .y 21 _ :: .x 22 :: .x 23 :: .x 24 :: .x 25 :: .x 26 :: .x 27 :: .x 28 :: .y 29 _ :: .y 30 _ :: .x 31 :: .x 32 :: .x 33 :: .x 34 :: .x 35 :: .x 36 :: .x 37 :: .y 38 _ :: []) [] [] [(2,_),(3,_),(38,_)] [(3,.var _),(2,.var _)] 122 ⟨aU (fU 2 rfl rfl),aU (lU 9 rfl rfl rfl rfl rfl rfl rfl),aU (fU 3 rfl rfl),aU (lU 11 rfl rfl rfl rfl rfl rfl rfl),aU fun _ _ H K => R.bin (eU K 10 rfl) (eU K 12 rfl) rfl trivial H,mU 13 rfl rfl,aW rfl rfl (gF (by simpa using k1) rfl) (fU 2 rfl rfl),aW rfl rfl (gF (by simpa using k1) rfl) (lU 15 rfl rfl rfl rfl rfl rfl rfl),aW rfl rfl (gF (by simpa using k1) rfl) (fU 3 rfl rfl),aW rfl rfl (gF (by simpa using k1) rfl) (lU 17 rfl rfl rfl rfl rfl rfl rfl),aW rfl rfl (gF (by simpa using k1) rfl) fun _ _ H K => R.bin (eU K 16 rfl) (eU K 18 rfl) rfl trivial H,aU fun _ _ H K => R.pickF (eU K 14 rfl) (by simpa using k1) (eU K 19 rfl) rfl H,mU 20 rfl rfl,aF rfl rfl (gT (by simp [k2]) rfl),aF rfl rfl (gT (by simp [k2]) rfl),aF rfl rfl (gT (by simp [k2]) rfl),aF rfl rfl (gT (by simp [k2]) rfl),aF rfl rfl (gT (by simp [k2]) rfl),aF rfl rfl (gT (by simp [k2]) rfl),aF rfl rfl (gT (by simp [k2]) rfl),aU fun _ _ H K => R.pickT (eU K 21 rfl) (by simp [k2]) (kB true rfl) rfl H,mU 29 rfl rfl,aF rfl rfl (gT (rfl) rfl),aF rfl rfl (gT (rfl) rfl),aF rfl rfl (gT (rfl) rfl),aF rfl rfl (gT (rfl) rfl),aF rfl rfl (gT (rfl) rfl),aF rfl rfl (gT (rfl) rfl),aF rfl rfl (gT (rfl) rfl),aU fun _ _ H K => R.pickT (eU K 30 rfl) (rfl) (kB true rfl) rfl H,trivial⟩ rfl rfl rfl rfl (tU rfl ?_)
     refine W.condT rfl (rfl) ?_
     refine W.seq ?_
     refine W.l0 1 [.y 4 _] [] [] [(4,_)] [(3,.var _),(2,.var _)] 122 ⟨aU fun _ _ H _ => R.asg (kB false rfl) rfl H,trivial⟩ rfl rfl rfl rfl (tU rfl ?_)
     refine W.ret ?_
     exact Ends.one' (.inr rfl) rfl (by rw [sm_f2 k2]) rfl rfl trivial
   · by_cases k3 : t.ins.length ≠ u.ins.length
     · refine W.l0 30 (.y 9 _ :: .y 10 _ :: .y 11 _ :: .y 12 _ :: .y 13 _ :: .y 14 _ :: .y 15 _ :: .y 16 _ :: .y 17 _ :: .y 18 _ :: .y 19 _ :: .y 20 _ :: .y 21 _ :: .y 22 _ :: .y 23 _ :: .y 24 _ :: .y 25 _ :: .y 26 _ :: .y 27 _ :: .y 28 _ :: .y 29 _ :: .y 30 _ :: .x 31 :: .x 32 :: .x 33 :: .x 34 :: .x 35 :: .x 36 :: .x 37 :: .y 38 _ :: []) [] [] [(2,_),(3,_),(38,_)] [(3,.var _),(2,.var _)] 122 ⟨aU (fU 2 rfl rfl),aU (lU 9 rfl rfl rfl rfl rfl rfl rfl),aU (fU 3 rfl rfl),aU (lU 11 rfl rfl rfl rfl rfl rfl rfl),aU fun _ _ H K => R.bin (eU K 10 rfl) (eU K 12 rfl) rfl trivial H,mU 13 rfl rfl,aW rfl rfl (gF (by simpa using k1) rfl) (fU 2 rfl rfl),aW rfl rfl (gF (by simpa using k1) rfl) (lU 15 rfl rfl rfl rfl rfl rfl rfl),aW rfl rfl (gF (by simpa using k1) rfl) (fU 3 rfl rfl),aW rfl rfl (gF (by simpa using k1) rfl) (lU 17 rfl rfl rfl rfl rfl rfl rfl),aW rfl rfl (gF (by simpa using k1) rfl) fun _ _ H K => R.bin (eU K 16 rfl) (eU K 18 rfl) rfl trivial H,aU fun _ _ H K => R.pickF (eU K 14 rfl) (by simpa using k1) (eU K 19 rfl) rfl H,mU 20 rfl rfl,aW rfl rfl (gF (by simpa using k2) rfl) (fU 2 rfl rfl),aW rfl rfl (gF (by simpa using k2) rfl) (lU 22 rfl rfl rfl rfl rfl rfl rfl),aW rfl rfl (gF (by simpa using k2) rfl) fun _ _ H K => R.lenE (SC.sl (K 23 _ rfl)) (List.length_map _) H,aW rfl rfl (gF (by simpa using k2) rfl) (fU 3 rfl rfl),aW rfl rfl (gF (by simpa using k2) rfl) (lU 25 rfl rfl rfl rfl rfl rfl rfl),aW rfl rfl (gF (by simpa using k2) rfl) fun _ _ H K => R.lenE (SC.sl (K 26 _ rfl)) (List.length_map _) H,aW rfl rfl (gF (by simpa using k2) rfl) fun _ _ H K => R.neqN (t.ins.length) (u.ins.length) (eU K 24 rfl) (eU K 27 rfl) H,aU fun _ _ H K => R.pickF (eU K 21 rfl) (by simpa using k2) (eU K 28 rfl) rfl H,mU 29 rfl rfl,aF rfl rfl (gT (by simp [k3]) rfl),aF rfl rfl (gT (by simp [k3]) rfl),aF rfl rfl (gT (by simp [k3]) rfl),aF rfl rfl (gT (by simp [k3]) rfl),aF rfl rfl (gT (by simp [k3]) rfl),aF rfl rfl (gT (by simp [k3]) rfl),aF rfl rfl (gT (by simp [k3]) rfl),aU fun _ _ H K => R.pickT (eU K 30 rfl) (by simp [k3]) (kB true rfl) rfl H,trivial⟩ rfl rfl rfl rfl (tU rfl ?_)
       refine W.condT rfl (rfl) ?_
       refine W.seq ?_
       refine W.l0 1 [.y 4 _] [] [] [(4,_)] [(3,.var _),(2,.var _)] 122 ⟨aU fun _ _ H _ => R.asg (kB false rfl) rfl H,trivial⟩ rfl rfl rfl rfl (tU rfl ?_)
       refine W.ret ?_
       exact Ends.one' (.inr rfl) rfl (by rw [sm_f3 k3]) rfl rfl trivial
     · refine W.l0 30 (.y 9 _ :: .y 10 _ :: .y 11 _ :: .y 12 _ :: .y 13 _ :: .y 14 _ :: .y 15 _ :: .y 16 _ :: .y 17 _ :: .y 18 _ :: .y 19 _ :: .y 20 _ :: .y 21 _ :: .y 22 _ :: .y 23 _ :: .y 24 _ :: .y 25 _ :: .y 26 _ :: .y 27 _ :: .y 28 _ :: .y 29 _ :: .y 30 _ :: .y 31 _ :: .y 32 _ :: .y 33 _ :: .y 34 _ :: .y 35 _ :: .y 36 _ :: .y 37 _ :: .y 38 _ :: []) [] [] [(2,_),(3,_),(38,_)] [(3,.var _),(2,.var _)] 122 ⟨aU (fU 2 rfl rfl),aU (lU 9 rfl rfl rfl rfl rfl rfl rfl),aU (fU 3 rfl rfl),aU (lU 11 rfl rfl rfl rfl rfl rfl rfl),aU fun _ _ H K => R.bin (eU K 10 rfl) (eU K 12 rfl) rfl trivial H,mU 13 rfl rfl,aW rfl rfl (gF (by simpa using k1) rfl) (fU 2 rfl rfl),aW rfl rfl (gF (by simpa using k1) rfl) (lU 15 rfl rfl rfl rfl rfl rfl rfl),aW rfl rfl (gF (by simpa using k1) rfl) (fU 3 rfl rfl),aW rfl rfl (gF (by simpa using k1) rfl) (lU 17 rfl rfl rfl rfl rfl rfl rfl),aW rfl rfl (gF (by simpa using k1) rfl) fun _ _ H K => R.bin (eU K 16 rfl) (eU K 18 rfl) rfl trivial H,aU fun _ _ H K => R.pickF (eU K 14 rfl) (by simpa using k1) (eU K 19 rfl) rfl H,mU 20 rfl rfl,aW rfl rfl (gF (by simpa using k2) rfl) (fU 2 rfl rfl),aW rfl rfl (gF (by simpa using k2) rfl) (lU 22 rfl rfl rfl rfl rfl rfl rfl),aW rfl rfl (gF (by simpa using k2) rfl) fun _ _ H K => R.lenE (SC.sl (K 23 _ rfl)) (List.length_map _) H,aW rfl rfl (gF (by simpa using k2) rfl) (fU 3 rfl rfl),aW rfl rfl (gF (by simpa using k2) rfl) (lU 25 rfl rfl rfl rfl rfl rfl rfl),aW rfl rfl (gF (by simpa using k2) rfl) fun _ _ H K => R.lenE (SC.sl (K 26 _ rfl)) (List.length_map _) H,aW rfl rfl (gF (by simpa using k2) rfl) fun _ _ H K => R.neqN (t.ins.length) (u.ins.length) (eU K 24 rfl) (eU K 27 rfl) H,aU fun _ _ H K => R.pickF (eU K 21 rfl) (by simpa using k2) (eU K 28 rfl) rfl H,mU 29 rfl rfl,aW rfl rfl (gF (by simpa using k3) rfl) (fU 2 rfl rfl),aW rfl rfl (gF (by simpa using k3) rfl) (lU 31 rfl rfl rfl rfl rfl rfl rfl),aW rfl rfl (gF (by simpa using k3) rfl) fun _ _ H K => R.lenE (SC.sl (K 32 _ rfl)) (List.length_map _) H,aW rfl rfl (gF (by simpa using k3) rfl) (fU 3 rfl rfl),aW rfl rfl (gF (by simpa using k3) rfl) (lU 34 rfl rfl rfl rfl rfl rfl rfl),aW rfl rfl (gF (by simpa using k3) rfl) fun _ _ H K => R.lenE (SC.sl (K 35 _ rfl)) (List.length_map _) H,aW rfl rfl (gF (by simpa using k3) rfl) fun _ _ H K => R.neqN (t.outs.length) (u.outs.length) (eU K 33 rfl) (eU K 36 rfl) H,aU fun _ _ H K => R.pickF (eU K 30 rfl) (by simpa using k3) (eU K 37 rfl) rfl H,trivial⟩ rfl rfl rfl rfl (tU rfl ?_)
       refine W.condD rfl (fun hc38 => ?_) (fun hc38 => ?_)
       · refine W.seq ?_
         refine W.l0 1 [.y 4 _] [] [] [(4,_)] [(3,.var _),(2,.var _)] 122 ⟨aU fun _ _ H _ => R.asg (kB false rfl) rfl H,trivial⟩ rfl rfl rfl rfl (tU rfl ?_)
         refine W.ret ?_
         exact Ends.one' (.inr rfl) rfl (by rw [sm_f4 hc38]) rfl rfl trivial
       · refine W.skip ?_
         refine W.seq ?_
         refine W.seq ?_
         refine W.l0 1 [.y 5 _] [] [] [(2,_),(3,_),(5,_)] [(3,.var _),(2,.var _)] 122 ⟨aU fun _ _ H _ => R.asg (kI 0 rfl) rfl H,trivial⟩ rfl rfl rfl rfl (tU rfl ?_)
         refine W.block ?_
         refine W.loop (α := {q__ : Nat // q__ ≤ t.ins.length ∧ ∀ j < q__,eqIn t.ins[j]! u.ins[j]! = true}) (fun q__ => ⟨122,[(2,.ptr 2 0 []),(3,.ptr 3 0 []),(5,.int ((q__.1 : Nat) : Int))],[(3,.var (.agg [.u32 u.ver,.sl none 36 (u.ins.map inD),.sl none 2 (u.outs.map outD),.u32 u.lock])),(2,.var (.agg [.u32 t.ver,.sl none 36 (t.ins.map inD),.sl none 2 (t.outs.map outD),.u32 t.lock]))]⟩) (fun q__ => t.ins.length - q__.1) ⟨(0),⟨Nat.zero_le _,fun j h => absurd h (Nat.not_lt_zero _)⟩⟩ rfl ?_
         rintro ⟨i,⟨hi,hp⟩⟩
         show W _ _ _ _ ⟨122,[(2,.ptr 2 0 []),(3,.ptr 3 0 []),(5,.int ((i : Nat) : Int))],[(3,.var (.agg [.u32 u.ver,.sl none 36 (u.ins.map inD),.sl none 2 (u.outs.map outD),.u32 u.lock])),(2,.var (.agg [.u32 t.ver,.sl none 36 (t.ins.map inD),.sl none 2 (t.outs.map outD),.u32 t.lock]))]⟩
         have hi : i ≤ t.ins.length := hi
         have hp : ∀ j < i,eqIn t.ins[j]! u.ins[j]! = true := hp
         have hl : t.ins.length = u.ins.length := Classical.byContradiction k3
         have hol : t.outs.length = u.outs.length := Classical.byContradiction hc38
         refine W.seq ?_
         refine W.seq ?_
         refine W.l0 5 [.y 39 _,.y 40 _,.y 41 _,.y 42 _,.y 43 _] [] [] [(2,_),(3,_),(5,_),(43,_)] [(3,.var _),(2,.var _)] 122 ⟨mU 5 rfl rfl,aU (fU 2 rfl rfl),aU (lU 40 rfl rfl rfl rfl rfl rfl rfl),aU fun _ _ H K => R.lenE (SC.sl (K 41 _ rfl)) (List.length_map _) H,aU fun _ _ H K => R.lssN (i) (t.ins.length) (eU K 39 rfl) (eU K 42 rfl) H,trivial⟩ rfl rfl rfl rfl (tU rfl ?_)
         refine W.condD rfl (fun hc43 => ?_) (fun hc43 => ?_)
         · refine W.skip ?_
           refine W.seq ?_
           refine W.block ?_
           refine W.seq ?_
           refine W.drawE (m := 13) (an := [0,1,0,7,15,0,32,0,224,480,0,0,3103,8191]) (its := [.y 46 _,.y 47 _,.y 48 _,.y 49 _,.y 50 _,.y 51 _,.y 52 _,.y 53 _,.y 54 _,.y 55 _,.y 6 _,.y 7 _,⟨134,.dead,true⟩]) (ks := [(12,134)]) (kk := []) (efs := [(10,[(6,.var _)]),(11,[(7,.var _)]),(12,[(6,.var _)])]) (live := [2,3,5,6,7,55]) (env' := [(2,_),(3,_),(5,_),(6,_),(7,_),(55,_)]) (nd := 40) (bx1 := [(6,.var _),(7,.var _),(3,.var _),(2,.var _)]) hP (by decide) rfl ⟨⟨141,rfl⟩,nU rfl,rfl,rfl,rfl,rfl⟩ (                ⟨⟨rfl,nU rfl,rfl,fun _ τ hb ht hτ => R.fdP (hτ 2 _ rfl) ht⟩,⟨⟨rfl,nU rfl,rfl,fun _ τ hb ht hτ => R.ldP (hτ 46 _ rfl) (hb 2 _ rfl) rfl rfl rfl rfl ht⟩,⟨⟨rfl,nU rfl,rfl,fun _ τ hb ht hτ => R.mov (evt (hτ 5 _ rfl)) rfl ht⟩,⟨⟨rfl,nU rfl,rfl,fun _ τ hb ht hτ => R.idxN (i) (SC.sl (hτ 47 _ rfl)) (evoI (evt (hτ 48 _ rfl))) rfl bU ht (by decide)⟩,⟨⟨rfl,nU rfl,rfl,fun _ τ hb ht hτ => R.ldE (hτ 49 _ rfl) (SC.sl (hτ 47 _ rfl)) (map_get! (l := t.ins) bU) rfl rfl rfl rfl ht⟩,⟨⟨rfl,nU rfl,rfl,fun _ τ hb ht hτ => R.fdP (hτ 3 _ rfl) ht⟩,⟨⟨rfl,nU rfl,rfl,fun _ τ hb ht hτ => R.ldP (hτ 51 _ rfl) (hb 3 _ rfl) rfl rfl rfl rfl ht⟩,⟨⟨rfl,nU rfl,rfl,fun _ τ hb ht hτ => R.mov (evt (hτ 5 _ rfl)) rfl ht⟩,⟨⟨rfl,nU rfl,rfl,fun _ τ hb ht hτ => R.idxN (i) (SC.sl (hτ 52 _ rfl)) (evoI (evt (hτ 53 _ rfl))) rfl bU ht (by decide)⟩,⟨⟨rfl,nU rfl,rfl,fun _ τ hb ht hτ => R.ldE (hτ 54 _ rfl) (SC.sl (hτ 52 _ rfl)) (map_get! (l := u.ins) bU) rfl rfl rfl rfl ht⟩,⟨⟨rfl,rfl,⟨rfl,nU rfl⟩,(SpE.alloc rfl (nU rfl))⟩,⟨⟨rfl,rfl,⟨rfl,nU rfl⟩,(SpE.alloc rfl (nU rfl))⟩,⟨⟨rfl,rfl,rfl,(SpE.st (p := 6) (id := 6) rfl rfl rfl (fun τ hτ => (evt (hτ 50 _ rfl))) rfl rfl rfl rfl rfl)⟩,trivial⟩⟩⟩⟩⟩⟩⟩⟩⟩⟩⟩⟩⟩) rfl rfl rfl (n' := 122) rfl (⟨rfl,_,R.stZ (gU 7 rfl) (xU 7 rfl) rfl (gV 55 rfl) (by rfl) (by rfl) (by rfl) (by rfl) rfl,⟨[2,3,5,6,7],[(2,_),(3,_),(5,_),(6,_),(7,_)],[(6,.var _),(7,.var _),(3,.var _),(2,.var _)],122,rfl,rfl,rfl, ?_⟩⟩)
           refine W.seq ?_
           by_cases e1 : plc t.ins[i]! ≠ plc u.ins[i]!
           · refine W.l0 29 (.y 56 _ :: .y 57 _ :: .y 58 _ :: .y 59 _ :: .y 60 _ :: .y 61 _ :: .x 62 :: .x 63 :: .x 64 :: .x 65 :: .x 66 :: .x 67 :: .x 68 :: .y 69 _ :: .y 70 _ :: .x 71 :: .x 72 :: .x 73 :: .x 74 :: .x 75 :: .y 76 _ :: .y 77 _ :: .x 78 :: .x 79 :: .x 80 :: .x 81 :: .x 82 :: .x 83 :: .y 84 _ :: []) [] [] [(2,_),(3,_),(5,_),(84,_)] [(6,.var _),(7,.var _),(3,.var _),(2,.var _)] 122 ⟨aU (fU 6 rfl rfl),aU (lU 56 rfl rfl rfl rfl rfl rfl rfl),aU (fU 7 rfl rfl),aU (lU 58 rfl rfl rfl rfl rfl rfl rfl),aU fun _ _ H K => R.eqD (neg := true) (b' := (!(plc t.ins[i]! == plc u.ins[i]!))) (eqv_place (plc t.ins[i]!) (plc u.ins[i]!)) rfl (eU K 57 rfl) (eU K 59 rfl) rfl rfl rfl rfl (rfl) H,mU 60 rfl rfl,aF rfl rfl (gT (nq_t e1) rfl),aF rfl rfl (gT (nq_t e1) rfl),aF rfl rfl (gT (nq_t e1) rfl),aF rfl rfl (gT (nq_t e1) rfl),aF rfl rfl (gT (nq_t e1) rfl),aF rfl rfl (gT (nq_t e1) rfl),aF rfl rfl (gT (nq_t e1) rfl),aU fun _ _ H K => R.pickT (eU K 61 rfl) (nq_t e1) (kB true rfl) rfl H,mU 69 rfl rfl,aF rfl rfl (gT (rfl) rfl),aF rfl rfl (gT (rfl) rfl),aF rfl rfl (gT (rfl) rfl),aF rfl rfl (gT (rfl) rfl),aF rfl rfl (gT (rfl) rfl),aU fun _ _ H K => R.pickT (eU K 70 rfl) (rfl) (kB true rfl) rfl H,mU 76 rfl rfl,aF rfl rfl (gT (rfl) rfl),aF rfl rfl (gT (rfl) rfl),aF rfl rfl (gT (rfl) rfl),aF rfl rfl (gT (rfl) rfl),aF rfl rfl (gT (rfl) rfl),aF rfl rfl (gT (rfl) rfl),aU fun _ _ H K => R.pickT (eU K 77 rfl) (rfl) (kB true rfl) rfl H,trivial⟩ rfl rfl rfl rfl (tU rfl ?_)
             refine W.condT rfl (rfl) ?_
             refine W.seq ?_
             refine W.dropB [2,3] (bx' := [(3,.var _),(2,.var _)]) rfl rfl rfl (pin_sub hD rfl) ?_
             refine W.l0 1 [.y 4 _] [] [] [(4,_)] [(3,.var _),(2,.var _)] 122 ⟨aU fun _ _ H _ => R.asg (kB false rfl) rfl H,trivial⟩ rfl rfl rfl rfl (tU rfl ?_)
             refine W.ret ?_
             exact Ends.one' (.inr rfl) rfl (by rw [sm_fi hl (by omega) (ei_f1 e1)]) rfl rfl trivial
           · by_cases e2 : t.ins[i]!.script ≠ u.ins[i]!.script
             · refine W.l0 29 (.y 56 _ :: .y 57 _ :: .y 58 _ :: .y 59 _ :: .y 60 _ :: .y 61 _ :: .y 62 _ :: .y 63 _ :: .y 64 _ :: .y 65 _ :: .y 66 _ :: .y 67 _ :: .y 68 _ :: .y 69 _ :: .y 70 _ :: .x 71 :: .x 72 :: .x 73 :: .x 74 :: .x 75 :: .y 76 _ :: .y 77 _ :: .x 78 :: .x 79 :: .x 80 :: .x 81 :: .x 82 :: .x 83 :: .y 84 _ :: []) [] [] [(2,_),(3,_),(5,_),(84,_)] [(6,.var _),(7,.var _),(3,.var _),(2,.var _)] 122 ⟨aU (fU 6 rfl rfl),aU (lU 56 rfl rfl rfl rfl rfl rfl rfl),aU (fU 7 rfl rfl),aU (lU 58 rfl rfl rfl rfl rfl rfl rfl),aU fun _ _ H K => R.eqD (neg := true) (b' := (!(plc t.ins[i]! == plc u.ins[i]!))) (eqv_place (plc t.ins[i]!) (plc u.ins[i]!)) rfl (eU K 57 rfl) (eU K 59 rfl) rfl rfl rfl rfl (rfl) H,mU 60 rfl rfl,aW rfl rfl (gF (nq_f e1) rfl) (fU 6 rfl rfl),aW rfl rfl (gF (nq_f e1) rfl) (lU 62 rfl rfl rfl rfl rfl rfl rfl),aW rfl rfl (gF (nq_f e1) rfl) fun _ _ H K => R.cvS (xs := t.ins[i]!.script) (SC.sl (K 63 _ rfl)) H,aW rfl rfl (gF (nq_f e1) rfl) (fU 7 rfl rfl),aW rfl rfl (gF (nq_f e1) rfl) (lU 65 rfl rfl rfl rfl rfl rfl rfl),aW rfl rfl (gF (nq_f e1) rfl) fun _ _ H K => R.cvS (xs := u.ins[i]!.script) (SC.sl (K 66 _ rfl)) H,aW rfl rfl (gF (nq_f e1) rfl) fun _ _ H K => R.bin (eU K 64 rfl) (eU K 67 rfl) rfl trivial H,aU fun _ _ H K => R.pickF (eU K 61 rfl) (nq_f e1) (eU K 68 rfl) rfl H,mU 69 rfl rfl,aF rfl rfl (gT (nq_t e2) rfl),aF rfl rfl (gT (nq_t e2) rfl),aF rfl rfl (gT (nq_t e2) rfl),aF rfl rfl (gT (nq_t e2) rfl),aF rfl rfl (gT (nq_t e2) rfl),aU fun _ _ H K => R.pickT (eU K 70 rfl) (nq_t e2) (kB true rfl) rfl H,mU 76 rfl rfl,aF rfl rfl (gT (rfl) rfl),aF rfl rfl (gT (rfl) rfl),aF rfl rfl (gT (rfl) rfl),aF rfl rfl (gT (rfl) rfl),aF rfl rfl (gT (rfl) rfl),aF rfl rfl (gT (rfl) rfl),aU fun _ _ H K => R.pickT (eU K 77 rfl) (rfl) (kB true rfl) rfl H,trivial⟩ rfl rfl rfl rfl (tU rfl ?_)
               refine W.condT rfl (rfl) ?_
               refine W.seq ?_
               refine W.dropB [2,3] (bx' := [(3,.var _),(2,.var _)]) rfl rfl rfl (pin_sub hD rfl) ?_
               refine W.l0 1 [.y 4 _] [] [] [(4,_)] [(3,.var _),(2,.var _)] 122 ⟨aU fun _ _ H _ => R.asg (kB false rfl) rfl H,trivial⟩ rfl rfl rfl rfl (tU rfl ?_)
               refine W.ret ?_
               exact Ends.one' (.inr rfl) rfl (by rw [sm_fi hl (by omega) (ei_f2 e2)]) rfl rfl trivial
             · by_cases e3 : t.ins[i]!.seq ≠ u.ins[i]!.seq
               · refine W.l0 29 (.y 56 _ :: .y 57 _ :: .y 58 _ :: .y 59 _ :: .y 60 _ :: .y 61 _ :: .y 62 _ :: .y 63 _ :: .y 64 _ :: .y 65 _ :: .y 66 _ :: .y 67 _ :: .y 68 _ :: .y 69 _ :: .y 70 _ :: .y 71 _ :: .y 72 _ :: .y 73 _ :: .y 74 _ :: .y 75 _ :: .y 76 _ :: .y 77 _ :: .x 78 :: .x 79 :: .x 80 :: .x 81 :: .x 82 :: .x 83 :: .y 84 _ :: []) [] [] [(2,_),(3,_),(5,_),(84,_)] [(6,.var _),(7,.var _),(3,.var _),(2,.var _)] 122 ⟨aU (fU 6 rfl rfl),aU (lU 56 rfl rfl rfl rfl rfl rfl rfl),aU (fU 7 rfl rfl),aU (lU 58 rfl rfl rfl rfl rfl rfl rfl),aU fun _ _ H K => R.eqD (neg := true) (b' := (!(plc t.ins[i]! == plc u.ins[i]!))) (eqv_place (plc t.ins[i]!) (plc u.ins[i]!)) rfl (eU K 57 rfl) (eU K 59 rfl) rfl rfl rfl rfl (rfl) H,mU 60 rfl rfl,aW rfl rfl (gF (nq_f e1) rfl) (fU 6 rfl rfl),aW rfl rfl (gF (nq_f e1) rfl) (lU 62 rfl rfl rfl rfl rfl rfl rfl),aW rfl rfl (gF (nq_f e1) rfl) fun _ _ H K => R.cvS (xs := t.ins[i]!.script) (SC.sl (K 63 _ rfl)) H,aW rfl rfl (gF (nq_f e1) rfl) (fU 7 rfl rfl),aW rfl rfl (gF (nq_f e1) rfl) (lU 65 rfl rfl rfl rfl rfl rfl rfl),aW rfl rfl (gF (nq_f e1) rfl) fun _ _ H K => R.cvS (xs := u.ins[i]!.script) (SC.sl (K 66 _ rfl)) H,aW rfl rfl (gF (nq_f e1) rfl) fun _ _ H K => R.bin (eU K 64 rfl) (eU K 67 rfl) rfl trivial H,aU fun _ _ H K => R.pickF (eU K 61 rfl) (nq_f e1) (eU K 68 rfl) rfl H,mU 69 rfl rfl,aW rfl rfl (gF (nq_f e2) rfl) (fU 6 rfl rfl),aW rfl rfl (gF (nq_f e2) rfl) (lU 71 rfl rfl rfl rfl rfl rfl rfl),aW rfl rfl (gF (nq_f e2) rfl) (fU 7 rfl rfl),aW rfl rfl (gF (nq_f e2) rfl) (lU 73 rfl rfl rfl rfl rfl rfl rfl),aW rfl rfl (gF (nq_f e2) rfl) fun _ _ H K => R.bin (eU K 72 rfl) (eU K 74 rfl) rfl trivial H,aU fun _ _ H K => R.pickF (eU K 70 rfl) (nq_f e2) (eU K 75 rfl) rfl H,mU 76 rfl rfl,aF rfl rfl (gT (nq_t e3) rfl),aF rfl rfl (gT (nq_t e3) rfl),aF rfl rfl (gT (nq_t e3) rfl),aF rfl rfl (gT (nq_t e3) rfl),aF rfl rfl (gT (nq_t e3) rfl),aF rfl rfl (gT (nq_t e3) rfl),aU fun _ _ H K => R.pickT (eU K 77 rfl) (nq_t e3) (kB true rfl) rfl H,trivial⟩ rfl rfl rfl rfl (tU rfl ?_)
                 refine W.condT rfl (rfl) ?_
                 refine W.seq ?_
                 refine W.dropB [2,3] (bx' := [(3,.var _),(2,.var _)]) rfl rfl rfl (pin_sub hD rfl) ?_
                 refine W.l0 1 [.y 4 _] [] [] [(4,_)] [(3,.var _),(2,.var _)] 122 ⟨aU fun _ _ H _ => R.asg (kB false rfl) rfl H,trivial⟩ rfl rfl rfl rfl (tU rfl ?_)
                 refine W.ret ?_
                 exact Ends.one' (.inr rfl) rfl (by rw [sm_fi hl (by omega) (ei_f3 e3)]) rfl rfl trivial
               · refine W.l0 29 (.y 56 _ :: .y 57 _ :: .y 58 _ :: .y 59 _ :: .y 60 _ :: .y 61 _ :: .y 62 _ :: .y 63 _ :: .y 64 _ :: .y 65 _ :: .y 66 _ :: .y 67 _ :: .y 68 _ :: .y 69 _ :: .y 70 _ :: .y 71 _ :: .y 72 _ :: .y 73 _ :: .y 74 _ :: .y 75 _ :: .y 76 _ :: .y 77 _ :: .y 78 _ :: .y 79 _ :: .y 80 _ :: .y 81 _ :: .y 82 _ :: .y 83 _ :: .y 84 _ :: []) [] [] [(2,_),(3,_),(5,_),(84,_)] [(6,.var _),(7,.var _),(3,.var _),(2,.var _)] 122 ⟨aU (fU 6 rfl rfl),aU (lU 56 rfl rfl rfl rfl rfl rfl rfl),aU (fU 7 rfl rfl),aU (lU 58 rfl rfl rfl rfl rfl rfl rfl),aU fun _ _ H K => R.eqD (neg := true) (b' := (!(plc t.ins[i]! == plc u.ins[i]!))) (eqv_place (plc t.ins[i]!) (plc u.ins[i]!)) rfl (eU K 57 rfl) (eU K 59 rfl) rfl rfl rfl rfl (rfl) H,mU 60 rfl rfl,aW rfl rfl (gF (nq_f e1) rfl) (fU 6 rfl rfl),aW rfl rfl (gF (nq_f e1) rfl) (lU 62 rfl rfl rfl rfl rfl rfl rfl),aW rfl rfl (gF (nq_f e1) rfl) fun _ _ H K => R.cvS (xs := t.ins[i]!.script) (SC.sl (K 63 _ rfl)) H,aW rfl rfl (gF (nq_f e1) rfl) (fU 7 rfl rfl),aW rfl rfl (gF (nq_f e1) rfl) (lU 65 rfl rfl rfl rfl rfl rfl rfl),aW rfl rfl (gF (nq_f e1) rfl) fun _ _ H K => R.cvS (xs := u.ins[i]!.script) (SC.sl (K 66 _ rfl)) H,aW rfl rfl (gF (nq_f e1) rfl) fun _ _ H K => R.bin (eU K 64 rfl) (eU K 67 rfl) rfl trivial H,aU fun _ _ H K => R.pickF (eU K 61 rfl) (nq_f e1) (eU K 68 rfl) rfl H,mU 69 rfl rfl,aW rfl rfl (gF (nq_f e2) rfl) (fU 6 rfl rfl),aW rfl rfl (gF (nq_f e2) rfl) (lU 71 rfl rfl rfl rfl rfl rfl rfl),aW rfl rfl (gF (nq_f e2) rfl) (fU 7 rfl rfl),aW rfl rfl (gF (nq_f e2) rfl) (lU 73 rfl rfl rfl rfl rfl rfl rfl),aW rfl rfl (gF (nq_f e2) rfl) fun _ _ H K => R.bin (eU K 72 rfl) (eU K 74 rfl) rfl trivial H,aU fun _ _ H K => R.pickF (eU K 70 rfl) (nq_f e2) (eU K 75 rfl) rfl H,mU 76 rfl rfl,aW rfl rfl (gF (nq_f e3) rfl) (fU 6 rfl rfl),aW rfl rfl (gF (nq_f e3) rfl) (lU 78 rfl rfl rfl rfl rfl rfl rfl),aW rfl rfl (gF (nq_f e3) rfl) (fU 7 rfl rfl),aW rfl rfl (gF (nq_f e3) rfl) (lU 80 rfl rfl rfl rfl rfl rfl rfl),aW rfl rfl (gF (nq_f e3) rfl) fun _ _ H K => R.callG hC (lists_ok t.ins[i]!.wit u.ins[i]!.wit (hwf.witl _ (get_mem (by omega))).1 (huf.witl _ (get_mem (by omega))).1) (Bors.cons (Bor.pur (eU K 79 rfl) rfl rfl) (Bors.cons (Bor.pur (eU K 81 rfl) rfl rfl) Bors.nil)) (FrsR.one (.bool _)) H,aW rfl rfl (gF (nq_f e3) rfl) fun _ _ H K => R.un (eU K 82 rfl) rfl H,aU fun _ _ H K => R.pickF (eU K 77 rfl) (nq_f e3) (eU K 83 rfl) rfl H,trivial⟩ rfl rfl rfl rfl (tU rfl ?_)
                 refine W.cond rfl (fun hc84 => ?_) (fun hc84 => ?_)
                 · refine W.seq ?_
                   refine W.dropB [2,3] (bx' := [(3,.var _),(2,.var _)]) rfl rfl rfl (pin_sub hD rfl) ?_
                   refine W.l0 1 [.y 4 _] [] [] [(4,_)] [(3,.var _),(2,.var _)] 122 ⟨aU fun _ _ H _ => R.asg (kB false rfl) rfl H,trivial⟩ rfl rfl rfl rfl (tU rfl ?_)
                   refine W.ret ?_
                   exact Ends.one' (.inr rfl) rfl (by rw [sm_fi hl (by omega) (ei_f4 hc84)]) rfl rfl trivial
                 · refine W.skip ?_
                   refine W.dropB [2,3] (bx' := [(3,.var _),(2,.var _)]) rfl rfl rfl (pin_sub hD rfl) ?_
                   refine W.l0 3 [.y 44 _,.y 45 _,.y 5 _] [] [] [(2,_),(3,_),(5,_)] [(3,.var _),(2,.var _)] 122 ⟨mU 5 rfl rfl,aU fun _ _ H K => R.addN (i) (1) (eU K 44 rfl) (kI 1 rfl) bU H,aU fun _ _ H K => R.asg (eU K 45 rfl) rfl H,trivial⟩ rfl rfl rfl rfl (tU rfl ?_)
                   exact ⟨⟨(i + 1),⟨by omega,ext_i hp (ei_t e1 e2 e3 hc84)⟩⟩,rfl,(by simp only []; omega)⟩
         · obtain rfl : i = t.ins.length := by omega
           refine W.exit ?_
           refine W.seq ?_
           refine W.seq ?_
           refine W.l0 1 [.y 8 _] [] [] [(2,_),(3,_),(8,_)] [(3,.var _),(2,.var _)] 122 ⟨aU fun _ _ H _ => R.asg (kI 0 rfl) rfl H,trivial⟩ rfl rfl rfl rfl (tU rfl ?_)
           refine W.block ?_
           refine W.loop (α := {q__ : Nat // q__ ≤ t.outs.length ∧ ∀ j < q__,eqOut t.outs[j]! u.outs[j]! = true}) (fun q__ => ⟨122,[(2,.ptr 2 0 []),(3,.ptr 3 0 []),(8,.int ((q__.1 : Nat) : Int))],[(3,.var (.agg [.u32 u.ver,.sl none 36 (u.ins.map inD),.sl none 2 (u.outs.map outD),.u32 u.lock])),(2,.var (.agg [.u32 t.ver,.sl none 36 (t.ins.map inD),.sl none 2 (t.outs.map outD),.u32 t.lock]))]⟩) (fun q__ => t.outs.length - q__.1) ⟨(0),⟨Nat.zero_le _,fun j h => absurd h (Nat.not_lt_zero _)⟩⟩ rfl ?_
           rintro ⟨i,⟨hi2,hp2⟩⟩
           show W _ _ _ _ ⟨122,[(2,.ptr 2 0 []),(3,.ptr 3 0 []),(8,.int ((i : Nat) : Int))],[(3,.var (.agg [.u32 u.ver,.sl none 36 (u.ins.map inD),.sl none 2 (u.outs.map outD),.u32 u.lock])),(2,.var (.agg [.u32 t.ver,.sl none 36 (t.ins.map inD),.sl none 2 (t.outs.map outD),.u32 t.lock]))]⟩
           have hi2 : i ≤ t.outs.length := hi2
           have hp2 : ∀ j < i,eqOut t.outs[j]! u.outs[j]! = true := hp2
           refine W.seq ?_
           refine W.seq ?_
           refine W.l0 5 [.y 85 _,.y 86 _,.y 87 _,.y 88 _,.y 89 _] [] [] [(2,_),(3,_),(8,_),(89,_)] [(3,.var _),(2,.var _)] 122 ⟨mU 8 rfl rfl,aU (fU 2 rfl rfl),aU (lU 86 rfl rfl rfl rfl rfl rfl rfl),aU fun _ _ H K => R.lenE (SC.sl (K 87 _ rfl)) (List.length_map _) H,aU fun _ _ H K => R.lssN (i) (t.outs.length) (eU K 85 rfl) (eU K 88 rfl) H,trivial⟩ rfl rfl rfl rfl (tU rfl ?_)
           refine W.condD rfl (fun hc89 => ?_) (fun hc89 => ?_)
           · refine W.skip ?_
             refine W.seq ?_
             refine W.block ?_
             refine W.seq ?_
             by_cases o1 : t.outs[i]!.value ≠ u.outs[i]!.value
             · refine W.draw (m := 30) (an := (0 :: 1 :: 0 :: 7 :: 15 :: 31 :: 0 :: 64 :: 0 :: 448 :: 960 :: 1984 :: 4095 :: 8191 :: 16383 :: 32767 :: 16383 :: 131071 :: 262143 :: 524287 :: 1048575 :: 16383 :: 2113535 :: 16383 :: 14696447 :: 31473663 :: 65028095 :: 132136959 :: 268435455 :: 536870911 :: [])) hP (by decide) rfl (its := (.y 92 _ :: .y 93 _ :: .y 94 _ :: .y 95 _ :: .y 96 _ :: .y 97 _ :: .y 98 _ :: .y 99 _ :: .y 100 _ :: .y 101 _ :: .y 102 _ :: .y 103 _ :: .y 104 _ :: .y 105 _ :: .x 106 :: .x 107 :: .x 108 :: .x 109 :: .x 110 :: .x 111 :: .x 112 :: .x 113 :: .x 114 :: .x 115 :: .x 116 :: .x 117 :: .x 118 :: .x 119 :: .x 120 :: .y 121 _ :: [])) (ks := []) (kk := []) (live := [2,3,8,121]) (env' := [(2,_),(3,_),(8,_),(121,_)]) (⟨nU rfl,rfl,⟨aU (fU 2 rfl rfl),aU (lU 92 rfl rfl rfl rfl rfl rfl rfl),mU 8 rfl rfl,aU fun _ _ H K => R.idxN (i) (SC.sl (K 93 _ rfl)) (evoI (eU K 94 rfl)) rfl bU H (by decide),aU fun _ _ H K => R.fdE (K 95 _ rfl) H (by decide),aU fun _ _ H K => R.ldE (K 96 _ rfl) (SC.sl (K 93 _ rfl)) (map_get! (l := t.outs) bU) rfl rfl rfl rfl H,aU (fU 3 rfl rfl),aU (lU 98 rfl rfl rfl rfl rfl rfl rfl),mU 8 rfl rfl,aU fun _ _ H K => R.idxN (i) (SC.sl (K 99 _ rfl)) (evoI (eU K 100 rfl)) rfl bU H (by decide),aU fun _ _ H K => R.fdE (K 101 _ rfl) H (by decide),aU fun _ _ H K => R.ldE (K 102 _ rfl) (SC.sl (K 99 _ rfl)) (map_get! (l := u.outs) bU) rfl rfl rfl rfl H,aU fun _ _ H K => R.bin (eU K 97 rfl) (eU K 103 rfl) rfl trivial H,mU 104 rfl rfl,aF rfl rfl (gT (nq_t o1) rfl),aF rfl rfl (gT (nq_t o1) rfl),aF rfl rfl (gT (nq_t o1) rfl),aF rfl rfl (gT (nq_t o1) rfl),aF rfl rfl (gT (nq_t o1) rfl),aF rfl rfl (gT (nq_t o1) rfl),aF rfl rfl (gT (nq_t o1) rfl),aF rfl rfl (gT (nq_t o1) rfl),aF rfl rfl (gT (nq_t o1) rfl),aF rfl rfl (gT (nq_t o1) rfl),aF rfl rfl (gT (nq_t o1) rfl),aF rfl rfl (gT (nq_t o1) rfl),aF rfl rfl (gT (nq_t o1) rfl),aF rfl rfl (gT (nq_t o1) rfl),aF rfl rfl (gT (nq_t o1) rfl),aU fun _ _ H K => R.pickT (eU K 105 rfl) (nq_t o1) (kB true rfl) rfl H,trivial⟩,rfl,rfl,rfl⟩) rfl (bx' := [(3,.var _),(2,.var _)]) rfl (n' := 122) rfl (tV [(2,_),(3,_),(8,_),(121,_)] [(3,.var _),(2,.var _)] 122 rfl rfl rfl ?_)
               refine W.condT rfl (rfl) ?_
               refine W.seq ?_
               refine W.l0 1 [.y 4 _] [] [] [(4,_)] [(3,.var _),(2,.var _)] 122 ⟨aU fun _ _ H _ => R.asg (kB false rfl) rfl H,trivial⟩ rfl rfl rfl rfl (tU rfl ?_)
               refine W.ret ?_
               exact Ends.one' (.inr rfl) rfl (by rw [sm_fo hol (by omega) (eo_f1 o1)]) rfl rfl trivial
             · refine W.draw (m := 30) (an := (0 :: 1 :: 0 :: 7 :: 15 :: 31 :: 0 :: 64 :: 0 :: 448 :: 960 :: 1984 :: 4095 :: 8191 :: 16383 :: 32767 :: 16383 :: 131071 :: 262143 :: 524287 :: 1048575 :: 16383 :: 2113535 :: 16383 :: 14696447 :: 31473663 :: 65028095 :: 132136959 :: 268435455 :: 536870911 :: [])) hP (by decide) rfl (its := (.y 92 _ :: .y 93 _ :: .y 94 _ :: .y 95 _ :: .y 96 _ :: .y 97 _ :: .y 98 _ :: .y 99 _ :: .y 100 _ :: .y 101 _ :: .y 102 _ :: .y 103 _ :: .y 104 _ :: .y 105 _ :: .y 106 _ :: .y 107 _ :: .y 108 _ :: .y 109 _ :: .y 110 _ :: .y 111 _ :: .y 112 _ :: .y 113 _ :: .y 114 _ :: .y 115 _ :: .y 116 _ :: .y 117 _ :: .y 118 _ :: .y 119 _ :: .y 120 _ :: .y 121 _ :: [])) (ks := []) (kk := []) (live := [2,3,8,121]) (env' := [(2,_),(3,_),(8,_),(121,_)]) (⟨nU rfl,rfl,⟨aU (fU 2 rfl rfl),aU (lU 92 rfl rfl rfl rfl rfl rfl rfl),mU 8 rfl rfl,aU fun _ _ H K => R.idxN (i) (SC.sl (K 93 _ rfl)) (evoI (eU K 94 rfl)) rfl bU H (by decide),aU fun _ _ H K => R.fdE (K 95 _ rfl) H (by decide),aU fun _ _ H K => R.ldE (K 96 _ rfl) (SC.sl (K 93 _ rfl)) (map_get! (l := t.outs) bU) rfl rfl rfl rfl H,aU (fU 3 rfl rfl),aU (lU 98 rfl rfl rfl rfl rfl rfl rfl),mU 8 rfl rfl,aU fun _ _ H K => R.idxN (i) (SC.sl (K 99 _ rfl)) (evoI (eU K 100 rfl)) rfl bU H (by decide),aU fun _ _ H K => R.fdE (K 101 _ rfl) H (by decide),aU fun _ _ H K => R.ldE (K 102 _ rfl) (SC.sl (K 99 _ rfl)) (map_get! (l := u.outs) bU) rfl rfl rfl rfl H,aU fun _ _ H K => R.bin (eU K 97 rfl) (eU K 103 rfl) rfl trivial H,mU 104 rfl rfl,aW rfl rfl (gF (nq_f o1) rfl) (fU 2 rfl rfl),aW rfl rfl (gF (nq_f o1) rfl) (lU 106 rfl rfl rfl rfl rfl rfl rfl),aW rfl rfl (gF (nq_f o1) rfl) fun _ _ H K => R.mov (eU K 8 rfl) rfl H,aW rfl rfl (gF (nq_f o1) rfl) fun _ _ H K => R.idxN (i) (SC.sl (K 107 _ rfl)) (evoI (eU K 108 rfl)) rfl bU H (by decide),aW rfl rfl (gF (nq_f o1) rfl) fun _ _ H K => R.fdE (K 109 _ rfl) H (by decide),aW rfl rfl (gF (nq_f o1) rfl) fun _ _ H K => R.ldE (K 110 _ rfl) (SC.sl (K 107 _ rfl)) (map_get! (l := t.outs) bU) rfl rfl rfl rfl H,aW rfl rfl (gF (nq_f o1) rfl) fun _ _ H K => R.cvS (xs := t.outs[i]!.script) (SC.sl (K 111 _ rfl)) H,aW rfl rfl (gF (nq_f o1) rfl) (fU 3 rfl rfl),aW rfl rfl (gF (nq_f o1) rfl) (lU 113 rfl rfl rfl rfl rfl rfl rfl),aW rfl rfl (gF (nq_f o1) rfl) fun _ _ H K => R.mov (eU K 8 rfl) rfl H,aW rfl rfl (gF (nq_f o1) rfl) fun _ _ H K => R.idxN (i) (SC.sl (K 114 _ rfl)) (evoI (eU K 115 rfl)) rfl bU H (by decide),aW rfl rfl (gF (nq_f o1) rfl) fun _ _ H K => R.fdE (K 116 _ rfl) H (by decide),aW rfl rfl (gF (nq_f o1) rfl) fun _ _ H K => R.ldE (K 117 _ rfl) (SC.sl (K 114 _ rfl)) (map_get! (l := u.outs) bU) rfl rfl rfl rfl H,aW rfl rfl (gF (nq_f o1) rfl) fun _ _ H K => R.cvS (xs := u.outs[i]!.script) (SC.sl (K 118 _ rfl)) H,aW rfl rfl (gF (nq_f o1) rfl) fun _ _ H K => R.bin (eU K 112 rfl) (eU K 119 rfl) rfl trivial H,aU fun _ _ H K => R.pickF (eU K 105 rfl) (nq_f o1) (eU K 120 rfl) rfl H,trivial⟩,rfl,rfl,rfl⟩) rfl (bx' := [(3,.var _),(2,.var _)]) rfl (n' := 122) rfl (tV [(2,_),(3,_),(8,_),(121,_)] [(3,.var _),(2,.var _)] 122 rfl rfl rfl ?_)
               refine W.cond rfl (fun hc121 => ?_) (fun hc121 => ?_)
               · refine W.seq ?_
                 refine W.l0 1 [.y 4 _] [] [] [(4,_)] [(3,.var _),(2,.var _)] 122 ⟨aU fun _ _ H _ => R.asg (kB false rfl) rfl H,trivial⟩ rfl rfl rfl rfl (tU rfl ?_)
                 refine W.ret ?_
                 exact Ends.one' (.inr rfl) rfl (by rw [sm_fo hol (by omega) (eo_f2 hc121)]) rfl rfl trivial
               · refine W.skip ?_
                 refine W.l0 3 [.y 90 _,.y 91 _,.y 8 _] [] [] [(2,_),(3,_),(8,_)] [(3,.var _),(2,.var _)] 122 ⟨mU 8 rfl rfl,aU fun _ _ H K => R.addN (i) (1) (eU K 90 rfl) (kI 1 rfl) bU H,aU fun _ _ H K => R.asg (eU K 91 rfl) rfl H,trivial⟩ rfl rfl rfl rfl (tU rfl ?_)
                 exact ⟨⟨(i + 1),⟨by omega,ext_i hp2 (eo_t o1 hc121)⟩⟩,rfl,(by simp only []; omega)⟩
           · obtain rfl : i = t.outs.length := by omega
             refine W.exit ?_
             refine W.seq ?_
             refine W.l0 1 [.y 4 _] [] [] [(4,_)] [(3,.var _),(2,.var _)] 122 ⟨aU fun _ _ H _ => R.asg (kB true rfl) rfl H,trivial⟩ rfl rfl rfl rfl (tU rfl ?_)
             refine W.ret ?_
             exact Ends.one' (.inr rfl) rfl (by rw [sm_t (Classical.byContradiction k1) (Classical.byContradiction k2) hl hol hp hp2]) rfl rfl trivial

end Go.Sx

namespace Go.Sx
open Go.Proofs
end Go.Sx

namespace Go.Sx
open Go.Proofs
def itemsO : Nat → List UInt8 → Option (List (List UInt8) × List UInt8)
 | 0,b => some ([],b)
 | n + 1,b => (itemO b).bind fun p => (itemsO n p.2).bind fun q => some (p.1 :: q.1,q.2)
def witO (b : List UInt8) : Option (List (List UInt8) × List UInt8) := (cntO b).bind fun c => itemsO c.1 c.2
def setW (x : InS) (ws : List (List UInt8)) : InS := { x with wit := ws }
def witsO : List InS → List UInt8 → Option (List InS × List UInt8)
 | [],b => some ([],b)
 | x :: xs,b => (witO b).bind fun p => (witsO xs p.2).bind fun q => some (setW x p.1 :: q.1,q.2)
section
variable {b u u2 r x : List UInt8} {n j : Nat} {ws : List (List UInt8)} {ins l rest : List InS} {y : InS}
theorem it_step (h : itemsO n r = (itemsO (n - j) u).map fun z => (ws ++ z.1,z.2)) (hj : j < n) (h2 : itemO u = some (x,u2)) : itemsO n r = (itemsO (n - (j + 1)) u2).map fun z => ((ws ++ [x]) ++ z.1,z.2) := by
 rw [h,show n - j = (n - (j + 1)) + 1 by omega]
 simp only [itemsO,h2,Option.bind_some]
 cases itemsO (n - (j + 1)) u2 <;> simp
theorem it_none (h : itemsO n r = (itemsO (n - j) u).map fun z => (ws ++ z.1,z.2)) (hj : j < n) (h2 : itemO u = none) : itemsO n r = none := by
 rw [h,show n - j = (n - (j + 1)) + 1 by omega]
 simp [itemsO,h2]
theorem it_end (h : itemsO n r = (itemsO (n - n) u).map fun z => (ws ++ z.1,z.2)) : itemsO n r = some (ws,u) := by
 rw [h,Nat.sub_self]; simp [itemsO]
theorem wo_n1 (h : cntO b = none) : witO b = none := by unfold witO; rw [h]; rfl
theorem wo_n2 (h : cntO b = some (n,r)) (h2 : itemsO n r = none) : witO b = none := by unfold witO; rw [h,Option.bind_some,h2]
theorem wo_s (h : cntO b = some (n,r)) (h2 : itemsO n r = some (ws,u)) : witO b = some (ws,u) := by unfold witO; rw [h,Option.bind_some,h2]
theorem ws_step {b0 : List UInt8} (h : witsO ins b0 = (witsO (y :: rest) b).map fun z => (l ++ z.1,z.2)) (h2 : witO b = some (ws,u)) : witsO ins b0 = (witsO rest u).map fun z => ((l ++ [setW y ws]) ++ z.1,z.2) := by
 rw [h]
 simp only [witsO,h2,Option.bind_some]
 cases witsO rest u <;> simp
theorem ws_none {b0 : List UInt8} (h : witsO ins b0 = (witsO (y :: rest) b).map fun z => (l ++ z.1,z.2)) (h2 : witO b = none) : witsO ins b0 = none := by
 rw [h]; simp [witsO,h2]
theorem ws_end {b0 : List UInt8} (h : witsO ins b0 = (witsO [] b).map fun z => (l ++ z.1,z.2)) : witsO ins b0 = some (l,b) := by
 rw [h]; simp [witsO]
theorem rest_cons (h : l.length + rest.length = n) (hi : l.length < n) : ∃ y r,rest = y :: r := by
 cases rest with
 | nil => simp at h; omega
 | cons y r => exact ⟨y,r,rfl⟩
theorem rest_nil (h : l.length + rest.length = n) (hi : ¬ l.length < n) : rest = [] := by
 cases rest with
 | nil => rfl
 | cons y r => simp at h; omega
end
def inWt (x : InS) (ws : List (List UInt8)) : D := .agg [.agg [hashD x.tx,.u32 x.n],bytesD x.script,.u32 x.seq,.sl (some 29) 1 (ws.map bytesD)]
def wl (l : List InS) (m : List D) (q : Nat) : D := .agg ((l.map inD ++ m) ++ List.replicate q .dead)
theorem inD_sz (x : InS) : (inD x).sz = 36 := by simp [inD,hashD,bytesD,D.sz]
section
variable {l : List InS} {r : List D} {q i : Nat} {a b c x y : D}
theorem wl_at (hi : l.length = i) (m : D) : ((l.map inD ++ m :: r) ++ List.replicate q D.dead)[i]? = some m := by
 subst hi
 rw [List.append_assoc,List.getElem?_append_right (by simp)]
 simp
theorem wl_loc (hi : l.length = i) (ha : a.sz = 33) (hb : b.sz = 1) (hc : c.sz = 1) : (wl l (.agg [a,b,c,x] :: r) q).loc [i,3] = some (i * 36 + 35,x) := by
 unfold wl
 simp only [D.loc,wl_at hi]
 have e1 : offk ((l.map inD ++ D.agg [a,b,c,x] :: r) ++ List.replicate q D.dead) i = i * 36 := by
  rw [List.append_assoc]
  exact offk_uni _ _ (fun d hd => by obtain ⟨z,_,rfl⟩ := List.mem_map.1 hd; exact inD_sz z) i (by simp; omega)
 have e2 : offk [a,b,c,x] 3 = 35 := by simp [offk,ha,hb,hc]
 rw [e1,e2]; rfl
theorem wl_upd (hi : l.length = i) : (wl l (.agg [a,b,c,x] :: r) q).upd [i,3] y = some (wl l (.agg [a,b,c,y] :: r) q) := by
 unfold wl
 simp only [D.upd,wl_at hi]
 subst hi
 simp
theorem wl_noArr (hi : l.length = i) : (wl l (.agg [a,b,c,x] :: r) q).noArr [i,3] = true := by
 unfold wl
 simp only [D.noArr,wl_at hi]
 rfl
theorem brw_inWt (z : InS) (ws : List (List UInt8)) : (inWt z ws).brw = inD (setW z ws) := by
 simp only [inWt,inD,setW,D.brw,brws_eq,List.map_cons,List.map_nil,brw_bytes,brw_hash]
 rw [brw_map (fun b => brw_bytes b)]
theorem brw_deads (q : Nat) : (List.replicate q D.dead).map D.brw = List.replicate q D.dead := by simp [D.brw]
theorem wl_brw (z : InS) (ws : List (List UInt8)) (rs : List InS) : (wl l (inWt z ws :: rs.map inN) q).brw = wl (l ++ [setW z ws]) (rs.map inN) q := by
 unfold wl
 simp only [D.brw,brws_eq,List.map_append,List.map_cons,List.map_nil,brw_inWt,brw_deads]
 rw [brw_map brw_inD,brw_map brw_inN]
 simp
theorem wl_end : (wl l (([] : List InS).map inN) q).brw = .agg (l.map inD ++ List.replicate q .dead) := by
 unfold wl
 simp only [D.brw,brws_eq,List.map_append,List.map_nil,brw_deads,List.append_nil]
 rw [brw_map brw_inD]
end
end Go.Sx

namespace Go.Sx
open Go.Proofs
theorem rwits_ok (b : List UInt8) (hb0 : b.length ≤ 100000) (v k : UInt32) (ins : List InS) (outs : List OutS) (hil : ins.length ≤ 1000000) (hne : ins ≠ []) : FnO Tryd.prog gl 45 [.ptr 0 0 [],.ptr 1 0 []] [(0,.var (.agg [.sl none 1 (b.map D.u8)])),(1,.var (.agg [.u32 v,.sl (some 56) 36 (ins.map inN),.sl (some 46) 2 (outs.map outD),.u32 k]))] (((witsO ins b).map fun q => (.tup [],[(0,.var (.agg [bytesD q.2])),(1,.var (.agg [.u32 v,.sl none 36 (q.1.map inD),.sl none 2 (outs.map outD),.u32 k]))],[]))) := by
 refine FnO.of (n := 38) (ids := [0,1]) Tryd.func45 rfl rfl rfl (nU rfl) fun C hC hD => ?_
 refine W.seq ?_
 refine W.openB 9 1 [1] rfl rfl rfl rfl rfl rfl (fun _ => rfl) (by simpa using hne) rfl (fun _ => rfl) fun cap q _ _ _ => ?_
 refine W.l0 6 [.y 5 _,.y 6 _,.y 7 _,.y 8 _,.y 9 _,.y 10 _] [] [] [(0,_),(1,_),(9,_),(10,_)] [(9,.var _),(0,.var _),(1,.var _)] 38 ⟨mU 1 rfl rfl,aU fun _ _ H K => R.nilcP (K 5 _ rfl) H,aU (fU 6 rfl rfl),aU (lU 7 rfl rfl rfl rfl rfl rfl rfl),aU fun _ _ H K => R.lenBs (K 8 _ rfl) H,aU fun _ _ H _ => R.mov (kI 0 rfl) rfl H,trivial⟩ rfl rfl rfl rfl (tU rfl ?_)
 refine W.block ?_
 refine W.loop (α := {q__ : Nat × List InS × List InS × List UInt8 // q__.2.1.length = q__.1 ∧ q__.2.1.length + q__.2.2.1.length = ins.length ∧ q__.2.2.2.length ≤ b.length ∧ witsO ins b = (witsO q__.2.2.1 q__.2.2.2).map fun z => (q__.2.1 ++ z.1,z.2)}) (fun q__ => ⟨38,[(0,.ptr 0 0 []),(1,.ptr 1 0 []),(9,.int ((ins.length : Nat) : Int)),(10,.int ((q__.1.1 : Nat) : Int))],[(9,.var (wl q__.1.2.1 (q__.1.2.2.1.map inN) q)),(0,.var (.agg [.sl none 1 (q__.1.2.2.2.map D.u8)])),(1,.var (.agg [.u32 v,.bs 9 36 ins.length cap,.sl (some 46) 2 (outs.map outD),.u32 k]))]⟩) (fun q__ => ins.length - q__.1.1) ⟨(0,[],ins,b),⟨rfl,by simp,Nat.le_refl _,by simp⟩⟩ (by simp only [List.length_map]; rfl) ?_
 rintro ⟨⟨i,l,rest,r⟩,⟨hli,hlen,hrb,hO⟩⟩
 show W _ _ _ _ ⟨38,[(0,.ptr 0 0 []),(1,.ptr 1 0 []),(9,.int ((ins.length : Nat) : Int)),(10,.int ((i : Nat) : Int))],[(9,.var (wl l (rest.map inN) q)),(0,.var (.agg [.sl none 1 (r.map D.u8)])),(1,.var (.agg [.u32 v,.bs 9 36 ins.length cap,.sl (some 46) 2 (outs.map outD),.u32 k]))]⟩
 have hli : l.length = i := hli
 have hlen : l.length + rest.length = ins.length := hlen
 have hrb : r.length ≤ b.length := hrb
 have hO : witsO ins b = (witsO rest r).map fun z => (l ++ z.1,z.2) := hO
 refine W.seq ?_
 refine W.l0 1 [.y 11 _] [] [] [(0,_),(1,_),(9,_),(10,_),(11,_)] [(9,.var _),(0,.var _),(1,.var _)] 38 ⟨aU fun _ _ H K => R.lssN (i) (ins.length) (eU K 10 rfl) (eU K 9 rfl) H,trivial⟩ rfl rfl rfl rfl (tU rfl ?_)
 refine W.seq ?_
 refine W.condD rfl (fun hc11 => ?_) (fun hc11 => ?_)
 · refine W.skip ?_
   refine W.seq ?_
   refine W.block ?_
   refine W.seq ?_
   obtain ⟨x,rs,rfl⟩ := rest_cons hlen (by omega)
   show W _ _ _ _ _
   have hlr : l.length + rs.length + 1 = ins.length := by simp at hlen; omega
   refine W.l0 2 [.y 12 _,.y 4 _] [] [] [(0,_),(1,_),(4,_),(9,_),(10,_)] [(9,.var _),(0,.var _),(1,.var _)] 38 ⟨mU 10 rfl rfl,aU fun _ _ H K => R.asg (eU K 12 rfl) rfl H,trivial⟩ rfl rfl rfl rfl (tU rfl ?_)
   refine W.seq ?_
   rcases hE : cntO r with _ | ⟨n,r1⟩
   · refine W.asOwnP 9 [i,3] 29 1 (bx' := [(9,.var _),(0,.var _),(1,.var _)]) rfl (wl_loc hli rfl rfl rfl) (wl_noArr hli) (wl_upd hli) rfl ?_
     refine W.lineX (n := 3) (by decide) (its := [.y 13 _]) (ks := []) (kk := []) (live := [0,1,4,9,10,13]) (env' := [(0,_),(1,_),(4,_),(9,_),(10,_),(13,_)]) (⟨nU rfl,rfl,⟨mU 0 rfl rfl,trivial⟩,rfl,rfl,rfl⟩) rfl (bx' := [(9,.var _),(0,.var _),(1,.var _)]) rfl (n' := 38) rfl (⟨rfl,.inr (R.callX [(0,0)] hC (FnO.none' (rcount_ok r (by omega)) (by rw [hE]; rfl)) (EvB.cons (gV 13 rfl) rfl rfl rfl EvB.nil) rfl ⟨rfl,trivial⟩ ⟨rfl,trivial⟩ rfl (fun e he => ?_))⟩)
     obtain ⟨ch,rfl,hch⟩ := he
     exact EndsO.none' (by rw [ws_none hO (wo_n1 hE)]; rfl) ⟨⟨ch,rfl,hch⟩,⟨⟨_,rfl,by first | rfl | simp [dds_sz,sz_ren,D.sz]⟩,⟨⟨_,rfl,by first | rfl | simp [dds_sz,sz_ren,D.sz]⟩,trivial⟩⟩⟩
   have hr1 := cntO_le hE (by omega)
   refine W.asOwnP 9 [i,3] 29 1 (bx' := [(9,.var _),(0,.var _),(1,.var _)]) rfl (wl_loc hli rfl rfl rfl) (wl_noArr hli) (wl_upd hli) rfl ?_
   refine W.l0 3 [.y 13 _] [] [] [(0,_),(1,_),(4,_),(9,_),(10,_),(13,_)] [(9,.var _),(0,.var _),(1,.var _)] 38 ⟨mU 0 rfl rfl,trivial⟩ rfl rfl rfl rfl (⟨rfl,_,R.callB [(0,0)] hC (FnO.some' (r := .int ((n : Nat) : Int)) (bx' := [(0,.var (.agg [.sl none 1 (r1.map D.u8)]))]) (nw := []) (rcount_ok r (by omega)) (by rw [hE]; rfl)) (EvB.cons (gV 13 rfl) rfl rfl rfl EvB.nil) rfl ⟨rfl,trivial⟩ ⟨rfl,trivial⟩ rfl rfl rfl rfl rfl rfl (nU rfl),⟨rfl,_,R.mov (kI 0 rfl) rfl (nU rfl),tV [(0,_),(1,_),(4,_),(9,_),(10,_),(14,_),(15,_)] [(9,.var _),(0,.var _),(1,.var _)] 38 rfl rfl rfl ?_⟩⟩)
   refine W.block ?_
   refine W.loop (α := {q__ : Nat × List (List UInt8) × List UInt8 // q__.1 ≤ n ∧ q__.2.1.length = q__.1 ∧ q__.2.2.length + q__.1 ≤ r1.length ∧ itemsO n r1 = (itemsO (n - q__.1) q__.2.2).map fun z => (q__.2.1 ++ z.1,z.2)}) (fun q__ => ⟨38,[(0,.ptr 0 0 []),(1,.ptr 1 0 []),(4,.int ((i : Nat) : Int)),(9,.int ((ins.length : Nat) : Int)),(10,.int ((i : Nat) : Int)),(14,.int ((n : Nat) : Int)),(15,.int ((q__.1.1 : Nat) : Int))],[(9,.var (wl l (inWt x q__.1.2.1 :: rs.map inN) q)),(0,.var (.agg [.sl none 1 (q__.1.2.2.map D.u8)])),(1,.var (.agg [.u32 v,.bs 9 36 ins.length cap,.sl (some 46) 2 (outs.map outD),.u32 k]))]⟩) (fun q__ => n - q__.1.1) ⟨(0,[],r1),⟨Nat.zero_le _,rfl,by simp,by simp⟩⟩ rfl ?_
   rintro ⟨⟨j,ws,u⟩,⟨hj,hwj,hub,hI⟩⟩
   show W _ _ _ _ ⟨38,[(0,.ptr 0 0 []),(1,.ptr 1 0 []),(4,.int ((i : Nat) : Int)),(9,.int ((ins.length : Nat) : Int)),(10,.int ((i : Nat) : Int)),(14,.int ((n : Nat) : Int)),(15,.int ((j : Nat) : Int))],[(9,.var (wl l (inWt x ws :: rs.map inN) q)),(0,.var (.agg [.sl none 1 (u.map D.u8)])),(1,.var (.agg [.u32 v,.bs 9 36 ins.length cap,.sl (some 46) 2 (outs.map outD),.u32 k]))]⟩
   have hj : j ≤ n := hj
   have hwj : ws.length = j := hwj
   have hub : u.length + j ≤ r1.length := hub
   have hI : itemsO n r1 = (itemsO (n - j) u).map fun z => (ws ++ z.1,z.2) := hI
   refine W.seq ?_
   refine W.l0 1 [.y 16 _] [] [] [(0,_),(1,_),(4,_),(9,_),(10,_),(14,_),(15,_),(16,_)] [(9,.var _),(0,.var _),(1,.var _)] 38 ⟨aU fun _ _ H K => R.lssN (j) (n) (eU K 15 rfl) (eU K 14 rfl) H,trivial⟩ rfl rfl rfl rfl (tU rfl ?_)
   refine W.seq ?_
   refine W.condD rfl (fun hc16 => ?_) (fun hc16 => ?_)
   · refine W.skip ?_
     refine W.seq ?_
     refine W.block ?_
     rcases hE2 : itemO u with _ | ⟨y,u2⟩
     · refine W.drawX (m := 17) (an := [0,1,3,7,0,0,32,96,224,0,992,2016,4064,0,8192,24576,65504,131071,262143,524287]) (its := [.y 17 _,.y 18 _,.y 19 _,.y 20 _,.y 21 _,.y 22 _,.y 23 _,.y 24 _,.y 25 _,.y 26 _,.y 27 _,.y 28 _,.y 29 _,.y 30 _,⟨31,.dead,true⟩,⟨32,.dead,true⟩,⟨33,.dead,true⟩]) (ks := []) (kk := []) 14 hP (by decide) rfl ⟨nU rfl,rfl,rfl,rfl⟩ (            ⟨⟨rfl,rfl,fun _ τ hb ht hτ => R.mov (evt (hτ 1 _ rfl)) rfl ht⟩,⟨⟨rfl,rfl,fun _ τ hb ht hτ => R.nilcP (hτ 17 _ rfl) ht⟩,⟨⟨rfl,rfl,fun _ τ hb ht hτ => R.fdP (hτ 18 _ rfl) ht⟩,⟨⟨rfl,rfl,fun _ τ hb ht hτ => R.ldP (hτ 19 _ rfl) (hb 1 _ rfl) rfl rfl rfl rfl ht⟩,⟨⟨rfl,rfl,fun _ τ hb ht hτ => R.mov (evt (hτ 4 _ rfl)) rfl ht⟩,⟨⟨rfl,rfl,fun _ τ hb ht hτ => R.mov (evt (hτ 1 _ rfl)) rfl ht⟩,⟨⟨rfl,rfl,fun _ τ hb ht hτ => R.nilcP (hτ 22 _ rfl) ht⟩,⟨⟨rfl,rfl,fun _ τ hb ht hτ => R.fdP (hτ 23 _ rfl) ht⟩,⟨⟨rfl,rfl,fun _ τ hb ht hτ => R.ldP (hτ 24 _ rfl) (hb 1 _ rfl) rfl rfl rfl rfl ht⟩,⟨⟨rfl,rfl,fun _ τ hb ht hτ => R.mov (evt (hτ 4 _ rfl)) rfl ht⟩,⟨⟨rfl,rfl,fun _ τ hb ht hτ => R.idxBs (i) (hτ 25 _ rfl) (evoI (evt (hτ 26 _ rfl))) rfl bU ht⟩,⟨⟨rfl,rfl,fun _ τ hb ht hτ => R.fdP (hτ 27 _ rfl) ht⟩,⟨⟨rfl,rfl,fun _ τ hb ht hτ => R.ldO (hτ 28 _ rfl) (hb 9 _ rfl) (wl_loc hli rfl rfl rfl) ht⟩,⟨⟨rfl,rfl,fun _ τ hb ht hτ => R.mov (evt (hτ 0 _ rfl)) rfl ht⟩,⟨⟨rfl,rfl,SpX.callX [(0,0)] hC (FnO.none' (ritem_ok u (by omega)) (by rw [hE2]; rfl)) (fun τ hτ => (EvB.cons (evt (hτ 30 _ rfl)) rfl rfl rfl EvB.nil)) rfl ⟨rfl,trivial⟩ ⟨rfl,trivial⟩ rfl (fun e he => ?_)⟩,⟨trivial,⟨trivial,trivial⟩⟩⟩⟩⟩⟩⟩⟩⟩⟩⟩⟩⟩⟩⟩⟩⟩) rfl (nU rfl)
       obtain ⟨ch,rfl,hch⟩ := he
       exact EndsO.none' (by rw [ws_none hO (wo_n2 hE (it_none hI (by omega) hE2))]; rfl) ⟨⟨ch,rfl,hch⟩,⟨⟨_,rfl,by first | rfl | simp [dds_sz,sz_ren,D.sz]⟩,⟨⟨_,rfl,by first | rfl | simp [dds_sz,sz_ren,D.sz]⟩,trivial⟩⟩⟩
     have hu2 := itemO_len hE2 (by omega)
     refine W.drawE (m := 17) (an := [0,1,3,7,0,0,32,96,224,0,992,2016,4064,0,8192,24576,65504,131071,262143,524287]) (its := [.y 17 _,.y 18 _,.y 19 _,.y 20 _,.y 21 _,.y 22 _,.y 23 _,.y 24 _,.y 25 _,.y 26 _,.y 27 _,.y 28 _,.y 29 _,.y 30 _,.y 31 _,.y 32 _,.y 33 _]) (ks := [(16,29)]) (kk := []) (efs := [(14,[(0,.var _)]),(16,[(9,.var _)])]) (live := [0,1,4,9,10,14,15,20,21,33]) (env' := [(0,_),(1,_),(4,_),(9,_),(10,_),(14,_),(15,_),(20,_),(21,_),(33,_)]) (nd := 40) (bx1 := [(9,.var _),(0,.var _),(1,.var _)]) hP (by decide) rfl ⟨⟨63,rfl⟩,nU rfl,rfl,rfl,rfl,rfl⟩ (          ⟨⟨rfl,nU rfl,rfl,fun _ τ hb ht hτ => R.mov (evt (hτ 1 _ rfl)) rfl ht⟩,⟨⟨rfl,nU rfl,rfl,fun _ τ hb ht hτ => R.nilcP (hτ 17 _ rfl) ht⟩,⟨⟨rfl,nU rfl,rfl,fun _ τ hb ht hτ => R.fdP (hτ 18 _ rfl) ht⟩,⟨⟨rfl,nU rfl,rfl,fun _ τ hb ht hτ => R.ldP (hτ 19 _ rfl) (hb 1 _ rfl) rfl rfl rfl rfl ht⟩,⟨⟨rfl,nU rfl,rfl,fun _ τ hb ht hτ => R.mov (evt (hτ 4 _ rfl)) rfl ht⟩,⟨⟨rfl,nU rfl,rfl,fun _ τ hb ht hτ => R.mov (evt (hτ 1 _ rfl)) rfl ht⟩,⟨⟨rfl,nU rfl,rfl,fun _ τ hb ht hτ => R.nilcP (hτ 22 _ rfl) ht⟩,⟨⟨rfl,nU rfl,rfl,fun _ τ hb ht hτ => R.fdP (hτ 23 _ rfl) ht⟩,⟨⟨rfl,nU rfl,rfl,fun _ τ hb ht hτ => R.ldP (hτ 24 _ rfl) (hb 1 _ rfl) rfl rfl rfl rfl ht⟩,⟨⟨rfl,nU rfl,rfl,fun _ τ hb ht hτ => R.mov (evt (hτ 4 _ rfl)) rfl ht⟩,⟨⟨rfl,nU rfl,rfl,fun _ τ hb ht hτ => R.idxBs (i) (hτ 25 _ rfl) (evoI (evt (hτ 26 _ rfl))) rfl bU ht⟩,⟨⟨rfl,nU rfl,rfl,fun _ τ hb ht hτ => R.fdP (hτ 27 _ rfl) ht⟩,⟨⟨rfl,nU rfl,rfl,fun _ τ hb ht hτ => R.ldO (hτ 28 _ rfl) (hb 9 _ rfl) (wl_loc hli rfl rfl rfl) ht⟩,⟨⟨rfl,nU rfl,rfl,fun _ τ hb ht hτ => R.mov (evt (hτ 0 _ rfl)) rfl ht⟩,⟨⟨rfl,rfl,⟨rfl,nU rfl⟩,(SpE.frz (d' := .sl none 1 (y.map D.u8)) (SpE.callB [(0,0)] hC (FnO.some' (r := .sl (some 5) 1 (y.map D.u8)) (bx' := [(0,.var (.agg [.sl none 1 (u2.map D.u8)]))]) (nw := []) (ritem_ok u (by omega)) (by rw [hE2]; rfl)) (fun τ hτ => (EvB.cons (evt (hτ 30 _ rfl)) rfl rfl rfl EvB.nil)) rfl ⟨rfl,trivial⟩ ⟨rfl,trivial⟩ rfl rfl rfl rfl (nU rfl)) rfl rfl (show (.sl (some 5) 1 (y.map D.u8) : D).brw = _ from by simp only [D.brw,brws_eq]; rw [brw_map (fun _ => rfl)]))⟩,⟨⟨rfl,nU rfl,rfl,fun _ τ hb ht hτ => R.bslE (z := 1) (.cons (evt (hτ 31 _ rfl)) .nil) ⟨⟨rfl,rfl,rfl⟩,trivial⟩ rfl ht (by decide)⟩,⟨⟨rfl,rfl,⟨rfl,nU rfl⟩,(SpE.appB (s := 29) (id := 9) rfl rfl (wl_loc hli rfl rfl rfl) (wl_noArr hli) (wl_upd hli) (fun τ hb hτ => (SrcO.sc (SC.sl (hτ 32 _ rfl rfl rfl)) (pur_lit rfl))) (show _ = ((ws ++ [y]).map bytesD) from (by rw [List.map_append]; rfl)) bU (by decide) (by decide) rfl (nU rfl))⟩,trivial⟩⟩⟩⟩⟩⟩⟩⟩⟩⟩⟩⟩⟩⟩⟩⟩⟩) rfl rfl rfl (n' := 38) rfl (⟨rfl,_,R.idxBs (i) (gU 20 rfl) (evoI (gV 21 rfl)) rfl bU (nU rfl),⟨rfl,_,R.fdP (gU 34 rfl) (nU rfl),⟨rfl,_,R.stOZ (gU 35 rfl) (xU 9 rfl) (wl_loc hli rfl rfl rfl) (gU 33 rfl) rfl rfl (by rfl) (by rfl) (wl_upd hli) (wl_noArr hli),⟨[0,1,4,9,10,14,15],[(0,_),(1,_),(4,_),(9,_),(10,_),(14,_),(15,_)],[(9,.var _),(0,.var _),(1,.var _)],38,rfl,rfl,rfl, ?_⟩⟩⟩⟩)
     refine W.l0 2 [.y 36 _,.y 15 _] [] [] [(0,_),(1,_),(4,_),(9,_),(10,_),(14,_),(15,_)] [(9,.var _),(0,.var _),(1,.var _)] 38 ⟨aU fun _ _ H K => R.addN (j) (1) (eU K 15 rfl) (kI 1 rfl) bU H,mU 36 rfl rfl,trivial⟩ rfl rfl rfl rfl (tU rfl ?_)
     exact ⟨⟨(j + 1,ws ++ [y],u2),⟨by omega,by simp [hwj],(show u2.length + (j + 1) ≤ r1.length by omega),it_step hI (by omega) hE2⟩⟩,rfl,(by simp only []; omega)⟩
   · obtain rfl : j = n := by omega
     have hWo := wo_s hE (it_end hI)
     refine W.exit ?_
     refine W.brwB 9 (d' := wl (l ++ [setW x ws]) (rs.map inN) q) (bx' := [(9,.var _),(0,.var _),(1,.var _)]) rfl (wl_brw x ws rs) rfl ?_
     refine W.l0 2 [.y 37 _,.y 10 _] [] [] [(0,_),(1,_),(9,_),(10,_)] [(9,.var _),(0,.var _),(1,.var _)] 38 ⟨aU fun _ _ H K => R.addN (i) (1) (eU K 10 rfl) (kI 1 rfl) bU H,mU 37 rfl rfl,trivial⟩ rfl rfl rfl rfl (tU rfl ?_)
     exact ⟨⟨(i + 1,l ++ [setW x ws],rs,u),⟨by simp [hli],by simp; omega,(show u.length ≤ b.length by omega),ws_step hO hWo⟩⟩,rfl,(by simp only []; omega)⟩
 · obtain rfl := rest_nil hlen (by omega)
   show W _ _ _ _ _
   have hlen : l.length = ins.length := by simpa using hlen
   refine W.brwB 9 (d' := .agg (l.map inD ++ List.replicate q .dead)) (bx' := [(9,.var _),(0,.var _),(1,.var _)]) rfl wl_end rfl ?_
   refine W.shutB 9 1 [1] [0,1] (bx' := [(0,.var _),(1,.var _)]) rfl rfl (by decide) rfl rfl rfl (by simpa using hlen) (fun d hd => by obtain ⟨z,_,rfl⟩ := List.mem_map.1 hd; rfl) (fun d hd => by obtain ⟨z,_,rfl⟩ := List.mem_map.1 hd; rfl) (fun d hd => by obtain ⟨z,_,rfl⟩ := List.mem_map.1 hd; exact inD_sz z) rfl rfl rfl rfl (pin_sub hD rfl) ?_
   refine W.brwB 1 (d' := .agg [.u32 v,.sl none 36 (l.map inD),.sl none 2 (outs.map outD),.u32 k]) (bx' := [(0,.var _),(1,.var _)]) rfl (show (D.agg [.u32 v,.sl none 36 (l.map inD),.sl (some 46) 2 (outs.map outD),.u32 k]).brw = _ from by simp only [D.brw,brws_eq,List.map_cons,List.map_nil]; rw [brw_map brw_inD,brw_map brw_outD]) rfl ?_
   refine W.exit ?_
   exact EndsO.some' (r := .tup []) (bx' := [(0,.var (.agg [.sl none 1 (r.map D.u8)])),(1,.var (.agg [.u32 v,.sl none 36 (l.map inD),.sl none 2 (outs.map outD),.u32 k]))]) (nw := []) (by rw [ws_end hO]; rfl) (EndsB.none' (r := .dead) (.inl rfl) rfl (rfl) ⟨rfl,⟨rfl,trivial⟩⟩)

end Go.Sx
