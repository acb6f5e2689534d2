/- Proved: what functions of the given program compute (used by the theorem of this claim). Conditions: none but those that each theorem states. -/
import Derived.Test.YtdjoepmmffghhaaDoorMSxBldO
import Derived.Test.YtdjoepmmffghhaaDoorMTx26
set_option linter.unusedVariables false
set_option linter.unusedSimpArgs false
set_option linter.unnecessarySimpa false

namespace Go.Sx
open Go.Proofs
theorem gets_ok (b : List UInt8) (hb : b.length ≤ 140737488355328) : Fn Tryd.prog gl 4 [.sl none 1 (b.map D.u8)] (.bool true) := by
 refine Fn.of (n := 32) Tryd.func4 rfl rfl rfl (nU rfl) fun C hC hD => ?_
 refine W.seq ?_
 refine W.l0 1 [.y 2 _] [] [] [(0,_)] [] 32 ⟨aU fun _ _ H _ => R.asg (kB false rfl) rfl H,trivial⟩ rfl rfl rfl rfl (tU rfl ?_)
 refine W.seq ?_
 refine W.seq ?_
 refine W.l0 3 [.y 7 _,.y 8 _,.y 9 _] [] [] [(0,_),(9,_)] [] 32 ⟨mU 0 rfl rfl,aU fun _ _ H K => R.lenE (SC.sl (K 7 _ rfl)) (List.length_map _) H,aU fun _ _ H K => R.gtrN (b.length) (32768) (eU K 8 rfl) (kI 32768 rfl) H,trivial⟩ rfl rfl rfl rfl (tU rfl ?_)
 refine W.condD rfl (fun hc9 => ?_) (fun hc9 => ?_)
 · refine W.seq ?_
   refine W.l0 2 [.y 10 _,.y 2 _] [] [] [(2,_)] [] 32 ⟨aU fun _ _ H _ => R.callG hC (works_ok) Bors.nil (FrsR.one (.bool _)) H,aU fun _ _ H K => R.asg (eU K 10 rfl) rfl H,trivial⟩ rfl rfl rfl rfl (tU rfl ?_)
   refine W.ret ?_
   exact Ends.one' (.inr rfl) rfl (rfl) rfl rfl trivial
 · refine W.skip ?_
   refine W.seq ?_
   have hbl : b.length ≤ 100000 := by omega
   refine W.l0 8 [.y 12 _,.y 13 _,.y 11 _,.y 14 _,.y 15 _] [] [] [(0,_),(14,_),(15,_)] [] 32 ⟨mU 0 rfl rfl,aU fun _ _ H K => R.callPE hC (get_ok b hbl) (EvP.cons (eU K 12 rfl) rfl rfl EvP.nil) H,aU fun _ _ H K => R.movT (K 13 _ rfl) rfl H,aU fun _ _ H K => R.ext (K 11 _ rfl) rfl rfl H,aU fun _ _ H K => R.ext (K 11 _ rfl) rfl rfl H,trivial⟩ rfl rfl rfl rfl (⟨rfl,_,R.alloc rfl (nU rfl),⟨rfl,_,R.stZ (gU 3 rfl) (xU 3 rfl) rfl (gV 14 rfl) (by rfl) (by rfl) (by rfl) (by rfl) rfl,⟨rfl,_,R.asg (gV 15 rfl) rfl (nU rfl),tV [(0,_),(3,_),(4,_)] [(3,.var _)] 32 rfl rfl rfl ?_⟩⟩⟩)
   refine W.seq ?_
   refine W.l0 8 [.y 17 _,.y 18 _,.y 16 _,.y 19 _,.y 20 _] [] [] [(3,_),(4,_),(19,_),(20,_)] [(3,.var _)] 32 ⟨mU 0 rfl rfl,aU fun _ _ H K => R.callPE hC (rget_ok b hbl) (EvP.cons (eU K 17 rfl) rfl rfl EvP.nil) H,aU fun _ _ H K => R.movT (K 18 _ rfl) rfl H,aU fun _ _ H K => R.ext (K 16 _ rfl) rfl rfl H,aU fun _ _ H K => R.ext (K 16 _ rfl) rfl rfl H,trivial⟩ rfl rfl rfl rfl (⟨rfl,_,R.alloc rfl (nU rfl),⟨rfl,_,R.stZ (gU 5 rfl) (xU 5 rfl) rfl (gV 19 rfl) (by rfl) (by rfl) (by rfl) (by rfl) rfl,⟨rfl,_,R.asg (gV 20 rfl) rfl (nU rfl),tV [(3,_),(4,_),(5,_),(6,_)] [(5,.var _),(3,.var _)] 32 rfl rfl rfl ?_⟩⟩⟩)
   refine W.seq ?_
   refine W.l0 12 [.y 21 _,.y 22 _,.y 23 _,.y 24 _,.y 25 _,.y 26 _,.y 27 _,.y 28 _,.y 29 _,.y 30 _,.y 31 _,.y 2 _] [] [] [(2,_)] [(5,.var _),(3,.var _)] 32 ⟨aU (lU 3 rfl rfl rfl rfl rfl rfl rfl),aU (lU 5 rfl rfl rfl rfl rfl rfl rfl),aU fun _ _ H K => R.callG hC (rsame_ok (getS b).1 (getS b).1 (getS_wf hbl) (getS_wf hbl)) (Bors.cons (Bor.pur (eU K 21 rfl) rfl rfl) (Bors.cons (Bor.pur (eU K 22 rfl) rfl rfl) Bors.nil)) (FrsR.one (.bool _)) H,mU 23 rfl rfl,aW rfl rfl (gT (sameS_refl _) rfl) fun _ _ H K => R.mov (eU K 4 rfl) rfl H,aW rfl rfl (gT (sameS_refl _) rfl) fun _ _ H K => R.mov (eU K 6 rfl) rfl H,aW rfl rfl (gT (sameS_refl _) rfl) fun _ _ H K => R.eqlN ((getS b).2) ((getS b).2) (eU K 25 rfl) (eU K 26 rfl) H,aU fun _ _ H K => R.pickT (eU K 24 rfl) (sameS_refl _) (eU K 27 rfl) rfl H,mU 28 rfl rfl,aW rfl rfl (gT (decide_eq_true rfl) rfl) fun _ _ H _ => R.callG hC (works_ok) Bors.nil (FrsR.one (.bool _)) H,aU fun _ _ H K => R.pickT (eU K 29 rfl) (decide_eq_true rfl) (eU K 30 rfl) rfl H,aU fun _ _ H K => R.asg (eU K 31 rfl) rfl H,trivial⟩ rfl rfl rfl rfl (tU rfl ?_)
   refine W.ret ?_
   exact Ends.one' (.inr rfl) rfl (rfl) rfl rfl trivial

end Go.Sx
