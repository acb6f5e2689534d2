/- Proved: what functions of the given program compute (used by the theorem of this claim). Conditions: none but those that each theorem states. -/
import Derived.Test.YtdjoepmmffghhaaDoorMSxBs2
import Derived.Test.YtdjoepmmffghhaaDoorMTx22
set_option linter.unusedVariables false
set_option linter.unusedSimpArgs false
set_option linter.unnecessarySimpa false

namespace Go.Sx
open Go.Proofs
theorem samelaw_ok (t u : TxS) (hta : t.arg) (hua : u.arg) : Fn Tryd.prog gl 5 [txD t, txD u] (.bool true) := by
 refine Fn.of (n := 27) Tryd.func5 rfl rfl rfl (L0 rfl) fun C hC hD => ?_
 refine W.seq ?_
 refine W.l0 3 [] [] [] [(0, _), (1, _)] [] 27 trivial rfl rfl rfl rfl (⟨rfl, _, R.box (gE 0 rfl) rfl rfl (L0 rfl), ⟨rfl, _, R.box (gE 1 rfl) rfl rfl (L0 rfl), ⟨rfl, _, R.asg (kB false rfl) rfl (L0 rfl), t1 [(2, _), (3, _)] [(3, .var _), (2, .var _)] 27 rfl rfl rfl ?_⟩⟩⟩)
 refine W.seq ?_
 refine W.seq ?_
 by_cases h1 : heavyS t = true
 · refine W.l0 6 [.y 5 _, .y 6 _, .y 7 _, .x 8, .x 9, .y 10 _] [] [] [(2, _), (3, _), (10, _)] [(3, .var _), (2, .var _)] 27 ⟨a0 fun _ B H K => R.ldP (K 2 _ rfl) (B 2 _ rfl) rfl rfl rfl rfl H, a0 fun _ _ H K => R.callG hC (heavy_ok t hta.bd) (Bors.cons (Bor.pur (e0 K 5 rfl) rfl rfl) Bors.nil) (FrsR.one (.bool _)) H, mv 6 rfl rfl fun _ => rfl, aF rfl rfl rfl (gT (h1) rfl), aF rfl rfl rfl (gT (h1) rfl), a0 fun _ _ H K => R.pickT (e0 K 7 rfl) (h1) (kB true rfl) rfl H, trivial⟩ rfl rfl rfl rfl (t0 rfl ?_)
   refine W.condT rfl (rfl) ?_
   refine W.seq ?_
   refine W.l0 2 [.y 11 _, .y 4 _] [] [] [(4, _)] [(3, .var _), (2, .var _)] 27 ⟨a0 fun _ _ H _ => R.callG hC (works_ok) Bors.nil (FrsR.one (.bool _)) H, a0 fun _ _ H K => R.asg (e0 K 11 rfl) rfl H, trivial⟩ rfl rfl rfl rfl (t0 rfl ?_)
   refine W.ret ?_
   exact Ends.one' (.inr rfl) rfl (rfl) rfl rfl trivial
 · refine W.l0 6 [.y 5 _, .y 6 _, .y 7 _, .y 8 _, .y 9 _, .y 10 _] [] [] [(2, _), (3, _), (10, _)] [(3, .var _), (2, .var _)] 27 ⟨a0 fun _ B H K => R.ldP (K 2 _ rfl) (B 2 _ rfl) rfl rfl rfl rfl H, a0 fun _ _ H K => R.callG hC (heavy_ok t hta.bd) (Bors.cons (Bor.pur (e0 K 5 rfl) rfl rfl) Bors.nil) (FrsR.one (.bool _)) H, mv 6 rfl rfl fun _ => rfl, aW rfl rfl rfl (gF (by simpa using h1) rfl) fun _ B H K => R.ldP (K 3 _ rfl) (B 3 _ rfl) rfl rfl rfl rfl H, aW rfl rfl rfl (gF (by simpa using h1) rfl) fun _ _ H K => R.callG hC (heavy_ok u hua.bd) (Bors.cons (Bor.pur (e0 K 8 rfl) rfl rfl) Bors.nil) (FrsR.one (.bool _)) H, a0 fun _ _ H K => R.pickF (e0 K 7 rfl) (by simpa using h1) (e0 K 9 rfl) rfl H, trivial⟩ rfl rfl rfl rfl (t0 rfl ?_)
   refine W.cond rfl (fun hc10 => ?_) (fun hc10 => ?_)
   · refine W.seq ?_
     refine W.l0 2 [.y 11 _, .y 4 _] [] [] [(4, _)] [(3, .var _), (2, .var _)] 27 ⟨a0 fun _ _ H _ => R.callG hC (works_ok) Bors.nil (FrsR.one (.bool _)) H, a0 fun _ _ H K => R.asg (e0 K 11 rfl) rfl H, trivial⟩ rfl rfl rfl rfl (t0 rfl ?_)
     refine W.ret ?_
     exact Ends.one' (.inr rfl) rfl (rfl) rfl rfl trivial
   · refine W.skip ?_
     refine W.seq ?_
     have hwf := arg_wf hta (by simpa using h1)
     have huf := arg_wf hua hc10
     refine W.draw (m := 16) (an := [0, 0, 3, 0, 0, 31, 63, 127, 255, 255, 1023, 2047, 4095, 8191, 16383, 32767]) hP (by decide) rfl (its := [.y 12 _, .y 13 _, .y 14 _, .y 15 _, .y 16 _, .y 17 _, .y 18 _, .y 19 _, .y 20 _, .y 21 _, .y 22 _, .y 23 _, .y 24 _, .y 25 _, .y 26 _, .y 4 _]) (ks := []) (kk := []) (live := [4]) (env' := [(4, _)]) (⟨L0 rfl, rfl, ⟨a0 fun _ B H K => R.ldP (K 2 _ rfl) (B 2 _ rfl) rfl rfl rfl rfl H, a0 fun _ B H K => R.ldP (K 3 _ rfl) (B 3 _ rfl) rfl rfl rfl rfl H, a0 fun _ _ H K => R.callG hC (same_ok t u hwf huf) (Bors.cons (Bor.pur (e0 K 12 rfl) rfl rfl) (Bors.cons (Bor.pur (e0 K 13 rfl) rfl rfl) Bors.nil)) (FrsR.one (.bool _)) H, a0 fun _ B H K => R.ldP (K 2 _ rfl) (B 2 _ rfl) rfl rfl rfl rfl H, a0 fun _ B H K => R.ldP (K 3 _ rfl) (B 3 _ rfl) rfl rfl rfl rfl H, a0 fun _ _ H K => R.callG hC (rsame_ok t u hwf huf) (Bors.cons (Bor.pur (e0 K 15 rfl) rfl rfl) (Bors.cons (Bor.pur (e0 K 16 rfl) rfl rfl) Bors.nil)) (FrsR.one (.bool _)) H, a0 fun _ _ H K => R.eqB (e0 K 14 rfl) (e0 K 17 rfl) H, mv 18 rfl rfl fun _ => rfl, aW rfl rfl rfl (gT (by simp) rfl) fun _ B H K => R.ldP (K 2 _ rfl) (B 2 _ rfl) rfl rfl rfl rfl H, aW rfl rfl rfl (gT (by simp) rfl) fun _ B H K => R.ldP (K 2 _ rfl) (B 2 _ rfl) rfl rfl rfl rfl H, aW rfl rfl rfl (gT (by simp) rfl) fun _ _ H K => R.callG hC (same_ok t t hwf hwf) (Bors.cons (Bor.pur (e0 K 20 rfl) rfl rfl) (Bors.cons (Bor.pur (e0 K 21 rfl) rfl rfl) Bors.nil)) (FrsR.one (.bool _)) H, a0 fun _ _ H K => R.pickT (e0 K 19 rfl) (by simp) (e0 K 22 rfl) rfl H, mv 23 rfl rfl fun _ => rfl, aW rfl rfl rfl (gT (sameS_refl _) rfl) fun _ _ H _ => R.callG hC (works_ok) Bors.nil (FrsR.one (.bool _)) H, a0 fun _ _ H K => R.pickT (e0 K 24 rfl) (sameS_refl _) (e0 K 25 rfl) rfl H, a0 fun _ _ H K => R.asg (e0 K 26 rfl) rfl H, trivial⟩, rfl, rfl, rfl⟩) rfl (bx' := [(3, .var _), (2, .var _)]) rfl (n' := 27) rfl (t1 [(4, _)] [(3, .var _), (2, .var _)] 27 rfl rfl rfl ?_)
     refine W.ret ?_
     exact Ends.one' (.inr rfl) rfl (rfl) rfl rfl trivial

end Go.Sx
