/- Proved: what functions of the given program compute (used by the theorem of this claim). Conditions: none but those that each theorem states. -/
import Derived.Test.YtdjoepmmffghhaaDoorMSxWk
import Derived.Test.YtdjoepmmffghhaaDoorMTx22
set_option linter.unusedVariables false
set_option linter.unusedSimpArgs false
set_option linter.unnecessarySimpa false

namespace Go.Sx
open Go.Proofs
theorem counts_ok (x : UInt32) : Fn Tryd.prog gl 7 [.u32 x] (.bool true) := by
 refine Fn.of (n := 88) Tryd.func7 rfl rfl rfl (nU rfl) fun C hC hD => ?_
 refine W.seq ?_
 refine W.l0 1 [.y 2 _] [] [] [(0,_)] [] 88 ⟨aU fun _ _ H _ => R.asg (kB false rfl) rfl H,trivial⟩ rfl rfl rfl rfl (tU rfl ?_)
 refine W.seq ?_
 obtain ⟨k,hk,hk7⟩ : ∃ k,(x % 70001).toNat = k ∧ k ≤ 70000 := ⟨_,rfl,by rw [UInt32.toNat_mod]; have := Nat.mod_lt x.toNat (show 0 < (70001 : UInt32).toNat by decide); have e : (70001 : UInt32).toNat = 70001 := rfl; omega⟩
 refine W.l0 4 [.y 9 _,.y 10 _,.y 11 _,.y 3 _] [] [] [(3,_)] [] 88 ⟨mU 0 rfl rfl,aU fun _ _ H K => R.bin (eU K 9 rfl) (show ev _ _ (.const (.int .u32 70001)) = some (.u32 70001) from rfl) rfl (by decide) H,aU fun _ _ H K => R.convE (d := .int ((k : Nat) : Int)) (eU K 10 rfl) rfl (by rw [hk]) H,aU fun _ _ H K => R.asg (eU K 11 rfl) rfl H,trivial⟩ rfl rfl rfl rfl (tU rfl ?_)
 refine W.seq ?_
 refine W.l0 3 [.y 12 _] [] [] [(3,_),(12,_)] [] 88 ⟨aU fun _ _ H _ => R.callPE hC (small_ok) EvP.nil H,trivial⟩ rfl rfl rfl rfl (⟨rfl,_,R.alloc rfl (nU rfl),⟨rfl,_,R.stOZ (gU 4 rfl) (xU 4 rfl) rfl (gU 12 rfl) rfl rfl (by rfl) (by rfl) rfl rfl,tV [(3,_),(4,_)] [(4,.var _)] 88 rfl rfl rfl ?_⟩⟩)
 refine W.seq ?_
 refine W.openB 9 4 [2] rfl rfl rfl rfl rfl rfl (fun _ => rfl) (by simp) rfl (fun _ => rfl) fun cap q _ _ _ => ?_
 refine W.draw (m := 6) (an := [0,1,0,4,15,31,63]) hP (by decide) rfl (its := [.y 13 _,.y 14 _,.y 15 _,.y 16 _,.y 17 _,.y 18 _]) (ks := []) (kk := []) (live := [3,4,16,18]) (env' := [(3,_),(4,_),(16,_),(18,_)]) (⟨nU rfl,rfl,⟨aU (fU 4 rfl rfl),aU (lU 13 rfl rfl rfl rfl rfl rfl rfl),mU 3 rfl rfl,aU fun _ _ H K => R.frzT (r' := .sl none 1 ((List.replicate k 0).map D.u8)) (R.mk (n := k) (eU K 15 rfl) (eU K 15 rfl) bU (by decide) H) rfl (by simp only [D.brw,brws_eq,List.map_replicate]),aU fun _ _ H K => R.idxBs (0) (K 14 _ rfl) (evoI (kI 0 rfl)) rfl bU H,aU (fU 17 rfl rfl),trivial⟩,rfl,rfl,rfl⟩) rfl (bx' := [(9,.var _),(4,.var _)]) rfl (n' := 88) rfl (⟨rfl,_,R.stZ (gU 18 rfl) (xU 9 rfl) rfl (gV 16 rfl) (by rfl) (by rfl) (by rfl) (by rfl) rfl,tV [(3,_),(4,_)] [(9,.var _),(4,.var _)] 88 rfl rfl rfl ?_⟩)
 refine W.seq ?_
 refine W.shutB 9 4 [2] [4] (l := [.agg [.u64 5,.sl none 1 ((List.replicate k 0).map D.u8)]]) (bx' := [(4,.var _)]) rfl rfl (by decide) rfl rfl rfl rfl (by intro x hx; simp only [List.mem_singleton] at hx; subst hx; rfl) (by intro x hx; simp only [List.mem_singleton] at hx; subst hx; rfl) (by intro x hx; simp only [List.mem_singleton] at hx; subst hx; rfl) rfl rfl rfl rfl (pin_sub hD rfl) ?_
 refine W.brwB 4 (d' := .agg [.u32 1,.sl none 36 [smIr],.sl none 2 [.agg [.u64 5,.sl none 1 ((List.replicate k 0).map D.u8)]],.u32 0]) (bx' := [(4,.var _)]) rfl (show (D.agg [.u32 1,.sl (some 56) 36 [smIr],.sl none 2 [.agg [.u64 5,.sl none 1 ((List.replicate k 0).map D.u8)]],.u32 0]).brw = _ from by simp only [D.brw,brws_eq,List.map_cons,List.map_nil,brw_hash]; rw [brw_map (fun _ => rfl)]) rfl ?_
 refine W.wkB 4 (d' := txD (smK (List.replicate k 0))) (bx' := [(4,.var _)]) rfl (wk_smK _) rfl ?_
 refine W.l0 1 [.y 5 _] [] [] [(3,_),(4,_),(5,_)] [(4,.var _)] 88 ⟨aU fun _ _ H _ => R.asg (kI 1 rfl) rfl H,trivial⟩ rfl rfl rfl rfl (tU rfl ?_)
 refine W.seq ?_
 by_cases s1 : k ≤ 252
 · refine W.l0 3 [.y 19 _,.y 20 _,.y 6 _] [] [] [(3,_),(4,_),(5,_),(6,_)] [(4,.var _)] 88 ⟨mU 3 rfl rfl,aU fun _ _ H K => R.conv (eU K 19 rfl) rfl H,aU fun _ _ H K => R.asg (eU K 20 rfl) rfl H,trivial⟩ rfl rfl rfl rfl (tU rfl ?_)
   refine W.seq ?_
   refine W.seq ?_
   refine W.l0 2 [.y 21 _,.y 22 _] [] [] [(3,_),(4,_),(5,_),(6,_),(22,_)] [(4,.var _)] 88 ⟨mU 3 rfl rfl,aU fun _ _ H K => R.gtrN (k) (252) (eU K 21 rfl) (kI 252 rfl) H,trivial⟩ rfl rfl rfl rfl (tU rfl ?_)
   refine W.condF rfl (decide_eq_false (by omega)) ?_
   refine W.skip ?_
   refine W.seq ?_
   refine W.seq ?_
   refine W.l0 2 [.y 23 _,.y 24 _] [] [] [(3,_),(4,_),(5,_),(6,_),(24,_)] [(4,.var _)] 88 ⟨mU 3 rfl rfl,aU fun _ _ H K => R.gtrN (k) (65535) (eU K 23 rfl) (kI 65535 rfl) H,trivial⟩ rfl rfl rfl rfl (tU rfl ?_)
   refine W.condF rfl (decide_eq_false (by omega)) ?_
   refine W.skip ?_
   refine W.seq ?_
   refine W.l0 3 [.y 25 _,.y 26 _,.y 7 _] [(2,26)] [(2,26)] [(3,_),(5,_),(6,_),(7,_)] [(4,.var _)] 88 ⟨aU (lU 4 rfl rfl rfl rfl rfl rfl rfl),aU fun _ _ H K => R.callG hC (bare_ok (smK (List.replicate k 0)) (smK_wf (by simp only [List.length_replicate]; omega))) (Bors.cons (Bor.pur (eU K 25 rfl) rfl rfl) Bors.nil) (FrsR.one (.sl _ _ _ (frs_map fun _ => .u8 _))) H,aU fun _ _ H K => R.asgO (K 26 _ rfl) rfl H (by decide),trivial⟩ rfl rfl rfl rfl (tU rfl ?_)
   refine W.seq ?_
   refine W.seq ?_
   have hcl : (bareS (smK (List.replicate k 0))).length = 59 + 1 + k := ((ct_1 List.length_replicate s1)).1
   refine W.l0 7 [.y 27 _,.y 28 _,.y 29 _,.y 30 _,.y 31 _,.y 32 _,.y 33 _] [] [] [(3,_),(5,_),(6,_),(7,_),(33,_)] [(4,.var _)] 88 ⟨aU fun _ _ H K => R.al (K 7 _ rfl) H (by decide),aU fun _ _ H K => R.lenE (SC.al (K 27 _ rfl) (K 7 _ rfl)) (List.length_map _) H,mU 5 rfl rfl,aU fun _ _ H K => R.addN (59) (1) (kI 59 rfl) (eU K 29 rfl) bU H,mU 3 rfl rfl,aU fun _ _ H K => R.addN (60) (k) (eU K 30 rfl) (eU K 31 rfl) bU H,aU fun _ _ H K => R.neqN ((bareS (smK (List.replicate k 0))).length) ((60 + k)) (eU K 28 rfl) (eU K 32 rfl) H,trivial⟩ rfl rfl rfl rfl (tU rfl ?_)
   refine W.condF rfl (decide_eq_false (fun hc => hc (ct_1 List.length_replicate s1).1)) ?_
   refine W.skip ?_
   refine W.seq ?_
   refine W.l0 5 [.y 34 _,.y 35 _,.y 36 _,.y 37 _,.y 8 _] [] [] [(3,_),(5,_),(6,_),(7,_),(8,_)] [(4,.var _)] 88 ⟨aU fun _ _ H K => R.al (K 7 _ rfl) H (by decide),aU fun _ _ H K => R.idxN (55) (SC.al (K 34 _ rfl) (K 7 _ rfl)) (evoI (kI 55 rfl)) rfl bU H (by decide),aU fun _ _ H K => R.ldE (K 35 _ rfl) (SC.al (K 34 _ rfl) (K 7 _ rfl)) (map_get! (l := (bareS (smK (List.replicate k 0)))) bU) rfl rfl rfl rfl H,aU fun _ _ H K => R.conv (eU K 36 rfl) rfl H,aU fun _ _ H K => R.asg (eU K 37 rfl) rfl H,trivial⟩ rfl rfl rfl rfl (tU rfl ?_)
   refine W.seq ?_
   refine W.seq ?_
   refine W.l0 2 [.y 38 _,.y 39 _] [] [] [(3,_),(5,_),(6,_),(7,_),(8,_),(39,_)] [(4,.var _)] 88 ⟨mU 5 rfl rfl,aU fun _ _ H K => R.eqlN (1) (3) (eU K 38 rfl) (kI 3 rfl) H,trivial⟩ rfl rfl rfl rfl (tU rfl ?_)
   refine W.condF rfl (rfl) ?_
   refine W.seq ?_
   refine W.l0 2 [.y 50 _,.y 51 _] [] [] [(3,_),(6,_),(7,_),(8,_),(51,_)] [(4,.var _)] 88 ⟨mU 5 rfl rfl,aU fun _ _ H K => R.eqlN (1) (5) (eU K 50 rfl) (kI 5 rfl) H,trivial⟩ rfl rfl rfl rfl (tU rfl ?_)
   refine W.condF rfl (rfl) ?_
   refine W.skip ?_
   refine W.seq ?_
   refine W.l0 15 [.y 74 _,.y 75 _,.y 76 _,.y 77 _,.y 78 _,.y 79 _,.y 80 _,.y 81 _,.y 82 _,.y 83 _,.y 84 _,.y 85 _,.y 86 _,.y 87 _,.y 2 _] [] [] [(2,_)] [(4,.var _)] 88 ⟨mU 8 rfl rfl,mU 3 rfl rfl,aU fun _ _ H K => R.conv (eU K 75 rfl) rfl H,aU fun _ _ H K => R.bin (eU K 74 rfl) (eU K 76 rfl) rfl trivial H,mU 77 rfl rfl,aW rfl rfl (gT (by rw [(ct_1 List.length_replicate s1).2,cx_1 s1]; exact beq_self_eq_true _) rfl) fun _ _ H K => R.al (K 7 _ rfl) H (by decide),aW rfl rfl (gT (by rw [(ct_1 List.length_replicate s1).2,cx_1 s1]; exact beq_self_eq_true _) rfl) fun _ _ H K => R.idxN (55) (SC.al (K 79 _ rfl) (K 7 _ rfl)) (evoI (kI 55 rfl)) rfl bU H (by decide),aW rfl rfl (gT (by rw [(ct_1 List.length_replicate s1).2,cx_1 s1]; exact beq_self_eq_true _) rfl) fun _ _ H K => R.ldE (K 80 _ rfl) (SC.al (K 79 _ rfl) (K 7 _ rfl)) (map_get! (l := (bareS (smK (List.replicate k 0)))) bU) rfl rfl rfl rfl H,aW rfl rfl (gT (by rw [(ct_1 List.length_replicate s1).2,cx_1 s1]; exact beq_self_eq_true _) rfl) fun _ _ H K => R.mov (eU K 6 rfl) rfl H,aW rfl rfl (gT (by rw [(ct_1 List.length_replicate s1).2,cx_1 s1]; exact beq_self_eq_true _) rfl) fun _ _ H K => R.bin (eU K 81 rfl) (eU K 82 rfl) rfl trivial H,aU fun _ _ H K => R.pickT (eU K 78 rfl) (by rw [(ct_1 List.length_replicate s1).2,cx_1 s1]; exact beq_self_eq_true _) (eU K 83 rfl) rfl H,mU 84 rfl rfl,aW rfl rfl (gT (by rw [(ct_1 List.length_replicate s1).2,cm_1 s1]; exact beq_self_eq_true _) rfl) fun _ _ H _ => R.callG hC (works_ok) Bors.nil (FrsR.one (.bool _)) H,aU fun _ _ H K => R.pickT (eU K 85 rfl) (by rw [(ct_1 List.length_replicate s1).2,cm_1 s1]; exact beq_self_eq_true _) (eU K 86 rfl) rfl H,aU fun _ _ H K => R.asg (eU K 87 rfl) rfl H,trivial⟩ rfl rfl rfl rfl (tU rfl ?_)
   refine W.ret ?_
   exact Ends.one' (.inr rfl) rfl (rfl) rfl rfl trivial
 · by_cases s2 : k ≤ 65535
   · refine W.l0 3 [.y 19 _,.y 20 _,.y 6 _] [] [] [(3,_),(4,_),(5,_),(6,_)] [(4,.var _)] 88 ⟨mU 3 rfl rfl,aU fun _ _ H K => R.conv (eU K 19 rfl) rfl H,aU fun _ _ H K => R.asg (eU K 20 rfl) rfl H,trivial⟩ rfl rfl rfl rfl (tU rfl ?_)
     refine W.seq ?_
     refine W.seq ?_
     refine W.l0 2 [.y 21 _,.y 22 _] [] [] [(3,_),(4,_),(5,_),(6,_),(22,_)] [(4,.var _)] 88 ⟨mU 3 rfl rfl,aU fun _ _ H K => R.gtrN (k) (252) (eU K 21 rfl) (kI 252 rfl) H,trivial⟩ rfl rfl rfl rfl (tU rfl ?_)
     refine W.condT rfl (decide_eq_true (by omega)) ?_
     refine W.seq ?_
     refine W.l0 1 [.y 5 _] [] [] [(3,_),(4,_),(5,_)] [(4,.var _)] 88 ⟨aU fun _ _ H _ => R.asg (kI 3 rfl) rfl H,trivial⟩ rfl rfl rfl rfl (tU rfl ?_)
     refine W.l0 1 [.y 6 _] [] [] [(3,_),(4,_),(5,_),(6,_)] [(4,.var _)] 88 ⟨aU fun _ _ H _ => R.asg (show ev _ _ (.const (.int .u8 253)) = some (.u8 253) from rfl) rfl H,trivial⟩ rfl rfl rfl rfl (tU rfl ?_)
     refine W.seq ?_
     refine W.seq ?_
     refine W.l0 2 [.y 23 _,.y 24 _] [] [] [(3,_),(4,_),(5,_),(6,_),(24,_)] [(4,.var _)] 88 ⟨mU 3 rfl rfl,aU fun _ _ H K => R.gtrN (k) (65535) (eU K 23 rfl) (kI 65535 rfl) H,trivial⟩ rfl rfl rfl rfl (tU rfl ?_)
     refine W.condF rfl (decide_eq_false (by omega)) ?_
     refine W.skip ?_
     refine W.seq ?_
     refine W.l0 3 [.y 25 _,.y 26 _,.y 7 _] [(2,26)] [(2,26)] [(3,_),(5,_),(6,_),(7,_)] [(4,.var _)] 88 ⟨aU (lU 4 rfl rfl rfl rfl rfl rfl rfl),aU fun _ _ H K => R.callG hC (bare_ok (smK (List.replicate k 0)) (smK_wf (by simp only [List.length_replicate]; omega))) (Bors.cons (Bor.pur (eU K 25 rfl) rfl rfl) Bors.nil) (FrsR.one (.sl _ _ _ (frs_map fun _ => .u8 _))) H,aU fun _ _ H K => R.asgO (K 26 _ rfl) rfl H (by decide),trivial⟩ rfl rfl rfl rfl (tU rfl ?_)
     refine W.seq ?_
     refine W.seq ?_
     have hcl : (bareS (smK (List.replicate k 0))).length = 59 + 3 + k := ((ct_3 List.length_replicate (by omega) s2)).1
     refine W.l0 7 [.y 27 _,.y 28 _,.y 29 _,.y 30 _,.y 31 _,.y 32 _,.y 33 _] [] [] [(3,_),(5,_),(6,_),(7,_),(33,_)] [(4,.var _)] 88 ⟨aU fun _ _ H K => R.al (K 7 _ rfl) H (by decide),aU fun _ _ H K => R.lenE (SC.al (K 27 _ rfl) (K 7 _ rfl)) (List.length_map _) H,mU 5 rfl rfl,aU fun _ _ H K => R.addN (59) (3) (kI 59 rfl) (eU K 29 rfl) bU H,mU 3 rfl rfl,aU fun _ _ H K => R.addN (62) (k) (eU K 30 rfl) (eU K 31 rfl) bU H,aU fun _ _ H K => R.neqN ((bareS (smK (List.replicate k 0))).length) ((62 + k)) (eU K 28 rfl) (eU K 32 rfl) H,trivial⟩ rfl rfl rfl rfl (tU rfl ?_)
     refine W.condF rfl (decide_eq_false (fun hc => hc (ct_3 List.length_replicate (by omega) s2).1)) ?_
     refine W.skip ?_
     refine W.seq ?_
     refine W.l0 5 [.y 34 _,.y 35 _,.y 36 _,.y 37 _,.y 8 _] [] [] [(3,_),(5,_),(6,_),(7,_),(8,_)] [(4,.var _)] 88 ⟨aU fun _ _ H K => R.al (K 7 _ rfl) H (by decide),aU fun _ _ H K => R.idxN (55) (SC.al (K 34 _ rfl) (K 7 _ rfl)) (evoI (kI 55 rfl)) rfl bU H (by decide),aU fun _ _ H K => R.ldE (K 35 _ rfl) (SC.al (K 34 _ rfl) (K 7 _ rfl)) (map_get! (l := (bareS (smK (List.replicate k 0)))) bU) rfl rfl rfl rfl H,aU fun _ _ H K => R.conv (eU K 36 rfl) rfl H,aU fun _ _ H K => R.asg (eU K 37 rfl) rfl H,trivial⟩ rfl rfl rfl rfl (tU rfl ?_)
     refine W.seq ?_
     refine W.seq ?_
     refine W.l0 2 [.y 38 _,.y 39 _] [] [] [(3,_),(5,_),(6,_),(7,_),(8,_),(39,_)] [(4,.var _)] 88 ⟨mU 5 rfl rfl,aU fun _ _ H K => R.eqlN (3) (3) (eU K 38 rfl) (kI 3 rfl) H,trivial⟩ rfl rfl rfl rfl (tU rfl ?_)
     refine W.condT rfl (rfl) ?_
     refine W.draw (m := 11) (an := [0,1,3,7,0,16,48,112,240,511,1023]) hP (by decide) rfl (its := [.y 40 _,.y 41 _,.y 42 _,.y 43 _,.y 44 _,.y 45 _,.y 46 _,.y 47 _,.y 48 _,.y 49 _,.y 8 _]) (ks := []) (kk := []) (live := [3,6,7,8]) (env' := [(3,_),(6,_),(7,_),(8,_)]) (⟨nU rfl,rfl,⟨aU fun _ _ H K => R.al (K 7 _ rfl) H (by decide),aU fun _ _ H K => R.idxN (56) (SC.al (K 40 _ rfl) (K 7 _ rfl)) (evoI (kI 56 rfl)) rfl bU H (by decide),aU fun _ _ H K => R.ldE (K 41 _ rfl) (SC.al (K 40 _ rfl) (K 7 _ rfl)) (map_get! (l := (bareS (smK (List.replicate k 0)))) bU) rfl rfl rfl rfl H,aU fun _ _ H K => R.conv (eU K 42 rfl) rfl H,aU fun _ _ H K => R.al (K 7 _ rfl) H (by decide),aU fun _ _ H K => R.idxN (57) (SC.al (K 44 _ rfl) (K 7 _ rfl)) (evoI (kI 57 rfl)) rfl bU H (by decide),aU fun _ _ H K => R.ldE (K 45 _ rfl) (SC.al (K 44 _ rfl) (K 7 _ rfl)) (map_get! (l := (bareS (smK (List.replicate k 0)))) bU) rfl rfl rfl rfl H,aU fun _ _ H K => R.conv (eU K 46 rfl) rfl H,aU fun _ _ H K => R.bin (eU K 47 rfl) (show ev _ _ (.const (.int .u64 8)) = some (.u64 8) from rfl) rfl bV H,aU fun _ _ H K => R.bin (eU K 43 rfl) (eU K 48 rfl) rfl trivial H,aU fun _ _ H K => R.asg (eU K 49 rfl) rfl H,trivial⟩,rfl,rfl,rfl⟩) rfl (bx' := [(4,.var _)]) rfl (n' := 88) rfl (tV [(3,_),(6,_),(7,_),(8,_)] [(4,.var _)] 88 rfl rfl rfl ?_)
     refine W.seq ?_
     refine W.l0 15 [.y 74 _,.y 75 _,.y 76 _,.y 77 _,.y 78 _,.y 79 _,.y 80 _,.y 81 _,.y 82 _,.y 83 _,.y 84 _,.y 85 _,.y 86 _,.y 87 _,.y 2 _] [] [] [(2,_)] [(4,.var _)] 88 ⟨mU 8 rfl rfl,mU 3 rfl rfl,aU fun _ _ H K => R.conv (eU K 75 rfl) rfl H,aU fun _ _ H K => R.bin (eU K 74 rfl) (eU K 76 rfl) rfl trivial H,mU 77 rfl rfl,aW rfl rfl (gT (by rw [(ct_3 List.length_replicate (by omega) s2).2.2.1,(ct_3 List.length_replicate (by omega) s2).2.2.2]; exact beq_iff_eq.2 (cx_3 s2)) rfl) fun _ _ H K => R.al (K 7 _ rfl) H (by decide),aW rfl rfl (gT (by rw [(ct_3 List.length_replicate (by omega) s2).2.2.1,(ct_3 List.length_replicate (by omega) s2).2.2.2]; exact beq_iff_eq.2 (cx_3 s2)) rfl) fun _ _ H K => R.idxN (55) (SC.al (K 79 _ rfl) (K 7 _ rfl)) (evoI (kI 55 rfl)) rfl bU H (by decide),aW rfl rfl (gT (by rw [(ct_3 List.length_replicate (by omega) s2).2.2.1,(ct_3 List.length_replicate (by omega) s2).2.2.2]; exact beq_iff_eq.2 (cx_3 s2)) rfl) fun _ _ H K => R.ldE (K 80 _ rfl) (SC.al (K 79 _ rfl) (K 7 _ rfl)) (map_get! (l := (bareS (smK (List.replicate k 0)))) bU) rfl rfl rfl rfl H,aW rfl rfl (gT (by rw [(ct_3 List.length_replicate (by omega) s2).2.2.1,(ct_3 List.length_replicate (by omega) s2).2.2.2]; exact beq_iff_eq.2 (cx_3 s2)) rfl) fun _ _ H K => R.mov (eU K 6 rfl) rfl H,aW rfl rfl (gT (by rw [(ct_3 List.length_replicate (by omega) s2).2.2.1,(ct_3 List.length_replicate (by omega) s2).2.2.2]; exact beq_iff_eq.2 (cx_3 s2)) rfl) fun _ _ H K => R.bin (eU K 81 rfl) (eU K 82 rfl) rfl trivial H,aU fun _ _ H K => R.pickT (eU K 78 rfl) (by rw [(ct_3 List.length_replicate (by omega) s2).2.2.1,(ct_3 List.length_replicate (by omega) s2).2.2.2]; exact beq_iff_eq.2 (cx_3 s2)) (eU K 83 rfl) rfl H,mU 84 rfl rfl,aW rfl rfl (gT (by rw [(ct_3 List.length_replicate (by omega) s2).2.1]; rfl) rfl) fun _ _ H _ => R.callG hC (works_ok) Bors.nil (FrsR.one (.bool _)) H,aU fun _ _ H K => R.pickT (eU K 85 rfl) (by rw [(ct_3 List.length_replicate (by omega) s2).2.1]; rfl) (eU K 86 rfl) rfl H,aU fun _ _ H K => R.asg (eU K 87 rfl) rfl H,trivial⟩ rfl rfl rfl rfl (tU rfl ?_)
     refine W.ret ?_
     exact Ends.one' (.inr rfl) rfl (rfl) rfl rfl trivial
   · refine W.l0 3 [.y 19 _,.y 20 _,.y 6 _] [] [] [(3,_),(4,_),(5,_),(6,_)] [(4,.var _)] 88 ⟨mU 3 rfl rfl,aU fun _ _ H K => R.conv (eU K 19 rfl) rfl H,aU fun _ _ H K => R.asg (eU K 20 rfl) rfl H,trivial⟩ rfl rfl rfl rfl (tU rfl ?_)
     refine W.seq ?_
     refine W.seq ?_
     refine W.l0 2 [.y 21 _,.y 22 _] [] [] [(3,_),(4,_),(5,_),(6,_),(22,_)] [(4,.var _)] 88 ⟨mU 3 rfl rfl,aU fun _ _ H K => R.gtrN (k) (252) (eU K 21 rfl) (kI 252 rfl) H,trivial⟩ rfl rfl rfl rfl (tU rfl ?_)
     refine W.condT rfl (decide_eq_true (by omega)) ?_
     refine W.seq ?_
     refine W.l0 1 [.y 5 _] [] [] [(3,_),(4,_),(5,_)] [(4,.var _)] 88 ⟨aU fun _ _ H _ => R.asg (kI 3 rfl) rfl H,trivial⟩ rfl rfl rfl rfl (tU rfl ?_)
     refine W.l0 1 [.y 6 _] [] [] [(3,_),(4,_),(5,_),(6,_)] [(4,.var _)] 88 ⟨aU fun _ _ H _ => R.asg (show ev _ _ (.const (.int .u8 253)) = some (.u8 253) from rfl) rfl H,trivial⟩ rfl rfl rfl rfl (tU rfl ?_)
     refine W.seq ?_
     refine W.seq ?_
     refine W.l0 2 [.y 23 _,.y 24 _] [] [] [(3,_),(4,_),(5,_),(6,_),(24,_)] [(4,.var _)] 88 ⟨mU 3 rfl rfl,aU fun _ _ H K => R.gtrN (k) (65535) (eU K 23 rfl) (kI 65535 rfl) H,trivial⟩ rfl rfl rfl rfl (tU rfl ?_)
     refine W.condT rfl (decide_eq_true (by omega)) ?_
     refine W.seq ?_
     refine W.l0 1 [.y 5 _] [] [] [(3,_),(4,_),(5,_)] [(4,.var _)] 88 ⟨aU fun _ _ H _ => R.asg (kI 5 rfl) rfl H,trivial⟩ rfl rfl rfl rfl (tU rfl ?_)
     refine W.l0 1 [.y 6 _] [] [] [(3,_),(4,_),(5,_),(6,_)] [(4,.var _)] 88 ⟨aU fun _ _ H _ => R.asg (show ev _ _ (.const (.int .u8 254)) = some (.u8 254) from rfl) rfl H,trivial⟩ rfl rfl rfl rfl (tU rfl ?_)
     refine W.seq ?_
     refine W.l0 3 [.y 25 _,.y 26 _,.y 7 _] [(2,26)] [(2,26)] [(3,_),(5,_),(6,_),(7,_)] [(4,.var _)] 88 ⟨aU (lU 4 rfl rfl rfl rfl rfl rfl rfl),aU fun _ _ H K => R.callG hC (bare_ok (smK (List.replicate k 0)) (smK_wf (by simp only [List.length_replicate]; omega))) (Bors.cons (Bor.pur (eU K 25 rfl) rfl rfl) Bors.nil) (FrsR.one (.sl _ _ _ (frs_map fun _ => .u8 _))) H,aU fun _ _ H K => R.asgO (K 26 _ rfl) rfl H (by decide),trivial⟩ rfl rfl rfl rfl (tU rfl ?_)
     refine W.seq ?_
     refine W.seq ?_
     have hcl : (bareS (smK (List.replicate k 0))).length = 59 + 5 + k := ((ct_5 List.length_replicate (by omega) hk7)).1
     refine W.l0 7 [.y 27 _,.y 28 _,.y 29 _,.y 30 _,.y 31 _,.y 32 _,.y 33 _] [] [] [(3,_),(5,_),(6,_),(7,_),(33,_)] [(4,.var _)] 88 ⟨aU fun _ _ H K => R.al (K 7 _ rfl) H (by decide),aU fun _ _ H K => R.lenE (SC.al (K 27 _ rfl) (K 7 _ rfl)) (List.length_map _) H,mU 5 rfl rfl,aU fun _ _ H K => R.addN (59) (5) (kI 59 rfl) (eU K 29 rfl) bU H,mU 3 rfl rfl,aU fun _ _ H K => R.addN (64) (k) (eU K 30 rfl) (eU K 31 rfl) bU H,aU fun _ _ H K => R.neqN ((bareS (smK (List.replicate k 0))).length) ((64 + k)) (eU K 28 rfl) (eU K 32 rfl) H,trivial⟩ rfl rfl rfl rfl (tU rfl ?_)
     refine W.condF rfl (decide_eq_false (fun hc => hc (ct_5 List.length_replicate (by omega) hk7).1)) ?_
     refine W.skip ?_
     refine W.seq ?_
     refine W.l0 5 [.y 34 _,.y 35 _,.y 36 _,.y 37 _,.y 8 _] [] [] [(3,_),(5,_),(6,_),(7,_),(8,_)] [(4,.var _)] 88 ⟨aU fun _ _ H K => R.al (K 7 _ rfl) H (by decide),aU fun _ _ H K => R.idxN (55) (SC.al (K 34 _ rfl) (K 7 _ rfl)) (evoI (kI 55 rfl)) rfl bU H (by decide),aU fun _ _ H K => R.ldE (K 35 _ rfl) (SC.al (K 34 _ rfl) (K 7 _ rfl)) (map_get! (l := (bareS (smK (List.replicate k 0)))) bU) rfl rfl rfl rfl H,aU fun _ _ H K => R.conv (eU K 36 rfl) rfl H,aU fun _ _ H K => R.asg (eU K 37 rfl) rfl H,trivial⟩ rfl rfl rfl rfl (tU rfl ?_)
     refine W.seq ?_
     refine W.seq ?_
     refine W.l0 2 [.y 38 _,.y 39 _] [] [] [(3,_),(5,_),(6,_),(7,_),(8,_),(39,_)] [(4,.var _)] 88 ⟨mU 5 rfl rfl,aU fun _ _ H K => R.eqlN (5) (3) (eU K 38 rfl) (kI 3 rfl) H,trivial⟩ rfl rfl rfl rfl (tU rfl ?_)
     refine W.condF rfl (rfl) ?_
     refine W.seq ?_
     refine W.l0 2 [.y 50 _,.y 51 _] [] [] [(3,_),(6,_),(7,_),(8,_),(51,_)] [(4,.var _)] 88 ⟨mU 5 rfl rfl,aU fun _ _ H K => R.eqlN (5) (5) (eU K 50 rfl) (kI 5 rfl) H,trivial⟩ rfl rfl rfl rfl (tU rfl ?_)
     refine W.condT rfl (rfl) ?_
     refine W.draw (m := 23) (an := [0,1,3,7,0,16,48,112,240,511,0,1024,3072,7168,15360,32767,0,65536,196608,458752,983040,2097151,4194303]) hP (by decide) rfl (its := [.y 52 _,.y 53 _,.y 54 _,.y 55 _,.y 56 _,.y 57 _,.y 58 _,.y 59 _,.y 60 _,.y 61 _,.y 62 _,.y 63 _,.y 64 _,.y 65 _,.y 66 _,.y 67 _,.y 68 _,.y 69 _,.y 70 _,.y 71 _,.y 72 _,.y 73 _,.y 8 _]) (ks := []) (kk := []) (live := [3,6,7,8]) (env' := [(3,_),(6,_),(7,_),(8,_)]) (⟨nU rfl,rfl,⟨aU fun _ _ H K => R.al (K 7 _ rfl) H (by decide),aU fun _ _ H K => R.idxN (56) (SC.al (K 52 _ rfl) (K 7 _ rfl)) (evoI (kI 56 rfl)) rfl bU H (by decide),aU fun _ _ H K => R.ldE (K 53 _ rfl) (SC.al (K 52 _ rfl) (K 7 _ rfl)) (map_get! (l := (bareS (smK (List.replicate k 0)))) bU) rfl rfl rfl rfl H,aU fun _ _ H K => R.conv (eU K 54 rfl) rfl H,aU fun _ _ H K => R.al (K 7 _ rfl) H (by decide),aU fun _ _ H K => R.idxN (57) (SC.al (K 56 _ rfl) (K 7 _ rfl)) (evoI (kI 57 rfl)) rfl bU H (by decide),aU fun _ _ H K => R.ldE (K 57 _ rfl) (SC.al (K 56 _ rfl) (K 7 _ rfl)) (map_get! (l := (bareS (smK (List.replicate k 0)))) bU) rfl rfl rfl rfl H,aU fun _ _ H K => R.conv (eU K 58 rfl) rfl H,aU fun _ _ H K => R.bin (eU K 59 rfl) (show ev _ _ (.const (.int .u64 8)) = some (.u64 8) from rfl) rfl bV H,aU fun _ _ H K => R.bin (eU K 55 rfl) (eU K 60 rfl) rfl trivial H,aU fun _ _ H K => R.al (K 7 _ rfl) H (by decide),aU fun _ _ H K => R.idxN (58) (SC.al (K 62 _ rfl) (K 7 _ rfl)) (evoI (kI 58 rfl)) rfl bU H (by decide),aU fun _ _ H K => R.ldE (K 63 _ rfl) (SC.al (K 62 _ rfl) (K 7 _ rfl)) (map_get! (l := (bareS (smK (List.replicate k 0)))) bU) rfl rfl rfl rfl H,aU fun _ _ H K => R.conv (eU K 64 rfl) rfl H,aU fun _ _ H K => R.bin (eU K 65 rfl) (show ev _ _ (.const (.int .u64 16)) = some (.u64 16) from rfl) rfl bV H,aU fun _ _ H K => R.bin (eU K 61 rfl) (eU K 66 rfl) rfl trivial H,aU fun _ _ H K => R.al (K 7 _ rfl) H (by decide),aU fun _ _ H K => R.idxN (59) (SC.al (K 68 _ rfl) (K 7 _ rfl)) (evoI (kI 59 rfl)) rfl bU H (by decide),aU fun _ _ H K => R.ldE (K 69 _ rfl) (SC.al (K 68 _ rfl) (K 7 _ rfl)) (map_get! (l := (bareS (smK (List.replicate k 0)))) bU) rfl rfl rfl rfl H,aU fun _ _ H K => R.conv (eU K 70 rfl) rfl H,aU fun _ _ H K => R.bin (eU K 71 rfl) (show ev _ _ (.const (.int .u64 24)) = some (.u64 24) from rfl) rfl bV H,aU fun _ _ H K => R.bin (eU K 67 rfl) (eU K 72 rfl) rfl trivial H,aU fun _ _ H K => R.asg (eU K 73 rfl) rfl H,trivial⟩,rfl,rfl,rfl⟩) rfl (bx' := [(4,.var _)]) rfl (n' := 88) rfl (tV [(3,_),(6,_),(7,_),(8,_)] [(4,.var _)] 88 rfl rfl rfl ?_)
     refine W.seq ?_
     refine W.l0 15 [.y 74 _,.y 75 _,.y 76 _,.y 77 _,.y 78 _,.y 79 _,.y 80 _,.y 81 _,.y 82 _,.y 83 _,.y 84 _,.y 85 _,.y 86 _,.y 87 _,.y 2 _] [] [] [(2,_)] [(4,.var _)] 88 ⟨mU 8 rfl rfl,mU 3 rfl rfl,aU fun _ _ H K => R.conv (eU K 75 rfl) rfl H,aU fun _ _ H K => R.bin (eU K 74 rfl) (eU K 76 rfl) rfl trivial H,mU 77 rfl rfl,aW rfl rfl (gT (by rw [(ct_5 List.length_replicate (by omega) hk7).2.2.1,(ct_5 List.length_replicate (by omega) hk7).2.2.2.1,(ct_5 List.length_replicate (by omega) hk7).2.2.2.2.1,(ct_5 List.length_replicate (by omega) hk7).2.2.2.2.2]; exact beq_iff_eq.2 (cx_5 hk7)) rfl) fun _ _ H K => R.al (K 7 _ rfl) H (by decide),aW rfl rfl (gT (by rw [(ct_5 List.length_replicate (by omega) hk7).2.2.1,(ct_5 List.length_replicate (by omega) hk7).2.2.2.1,(ct_5 List.length_replicate (by omega) hk7).2.2.2.2.1,(ct_5 List.length_replicate (by omega) hk7).2.2.2.2.2]; exact beq_iff_eq.2 (cx_5 hk7)) rfl) fun _ _ H K => R.idxN (55) (SC.al (K 79 _ rfl) (K 7 _ rfl)) (evoI (kI 55 rfl)) rfl bU H (by decide),aW rfl rfl (gT (by rw [(ct_5 List.length_replicate (by omega) hk7).2.2.1,(ct_5 List.length_replicate (by omega) hk7).2.2.2.1,(ct_5 List.length_replicate (by omega) hk7).2.2.2.2.1,(ct_5 List.length_replicate (by omega) hk7).2.2.2.2.2]; exact beq_iff_eq.2 (cx_5 hk7)) rfl) fun _ _ H K => R.ldE (K 80 _ rfl) (SC.al (K 79 _ rfl) (K 7 _ rfl)) (map_get! (l := (bareS (smK (List.replicate k 0)))) bU) rfl rfl rfl rfl H,aW rfl rfl (gT (by rw [(ct_5 List.length_replicate (by omega) hk7).2.2.1,(ct_5 List.length_replicate (by omega) hk7).2.2.2.1,(ct_5 List.length_replicate (by omega) hk7).2.2.2.2.1,(ct_5 List.length_replicate (by omega) hk7).2.2.2.2.2]; exact beq_iff_eq.2 (cx_5 hk7)) rfl) fun _ _ H K => R.mov (eU K 6 rfl) rfl H,aW rfl rfl (gT (by rw [(ct_5 List.length_replicate (by omega) hk7).2.2.1,(ct_5 List.length_replicate (by omega) hk7).2.2.2.1,(ct_5 List.length_replicate (by omega) hk7).2.2.2.2.1,(ct_5 List.length_replicate (by omega) hk7).2.2.2.2.2]; exact beq_iff_eq.2 (cx_5 hk7)) rfl) fun _ _ H K => R.bin (eU K 81 rfl) (eU K 82 rfl) rfl trivial H,aU fun _ _ H K => R.pickT (eU K 78 rfl) (by rw [(ct_5 List.length_replicate (by omega) hk7).2.2.1,(ct_5 List.length_replicate (by omega) hk7).2.2.2.1,(ct_5 List.length_replicate (by omega) hk7).2.2.2.2.1,(ct_5 List.length_replicate (by omega) hk7).2.2.2.2.2]; exact beq_iff_eq.2 (cx_5 hk7)) (eU K 83 rfl) rfl H,mU 84 rfl rfl,aW rfl rfl (gT (by rw [(ct_5 List.length_replicate (by omega) hk7).2.1]; rfl) rfl) fun _ _ H _ => R.callG hC (works_ok) Bors.nil (FrsR.one (.bool _)) H,aU fun _ _ H K => R.pickT (eU K 85 rfl) (by rw [(ct_5 List.length_replicate (by omega) hk7).2.1]; rfl) (eU K 86 rfl) rfl H,aU fun _ _ H K => R.asg (eU K 87 rfl) rfl H,trivial⟩ rfl rfl rfl rfl (tU rfl ?_)
     refine W.ret ?_
     exact Ends.one' (.inr rfl) rfl (rfl) rfl rfl trivial

end Go.Sx
