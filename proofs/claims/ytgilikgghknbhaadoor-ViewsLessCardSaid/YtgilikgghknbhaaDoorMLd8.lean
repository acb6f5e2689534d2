/-
 The plain law of headers: their bytes.
-/
import Derived.Test.YtgilikgghknbhaaDoorMSxPanic
import Derived.Test.YtgilikgghknbhaaDoorMShaLaw
import Derived.Test.YtgilikgghknbhaaDoorMSxTup
set_option linter.unusedVariables false
set_option linter.unusedSimpArgs false
set_option linter.unnecessarySimpa false

namespace Go.Sx
open Go.Proofs
theorem tof_ok (bits : UInt32) : Fn Tryd.prog gl 60 [.u32 bits] (.tup [bgD (ofB bits),.bool (ofS bits).isSome]):=by
 refine Fn.of (n:=49) Tryd.func60 rfl rfl rfl (nU rfl) fun C hC hD=>?_
 have hsz:=shr24_le bits
 have hpl : (partB bits).length = 4:=rfl
 have hnb:=nbS_le (partB bits)
 refine W.seq ?_
 refine W.l0 2 [] [] [] [(0,_)] [] 49 Zt O O O O (⟨O,_,R.alloc O (nU O),⟨O,_,R.asg (kB false O) O (nU O),tV [(0,_),(2,_)] [(2,.var _)] 49 O O O ?_⟩⟩)
 refine W.seq ?_
 refine W.l0 4 [.y 7 _,.y 8 _,.y 9 _,.y 4 _] [] [] [(0,_),(2,_),(4,_)] [(2,.var _)] 49 ⟨mU 0 O O,aU fun _ _ H K=>R.binE (d:=.u32 (shr_u32 bits 24)) (eU K 7 O) (show ev _ _ (.const (.int .u64 24)) = some (.u64 24) from O) O bV (O) H,aU fun _ _ H K=>R.conv (eU K 8 O) O H,aU fun _ _ H K=>R.asg (eU K 9 O) O H,Zt⟩ O O O O (tU O ?_)
 refine W.seq ?_
 refine W.l0 6 [.y 10 _,.y 11 _,.y 12 _,.y 13 _] [] [] [(0,_),(2,_),(4,_),(13,_)] [(2,.var _)] 49 ⟨mU 0 O O,aU fun _ _ H K=>R.bin (eU K 10 O) (show ev _ _ (.const (.int .u32 8388607)) = some (.u32 8388607) from O) O Zt H,aU fun _ _ H K=>R.conv (eU K 11 O) O H,aU fun _ _ H K=>R.callG hC (bof_ok (bits &&& 8388607).toUInt64) (Bc (Bp (eU K 12 O) O O) Bn) (FrsR.one (frs_bg _)) H,Zt⟩ O O O O (⟨O,_,R.alloc O (nU O),⟨O,_,R.stZ (gU 5 O) (xU 5 O) O (gV 13 O) (by rfl) (by rfl) (by rfl) (by rfl) O,tV [(0,_),(2,_),(4,_),(5,_)] [(5,.var _),(2,.var _)] 49 O O O ?_⟩⟩)
 refine W.seq ?_
 refine W.l0 1 [] [] [] [(0,_),(2,_),(4,_),(5,_)] [(5,.var _),(2,.var _)] 49 Zt O O O O (⟨O,_,R.alloc O (nU O),tV [(0,_),(2,_),(4,_),(5,_),(6,_)] [(6,.var _),(5,.var _),(2,.var _)] 49 O O O ?_⟩)
 refine W.seq (W.seq ?_)
 by_cases h3 : (shr_u32 bits 24).toNat < 3
 · refine W.l0 2 [.y 14 _,.y 15 _] [] [] [(0,_),(2,_),(4,_),(5,_),(6,_),(15,_)] [(6,.var _),(5,.var _),(2,.var _)] 49 ⟨mU 4 O O,aU fun _ _ H K=>R.lssN ((shr_u32 bits 24).toNat) (3) (eU K 14 O) (kI 3 O) H,Zt⟩ O O O O (tU O ?_)
   refine W.condT O (dT h3) ?_
   refine W.l0 6 [.y 16 _,.y 17 _,.y 18 _,.y 19 _,.y 20 _] [] [] [(0,_),(2,_),(6,_),(20,_)] [(6,.var _),(5,.var _),(2,.var _)] 49 ⟨aU (lU 5 O O O O O O O),mU 4 O O,aU fun _ _ H K=>R.subN (3) ((shr_u32 bits 24).toNat) (kI 3 O) (eU K 17 O) bU bU H,aU fun _ _ H K=>R.mulN (8) ((3 - (shr_u32 bits 24).toNat)) (kI 8 O) (eU K 18 O) bU H,aU fun _ _ H K=>R.callG hC (bdown_ok (partB bits) (8 * (3 - (shr_u32 bits 24).toNat)) O (by omega)) (Bc (Bp (eU K 16 O) O O) (Bc (Bp (eU K 19 O) O O) Bn)) (FrsR.one (frs_bg _)) H,Zt⟩ O O O O (⟨O,_,R.stZ (gU 6 O) (xU 6 O) O (gV 20 O) (by rfl) (by rfl) (by rfl) (by rfl) O,tV [(0,_),(2,_),(6,_)] [(6,.var _),(5,.var _),(2,.var _)] 49 O O O ?_⟩)
   refine W.seq (W.seq ?_)
   by_cases hz : (downS (partB bits) (8 * (3 - (shr_u32 bits 24).toNat))) = zeroB
   · refine W.l0 8 [.y 39 _,.y 40 _,.y 41 _,.y 42 _,.x 43,.x 44,.x 45,.y 46 _] [] [] [(2,_),(6,_),(46,_)] [(6,.var _),(5,.var _),(2,.var _)] 49 ⟨aU (lU 6 O O O O O O O),aU fun _ _ H _=>R.bldAZ O H,aU fun _ _ H K=>R.eqD (neg:=false) (b':=((downS (partB bits) (8 * (3 - (shr_u32 bits 24).toNat))) == zeroB)) (eqv_bg _ _) O (eU K 39 O) (eU K 40 O) O O O O (O) H,mU 41 O O,aF O O (gT (beq_iff_eq.2 hz) O),aF O O (gT (beq_iff_eq.2 hz) O),aF O O (gT (beq_iff_eq.2 hz) O),aU fun _ _ H K=>R.pickT (eU K 42 O) (beq_iff_eq.2 hz) (kB true O) O H,Zt⟩ O O O O (tU O ?_)
     refine W.condT O (O) ?_
     refine W.seq ?_
     refine W.l0 3 [.y 47 _] [] [] [(2,_),(47,_)] [(6,.var _),(5,.var _),(2,.var _)] 49 ⟨aU fun _ _ H _=>R.bldAZ O H,Zt⟩ O O O O (⟨O,_,R.stZ (gU 2 O) (xU 2 O) O (gV 47 O) (by rfl) (by rfl) (by rfl) (by rfl) O,⟨O,_,R.asg (kB false O) O (nU O),tV [(2,_),(3,_)] [(6,.var _),(5,.var _),(2,.var _)] 49 O O O ?_⟩⟩)
     refine W.ret ?_
     exact Ends.many (.inr O) (.cons O O O (show LdT _ 139 4 true from inferInstance) (.cons O O O Zt .nil)) (by rw [ofB_no (of_r1 (of_go (.inl h3)) (tgt_d h3) hz),of_r1 (of_go (.inl h3)) (tgt_d h3) hz] <;> rfl) (show [(2,false),(3,true)].Nodup by decide)
   · refine W.l0 8 [.y 39 _,.y 40 _,.y 41 _,.y 42 _,.y 43 _,.y 44 _,.y 45 _,.y 46 _] [] [] [(2,_),(6,_),(46,_)] [(6,.var _),(5,.var _),(2,.var _)] 49 ⟨aU (lU 6 O O O O O O O),aU fun _ _ H _=>R.bldAZ O H,aU fun _ _ H K=>R.eqD (neg:=false) (b':=((downS (partB bits) (8 * (3 - (shr_u32 bits 24).toNat))) == zeroB)) (eqv_bg _ _) O (eU K 39 O) (eU K 40 O) O O O O (O) H,mU 41 O O,aW O O (gF (beq_eq_false_iff_ne.2 hz) O) fun _ _ H K=>R.mov (eU K 0 O) O H,aW O O (gF (beq_eq_false_iff_ne.2 hz) O) fun _ _ H K=>R.bin (eU K 43 O) (show ev _ _ (.const (.int .u32 8388608)) = some (.u32 8388608) from O) O Zt H,aW O O (gF (beq_eq_false_iff_ne.2 hz) O) fun _ _ H K=>R.bin (eU K 44 O) (show ev _ _ (.const (.int .u32 0)) = some (.u32 0) from O) O Zt H,aU fun _ _ H K=>R.pickF (eU K 42 O) (beq_eq_false_iff_ne.2 hz) (eU K 45 O) O H,Zt⟩ O O O O (tU O ?_)
     refine W.cond O (fun hc46=>?_) (fun hc46=>?_)
     · refine W.seq ?_
       refine W.l0 3 [.y 47 _] [] [] [(2,_),(47,_)] [(6,.var _),(5,.var _),(2,.var _)] 49 ⟨aU fun _ _ H _=>R.bldAZ O H,Zt⟩ O O O O (⟨O,_,R.stZ (gU 2 O) (xU 2 O) O (gV 47 O) (by rfl) (by rfl) (by rfl) (by rfl) O,⟨O,_,R.asg (kB false O) O (nU O),tV [(2,_),(3,_)] [(6,.var _),(5,.var _),(2,.var _)] 49 O O O ?_⟩⟩)
       refine W.ret ?_
       exact Ends.many (.inr O) (.cons O O O (show LdT _ 139 4 true from inferInstance) (.cons O O O Zt .nil)) (by rw [ofB_no (of_r2 (of_go (.inl h3)) hc46),of_r2 (of_go (.inl h3)) hc46] <;> rfl) (show [(2,false),(3,true)].Nodup by decide)
     · refine W.skip (W.seq ?_)
       refine W.l0 3 [.y 48 _] [] [] [(2,_),(48,_)] [(6,.var _),(5,.var _),(2,.var _)] 49 ⟨aU (lU 6 O O O O O O O),Zt⟩ O O O O (⟨O,_,R.stZ (gU 2 O) (xU 2 O) O (gV 48 O) (by rfl) (by rfl) (by rfl) (by rfl) O,⟨O,_,R.asg (kB true O) O (nU O),tV [(2,_),(3,_)] [(6,.var _),(5,.var _),(2,.var _)] 49 O O O ?_⟩⟩)
       refine W.ret ?_
       exact Ends.many (.inr O) (.cons O O O (show LdT _ 139 4 true from inferInstance) (.cons O O O Zt .nil)) (by rw [ofB_is (of_r3 (of_go (.inl h3)) (tgt_d h3) hz hc46),of_r3 (of_go (.inl h3)) (tgt_d h3) hz hc46] <;> rfl) (show [(2,false),(3,true)].Nodup by decide)
 · refine W.l0 2 [.y 14 _,.y 15 _] [] [] [(0,_),(2,_),(4,_),(5,_),(6,_),(15,_)] [(6,.var _),(5,.var _),(2,.var _)] 49 ⟨mU 4 O O,aU fun _ _ H K=>R.lssN ((shr_u32 bits 24).toNat) (3) (eU K 14 O) (kI 3 O) H,Zt⟩ O O O O (tU O ?_)
   refine W.condF O (dF h3) ?_
   refine W.seq ?_
   refine W.l0 6 [.y 21 _,.y 22 _,.y 23 _,.y 24 _,.y 25 _] [] [] [(0,_),(2,_),(4,_),(5,_),(6,_),(25,_)] [(6,.var _),(5,.var _),(2,.var _)] 49 ⟨aU (lU 5 O O O O O O O),mU 4 O O,aU fun _ _ H K=>R.subN ((shr_u32 bits 24).toNat) (3) (eU K 22 O) (kI 3 O) bU bU H,aU fun _ _ H K=>R.mulN (8) (((shr_u32 bits 24).toNat - 3)) (kI 8 O) (eU K 23 O) bU H,aU fun _ _ H K=>R.callG hC (bup_ok (partB bits) (8 * ((shr_u32 bits 24).toNat - 3)) O (by omega)) (Bc (Bp (eU K 21 O) O O) (Bc (Bp (eU K 24 O) O O) Bn)) (FrsR.one (frs_bg _)) H,Zt⟩ O O O O (⟨O,_,R.stZ (gU 6 O) (xU 6 O) O (gV 25 O) (by rfl) (by rfl) (by rfl) (by rfl) O,tV [(0,_),(2,_),(4,_),(5,_),(6,_)] [(6,.var _),(5,.var _),(2,.var _)] 49 O O O ?_⟩)
   refine W.seq ?_
   by_cases hb7 : 256 < nbS (partB bits) + 8 * ((shr_u32 bits 24).toNat - 3)
   · refine W.l0 12 [.y 26 _,.y 27 _,.y 28 _,.y 29 _,.y 30 _,.y 31 _,.y 32 _,.y 33 _,.y 34 _,.y 35 _,.y 36 _,.y 37 _] [] [] [(0,_),(2,_),(6,_),(37,_)] [(6,.var _),(5,.var _),(2,.var _)] 49 ⟨aU (lU 5 O O O O O O O),aU fun _ _ H K=>R.callG hC (nbits_ok (partB bits) O) (Bc (Bp (eU K 26 O) O O) Bn) (FrsR.one (.int _)) H,mU 4 O O,aU fun _ _ H K=>R.subN ((shr_u32 bits 24).toNat) (3) (eU K 28 O) (kI 3 O) bU bU H,aU fun _ _ H K=>R.mulN (8) (((shr_u32 bits 24).toNat - 3)) (kI 8 O) (eU K 29 O) bU H,aU fun _ _ H K=>R.addN (nbS (partB bits)) ((8 * ((shr_u32 bits 24).toNat - 3))) (eU K 27 O) (eU K 30 O) bU H,aU fun _ _ H K=>R.gtrN ((nbS (partB bits) + (8 * ((shr_u32 bits 24).toNat - 3)))) (256) (eU K 31 O) (kI 256 O) H,mU 32 O O,aW O O (gT (dT hb7) O) (lU 5 O O O O O O O),aW O O (gT (dT hb7) O) fun _ _ H _=>R.bldAZ O H,aW O O (gT (dT hb7) O) fun _ _ H K=>R.eqD (neg:=true) (b':=((partB bits) != zeroB)) (eqv_bg _ _) O (eU K 34 O) (eU K 35 O) O O O O (O) H,aU fun _ _ H K=>R.pickT (eU K 33 O) (dT hb7) (eU K 36 O) O H,Zt⟩ O O O O (tU O ?_)
     refine W.cond O (fun hc37=>?_) (fun hc37=>?_)
     · refine W.seq ?_
       refine W.l0 3 [.y 38 _] [] [] [(2,_),(38,_)] [(6,.var _),(5,.var _),(2,.var _)] 49 ⟨aU fun _ _ H _=>R.bldAZ O H,Zt⟩ O O O O (⟨O,_,R.stZ (gU 2 O) (xU 2 O) O (gV 38 O) (by rfl) (by rfl) (by rfl) (by rfl) O,⟨O,_,R.asg (kB false O) O (nU O),tV [(2,_),(3,_)] [(6,.var _),(5,.var _),(2,.var _)] 49 O O O ?_⟩⟩)
       refine W.ret ?_
       exact Ends.many (.inr O) (.cons O O O (show LdT _ 139 4 true from inferInstance) (.cons O O O Zt .nil)) (by rw [ofB_no (of_no1 h3 hb7 hc37),of_no1 h3 hb7 hc37] <;> rfl) (show [(2,false),(3,true)].Nodup by decide)
     · refine W.skip (W.seq (W.seq ?_))
       by_cases hz : (upS (partB bits) (8 * ((shr_u32 bits 24).toNat - 3))) = zeroB
       · refine W.l0 8 [.y 39 _,.y 40 _,.y 41 _,.y 42 _,.x 43,.x 44,.x 45,.y 46 _] [] [] [(2,_),(6,_),(46,_)] [(6,.var _),(5,.var _),(2,.var _)] 49 ⟨aU (lU 6 O O O O O O O),aU fun _ _ H _=>R.bldAZ O H,aU fun _ _ H K=>R.eqD (neg:=false) (b':=((upS (partB bits) (8 * ((shr_u32 bits 24).toNat - 3))) == zeroB)) (eqv_bg _ _) O (eU K 39 O) (eU K 40 O) O O O O (O) H,mU 41 O O,aF O O (gT (beq_iff_eq.2 hz) O),aF O O (gT (beq_iff_eq.2 hz) O),aF O O (gT (beq_iff_eq.2 hz) O),aU fun _ _ H K=>R.pickT (eU K 42 O) (beq_iff_eq.2 hz) (kB true O) O H,Zt⟩ O O O O (tU O ?_)
         refine W.condT O (O) ?_
         refine W.seq ?_
         refine W.l0 3 [.y 47 _] [] [] [(2,_),(47,_)] [(6,.var _),(5,.var _),(2,.var _)] 49 ⟨aU fun _ _ H _=>R.bldAZ O H,Zt⟩ O O O O (⟨O,_,R.stZ (gU 2 O) (xU 2 O) O (gV 47 O) (by rfl) (by rfl) (by rfl) (by rfl) O,⟨O,_,R.asg (kB false O) O (nU O),tV [(2,_),(3,_)] [(6,.var _),(5,.var _),(2,.var _)] 49 O O O ?_⟩⟩)
         refine W.ret ?_
         exact Ends.many (.inr O) (.cons O O O (show LdT _ 139 4 true from inferInstance) (.cons O O O Zt .nil)) (by rw [ofB_no (of_r1 (of_go (.inr (.inr hc37))) (tgt_u h3) hz),of_r1 (of_go (.inr (.inr hc37))) (tgt_u h3) hz] <;> rfl) (show [(2,false),(3,true)].Nodup by decide)
       · refine W.l0 8 [.y 39 _,.y 40 _,.y 41 _,.y 42 _,.y 43 _,.y 44 _,.y 45 _,.y 46 _] [] [] [(2,_),(6,_),(46,_)] [(6,.var _),(5,.var _),(2,.var _)] 49 ⟨aU (lU 6 O O O O O O O),aU fun _ _ H _=>R.bldAZ O H,aU fun _ _ H K=>R.eqD (neg:=false) (b':=((upS (partB bits) (8 * ((shr_u32 bits 24).toNat - 3))) == zeroB)) (eqv_bg _ _) O (eU K 39 O) (eU K 40 O) O O O O (O) H,mU 41 O O,aW O O (gF (beq_eq_false_iff_ne.2 hz) O) fun _ _ H K=>R.mov (eU K 0 O) O H,aW O O (gF (beq_eq_false_iff_ne.2 hz) O) fun _ _ H K=>R.bin (eU K 43 O) (show ev _ _ (.const (.int .u32 8388608)) = some (.u32 8388608) from O) O Zt H,aW O O (gF (beq_eq_false_iff_ne.2 hz) O) fun _ _ H K=>R.bin (eU K 44 O) (show ev _ _ (.const (.int .u32 0)) = some (.u32 0) from O) O Zt H,aU fun _ _ H K=>R.pickF (eU K 42 O) (beq_eq_false_iff_ne.2 hz) (eU K 45 O) O H,Zt⟩ O O O O (tU O ?_)
         refine W.cond O (fun hc46=>?_) (fun hc46=>?_)
         · refine W.seq ?_
           refine W.l0 3 [.y 47 _] [] [] [(2,_),(47,_)] [(6,.var _),(5,.var _),(2,.var _)] 49 ⟨aU fun _ _ H _=>R.bldAZ O H,Zt⟩ O O O O (⟨O,_,R.stZ (gU 2 O) (xU 2 O) O (gV 47 O) (by rfl) (by rfl) (by rfl) (by rfl) O,⟨O,_,R.asg (kB false O) O (nU O),tV [(2,_),(3,_)] [(6,.var _),(5,.var _),(2,.var _)] 49 O O O ?_⟩⟩)
           refine W.ret ?_
           exact Ends.many (.inr O) (.cons O O O (show LdT _ 139 4 true from inferInstance) (.cons O O O Zt .nil)) (by rw [ofB_no (of_r2 (of_go (.inr (.inr hc37))) hc46),of_r2 (of_go (.inr (.inr hc37))) hc46] <;> rfl) (show [(2,false),(3,true)].Nodup by decide)
         · refine W.skip (W.seq ?_)
           refine W.l0 3 [.y 48 _] [] [] [(2,_),(48,_)] [(6,.var _),(5,.var _),(2,.var _)] 49 ⟨aU (lU 6 O O O O O O O),Zt⟩ O O O O (⟨O,_,R.stZ (gU 2 O) (xU 2 O) O (gV 48 O) (by rfl) (by rfl) (by rfl) (by rfl) O,⟨O,_,R.asg (kB true O) O (nU O),tV [(2,_),(3,_)] [(6,.var _),(5,.var _),(2,.var _)] 49 O O O ?_⟩⟩)
           refine W.ret ?_
           exact Ends.many (.inr O) (.cons O O O (show LdT _ 139 4 true from inferInstance) (.cons O O O Zt .nil)) (by rw [ofB_is (of_r3 (of_go (.inr (.inr hc37))) (tgt_u h3) hz hc46),of_r3 (of_go (.inr (.inr hc37))) (tgt_u h3) hz hc46] <;> rfl) (show [(2,false),(3,true)].Nodup by decide)
   · refine W.l0 12 [.y 26 _,.y 27 _,.y 28 _,.y 29 _,.y 30 _,.y 31 _,.y 32 _,.y 33 _,.x 34,.x 35,.x 36,.y 37 _] [] [] [(0,_),(2,_),(6,_),(37,_)] [(6,.var _),(5,.var _),(2,.var _)] 49 ⟨aU (lU 5 O O O O O O O),aU fun _ _ H K=>R.callG hC (nbits_ok (partB bits) O) (Bc (Bp (eU K 26 O) O O) Bn) (FrsR.one (.int _)) H,mU 4 O O,aU fun _ _ H K=>R.subN ((shr_u32 bits 24).toNat) (3) (eU K 28 O) (kI 3 O) bU bU H,aU fun _ _ H K=>R.mulN (8) (((shr_u32 bits 24).toNat - 3)) (kI 8 O) (eU K 29 O) bU H,aU fun _ _ H K=>R.addN (nbS (partB bits)) ((8 * ((shr_u32 bits 24).toNat - 3))) (eU K 27 O) (eU K 30 O) bU H,aU fun _ _ H K=>R.gtrN ((nbS (partB bits) + (8 * ((shr_u32 bits 24).toNat - 3)))) (256) (eU K 31 O) (kI 256 O) H,mU 32 O O,aF O O (gF (dF hb7) O),aF O O (gF (dF hb7) O),aF O O (gF (dF hb7) O),aU fun _ _ H K=>R.pickF (eU K 33 O) (dF hb7) (kB false O) O H,Zt⟩ O O O O (tU O ?_)
     refine W.condF O (O) ?_
     refine W.skip (W.seq (W.seq ?_))
     by_cases hz : (upS (partB bits) (8 * ((shr_u32 bits 24).toNat - 3))) = zeroB
     · refine W.l0 8 [.y 39 _,.y 40 _,.y 41 _,.y 42 _,.x 43,.x 44,.x 45,.y 46 _] [] [] [(2,_),(6,_),(46,_)] [(6,.var _),(5,.var _),(2,.var _)] 49 ⟨aU (lU 6 O O O O O O O),aU fun _ _ H _=>R.bldAZ O H,aU fun _ _ H K=>R.eqD (neg:=false) (b':=((upS (partB bits) (8 * ((shr_u32 bits 24).toNat - 3))) == zeroB)) (eqv_bg _ _) O (eU K 39 O) (eU K 40 O) O O O O (O) H,mU 41 O O,aF O O (gT (beq_iff_eq.2 hz) O),aF O O (gT (beq_iff_eq.2 hz) O),aF O O (gT (beq_iff_eq.2 hz) O),aU fun _ _ H K=>R.pickT (eU K 42 O) (beq_iff_eq.2 hz) (kB true O) O H,Zt⟩ O O O O (tU O ?_)
       refine W.condT O (O) ?_
       refine W.seq ?_
       refine W.l0 3 [.y 47 _] [] [] [(2,_),(47,_)] [(6,.var _),(5,.var _),(2,.var _)] 49 ⟨aU fun _ _ H _=>R.bldAZ O H,Zt⟩ O O O O (⟨O,_,R.stZ (gU 2 O) (xU 2 O) O (gV 47 O) (by rfl) (by rfl) (by rfl) (by rfl) O,⟨O,_,R.asg (kB false O) O (nU O),tV [(2,_),(3,_)] [(6,.var _),(5,.var _),(2,.var _)] 49 O O O ?_⟩⟩)
       refine W.ret ?_
       exact Ends.many (.inr O) (.cons O O O (show LdT _ 139 4 true from inferInstance) (.cons O O O Zt .nil)) (by rw [ofB_no (of_r1 (of_go (.inr (.inl hb7))) (tgt_u h3) hz),of_r1 (of_go (.inr (.inl hb7))) (tgt_u h3) hz] <;> rfl) (show [(2,false),(3,true)].Nodup by decide)
     · refine W.l0 8 [.y 39 _,.y 40 _,.y 41 _,.y 42 _,.y 43 _,.y 44 _,.y 45 _,.y 46 _] [] [] [(2,_),(6,_),(46,_)] [(6,.var _),(5,.var _),(2,.var _)] 49 ⟨aU (lU 6 O O O O O O O),aU fun _ _ H _=>R.bldAZ O H,aU fun _ _ H K=>R.eqD (neg:=false) (b':=((upS (partB bits) (8 * ((shr_u32 bits 24).toNat - 3))) == zeroB)) (eqv_bg _ _) O (eU K 39 O) (eU K 40 O) O O O O (O) H,mU 41 O O,aW O O (gF (beq_eq_false_iff_ne.2 hz) O) fun _ _ H K=>R.mov (eU K 0 O) O H,aW O O (gF (beq_eq_false_iff_ne.2 hz) O) fun _ _ H K=>R.bin (eU K 43 O) (show ev _ _ (.const (.int .u32 8388608)) = some (.u32 8388608) from O) O Zt H,aW O O (gF (beq_eq_false_iff_ne.2 hz) O) fun _ _ H K=>R.bin (eU K 44 O) (show ev _ _ (.const (.int .u32 0)) = some (.u32 0) from O) O Zt H,aU fun _ _ H K=>R.pickF (eU K 42 O) (beq_eq_false_iff_ne.2 hz) (eU K 45 O) O H,Zt⟩ O O O O (tU O ?_)
       refine W.cond O (fun hc46=>?_) (fun hc46=>?_)
       · refine W.seq ?_
         refine W.l0 3 [.y 47 _] [] [] [(2,_),(47,_)] [(6,.var _),(5,.var _),(2,.var _)] 49 ⟨aU fun _ _ H _=>R.bldAZ O H,Zt⟩ O O O O (⟨O,_,R.stZ (gU 2 O) (xU 2 O) O (gV 47 O) (by rfl) (by rfl) (by rfl) (by rfl) O,⟨O,_,R.asg (kB false O) O (nU O),tV [(2,_),(3,_)] [(6,.var _),(5,.var _),(2,.var _)] 49 O O O ?_⟩⟩)
         refine W.ret ?_
         exact Ends.many (.inr O) (.cons O O O (show LdT _ 139 4 true from inferInstance) (.cons O O O Zt .nil)) (by rw [ofB_no (of_r2 (of_go (.inr (.inl hb7))) hc46),of_r2 (of_go (.inr (.inl hb7))) hc46] <;> rfl) (show [(2,false),(3,true)].Nodup by decide)
       · refine W.skip (W.seq ?_)
         refine W.l0 3 [.y 48 _] [] [] [(2,_),(48,_)] [(6,.var _),(5,.var _),(2,.var _)] 49 ⟨aU (lU 6 O O O O O O O),Zt⟩ O O O O (⟨O,_,R.stZ (gU 2 O) (xU 2 O) O (gV 48 O) (by rfl) (by rfl) (by rfl) (by rfl) O,⟨O,_,R.asg (kB true O) O (nU O),tV [(2,_),(3,_)] [(6,.var _),(5,.var _),(2,.var _)] 49 O O O ?_⟩⟩)
         refine W.ret ?_
         exact Ends.many (.inr O) (.cons O O O (show LdT _ 139 4 true from inferInstance) (.cons O O O Zt .nil)) (by rw [ofB_is (of_r3 (of_go (.inr (.inl hb7))) (tgt_u h3) hz hc46),of_r3 (of_go (.inr (.inl hb7))) (tgt_u h3) hz hc46] <;> rfl) (show [(2,false),(3,true)].Nodup by decide)
theorem tcomp_ok (t : Bg) (htl : t.length = 4) : Fn Tryd.prog gl 80 [bgD t] (.u32 (compS t)):=by
 refine Fn.of (n:=38) Tryd.func80 rfl rfl rfl (nU rfl) fun C hC hD=>?_
 have hnb:=nbS_le t
 refine W.seq ?_
 refine W.l0 2 [] [] [] [(0,_)] [] 38 Zt O O O O (⟨O,_,R.box (gV 0 O) O O (nU O),⟨O,_,R.asg (show ev _ _ (.const (.int .u32 0)) = some (.u32 0) from O) O (nU O),tV [(1,_)] [(1,.var _)] 38 O O O ?_⟩⟩)
 refine W.seq (W.seq ?_)
 refine W.l0 3 [.y 5 _,.y 6 _,.y 7 _] [] [] [(1,_),(7,_)] [(1,.var _)] 38 ⟨aU (lU 1 O O O O O O O),aU fun _ _ H _=>R.bldAZ O H,aU fun _ _ H K=>R.eqD (neg:=false) (b':=(t == zeroB)) (eqv_bg _ _) O (eU K 5 O) (eU K 6 O) O O O O (O) H,Zt⟩ O O O O (tU O ?_)
 refine W.cond O (fun hc7=>?_) (fun hc7=>?_)
 · refine W.seq ?_
   refine W.l0 1 [.y 2 _] [] [] [(2,_)] [(1,.var _)] 38 ⟨aU fun _ _ H _=>R.asg (show ev _ _ (.const (.int .u32 0)) = some (.u32 0) from O) O H,Zt⟩ O O O O (tU O ?_)
   refine W.ret ?_
   exact Ends.one' (.inr O) O (by rw [comp_z hc7]) O O Zt
 · refine W.skip (W.seq ?_)
   refine W.l0 5 [.y 8 _,.y 9 _,.y 10 _,.y 11 _,.y 3 _] [] [] [(1,_),(3,_)] [(1,.var _)] 38 ⟨aU (lU 1 O O O O O O O),aU fun _ _ H K=>R.callG hC (nbits_ok t htl) (Bc (Bp (eU K 8 O) O O) Bn) (FrsR.one (.int _)) H,aU fun _ _ H K=>R.addN (nbS t) (7) (eU K 9 O) (kI 7 O) bU H,aU fun _ _ H K=>R.quoN ((nbS t + 7)) (8) (eU K 10 O) (kI 8 O) bU bU H,aU fun _ _ H K=>R.asg (eU K 11 O) O H,Zt⟩ O O O O (tU O ?_)
   refine W.seq ?_
   refine W.l0 1 [] [] [] [(1,_),(3,_)] [(1,.var _)] 38 Zt O O O O (⟨O,_,R.alloc O (nU O),tV [(1,_),(3,_),(4,_)] [(4,.var _),(1,.var _)] 38 O O O ?_⟩)
   refine W.seq (W.seq ?_)
   by_cases h3 : (nbS t + 7) / 8 < 3
   · refine W.l0 2 [.y 12 _,.y 13 _] [] [] [(1,_),(3,_),(4,_),(13,_)] [(4,.var _),(1,.var _)] 38 ⟨mU 3 O O,aU fun _ _ H K=>R.lssN (((nbS t + 7) / 8)) (3) (eU K 12 O) (kI 3 O) H,Zt⟩ O O O O (tU O ?_)
     refine W.condT O (dT h3) ?_
     refine W.l0 6 [.y 14 _,.y 15 _,.y 16 _,.y 17 _,.y 18 _] [] [] [(3,_),(4,_),(18,_)] [(4,.var _),(1,.var _)] 38 ⟨aU (lU 1 O O O O O O O),mU 3 O O,aU fun _ _ H K=>R.subN (3) (((nbS t + 7) / 8)) (kI 3 O) (eU K 15 O) bU bU H,aU fun _ _ H K=>R.mulN (8) ((3 - ((nbS t + 7) / 8))) (kI 8 O) (eU K 16 O) bU H,aU fun _ _ H K=>R.callG hC (bup_ok t (8 * (3 - (nbS t + 7) / 8)) htl (by omega)) (Bc (Bp (eU K 14 O) O O) (Bc (Bp (eU K 17 O) O O) Bn)) (FrsR.one (frs_bg _)) H,Zt⟩ O O O O (⟨O,_,R.stZ (gU 4 O) (xU 4 O) O (gV 18 O) (by rfl) (by rfl) (by rfl) (by rfl) O,tV [(3,_),(4,_)] [(4,.var _),(1,.var _)] 38 O O O ?_⟩)
     refine W.seq (W.seq ?_)
     have hxl : (upS t (8 * (3 - (nbS t + 7) / 8))).length = 4:=upS_len htl _
     refine W.l0 3 [.y 24 _,.y 25 _,.y 26 _] [] [] [(3,_),(4,_),(26,_)] [(4,.var _),(1,.var _)] 38 ⟨aU fun _ _ H K=>R.idxP (0) (K 4 _ O) (evoI (kI 0 O)) O bU H,aU fun _ B H K=>R.ldP (K 24 _ O) (B 4 _ O) (loc_arr (map_get! (l:=(upS t (8 * (3 - (nbS t + 7) / 8)))) bU) loc_nil bU) O O O H,aU fun _ _ H K=>R.bin (eU K 25 O) (show ev _ _ (.const (.int .u64 8388608)) = some (.u64 8388608) from O) O Zt H,Zt⟩ O O O O (tU O ?_)
     refine W.cond O (fun hc26=>?_) (fun hc26=>?_)
     · refine W.seq ?_
       refine W.l0 3 [.y 27 _,.y 28 _] [] [] [(3,_),(4,_),(28,_)] [(4,.var _),(1,.var _)] 38 ⟨aU (lU 4 O O O O O O O),aU fun _ _ H K=>R.callG hC (bdown_ok (upS t (8 * (3 - (nbS t + 7) / 8))) 8 hxl dU) (Bc (Bp (eU K 27 O) O O) (Bc (Bp (kI 8 O) O O) Bn)) (FrsR.one (frs_bg _)) H,Zt⟩ O O O O (⟨O,_,R.stZ (gU 4 O) (xU 4 O) O (gV 28 O) (by rfl) (by rfl) (by rfl) (by rfl) O,tV [(3,_),(4,_)] [(4,.var _),(1,.var _)] 38 O O O ?_⟩)
       refine W.l0 3 [.y 29 _,.y 30 _,.y 3 _] [] [] [(3,_),(4,_)] [(4,.var _),(1,.var _)] 38 ⟨mU 3 O O,aU fun _ _ H K=>R.addN (((nbS t + 7) / 8)) (1) (eU K 29 O) (kI 1 O) bU H,aU fun _ _ H K=>R.asg (eU K 30 O) O H,Zt⟩ O O O O (tU O ?_)
       refine W.seq ?_
       have hyl:=downS_len hxl 8
       refine W.l0 8 [.y 31 _,.y 32 _,.y 33 _,.y 34 _,.y 35 _,.y 36 _,.y 37 _,.y 2 _] [] [] [(2,_)] [(4,.var _),(1,.var _)] 38 ⟨mU 3 O O,aU fun _ _ H K=>R.conv (eU K 31 O) O H,aU fun _ _ H K=>R.bin (eU K 32 O) (show ev _ _ (.const (.int .u64 24)) = some (.u64 24) from O) O bV H,aU fun _ _ H K=>R.idxP (0) (K 4 _ O) (evoI (kI 0 O)) O bU H,aU fun _ B H K=>R.ldP (K 34 _ O) (B 4 _ O) (loc_arr (map_get! (l:=(downS (upS t (8 * (3 - (nbS t + 7) / 8))) 8)) bU) loc_nil bU) O O O H,aU fun _ _ H K=>R.conv (eU K 35 O) O H,aU fun _ _ H K=>R.bin (eU K 33 O) (eU K 36 O) O Zt H,aU fun _ _ H K=>R.asg (eU K 37 O) O H,Zt⟩ O O O O (tU O ?_)
       refine W.ret ?_
       exact Ends.one' (.inr O) O (by rw [comp_t hc7 (compP_t h3) (of_decide_eq_true hc26)] <;> rfl) O O Zt
     · refine W.skip (W.seq ?_)
       have hyl:=downS_len hxl 8
       refine W.l0 8 [.y 31 _,.y 32 _,.y 33 _,.y 34 _,.y 35 _,.y 36 _,.y 37 _,.y 2 _] [] [] [(2,_)] [(4,.var _),(1,.var _)] 38 ⟨mU 3 O O,aU fun _ _ H K=>R.conv (eU K 31 O) O H,aU fun _ _ H K=>R.bin (eU K 32 O) (show ev _ _ (.const (.int .u64 24)) = some (.u64 24) from O) O bV H,aU fun _ _ H K=>R.idxP (0) (K 4 _ O) (evoI (kI 0 O)) O bU H,aU fun _ B H K=>R.ldP (K 34 _ O) (B 4 _ O) (loc_arr (map_get! (l:=(upS t (8 * (3 - (nbS t + 7) / 8)))) bU) loc_nil bU) O O O H,aU fun _ _ H K=>R.conv (eU K 35 O) O H,aU fun _ _ H K=>R.bin (eU K 33 O) (eU K 36 O) O Zt H,aU fun _ _ H K=>R.asg (eU K 37 O) O H,Zt⟩ O O O O (tU O ?_)
       refine W.ret ?_
       exact Ends.one' (.inr O) O (by rw [comp_f hc7 (compP_t h3) (of_decide_eq_false hc26)] <;> rfl) O O Zt
   · refine W.l0 2 [.y 12 _,.y 13 _] [] [] [(1,_),(3,_),(4,_),(13,_)] [(4,.var _),(1,.var _)] 38 ⟨mU 3 O O,aU fun _ _ H K=>R.lssN (((nbS t + 7) / 8)) (3) (eU K 12 O) (kI 3 O) H,Zt⟩ O O O O (tU O ?_)
     refine W.condF O (dF h3) ?_
     refine W.l0 6 [.y 19 _,.y 20 _,.y 21 _,.y 22 _,.y 23 _] [] [] [(3,_),(4,_),(23,_)] [(4,.var _),(1,.var _)] 38 ⟨aU (lU 1 O O O O O O O),mU 3 O O,aU fun _ _ H K=>R.subN (((nbS t + 7) / 8)) (3) (eU K 20 O) (kI 3 O) bU bU H,aU fun _ _ H K=>R.mulN (8) ((((nbS t + 7) / 8) - 3)) (kI 8 O) (eU K 21 O) bU H,aU fun _ _ H K=>R.callG hC (bdown_ok t (8 * ((nbS t + 7) / 8 - 3)) htl (by omega)) (Bc (Bp (eU K 19 O) O O) (Bc (Bp (eU K 22 O) O O) Bn)) (FrsR.one (frs_bg _)) H,Zt⟩ O O O O (⟨O,_,R.stZ (gU 4 O) (xU 4 O) O (gV 23 O) (by rfl) (by rfl) (by rfl) (by rfl) O,tV [(3,_),(4,_)] [(4,.var _),(1,.var _)] 38 O O O ?_⟩)
     refine W.seq (W.seq ?_)
     have hxl : (downS t (8 * ((nbS t + 7) / 8 - 3))).length = 4:=downS_len htl _
     refine W.l0 3 [.y 24 _,.y 25 _,.y 26 _] [] [] [(3,_),(4,_),(26,_)] [(4,.var _),(1,.var _)] 38 ⟨aU fun _ _ H K=>R.idxP (0) (K 4 _ O) (evoI (kI 0 O)) O bU H,aU fun _ B H K=>R.ldP (K 24 _ O) (B 4 _ O) (loc_arr (map_get! (l:=(downS t (8 * ((nbS t + 7) / 8 - 3)))) bU) loc_nil bU) O O O H,aU fun _ _ H K=>R.bin (eU K 25 O) (show ev _ _ (.const (.int .u64 8388608)) = some (.u64 8388608) from O) O Zt H,Zt⟩ O O O O (tU O ?_)
     refine W.cond O (fun hc26=>?_) (fun hc26=>?_)
     · refine W.seq ?_
       refine W.l0 3 [.y 27 _,.y 28 _] [] [] [(3,_),(4,_),(28,_)] [(4,.var _),(1,.var _)] 38 ⟨aU (lU 4 O O O O O O O),aU fun _ _ H K=>R.callG hC (bdown_ok (downS t (8 * ((nbS t + 7) / 8 - 3))) 8 hxl dU) (Bc (Bp (eU K 27 O) O O) (Bc (Bp (kI 8 O) O O) Bn)) (FrsR.one (frs_bg _)) H,Zt⟩ O O O O (⟨O,_,R.stZ (gU 4 O) (xU 4 O) O (gV 28 O) (by rfl) (by rfl) (by rfl) (by rfl) O,tV [(3,_),(4,_)] [(4,.var _),(1,.var _)] 38 O O O ?_⟩)
       refine W.l0 3 [.y 29 _,.y 30 _,.y 3 _] [] [] [(3,_),(4,_)] [(4,.var _),(1,.var _)] 38 ⟨mU 3 O O,aU fun _ _ H K=>R.addN (((nbS t + 7) / 8)) (1) (eU K 29 O) (kI 1 O) bU H,aU fun _ _ H K=>R.asg (eU K 30 O) O H,Zt⟩ O O O O (tU O ?_)
       refine W.seq ?_
       have hyl:=downS_len hxl 8
       refine W.l0 8 [.y 31 _,.y 32 _,.y 33 _,.y 34 _,.y 35 _,.y 36 _,.y 37 _,.y 2 _] [] [] [(2,_)] [(4,.var _),(1,.var _)] 38 ⟨mU 3 O O,aU fun _ _ H K=>R.conv (eU K 31 O) O H,aU fun _ _ H K=>R.bin (eU K 32 O) (show ev _ _ (.const (.int .u64 24)) = some (.u64 24) from O) O bV H,aU fun _ _ H K=>R.idxP (0) (K 4 _ O) (evoI (kI 0 O)) O bU H,aU fun _ B H K=>R.ldP (K 34 _ O) (B 4 _ O) (loc_arr (map_get! (l:=(downS (downS t (8 * ((nbS t + 7) / 8 - 3))) 8)) bU) loc_nil bU) O O O H,aU fun _ _ H K=>R.conv (eU K 35 O) O H,aU fun _ _ H K=>R.bin (eU K 33 O) (eU K 36 O) O Zt H,aU fun _ _ H K=>R.asg (eU K 37 O) O H,Zt⟩ O O O O (tU O ?_)
       refine W.ret ?_
       exact Ends.one' (.inr O) O (by rw [comp_t hc7 (compP_f h3) (of_decide_eq_true hc26)] <;> rfl) O O Zt
     · refine W.skip (W.seq ?_)
       have hyl:=downS_len hxl 8
       refine W.l0 8 [.y 31 _,.y 32 _,.y 33 _,.y 34 _,.y 35 _,.y 36 _,.y 37 _,.y 2 _] [] [] [(2,_)] [(4,.var _),(1,.var _)] 38 ⟨mU 3 O O,aU fun _ _ H K=>R.conv (eU K 31 O) O H,aU fun _ _ H K=>R.bin (eU K 32 O) (show ev _ _ (.const (.int .u64 24)) = some (.u64 24) from O) O bV H,aU fun _ _ H K=>R.idxP (0) (K 4 _ O) (evoI (kI 0 O)) O bU H,aU fun _ B H K=>R.ldP (K 34 _ O) (B 4 _ O) (loc_arr (map_get! (l:=(downS t (8 * ((nbS t + 7) / 8 - 3)))) bU) loc_nil bU) O O O H,aU fun _ _ H K=>R.conv (eU K 35 O) O H,aU fun _ _ H K=>R.bin (eU K 33 O) (eU K 36 O) O Zt H,aU fun _ _ H K=>R.asg (eU K 37 O) O H,Zt⟩ O O O O (tU O ?_)
       refine W.ret ?_
       exact Ends.one' (.inr O) O (by rw [comp_f hc7 (compP_f h3) (of_decide_eq_false hc26)] <;> rfl) O O Zt
theorem tmeet_ok (h : Hs) (t : Bg) (hh : h.length = 32) (htl : t.length = 4) : Fn Tryd.prog gl 61 [hashD h,bgD t] (.bool (meetS h t)):=by
 refine Fn.of (n:=15) Tryd.func61 rfl rfl rfl (nU rfl) fun C hC hD=>?_
 refine W.seq ?_
 refine W.l0 3 [] [] [] [(0,_),(1,_)] [] 15 Zt O O O O (⟨O,_,R.box (gV 0 O) O O (nU O),⟨O,_,R.box (gV 1 O) O O (nU O),⟨O,_,R.asg (kB false O) O (nU O),tV [(2,_),(3,_)] [(3,.var _),(2,.var _)] 15 O O O ?_⟩⟩⟩)
 refine W.seq ?_
 by_cases hz : t = zeroB
 · refine W.draw (m:=11) (an:=[0,0,3,7,15,15,47,127,255,511,1023]) hP dU O (its:=[.y 5 _,.y 6 _,.y 7 _,.y 8 _,.x 9,.x 10,.x 11,.x 12,.x 13,.y 14 _,.y 4 _]) (ks:=[]) (kk:=[]) (live:=[4]) (env':=[(4,_)]) (⟨nU O,O,⟨aU (lU 3 O O O O O O O),aU fun _ _ H _=>R.bldAZ O H,aU fun _ _ H K=>R.eqD (neg:=true) (b':=(t != zeroB)) (eqv_bg _ _) O (eU K 5 O) (eU K 6 O) O O O O (O) H,mU 7 O O,aF O O (gF (by rw [hz]; rfl) O),aF O O (gF (by rw [hz]; rfl) O),aF O O (gF (by rw [hz]; rfl) O),aF O O (gF (by rw [hz]; rfl) O),aF O O (gF (by rw [hz]; rfl) O),aU fun _ _ H K=>R.pickF (eU K 8 O) (by rw [hz]; rfl) (kB false O) O H,aU fun _ _ H K=>R.asg (eU K 14 O) O H,Zt⟩,O,O,O⟩) O (bx':=[(3,.var _),(2,.var _)]) O (n':=15) O (tV [(4,_)] [(3,.var _),(2,.var _)] 15 O O O ?_)
   refine W.ret ?_
   exact Ends.one' (.inr O) O (by rw [meet_f hz]) O O Zt
 · refine W.draw (m:=11) (an:=[0,0,3,7,15,15,47,127,255,511,1023]) hP dU O (its:=[.y 5 _,.y 6 _,.y 7 _,.y 8 _,.y 9 _,.y 10 _,.y 11 _,.y 12 _,.y 13 _,.y 14 _,.y 4 _]) (ks:=[]) (kk:=[]) (live:=[4]) (env':=[(4,_)]) (⟨nU O,O,⟨aU (lU 3 O O O O O O O),aU fun _ _ H _=>R.bldAZ O H,aU fun _ _ H K=>R.eqD (neg:=true) (b':=(t != zeroB)) (eqv_bg _ _) O (eU K 5 O) (eU K 6 O) O O O O (O) H,mU 7 O O,aW O O (gT (bne_iff_ne.2 hz) O) (lU 3 O O O O O O O),aW O O (gT (bne_iff_ne.2 hz) O) (lU 2 O O O O O O O),aW O O (gT (bne_iff_ne.2 hz) O) fun _ _ H K=>R.callG hC (bofh_ok h hh) (Bc (Bp (eU K 10 O) O O) Bn) (FrsR.one (frs_bg _)) H,aW O O (gT (bne_iff_ne.2 hz) O) fun _ _ H K=>R.callG hC (bless_ok t (ofHS h) htl (ofHS_len h)) (Bc (Bp (eU K 9 O) O O) (Bc (Bp (eU K 11 O) O O) Bn)) (FrsR.one (.bool _)) H,aW O O (gT (bne_iff_ne.2 hz) O) fun _ _ H K=>R.un (eU K 12 O) O H,aU fun _ _ H K=>R.pickT (eU K 8 O) (bne_iff_ne.2 hz) (eU K 13 O) O H,aU fun _ _ H K=>R.asg (eU K 14 O) O H,Zt⟩,O,O,O⟩) O (bx':=[(3,.var _),(2,.var _)]) O (n':=15) O (tV [(4,_)] [(3,.var _),(2,.var _)] 15 O O O ?_)
   refine W.ret ?_
   exact Ends.one' (.inr O) O (by rw [meet_t hz]) O O Zt
end Go.Sx

namespace Go.Sx
structure HdS where
 ver : UInt32
 prev : Hs
 root : Hs
 time : UInt32
 bits : UInt32
 nonce : UInt32
 deriving DecidableEq,Inhabited
def hdrD (h : HdS) : D:=.agg [.u32 h.ver,hashD h.prev,hashD h.root,.u32 h.time,.u32 h.bits,.u32 h.nonce]
def HdS.wf (h : HdS) : Prop:=h.prev.length = 32 /\ h.root.length = 32
def zeroH : HdS:=⟨0,zero32,zero32,0,0,0⟩
def byt (v : UInt32) (i : Nat) : UInt8:=(shr_u32 v (8 * i)).toUInt8
def le4 (v : UInt32) : List UInt8:=[byt v 0,byt v 1,byt v 2,byt v 3]
def hputS (h : HdS) : List UInt8:=le4 h.ver ++ h.prev ++ h.root ++ le4 h.time ++ le4 h.bits ++ le4 h.nonce
theorem hputS_len (h : HdS) (hw : h.wf) : (hputS h).length = 80:=by simp [hputS,le4,hw.1,hw.2]
theorem frs_hdr (h : HdS) : Frs (hdrD h):=by
 refine .agg _ fun x hx=>?_
 simp only [List.mem_cons,List.not_mem_nil,or_false] at hx
 rcases hx with rfl | rfl | rfl | rfl | rfl | rfl
 · exact .u32 _
 · exact frs_hash' _
 · exact frs_hash' _
 · exact .u32 _
 · exact .u32 _
 · exact .u32 _
theorem brw_hdr (h : HdS) : (hdrD h).brw = hdrD h:=by
 simp only [hdrD,D.brw,D.brws,brw_hash]
def allW (l : List HdS) : Prop:=∀ h ∈ l,h.wf
theorem allW.get {l : List HdS} (h : allW l) {i : Nat} (hi : i < l.length) : l[i]!.wf:=by
 rw [getElem!_pos l i hi]; exact h _ (List.getElem_mem hi)
theorem le4_eq (v : UInt32) : [D.u8 v.toUInt8,.u8 (shr_u32 v 8).toUInt8,.u8 (shr_u32 v 16).toUInt8,.u8 (shr_u32 v 24).toUInt8] = (le4 v).map D.u8:=by
 have : shr_u32 v 0 = v:=by unfold shr_u32; simp
 simp only [le4,byt,List.map_cons,List.map_nil,Nat.mul_zero,this]
theorem app_part (a b : List UInt8) (n : Nat) (h : b.length = n) : a.map D.u8 ++ ((b.map D.u8).drop 0).take n = (a ++ b).map D.u8:=by
 rw [List.drop_zero,List.take_of_length_le (by simp [h]),List.map_append]
def hridS (h : HdS) : Hs:=twiceR (hputS h)
end Go.Sx

namespace Go.Sx
open Go.Proofs
theorem hlow_ok (v : UInt32) : Fn Tryd.prog gl 104 [.u32 v] (.sl (some 5) 1 ((le4 v).map D.u8)):=by
 refine Fn.of (n:=15) Tryd.func104 rfl rfl rfl (nU rfl) fun C hC hD=>?_
 refine W.seq ?_
 refine W.l0 1 [.y 2 _] [] [] [(0,_)] [] 15 ⟨aU fun _ _ H _=>R.asg (kN O) O H,Zt⟩ O O O O (tU O ?_)
 refine W.seq ?_
 refine W.l0 13 [.y 3 _,.y 4 _,.y 5 _,.y 6 _,.y 7 _,.y 8 _,.y 9 _,.y 10 _,.y 11 _,.y 12 _,.y 13 _,.y 14 _,.y 2 _] [(12,14)] [(12,14)] [(2,_)] [] 15 ⟨mU 0 O O,aU fun _ _ H K=>R.conv (eU K 3 O) O H,mU 0 O O,aU fun _ _ H K=>R.bin (eU K 5 O) (show ev _ _ (.const (.int .u64 8)) = some (.u64 8) from O) O bV H,aU fun _ _ H K=>R.conv (eU K 6 O) O H,mU 0 O O,aU fun _ _ H K=>R.bin (eU K 8 O) (show ev _ _ (.const (.int .u64 16)) = some (.u64 16) from O) O bV H,aU fun _ _ H K=>R.conv (eU K 9 O) O H,mU 0 O O,aU fun _ _ H K=>R.bin (eU K 11 O) (show ev _ _ (.const (.int .u64 24)) = some (.u64 24) from O) O bV H,aU fun _ _ H K=>R.conv (eU K 12 O) O H,aU fun _ _ H K=>R.bslE (z:=1) (.cons (eU K 4 O) (.cons (eU K 7 O) (.cons (eU K 10 O) (.cons (eU K 13 O) .nil)))) ⟨⟨O,O,O⟩,⟨O,O,O⟩,⟨O,O,O⟩,⟨O,O,O⟩,Zt⟩ O H dU,aU fun _ _ H K=>R.asgO (K 14 _ O) O H dU,Zt⟩ O O O O (tU O ?_)
 refine W.ret ?_
 exact Ends.one' (.inr O) O (congrArg (D.sl (some 5) 1) (le4_eq v)) O O Zt
theorem hrput_ok (h : HdS) (hw : h.wf) : Fn Tryd.prog gl 81 [hdrD h] (.sl (some 5) 1 ((hputS h).map D.u8)):=by
 refine Fn.of (n:=30) Tryd.func81 rfl rfl rfl (nU rfl) fun C hC hD=>?_
 have hw1:=hw.1
 have hw2:=hw.2
 refine W.seq ?_
 refine W.l0 2 [] [] [] [(0,_)] [] 30 Zt O O O O (⟨O,_,R.box (gV 0 O) O O (nU O),⟨O,_,R.asg (kN O) O (nU O),tV [(1,_)] [(1,.var _)] 30 O O O ?_⟩⟩)
 refine W.seq ?_
 refine W.l0 4 [.y 4 _,.y 5 _,.y 6 _,.y 3 _] [(3,6)] [(3,6)] [(1,_),(3,_)] [(1,.var _)] 30 ⟨aU (fU 1 O O),aU (lU 4 O O O O O O O),aU fun _ _ H K=>R.callG hC (hlow_ok h.ver) (Bc (Bp (eU K 5 O) O O) Bn) (FrsR.one (.sl _ _ _ (frs_map fun _=>.u8 _))) H,aU fun _ _ H K=>R.asgO (K 6 _ O) O H dU,Zt⟩ O O O O (tU O ?_)
 refine W.seq ?_
 refine W.l0 5 [.y 7 _,.y 8 _,.y 9 _,.y 10 _,.y 3 _] [(3,3),(4,10),(4,7)] [(3,3),(4,10)] [(1,_),(3,_)] [(1,.var _)] 30 ⟨aU fun _ _ H K=>R.al (K 3 _ O) H dU,aU (fU 1 O O),aU fun _ B H K=>R.slAN (0) (32) (32) (K 8 _ O) (B 1 _ O) O O O O O bU bU O H,aU fun _ B H K=>R.appE (Or.inr (K 7 _ O)) (K 3 _ O) (SrcO.sc (SC.va (K 9 _ O) (B 1 _ O) O dU) (pur_part (fun _=>rfl))) (show _ = ((le4 h.ver ++ h.prev).map D.u8) from (app_part _ h.prev 32 hw1)) (by simp [le4,hw1,hw2]) H dU dU,aU fun _ _ H K=>R.asgO (K 10 _ O) O H dU,Zt⟩ O O O O (tU O ?_)
 refine W.seq ?_
 refine W.l0 5 [.y 11 _,.y 12 _,.y 13 _,.y 14 _,.y 3 _] [(3,3),(4,14),(4,11)] [(3,3),(4,14)] [(1,_),(3,_)] [(1,.var _)] 30 ⟨aU fun _ _ H K=>R.al (K 3 _ O) H dU,aU (fU 1 O O),aU fun _ B H K=>R.slAN (0) (32) (32) (K 12 _ O) (B 1 _ O) O O O O O bU bU O H,aU fun _ B H K=>R.appE (Or.inr (K 11 _ O)) (K 3 _ O) (SrcO.sc (SC.va (K 13 _ O) (B 1 _ O) O dU) (pur_part (fun _=>rfl))) (show _ = ((le4 h.ver ++ h.prev ++ h.root).map D.u8) from (app_part _ h.root 32 hw2)) (by simp [le4,hw1,hw2]) H dU dU,aU fun _ _ H K=>R.asgO (K 14 _ O) O H dU,Zt⟩ O O O O (tU O ?_)
 refine W.seq ?_
 refine W.l0 6 [.y 15 _,.y 16 _,.y 17 _,.y 18 _,.y 19 _,.y 3 _] [(4,3),(5,19),(5,15)] [(4,3),(5,19)] [(1,_),(3,_)] [(1,.var _)] 30 ⟨aU fun _ _ H K=>R.al (K 3 _ O) H dU,aU (fU 1 O O),aU (lU 16 O O O O O O O),aU fun _ _ H K=>R.callG hC (hlow_ok h.time) (Bc (Bp (eU K 17 O) O O) Bn) (FrsR.one (.sl _ _ _ (frs_map fun _=>.u8 _))) H,aU fun _ _ H K=>R.appE (Or.inr (K 15 _ O)) (K 3 _ O) (SrcO.sc (SC.sl (K 18 _ O)) (pur_map (fun _=>rfl))) (app_map) (by simp [le4,hw1,hw2]) H dU dU,aU fun _ _ H K=>R.asgO (K 19 _ O) O H dU,Zt⟩ O O O O (tU O ?_)
 refine W.seq ?_
 refine W.l0 6 [.y 20 _,.y 21 _,.y 22 _,.y 23 _,.y 24 _,.y 3 _] [(4,3),(5,24),(5,20)] [(4,3),(5,24)] [(1,_),(3,_)] [(1,.var _)] 30 ⟨aU fun _ _ H K=>R.al (K 3 _ O) H dU,aU (fU 1 O O),aU (lU 21 O O O O O O O),aU fun _ _ H K=>R.callG hC (hlow_ok h.bits) (Bc (Bp (eU K 22 O) O O) Bn) (FrsR.one (.sl _ _ _ (frs_map fun _=>.u8 _))) H,aU fun _ _ H K=>R.appE (Or.inr (K 20 _ O)) (K 3 _ O) (SrcO.sc (SC.sl (K 23 _ O)) (pur_map (fun _=>rfl))) (app_map) (by simp [le4,hw1,hw2]) H dU dU,aU fun _ _ H K=>R.asgO (K 24 _ O) O H dU,Zt⟩ O O O O (tU O ?_)
 refine W.seq ?_
 refine W.l0 6 [.y 25 _,.y 26 _,.y 27 _,.y 28 _,.y 29 _,.y 2 _] [(4,3),(5,29)] [(4,3),(5,29)] [(2,_)] [(1,.var _)] 30 ⟨aU fun _ _ H K=>R.al (K 3 _ O) H dU,aU (fU 1 O O),aU (lU 26 O O O O O O O),aU fun _ _ H K=>R.callG hC (hlow_ok h.nonce) (Bc (Bp (eU K 27 O) O O) Bn) (FrsR.one (.sl _ _ _ (frs_map fun _=>.u8 _))) H,aU fun _ _ H K=>R.appE (Or.inr (K 25 _ O)) (K 3 _ O) (SrcO.sc (SC.sl (K 28 _ O)) (pur_map (fun _=>rfl))) (app_map) (by simp [le4,hw1,hw2]) H dU dU,aU fun _ _ H K=>R.asgO (K 29 _ O) O H dU,Zt⟩ O O O O (tU O ?_)
 refine W.ret ?_
 exact Ends.one' (.inr O) O (O) O O Zt
theorem hrid_ok (h : HdS) (hw : h.wf) : Fn Tryd.prog gl 59 [hdrD h] (hashD (hridS h)):=by
 refine Fn.of (n:=6) Tryd.func59 rfl rfl rfl (nU rfl) fun C hC hD=>?_
 refine W.seq ?_
 refine W.l0 2 [] [] [] [(0,_)] [] 6 Zt O O O O (⟨O,_,R.box (gV 0 O) O O (nU O),⟨O,_,R.alloc O (nU O),tV [(1,_),(2,_)] [(2,.var _),(1,.var _)] 6 O O O ?_⟩⟩)
 refine W.seq ?_
 refine W.l0 4 [.y 3 _,.y 4 _,.y 5 _] [] [] [(2,_),(5,_)] [(2,.var _),(1,.var _)] 6 ⟨aU (lU 1 O O O O O O O),aU fun _ _ H K=>R.callG hC (hrput_ok h hw) (Bc (Bp (eU K 3 O) O O) Bn) (FrsR.one (.sl _ _ _ (frs_map fun _=>.u8 _))) H,aU fun _ _ H K=>R.callG hC (rtwice_ok (hputS h) (by rw [hputS_len h hw]; decide)) (Bc (Bor.sc (SC.sl (K 4 _ O)) (brw_map (fun _=>rfl))) Bn) (FrsR.one (frs_hash _)) H,Zt⟩ O O O O (⟨O,_,R.stZ (gU 2 O) (xU 2 O) O (gV 5 O) (by rfl) (by rfl) (by rfl) (by rfl) O,tV [(2,_)] [(2,.var _),(1,.var _)] 6 O O O ?_⟩)
 refine W.ret ?_
 exact Ends.one' (.inr O) O (O) O O (show LdT _ 26 32 true from inferInstance)
end Go.Sx

namespace Go.Sx
open Go.Proofs
theorem rjoin_ok (a b : Hs) (hx : a.length = 32) (hy : b.length = 32) : Fn Tryd.prog gl 88 [hashD a,hashD b] (hashD (joinR a b)):=by
 refine Fn.of (n:=13) Tryd.func88 rfl rfl rfl (nU rfl) fun C hC hD=>?_
 refine W.seq ?_
 refine W.l0 3 [] [] [] [(0,_),(1,_)] [] 13 Zt O O O O (⟨O,_,R.box (gV 0 O) O O (nU O),⟨O,_,R.box (gV 1 O) O O (nU O),⟨O,_,R.alloc O (nU O),tV [(2,_),(3,_),(4,_)] [(4,.var _),(3,.var _),(2,.var _)] 13 O O O ?_⟩⟩⟩)
 refine W.seq ?_
 refine W.l0 4 [.y 6 _,.y 7 _,.y 8 _,.y 5 _] [(2,6),(3,8)] [(2,6),(3,8)] [(3,_),(4,_),(5,_)] [(4,.var _),(3,.var _),(2,.var _)] 13 ⟨aU fun _ _ H _=>R.bslE .nil Zt O H dU,aU fun _ B H K=>R.slAN (0) (32) (32) (K 2 _ O) (B 2 _ O) O O O O O bU bU O H,aU fun _ B H K=>R.appE (Or.inl O) (K 6 _ O) (SrcO.sc (SC.va (K 7 _ O) (B 2 _ O) O dU) (pur_part (fun _=>rfl))) (show _ = (a.map D.u8) from ((List.nil_append _).trans (part32 a hx))) (by simp [hx]) H dU dU,aU fun _ _ H K=>R.asgO (K 8 _ O) O H dU,Zt⟩ O O O O (tU O ?_)
 refine W.seq ?_
 refine W.l0 5 [.y 9 _,.y 10 _,.y 11 _,.y 12 _] [(2,5)] [(2,5)] [(4,_),(12,_)] [(4,.var _),(3,.var _),(2,.var _)] 13 ⟨aU fun _ _ H K=>R.al (K 5 _ O) H dU,aU fun _ B H K=>R.slAN (0) (32) (32) (K 3 _ O) (B 3 _ O) O O O O O bU bU O H,aU fun _ B H K=>R.appE (Or.inr (K 9 _ O)) (K 5 _ O) (SrcO.sc (SC.va (K 10 _ O) (B 3 _ O) O dU) (pur_part (fun _=>rfl))) (show _ = ((a ++ b).map D.u8) from (by rw [part32 b hy,List.map_append])) (by simp [hx,hy]) H dU dU,aU fun _ _ H K=>R.callG hC (rtwice_ok (a ++ b) (by simp only [List.length_append,hx,hy]; decide)) (Bc (Bor.sc (SC.sl (K 11 _ O)) (brw_map (fun _=>rfl))) Bn) (FrsR.one (frs_hash _)) H,Zt⟩ O O O O (⟨O,_,R.stZ (gU 4 O) (xU 4 O) O (gV 12 O) (by rfl) (by rfl) (by rfl) (by rfl) O,tV [(4,_)] [(4,.var _),(3,.var _),(2,.var _)] 13 O O O ?_⟩)
 refine W.ret ?_
 exact Ends.one' (.inr O) O (O) O O (show LdT _ 26 32 true from inferInstance)
theorem rat_ok (l : List Hs) (k : Nat) (h0 : 0 < l.length) (hl0 : l.length <= 1000) (hk0 : k <= 1000000) : Fn Tryd.prog gl 89 [.sl none 32 (l.map hashD),.int ((k : Nat) : Int)] (hashD l[min k (l.length - 1)]!):=by
 refine Fn.of (n:=13) Tryd.func89 rfl rfl rfl (nU rfl) fun C hC hD=>?_
 refine W.seq ?_
 refine W.l0 1 [] [] [] [(0,_),(1,_)] [] 13 Zt O O O O (⟨O,_,R.alloc O (nU O),tV [(0,_),(1,_),(4,_)] [(4,.var _)] 13 O O O ?_⟩)
 refine W.seq ?_
 refine W.l0 9 [.y 5 _,.y 6 _,.y 7 _,.y 8 _,.y 9 _,.y 10 _,.y 11 _,.y 12 _] [] [] [(4,_),(12,_)] [(4,.var _)] 13 ⟨mU 0 O O,mU 1 O O,mU 0 O O,aU fun _ _ H K=>R.lenE (SC.sl (K 7 _ O)) (lN _) H,aU fun _ _ H K=>R.subN (l.length) (1) (eU K 8 O) (kI 1 O) bU bU H,aU fun _ _ H K=>R.minI (r:=((min k (l.length - 1) : Nat) : Int)) (eU K 6 O) (eU K 9 O) (by omega) H,aU fun _ _ H K=>R.idxN (min k (l.length - 1)) (SC.sl (K 5 _ O)) (evoI (eU K 10 O)) O bU H dU,aU fun _ _ H K=>R.ldE (K 11 _ O) (SC.sl (K 5 _ O)) (map_get! (l:=l) bU) O O O O H,Zt⟩ O O O O (⟨O,_,R.stZ (gU 4 O) (xU 4 O) O (gV 12 O) (by rfl) (by rfl) (by rfl) (by rfl) O,tV [(4,_)] [(4,.var _)] 13 O O O ?_⟩)
 refine W.ret ?_
 exact Ends.one' (.inr O) O (O) O O (show LdT _ 26 32 true from inferInstance)
theorem rabove_ok (l : List Hs) (hl : allH l) (hl0 : l.length <= 1000) : Fn Tryd.prog gl 62 [.sl none 32 (l.map hashD)] (.sl (some 26) 32 ((upR joinR l).map hashD)):=by
 refine Fn.of (n:=24) Tryd.func62 rfl rfl rfl (nU rfl) fun C hC hD=>?_
 refine W.seq ?_
 refine W.l0 1 [.y 2 _] [] [] [(0,_)] [] 24 ⟨aU fun _ _ H _=>R.asg (kN O) O H,Zt⟩ O O O O (tU O ?_)
 refine W.seq ?_
 refine W.l0 1 [.y 3 _] [] [] [(0,_),(3,_)] [] 24 ⟨aU fun _ _ H _=>R.asg (kN O) O H,Zt⟩ O O O O (tU O ?_)
 refine W.seq (W.seq ?_)
 refine W.l0 1 [.y 4 _] [] [] [(0,_),(3,_),(4,_)] [] 24 ⟨aU fun _ _ H _=>R.asg (kI 0 O) O H,Zt⟩ O O O O (tU O ?_)
 refine W.block ?_
 refine W.asOwn (s:=3) 26 32 O ?_
 refine W.loop (α:={q__ : Nat // q__ <= (l.length + 1) / 2}) (fun q__=>⟨24,[(0,.sl none 32 (l.map hashD)),(3,.sl (some 26) 32 ((upI joinR l q__.1).map hashD)),(4,.int ((2 * q__.1 : Nat) : Int))],[]⟩) (fun q__=>(l.length + 1) / 2 - q__.1) ⟨(0),bU⟩ O ?_
 rintro ⟨i,hi⟩
 show W _ _ _ _ ⟨24,[(0,.sl none 32 (l.map hashD)),(3,.sl (some 26) 32 ((upI joinR l i).map hashD)),(4,.int ((2 * i : Nat) : Int))],[]⟩
 have hul:=upI_len joinR l i
 refine W.seq (W.seq ?_)
 refine W.l0 4 [.y 5 _,.y 6 _,.y 7 _,.y 8 _] [] [] [(0,_),(3,_),(4,_),(8,_)] [] 24 ⟨mU 4 O O,mU 0 O O,aU fun _ _ H K=>R.lenE (SC.sl (K 6 _ O)) (lN _) H,aU fun _ _ H K=>R.lssN (2 * i) (l.length) (eU K 5 O) (eU K 7 O) H,Zt⟩ O O O O (tU O ?_)
 refine W.condD O (fun hc8=>?_) (fun hc8=>?_)
 · refine W.skip (W.seq (W.block ?_))
   refine W.draw (m:=13) (an:=[0,0,0,6,14,0,0,64,224,510,1022,2047,4095]) hP dU O (its:=[.y 11 _,.y 12 _,.y 13 _,.y 14 _,.y 15 _,.y 16 _,.y 17 _,.y 18 _,.y 19 _,.y 20 _,.y 21 _,.y 22 _,.y 3 _]) (ks:=[(11,3),(12,22),(12,11)]) (kk:=[(11,3),(12,22)]) (live:=[0,3,4]) (env':=[(0,_),(3,_),(4,_)]) (⟨nU O,O,⟨aU fun _ _ H K=>R.al (K 3 _ O) H dU,mU 0 O O,mU 4 O O,aU fun _ _ H K=>R.idxN (2 * i) (SC.sl (K 12 _ O)) (evoI (eU K 13 O)) O bU H dU,aU fun _ _ H K=>R.ldE (K 14 _ O) (SC.sl (K 12 _ O)) (map_get! (l:=l) bU) O O O O H,mU 0 O O,mU 4 O O,aU fun _ _ H K=>R.addN (2 * i) (1) (eU K 17 O) (kI 1 O) bU H,aU fun _ _ H K=>R.callG hC (rat_ok l (2 * i + 1) (by omega) hl0 (by omega)) (Bc (Bp (eU K 16 O) O O) (Bc (Bp (eU K 18 O) O O) Bn)) (FrsR.one (frs_hash _)) H,aU fun _ _ H K=>R.callG hC (rjoin_ok _ _ (hl.get (by omega)) (hl.get (by omega))) (Bc (Bp (eU K 15 O) O O) (Bc (Bp (eU K 19 O) O O) Bn)) (FrsR.one (frs_hash _)) H,aU fun _ _ H K=>R.bslE (z:=32) (.cons (eU K 20 O) .nil) ⟨⟨O,O,O⟩,Zt⟩ O H dU,aU fun _ _ H K=>R.appE (Or.inr (K 11 _ O)) (K 3 _ O) (SrcO.sc (SC.sl (K 21 _ O)) (pur_lit O)) (app_one) bU H dU dU,aU fun _ _ H K=>R.asgO (K 22 _ O) O H dU,Zt⟩,O,O,O⟩) O (bx':=[]) O (n':=24) O (tV [(0,_),(3,_),(4,_)] [] 24 O O O ?_)
   refine W.l0 3 [.y 9 _,.y 10 _,.y 4 _] [] [] [(0,_),(3,_),(4,_)] [] 24 ⟨mU 4 O O,aU fun _ _ H K=>R.addN (2 * i) (2) (eU K 9 O) (kI 2 O) bU H,aU fun _ _ H K=>R.asg (eU K 10 O) O H,Zt⟩ O O O O (tU O ?_)
   exact ⟨⟨(i + 1),bU⟩,rfl,(by simp only []; omega)⟩
 · obtain rfl : i = (l.length + 1) / 2:=by omega
   refine W.exit (W.seq ?_)
   refine W.l0 2 [.y 23 _,.y 2 _] [(0,3),(1,23)] [(0,3),(1,23)] [(2,_)] [] 24 ⟨aU fun _ _ H K=>R.movO (K 3 _ O) O H dU,aU fun _ _ H K=>R.asgO (K 23 _ O) O H dU,Zt⟩ O O O O (tU O ?_)
   refine W.ret ?_
   exact Ends.one' (.inr O) O (O) O O Zt
end Go.Sx

namespace Go.Sx
structure InS where
 tx : Hs
 n : UInt32
 script : List UInt8
 seq : UInt32
 wit : List (List UInt8)
 deriving Inhabited
structure OutS where
 value : UInt64
 script : List UInt8
 deriving Inhabited
structure TxS where
 ver : UInt32
 ins : List InS
 outs : List OutS
 lock : UInt32
 deriving Inhabited
def inD (x : InS) : D:=.agg [.agg [hashD x.tx,.u32 x.n],bytesD x.script,.u32 x.seq,.sl none 1 (x.wit.map bytesD)]
def outD (o : OutS) : D:=.agg [.u64 o.value,bytesD o.script]
def txD (t : TxS) : D:=.agg [.u32 t.ver,.sl none 36 (t.ins.map inD),.sl none 2 (t.outs.map outD),.u32 t.lock]
def shN (x : UInt64) : Nat -> UInt64
 | 0=>x
 | i + 1=>shr_u64 (shN x i) 8
def lowI (x : UInt64) : Nat -> List UInt8
 | 0=>[]
 | i + 1=>lowI x i ++ [(shN x i).toUInt8]
theorem lowI_len (x : UInt64) (i : Nat) : (lowI x i).length = i:=by induction i with
 | zero=>rfl
 | succ i ih=>simp [lowI,ih]
def cU (n : Nat) : UInt64:=UInt64.ofInt ((n : Nat) : Int)
def countS (n : Nat) : List UInt8:=
 if cU n < 253 then lowI (cU n) 1 else if cU n <= 65535 then lowI 253 1 ++ lowI (cU n) 2 else if cU n <= 4294967295 then lowI 254 1 ++ lowI (cU n) 4 else lowI 255 1 ++ lowI (cU n) 8
theorem countS_len (n : Nat) : (countS n).length <= 9:=by
 unfold countS
 split
 · simp [lowI_len]
 · split
   · simp [lowI_len]
   · split <;> simp [lowI_len]
def itemS (b : List UInt8) : List UInt8:=countS b.length ++ b
theorem itemS_len (b : List UInt8) : (itemS b).length <= 9 + b.length:=by
 have:=countS_len b.length
 simp [itemS]; omega
def inS (x : InS) : List UInt8:=x.tx ++ lowI x.n.toUInt64 4 ++ itemS x.script ++ lowI x.seq.toUInt64 4
def outS' (o : OutS) : List UInt8:=lowI o.value 8 ++ itemS o.script
def insS (l : List InS) : Nat -> List UInt8
 | 0=>[]
 | i + 1=>insS l i ++ inS l[i]!
def outsS (l : List OutS) : Nat -> List UInt8
 | 0=>[]
 | i + 1=>outsS l i ++ outS' l[i]!
def bodyS (t : TxS) : List UInt8:=countS t.ins.length ++ insS t.ins t.ins.length ++ countS t.outs.length ++ outsS t.outs t.outs.length
def bareS (t : TxS) : List UInt8:=lowI t.ver.toUInt64 4 ++ bodyS t ++ lowI t.lock.toUInt64 4
def witS (l : List (List UInt8)) : Nat -> List UInt8
 | 0=>[]
 | i + 1=>witS l i ++ itemS l[i]!
def witsS (l : List InS) : Nat -> List UInt8
 | 0=>[]
 | i + 1=>witsS l i ++ countS l[i]!.wit.length ++ witS l[i]!.wit l[i]!.wit.length
structure TxS.wf (t : TxS) : Prop where
 ins : t.ins.length <= 1000000
 outs : t.outs.length <= 1000000
 hash : ∀ x ∈ t.ins,x.tx.length = 32
 scr : ∀ x ∈ t.ins,x.script.length <= 1000000
 oscr : ∀ x ∈ t.outs,x.script.length <= 1000000
 insb : ∀ i ≤ t.ins.length,(insS t.ins i).length <= 1500000
 outsb : ∀ i ≤ t.outs.length,(outsS t.outs i).length <= 1500000
 witsb : ∀ i ≤ t.ins.length,(witsS t.ins i).length <= 1500000
 witl : ∀ x ∈ t.ins,x.wit.length <= 1000000 /\ ∀ i ≤ x.wit.length,(witS x.wit i).length <= 1500000
 witi : ∀ x ∈ t.ins,∀ b ∈ x.wit,b.length <= 1000000
theorem get_mem {α : Type} [Inhabited α] {l : List α} {i : Nat} (h : i < l.length) : l[i]! ∈ l:=by
 rw [getElem!_pos l i h]; exact List.getElem_mem h
theorem TxS.wf.insScript {t : TxS} (h : t.wf) {i : Nat} (hi : i < t.ins.length) : t.ins[i]!.script.length <= 1000000:=h.scr _ (get_mem hi)
theorem TxS.wf.outScript {t : TxS} (h : t.wf) {i : Nat} (hi : i < t.outs.length) : t.outs[i]!.script.length <= 1000000:=h.oscr _ (get_mem hi)
theorem TxS.wf.body {t : TxS} (h : t.wf) : (bodyS t).length <= 3000018:=by
 have h1:=countS_len t.ins.length
 have h2:=countS_len t.outs.length
 have h3:=h.insb _ (Nat.le_refl _)
 have h4:=h.outsb _ (Nat.le_refl _)
 simp only [bodyS,List.length_append]
 omega
theorem TxS.wf.bareL {t : TxS} (h : t.wf) : (bareS t).length <= 4000000:=by
 have h1:=h.body
 simp only [bareS,List.length_append,lowI_len]
 omega
theorem ofInt_nat {n : Nat} (hn : n < 18446744073709551616) : (UInt64.ofInt ((n : Nat) : Int)).toNat = n:=by
 have : UInt64.ofInt ((n : Nat) : Int) = UInt64.ofNat n:=by
  unfold UInt64.ofInt
  congr 1
  omega
 rw [this]
 simp [UInt64.toNat_ofNat]
 omega
section
variable {b r r0 r1 r2 r3 r4 r5 x s u : List UInt8} {p q : UInt64} {i j n m : Nat} {l : List InS} {o : List OutS}
end
end Go.Sx

namespace Go.Sx
theorem shN_eq (x : UInt64) (i : Nat) (hi : i < 8) : shr_u64 x ((((cU (8 * i)).toNat : Nat) : Int)).toNat = shN x i:=by
 have h1 : (cU (8 * i)).toNat = 8 * i:=ofInt_nat (by omega)
 rw [h1]
 show shr_u64 x (8 * i) = shN x i
 induction i with
 | zero=>simp [shN,shr_u64]
 | succ i ih=>
  rw [shN,<- ih (by omega) (ofInt_nat (by omega))]
  apply UInt64.toNat_inj.1
  rw [shr_u64_toNat,shr_u64_toNat,shr_u64_toNat,Nat.div_div_eq_div_mul,<- Nat.pow_add]
  congr 2
  omega
theorem le_of_lt16 {x : UInt64} (h : x < 65536) : x <= 65535:=by
 rw [UInt64.lt_iff_toNat_lt] at h
 rw [UInt64.le_iff_toNat_le]
 have e1 : (65536 : UInt64).toNat = 65536:=rfl
 have e2 : (65535 : UInt64).toNat = 65535:=rfl
 omega
theorem lt_of_le16 {x : UInt64} (h : x <= 65535) : x < 65536:=by
 rw [UInt64.le_iff_toNat_le] at h
 rw [UInt64.lt_iff_toNat_lt]
 have e1 : (65536 : UInt64).toNat = 65536:=rfl
 have e2 : (65535 : UInt64).toNat = 65535:=rfl
 omega
theorem le_of_lt32 {x : UInt64} (h : x < 4294967296) : x <= 4294967295:=by
 rw [UInt64.lt_iff_toNat_lt] at h
 rw [UInt64.le_iff_toNat_le]
 have e1 : (4294967296 : UInt64).toNat = 4294967296:=rfl
 have e2 : (4294967295 : UInt64).toNat = 4294967295:=rfl
 omega
theorem lt_of_le32 {x : UInt64} (h : x <= 4294967295) : x < 4294967296:=by
 rw [UInt64.le_iff_toNat_le] at h
 rw [UInt64.lt_iff_toNat_lt]
 have e1 : (4294967296 : UInt64).toNat = 4294967296:=rfl
 have e2 : (4294967295 : UInt64).toNat = 4294967295:=rfl
 omega
end Go.Sx

namespace Go.Sx
open Go.Proofs
theorem rlow_ok (x : UInt64) (n : Nat) (hn : n <= 8) : Fn Tryd.prog gl 76 [.u64 x,.int ((n : Nat) : Int)] (.sl (some 5) 1 ((lowI x n).map D.u8)):=by
 refine Fn.of (n:=22) Tryd.func76 rfl rfl rfl (nU rfl) fun C hC hD=>?_
 refine W.seq ?_
 refine W.l0 1 [.y 4 _] [] [] [(0,_),(1,_)] [] 22 ⟨aU fun _ _ H _=>R.asg (kN O) O H,Zt⟩ O O O O (tU O ?_)
 refine W.seq ?_
 refine W.l0 1 [.y 5 _] [] [] [(0,_),(1,_),(5,_)] [] 22 ⟨aU fun _ _ H _=>R.asg (kN O) O H,Zt⟩ O O O O (tU O ?_)
 refine W.seq (W.seq ?_)
 refine W.l0 1 [.y 6 _] [] [] [(0,_),(1,_),(5,_),(6,_)] [] 22 ⟨aU fun _ _ H _=>R.asg (kI 0 O) O H,Zt⟩ O O O O (tU O ?_)
 refine W.block ?_
 refine W.asOwn (s:=5) 5 1 O ?_
 refine W.loop (α:={q__ : Nat // q__ <= n}) (fun q__=>⟨22,[(0,.u64 x),(1,.int ((n : Nat) : Int)),(5,.sl (some 5) 1 ((lowI x q__.1).map D.u8)),(6,.int ((q__.1 : Nat) : Int))],[]⟩) (fun q__=>n - q__.1) ⟨(0),bU⟩ O ?_
 rintro ⟨i,hi⟩
 show W _ _ _ _ ⟨22,[(0,.u64 x),(1,.int ((n : Nat) : Int)),(5,.sl (some 5) 1 ((lowI x i).map D.u8)),(6,.int ((i : Nat) : Int))],[]⟩
 have hi : i <= n:=hi
 have hll:=lowI_len x i
 refine W.seq (W.seq ?_)
 refine W.l0 3 [.y 7 _,.y 8 _,.y 9 _] [] [] [(0,_),(1,_),(5,_),(6,_),(9,_)] [] 22 ⟨mU 6 O O,mU 1 O O,aU fun _ _ H K=>R.lssN (i) (n) (eU K 7 O) (eU K 8 O) H,Zt⟩ O O O O (tU O ?_)
 refine W.condD O (fun hc9=>?_) (fun hc9=>?_)
 · refine W.skip (W.seq (W.block ?_))
   refine W.l0 10 [.y 12 _,.y 13 _,.y 14 _,.y 15 _,.y 16 _,.y 17 _,.y 18 _,.y 19 _,.y 20 _,.y 5 _] [(8,5),(9,20),(9,12)] [(8,5),(9,20)] [(0,_),(1,_),(5,_),(6,_)] [] 22 ⟨aU fun _ _ H K=>R.al (K 5 _ O) H dU,mU 0 O O,mU 6 O O,aU fun _ _ H K=>R.mulN (8) (i) (kI 8 O) (eU K 14 O) bU H,aU fun _ _ H K=>R.convE (d:=.u64 (cU (8 * i))) (eU K 15 O) O (O) H,aU fun _ _ H K=>R.binE (d:=.u64 (shN x i)) (eU K 13 O) (eU K 16 O) O bV (congrArg D.u64 (shN_eq x i (by omega))) H,aU fun _ _ H K=>R.conv (eU K 17 O) O H,aU fun _ _ H K=>R.bslE (z:=1) (.cons (eU K 18 O) .nil) ⟨⟨O,O,O⟩,Zt⟩ O H dU,aU fun _ _ H K=>R.appE (Or.inr (K 12 _ O)) (K 5 _ O) (SrcO.sc (SC.sl (K 19 _ O)) (pur_lit O)) (show _ = ((lowI x (i + 1)).map D.u8) from (by simp [lowI])) bU H dU dU,aU fun _ _ H K=>R.asgO (K 20 _ O) O H dU,Zt⟩ O O O O (tU O ?_)
   refine W.l0 3 [.y 10 _,.y 11 _,.y 6 _] [] [] [(0,_),(1,_),(5,_),(6,_)] [] 22 ⟨mU 6 O O,aU fun _ _ H K=>R.addN (i) (1) (eU K 10 O) (kI 1 O) bU H,aU fun _ _ H K=>R.asg (eU K 11 O) O H,Zt⟩ O O O O (tU O ?_)
   exact ⟨⟨(i + 1),bU⟩,rfl,(by simp only []; omega)⟩
 · obtain rfl : i = n:=by omega
   refine W.exit (W.seq ?_)
   refine W.l0 2 [.y 21 _,.y 4 _] [(0,5),(1,21)] [(0,5),(1,21)] [(4,_)] [] 22 ⟨aU fun _ _ H K=>R.movO (K 5 _ O) O H dU,aU fun _ _ H K=>R.asgO (K 21 _ O) O H dU,Zt⟩ O O O O (tU O ?_)
   refine W.ret ?_
   exact Ends.one' (.inr O) O (O) O O Zt
theorem rcnt_ok (n : Nat) : Fn Tryd.prog gl 98 [.int ((n : Nat) : Int)] (.sl (some 5) 1 ((countS n).map D.u8)):=by
 refine Fn.of (n:=27) Tryd.func98 rfl rfl rfl (nU rfl) fun C hC hD=>?_
 refine W.seq ?_
 refine W.l0 1 [.y 2 _] [] [] [(0,_)] [] 27 ⟨aU fun _ _ H _=>R.asg (kN O) O H,Zt⟩ O O O O (tU O ?_)
 refine W.seq ?_
 refine W.l0 3 [.y 4 _,.y 5 _,.y 3 _] [] [] [(3,_)] [] 27 ⟨mU 0 O O,aU fun _ _ H K=>R.convE (d:=.u64 (cU n)) (eU K 4 O) O (O) H,aU fun _ _ H K=>R.asg (eU K 5 O) O H,Zt⟩ O O O O (tU O ?_)
 refine W.seq (W.seq ?_)
 refine W.l0 2 [.y 6 _,.y 7 _] [] [] [(3,_),(7,_)] [] 27 ⟨mU 3 O O,aU fun _ _ H K=>R.bin (eU K 6 O) (show ev _ _ (.const (.int .u64 253)) = some (.u64 253) from O) O Zt H,Zt⟩ O O O O (tU O ?_)
 refine W.cond O (fun hc7=>?_) (fun hc7=>?_)
 · refine W.seq ?_
   refine W.l0 4 [.y 8 _,.y 9 _,.y 10 _,.y 2 _] [(3,10)] [(3,10)] [(2,_)] [] 27 ⟨mU 3 O O,aU fun _ _ H K=>R.conv (eU K 8 O) O H,aU fun _ _ H K=>R.bslE (z:=1) (.cons (eU K 9 O) .nil) ⟨⟨O,O,O⟩,Zt⟩ O H dU,aU fun _ _ H K=>R.asgO (K 10 _ O) O H dU,Zt⟩ O O O O (tU O ?_)
   refine W.ret ?_
   exact Ends.one' (.inr O) O (by rw [countS,if_pos (of_decide_eq_true hc7)]; rfl) O O Zt
 · refine W.skip (W.seq (W.seq ?_))
   refine W.l0 2 [.y 11 _,.y 12 _] [] [] [(3,_),(12,_)] [] 27 ⟨mU 3 O O,aU fun _ _ H K=>R.bin (eU K 11 O) (show ev _ _ (.const (.int .u64 65536)) = some (.u64 65536) from O) O Zt H,Zt⟩ O O O O (tU O ?_)
   refine W.cond O (fun hc12=>?_) (fun hc12=>?_)
   · refine W.seq ?_
     refine W.l0 5 [.y 13 _,.y 14 _,.y 15 _,.y 16 _,.y 2 _] [(3,13),(4,16)] [(3,13),(4,16)] [(2,_)] [] 27 ⟨aU fun _ _ H _=>R.bslE (z:=1) (.cons (show ev _ _ (.const (.int .u8 253)) = some (.u8 253) from O) .nil) ⟨⟨O,O,O⟩,Zt⟩ O H dU,mU 3 O O,aU fun _ _ H K=>R.callG hC (rlow_ok (cU n) 2 dU) (Bc (Bp (eU K 14 O) O O) (Bc (Bp (kI 2 O) O O) Bn)) (FrsR.one (.sl _ _ _ (frs_map fun _=>.u8 _))) H,aU fun _ _ H K=>R.appE (Or.inl O) (K 13 _ O) (SrcO.sc (SC.sl (K 15 _ O)) (pur_map (fun _=>rfl))) (show _ = ((lowI 253 1 ++ lowI (cU n) 2).map D.u8) from (by simp [lowI,shN])) (by simp [lowI_len]) H dU dU,aU fun _ _ H K=>R.asgO (K 16 _ O) O H dU,Zt⟩ O O O O (tU O ?_)
     refine W.ret ?_
     exact Ends.one' (.inr O) O (by rw [countS,if_neg (of_decide_eq_false hc7),if_pos (le_of_lt16 (of_decide_eq_true hc12))]) O O Zt
   · refine W.skip (W.seq (W.seq ?_))
     refine W.l0 2 [.y 17 _,.y 18 _] [] [] [(3,_),(18,_)] [] 27 ⟨mU 3 O O,aU fun _ _ H K=>R.bin (eU K 17 O) (show ev _ _ (.const (.int .u64 4294967296)) = some (.u64 4294967296) from O) O Zt H,Zt⟩ O O O O (tU O ?_)
     refine W.cond O (fun hc18=>?_) (fun hc18=>?_)
     · refine W.seq ?_
       refine W.l0 5 [.y 19 _,.y 20 _,.y 21 _,.y 22 _,.y 2 _] [(3,19),(4,22)] [(3,19),(4,22)] [(2,_)] [] 27 ⟨aU fun _ _ H _=>R.bslE (z:=1) (.cons (show ev _ _ (.const (.int .u8 254)) = some (.u8 254) from O) .nil) ⟨⟨O,O,O⟩,Zt⟩ O H dU,mU 3 O O,aU fun _ _ H K=>R.callG hC (rlow_ok (cU n) 4 dU) (Bc (Bp (eU K 20 O) O O) (Bc (Bp (kI 4 O) O O) Bn)) (FrsR.one (.sl _ _ _ (frs_map fun _=>.u8 _))) H,aU fun _ _ H K=>R.appE (Or.inl O) (K 19 _ O) (SrcO.sc (SC.sl (K 21 _ O)) (pur_map (fun _=>rfl))) (show _ = ((lowI 254 1 ++ lowI (cU n) 4).map D.u8) from (by simp [lowI,shN])) (by simp [lowI_len]) H dU dU,aU fun _ _ H K=>R.asgO (K 22 _ O) O H dU,Zt⟩ O O O O (tU O ?_)
       refine W.ret ?_
       exact Ends.one' (.inr O) O (by rw [countS,if_neg (of_decide_eq_false hc7),if_neg (fun h=>of_decide_eq_false hc12 (lt_of_le16 h)),if_pos (le_of_lt32 (of_decide_eq_true hc18))]) O O Zt
     · refine W.skip (W.seq ?_)
       refine W.l0 5 [.y 23 _,.y 24 _,.y 25 _,.y 26 _,.y 2 _] [(3,23),(4,26)] [(3,23),(4,26)] [(2,_)] [] 27 ⟨aU fun _ _ H _=>R.bslE (z:=1) (.cons (show ev _ _ (.const (.int .u8 255)) = some (.u8 255) from O) .nil) ⟨⟨O,O,O⟩,Zt⟩ O H dU,mU 3 O O,aU fun _ _ H K=>R.callG hC (rlow_ok (cU n) 8 dU) (Bc (Bp (eU K 24 O) O O) (Bc (Bp (kI 8 O) O O) Bn)) (FrsR.one (.sl _ _ _ (frs_map fun _=>.u8 _))) H,aU fun _ _ H K=>R.appE (Or.inl O) (K 23 _ O) (SrcO.sc (SC.sl (K 25 _ O)) (pur_map (fun _=>rfl))) (show _ = ((lowI 255 1 ++ lowI (cU n) 8).map D.u8) from (by simp [lowI,shN])) (by simp [lowI_len]) H dU dU,aU fun _ _ H K=>R.asgO (K 26 _ O) O H dU,Zt⟩ O O O O (tU O ?_)
       refine W.ret ?_
       exact Ends.one' (.inr O) O (by rw [countS,if_neg (of_decide_eq_false hc7),if_neg (fun h=>of_decide_eq_false hc12 (lt_of_le16 h)),if_neg (fun h=>of_decide_eq_false hc18 (lt_of_le32 h))]) O O Zt
theorem ritm_ok (x : List UInt8) (hx : x.length <= 1000000) : Fn Tryd.prog gl 100 [.sl none 1 (x.map D.u8)] (.sl (some 5) 1 ((itemS x).map D.u8)):=by
 refine Fn.of (n:=8) Tryd.func100 rfl rfl rfl (nU rfl) fun C hC hD=>?_
 have hcl:=countS_len x.length
 refine W.seq ?_
 refine W.l0 1 [.y 2 _] [] [] [(0,_)] [] 8 ⟨aU fun _ _ H _=>R.asg (kN O) O H,Zt⟩ O O O O (tU O ?_)
 refine W.seq ?_
 refine W.l0 6 [.y 3 _,.y 4 _,.y 5 _,.y 6 _,.y 7 _,.y 2 _] [(4,5),(5,7)] [(4,5),(5,7)] [(2,_)] [] 8 ⟨mU 0 O O,aU fun _ _ H K=>R.lenE (SC.sl (K 3 _ O)) (lN _) H,aU fun _ _ H K=>R.callG hC (rcnt_ok x.length) (Bc (Bp (eU K 4 O) O O) Bn) (FrsR.one (.sl _ _ _ (frs_map fun _=>.u8 _))) H,mU 0 O O,aU fun _ _ H K=>R.appE (Or.inl O) (K 5 _ O) (SrcO.sc (SC.sl (K 6 _ O)) (pur_map (fun _=>rfl))) (show _ = ((itemS x).map D.u8) from (by simp [itemS])) bU H dU dU,aU fun _ _ H K=>R.asgO (K 7 _ O) O H dU,Zt⟩ O O O O (tU O ?_)
 refine W.ret ?_
 exact Ends.one' (.inr O) O (O) O O Zt
theorem rinput_ok (x : InS) (hh : x.tx.length = 32) (hx : x.script.length <= 1000000) : Fn Tryd.prog gl 99 [inD x] (.sl (some 5) 1 ((inS x).map D.u8)):=by
 refine Fn.of (n:=27) Tryd.func99 rfl rfl rfl (nU rfl) fun C hC hD=>?_
 have hil:=itemS_len x.script
 refine W.seq ?_
 refine W.l0 2 [] [] [] [(0,_)] [] 27 Zt O O O O (⟨O,_,R.box (gV 0 O) O O (nU O),⟨O,_,R.asg (kN O) O (nU O),tV [(1,_)] [(1,.var _)] 27 O O O ?_⟩⟩)
 refine W.seq ?_
 refine W.l0 6 [.y 4 _,.y 5 _,.y 6 _,.y 7 _,.y 8 _,.y 3 _] [(4,4),(5,8)] [(4,4),(5,8)] [(1,_),(3,_)] [(1,.var _)] 27 ⟨aU fun _ _ H _=>R.bslE .nil Zt O H dU,aU (fU 1 O O),aU (fU 5 O O),aU fun _ B H K=>R.slAN (0) (32) (32) (K 6 _ O) (B 1 _ O) O O O O O bU bU O H,aU fun _ B H K=>R.appE (Or.inl O) (K 4 _ O) (SrcO.sc (SC.va (K 7 _ O) (B 1 _ O) O bU) (pur_part (fun _=>rfl))) (show _ = (x.tx.map D.u8) from (by rw [List.drop_zero,List.take_of_length_le (by rw [List.length_map,hh]; exact Nat.le_refl _)]; simp)) bU H dU dU,aU fun _ _ H K=>R.asgO (K 8 _ O) O H dU,Zt⟩ O O O O (tU O ?_)
 refine W.seq ?_
 refine W.l0 8 [.y 9 _,.y 10 _,.y 11 _,.y 12 _,.y 13 _,.y 14 _,.y 15 _,.y 3 _] [(6,3),(7,15),(7,9)] [(6,3),(7,15)] [(1,_),(3,_)] [(1,.var _)] 27 ⟨aU fun _ _ H K=>R.al (K 3 _ O) H dU,aU (fU 1 O O),aU (fU 10 O O),aU (lU 11 O O O O O O O),aU fun _ _ H K=>R.conv (eU K 12 O) O H,aU fun _ _ H K=>R.callG hC (rlow_ok x.n.toUInt64 4 dU) (Bc (Bp (eU K 13 O) O O) (Bc (Bp (kI 4 O) O O) Bn)) (FrsR.one (.sl _ _ _ (frs_map fun _=>.u8 _))) H,aU fun _ _ H K=>R.appE (Or.inr (K 9 _ O)) (K 3 _ O) (SrcO.sc (SC.sl (K 14 _ O)) (pur_map (fun _=>rfl))) (show _ = (((x.tx ++ lowI x.n.toUInt64 4)).map D.u8) from (by simp)) (by simp only [List.length_map,List.length_append,lowI_len,List.length_cons,List.length_nil]; omega) H dU dU,aU fun _ _ H K=>R.asgO (K 15 _ O) O H dU,Zt⟩ O O O O (tU O ?_)
 refine W.seq ?_
 refine W.l0 6 [.y 16 _,.y 17 _,.y 18 _,.y 19 _,.y 20 _,.y 3 _] [(4,3),(5,20),(5,16)] [(4,3),(5,20)] [(1,_),(3,_)] [(1,.var _)] 27 ⟨aU fun _ _ H K=>R.al (K 3 _ O) H dU,aU (fU 1 O O),aU (lU 17 O O O O O O O),aU fun _ _ H K=>R.callG hC (ritm_ok x.script (hx)) (Bc (Bp (eU K 18 O) O O) Bn) (FrsR.one (.sl _ _ _ (frs_map fun _=>.u8 _))) H,aU fun _ _ H K=>R.appE (Or.inr (K 16 _ O)) (K 3 _ O) (SrcO.sc (SC.sl (K 19 _ O)) (pur_map (fun _=>rfl))) (show _ = ((((x.tx ++ lowI x.n.toUInt64 4) ++ itemS x.script)).map D.u8) from (by simp)) (by simp only [List.length_map,List.length_append,lowI_len,List.length_cons,List.length_nil]; omega) H dU dU,aU fun _ _ H K=>R.asgO (K 20 _ O) O H dU,Zt⟩ O O O O (tU O ?_)
 refine W.seq ?_
 refine W.l0 7 [.y 21 _,.y 22 _,.y 23 _,.y 24 _,.y 25 _,.y 26 _,.y 2 _] [(5,3),(6,26)] [(5,3),(6,26)] [(2,_)] [(1,.var _)] 27 ⟨aU fun _ _ H K=>R.al (K 3 _ O) H dU,aU (fU 1 O O),aU (lU 22 O O O O O O O),aU fun _ _ H K=>R.conv (eU K 23 O) O H,aU fun _ _ H K=>R.callG hC (rlow_ok x.seq.toUInt64 4 dU) (Bc (Bp (eU K 24 O) O O) (Bc (Bp (kI 4 O) O O) Bn)) (FrsR.one (.sl _ _ _ (frs_map fun _=>.u8 _))) H,aU fun _ _ H K=>R.appE (Or.inr (K 21 _ O)) (K 3 _ O) (SrcO.sc (SC.sl (K 25 _ O)) (pur_map (fun _=>rfl))) (show _ = ((((x.tx ++ lowI x.n.toUInt64 4) ++ itemS x.script) ++ lowI x.seq.toUInt64 4).map D.u8) from (by simp)) (by simp only [List.length_map,List.length_append,lowI_len,List.length_cons,List.length_nil]; omega) H dU dU,aU fun _ _ H K=>R.asgO (K 26 _ O) O H dU,Zt⟩ O O O O (tU O ?_)
 refine W.ret ?_
 exact Ends.one' (.inr O) O (by simp only [inS]) O O Zt
theorem rbdy_ok (t : TxS) (hwf : t.wf) : Fn Tryd.prog gl 77 [txD t] (.sl (some 5) 1 ((bodyS t).map D.u8)):=by
 refine Fn.of (n:=57) Tryd.func77 rfl rfl rfl (nU rfl) fun C hC hD=>?_
 have hc1:=countS_len t.ins.length
 have hc2:=countS_len t.outs.length
 have h1:=hwf.ins
 have h2:=hwf.outs
 have h3:=hwf.insb _ (Nat.le_refl _)
 have h4:=hwf.outsb _ (Nat.le_refl _)
 refine W.seq ?_
 refine W.l0 2 [] [] [] [(0,_)] [] 57 Zt O O O O (⟨O,_,R.box (gV 0 O) O O (nU O),⟨O,_,R.asg (kN O) O (nU O),tV [(1,_)] [(1,.var _)] 57 O O O ?_⟩⟩)
 refine W.seq ?_
 refine W.l0 5 [.y 6 _,.y 7 _,.y 8 _,.y 9 _,.y 3 _] [(4,9)] [(4,9)] [(1,_),(3,_)] [(1,.var _)] 57 ⟨aU (fU 1 O O),aU (lU 6 O O O O O O O),aU fun _ _ H K=>R.lenE (SC.sl (K 7 _ O)) (lN _) H,aU fun _ _ H K=>R.callG hC (rcnt_ok t.ins.length) (Bc (Bp (eU K 8 O) O O) Bn) (FrsR.one (.sl _ _ _ (frs_map fun _=>.u8 _))) H,aU fun _ _ H K=>R.asgO (K 9 _ O) O H dU,Zt⟩ O O O O (tU O ?_)
 refine W.seq (W.seq ?_)
 refine W.l0 1 [.y 4 _] [] [] [(1,_),(3,_),(4,_)] [(1,.var _)] 57 ⟨aU fun _ _ H _=>R.asg (kI 0 O) O H,Zt⟩ O O O O (tU O ?_)
 refine W.block ?_
 refine W.loop (α:={q__ : Nat // q__ <= t.ins.length}) (fun q__=>⟨57,[(1,.ptr 1 0 []),(3,.sl (some 5) 1 ((countS t.ins.length ++ insS t.ins q__.1).map D.u8)),(4,.int ((q__.1 : Nat) : Int))],[(1,.var (.agg [.u32 t.ver,.sl none 36 (t.ins.map inD),.sl none 2 (t.outs.map outD),.u32 t.lock]))]⟩) (fun q__=>t.ins.length - q__.1) ⟨(0),bU⟩ (by simp only [insS,List.append_nil]; rfl) ?_
 rintro ⟨i,hi⟩
 show W _ _ _ _ ⟨57,[(1,.ptr 1 0 []),(3,.sl (some 5) 1 ((countS t.ins.length ++ insS t.ins i).map D.u8)),(4,.int ((i : Nat) : Int))],[(1,.var (.agg [.u32 t.ver,.sl none 36 (t.ins.map inD),.sl none 2 (t.outs.map outD),.u32 t.lock]))]⟩
 have hi : i <= t.ins.length:=hi
 have hib:=hwf.insb i hi
 have hib1 : i < t.ins.length -> (insS t.ins (i + 1)).length <= 1500000:=fun h=>hwf.insb (i + 1) h
 have hx : i < t.ins.length -> t.ins[i]!.tx.length = 32 /\ t.ins[i]!.script.length <= 1000000:=fun h=>⟨hwf.hash _ (get_mem h),hwf.insScript h⟩
 have hiS : (insS t.ins (i + 1)).length = (insS t.ins i).length + (inS t.ins[i]!).length:=by simp [insS]
 refine W.seq (W.seq ?_)
 refine W.l0 5 [.y 10 _,.y 11 _,.y 12 _,.y 13 _,.y 14 _] [] [] [(1,_),(3,_),(4,_),(14,_)] [(1,.var _)] 57 ⟨mU 4 O O,aU (fU 1 O O),aU (lU 11 O O O O O O O),aU fun _ _ H K=>R.lenE (SC.sl (K 12 _ O)) (lN _) H,aU fun _ _ H K=>R.lssN (i) (t.ins.length) (eU K 10 O) (eU K 13 O) H,Zt⟩ O O O O (tU O ?_)
 refine W.condD O (fun hc14=>?_) (fun hc14=>?_)
 · refine W.skip (W.seq (W.block ?_))
   refine W.l0 9 [.y 17 _,.y 18 _,.y 19 _,.y 20 _,.y 21 _,.y 22 _,.y 23 _,.y 24 _,.y 3 _] [(7,3),(8,24),(8,17)] [(7,3),(8,24)] [(1,_),(3,_),(4,_)] [(1,.var _)] 57 ⟨aU fun _ _ H K=>R.al (K 3 _ O) H dU,aU (fU 1 O O),aU (lU 18 O O O O O O O),mU 4 O O,aU fun _ _ H K=>R.idxN (i) (SC.sl (K 19 _ O)) (evoI (eU K 20 O)) O bU H dU,aU fun _ _ H K=>R.ldE (K 21 _ O) (SC.sl (K 19 _ O)) (map_get! (l:=t.ins) bU) O O O O H,aU fun _ _ H K=>R.callG hC (rinput_ok t.ins[i]! ((hx (by omega)).1) ((hx (by omega)).2)) (Bc (Bp (eU K 22 O) O O) Bn) (FrsR.one (.sl _ _ _ (frs_map fun _=>.u8 _))) H,aU fun _ _ H K=>R.appE (Or.inr (K 17 _ O)) (K 3 _ O) (SrcO.sc (SC.sl (K 23 _ O)) (pur_map (fun _=>rfl))) (show _ = ((countS t.ins.length ++ insS t.ins (i + 1)).map D.u8) from (by simp [insS,outsS,outS',List.append_assoc])) (by simp only [List.length_map,List.length_append,lowI_len,List.length_cons,List.length_nil]; omega) H dU dU,aU fun _ _ H K=>R.asgO (K 24 _ O) O H dU,Zt⟩ O O O O (tU O ?_)
   refine W.l0 3 [.y 15 _,.y 16 _,.y 4 _] [] [] [(1,_),(3,_),(4,_)] [(1,.var _)] 57 ⟨mU 4 O O,aU fun _ _ H K=>R.addN (i) (1) (eU K 15 O) (kI 1 O) bU H,aU fun _ _ H K=>R.asg (eU K 16 O) O H,Zt⟩ O O O O (tU O ?_)
   exact ⟨⟨(i + 1),bU⟩,rfl,(by simp only []; omega)⟩
 · obtain rfl : i = t.ins.length:=by omega
   refine W.exit (W.seq ?_)
   refine W.l0 7 [.y 25 _,.y 26 _,.y 27 _,.y 28 _,.y 29 _,.y 30 _,.y 3 _] [(5,3),(6,30),(6,25)] [(5,3),(6,30)] [(1,_),(3,_)] [(1,.var _)] 57 ⟨aU fun _ _ H K=>R.al (K 3 _ O) H dU,aU (fU 1 O O),aU (lU 26 O O O O O O O),aU fun _ _ H K=>R.lenE (SC.sl (K 27 _ O)) (lN _) H,aU fun _ _ H K=>R.callG hC (rcnt_ok t.outs.length) (Bc (Bp (eU K 28 O) O O) Bn) (FrsR.one (.sl _ _ _ (frs_map fun _=>.u8 _))) H,aU fun _ _ H K=>R.appE (Or.inr (K 25 _ O)) (K 3 _ O) (SrcO.sc (SC.sl (K 29 _ O)) (pur_map (fun _=>rfl))) (show _ = (((countS t.ins.length ++ insS t.ins t.ins.length) ++ countS t.outs.length).map D.u8) from (by simp)) (by simp only [List.length_map,List.length_append,lowI_len,List.length_cons,List.length_nil]; omega) H dU dU,aU fun _ _ H K=>R.asgO (K 30 _ O) O H dU,Zt⟩ O O O O (tU O ?_)
   refine W.seq (W.seq ?_)
   refine W.l0 1 [.y 5 _] [] [] [(1,_),(3,_),(5,_)] [(1,.var _)] 57 ⟨aU fun _ _ H _=>R.asg (kI 0 O) O H,Zt⟩ O O O O (tU O ?_)
   refine W.block ?_
   refine W.loop (α:={q__ : Nat // q__ <= t.outs.length}) (fun q__=>⟨57,[(1,.ptr 1 0 []),(3,.sl (some 5) 1 (((countS t.ins.length ++ insS t.ins t.ins.length) ++ countS t.outs.length ++ outsS t.outs q__.1).map D.u8)),(5,.int ((q__.1 : Nat) : Int))],[(1,.var (.agg [.u32 t.ver,.sl none 36 (t.ins.map inD),.sl none 2 (t.outs.map outD),.u32 t.lock]))]⟩) (fun q__=>t.outs.length - q__.1) ⟨(0),bU⟩ (by simp only [outsS,List.append_nil]) ?_
   rintro ⟨i,hi⟩
   show W _ _ _ _ ⟨57,[(1,.ptr 1 0 []),(3,.sl (some 5) 1 (((countS t.ins.length ++ insS t.ins t.ins.length) ++ countS t.outs.length ++ outsS t.outs i).map D.u8)),(5,.int ((i : Nat) : Int))],[(1,.var (.agg [.u32 t.ver,.sl none 36 (t.ins.map inD),.sl none 2 (t.outs.map outD),.u32 t.lock]))]⟩
   have hi : i <= t.outs.length:=hi
   have hib:=hwf.outsb i hi
   have hib1 : i < t.outs.length -> (outsS t.outs (i + 1)).length <= 1500000:=fun h=>hwf.outsb (i + 1) h
   have hx : i < t.outs.length -> t.outs[i]!.script.length <= 1000000:=fun h=>hwf.outScript h
   have hiS : (outsS t.outs (i + 1)).length = (outsS t.outs i).length + (8 + (itemS t.outs[i]!.script).length):=by simp [outsS,outS',lowI_len]
   refine W.seq (W.seq ?_)
   refine W.l0 5 [.y 31 _,.y 32 _,.y 33 _,.y 34 _,.y 35 _] [] [] [(1,_),(3,_),(5,_),(35,_)] [(1,.var _)] 57 ⟨mU 5 O O,aU (fU 1 O O),aU (lU 32 O O O O O O O),aU fun _ _ H K=>R.lenE (SC.sl (K 33 _ O)) (lN _) H,aU fun _ _ H K=>R.lssN (i) (t.outs.length) (eU K 31 O) (eU K 34 O) H,Zt⟩ O O O O (tU O ?_)
   refine W.condD O (fun hc35=>?_) (fun hc35=>?_)
   · refine W.skip (W.seq (W.block (W.seq ?_)))
     refine W.l0 10 [.y 38 _,.y 39 _,.y 40 _,.y 41 _,.y 42 _,.y 43 _,.y 44 _,.y 45 _,.y 46 _,.y 3 _] [(8,3),(9,46),(9,38)] [(8,3),(9,46)] [(1,_),(3,_),(5,_)] [(1,.var _)] 57 ⟨aU fun _ _ H K=>R.al (K 3 _ O) H dU,aU (fU 1 O O),aU (lU 39 O O O O O O O),mU 5 O O,aU fun _ _ H K=>R.idxN (i) (SC.sl (K 40 _ O)) (evoI (eU K 41 O)) O bU H dU,aU fun _ _ H K=>R.fdE (K 42 _ O) H dU,aU fun _ _ H K=>R.ldE (K 43 _ O) (SC.sl (K 40 _ O)) (map_get! (l:=t.outs) bU) O O O O H,aU fun _ _ H K=>R.callG hC (rlow_ok t.outs[i]!.value 8 dU) (Bc (Bp (eU K 44 O) O O) (Bc (Bp (kI 8 O) O O) Bn)) (FrsR.one (.sl _ _ _ (frs_map fun _=>.u8 _))) H,aU fun _ _ H K=>R.appE (Or.inr (K 38 _ O)) (K 3 _ O) (SrcO.sc (SC.sl (K 45 _ O)) (pur_map (fun _=>rfl))) (show _ = ((((countS t.ins.length ++ insS t.ins t.ins.length) ++ countS t.outs.length ++ outsS t.outs i) ++ lowI t.outs[i]!.value 8).map D.u8) from (by simp)) (by simp only [List.length_map,List.length_append,lowI_len,List.length_cons,List.length_nil]; omega) H dU dU,aU fun _ _ H K=>R.asgO (K 46 _ O) O H dU,Zt⟩ O O O O (tU O ?_)
     refine W.l0 10 [.y 47 _,.y 48 _,.y 49 _,.y 50 _,.y 51 _,.y 52 _,.y 53 _,.y 54 _,.y 55 _,.y 3 _] [(8,3),(9,55),(9,47)] [(8,3),(9,55)] [(1,_),(3,_),(5,_)] [(1,.var _)] 57 ⟨aU fun _ _ H K=>R.al (K 3 _ O) H dU,aU (fU 1 O O),aU (lU 48 O O O O O O O),mU 5 O O,aU fun _ _ H K=>R.idxN (i) (SC.sl (K 49 _ O)) (evoI (eU K 50 O)) O bU H dU,aU fun _ _ H K=>R.fdE (K 51 _ O) H dU,aU fun _ _ H K=>R.ldE (K 52 _ O) (SC.sl (K 49 _ O)) (map_get! (l:=t.outs) bU) O O O O H,aU fun _ _ H K=>R.callG hC (ritm_ok t.outs[i]!.script (hx (by omega))) (Bc (Bp (eU K 53 O) O O) Bn) (FrsR.one (.sl _ _ _ (frs_map fun _=>.u8 _))) H,aU fun _ _ H K=>R.appE (Or.inr (K 47 _ O)) (K 3 _ O) (SrcO.sc (SC.sl (K 54 _ O)) (pur_map (fun _=>rfl))) (show _ = (((countS t.ins.length ++ insS t.ins t.ins.length) ++ countS t.outs.length ++ outsS t.outs (i + 1)).map D.u8) from (by simp [insS,outsS,outS',List.append_assoc])) (by simp only [List.length_map,List.length_append,lowI_len,List.length_cons,List.length_nil]; omega) H dU dU,aU fun _ _ H K=>R.asgO (K 55 _ O) O H dU,Zt⟩ O O O O (tU O ?_)
     refine W.l0 3 [.y 36 _,.y 37 _,.y 5 _] [] [] [(1,_),(3,_),(5,_)] [(1,.var _)] 57 ⟨mU 5 O O,aU fun _ _ H K=>R.addN (i) (1) (eU K 36 O) (kI 1 O) bU H,aU fun _ _ H K=>R.asg (eU K 37 O) O H,Zt⟩ O O O O (tU O ?_)
     exact ⟨⟨(i + 1),bU⟩,rfl,(by simp only []; omega)⟩
   · obtain rfl : i = t.outs.length:=by omega
     refine W.exit (W.seq ?_)
     refine W.l0 2 [.y 56 _,.y 2 _] [(0,3),(1,56)] [(0,3),(1,56)] [(2,_)] [(1,.var _)] 57 ⟨aU fun _ _ H K=>R.movO (K 3 _ O) O H dU,aU fun _ _ H K=>R.asgO (K 56 _ O) O H dU,Zt⟩ O O O O (tU O ?_)
     refine W.ret ?_
     exact Ends.one' (.inr O) O (by simp only [bodyS]) O O Zt
theorem rbare_ok (t : TxS) (hwf : t.wf) : Fn Tryd.prog gl 57 [txD t] (.sl (some 5) 1 ((bareS t).map D.u8)):=by
 refine Fn.of (n:=17) Tryd.func57 rfl rfl rfl (nU rfl) fun C hC hD=>?_
 have hbl:=hwf.body
 refine W.seq ?_
 refine W.l0 2 [] [] [] [(0,_)] [] 17 Zt O O O O (⟨O,_,R.box (gV 0 O) O O (nU O),⟨O,_,R.asg (kN O) O (nU O),tV [(1,_)] [(1,.var _)] 17 O O O ?_⟩⟩)
 refine W.seq ?_
 refine W.draw (m:=8) (an:=[0,1,3,7,0,31,63,127]) hP dU O (its:=[.y 4 _,.y 5 _,.y 6 _,.y 7 _,.y 8 _,.y 9 _,.y 10 _,.y 3 _]) (ks:=[(6,7),(7,10)]) (kk:=[(6,7),(7,10)]) (live:=[1,3]) (env':=[(1,_),(3,_)]) (⟨nU O,O,⟨aU (fU 1 O O),aU (lU 4 O O O O O O O),aU fun _ _ H K=>R.conv (eU K 5 O) O H,aU fun _ _ H K=>R.callG hC (rlow_ok t.ver.toUInt64 4 dU) (Bc (Bp (eU K 6 O) O O) (Bc (Bp (kI 4 O) O O) Bn)) (FrsR.one (.sl _ _ _ (frs_map fun _=>.u8 _))) H,aU (lU 1 O O O O O O O),aU fun _ _ H K=>R.callG hC (rbdy_ok t hwf) (Bc (Bp (eU K 8 O) O O) Bn) (FrsR.one (.sl _ _ _ (frs_map fun _=>.u8 _))) H,aU fun _ _ H K=>R.appE (Or.inl O) (K 7 _ O) (SrcO.sc (SC.sl (K 9 _ O)) (pur_map (fun _=>rfl))) (show _ = ((lowI t.ver.toUInt64 4 ++ bodyS t).map D.u8) from (by simp)) (by simp only [List.length_map,List.length_append,lowI_len,List.length_cons,List.length_nil]; omega) H dU dU,aU fun _ _ H K=>R.asgO (K 10 _ O) O H dU,Zt⟩,O,O,O⟩) O (bx':=[(1,.var _)]) O (n':=17) O (tV [(1,_),(3,_)] [(1,.var _)] 17 O O O ?_)
 refine W.seq ?_
 refine W.l0 7 [.y 11 _,.y 12 _,.y 13 _,.y 14 _,.y 15 _,.y 16 _,.y 2 _] [(5,3),(6,16)] [(5,3),(6,16)] [(2,_)] [(1,.var _)] 17 ⟨aU fun _ _ H K=>R.al (K 3 _ O) H dU,aU (fU 1 O O),aU (lU 12 O O O O O O O),aU fun _ _ H K=>R.conv (eU K 13 O) O H,aU fun _ _ H K=>R.callG hC (rlow_ok t.lock.toUInt64 4 dU) (Bc (Bp (eU K 14 O) O O) (Bc (Bp (kI 4 O) O O) Bn)) (FrsR.one (.sl _ _ _ (frs_map fun _=>.u8 _))) H,aU fun _ _ H K=>R.appE (Or.inr (K 11 _ O)) (K 3 _ O) (SrcO.sc (SC.sl (K 15 _ O)) (pur_map (fun _=>rfl))) (show _ = ((bareS t).map D.u8) from (by simp [bareS])) (by simp only [List.length_map,List.length_append,lowI_len,List.length_cons,List.length_nil]; omega) H dU dU,aU fun _ _ H K=>R.asgO (K 16 _ O) O H dU,Zt⟩ O O O O (tU O ?_)
 refine W.ret ?_
 exact Ends.one' (.inr O) O (O) O O Zt
end Go.Sx

namespace Go.Sx
def easyH : HdS:=⟨1,zero32,zero32,1000,545259519,0⟩
def lim : UInt32:=545259519
def prtS (x : Bg) (n m : UInt64) (most : Bg) : Bg:=
 if bMulO (divQ x [m,0,0,0]) n ≠ 0 then most
 else if bOvr (bMul (divQ x [m,0,0,0]) n) (divQ (bMul (divR x [m,0,0,0]) n) [m,0,0,0]) = true ∨ lessS most (bAdd (bMul (divQ x [m,0,0,0]) n) (divQ (bMul (divR x [m,0,0,0]) n) [m,0,0,0])) = true then most
 else bAdd (bMul (divQ x [m,0,0,0]) n) (divQ (bMul (divR x [m,0,0,0]) n) [m,0,0,0])
def spanZ (l : List HdS) : Int:=min (max (((l[l.length - 1]!.time.toNat : Nat) : Int) - ((l[l.length - 10]!.time.toNat : Nat) : Int)) 25) 400
def newT (l : List HdS) : Bg:=prtS (ofB l[l.length - 1]!.bits) (UInt64.ofInt (spanZ l)) 100 (ofB lim)
def bitsP (l : List HdS) : UInt32:=
 if l.length = 0 then 0 else if l.length % 10 ≠ 0 then l[l.length - 1]!.bits else compS (if newT l = zeroB then [1,0,0,0] else newT l)
theorem bitsP_0 {l : List HdS} (h : l.length = 0) : bitsP l = 0:=by unfold bitsP; exact if_pos h
theorem bitsP_1 {l : List HdS} (h : ¬ l.length = 0) (h1 : l.length % 10 ≠ 0) : bitsP l = l[l.length - 1]!.bits:=by
 unfold bitsP
 rw [if_neg h,if_pos h1]
theorem bitsP_2 {l : List HdS} (h : ¬ l.length = 0) (h1 : ¬ l.length % 10 ≠ 0) (hz : newT l = zeroB) : bitsP l = compS [1,0,0,0]:=by
 unfold bitsP
 rw [if_neg h,if_neg h1,if_pos hz]
theorem bitsP_3 {l : List HdS} (h : ¬ l.length = 0) (h1 : ¬ l.length % 10 ≠ 0) (hz : ¬ newT l = zeroB) : bitsP l = compS (newT l):=by
 unfold bitsP
 rw [if_neg h,if_neg h1,if_neg hz]
theorem prtS_len {x most : Bg} {n m : UInt64} (h : most.length = 4) : (prtS x n m most).length = 4:=by
 unfold prtS
 split
 · exact h
 · split
   · exact h
   · exact bAdd_len _ _
theorem newT_len (l : List HdS) : (newT l).length = 4:=by unfold newT; exact prtS_len (ofB_len _)
def shf (x : UInt32) : List UInt32 -> Nat -> List UInt32
 | ts,0=>ts.set 0 x
 | ts,k + 1=>if x < ts[k]! then shf x (ts.set (k + 1) ts[k]!) k else ts.set (k + 1) x
def insT (ts : List UInt32) (x : UInt32) : List UInt32:=shf x (ts ++ [x]) ts.length
def medI (l : List HdS) : Nat -> List UInt32
 | 0=>[]
 | j + 1=>insT (medI l j) l[l.length - 11 + j]!.time
def medS (l : List HdS) : UInt32:=if l.length = 0 then 0 else (medI l (min l.length 11))[min l.length 11 / 2]!
theorem shf_len (x : UInt32) (k : Nat) : ∀ ts : List UInt32,(shf x ts k).length = ts.length:=by
 induction k with
 | zero=>intro ts; simp [shf]
 | succ k ih=>intro ts; simp only [shf]; split <;> simp [ih]
theorem insT_len (ts : List UInt32) (x : UInt32) : (insT ts x).length = ts.length + 1:=by simp [insT,shf_len]
theorem medI_len (l : List HdS) (j : Nat) : (medI l j).length = j:=by
 induction j with
 | zero=>rfl
 | succ j ih=>simp only [medI,insT_len,ih]
theorem shf_t {x : UInt32} {ts : List UInt32} {k : Nat} (h0 : 0 < k) (h : x < ts[k - 1]!) : shf x ts k = shf x (ts.set k ts[k - 1]!) (k - 1):=by
 obtain ⟨j,rfl⟩ : ∃ j,k = j + 1:=⟨k - 1,by omega⟩
 rw [shf]
 exact if_pos h
theorem shf_f {x : UInt32} {ts : List UInt32} {k : Nat} (h : 0 < k -> ¬ x < ts[k - 1]!) : shf x ts k = ts.set k x:=by
 cases k with
 | zero=>rw [shf]
 | succ j=>
  rw [shf]
  exact if_neg (h (by omega))
def mineF (h : HdS) (t : Bg) : Nat -> HdS × Bool
 | 0=>(h,false)
 | k + 1=>if meetS (hridS { h with nonce:=UInt32.ofNat (199 - k) }) t = true then ({ h with nonce:=UInt32.ofNat (199 - k) },true) else mineF { h with nonce:=UInt32.ofNat (199 - k) } t k
def head0 (l : List HdS) (time : UInt32) (root : Hs) : HdS:=⟨1,hridS l[l.length - 1]!,root,time,bitsP l,0⟩
def mineS (l : List HdS) (time : UInt32) (root : Hs) : HdS × Bool:=
 match ofS (bitsP l) with
 | none=>(head0 l time root,false)
 | some t=>mineF (head0 l time root) t 200
theorem hridS_len (h : HdS) : (hridS h).length = 32:=by unfold hridS; exact twiceR_len _
theorem wfI {v t b n : UInt32} {p r : Hs} (hp : p.length = 32) (hr : r.length = 32) : HdS.wf ⟨v,p,r,t,b,n⟩:=⟨hp,hr⟩
theorem mineF_wf (t : Bg) (k : Nat) : ∀ h : HdS,h.wf -> (mineF h t k).1.wf:=by
 induction k with
 | zero=>intro h hw; exact hw
 | succ k ih=>
  intro h hw
  rw [mineF]
  split
  · exact wfI hw.1 hw.2
  · exact ih _ (wfI hw.1 hw.2)
theorem head0_wf (l : List HdS) (time : UInt32) (root : Hs) (hr : root.length = 32) : (head0 l time root).wf:=by
 unfold head0
 exact wfI (hridS_len _) hr
theorem mineS_none {l : List HdS} {time : UInt32} {root : Hs} (h : ofS (bitsP l) = none) : mineS l time root = (head0 l time root,false):=by
 unfold mineS
 rw [h]
theorem mineS_some {l : List HdS} {time : UInt32} {root : Hs} {t : Bg} (h : ofS (bitsP l) = some t) : mineS l time root = mineF (head0 l time root) t 200:=by
 unfold mineS
 rw [h]
theorem mineS_wf (l : List HdS) (time : UInt32) (root : Hs) (hr : root.length = 32) : (mineS l time root).1.wf:=by
 cases h : ofS (bitsP l) with
 | none=>rw [mineS_none h]; exact head0_wf l time root hr
 | some t=>rw [mineS_some h]; exact mineF_wf t _ _ (head0_wf l time root hr)
end Go.Sx

namespace Go.Sx
abbrev Plc:=Hs × UInt32
def placeK (p : Plc) : D:=.agg [hashD p.1,.u32 p.2]
def plc (x : InS) : Plc:=(x.tx,x.n)
def mintS (t : TxS) : Bool:=decide (t.ins.length = 1) && (plc t.ins[0]! == (List.replicate 32 0,4294967295))
@[irreducible] def ridS (t : TxS) : Hs:=twiceR (bareS t)
theorem ridS_len (t : TxS) : (ridS t).length = 32:=by unfold ridS; exact twiceR_len _
structure BlkS where
 hd : HdS
 txs : List TxS
 deriving Inhabited
def blkD (b : BlkS) : D:=.agg [hdrD b.hd,.sl none 4 (b.txs.map txD)]
structure StS where
 h : Nat
 at_ : Nat
 id : Hs
 t : TxS
 deriving Inhabited
def stsD (s : StS) : D:=.agg [natD s.h,natD s.at_,hashD s.id,txD s.t]
structure BlkS.wf (b : BlkS) : Prop where
 hd : b.hd.wf
 txs : ∀ t ∈ b.txs,t.wf
 sm : ∀ t ∈ b.txs,t.ins.length <= 1000 /\ t.outs.length <= 1000
 len : b.txs.length <= 1000
def allBl (l : List BlkS) : Prop:=l.length <= 100 /\ ∀ b ∈ l,b.wf
theorem allBl.get {l : List BlkS} (h : allBl l) {i : Nat} (hi : i < l.length) : l[i]!.wf:=by rw [getElem!_pos l i hi]; exact h.2 _ (List.getElem_mem hi)
theorem BlkS.wf.small {b : BlkS} (h : b.wf) {i : Nat} (hi : i < b.txs.length) : b.txs[i]!.ins.length <= 1000 /\ b.txs[i]!.outs.length <= 1000:=by rw [getElem!_pos b.txs i hi]; exact h.sm _ (List.getElem_mem hi)
theorem BlkS.wf.get {b : BlkS} (h : b.wf) {i : Nat} (hi : i < b.txs.length) : b.txs[i]!.wf:=by rw [getElem!_pos b.txs i hi]; exact h.txs _ (List.getElem_mem hi)
def allJ (b : BlkS) (h : Nat) : Nat -> List StS
 | 0=>[]
 | i + 1=>allJ b h i ++ [⟨h,i,ridS b.txs[i]!,b.txs[i]!⟩]
def allI (l : List BlkS) : Nat -> List StS
 | 0=>[]
 | h + 1=>allI l h ++ allJ l[h]! h l[h]!.txs.length
def allS (l : List BlkS) : List StS:=allI l l.length
theorem allI_succ (l : List BlkS) (h : Nat) : allI l (h + 1) = allI l h ++ allJ l[h]! h l[h]!.txs.length:=by rw [allI]
theorem all_app (p : List StS) (b : BlkS) (h i : Nat) : (p ++ allJ b h i).map stsD ++ [.agg [natD h,natD i,hashD (ridS b.txs[i]!),txD b.txs[i]!]] = (p ++ allJ b h (i + 1)).map stsD:=by
 rw [allJ,<- List.append_assoc,List.map_append (l₁:=p ++ allJ b h i)]
 rfl
theorem allJ_len (b : BlkS) (h i : Nat) : (allJ b h i).length = i:=by
 induction i with
 | zero=>rfl
 | succ i ih=>simp [allJ,ih]
theorem allI_len {l : List BlkS} (hl : allBl l) (h : Nat) (hh : h <= l.length) : (allI l h).length <= 1000 * h:=by
 induction h with
 | zero=>exact Nat.le_refl _
 | succ h ih=>
  have:=(hl.get (show h < l.length by omega)).len
  have:=ih (by omega)
  simp only [allI,List.length_append,allJ_len]
  omega
theorem allS_len {l : List BlkS} (hl : allBl l) : (allS l).length <= 100000:=by
 have:=allI_len hl l.length (Nat.le_refl _)
 have:=hl.1
 unfold allS
 omega
def StS.wf (s : StS) : Prop:=s.id.length = 32 /\ s.t.wf /\ s.t.ins.length <= 1000 /\ s.t.outs.length <= 1000
theorem stI {h a : Nat} {id : Hs} {t : TxS} (hi : id.length = 32) (ht : t.wf) (hs : t.ins.length <= 1000 /\ t.outs.length <= 1000) : StS.wf ⟨h,a,id,t⟩:=⟨hi,ht,hs⟩
def allSt (l : List StS) : Prop:=l.length <= 100000 /\ ∀ s ∈ l,s.wf
theorem allSt.get {l : List StS} (h : allSt l) {i : Nat} (hi : i < l.length) : l[i]!.wf:=by rw [getElem!_pos l i hi]; exact h.2 _ (List.getElem_mem hi)
theorem allJ_wf {b : BlkS} (hb : b.wf) (h : Nat) {i : Nat} (hi : i <= b.txs.length) : ∀ s ∈ allJ b h i,s.wf:=by
 induction i with
 | zero=>intro s hs; cases hs
 | succ i ih=>
  intro s hs
  rcases List.mem_append.1 hs with h1 | h1
  · exact ih (by omega) s h1
  · rw [List.mem_singleton.1 h1]
    exact stI (ridS_len _) (hb.get (by omega)) (hb.small (by omega))
theorem allI_wf {l : List BlkS} (hl : allBl l) (h : Nat) (hh : h <= l.length) : ∀ s ∈ allI l h,s.wf:=by
 induction h with
 | zero=>intro s hs; cases hs
 | succ h ih=>
  intro s hs
  rcases List.mem_append.1 hs with h1 | h1
  · exact ih (by omega) s h1
  · exact allJ_wf (hl.get (by omega)) h (Nat.le_refl _) s h1
theorem allS_wf {l : List BlkS} (hl : allBl l) : allSt (allS l):=⟨allS_len hl,allI_wf hl _ (Nat.le_refl _)⟩
def hasO (s : StS) (p : Plc) : Bool:=s.id == p.1 && decide (p.2.toNat < s.t.outs.length)
def prvO (l : List StS) : Nat -> Plc -> Option OutS
 | 0,_=>none
 | i + 1,p=>match prvO l i p with
  | some o=>some o
  | none=>if hasO l[i]! p then some l[i]!.t.outs[p.2.toNat]! else none
def frmJ (t : TxS) (p : Plc) (k : Nat) : Bool:=(List.range k).any fun j=>plc t.ins[j]! == p && !mintS t
def frmN (l : List StS) (before input : Nat) (i : Nat) : Nat:=if i < before then l[i]!.t.ins.length else min l[i]!.t.ins.length input
def frmS (l : List StS) (before input : Nat) (p : Plc) : Bool:=(List.range (min (before + 1) l.length)).any fun i=>frmJ l[i]!.t p (frmN l before input i)
theorem frmJ_t {t : TxS} {p : Plc} {k n : Nat} (hk : k < n) (h4 : plc t.ins[k]! = p) (hm : (!mintS t) = true) : frmJ t p n = true:=by
 unfold frmJ
 rw [List.any_eq_true]
 exact ⟨k,List.mem_range.2 hk,by rw [Bool.and_eq_true]; exact ⟨beq_iff_eq.2 h4,hm⟩⟩
theorem frmJ_f {t : TxS} {p : Plc} {n : Nat} (h : ∀ q < n,(plc t.ins[q]! == p && !mintS t) = false) : frmJ t p n = false:=by
 unfold frmJ
 rw [List.any_eq_false]
 intro q hq
 rw [h q (List.mem_range.1 hq)]
 simp
theorem frm_true {l : List StS} {before input i k : Nat} {p : Plc} (hi : i <= before) (hi2 : i < l.length) (hk : k < frmN l before input i) (h4 : plc l[i]!.t.ins[k]! = p) (hm : (!mintS l[i]!.t) = true) : frmS l before input p = true:=by
 unfold frmS
 rw [List.any_eq_true]
 exact ⟨i,List.mem_range.2 (by omega),frmJ_t hk h4 hm⟩
theorem frm_false {l : List StS} {before input : Nat} {p : Plc} (h : ∀ q < min (before + 1) l.length,frmJ l[q]!.t p (frmN l before input q) = false) : frmS l before input p = false:=by
 unfold frmS
 rw [List.any_eq_false]
 intro q hq
 rw [h q (List.mem_range.1 hq)]
 simp
theorem frmN_1 {l : List StS} {before input i : Nat} (h : i < before) : frmN l before input i = l[i]!.t.ins.length:=by unfold frmN; exact if_pos h
theorem frmN_2 {l : List StS} {before input i : Nat} (h : ¬ i < before) : frmN l before input i = min l[i]!.t.ins.length input:=by unfold frmN; exact if_neg h
theorem pl_no {t : TxS} {p : Plc} {k : Nat} (h : ¬ plc t.ins[k]! = p) : (plc t.ins[k]! == p && !mintS t) = false:=by rw [beq_eq_false_iff_ne.2 h]; rfl
theorem pl_mint {t : TxS} {p : Plc} {k : Nat} (h : ¬ (!mintS t) = true) : (plc t.ins[k]! == p && !mintS t) = false:=by
 cases hm : mintS t with
 | true=>simp
 | false=>rw [hm] at h; exact absurd rfl h
def plcP (x : Plc × UInt64) : D:=placeK x.1
def valP (x : Plc × UInt64) : D:=.u64 x.2
def thrK (l : List StS) (i : Nat) : Nat -> List (Plc × UInt64)
 | 0=>[]
 | k + 1=>if frmS l l.length 0 (l[i]!.id,UInt32.ofInt ((k : Nat) : Int)) = true then thrK l i k else thrK l i k ++ [((l[i]!.id,UInt32.ofInt ((k : Nat) : Int)),l[i]!.t.outs[k]!.value)]
def thrI (l : List StS) : Nat -> List (Plc × UInt64)
 | 0=>[]
 | i + 1=>thrI l i ++ thrK l i l[i]!.t.outs.length
theorem thrI_succ (l : List StS) (i : Nat) : thrI l (i + 1) = thrI l i ++ thrK l i l[i]!.t.outs.length:=by rw [thrI]
theorem thrK_0 (l : List StS) (i : Nat) : thrK l i 0 = []:=by rw [thrK]
theorem thrK_len (l : List StS) (i k : Nat) : (thrK l i k).length <= k:=by
 induction k with
 | zero=>exact Nat.le_refl _
 | succ k ih=>
  simp only [thrK]
  split
  · omega
  · rw [List.length_append,List.length_singleton]; omega
theorem thrI_len {l : List StS} (hl : allSt l) (i : Nat) (hi : i <= l.length) : (thrI l i).length <= 1000 * i:=by
 induction i with
 | zero=>exact Nat.le_refl _
 | succ i ih=>
  have h1:=ih (by omega)
  have h2:=(hl.get (show i < l.length by omega)).2.2.2
  have h3:=thrK_len l i l[i]!.t.outs.length
  simp only [thrI,List.length_append]
  omega
theorem thrK_t {l : List StS} {i k : Nat} (h : frmS l l.length 0 (l[i]!.id,UInt32.ofInt ((k : Nat) : Int)) = true) : thrK l i (k + 1) = thrK l i k:=by rw [thrK,if_pos h]
theorem thrK_f {l : List StS} {i k : Nat} (h : ¬ frmS l l.length 0 (l[i]!.id,UInt32.ofInt ((k : Nat) : Int)) = true) : thrK l i (k + 1) = thrK l i k ++ [((l[i]!.id,UInt32.ofInt ((k : Nat) : Int)),l[i]!.t.outs[k]!.value)]:=by rw [thrK,if_neg h]
theorem thr_p {l : List StS} {i k : Nat} {p : List (Plc × UInt64)} (h : ¬ frmS l l.length 0 (l[i]!.id,UInt32.ofInt ((k : Nat) : Int)) = true) : (p ++ thrK l i k).map plcP ++ [.agg [hashD l[i]!.id,.u32 (UInt32.ofInt ((k : Nat) : Int))]] = (p ++ thrK l i (k + 1)).map plcP:=by
 rw [thrK_f h,<- List.append_assoc,List.map_append (l₁:=p ++ thrK l i k)]
 rfl
theorem thr_v {l : List StS} {i k : Nat} {p : List (Plc × UInt64)} (h : ¬ frmS l l.length 0 (l[i]!.id,UInt32.ofInt ((k : Nat) : Int)) = true) : (p ++ thrK l i k).map valP ++ [.u64 l[i]!.t.outs[k]!.value] = (p ++ thrK l i (k + 1)).map valP:=by
 rw [thrK_f h,<- List.append_assoc,List.map_append (l₁:=p ++ thrK l i k)]
 rfl
theorem brw_byt (b : List UInt8) : (bytesD b).brw = bytesD b:=by
 simp only [bytesD,D.brw,brws_eq]
 rw [brw_map (fun _=>rfl)]
theorem brw_inK (x : InS) : (inD x).brw = inD x:=by
 simp only [inD,D.brw,brws_eq,List.map_cons,List.map_nil,brw_hash,brw_byt]
 rw [brw_map brw_byt]
theorem brw_outK (x : OutS) : (outD x).brw = outD x:=by
 simp only [outD,D.brw,brws_eq,List.map_cons,List.map_nil,brw_byt]
theorem brw_txK (t : TxS) : (txD t).brw = txD t:=by
 simp only [txD,D.brw,brws_eq,List.map_cons,List.map_nil]
 rw [brw_map brw_inK,brw_map brw_outK]
theorem brw_stsK (x : StS) : (stsD x).brw = stsD x:=by
 simp only [stsD,natD,D.brw,brws_eq,List.map_cons,List.map_nil,brw_hash,brw_txK]
theorem brw_sts (o : Option Nat) (z : Nat) (l : List StS) : (D.sl o z (l.map stsD)).brw = .sl none z (l.map stsD):=by
 simp only [D.brw,brws_eq]
 rw [brw_map brw_stsK]
def thrS (l : List BlkS) : List (Plc × UInt64):=thrI (allS l) (allS l).length
structure SpS where
 from_ : UInt8
 two : Bool
 to : List UInt8
 part : UInt8
 extra : UInt8
 deriving Inhabited
def spD (s : SpS) : D:=.agg [.u8 s.from_,.bool s.two,.sl none 1 (s.to.map .u8),.u8 s.part,.u8 s.extra]
structure PlS where
 pays : UInt8
 spends : List SpS
 step : UInt8
 deriving Inhabited
def plD (x : PlS) : D:=.agg [.u8 x.pays,.sl none 5 (x.spends.map spD),.u8 x.step]
def keyS (k : UInt8) : List UInt8:=[0,20] ++ (sumR [115,k,0,0,0]).take 20
def spIns (s : SpS) (av : List (Plc × UInt64)) : List InS:=
 let k:=s.from_.toNat % av.length
 if s.two = true /\ k + 1 < av.length then [⟨av[k]!.1.1,av[k]!.1.2,[],s.extra.toUInt32,[]⟩,⟨av[k + 1]!.1.1,av[k + 1]!.1.2,[s.extra],0,[[s.part],[]]⟩]
 else [⟨av[k]!.1.1,av[k]!.1.2,[],s.extra.toUInt32,[]⟩]
def spSum (s : SpS) (av : List (Plc × UInt64)) : UInt64:=
 let k:=s.from_.toNat % av.length
 if s.two = true /\ k + 1 < av.length then av[k]!.2 + av[k + 1]!.2 else av[k]!.2
def spOut (s : SpS) (sum : UInt64) (i : Nat) : OutS:=
 let v:=sum / UInt64.ofInt ((s.to.length : Nat) : Int)
 ⟨if i = 0 then v - min v s.part.toUInt64 else v,keyS (s.to[i]! % 12)⟩
def spOuts (s : SpS) (sum : UInt64) (i : Nat) : List OutS:=(List.range i).map (spOut s sum)
def spT (s : SpS) (av : List (Plc × UInt64)) (mark : UInt32) : TxS:=⟨2,spIns s av,spOuts s (spSum s av) (min s.to.length 4),mark⟩
def spNo (s : SpS) (av : List (Plc × UInt64)) : Bool:=decide (av.length = 0) || decide (s.to.length = 0)
def zeroT : TxS:=⟨0,[],[],0⟩
def spS (s : SpS) (av : List (Plc × UInt64)) (mark : UInt32) : TxS × Bool:=if spNo s av then (zeroT,false) else (spT s av mark,true)
def mintT (n : Nat) (x : PlS) (mark : UInt32) : TxS:=
 ⟨1,[⟨zero32,4294967295,[UInt8.ofNat n,UInt8.ofNat (n / 256),mark.toUInt8],0,[]⟩],[⟨5000,keyS (x.pays % 12)⟩],mark⟩
def grT (l : List BlkS) (x : PlS) (mark : UInt32) : Nat -> List TxS
 | 0=>[mintT l.length x mark]
 | i + 1=>if (spS x.spends[i]! (thrS (l ++ [⟨zeroH,grT l x mark i⟩])) mark).2 then grT l x mark i ++ [(spS x.spends[i]! (thrS (l ++ [⟨zeroH,grT l x mark i⟩])) mark).1] else grT l x mark i
def grTx (l : List BlkS) (x : PlS) (mark : UInt32) : List TxS:=grT l x mark (min x.spends.length 6)
def heads (l : List BlkS) : List HdS:=l.map BlkS.hd
def grH (l : List BlkS) (x : PlS) (mark : UInt32) : HdS × Bool:=
 mineS (heads l) (medS (heads l) + 1 + x.step.toUInt32) (rootS joinR ((grTx l x mark).map ridS))
def growS (l : List BlkS) (x : PlS) (mark : UInt32) : BlkS × Bool:=(⟨(grH l x mark).1,grTx l x mark⟩,(grH l x mark).2)
def blkI (ps : List PlS) : Nat -> List BlkS
 | 0=>[⟨easyH,[]⟩]
 | i + 1=>if (growS (blkI ps i) ps[i]! (UInt32.ofNat i)).2 then blkI ps i ++ [(growS (blkI ps i) ps[i]! (UInt32.ofNat i)).1] else blkI ps i
def blkS (ps : List PlS) : List BlkS:=blkI ps (min ps.length 14)
end Go.Sx

namespace Go.Sx
open Go.Proofs
theorem sz_hash (h : Hs) : (hashD h).sz = 32:=rfl
theorem szH {o : Option Nat} {h : Hs} (e : o = some 32) : o = some (hashD h).sz:=e.trans (congrArg some (sz_hash h).symm)
theorem EqV.up {P : Program} {k : Nat} {t : TypeId} {d1 d2 : D} {b : Bool} (h : EqV P k t d1 d2 b) (j : Nat) : EqV P (k + j) t d1 d2 b:=by
 intro n w ρ1 ρ2 G1 G2 L1 L2 v1 v2 F1 F2 h1 h2
 have:=h (n + j) w ρ1 ρ2 G1 G2 L1 L2 v1 v2 F1 F2 h1 h2
 rwa [show n + (k + j) = n + j + k by omega]
theorem eqv_place (a b : Plc) : EqV Tryd.prog 3 60 (placeK a) (placeK b) (a == b):=by
 have h32 : ∀ x y : UInt32,EqV Tryd.prog 2 32 (.u32 x) (.u32 y) (x == y):=fun x y=>(EqV.u32 Tryd.underlying32 x y).up 1
 have hh : ∀ x y : Hs,EqV Tryd.prog 2 26 (hashD x) (hashD y) (x == y):=fun x y=>EqV.arr x y
 have:=EqV.struct (k:=2) Tryd.underlying60 (by kernel_rfl) (.cons rfl rfl inferInstance rfl rfl rfl rfl (hh a.1 b.1) (.cons rfl rfl inferInstance rfl rfl rfl rfl (h32 a.2 b.2) .nil))
 rw [Bool.and_true] at this
 exact this
end Go.Sx

namespace Go.Sx
theorem bfalse {b : Bool} (h : ¬ b = true) : b = false:=by cases b; rfl; exact absurd rfl h
theorem FrsR.three {x y z : D} (h1 : Frs x) (h2 : Frs y) (h3 : Frs z) : FrsR (.tup [x,y,z]):=.inl ⟨_,rfl,fun d hd=>by
 rcases List.mem_cons.1 hd with rfl | hd
 · exact h1
 · rcases List.mem_cons.1 hd with rfl | hd
   · exact h2
   · rw [List.mem_singleton.1 hd]; exact h3⟩
theorem root_nil {l : List Hs} (h : l.length = 0) : rootS joinR l = zero32:=by
 obtain rfl:=List.length_eq_zero_iff.1 h
 unfold rootS
 rw [List.length_nil,nRows_0,rootA]
theorem root_end {l : List Hs} {k : Nat} (hk : k + nRows (rowA joinR l k).length = nRows l.length) (h : (rowA joinR l k).length = 1) : rootS joinR l = (rowA joinR l k)[0]!:=by
 rw [h,nRows_1] at hk
 unfold rootS
 rw [<- hk,rootA]
theorem prt_1 {x most : Bg} {n m : UInt64} (h : bMulO (divQ x [m,0,0,0]) n ≠ 0) : prtS x n m most = most:=by unfold prtS; exact if_pos h
theorem prt_2 {x most : Bg} {n m : UInt64} (h : bMulO (divQ x [m,0,0,0]) n = 0) (h2 : bOvr (bMul (divQ x [m,0,0,0]) n) (divQ (bMul (divR x [m,0,0,0]) n) [m,0,0,0]) = true ∨ lessS most (bAdd (bMul (divQ x [m,0,0,0]) n) (divQ (bMul (divR x [m,0,0,0]) n) [m,0,0,0])) = true) : prtS x n m most = most:=by
 unfold prtS
 rw [if_neg (fun h1=>h1 h),if_pos h2]
theorem prt_3 {x most : Bg} {n m : UInt64} (h : bMulO (divQ x [m,0,0,0]) n = 0) (h2 : ¬ bOvr (bMul (divQ x [m,0,0,0]) n) (divQ (bMul (divR x [m,0,0,0]) n) [m,0,0,0]) = true) (h3 : ¬ lessS most (bAdd (bMul (divQ x [m,0,0,0]) n) (divQ (bMul (divR x [m,0,0,0]) n) [m,0,0,0])) = true) : prtS x n m most = bAdd (bMul (divQ x [m,0,0,0]) n) (divQ (bMul (divR x [m,0,0,0]) n) [m,0,0,0]):=by
 unfold prtS
 rw [if_neg (fun h1=>h1 h),if_neg (fun hc=>hc.elim h2 h3)]
end Go.Sx

namespace Go.Sx
open Go.Proofs
theorem rmint_ok (t : TxS) (hwf : t.wf) : Fn Tryd.prog gl 97 [txD t] (.bool (mintS t)):=by
 refine Fn.of (n:=16) Tryd.func97 rfl rfl rfl (nU rfl) fun C hC hD=>?_
 have h1:=hwf.ins
 refine W.seq ?_
 refine W.l0 2 [] [] [] [(0,_)] [] 16 Zt O O O O (⟨O,_,R.box (gV 0 O) O O (nU O),⟨O,_,R.asg (kB false O) O (nU O),tV [(1,_)] [(1,.var _)] 16 O O O ?_⟩⟩)
 refine W.seq ?_
 by_cases hz : t.ins.length = 1
 · refine W.l0 14 [.y 3 _,.y 4 _,.y 5 _,.y 6 _,.y 7 _,.y 8 _,.y 9 _,.y 10 _,.y 11 _,.y 12 _,.y 13 _,.y 14 _,.y 15 _,.y 2 _] [] [] [(2,_)] [(1,.var _)] 16 ⟨aU (fU 1 O O),aU (lU 3 O O O O O O O),aU fun _ _ H K=>R.lenE (SC.sl (K 4 _ O)) (lN _) H,aU fun _ _ H K=>R.eqlN (t.ins.length) (1) (eU K 5 O) (kI 1 O) H,mU 6 O O,aW O O (gT (dT hz) O) (fU 1 O O),aW O O (gT (dT hz) O) (lU 8 O O O O O O O),aW O O (gT (dT hz) O) fun _ _ H K=>R.idxN (0) (SC.sl (K 9 _ O)) (evoI (kI 0 O)) O bU H dU,aW O O (gT (dT hz) O) fun _ _ H K=>R.fdE (K 10 _ O) H dU,aW O O (gT (dT hz) O) fun _ _ H K=>R.ldE (K 11 _ O) (SC.sl (K 9 _ O)) (map_get! (l:=t.ins) bU) O O O O H,aW O O (gT (dT hz) O) fun _ _ H _=>R.bldSE (l:=[.arr 32 1 ((List.replicate 32 0).map D.u8),.u32 0]) (l':=[_,_]) (.cons (show ev _ _ (.const (.int .u32 4294967295)) = some (.u32 4294967295) from O) (.nil O)) ⟨⟨_,(show ev _ _ (.const (.int .u32 4294967295)) = some (.u32 4294967295) from O),O,O,O⟩,Zt⟩ H,aW O O (gT (dT hz) O) fun _ _ H K=>R.eqD (neg:=false) (b':=(plc t.ins[0]! == (List.replicate 32 0,4294967295))) (eqv_place (plc t.ins[0]!) (List.replicate 32 0,4294967295)) O (eU K 12 O) (eU K 13 O) O O O O (O) H,aU fun _ _ H K=>R.pickT (eU K 7 O) (dT hz) (eU K 14 O) O H,aU fun _ _ H K=>R.asg (eU K 15 O) O H,Zt⟩ O O O O (tU O ?_)
   refine W.ret ?_
   exact Ends.one' (.inr O) O (by rw [mintS,dT hz]; rfl) O O Zt
 · refine W.l0 14 [.y 3 _,.y 4 _,.y 5 _,.y 6 _,.y 7 _,.x 8,.x 9,.x 10,.x 11,.x 12,.x 13,.x 14,.y 15 _,.y 2 _] [] [] [(2,_)] [(1,.var _)] 16 ⟨aU (fU 1 O O),aU (lU 3 O O O O O O O),aU fun _ _ H K=>R.lenE (SC.sl (K 4 _ O)) (lN _) H,aU fun _ _ H K=>R.eqlN (t.ins.length) (1) (eU K 5 O) (kI 1 O) H,mU 6 O O,aF O O (gF (dF hz) O),aF O O (gF (dF hz) O),aF O O (gF (dF hz) O),aF O O (gF (dF hz) O),aF O O (gF (dF hz) O),aF O O (gF (dF hz) O),aF O O (gF (dF hz) O),aU fun _ _ H K=>R.pickF (eU K 7 O) (dF hz) (kB false O) O H,aU fun _ _ H K=>R.asg (eU K 15 O) O H,Zt⟩ O O O O (tU O ?_)
   refine W.ret ?_
   exact Ends.one' (.inr O) O (by rw [mintS,dF hz]; rfl) O O Zt
theorem rid_ok (t : TxS) (hwf : t.wf) : Fn Tryd.prog gl 40 [txD t] (hashD (ridS t)):=by
 refine Fn.of (n:=6) Tryd.func40 rfl rfl rfl (nU rfl) fun C hC hD=>?_
 refine W.seq ?_
 refine W.l0 2 [] [] [] [(0,_)] [] 6 Zt O O O O (⟨O,_,R.box (gV 0 O) O O (nU O),⟨O,_,R.alloc O (nU O),tV [(1,_),(2,_)] [(2,.var _),(1,.var _)] 6 O O O ?_⟩⟩)
 refine W.seq ?_
 refine W.l0 4 [.y 3 _,.y 4 _,.y 5 _] [] [] [(2,_),(5,_)] [(2,.var _),(1,.var _)] 6 ⟨aU (lU 1 O O O O O O O),aU fun _ _ H K=>R.callG hC (rbare_ok t hwf) (Bc (Bp (eU K 3 O) O O) Bn) (FrsR.one (.sl _ _ _ (frs_map fun _=>.u8 _))) H,aU fun _ _ H K=>R.callG hC (rtwice_ok (bareS t) (Nat.le_trans hwf.bareL dU)) (Bc (Bor.sc (SC.sl (K 4 _ O)) (brw_map (fun _=>rfl))) Bn) (FrsR.one (frs_hash' _)) H,Zt⟩ O O O O (⟨O,_,R.stZ (gU 2 O) (xU 2 O) O (gV 5 O) (by rfl) (by rfl) (by rfl) (by rfl) O,tV [(2,_)] [(2,.var _),(1,.var _)] 6 O O O ?_⟩)
 refine W.ret ?_
 exact Ends.one' (.inr O) O (by unfold ridS; rfl) O O (show LdT _ 26 32 true from inferInstance)
theorem rroot_ok (l : List Hs) (hl : allH l) (hl0 : l.length <= 1000) : Fn Tryd.prog gl 43 [.sl none 32 (l.map hashD)] (hashD (rootS joinR l)):=by
 refine Fn.of (n:=17) Tryd.func43 rfl rfl rfl (nU rfl) fun C hC hD=>?_
 refine W.seq ?_
 refine W.l0 1 [] [] [] [(0,_)] [] 17 Zt O O O O (⟨O,_,R.alloc O (nU O),tV [(0,_),(2,_)] [(2,.var _)] 17 O O O ?_⟩)
 refine W.seq ?_
 refine W.l0 2 [.y 4 _,.y 3 _] [] [] [(2,_),(3,_)] [(2,.var _)] 17 ⟨mU 0 O O,aU fun _ _ H K=>R.asg (eU K 4 O) O H,Zt⟩ O O O O (tU O ?_)
 refine W.seq (W.seq ?_)
 refine W.l0 3 [.y 5 _,.y 6 _,.y 7 _] [] [] [(2,_),(3,_),(7,_)] [(2,.var _)] 17 ⟨mU 3 O O,aU fun _ _ H K=>R.lenE (SC.sl (K 5 _ O)) (lN _) H,aU fun _ _ H K=>R.eqlN (l.length) (0) (eU K 6 O) (kI 0 O) H,Zt⟩ O O O O (tU O ?_)
 refine W.condD O (fun hc7=>?_) (fun hc7=>?_)
 · refine W.seq ?_
   refine W.l0 2 [.y 8 _] [] [] [(2,_),(8,_)] [(2,.var _)] 17 ⟨aU fun _ _ H _=>R.bldAZ O H,Zt⟩ O O O O (⟨O,_,R.stZ (gU 2 O) (xU 2 O) O (gV 8 O) (by rfl) (by rfl) (by rfl) (by rfl) O,tV [(2,_)] [(2,.var _)] 17 O O O ?_⟩)
   refine W.ret ?_
   exact Ends.one' (.inr O) O (by rw [root_nil hc7] <;> rfl) O O (show LdT _ 26 32 true from inferInstance)
 · refine W.skip (W.seq (W.block ?_))
   refine W.dropS (live:=[2,3]) (env':=[(2,_),(3,_)]) (bx':=[(2,.var _)]) (n':=17) O O O ?_
   refine W.loop (α:={q__ : Nat // q__ + nRows (rowA joinR l q__).length = nRows l.length /\ 0 < (rowA joinR l q__).length}) (fun q__=>⟨17,[(2,.ptr 2 0 []),(3,.sl none 32 ((rowA joinR l q__.1).map hashD))],[(2,.var (hashD zero32))]⟩) (fun q__=>nRows l.length - q__.1) ⟨(0),⟨(by show 0 + _ = _; rw [Nat.zero_add]; rfl),(by show 0 < l.length; omega)⟩⟩ O ?_
   rintro ⟨k,⟨hk,hpos⟩⟩
   show W _ _ _ _ ⟨17,[(2,.ptr 2 0 []),(3,.sl none 32 ((rowA joinR l k).map hashD))],[(2,.var (hashD zero32))]⟩
   have hrl:=rowA_len joinR l k
   have hle:=lenA_le l.length k
   have hra:=rowA_all joinR_len hl k
   have hk : k + nRows (rowA joinR l k).length = nRows l.length:=hk
   have hpos : 0 < (rowA joinR l k).length:=hpos
   refine W.seq (W.seq ?_)
   refine W.l0 3 [.y 9 _,.y 10 _,.y 11 _] [] [] [(2,_),(3,_),(11,_)] [(2,.var _)] 17 ⟨mU 3 O O,aU fun _ _ H K=>R.lenE (SC.sl (K 9 _ O)) (lN _) H,aU fun _ _ H K=>R.gtrN ((rowA joinR l k).length) (1) (eU K 10 O) (kI 1 O) H,Zt⟩ O O O O (tU O ?_)
   refine W.condD O (fun hc11=>?_) (fun hc11=>?_)
   · refine W.skip (W.block ?_)
     refine W.l0 3 [.y 12 _,.y 13 _,.y 3 _] [] [] [(2,_),(3,_)] [(2,.var _)] 17 ⟨mU 3 O O,aU fun _ _ H K=>R.frzT (r':=.sl none 32 ((upR joinR (rowA joinR l k)).map hashD)) (R.callG hC (rabove_ok (rowA joinR l k) hra (by omega)) (Bc (Bp (eU K 12 O) O O) Bn) (FrsR.one (frs_hs _ _ _)) H) O (brw_hs _ _ _),aU fun _ _ H K=>R.asg (eU K 13 O) O H,Zt⟩ O O O O (tU O ?_)
     exact ⟨⟨(k + 1),⟨(by have h2:=nRows_2 (n:=(rowA joinR l k).length) (by omega); have h3 : (rowA joinR l (k + 1)).length = ((rowA joinR l k).length + 1) / 2:=upR_len _ _; rw [h2,<- h3] at hk; show k + 1 + _ = _; omega),(by have h3 : (rowA joinR l (k + 1)).length = ((rowA joinR l k).length + 1) / 2:=upR_len _ _; show 0 < (rowA joinR l (k + 1)).length; omega)⟩⟩,rfl,(by have:=nRows_pos (n:=(rowA joinR l k).length) (by omega); simp only []; omega)⟩
   · refine W.exit (W.seq ?_)
     refine W.l0 4 [.y 14 _,.y 15 _,.y 16 _] [] [] [(2,_),(16,_)] [(2,.var _)] 17 ⟨mU 3 O O,aU fun _ _ H K=>R.idxN (0) (SC.sl (K 14 _ O)) (evoI (kI 0 O)) O bU H dU,aU fun _ _ H K=>R.ldE (K 15 _ O) (SC.sl (K 14 _ O)) (map_get! (l:=(rowA joinR l k)) bU) O O O O H,Zt⟩ O O O O (⟨O,_,R.stZ (gU 2 O) (xU 2 O) O (gV 16 O) (by rfl) (by rfl) (by rfl) (by rfl) O,tV [(2,_)] [(2,.var _)] 17 O O O ?_⟩)
     refine W.ret ?_
     exact Ends.one' (.inr O) O (by rw [root_end hk (by omega)]) O O (show LdT _ 26 32 true from inferInstance)
end Go.Sx

namespace Go.Sx
open Go.Proofs
theorem part_ok (x : Bg) (n m : UInt64) (most : Bg) (hx : x.length = 4) (hm : most.length = 4) : Fn Tryd.prog gl 79 [bgD x,.u64 n,.u64 m,bgD most] (bgD (prtS x n m most)):=by
 refine Fn.of (n:=67) Tryd.func79 rfl rfl rfl (nU rfl) fun C hC hD=>?_
 have hq4 : (divQ x [m,0,0,0]).length = 4:=divQ_len _ _
 have hr4 : (divR x [m,0,0,0]).length = 4:=divR_ok _ _
 have hA : (bMul (divQ x [m,0,0,0]) n).length = 4:=bMul_len _ _
 have hB : (bMul (divR x [m,0,0,0]) n).length = 4:=bMul_len _ _
 have hC4 : (divQ (bMul (divR x [m,0,0,0]) n) [m,0,0,0]).length = 4:=divQ_len _ _
 refine W.seq ?_
 refine W.l0 3 [] [] [] [(0,_),(1,_),(2,_),(3,_)] [] 67 Zt O O O O (⟨O,_,R.box (gV 0 O) O O (nU O),⟨O,_,R.box (gV 3 O) O O (nU O),⟨O,_,R.alloc O (nU O),tV [(1,_),(2,_),(4,_),(7,_),(8,_)] [(8,.var _),(7,.var _),(4,.var _)] 67 O O O ?_⟩⟩⟩)
 refine W.seq ?_
 refine W.l0 4 [.y 22 _,.y 23 _] [] [] [(1,_),(4,_),(7,_),(8,_),(23,_)] [(8,.var _),(7,.var _),(4,.var _)] 67 ⟨mU 2 O O,aU fun _ _ H K=>R.bldAP (z:=1) (l2:=([m,0,0,0].map D.u64)) (.cons (eU K 22 O) (.nil O)) ⟨⟨_,(eU K 22 O),O,O,O,O⟩,Zt⟩ (O) H,Zt⟩ O O O O (⟨O,_,R.alloc O (nU O),⟨O,_,R.stZ (gU 9 O) (xU 9 O) O (gV 23 O) (by rfl) (by rfl) (by rfl) (by rfl) O,tV [(1,_),(4,_),(7,_),(8,_),(9,_)] [(9,.var _),(8,.var _),(7,.var _),(4,.var _)] 67 O O O ?_⟩⟩)
 refine W.seq ?_
 refine W.l0 12 [.y 25 _,.y 26 _,.y 27 _,.y 24 _,.y 28 _,.y 29 _,.y 30 _] [] [] [(1,_),(7,_),(8,_),(9,_),(28,_),(29,_),(30,_)] [(9,.var _),(8,.var _),(7,.var _),(4,.var _)] 67 ⟨aU (lU 4 O O O O O O O),aU (lU 9 O O O O O O O),aU fun _ _ H K=>R.callG hC (bdiv_ok x [m,0,0,0] hx O) (Bc (Bp (eU K 25 O) O O) (Bc (Bp (eU K 26 O) O O) Bn)) (FrsR.three (frs_bg _) (frs_bg _) (.int _)) H,aU fun _ _ H K=>R.movT (K 27 _ O) O H,aU fun _ _ H K=>R.ext (K 24 _ O) O O H,aU fun _ _ H K=>R.ext (K 24 _ O) O O H,aU fun _ _ H K=>R.ext (K 24 _ O) O O H,Zt⟩ O O O O (⟨O,_,R.alloc O (nU O),⟨O,_,R.alloc O (nU O),⟨O,_,R.stZ (gU 10 O) (xU 10 O) O (gV 28 O) (by rfl) (by rfl) (by rfl) (by rfl) O,⟨O,_,R.stZ (gU 11 O) (xU 11 O) O (gV 29 O) (by rfl) (by rfl) (by rfl) (by rfl) O,⟨O,_,R.asg (gV 30 O) O (nU O),tV [(1,_),(7,_),(8,_),(9,_),(10,_),(11,_)] [(11,.var _),(10,.var _),(9,.var _),(8,.var _),(7,.var _),(4,.var _)] 67 O O O ?_⟩⟩⟩⟩⟩)
 refine W.seq ?_
 refine W.l0 9 [.y 32 _,.y 33 _,.y 34 _,.y 31 _,.y 35 _,.y 36 _] [] [] [(1,_),(7,_),(8,_),(9,_),(11,_),(35,_),(36,_)] [(11,.var _),(10,.var _),(9,.var _),(8,.var _),(7,.var _),(4,.var _)] 67 ⟨aU (lU 10 O O O O O O O),mU 1 O O,aU fun _ _ H K=>R.callG hC (bmul_ok (divQ x [m,0,0,0]) n hq4) (Bc (Bp (eU K 32 O) O O) (Bc (Bp (eU K 33 O) O O) Bn)) (FrsR.two (frs_bg _) (.u64 _)) H,aU fun _ _ H K=>R.movT (K 34 _ O) O H,aU fun _ _ H K=>R.ext (K 31 _ O) O O H,aU fun _ _ H K=>R.ext (K 31 _ O) O O H,Zt⟩ O O O O (⟨O,_,R.alloc O (nU O),⟨O,_,R.stZ (gU 13 O) (xU 13 O) O (gV 35 O) (by rfl) (by rfl) (by rfl) (by rfl) O,⟨O,_,R.asg (gV 36 O) O (nU O),tV [(1,_),(7,_),(8,_),(9,_),(11,_),(13,_),(14,_)] [(13,.var _),(11,.var _),(10,.var _),(9,.var _),(8,.var _),(7,.var _),(4,.var _)] 67 O O O ?_⟩⟩⟩)
 refine W.seq (W.seq ?_)
 refine W.l0 2 [.y 37 _,.y 38 _] [] [] [(1,_),(7,_),(8,_),(9,_),(11,_),(13,_),(38,_)] [(13,.var _),(11,.var _),(10,.var _),(9,.var _),(8,.var _),(7,.var _),(4,.var _)] 67 ⟨mU 14 O O,aU fun _ _ H K=>R.bin (eU K 37 O) (show ev _ _ (.const (.int .u64 0)) = some (.u64 0) from O) O Zt H,Zt⟩ O O O O (tU O ?_)
 refine W.cond O (fun hc38=>?_) (fun hc38=>?_)
 · refine W.seq ?_
   refine W.l0 2 [.y 39 _] [] [] [(8,_),(39,_)] [(13,.var _),(11,.var _),(10,.var _),(9,.var _),(8,.var _),(7,.var _),(4,.var _)] 67 ⟨aU (lU 7 O O O O O O O),Zt⟩ O O O O (⟨O,_,R.stZ (gU 8 O) (xU 8 O) O (gV 39 O) (by rfl) (by rfl) (by rfl) (by rfl) O,tV [(8,_)] [(13,.var _),(11,.var _),(10,.var _),(9,.var _),(8,.var _),(7,.var _),(4,.var _)] 67 O O O ?_⟩)
   refine W.ret ?_
   exact Ends.one' (.inr O) O (by rw [prt_1 (bne_iff_ne.1 hc38)]) O O (show LdT _ 139 4 true from inferInstance)
 · refine W.skip (W.seq ?_)
   refine W.l0 9 [.y 41 _,.y 42 _,.y 43 _,.y 40 _,.y 44 _,.y 45 _] [] [] [(7,_),(8,_),(9,_),(13,_),(44,_),(45,_)] [(13,.var _),(11,.var _),(10,.var _),(9,.var _),(8,.var _),(7,.var _),(4,.var _)] 67 ⟨aU (lU 11 O O O O O O O),mU 1 O O,aU fun _ _ H K=>R.callG hC (bmul_ok (divR x [m,0,0,0]) n hr4) (Bc (Bp (eU K 41 O) O O) (Bc (Bp (eU K 42 O) O O) Bn)) (FrsR.two (frs_bg _) (.u64 _)) H,aU fun _ _ H K=>R.movT (K 43 _ O) O H,aU fun _ _ H K=>R.ext (K 40 _ O) O O H,aU fun _ _ H K=>R.ext (K 40 _ O) O O H,Zt⟩ O O O O (⟨O,_,R.alloc O (nU O),⟨O,_,R.stZ (gU 15 O) (xU 15 O) O (gV 44 O) (by rfl) (by rfl) (by rfl) (by rfl) O,⟨O,_,R.asg (gV 45 O) O (nU O),tV [(7,_),(8,_),(9,_),(13,_),(15,_)] [(15,.var _),(13,.var _),(11,.var _),(10,.var _),(9,.var _),(8,.var _),(7,.var _),(4,.var _)] 67 O O O ?_⟩⟩⟩)
   refine W.seq ?_
   refine W.l0 12 [.y 47 _,.y 48 _,.y 49 _,.y 46 _,.y 50 _,.y 51 _,.y 52 _] [] [] [(7,_),(8,_),(13,_),(50,_),(51,_),(52,_)] [(15,.var _),(13,.var _),(11,.var _),(10,.var _),(9,.var _),(8,.var _),(7,.var _),(4,.var _)] 67 ⟨aU (lU 15 O O O O O O O),aU (lU 9 O O O O O O O),aU fun _ _ H K=>R.callG hC (bdiv_ok (bMul (divR x [m,0,0,0]) n) [m,0,0,0] hB O) (Bc (Bp (eU K 47 O) O O) (Bc (Bp (eU K 48 O) O O) Bn)) (FrsR.three (frs_bg _) (frs_bg _) (.int _)) H,aU fun _ _ H K=>R.movT (K 49 _ O) O H,aU fun _ _ H K=>R.ext (K 46 _ O) O O H,aU fun _ _ H K=>R.ext (K 46 _ O) O O H,aU fun _ _ H K=>R.ext (K 46 _ O) O O H,Zt⟩ O O O O (⟨O,_,R.alloc O (nU O),⟨O,_,R.alloc O (nU O),⟨O,_,R.stZ (gU 17 O) (xU 17 O) O (gV 50 O) (by rfl) (by rfl) (by rfl) (by rfl) O,⟨O,_,R.stZ (gU 18 O) (xU 18 O) O (gV 51 O) (by rfl) (by rfl) (by rfl) (by rfl) O,⟨O,_,R.asg (gV 52 O) O (nU O),tV [(7,_),(8,_),(13,_),(17,_)] [(18,.var _),(17,.var _),(15,.var _),(13,.var _),(11,.var _),(10,.var _),(9,.var _),(8,.var _),(7,.var _),(4,.var _)] 67 O O O ?_⟩⟩⟩⟩⟩)
   refine W.seq ?_
   refine W.l0 9 [.y 54 _,.y 55 _,.y 56 _,.y 53 _,.y 57 _,.y 58 _] [] [] [(7,_),(8,_),(57,_),(58,_)] [(18,.var _),(17,.var _),(15,.var _),(13,.var _),(11,.var _),(10,.var _),(9,.var _),(8,.var _),(7,.var _),(4,.var _)] 67 ⟨aU (lU 13 O O O O O O O),aU (lU 17 O O O O O O O),aU fun _ _ H K=>R.callG hC (badd_ok (bMul (divQ x [m,0,0,0]) n) (divQ (bMul (divR x [m,0,0,0]) n) [m,0,0,0]) hA hC4) (Bc (Bp (eU K 54 O) O O) (Bc (Bp (eU K 55 O) O O) Bn)) (FrsR.two (frs_bg _) (.bool _)) H,aU fun _ _ H K=>R.movT (K 56 _ O) O H,aU fun _ _ H K=>R.ext (K 53 _ O) O O H,aU fun _ _ H K=>R.ext (K 53 _ O) O O H,Zt⟩ O O O O (⟨O,_,R.alloc O (nU O),⟨O,_,R.stZ (gU 20 O) (xU 20 O) O (gV 57 O) (by rfl) (by rfl) (by rfl) (by rfl) O,⟨O,_,R.asg (gV 58 O) O (nU O),tV [(7,_),(8,_),(20,_),(21,_)] [(20,.var _),(18,.var _),(17,.var _),(15,.var _),(13,.var _),(11,.var _),(10,.var _),(9,.var _),(8,.var _),(7,.var _),(4,.var _)] 67 O O O ?_⟩⟩⟩)
   refine W.seq (W.seq ?_)
   by_cases hov : bOvr (bMul (divQ x [m,0,0,0]) n) (divQ (bMul (divR x [m,0,0,0]) n) [m,0,0,0]) = true
   · refine W.l0 6 [.y 59 _,.y 60 _,.x 61,.x 62,.x 63,.y 64 _] [] [] [(7,_),(8,_),(20,_),(64,_)] [(20,.var _),(18,.var _),(17,.var _),(15,.var _),(13,.var _),(11,.var _),(10,.var _),(9,.var _),(8,.var _),(7,.var _),(4,.var _)] 67 ⟨mU 21 O O,mU 59 O O,aF O O (gT (hov) O),aF O O (gT (hov) O),aF O O (gT (hov) O),aU fun _ _ H K=>R.pickT (eU K 60 O) (hov) (kB true O) O H,Zt⟩ O O O O (tU O ?_)
     refine W.condT O (O) ?_
     refine W.seq ?_
     refine W.l0 2 [.y 65 _] [] [] [(8,_),(65,_)] [(20,.var _),(18,.var _),(17,.var _),(15,.var _),(13,.var _),(11,.var _),(10,.var _),(9,.var _),(8,.var _),(7,.var _),(4,.var _)] 67 ⟨aU (lU 7 O O O O O O O),Zt⟩ O O O O (⟨O,_,R.stZ (gU 8 O) (xU 8 O) O (gV 65 O) (by rfl) (by rfl) (by rfl) (by rfl) O,tV [(8,_)] [(20,.var _),(18,.var _),(17,.var _),(15,.var _),(13,.var _),(11,.var _),(10,.var _),(9,.var _),(8,.var _),(7,.var _),(4,.var _)] 67 O O O ?_⟩)
     refine W.ret ?_
     exact Ends.one' (.inr O) O (by rw [prt_2 (bne_eq_false_iff_eq.1 hc38) (.inl hov)]) O O (show LdT _ 139 4 true from inferInstance)
   · refine W.l0 6 [.y 59 _,.y 60 _,.y 61 _,.y 62 _,.y 63 _,.y 64 _] [] [] [(7,_),(8,_),(20,_),(64,_)] [(20,.var _),(18,.var _),(17,.var _),(15,.var _),(13,.var _),(11,.var _),(10,.var _),(9,.var _),(8,.var _),(7,.var _),(4,.var _)] 67 ⟨mU 21 O O,mU 59 O O,aW O O (gF (bfalse hov) O) (lU 7 O O O O O O O),aW O O (gF (bfalse hov) O) (lU 20 O O O O O O O),aW O O (gF (bfalse hov) O) fun _ _ H K=>R.callG hC (bless_ok most (bAdd (bMul (divQ x [m,0,0,0]) n) (divQ (bMul (divR x [m,0,0,0]) n) [m,0,0,0])) hm (bAdd_len _ _)) (Bc (Bp (eU K 61 O) O O) (Bc (Bp (eU K 62 O) O O) Bn)) (FrsR.one (.bool _)) H,aU fun _ _ H K=>R.pickF (eU K 60 O) (bfalse hov) (eU K 63 O) O H,Zt⟩ O O O O (tU O ?_)
     refine W.cond O (fun hc64=>?_) (fun hc64=>?_)
     · refine W.seq ?_
       refine W.l0 2 [.y 65 _] [] [] [(8,_),(65,_)] [(20,.var _),(18,.var _),(17,.var _),(15,.var _),(13,.var _),(11,.var _),(10,.var _),(9,.var _),(8,.var _),(7,.var _),(4,.var _)] 67 ⟨aU (lU 7 O O O O O O O),Zt⟩ O O O O (⟨O,_,R.stZ (gU 8 O) (xU 8 O) O (gV 65 O) (by rfl) (by rfl) (by rfl) (by rfl) O,tV [(8,_)] [(20,.var _),(18,.var _),(17,.var _),(15,.var _),(13,.var _),(11,.var _),(10,.var _),(9,.var _),(8,.var _),(7,.var _),(4,.var _)] 67 O O O ?_⟩)
       refine W.ret ?_
       exact Ends.one' (.inr O) O (by rw [prt_2 (bne_eq_false_iff_eq.1 hc38) (.inr hc64)]) O O (show LdT _ 139 4 true from inferInstance)
     · refine W.skip (W.seq ?_)
       refine W.l0 2 [.y 66 _] [] [] [(8,_),(66,_)] [(20,.var _),(18,.var _),(17,.var _),(15,.var _),(13,.var _),(11,.var _),(10,.var _),(9,.var _),(8,.var _),(7,.var _),(4,.var _)] 67 ⟨aU (lU 20 O O O O O O O),Zt⟩ O O O O (⟨O,_,R.stZ (gU 8 O) (xU 8 O) O (gV 66 O) (by rfl) (by rfl) (by rfl) (by rfl) O,tV [(8,_)] [(20,.var _),(18,.var _),(17,.var _),(15,.var _),(13,.var _),(11,.var _),(10,.var _),(9,.var _),(8,.var _),(7,.var _),(4,.var _)] 67 O O O ?_⟩)
       refine W.ret ?_
       exact Ends.one' (.inr O) O (by rw [prt_3 (bne_eq_false_iff_eq.1 hc38) hov (by simpa using hc64)]) O O (show LdT _ 139 4 true from inferInstance)
end Go.Sx

namespace Go.Sx
open Go.Proofs
theorem ofS_lim : (ofS lim).isSome = true:=by decide +kernel
theorem comp_lim : compS (ofB lim) = lim:=by decide +kernel
theorem of_lim : Fn Tryd.prog gl 60 [.u32 545259519] (.tup [bgD (ofB lim),.bool true]):=by
 have h:=tof_ok lim
 rw [ofS_lim] at h
 exact h
theorem comp_limF : Fn Tryd.prog gl 80 [bgD (ofB lim)] (.u32 545259519):=by
 have h:=tcomp_ok (ofB lim) (ofB_len _)
 rw [comp_lim] at h
 exact h
end Go.Sx

namespace Go.Sx
open Go.Proofs
theorem may13_ok : Fn Tryd.prog gl 78 [.agg [.u32 545259519,.int 10,.u32 10,.nils,hdrD easyH]] (.bool true):=by
 refine Fn.of (n:=94) Tryd.func78 rfl rfl rfl (nU rfl) fun C hC hD=>?_
 refine W.seq ?_
 refine W.l0 2 [] [] [] [(0,_)] [] 94 Zt O O O O (⟨O,_,R.box (gV 0 O) O O (nU O),⟨O,_,R.asg (kB false O) O (nU O),tV [(1,_)] [(1,.var _)] 94 O O O ?_⟩⟩)
 refine W.seq ?_
 refine W.l0 9 [.y 8 _,.y 9 _,.y 10 _,.y 7 _,.y 11 _,.y 12 _] [] [] [(1,_),(11,_),(12,_)] [(1,.var _)] 94 ⟨aU (fU 1 O O),aU (lU 8 O O O O O O O),aU fun _ _ H K=>R.callG hC (of_lim) (Bc (Bp (eU K 9 O) O O) Bn) (FrsR.two (frs_bg _) (.bool _)) H,aU fun _ _ H K=>R.movT (K 10 _ O) O H,aU fun _ _ H K=>R.ext (K 7 _ O) O O H,aU fun _ _ H K=>R.ext (K 7 _ O) O O H,Zt⟩ O O O O (⟨O,_,R.alloc O (nU O),⟨O,_,R.stZ (gU 3 O) (xU 3 O) O (gV 11 O) (by rfl) (by rfl) (by rfl) (by rfl) O,⟨O,_,R.asg (gV 12 O) O (nU O),tV [(1,_),(3,_),(4,_)] [(3,.var _),(1,.var _)] 94 O O O ?_⟩⟩⟩)
 refine W.seq (W.seq ?_)
 refine W.draw (m:=37) (an:=(0 :: 1 :: 3 :: 7 :: 15 :: 7 :: 39 :: 127 :: 255 :: 511 :: 1023 :: 2047 :: 4095 :: 8191 :: 16383 :: 32767 :: 65535 :: 131071 :: 262143 :: 524287 :: 1048575 :: 2097151 :: 4194303 :: 8388607 :: 16777215 :: 33554431 :: 67108863 :: 134217727 :: 268435455 :: 536870911 :: 1073741823 :: 2147483647 :: 4294967295 :: 1073741823 :: 9663676415 :: 34359738367 :: 68719476735 :: [])) hP dU O (its:=(.y 13 _ :: .y 14 _ :: .y 15 _ :: .y 16 _ :: .y 17 _ :: .y 18 _ :: .y 19 _ :: .y 20 _ :: .y 21 _ :: .y 22 _ :: .y 23 _ :: .y 24 _ :: .y 25 _ :: .y 26 _ :: .y 27 _ :: .y 28 _ :: .y 29 _ :: .y 30 _ :: .y 31 _ :: .y 32 _ :: .y 33 _ :: .y 34 _ :: .y 35 _ :: .y 36 _ :: .y 37 _ :: .y 38 _ :: .y 39 _ :: .y 40 _ :: .y 41 _ :: .y 42 _ :: .y 43 _ :: .y 44 _ :: .y 45 _ :: .y 46 _ :: .y 47 _ :: .y 48 _ :: .y 49 _ :: [])) (ks:=[]) (kk:=[]) (live:=[1,49]) (env':=[(1,_),(49,_)]) (⟨nU O,O,⟨mU 4 O O,aU fun _ _ H K=>R.un (eU K 13 O) O H,mU 14 O O,aW O O (gF (O) O) (lU 3 O O O O O O O),aW O O (gF (O) O) fun _ _ H K=>R.callG hC (comp_limF) (Bc (Bp (eU K 16 O) O O) Bn) (FrsR.one (.u32 _)) H,aW O O (gF (O) O) (fU 1 O O),aW O O (gF (O) O) (lU 18 O O O O O O O),aW O O (gF (O) O) fun _ _ H K=>R.bin (eU K 17 O) (eU K 19 O) O Zt H,aU fun _ _ H K=>R.pickF (eU K 15 O) (O) (eU K 20 O) O H,mU 21 O O,aW O O (gF dU O) (fU 1 O O),aW O O (gF dU O) (lU 23 O O O O O O O),aW O O (gF dU O) fun _ _ H K=>R.lssN (10) (2) (eU K 24 O) (kI 2 O) H,aU fun _ _ H K=>R.pickF (eU K 22 O) dU (eU K 25 O) O H,mU 26 O O,aW O O (gF dU O) (fU 1 O O),aW O O (gF dU O) (lU 28 O O O O O O O),aW O O (gF dU O) fun _ _ H K=>R.gtrN (10) (2016) (eU K 29 O) (kI 2016 O) H,aU fun _ _ H K=>R.pickF (eU K 27 O) dU (eU K 30 O) O H,mU 31 O O,aW O O (gF dU O) (fU 1 O O),aW O O (gF dU O) (lU 33 O O O O O O O),aW O O (gF dU O) fun _ _ H K=>R.bin (eU K 34 O) (show ev _ _ (.const (.int .u32 1)) = some (.u32 1) from O) O Zt H,aU fun _ _ H K=>R.pickF (eU K 32 O) dU (eU K 35 O) O H,mU 36 O O,aW O O (gF dU O) (fU 1 O O),aW O O (gF dU O) (lU 38 O O O O O O O),aW O O (gF dU O) fun _ _ H K=>R.bin (eU K 39 O) (show ev _ _ (.const (.int .u32 3600)) = some (.u32 3600) from O) O Zt H,aU fun _ _ H K=>R.pickF (eU K 37 O) dU (eU K 40 O) O H,mU 41 O O,aW O O (gF dU O) (fU 1 O O),aW O O (gF dU O) (fU 43 O O),aW O O (gF dU O) (lU 44 O O O O O O O),aW O O (gF dU O) (fU 1 O O),aW O O (gF dU O) (lU 46 O O O O O O O),aW O O (gF dU O) fun _ _ H K=>R.bin (eU K 45 O) (eU K 47 O) O Zt H,aU fun _ _ H K=>R.pickF (eU K 42 O) dU (eU K 48 O) O H,Zt⟩,O,O,O⟩) O (bx':=[(3,.var _),(1,.var _)]) O (n':=94) O (tV [(1,_),(49,_)] [(3,.var _),(1,.var _)] 94 O O O ?_)
 refine W.condF O dU ?_
 refine W.skip (W.seq (W.seq ?_))
 refine W.l0 1 [.y 5 _] [] [] [(1,_),(5,_)] [(3,.var _),(1,.var _)] 94 ⟨aU fun _ _ H _=>R.asg (kI 0 O) O H,Zt⟩ O O O O (tU O ?_)
 refine W.block ?_
 refine W.loopU ?_
 refine WU.step ?_
 show W _ _ _ _ _
 refine W.dropS (live:=[1,5]) (env':=[(1,_),(5,_)]) (bx':=[(3,.var _),(1,.var _)]) (n':=94) O O O ?_
 refine W.dropB [1] (bx':=[(1,.var _)]) O O O (pin_sub hD O) ?_
 refine W.seq (W.seq ?_)
 refine W.l0 5 [.y 50 _,.y 51 _,.y 52 _,.y 53 _,.y 54 _] [] [] [(1,_),(5,_),(54,_)] [(1,.var _)] 94 ⟨mU 5 O O,aU (fU 1 O O),aU (lU 51 O O O O O O O),aU fun _ _ H K=>R.lenE (n:=0) (SC.nil (z:=1) (K 52 _ O)) (O) H,aU fun _ _ H K=>R.lssN (0) (0) (eU K 50 O) (eU K 53 O) H,Zt⟩ O O O O (tU O ?_)
 refine W.condF O dU ?_
 refine W.exit (W.seq ?_)
 refine W.l0 1 [.y 2 _] [] [] [(2,_)] [(1,.var _)] 94 ⟨aU fun _ _ H _=>R.asg (kB true O) O H,Zt⟩ O O O O (tU O ?_)
 refine W.ret ?_
 exact Ends.one' (.inr O) O (O) O O Zt
theorem bits13_ok (l : List HdS) (hl0 : l.length <= 1000) : Fn Tryd.prog gl 58 [.agg [.u32 545259519,.int 10,.u32 10,.nils,hdrD easyH],.sl none 68 (l.map hdrD)] (.u32 (bitsP l)):=by
 refine Fn.of (n:=86) Tryd.func58 rfl rfl rfl (nU rfl) fun C hC hD=>?_
 refine W.seq ?_
 refine W.l0 2 [] [] [] [(0,_),(1,_)] [] 86 Zt O O O O (⟨O,_,R.box (gV 0 O) O O (nU O),⟨O,_,R.asg (show ev _ _ (.const (.int .u32 0)) = some (.u32 0) from O) O (nU O),tV [(1,_),(2,_)] [(2,.var _)] 86 O O O ?_⟩⟩)
 refine W.seq ?_
 refine W.l0 3 [.y 14 _,.y 15 _,.y 5 _] [] [] [(1,_),(2,_),(5,_)] [(2,.var _)] 86 ⟨mU 1 O O,aU fun _ _ H K=>R.lenE (SC.sl (K 14 _ O)) (lN _) H,aU fun _ _ H K=>R.asg (eU K 15 O) O H,Zt⟩ O O O O (tU O ?_)
 refine W.seq (W.seq ?_)
 by_cases hn : l.length = 0
 · refine W.l0 7 [.y 16 _,.y 17 _,.y 18 _,.x 19,.x 20,.x 21,.y 22 _] [] [] [(1,_),(2,_),(5,_),(22,_)] [(2,.var _)] 86 ⟨mU 5 O O,aU fun _ _ H K=>R.eqlN (l.length) (0) (eU K 16 O) (kI 0 O) H,mU 17 O O,aF O O (gT (dT hn) O),aF O O (gT (dT hn) O),aF O O (gT (dT hn) O),aU fun _ _ H K=>R.pickT (eU K 18 O) (dT hn) (kB true O) O H,Zt⟩ O O O O (tU O ?_)
   refine W.condT O (O) ?_
   refine W.seq ?_
   refine W.l0 1 [.y 4 _] [] [] [(4,_)] [(2,.var _)] 86 ⟨aU fun _ _ H _=>R.asg (show ev _ _ (.const (.int .u32 0)) = some (.u32 0) from O) O H,Zt⟩ O O O O (tU O ?_)
   refine W.ret ?_
   exact Ends.one' (.inr O) O (by rw [bitsP_0 hn]) O O Zt
 · refine W.l0 7 [.y 16 _,.y 17 _,.y 18 _,.y 19 _,.y 20 _,.y 21 _,.y 22 _] [] [] [(1,_),(2,_),(5,_),(22,_)] [(2,.var _)] 86 ⟨mU 5 O O,aU fun _ _ H K=>R.eqlN (l.length) (0) (eU K 16 O) (kI 0 O) H,mU 17 O O,aW O O (gF (dF hn) O) (lU 2 O O O O O O O),aW O O (gF (dF hn) O) fun _ _ H K=>R.callG hC (may13_ok) (Bc (Bp (eU K 19 O) O O) Bn) (FrsR.one (.bool _)) H,aW O O (gF (dF hn) O) fun _ _ H K=>R.un (eU K 20 O) O H,aU fun _ _ H K=>R.pickF (eU K 18 O) (dF hn) (eU K 21 O) O H,Zt⟩ O O O O (tU O ?_)
   refine W.condF O (O) ?_
   refine W.skip (W.seq ?_)
   refine W.l0 7 [.y 23 _,.y 24 _,.y 25 _,.y 26 _,.y 27 _] [] [] [(1,_),(2,_),(5,_),(27,_)] [(2,.var _)] 86 ⟨mU 1 O O,mU 5 O O,aU fun _ _ H K=>R.subN (l.length) (1) (eU K 24 O) (kI 1 O) bU bU H,aU fun _ _ H K=>R.idxN ((l.length - 1)) (SC.sl (K 23 _ O)) (evoI (eU K 25 O)) O bU H dU,aU fun _ _ H K=>R.ldE (K 26 _ O) (SC.sl (K 23 _ O)) (map_get! (l:=l) bU) O O O O H,Zt⟩ O O O O (⟨O,_,R.alloc O (nU O),⟨O,_,R.stZ (gU 6 O) (xU 6 O) O (gV 27 O) (by rfl) (by rfl) (by rfl) (by rfl) O,tV [(1,_),(2,_),(5,_),(6,_)] [(6,.var _),(2,.var _)] 86 O O O ?_⟩⟩)
   refine W.seq (W.seq ?_)
   refine W.l0 5 [.y 28 _,.y 29 _,.y 30 _,.y 31 _,.y 32 _] [] [] [(1,_),(2,_),(5,_),(6,_),(32,_)] [(6,.var _),(2,.var _)] 86 ⟨mU 5 O O,aU (fU 2 O O),aU (lU 29 O O O O O O O),aU fun _ _ H K=>R.remN (l.length) (10) (eU K 28 O) (eU K 30 O) bU H,aU fun _ _ H K=>R.neqN ((l.length % 10)) (0) (eU K 31 O) (kI 0 O) H,Zt⟩ O O O O (tU O ?_)
   refine W.condD O (fun hc32=>?_) (fun hc32=>?_)
   · refine W.seq ?_
     refine W.l0 3 [.y 33 _,.y 34 _,.y 4 _] [] [] [(4,_)] [(6,.var _),(2,.var _)] 86 ⟨aU (fU 6 O O),aU (lU 33 O O O O O O O),aU fun _ _ H K=>R.asg (eU K 34 O) O H,Zt⟩ O O O O (tU O ?_)
     refine W.ret ?_
     exact Ends.one' (.inr O) O (by rw [bitsP_1 hn hc32]) O O Zt
   · refine W.skip (W.seq ?_)
     refine W.l0 7 [.y 35 _,.y 36 _,.y 37 _,.y 38 _,.y 39 _,.y 40 _,.y 7 _] [] [] [(1,_),(2,_),(5,_),(6,_),(7,_)] [(6,.var _),(2,.var _)] 86 ⟨aU (fU 2 O O),aU (lU 35 O O O O O O O),aU (fU 2 O O),aU (lU 37 O O O O O O O),aU fun _ _ H K=>R.conv (eU K 38 O) O H,aU fun _ _ H K=>R.mulN (10) (10) (eU K 36 O) (eU K 39 O) bU H,aU fun _ _ H K=>R.asg (eU K 40 O) O H,Zt⟩ O O O O (tU O ?_)
     refine W.seq ?_
     have ht1:=l[l.length - 1]!.time.toNat_lt
     have ht2:=l[l.length - 10]!.time.toNat_lt
     refine W.draw (m:=14) (an:=[0,1,3,0,0,0,32,112,248,504,1016,2040,4095,8191]) hP dU O (its:=[.y 41 _,.y 42 _,.y 43 _,.y 44 _,.y 45 _,.y 46 _,.y 47 _,.y 48 _,.y 49 _,.y 50 _,.y 51 _,.y 52 _,.y 53 _,.y 8 _]) (ks:=[]) (kk:=[]) (live:=[2,6,7,8]) (env':=[(2,_),(6,_),(7,_),(8,_)]) (⟨nU O,O,⟨aU (fU 6 O O),aU (lU 41 O O O O O O O),aU fun _ _ H K=>R.conv (eU K 42 O) O H,mU 1 O O,mU 5 O O,aU (fU 2 O O),aU (lU 46 O O O O O O O),aU fun _ _ H K=>R.subN (l.length) (10) (eU K 45 O) (eU K 47 O) bU bU H,aU fun _ _ H K=>R.idxN ((l.length - 10)) (SC.sl (K 44 _ O)) (evoI (eU K 48 O)) O bU H dU,aU fun _ _ H K=>R.fdE (K 49 _ O) H dU,aU fun _ _ H K=>R.ldE (K 50 _ O) (SC.sl (K 44 _ O)) (map_get! (l:=l) bU) O O O O H,aU fun _ _ H K=>R.conv (eU K 51 O) O H,aU fun _ _ H K=>R.binE (d:=.int (((l[l.length - 1]!.time.toNat : Nat) : Int) - ((l[l.length - 10]!.time.toNat : Nat) : Int))) (eU K 43 O) (eU K 52 O) O Zt (wr_eq (by omega) (by omega) (by omega)) H,aU fun _ _ H K=>R.asg (eU K 53 O) O H,Zt⟩,O,O,O⟩) O (bx':=[(6,.var _),(2,.var _)]) O (n':=86) O (tV [(2,_),(6,_),(7,_),(8,_)] [(6,.var _),(2,.var _)] 86 O O O ?_)
     refine W.seq ?_
     refine W.l0 8 [.y 54 _,.y 55 _,.y 56 _,.y 57 _,.y 58 _,.y 59 _,.y 60 _,.y 8 _] [] [] [(2,_),(6,_),(7,_),(8,_)] [(6,.var _),(2,.var _)] 86 ⟨mU 8 O O,mU 7 O O,aU fun _ _ H K=>R.quoN (100) (4) (eU K 55 O) (kI 4 O) bU bU H,aU fun _ _ H K=>R.maxI (r:=(max (((l[l.length - 1]!.time.toNat : Nat) : Int) - ((l[l.length - 10]!.time.toNat : Nat) : Int)) 25)) (eU K 54 O) (eU K 56 O) (O) H,mU 7 O O,aU fun _ _ H K=>R.mulN (4) (100) (kI 4 O) (eU K 58 O) bU H,aU fun _ _ H K=>R.minI (r:=(spanZ l)) (eU K 57 O) (eU K 59 O) (O) H,aU fun _ _ H K=>R.asg (eU K 60 O) O H,Zt⟩ O O O O (tU O ?_)
     refine W.seq ?_
     refine W.l0 9 [.y 62 _,.y 63 _,.y 64 _,.y 61 _,.y 65 _,.y 66 _] [] [] [(6,_),(7,_),(8,_),(65,_),(66,_)] [(6,.var _),(2,.var _)] 86 ⟨aU (fU 2 O O),aU (lU 62 O O O O O O O),aU fun _ _ H K=>R.callG hC (of_lim) (Bc (Bp (eU K 63 O) O O) Bn) (FrsR.two (frs_bg _) (.bool _)) H,aU fun _ _ H K=>R.movT (K 64 _ O) O H,aU fun _ _ H K=>R.ext (K 61 _ O) O O H,aU fun _ _ H K=>R.ext (K 61 _ O) O O H,Zt⟩ O O O O (⟨O,_,R.alloc O (nU O),⟨O,_,R.stZ (gU 9 O) (xU 9 O) O (gV 65 O) (by rfl) (by rfl) (by rfl) (by rfl) O,⟨O,_,R.asg (gV 66 O) O (nU O),tV [(6,_),(7,_),(8,_),(9,_)] [(9,.var _),(6,.var _),(2,.var _)] 86 O O O ?_⟩⟩⟩)
     refine W.seq ?_
     refine W.l0 9 [.y 68 _,.y 69 _,.y 70 _,.y 67 _,.y 71 _,.y 72 _] [] [] [(7,_),(8,_),(9,_),(71,_),(72,_)] [(9,.var _),(6,.var _),(2,.var _)] 86 ⟨aU (fU 6 O O),aU (lU 68 O O O O O O O),aU fun _ _ H K=>R.callG hC (tof_ok l[l.length - 1]!.bits) (Bc (Bp (eU K 69 O) O O) Bn) (FrsR.two (frs_bg _) (.bool _)) H,aU fun _ _ H K=>R.movT (K 70 _ O) O H,aU fun _ _ H K=>R.ext (K 67 _ O) O O H,aU fun _ _ H K=>R.ext (K 67 _ O) O O H,Zt⟩ O O O O (⟨O,_,R.alloc O (nU O),⟨O,_,R.stZ (gU 11 O) (xU 11 O) O (gV 71 O) (by rfl) (by rfl) (by rfl) (by rfl) O,⟨O,_,R.asg (gV 72 O) O (nU O),tV [(7,_),(8,_),(9,_),(11,_)] [(11,.var _),(9,.var _),(6,.var _),(2,.var _)] 86 O O O ?_⟩⟩⟩)
     refine W.seq ?_
     refine W.l0 9 [.y 73 _,.y 74 _,.y 75 _,.y 76 _,.y 77 _,.y 78 _,.y 79 _] [] [] [(79,_)] [(11,.var _),(9,.var _),(6,.var _),(2,.var _)] 86 ⟨aU (lU 11 O O O O O O O),mU 8 O O,aU fun _ _ H K=>R.conv (eU K 74 O) O H,mU 7 O O,aU fun _ _ H K=>R.convE (d:=.u64 100) (eU K 76 O) O (O) H,aU (lU 9 O O O O O O O),aU fun _ _ H K=>R.callG hC (part_ok (ofB l[l.length - 1]!.bits) (UInt64.ofInt (spanZ l)) 100 (ofB lim) (ofB_len _) (ofB_len _)) (Bc (Bp (eU K 73 O) O O) (Bc (Bp (eU K 75 O) O O) (Bc (Bp (eU K 77 O) O O) (Bc (Bp (eU K 78 O) O O) Bn)))) (FrsR.one (frs_bg _)) H,Zt⟩ O O O O (⟨O,_,R.alloc O (nU O),⟨O,_,R.stZ (gU 13 O) (xU 13 O) O (gV 79 O) (by rfl) (by rfl) (by rfl) (by rfl) O,tV [(13,_)] [(13,.var _),(11,.var _),(9,.var _),(6,.var _),(2,.var _)] 86 O O O ?_⟩⟩)
     refine W.seq (W.seq ?_)
     by_cases hz : newT l = zeroB
     · refine W.l0 3 [.y 80 _,.y 81 _,.y 82 _] [] [] [(13,_),(82,_)] [(13,.var _),(11,.var _),(9,.var _),(6,.var _),(2,.var _)] 86 ⟨aU (lU 13 O O O O O O O),aU fun _ _ H _=>R.bldAZ O H,aU fun _ _ H K=>R.eqD (neg:=false) (b':=((newT l) == zeroB)) (eqv_bg _ _) O (eU K 80 O) (eU K 81 O) O O O O (O) H,Zt⟩ O O O O (tU O ?_)
       refine W.condT O (beq_iff_eq.2 hz) ?_
       refine W.l0 2 [.y 83 _] [] [] [(13,_),(83,_)] [(13,.var _),(11,.var _),(9,.var _),(6,.var _),(2,.var _)] 86 ⟨aU fun _ _ H _=>R.bldAP (z:=1) (l2:=([1,0,0,0].map D.u64)) (.cons (show ev _ _ (.const (.int .u64 1)) = some (.u64 1) from O) (.nil O)) ⟨⟨_,(show ev _ _ (.const (.int .u64 1)) = some (.u64 1) from O),O,O,O,O⟩,Zt⟩ (O) H,Zt⟩ O O O O (⟨O,_,R.stZ (gU 13 O) (xU 13 O) O (gV 83 O) (by rfl) (by rfl) (by rfl) (by rfl) O,tV [(13,_)] [(13,.var _),(11,.var _),(9,.var _),(6,.var _),(2,.var _)] 86 O O O ?_⟩)
       refine W.seq ?_
       refine W.l0 3 [.y 84 _,.y 85 _,.y 4 _] [] [] [(4,_)] [(13,.var _),(11,.var _),(9,.var _),(6,.var _),(2,.var _)] 86 ⟨aU (lU 13 O O O O O O O),aU fun _ _ H K=>R.callG hC (tcomp_ok [1,0,0,0] O) (Bc (Bp (eU K 84 O) O O) Bn) (FrsR.one (.u32 _)) H,aU fun _ _ H K=>R.asg (eU K 85 O) O H,Zt⟩ O O O O (tU O ?_)
       refine W.ret ?_
       exact Ends.one' (.inr O) O (by rw [bitsP_2 hn hc32 hz]) O O Zt
     · refine W.l0 3 [.y 80 _,.y 81 _,.y 82 _] [] [] [(13,_),(82,_)] [(13,.var _),(11,.var _),(9,.var _),(6,.var _),(2,.var _)] 86 ⟨aU (lU 13 O O O O O O O),aU fun _ _ H _=>R.bldAZ O H,aU fun _ _ H K=>R.eqD (neg:=false) (b':=((newT l) == zeroB)) (eqv_bg _ _) O (eU K 80 O) (eU K 81 O) O O O O (O) H,Zt⟩ O O O O (tU O ?_)
       refine W.condF O (beq_eq_false_iff_ne.2 hz) ?_
       refine W.skip (W.seq ?_)
       refine W.l0 3 [.y 84 _,.y 85 _,.y 4 _] [] [] [(4,_)] [(13,.var _),(11,.var _),(9,.var _),(6,.var _),(2,.var _)] 86 ⟨aU (lU 13 O O O O O O O),aU fun _ _ H K=>R.callG hC (tcomp_ok (newT l) (newT_len l)) (Bc (Bp (eU K 84 O) O O) Bn) (FrsR.one (.u32 _)) H,aU fun _ _ H K=>R.asg (eU K 85 O) O H,Zt⟩ O O O O (tU O ?_)
       refine W.ret ?_
       exact Ends.one' (.inr O) O (by rw [bitsP_3 hn hc32 hz]) O O Zt
theorem easy_ok : Fn Tryd.prog gl 10 [.int ((10 : Nat) : Int),.u32 10] (.agg [.u32 545259519,.int 10,.u32 10,.nils,hdrD easyH]):=by
 refine Fn.of (n:=9) Tryd.func10 rfl rfl rfl (nU rfl) fun C hC hD=>?_
 refine W.seq ?_
 refine W.l0 1 [] [] [] [(0,_),(1,_)] [] 9 Zt O O O O (⟨O,_,R.alloc O (nU O),tV [(0,_),(1,_),(4,_)] [(4,.var _)] 9 O O O ?_⟩)
 refine W.seq ?_
 refine W.l0 5 [.y 5 _,.y 6 _,.y 7 _,.y 8 _] [] [] [(4,_),(8,_)] [(4,.var _)] 9 ⟨mU 0 O O,mU 1 O O,aU fun _ _ H _=>R.bldSE (l:=[.u32 0,.arr 32 1 ((List.replicate 32 0).map D.u8),.arr 32 1 ((List.replicate 32 0).map D.u8),.u32 0,.u32 0,.u32 0]) (l':=[_,_,_,_,_,_]) (.cons (show ev _ _ (.const (.int .u32 1)) = some (.u32 1) from O) (.cons (show ev _ _ (.const (.int .u32 1000)) = some (.u32 1000) from O) (.cons (show ev _ _ (.const (.int .u32 545259519)) = some (.u32 545259519) from O) (.nil O)))) ⟨⟨_,(show ev _ _ (.const (.int .u32 1)) = some (.u32 1) from O),O,O,O⟩,⟨⟨_,(show ev _ _ (.const (.int .u32 1000)) = some (.u32 1000) from O),O,O,O⟩,⟨⟨_,(show ev _ _ (.const (.int .u32 545259519)) = some (.u32 545259519) from O),O,O,O⟩,Zt⟩⟩⟩ H,aU fun _ _ H K=>R.bldSE (l:=[.u32 0,.int 0,.u32 0,.nils,.agg [.u32 0,.arr 32 1 ((List.replicate 32 0).map D.u8),.arr 32 1 ((List.replicate 32 0).map D.u8),.u32 0,.u32 0,.u32 0]]) (l':=[_,_,_,_,_]) (.cons (show ev _ _ (.const (.int .u32 545259519)) = some (.u32 545259519) from O) (.cons (eU K 5 O) (.cons (eU K 6 O) (.cons (eU K 7 O) (.nil O))))) ⟨⟨_,(show ev _ _ (.const (.int .u32 545259519)) = some (.u32 545259519) from O),O,O,O⟩,⟨⟨_,(eU K 5 O),O,O,O⟩,⟨⟨_,(eU K 6 O),O,O,O⟩,⟨⟨_,(eU K 7 O),O,O,O⟩,Zt⟩⟩⟩⟩ H,Zt⟩ O O O O (⟨O,_,R.stZ (gU 4 O) (xU 4 O) O (gV 8 O) (by rfl) (by rfl) (by rfl) (by rfl) O,tV [(4,_)] [(4,.var _)] 9 O O O ?_⟩)
 refine W.ret ?_
 exact Ends.one' (.inr O) O (O) O O (show LdT _ 37 72 true from inferInstance)
end Go.Sx

namespace Go.Sx
theorem med_0 {l : List HdS} (h : l.length = 0) : medS l = 0:=by unfold medS; exact if_pos h
theorem med_1 {l : List HdS} (h : ¬ l.length = 0) : medS l = (medI l (min l.length 11))[min l.length 11 / 2]!:=by unfold medS; exact if_neg h
theorem u32_succ (n : Nat) : UInt32.ofNat n + 1 = UInt32.ofNat (n + 1):=by
 apply UInt32.toNat_inj.1
 rw [UInt32.toNat_add,UInt32.toNat_ofNat',UInt32.toNat_ofNat']
 show (n % 4294967296 + 1) % 4294967296 = _
 omega
theorem u32_lt {n : Nat} (h : n <= 200) : (UInt32.ofNat n < 200) ↔ n < 200:=by
 rw [UInt32.lt_iff_toNat_lt,UInt32.toNat_ofNat']
 have e : (200 : UInt32).toNat = 200:=rfl
 rw [e]
 omega
structure MI (l : List HdS) (time : UInt32) (root : Hs) (h : HdS) (n : Nat) : Prop where
 wf : h.wf
 le : n <= 200
 is : (ofS (bitsP l)).isSome = true -> mineF h (ofB (bitsP l)) (200 - n) = mineS l time root
 no : (ofS (bitsP l)).isSome = false -> mineS l time root = (h,false)
theorem MI.init {l : List HdS} {time : UInt32} {root : Hs} (hr : root.length = 32) : MI l time root (head0 l time root) 0 where
 wf:=head0_wf l time root hr
 le:=Nat.zero_le _
 is:=fun h=>by
  cases hs : ofS (bitsP l) with
  | none=>rw [hs] at h; cases h
  | some t=>rw [mineS_some hs,ofB_is hs]
 no:=fun h=>by
  cases hs : ofS (bitsP l) with
  | none=>exact mineS_none hs
  | some t=>rw [hs] at h; cases h
theorem mineF_step {h : HdS} {t : Bg} {n : Nat} (hn : n < 200) : mineF h t (200 - n) = if meetS (hridS { h with nonce:=UInt32.ofNat n }) t = true then ({ h with nonce:=UInt32.ofNat n },true) else mineF { h with nonce:=UInt32.ofNat n } t (200 - (n + 1)):=by
 obtain ⟨k,hk⟩ : ∃ k,200 - n = k + 1:=⟨199 - n,by omega⟩
 rw [hk,mineF,show 199 - k = n by omega,show 200 - (n + 1) = k by omega]
theorem MI.found {l : List HdS} {time : UInt32} {root : Hs} {h : HdS} {n : Nat} (hi : MI l time root h n) (hs : (ofS (bitsP l)).isSome = true) (hn : n < 200) (hm : meetS (hridS { h with nonce:=UInt32.ofNat n }) (ofB (bitsP l)) = true) :
 mineS l time root = ({ h with nonce:=UInt32.ofNat n },true):=by rw [<- hi.is hs,mineF_step hn,if_pos hm]
theorem MI.next {l : List HdS} {time : UInt32} {root : Hs} {h : HdS} {n : Nat} (hi : MI l time root h n) (hs : (ofS (bitsP l)).isSome = true) (hn : n < 200) (hm : ¬ meetS (hridS { h with nonce:=UInt32.ofNat n }) (ofB (bitsP l)) = true) :
 MI l time root { h with nonce:=UInt32.ofNat n } (n + 1) where
 wf:=wfI hi.wf.1 hi.wf.2
 le:=by omega
 is:=fun _=>by rw [<- hi.is hs,mineF_step hn,if_neg hm]
 no:=fun h=>by rw [h] at hs; cases hs
theorem MI.last {l : List HdS} {time : UInt32} {root : Hs} {h : HdS} {n : Nat} (hi : MI l time root h n) (hs : (ofS (bitsP l)).isSome = true) (hn : ¬ n < 200) : mineS l time root = (h,false):=by
 rw [<- hi.is hs,show 200 - n = 0 by omega,mineF]
end Go.Sx
