/-
 Own library: a part of the code that several ways lead to is walked once.
-/
import Derived.Test.YtdjoepmmffghhaaDoorMTx10
import Derived.Test.YtdjoepmmffghhaaDoorMSxBldO
import Derived.Recover
import Derived.Test.YtdjoepmmffghhaaDoorMSxOwn
set_option linter.unusedVariables false
set_option linter.unusedSimpArgs false
set_option linter.unnecessarySimpa false

namespace Go.Sx
open Go.Proofs
def itemsO : Nat → List UInt8 → Option (List (List UInt8) × List UInt8)
 | 0,b => some ([],b)
 | n + 1,b => (itemO b).bind fun p => (itemsO n p.2).bind fun q => some (p.1 :: q.1,q.2)
def witO (b : List UInt8) : Option (List (List UInt8) × List UInt8) := (cntO b).bind fun c => itemsO c.1 c.2
def setW (x : InS) (ws : List (List UInt8)) : InS := { x with wit := ws }
def witsO : List InS → List UInt8 → Option (List InS × List UInt8)
 | [],b => some ([],b)
 | x :: xs,b => (witO b).bind fun p => (witsO xs p.2).bind fun q => some (setW x p.1 :: q.1,q.2)
section
variable {b u u2 r x : List UInt8} {n j : Nat} {ws : List (List UInt8)} {ins l rest : List InS} {y : InS}
theorem it_step (h : itemsO n r = (itemsO (n - j) u).map fun z => (ws ++ z.1,z.2)) (hj : j < n) (h2 : itemO u = some (x,u2)) : itemsO n r = (itemsO (n - (j + 1)) u2).map fun z => ((ws ++ [x]) ++ z.1,z.2) := by
 rw [h,show n - j = (n - (j + 1)) + 1 by omega]
 simp only [itemsO,h2,Option.bind_some]
 cases itemsO (n - (j + 1)) u2 <;> simp
theorem it_none (h : itemsO n r = (itemsO (n - j) u).map fun z => (ws ++ z.1,z.2)) (hj : j < n) (h2 : itemO u = none) : itemsO n r = none := by
 rw [h,show n - j = (n - (j + 1)) + 1 by omega]
 simp [itemsO,h2]
theorem it_end (h : itemsO n r = (itemsO (n - n) u).map fun z => (ws ++ z.1,z.2)) : itemsO n r = some (ws,u) := by
 rw [h,Nat.sub_self]; simp [itemsO]
theorem wo_n1 (h : cntO b = none) : witO b = none := by unfold witO; rw [h]; rfl
theorem wo_n2 (h : cntO b = some (n,r)) (h2 : itemsO n r = none) : witO b = none := by unfold witO; rw [h,Option.bind_some,h2]
theorem wo_s (h : cntO b = some (n,r)) (h2 : itemsO n r = some (ws,u)) : witO b = some (ws,u) := by unfold witO; rw [h,Option.bind_some,h2]
theorem ws_step {b0 : List UInt8} (h : witsO ins b0 = (witsO (y :: rest) b).map fun z => (l ++ z.1,z.2)) (h2 : witO b = some (ws,u)) : witsO ins b0 = (witsO rest u).map fun z => ((l ++ [setW y ws]) ++ z.1,z.2) := by
 rw [h]
 simp only [witsO,h2,Option.bind_some]
 cases witsO rest u <;> simp
theorem ws_none {b0 : List UInt8} (h : witsO ins b0 = (witsO (y :: rest) b).map fun z => (l ++ z.1,z.2)) (h2 : witO b = none) : witsO ins b0 = none := by
 rw [h]; simp [witsO,h2]
theorem ws_end {b0 : List UInt8} (h : witsO ins b0 = (witsO [] b).map fun z => (l ++ z.1,z.2)) : witsO ins b0 = some (l,b) := by
 rw [h]; simp [witsO]
theorem rest_cons (h : l.length + rest.length = n) (hi : l.length < n) : ∃ y r,rest = y :: r := by
 cases rest with
 | nil => simp at h; omega
 | cons y r => exact ⟨y,r,rfl⟩
theorem rest_nil (h : l.length + rest.length = n) (hi : ¬ l.length < n) : rest = [] := by
 cases rest with
 | nil => rfl
 | cons y r => simp at h; omega
end
def inWt (x : InS) (ws : List (List UInt8)) : D := .agg [.agg [hashD x.tx,.u32 x.n],bytesD x.script,.u32 x.seq,.sl (some 29) 1 (ws.map bytesD)]
def wl (l : List InS) (m : List D) (q : Nat) : D := .agg ((l.map inD ++ m) ++ List.replicate q .dead)
theorem inD_sz (x : InS) : (inD x).sz = 36 := by simp [inD,hashD,bytesD,D.sz]
section
variable {l : List InS} {r : List D} {q i : Nat} {a b c x y : D}
theorem wl_at (hi : l.length = i) (m : D) : ((l.map inD ++ m :: r) ++ List.replicate q D.dead)[i]? = some m := by
 subst hi
 rw [List.append_assoc,List.getElem?_append_right (by simp)]
 simp
theorem wl_loc (hi : l.length = i) (ha : a.sz = 33) (hb : b.sz = 1) (hc : c.sz = 1) : (wl l (.agg [a,b,c,x] :: r) q).loc [i,3] = some (i * 36 + 35,x) := by
 unfold wl
 simp only [D.loc,wl_at hi]
 have e1 : offk ((l.map inD ++ D.agg [a,b,c,x] :: r) ++ List.replicate q D.dead) i = i * 36 := by
  rw [List.append_assoc]
  exact offk_uni _ _ (fun d hd => by obtain ⟨z,_,rfl⟩ := List.mem_map.1 hd; exact inD_sz z) i (by simp; omega)
 have e2 : offk [a,b,c,x] 3 = 35 := by simp [offk,ha,hb,hc]
 rw [e1,e2]; rfl
theorem wl_upd (hi : l.length = i) : (wl l (.agg [a,b,c,x] :: r) q).upd [i,3] y = some (wl l (.agg [a,b,c,y] :: r) q) := by
 unfold wl
 simp only [D.upd,wl_at hi]
 subst hi
 simp
theorem wl_noArr (hi : l.length = i) : (wl l (.agg [a,b,c,x] :: r) q).noArr [i,3] = true := by
 unfold wl
 simp only [D.noArr,wl_at hi]
 rfl
theorem brw_inWt (z : InS) (ws : List (List UInt8)) : (inWt z ws).brw = inD (setW z ws) := by
 simp only [inWt,inD,setW,D.brw,brws_eq,List.map_cons,List.map_nil,brw_bytes,brw_hash]
 rw [brw_map (fun b => brw_bytes b)]
theorem brw_deads (q : Nat) : (List.replicate q D.dead).map D.brw = List.replicate q D.dead := by simp [D.brw]
theorem wl_brw (z : InS) (ws : List (List UInt8)) (rs : List InS) : (wl l (inWt z ws :: rs.map inN) q).brw = wl (l ++ [setW z ws]) (rs.map inN) q := by
 unfold wl
 simp only [D.brw,brws_eq,List.map_append,List.map_cons,List.map_nil,brw_inWt,brw_deads]
 rw [brw_map brw_inD,brw_map brw_inN]
 simp
theorem wl_end : (wl l (([] : List InS).map inN) q).brw = .agg (l.map inD ++ List.replicate q .dead) := by
 unfold wl
 simp only [D.brw,brws_eq,List.map_append,List.map_nil,brw_deads,List.append_nil]
 rw [brw_map brw_inD]
end
end Go.Sx

namespace Go.Sx
open Go.Proofs
theorem rwits_ok (b : List UInt8) (hb0 : b.length ≤ 100000) (v k : UInt32) (ins : List InS) (outs : List OutS) (hil : ins.length ≤ 1000000) (hne : ins ≠ []) : FnO Tryd.prog gl 45 [.ptr 0 0 [],.ptr 1 0 []] [(0,.var (.agg [.sl none 1 (b.map D.u8)])),(1,.var (.agg [.u32 v,.sl (some 56) 36 (ins.map inN),.sl (some 46) 2 (outs.map outD),.u32 k]))] (((witsO ins b).map fun q => (.tup [],[(0,.var (.agg [bytesD q.2])),(1,.var (.agg [.u32 v,.sl none 36 (q.1.map inD),.sl none 2 (outs.map outD),.u32 k]))],[]))) := by
 refine FnO.of (n := 38) (ids := [0,1]) Tryd.func45 rfl rfl rfl (nU rfl) fun C hC hD => ?_
 refine W.seq ?_
 refine W.openB 9 1 [1] rfl rfl rfl rfl rfl rfl (fun _ => rfl) (by simpa using hne) rfl (fun _ => rfl) fun cap q _ _ _ => ?_
 refine W.l0 6 [.y 5 _,.y 6 _,.y 7 _,.y 8 _,.y 9 _,.y 10 _] [] [] [(0,_),(1,_),(9,_),(10,_)] [(9,.var _),(0,.var _),(1,.var _)] 38 ⟨mU 1 rfl rfl,aU fun _ _ H K => R.nilcP (K 5 _ rfl) H,aU (fU 6 rfl rfl),aU (lU 7 rfl rfl rfl rfl rfl rfl rfl),aU fun _ _ H K => R.lenBs (K 8 _ rfl) H,aU fun _ _ H _ => R.mov (kI 0 rfl) rfl H,trivial⟩ rfl rfl rfl rfl (tU rfl ?_)
 refine W.block ?_
 refine W.loop (α := {q__ : Nat × List InS × List InS × List UInt8 // q__.2.1.length = q__.1 ∧ q__.2.1.length + q__.2.2.1.length = ins.length ∧ q__.2.2.2.length ≤ b.length ∧ witsO ins b = (witsO q__.2.2.1 q__.2.2.2).map fun z => (q__.2.1 ++ z.1,z.2)}) (fun q__ => ⟨38,[(0,.ptr 0 0 []),(1,.ptr 1 0 []),(9,.int ((ins.length : Nat) : Int)),(10,.int ((q__.1.1 : Nat) : Int))],[(9,.var (wl q__.1.2.1 (q__.1.2.2.1.map inN) q)),(0,.var (.agg [.sl none 1 (q__.1.2.2.2.map D.u8)])),(1,.var (.agg [.u32 v,.bs 9 36 ins.length cap,.sl (some 46) 2 (outs.map outD),.u32 k]))]⟩) (fun q__ => ins.length - q__.1.1) ⟨(0,[],ins,b),⟨rfl,by simp,Nat.le_refl _,by simp⟩⟩ (by simp only [List.length_map]; rfl) ?_
 rintro ⟨⟨i,l,rest,r⟩,⟨hli,hlen,hrb,hO⟩⟩
 show W _ _ _ _ ⟨38,[(0,.ptr 0 0 []),(1,.ptr 1 0 []),(9,.int ((ins.length : Nat) : Int)),(10,.int ((i : Nat) : Int))],[(9,.var (wl l (rest.map inN) q)),(0,.var (.agg [.sl none 1 (r.map D.u8)])),(1,.var (.agg [.u32 v,.bs 9 36 ins.length cap,.sl (some 46) 2 (outs.map outD),.u32 k]))]⟩
 have hli : l.length = i := hli
 have hlen : l.length + rest.length = ins.length := hlen
 have hrb : r.length ≤ b.length := hrb
 have hO : witsO ins b = (witsO rest r).map fun z => (l ++ z.1,z.2) := hO
 refine W.seq ?_
 refine W.l0 1 [.y 11 _] [] [] [(0,_),(1,_),(9,_),(10,_),(11,_)] [(9,.var _),(0,.var _),(1,.var _)] 38 ⟨aU fun _ _ H K => R.lssN (i) (ins.length) (eU K 10 rfl) (eU K 9 rfl) H,trivial⟩ rfl rfl rfl rfl (tU rfl ?_)
 refine W.seq ?_
 refine W.condD rfl (fun hc11 => ?_) (fun hc11 => ?_)
 · refine W.skip ?_
   refine W.seq ?_
   refine W.block ?_
   refine W.seq ?_
   obtain ⟨x,rs,rfl⟩ := rest_cons hlen (by omega)
   show W _ _ _ _ _
   have hlr : l.length + rs.length + 1 = ins.length := by simp at hlen; omega
   refine W.l0 2 [.y 12 _,.y 4 _] [] [] [(0,_),(1,_),(4,_),(9,_),(10,_)] [(9,.var _),(0,.var _),(1,.var _)] 38 ⟨mU 10 rfl rfl,aU fun _ _ H K => R.asg (eU K 12 rfl) rfl H,trivial⟩ rfl rfl rfl rfl (tU rfl ?_)
   refine W.seq ?_
   rcases hE : cntO r with _ | ⟨n,r1⟩
   · refine W.asOwnP 9 [i,3] 29 1 (bx' := [(9,.var _),(0,.var _),(1,.var _)]) rfl (wl_loc hli rfl rfl rfl) (wl_noArr hli) (wl_upd hli) rfl ?_
     refine W.lineX (n := 3) (by decide) (its := [.y 13 _]) (ks := []) (kk := []) (live := [0,1,4,9,10,13]) (env' := [(0,_),(1,_),(4,_),(9,_),(10,_),(13,_)]) (⟨nU rfl,rfl,⟨mU 0 rfl rfl,trivial⟩,rfl,rfl,rfl⟩) rfl (bx' := [(9,.var _),(0,.var _),(1,.var _)]) rfl (n' := 38) rfl (⟨rfl,.inr (R.callX [(0,0)] hC (FnO.none' (rcount_ok r (by omega)) (by rw [hE]; rfl)) (EvB.cons (gV 13 rfl) rfl rfl rfl EvB.nil) rfl ⟨rfl,trivial⟩ ⟨rfl,trivial⟩ rfl (fun e he => ?_))⟩)
     obtain ⟨ch,rfl,hch⟩ := he
     exact EndsO.none' (by rw [ws_none hO (wo_n1 hE)]; rfl) ⟨⟨ch,rfl,hch⟩,⟨⟨_,rfl,by first | rfl | simp [dds_sz,sz_ren,D.sz]⟩,⟨⟨_,rfl,by first | rfl | simp [dds_sz,sz_ren,D.sz]⟩,trivial⟩⟩⟩
   have hr1 := cntO_le hE (by omega)
   refine W.asOwnP 9 [i,3] 29 1 (bx' := [(9,.var _),(0,.var _),(1,.var _)]) rfl (wl_loc hli rfl rfl rfl) (wl_noArr hli) (wl_upd hli) rfl ?_
   refine W.l0 3 [.y 13 _] [] [] [(0,_),(1,_),(4,_),(9,_),(10,_),(13,_)] [(9,.var _),(0,.var _),(1,.var _)] 38 ⟨mU 0 rfl rfl,trivial⟩ rfl rfl rfl rfl (⟨rfl,_,R.callB [(0,0)] hC (FnO.some' (r := .int ((n : Nat) : Int)) (bx' := [(0,.var (.agg [.sl none 1 (r1.map D.u8)]))]) (nw := []) (rcount_ok r (by omega)) (by rw [hE]; rfl)) (EvB.cons (gV 13 rfl) rfl rfl rfl EvB.nil) rfl ⟨rfl,trivial⟩ ⟨rfl,trivial⟩ rfl rfl rfl rfl rfl rfl (nU rfl),⟨rfl,_,R.mov (kI 0 rfl) rfl (nU rfl),tV [(0,_),(1,_),(4,_),(9,_),(10,_),(14,_),(15,_)] [(9,.var _),(0,.var _),(1,.var _)] 38 rfl rfl rfl ?_⟩⟩)
   refine W.block ?_
   refine W.loop (α := {q__ : Nat × List (List UInt8) × List UInt8 // q__.1 ≤ n ∧ q__.2.1.length = q__.1 ∧ q__.2.2.length + q__.1 ≤ r1.length ∧ itemsO n r1 = (itemsO (n - q__.1) q__.2.2).map fun z => (q__.2.1 ++ z.1,z.2)}) (fun q__ => ⟨38,[(0,.ptr 0 0 []),(1,.ptr 1 0 []),(4,.int ((i : Nat) : Int)),(9,.int ((ins.length : Nat) : Int)),(10,.int ((i : Nat) : Int)),(14,.int ((n : Nat) : Int)),(15,.int ((q__.1.1 : Nat) : Int))],[(9,.var (wl l (inWt x q__.1.2.1 :: rs.map inN) q)),(0,.var (.agg [.sl none 1 (q__.1.2.2.map D.u8)])),(1,.var (.agg [.u32 v,.bs 9 36 ins.length cap,.sl (some 46) 2 (outs.map outD),.u32 k]))]⟩) (fun q__ => n - q__.1.1) ⟨(0,[],r1),⟨Nat.zero_le _,rfl,by simp,by simp⟩⟩ rfl ?_
   rintro ⟨⟨j,ws,u⟩,⟨hj,hwj,hub,hI⟩⟩
   show W _ _ _ _ ⟨38,[(0,.ptr 0 0 []),(1,.ptr 1 0 []),(4,.int ((i : Nat) : Int)),(9,.int ((ins.length : Nat) : Int)),(10,.int ((i : Nat) : Int)),(14,.int ((n : Nat) : Int)),(15,.int ((j : Nat) : Int))],[(9,.var (wl l (inWt x ws :: rs.map inN) q)),(0,.var (.agg [.sl none 1 (u.map D.u8)])),(1,.var (.agg [.u32 v,.bs 9 36 ins.length cap,.sl (some 46) 2 (outs.map outD),.u32 k]))]⟩
   have hj : j ≤ n := hj
   have hwj : ws.length = j := hwj
   have hub : u.length + j ≤ r1.length := hub
   have hI : itemsO n r1 = (itemsO (n - j) u).map fun z => (ws ++ z.1,z.2) := hI
   refine W.seq ?_
   refine W.l0 1 [.y 16 _] [] [] [(0,_),(1,_),(4,_),(9,_),(10,_),(14,_),(15,_),(16,_)] [(9,.var _),(0,.var _),(1,.var _)] 38 ⟨aU fun _ _ H K => R.lssN (j) (n) (eU K 15 rfl) (eU K 14 rfl) H,trivial⟩ rfl rfl rfl rfl (tU rfl ?_)
   refine W.seq ?_
   refine W.condD rfl (fun hc16 => ?_) (fun hc16 => ?_)
   · refine W.skip ?_
     refine W.seq ?_
     refine W.block ?_
     rcases hE2 : itemO u with _ | ⟨y,u2⟩
     · refine W.drawX (m := 17) (an := [0,1,3,7,0,0,32,96,224,0,992,2016,4064,0,8192,24576,65504,131071,262143,524287]) (its := [.y 17 _,.y 18 _,.y 19 _,.y 20 _,.y 21 _,.y 22 _,.y 23 _,.y 24 _,.y 25 _,.y 26 _,.y 27 _,.y 28 _,.y 29 _,.y 30 _,⟨31,.dead,true⟩,⟨32,.dead,true⟩,⟨33,.dead,true⟩]) (ks := []) (kk := []) 14 hP (by decide) rfl ⟨nU rfl,rfl,rfl,rfl⟩ (            ⟨⟨rfl,rfl,fun _ τ hb ht hτ => R.mov (evt (hτ 1 _ rfl)) rfl ht⟩,⟨⟨rfl,rfl,fun _ τ hb ht hτ => R.nilcP (hτ 17 _ rfl) ht⟩,⟨⟨rfl,rfl,fun _ τ hb ht hτ => R.fdP (hτ 18 _ rfl) ht⟩,⟨⟨rfl,rfl,fun _ τ hb ht hτ => R.ldP (hτ 19 _ rfl) (hb 1 _ rfl) rfl rfl rfl rfl ht⟩,⟨⟨rfl,rfl,fun _ τ hb ht hτ => R.mov (evt (hτ 4 _ rfl)) rfl ht⟩,⟨⟨rfl,rfl,fun _ τ hb ht hτ => R.mov (evt (hτ 1 _ rfl)) rfl ht⟩,⟨⟨rfl,rfl,fun _ τ hb ht hτ => R.nilcP (hτ 22 _ rfl) ht⟩,⟨⟨rfl,rfl,fun _ τ hb ht hτ => R.fdP (hτ 23 _ rfl) ht⟩,⟨⟨rfl,rfl,fun _ τ hb ht hτ => R.ldP (hτ 24 _ rfl) (hb 1 _ rfl) rfl rfl rfl rfl ht⟩,⟨⟨rfl,rfl,fun _ τ hb ht hτ => R.mov (evt (hτ 4 _ rfl)) rfl ht⟩,⟨⟨rfl,rfl,fun _ τ hb ht hτ => R.idxBs (i) (hτ 25 _ rfl) (evoI (evt (hτ 26 _ rfl))) rfl bU ht⟩,⟨⟨rfl,rfl,fun _ τ hb ht hτ => R.fdP (hτ 27 _ rfl) ht⟩,⟨⟨rfl,rfl,fun _ τ hb ht hτ => R.ldO (hτ 28 _ rfl) (hb 9 _ rfl) (wl_loc hli rfl rfl rfl) ht⟩,⟨⟨rfl,rfl,fun _ τ hb ht hτ => R.mov (evt (hτ 0 _ rfl)) rfl ht⟩,⟨⟨rfl,rfl,SpX.callX [(0,0)] hC (FnO.none' (ritem_ok u (by omega)) (by rw [hE2]; rfl)) (fun τ hτ => (EvB.cons (evt (hτ 30 _ rfl)) rfl rfl rfl EvB.nil)) rfl ⟨rfl,trivial⟩ ⟨rfl,trivial⟩ rfl (fun e he => ?_)⟩,⟨trivial,⟨trivial,trivial⟩⟩⟩⟩⟩⟩⟩⟩⟩⟩⟩⟩⟩⟩⟩⟩⟩) rfl (nU rfl)
       obtain ⟨ch,rfl,hch⟩ := he
       exact EndsO.none' (by rw [ws_none hO (wo_n2 hE (it_none hI (by omega) hE2))]; rfl) ⟨⟨ch,rfl,hch⟩,⟨⟨_,rfl,by first | rfl | simp [dds_sz,sz_ren,D.sz]⟩,⟨⟨_,rfl,by first | rfl | simp [dds_sz,sz_ren,D.sz]⟩,trivial⟩⟩⟩
     have hu2 := itemO_len hE2 (by omega)
     refine W.drawE (m := 17) (an := [0,1,3,7,0,0,32,96,224,0,992,2016,4064,0,8192,24576,65504,131071,262143,524287]) (its := [.y 17 _,.y 18 _,.y 19 _,.y 20 _,.y 21 _,.y 22 _,.y 23 _,.y 24 _,.y 25 _,.y 26 _,.y 27 _,.y 28 _,.y 29 _,.y 30 _,.y 31 _,.y 32 _,.y 33 _]) (ks := [(16,29)]) (kk := []) (efs := [(14,[(0,.var _)]),(16,[(9,.var _)])]) (live := [0,1,4,9,10,14,15,20,21,33]) (env' := [(0,_),(1,_),(4,_),(9,_),(10,_),(14,_),(15,_),(20,_),(21,_),(33,_)]) (nd := 40) (bx1 := [(9,.var _),(0,.var _),(1,.var _)]) hP (by decide) rfl ⟨⟨63,rfl⟩,nU rfl,rfl,rfl,rfl,rfl⟩ (          ⟨⟨rfl,nU rfl,rfl,fun _ τ hb ht hτ => R.mov (evt (hτ 1 _ rfl)) rfl ht⟩,⟨⟨rfl,nU rfl,rfl,fun _ τ hb ht hτ => R.nilcP (hτ 17 _ rfl) ht⟩,⟨⟨rfl,nU rfl,rfl,fun _ τ hb ht hτ => R.fdP (hτ 18 _ rfl) ht⟩,⟨⟨rfl,nU rfl,rfl,fun _ τ hb ht hτ => R.ldP (hτ 19 _ rfl) (hb 1 _ rfl) rfl rfl rfl rfl ht⟩,⟨⟨rfl,nU rfl,rfl,fun _ τ hb ht hτ => R.mov (evt (hτ 4 _ rfl)) rfl ht⟩,⟨⟨rfl,nU rfl,rfl,fun _ τ hb ht hτ => R.mov (evt (hτ 1 _ rfl)) rfl ht⟩,⟨⟨rfl,nU rfl,rfl,fun _ τ hb ht hτ => R.nilcP (hτ 22 _ rfl) ht⟩,⟨⟨rfl,nU rfl,rfl,fun _ τ hb ht hτ => R.fdP (hτ 23 _ rfl) ht⟩,⟨⟨rfl,nU rfl,rfl,fun _ τ hb ht hτ => R.ldP (hτ 24 _ rfl) (hb 1 _ rfl) rfl rfl rfl rfl ht⟩,⟨⟨rfl,nU rfl,rfl,fun _ τ hb ht hτ => R.mov (evt (hτ 4 _ rfl)) rfl ht⟩,⟨⟨rfl,nU rfl,rfl,fun _ τ hb ht hτ => R.idxBs (i) (hτ 25 _ rfl) (evoI (evt (hτ 26 _ rfl))) rfl bU ht⟩,⟨⟨rfl,nU rfl,rfl,fun _ τ hb ht hτ => R.fdP (hτ 27 _ rfl) ht⟩,⟨⟨rfl,nU rfl,rfl,fun _ τ hb ht hτ => R.ldO (hτ 28 _ rfl) (hb 9 _ rfl) (wl_loc hli rfl rfl rfl) ht⟩,⟨⟨rfl,nU rfl,rfl,fun _ τ hb ht hτ => R.mov (evt (hτ 0 _ rfl)) rfl ht⟩,⟨⟨rfl,rfl,⟨rfl,nU rfl⟩,(SpE.frz (d' := .sl none 1 (y.map D.u8)) (SpE.callB [(0,0)] hC (FnO.some' (r := .sl (some 5) 1 (y.map D.u8)) (bx' := [(0,.var (.agg [.sl none 1 (u2.map D.u8)]))]) (nw := []) (ritem_ok u (by omega)) (by rw [hE2]; rfl)) (fun τ hτ => (EvB.cons (evt (hτ 30 _ rfl)) rfl rfl rfl EvB.nil)) rfl ⟨rfl,trivial⟩ ⟨rfl,trivial⟩ rfl rfl rfl rfl (nU rfl)) rfl rfl (show (.sl (some 5) 1 (y.map D.u8) : D).brw = _ from by simp only [D.brw,brws_eq]; rw [brw_map (fun _ => rfl)]))⟩,⟨⟨rfl,nU rfl,rfl,fun _ τ hb ht hτ => R.bslE (z := 1) (.cons (evt (hτ 31 _ rfl)) .nil) ⟨⟨rfl,rfl,rfl⟩,trivial⟩ rfl ht (by decide)⟩,⟨⟨rfl,rfl,⟨rfl,nU rfl⟩,(SpE.appB (s := 29) (id := 9) rfl rfl (wl_loc hli rfl rfl rfl) (wl_noArr hli) (wl_upd hli) (fun τ hb hτ => (SrcO.sc (SC.sl (hτ 32 _ rfl rfl rfl)) (pur_lit rfl))) (show _ = ((ws ++ [y]).map bytesD) from (by rw [List.map_append]; rfl)) bU (by decide) (by decide) rfl (nU rfl))⟩,trivial⟩⟩⟩⟩⟩⟩⟩⟩⟩⟩⟩⟩⟩⟩⟩⟩⟩) rfl rfl rfl (n' := 38) rfl (⟨rfl,_,R.idxBs (i) (gU 20 rfl) (evoI (gV 21 rfl)) rfl bU (nU rfl),⟨rfl,_,R.fdP (gU 34 rfl) (nU rfl),⟨rfl,_,R.stOZ (gU 35 rfl) (xU 9 rfl) (wl_loc hli rfl rfl rfl) (gU 33 rfl) rfl rfl (by rfl) (by rfl) (wl_upd hli) (wl_noArr hli),⟨[0,1,4,9,10,14,15],[(0,_),(1,_),(4,_),(9,_),(10,_),(14,_),(15,_)],[(9,.var _),(0,.var _),(1,.var _)],38,rfl,rfl,rfl, ?_⟩⟩⟩⟩)
     refine W.l0 2 [.y 36 _,.y 15 _] [] [] [(0,_),(1,_),(4,_),(9,_),(10,_),(14,_),(15,_)] [(9,.var _),(0,.var _),(1,.var _)] 38 ⟨aU fun _ _ H K => R.addN (j) (1) (eU K 15 rfl) (kI 1 rfl) bU H,mU 36 rfl rfl,trivial⟩ rfl rfl rfl rfl (tU rfl ?_)
     exact ⟨⟨(j + 1,ws ++ [y],u2),⟨by omega,by simp [hwj],(show u2.length + (j + 1) ≤ r1.length by omega),it_step hI (by omega) hE2⟩⟩,rfl,(by simp only []; omega)⟩
   · obtain rfl : j = n := by omega
     have hWo := wo_s hE (it_end hI)
     refine W.exit ?_
     refine W.brwB 9 (d' := wl (l ++ [setW x ws]) (rs.map inN) q) (bx' := [(9,.var _),(0,.var _),(1,.var _)]) rfl (wl_brw x ws rs) rfl ?_
     refine W.l0 2 [.y 37 _,.y 10 _] [] [] [(0,_),(1,_),(9,_),(10,_)] [(9,.var _),(0,.var _),(1,.var _)] 38 ⟨aU fun _ _ H K => R.addN (i) (1) (eU K 10 rfl) (kI 1 rfl) bU H,mU 37 rfl rfl,trivial⟩ rfl rfl rfl rfl (tU rfl ?_)
     exact ⟨⟨(i + 1,l ++ [setW x ws],rs,u),⟨by simp [hli],by simp; omega,(show u.length ≤ b.length by omega),ws_step hO hWo⟩⟩,rfl,(by simp only []; omega)⟩
 · obtain rfl := rest_nil hlen (by omega)
   show W _ _ _ _ _
   have hlen : l.length = ins.length := by simpa using hlen
   refine W.brwB 9 (d' := .agg (l.map inD ++ List.replicate q .dead)) (bx' := [(9,.var _),(0,.var _),(1,.var _)]) rfl wl_end rfl ?_
   refine W.shutB 9 1 [1] [0,1] (bx' := [(0,.var _),(1,.var _)]) rfl rfl (by decide) rfl rfl rfl (by simpa using hlen) (fun d hd => by obtain ⟨z,_,rfl⟩ := List.mem_map.1 hd; rfl) (fun d hd => by obtain ⟨z,_,rfl⟩ := List.mem_map.1 hd; rfl) (fun d hd => by obtain ⟨z,_,rfl⟩ := List.mem_map.1 hd; exact inD_sz z) rfl rfl rfl rfl (pin_sub hD rfl) ?_
   refine W.brwB 1 (d' := .agg [.u32 v,.sl none 36 (l.map inD),.sl none 2 (outs.map outD),.u32 k]) (bx' := [(0,.var _),(1,.var _)]) rfl (show (D.agg [.u32 v,.sl none 36 (l.map inD),.sl (some 46) 2 (outs.map outD),.u32 k]).brw = _ from by simp only [D.brw,brws_eq,List.map_cons,List.map_nil]; rw [brw_map brw_inD,brw_map brw_outD]) rfl ?_
   refine W.exit ?_
   exact EndsO.some' (r := .tup []) (bx' := [(0,.var (.agg [.sl none 1 (r.map D.u8)])),(1,.var (.agg [.u32 v,.sl none 36 (l.map inD),.sl none 2 (outs.map outD),.u32 k]))]) (nw := []) (by rw [ws_end hO]; rfl) (EndsB.none' (r := .dead) (.inl rfl) rfl (rfl) ⟨rfl,⟨rfl,trivial⟩⟩)

end Go.Sx

namespace Go.Sx
def szW : List (List UInt8) → Nat
 | [] => 0
 | x :: r => 1 + x.length + szW r
def szI : List InS → Nat
 | [] => 0
 | x :: r => 41 + x.script.length + szW x.wit + szI r
def szO : List OutS → Nat
 | [] => 0
 | x :: r => 9 + x.script.length + szO r
def szT (t : TxS) : Nat := szI t.ins + szO t.outs
theorem hvW_ge (n : Nat) (l : List (List UInt8)) : n ≤ hvW n l := by
 induction l generalizing n with
 | nil => exact Nat.le_refl _
 | cons x r ih =>
  simp only [hvW]
  split
  · exact Nat.le_trans (by omega) (ih _)
  · exact Nat.le_refl _
theorem hvI_ge (n : Nat) (l : List InS) : n ≤ hvI n l := by
 induction l generalizing n with
 | nil => exact Nat.le_refl _
 | cons x r ih =>
  simp only [hvI]
  split
  · exact Nat.le_trans (Nat.le_trans (by omega) (hvW_ge _ _)) (ih _)
  · exact Nat.le_refl _
theorem hvO_ge (n : Nat) (l : List OutS) : n ≤ hvO n l := by
 induction l generalizing n with
 | nil => exact Nat.le_refl _
 | cons x r ih =>
  simp only [hvO]
  split
  · exact Nat.le_trans (by omega) (ih _)
  · exact Nat.le_refl _
theorem hvW_sz (n : Nat) (l : List (List UInt8)) (h : hvW n l ≤ 32768) : hvW n l = n + szW l := by
 induction l generalizing n with
 | nil => rfl
 | cons x r ih =>
  simp only [hvW] at h ⊢
  have hn : n ≤ 32768 := by
   split at h
   · assumption
   · omega
  rw [if_pos hn] at h ⊢
  rw [ih _ h,szW]; omega
theorem hvI_sz (n : Nat) (l : List InS) (h : hvI n l ≤ 32768) : hvI n l = n + szI l := by
 induction l generalizing n with
 | nil => rfl
 | cons x r ih =>
  simp only [hvI] at h ⊢
  have hn : n ≤ 32768 := by
   split at h
   · assumption
   · omega
  rw [if_pos hn] at h ⊢
  have hw : hvW (n + 41 + x.script.length) x.wit ≤ 32768 := Nat.le_trans (hvI_ge _ r) h
  rw [ih _ h,hvW_sz _ _ hw,szI]; omega
theorem hvO_sz (n : Nat) (l : List OutS) (h : hvO n l ≤ 32768) : hvO n l = n + szO l := by
 induction l generalizing n with
 | nil => rfl
 | cons x r ih =>
  simp only [hvO] at h ⊢
  have hn : n ≤ 32768 := by
   split at h
   · assumption
   · omega
  rw [if_pos hn] at h ⊢
  rw [ih _ h,szO]; omega
theorem heavy_sz {t : TxS} (h : heavyS t = false) : szT t ≤ 32768 := by
 unfold heavyS at h
 have h1 : hvO (hvI 0 t.ins) t.outs ≤ 32768 := by have := of_decide_eq_false h; omega
 have h2 : hvI 0 t.ins ≤ 32768 := Nat.le_trans (hvO_ge _ _) h1
 rw [hvO_sz _ _ h1,hvI_sz _ _ h2] at h1
 unfold szT; omega

theorem szW_get {l : List (List UInt8)} {b : List UInt8} (h : b ∈ l) : b.length + 1 ≤ szW l := by
 induction l with
 | nil => cases h
 | cons x r ih =>
  simp only [szW]
  rcases List.mem_cons.1 h with rfl | h
  · omega
  · have := ih h; omega
theorem szI_get {l : List InS} {x : InS} (h : x ∈ l) : 41 + x.script.length + szW x.wit ≤ szI l := by
 induction l with
 | nil => cases h
 | cons y r ih =>
  simp only [szI]
  rcases List.mem_cons.1 h with rfl | h
  · omega
  · have := ih h; omega
theorem szO_get {l : List OutS} {x : OutS} (h : x ∈ l) : 9 + x.script.length ≤ szO l := by
 induction l with
 | nil => cases h
 | cons y r ih =>
  simp only [szO]
  rcases List.mem_cons.1 h with rfl | h
  · omega
  · have := ih h; omega
theorem szW_len (l : List (List UInt8)) : l.length ≤ szW l := by
 induction l with
 | nil => exact Nat.le_refl _
 | cons x r ih => simp only [szW,List.length_cons]; omega
theorem szI_len (l : List InS) : 41 * l.length ≤ szI l := by
 induction l with
 | nil => exact Nat.le_refl _
 | cons x r ih => simp only [szI,List.length_cons]; omega
theorem szO_len (l : List OutS) : 9 * l.length ≤ szO l := by
 induction l with
 | nil => exact Nat.le_refl _
 | cons x r ih => simp only [szO,List.length_cons]; omega
theorem szW_app (l r : List (List UInt8)) : szW (l ++ r) = szW l + szW r := by
 induction l with
 | nil => simp [szW]
 | cons x l ih => simp only [List.cons_append,szW,ih]; omega
theorem szI_app (l r : List InS) : szI (l ++ r) = szI l + szI r := by
 induction l with
 | nil => simp [szI]
 | cons x l ih => simp only [List.cons_append,szI,ih]; omega
theorem szO_app (l r : List OutS) : szO (l ++ r) = szO l + szO r := by
 induction l with
 | nil => simp [szO]
 | cons x l ih => simp only [List.cons_append,szO,ih]; omega
theorem take_snoc {α : Type} [Inhabited α] {l : List α} {i : Nat} (h : i < l.length) : l.take (i + 1) = l.take i ++ [l[i]!] := by
 rw [getElem!_pos l i h,List.take_succ_eq_append_getElem h]
theorem szW_take (l : List (List UInt8)) (i : Nat) : szW (l.take i) ≤ szW l := by
 have := szW_app (l.take i) (l.drop i)
 rw [List.take_append_drop] at this; omega
theorem szI_take (l : List InS) (i : Nat) : szI (l.take i) ≤ szI l := by
 have := szI_app (l.take i) (l.drop i)
 rw [List.take_append_drop] at this; omega
theorem szO_take (l : List OutS) (i : Nat) : szO (l.take i) ≤ szO l := by
 have := szO_app (l.take i) (l.drop i)
 rw [List.take_append_drop] at this; omega
theorem witS_le (l : List (List UInt8)) : ∀ i,i ≤ l.length → (witS l i).length ≤ 10 * szW (l.take i) := by
 intro i
 induction i with
 | zero => intro _; simp [witS]
 | succ i ih =>
  intro h
  have := ih (by omega)
  have h2 := itemS_len l[i]!
  rw [take_snoc (by omega),szW_app]
  simp only [witS,List.length_append,szW]
  omega
theorem insS_le (l : List InS) (hh : ∀ x ∈ l,x.tx.length = 32) : ∀ i,i ≤ l.length → (insS l i).length ≤ 2 * szI (l.take i) := by
 intro i
 induction i with
 | zero => intro _; simp [insS]
 | succ i ih =>
  intro h
  have := ih (by omega)
  have h2 := itemS_len l[i]!.script
  have h3 := hh _ (get_mem (show i < l.length by omega))
  rw [take_snoc (by omega),szI_app]
  simp only [insS,inS,List.length_append,szI,lowI_len]
  omega
theorem outsS_le (l : List OutS) : ∀ i,i ≤ l.length → (outsS l i).length ≤ 2 * szO (l.take i) := by
 intro i
 induction i with
 | zero => intro _; simp [outsS]
 | succ i ih =>
  intro h
  have := ih (by omega)
  have h2 := itemS_len l[i]!.script
  rw [take_snoc (by omega),szO_app]
  simp only [outsS,outS',List.length_append,szO,lowI_len]
  omega
theorem witsS_le (l : List InS) : ∀ i,i ≤ l.length → (witsS l i).length ≤ 10 * szI (l.take i) := by
 intro i
 induction i with
 | zero => intro _; simp [witsS]
 | succ i ih =>
  intro h
  have := ih (by omega)
  have h2 := countS_len l[i]!.wit.length
  have h3 := witS_le l[i]!.wit _ (Nat.le_refl _)
  rw [List.take_length] at h3
  rw [take_snoc (by omega),szI_app]
  simp only [witsS,List.length_append,szI]
  omega
theorem wf_of_sz {t : TxS} (h : szT t ≤ 100000) (hh : ∀ x ∈ t.ins,x.tx.length = 32) : t.wf := by
 unfold szT at h
 have a1 := szI_len t.ins
 have a2 := szO_len t.outs
 refine ⟨by omega,by omega,hh,fun x hx => ?_,fun x hx => ?_,fun i hi => ?_,fun i hi => ?_,fun i hi => ?_,fun x hx => ⟨?_,fun i hi => ?_⟩,fun x hx b hb => ?_⟩
 · have := szI_get hx; omega
 · have := szO_get hx; omega
 · have := insS_le t.ins hh i hi; have := szI_take t.ins i; omega
 · have := outsS_le t.outs i hi; have := szO_take t.outs i; omega
 · have := witsS_le t.ins i hi; have := szI_take t.ins i; omega
 · have := szI_get hx; have := szW_len x.wit; omega
 · have := szI_get hx; have := witS_le x.wit i hi; have := szW_take x.wit i; omega
 · have := szI_get hx; have := szW_get hb; omega

section
variable {b r : List UInt8} {n i : Nat} {l : List InS} {o : List OutS} {ws : List (List UInt8)}
theorem inO_sz {a : InS} (h : inO b = some (a,r)) (hb : b.length ≤ 100000) : a.tx.length = 32 ∧ a.wit = [] ∧ 41 + a.script.length + r.length ≤ b.length := by
 unfold inO at h
 cases h1 : takeO b 32 with
 | none => rw [h1] at h; cases h
 | some y =>
  obtain ⟨x,r1⟩ := y
  rw [h1,Option.bind_some] at h
  cases h2 : numO r1 4 with
  | none => rw [h2] at h; cases h
  | some y =>
   obtain ⟨p,r2⟩ := y
   rw [h2,Option.bind_some] at h
   cases h3 : itemO r2 with
   | none => rw [h3] at h; cases h
   | some y =>
    obtain ⟨s,r3⟩ := y
    rw [h3,Option.bind_some] at h
    cases h4 : numO r3 4 with
    | none => rw [h4] at h; cases h
    | some y =>
     obtain ⟨q,r4⟩ := y
     rw [h4,Option.bind_some] at h
     cases h
     have e1 := takeO_len h1
     have e2 := numO_len h2
     have e3 := itemO_len h3 (by omega)
     have e4 := numO_len h4
     exact ⟨e1.1,rfl,by show 41 + s.length + r4.length ≤ b.length; omega⟩
theorem outO_sz {a : OutS} (h : outO b = some (a,r)) (hb : b.length ≤ 100000) : 9 + a.script.length + r.length ≤ b.length := by
 unfold outO at h
 cases h1 : numO b 8 with
 | none => rw [h1] at h; cases h
 | some y =>
  obtain ⟨p,r1⟩ := y
  rw [h1,Option.bind_some] at h
  cases h2 : itemO r1 with
  | none => rw [h2] at h; cases h
  | some y =>
   obtain ⟨s,r2⟩ := y
   rw [h2,Option.bind_some] at h
   cases h
   have e1 := numO_len h1
   have e2 := itemO_len h2 (by omega)
   show 9 + s.length + r2.length ≤ b.length
   omega
theorem insO_sz (h : insO b i = some (l,r)) (hb : b.length ≤ 100000) : (∀ x ∈ l,x.tx.length = 32 ∧ x.wit = []) ∧ szI l + r.length ≤ b.length := by
 induction i generalizing l r with
 | zero => cases h; simp [szI]
 | succ i ih =>
  simp only [insO] at h
  cases h1 : insO b i with
  | none => rw [h1] at h; cases h
  | some y =>
   obtain ⟨l1,r1⟩ := y
   rw [h1,Option.bind_some] at h
   cases h2 : inO r1 with
   | none => rw [h2] at h; cases h
   | some y =>
    obtain ⟨a,r2⟩ := y
    rw [h2,Option.bind_some] at h
    cases h
    have e1 := ih h1
    have e2 := inO_sz h2 (by omega)
    refine ⟨fun x hx => ?_, ?_⟩
    · rcases List.mem_append.1 hx with hx | hx
      · exact e1.1 x hx
      · simp at hx; subst hx; exact ⟨e2.1,e2.2.1⟩
    · simp only [szI_app,szI,e2.2.1,szW]
      show szI l1 + (41 + a.script.length + 0 + 0) + r2.length ≤ b.length
      omega
theorem outsO_sz (h : outsO b i = some (o,r)) (hb : b.length ≤ 100000) : szO o + r.length ≤ b.length := by
 induction i generalizing o r with
 | zero => cases h; simp [szO]
 | succ i ih =>
  simp only [outsO] at h
  cases h1 : outsO b i with
  | none => rw [h1] at h; cases h
  | some y =>
   obtain ⟨l1,r1⟩ := y
   rw [h1,Option.bind_some] at h
   cases h2 : outO r1 with
   | none => rw [h2] at h; cases h
   | some y =>
    obtain ⟨a,r2⟩ := y
    rw [h2,Option.bind_some] at h
    cases h
    have e1 := ih h1
    have e2 := outO_sz h2 (by omega)
    simp only [szO_app,szO]
    show szO l1 + (9 + a.script.length + 0) + r2.length ≤ b.length
    omega
theorem bodyO_sz (h : bodyO b = some ((l,o),r)) (hb : b.length ≤ 100000) : (∀ x ∈ l,x.tx.length = 32 ∧ x.wit = []) ∧ szI l + szO o + r.length ≤ b.length := by
 unfold bodyO at h
 cases h1 : cntO b with
 | none => rw [h1] at h; cases h
 | some y =>
  obtain ⟨n,r1⟩ := y
  rw [h1,Option.bind_some] at h
  cases h2 : insO r1 n with
  | none => simp only [h2] at h; cases h
  | some y =>
   obtain ⟨l1,r2⟩ := y
   simp only [h2,Option.bind_some] at h
   cases h3 : cntO r2 with
   | none => rw [h3] at h; cases h
   | some y =>
    obtain ⟨m,r3⟩ := y
    simp only [h3,Option.bind_some] at h
    cases h4 : outsO r3 m with
    | none => rw [h4] at h; cases h
    | some y =>
     obtain ⟨o1,r4⟩ := y
     simp only [h4,Option.bind_some,Option.some.injEq,Prod.mk.injEq] at h
     obtain ⟨⟨rfl,rfl⟩,rfl⟩ := h
     have e1 := cntO_le h1 hb
     have e2 := insO_sz h2 (by omega)
     have e3 := cntO_le h3 (by omega)
     have e4 := outsO_sz h4 (by omega)
     exact ⟨e2.1,by omega⟩
theorem itemsO_sz (h : itemsO n b = some (ws,r)) (hb : b.length ≤ 100000) : szW ws + r.length ≤ b.length := by
 induction n generalizing b ws r with
 | zero => cases h; simp [szW]
 | succ n ih =>
  simp only [itemsO] at h
  cases h1 : itemO b with
  | none => rw [h1] at h; cases h
  | some y =>
   obtain ⟨x,r1⟩ := y
   simp only [h1,Option.bind_some] at h
   cases h2 : itemsO n r1 with
   | none => rw [h2] at h; cases h
   | some y =>
    obtain ⟨xs,r2⟩ := y
    simp only [h2,Option.bind_some,Option.some.injEq,Prod.mk.injEq] at h
    obtain ⟨rfl,rfl⟩ := h
    have e1 := itemO_len h1 hb
    have e2 := ih h2 (by omega)
    simp only [szW]; omega
theorem witO_sz (h : witO b = some (ws,r)) (hb : b.length ≤ 100000) : szW ws + r.length ≤ b.length := by
 unfold witO at h
 cases h1 : cntO b with
 | none => rw [h1] at h; cases h
 | some y =>
  obtain ⟨n,r1⟩ := y
  rw [h1,Option.bind_some] at h
  have e1 := cntO_le h1 hb
  have e2 := itemsO_sz h (by show r1.length ≤ 100000; omega)
  show szW ws + r.length ≤ b.length
  have : szW ws + r.length ≤ r1.length := e2
  omega
theorem witsO_sz {l' : List InS} (h : witsO l b = some (l',r)) (hb : b.length ≤ 100000) (hw : ∀ x ∈ l,x.tx.length = 32 ∧ x.wit = []) : (∀ x ∈ l',x.tx.length = 32) ∧ szI l' + r.length ≤ szI l + b.length ∧ l'.length = l.length := by
 induction l generalizing b l' r with
 | nil => cases h; simp
 | cons x xs ih =>
  simp only [witsO] at h
  cases h1 : witO b with
  | none => rw [h1] at h; cases h
  | some y =>
   obtain ⟨ws,r1⟩ := y
   simp only [h1,Option.bind_some] at h
   cases h2 : witsO xs r1 with
   | none => rw [h2] at h; cases h
   | some y =>
    obtain ⟨ys,r2⟩ := y
    simp only [h2,Option.bind_some,Option.some.injEq,Prod.mk.injEq] at h
    obtain ⟨rfl,rfl⟩ := h
    have e1 := witO_sz h1 hb
    have e2 := ih h2 (by omega) (fun z hz => hw z (List.mem_cons_of_mem _ hz))
    have e3 := hw x (by simp)
    refine ⟨fun z hz => ?_, ?_,by simp [e2.2.2]⟩
    · rcases List.mem_cons.1 hz with rfl | hz
      · exact e3.1
      · exact e2.1 z hz
    · simp only [szI,setW,e3.2,szW]
      omega
end
end Go.Sx

namespace Go.Sx
open Go.Proofs
set_option maxRecDepth 100000
theorem und20 : ∃ ms,Tryd.prog.underlying 20 = some (.interface ms) := ⟨_,rfl⟩
theorem neqNil0 (w : World) : (binOp .neq 20 .nilIface .nilIface).run Tryd.prog w = .ok (.bool false) w := by
 obtain ⟨ms,h⟩ := und20
 have : (Op.equal 20 .nilIface .nilIface).run Tryd.prog w = .ok true w := by
  unfold Op.equal
  rw [show Op.maxDepth = 9999 + 1 from rfl,Op.equalIn]
  simp [run_underlying h]
 simp [binOp,this]
theorem neqNil1 (w : World) (t : TypeId) (v : Value) : (binOp .neq 20 (.iface t v) .nilIface).run Tryd.prog w = .ok (.bool true) w := by
 obtain ⟨ms,h⟩ := und20
 have : (Op.equal 20 (.iface t v) .nilIface).run Tryd.prog w = .ok false w := by
  unfold Op.equal
  rw [show Op.maxDepth = 9999 + 1 from rfl,Op.equalIn]
  simp [run_underlying h]
 simp [binOp,this]
theorem eqGuardNil (w : World) (op : BinOp) (t : TypeId) (o : Operand) (x y : Value) (hx : ∀ cs,x ≠ .agg cs) : (eqGuard op t o (.const y) x .nilIface).run Tryd.prog w = .ok () w := by
 unfold eqGuard
 cases op <;> simp <;> cases x <;> simp_all

theorem get1R (b2 b3 : Nat) (w : World) : CallsD Tryd.prog 41 #[.pointer (some ⟨b2,0,none⟩),.pointer (some ⟨b3,0,none⟩)] .returning w (fun e u' w' => (∃ v,e = .returned v) ∧ u' = .returning ∧ w' = w) := by
 refine callsD_of_wpS Tryd.func41 rfl fun c0 cs hm => ?_
 refine wpS_seq (wpS_region ?_)
 have hr : recoverD (c0 :: cs) = none := by simp [recoverD,hm]
 simp [wpOpsS,List.range,List.range.loop,Region.wanted,execOp,resolve,invoke,builtin,hr,Act.put,Oper.upon,Act.eval,undef,eqGuardNil,neqNil0]
 show Code.wpS Tryd.prog _ _ _ _ _
 refine wpS_cond (t := false) rfl (wpS_of_wp (wp_skip ?_))
 exact ⟨rfl,.returning,by rw [← hm],.tuple #[],by simp [results,Tryd.f41],⟨_,rfl⟩,rfl,rfl⟩

theorem get1P (b2 b3 : Nat) (w : World) {ch : List PanicEntry} (hch : okCh ch) {cs2 cs3 : Array Value} {e2 e3 : TypeId} (h23 : b2 ≠ b3) (h2 : w.heap[b2]? = some (.cells cs2 e2 (0,0))) (hs2 : cs2.size = 4) (h3 : w.heap[b3]? = some (.cells cs3 e3 (0,0))) (hs3 : cs3.size = 1) :
 CallsD Tryd.prog 41 #[.pointer (some ⟨b2,0,none⟩),.pointer (some ⟨b3,0,none⟩)] (.panicking ch) w (fun e u' w' => (∃ v,e = .returned v) ∧ settle u' = .returning ∧
  w' = (w.setRow b2 #[.int .u32 0,.slice none 0 0,.slice none 0 0,.int .u32 0]).setRow b3 #[.int .i64 5]) := by
 obtain ⟨t,x,rfl⟩ := hch
 refine callsD_of_wpS Tryd.func41 rfl fun c0 cs hm => ?_
 refine wpS_seq (wpS_region ?_)
 have hr : recoverD (c0 :: cs) = some (.iface t x,{ c0 with mode := .panicking [{ v := .iface t x,recovered := true }] } :: cs) := by simp [recoverD,hm]
 simp [wpOpsS,List.range,List.range.loop,Region.wanted,execOp,resolve,invoke,builtin,hr,Act.put,Oper.upon,Act.eval,undef,eqGuardNil,neqNil1]
 show Code.wpS Tryd.prog _ _ _ _ _
 refine wpS_cond (t := true) rfl (wpS_region ?_)
 have hb : (Instr.build 26 #[]).run Tryd.prog w = .ok (.agg #[.int .u32 0,.slice none 0 0,.slice none 0 0,.int .u32 0]) w := run_build w 26 #[] _ rfl
 have s1 : (storeVar 26 ⟨b2,0,none⟩ (.agg #[.int .u32 0,.slice none 0 0,.slice none 0 0,.int .u32 0])).run Tryd.prog w = .ok () (w.setRow b2 #[.int .u32 0,.slice none 0 0,.slice none 0 0,.int .u32 0]) := by
  have := run_storeVar (P := Tryd.prog) (ty := 26) (n := 4) (w := w) (off := 0) (v := .agg #[.int .u32 0,.slice none 0 0,.slice none 0 0,.int .u32 0]) h2 rfl (by omega) (by intro u hu; simp [Value.cells] at hu; rcases hu with rfl | rfl | rfl | rfl <;> rfl)
  rw [this]
  have e : cs2.toList.drop 4 = [] := by apply List.drop_of_length_le; simp; omega
  simp [Value.cells,e]
 have s2 : (storeVar 34 ⟨b3,0,none⟩ (.int .i64 5)).run Tryd.prog (w.setRow b2 #[.int .u32 0,.slice none 0 0,.slice none 0 0,.int .u32 0]) = .ok () ((w.setRow b2 #[.int .u32 0,.slice none 0 0,.slice none 0 0,.int .u32 0]).setRow b3 #[.int .i64 5]) := by
  have := run_storeVar (P := Tryd.prog) (ty := 34) (n := 1) (w := w.setRow b2 #[.int .u32 0,.slice none 0 0,.slice none 0 0,.int .u32 0]) (off := 0) (v := .int .i64 5) ((setRow_other w b2 b3 _ (fun e => h23 e.symm)).trans h3) rfl (by omega) (by intro u hu; simp [Value.cells] at hu; subst hu; rfl)
  rw [this]
  have e : cs3.toList.drop 1 = [] := by apply List.drop_of_length_le; simp; omega
  simp [Value.cells,e]
 simp [wpOpsS,List.range,List.range.loop,Region.wanted,execOp,hb,Act.put,Oper.upon,Act.eval,Instr.storeAt,Instr.sureAddr,s1,s2]
 exact ⟨rfl,_,rfl,.tuple #[],by simp [results,Tryd.f41],⟨_,rfl⟩,rfl,rfl⟩
end Go.Sx

namespace Go.Sx
open Go.Proofs
def seenB (r : List UInt8) : Bool := decide (0 < r.length) && (r[0]! == 0)
def preO (r : List UInt8) : Option (List UInt8) := if seenB r = true then (takeO r 2).map Prod.snd else some r
def witQ (s : Bool) (ins : List InS) (r : List UInt8) : Option (List InS × List UInt8) := if s = true then witsO ins r else some (ins,r)
def finO (b : List UInt8) (t : TxS) (r : List UInt8) : Option TxS := if r.length = 0 ∧ mayS t = true ∧ putS t = b then some t else none
def getO (b : List UInt8) : Option TxS :=
 (numO b 4).bind fun v => (preO v.2).bind fun r => (bodyO r).bind fun p => (witQ (seenB v.2) p.1.1 p.2).bind fun q => (numO q.2 4).bind fun k => finO b ⟨v.1.toUInt32,q.1,p.1.2,k.1.toUInt32⟩ k.2
def zeroT : TxS := ⟨0,[],[],0⟩
def getS (b : List UInt8) : TxS × Nat := if 16384 < b.length then (zeroT,6) else match getO b with
 | some t => (t,0)
 | none => (zeroT,5)
section
variable {b r r1 r2 r3 r4 u : List UInt8} {x k : UInt64} {ins l : List InS} {outs : List OutS} {t : TxS}
theorem gt_big (h : 16384 < b.length) : getS b = (zeroT,6) := by simp [getS,h]
theorem gt_none (h : ¬ 16384 < b.length) (hg : getO b = none) : getS b = (zeroT,5) := by simp [getS,h,hg]
theorem gt_some (h : ¬ 16384 < b.length) (hg : getO b = some t) : getS b = (t,0) := by simp [getS,h,hg]
theorem go_1 (h : numO b 4 = none) : getO b = none := by unfold getO; rw [h]; rfl
theorem go_2 (h : numO b 4 = some (x,r)) (h2 : preO r = none) : getO b = none := by unfold getO; rw [h,Option.bind_some,h2]; rfl
theorem go_3 (h : numO b 4 = some (x,r)) (h2 : preO r = some r1) (h3 : bodyO r1 = none) : getO b = none := by unfold getO; rw [h,Option.bind_some,h2,Option.bind_some,h3]; rfl
theorem go_4 (h : numO b 4 = some (x,r)) (h2 : preO r = some r1) (h3 : bodyO r1 = some ((ins,outs),r2)) (h4 : witQ (seenB r) ins r2 = none) : getO b = none := by
 unfold getO; rw [h,Option.bind_some,h2,Option.bind_some,h3,Option.bind_some,h4]; rfl
theorem go_5 (h : numO b 4 = some (x,r)) (h2 : preO r = some r1) (h3 : bodyO r1 = some ((ins,outs),r2)) (h4 : witQ (seenB r) ins r2 = some (l,r3)) (h5 : numO r3 4 = none) : getO b = none := by
 unfold getO; rw [h,Option.bind_some,h2,Option.bind_some,h3,Option.bind_some,h4,Option.bind_some,h5]; rfl
theorem go_6 (h : numO b 4 = some (x,r)) (h2 : preO r = some r1) (h3 : bodyO r1 = some ((ins,outs),r2)) (h4 : witQ (seenB r) ins r2 = some (l,r3)) (h5 : numO r3 4 = some (k,r4)) : getO b = finO b ⟨x.toUInt32,l,outs,k.toUInt32⟩ r4 := by
 unfold getO; rw [h,Option.bind_some,h2,Option.bind_some,h3,Option.bind_some,h4,Option.bind_some,h5]; rfl
theorem pre_n (h : seenB r = true) (h2 : takeO r 2 = none) : preO r = none := by simp [preO,h,h2]
theorem pre_s (h : seenB r = true) (h2 : takeO r 2 = some (u,r1)) : preO r = some r1 := by simp [preO,h,h2]
theorem pre_0 (h : seenB r = false) : preO r = some r := by simp [preO,h]
theorem wq_t (h : seenB r = true) : witQ (seenB r) ins r1 = witsO ins r1 := by simp [witQ,h]
theorem wq_f (h : seenB r = false) : witQ (seenB r) ins r1 = some (ins,r1) := by simp [witQ,h]
theorem sn_t (h1 : 0 < r.length) (h2 : (r[0]! == 0) = true) : seenB r = true := by unfold seenB; rw [decide_eq_true h1,h2]; rfl
theorem sn_f1 (h1 : ¬ 0 < r.length) : seenB r = false := by unfold seenB; rw [decide_eq_false h1]; rfl
theorem sn_f2 (h2 : ¬ (r[0]! == 0) = true) : seenB r = false := by unfold seenB; rw [Bool.eq_false_iff.2 h2,Bool.and_false]
theorem fin_1 (h : 0 < r.length) : finO b t r = none := if_neg fun hc => by have := hc.1; omega
theorem fin_2 (h : mayS t = false) : finO b t r = none := if_neg fun hc => by have := hc.2.1; rw [h] at this; cases this
theorem fin_3 (h : (!(putS t == b)) = true) : finO b t r = none := if_neg fun hc => by rw [hc.2.2] at h; simp at h
theorem fin_s (h1 : ¬ 0 < r.length) (h2 : mayS t = true) (h3 : (!(putS t == b)) = false) : finO b t r = some t := if_pos ⟨by omega,h2,by simpa using h3⟩
end
theorem wk_inN (x : InS) (h : x.wit = []) : Wk (inN x) (inD x) := by
 unfold inN inD
 rw [h]
 exact .aggL (.cons (.refl _) (.cons (.refl _) (.cons (.refl _) (.cons (.nils none 1) .nil))))
theorem wk_txN {v k : UInt32} {ins : List InS} {outs : List OutS} (h : ∀ x ∈ ins,x.wit = []) : Wk (.agg [.u32 v,.sl none 36 (ins.map inN),.sl none 2 (outs.map outD),.u32 k]) (.agg [.u32 v,.sl none 36 (ins.map inD),.sl none 2 (outs.map outD),.u32 k]) :=
 .aggL (.cons (.refl _) (.cons (.slM fun x hx => wk_inN x (h x hx)) (.cons (.refl _) (.cons (.refl _) .nil))))
theorem wk_zero : Wk (.agg [.u32 0,.nils,.nils,.u32 0]) (txD zeroT) := .aggL (.cons (.refl _) (.cons (.nils none 36) (.cons (.nils none 2) (.cons (.refl _) .nil))))
end Go.Sx

namespace Go.Sx
open Go.Proofs
theorem rwitsN_ok (b : List UInt8) (hb0 : b.length ≤ 100000) (v k : UInt32) (outs : List OutS) (w : List InS) (hw : w = []) : FnO Tryd.prog gl 45 [.ptr 0 0 [],.ptr 1 0 []] [(0,.var (.agg [.sl none 1 (b.map D.u8)])),(1,.var (.agg [.u32 v,.sl (some 56) 36 (([] : List InS).map inN),.sl (some 46) 2 (outs.map outD),.u32 k]))] (((witsO w b).map fun q => (.tup [],[(0,.var (.agg [bytesD q.2])),(1,.var (.agg [.u32 v,.sl none 36 (q.1.map inD),.sl none 2 (outs.map outD),.u32 k]))],[]))) := by
 refine FnO.of (n := 38) (ids := [0,1]) Tryd.func45 rfl rfl rfl (nU rfl) fun C hC hD => ?_
 refine W.seq ?_
 refine W.l0 6 [.y 5 _,.y 6 _,.y 7 _,.y 8 _,.y 9 _,.y 10 _] [] [] [(0,_),(1,_),(9,_),(10,_)] [(0,.var _),(1,.var _)] 38 ⟨mU 1 rfl rfl,aU fun _ _ H K => R.nilcP (K 5 _ rfl) H,aU (fU 6 rfl rfl),aU fun _ B H K => R.ldO (K 7 _ rfl) (B 1 _ rfl) rfl H,aU fun _ B H K => R.lenE (SC.alb (K 8 _ rfl) (B 1 _ rfl) rfl) (List.length_map _) H,aU fun _ _ H _ => R.mov (kI 0 rfl) rfl H,trivial⟩ rfl rfl rfl rfl (tU rfl ?_)
 refine W.block ?_
 refine W.loop (α := {q__ : Unit // True}) (fun q__ => ⟨38,[(0,.ptr 0 0 []),(1,.ptr 1 0 []),(9,.int ((([] : List InS).length : Nat) : Int)),(10,.int ((0 : Nat) : Int))],[(0,.var (.agg [.sl none 1 (b.map D.u8)])),(1,.var (.agg [.u32 v,.sl (some 56) 36 (([] : List InS).map inN),.sl (some 46) 2 (outs.map outD),.u32 k]))]⟩) (fun q__ => 0) ⟨(()),trivial⟩ rfl ?_
 rintro ⟨_,hinv⟩
 show W _ _ _ _ ⟨38,[(0,.ptr 0 0 []),(1,.ptr 1 0 []),(9,.int ((([] : List InS).length : Nat) : Int)),(10,.int ((0 : Nat) : Int))],[(0,.var (.agg [.sl none 1 (b.map D.u8)])),(1,.var (.agg [.u32 v,.sl (some 56) 36 (([] : List InS).map inN),.sl (some 46) 2 (outs.map outD),.u32 k]))]⟩
 refine W.seq ?_
 refine W.l0 1 [.y 11 _] [] [] [(0,_),(1,_),(9,_),(10,_),(11,_)] [(0,.var _),(1,.var _)] 38 ⟨aU fun _ _ H K => R.lssN (0) (([] : List InS).length) (eU K 10 rfl) (eU K 9 rfl) H,trivial⟩ rfl rfl rfl rfl (tU rfl ?_)
 refine W.seq ?_
 refine W.condF rfl (decide_eq_false (Nat.not_lt_zero _)) ?_
 refine W.brwB 1 (d' := .agg [.u32 v,.sl none 36 (([] : List InS).map inD),.sl none 2 (outs.map outD),.u32 k]) (bx' := [(0,.var _),(1,.var _)]) rfl (show (D.agg [.u32 v,.sl (some 56) 36 (([] : List InS).map inN),.sl (some 46) 2 (outs.map outD),.u32 k]).brw = _ from by simp only [D.brw,brws_eq,List.map_cons,List.map_nil]; rw [brw_map brw_outD]) rfl ?_
 refine W.exit ?_
 exact EndsO.some' (r := .tup []) (bx' := [(0,.var (.agg [.sl none 1 (b.map D.u8)])),(1,.var (.agg [.u32 v,.sl none 36 (([] : List InS).map inD),.sl none 2 (outs.map outD),.u32 k]))]) (nw := []) (by rw [hw]; rfl) (EndsB.none' (r := .dead) (.inl rfl) rfl (rfl) ⟨rfl,⟨rfl,trivial⟩⟩)

end Go.Sx

namespace Go.Sx
open Go.Proofs
theorem rwits (b : List UInt8) (hb0 : b.length ≤ 100000) (v k : UInt32) (ins : List InS) (outs : List OutS) (hil : ins.length ≤ 1000000) :
 FnO Tryd.prog gl 45 [.ptr 0 0 [],.ptr 1 0 []] [(0,.var (.agg [.sl none 1 (b.map D.u8)])),(1,.var (.agg [.u32 v,.sl (some 56) 36 (ins.map inN),.sl (some 46) 2 (outs.map outD),.u32 k]))]
  ((witsO ins b).map fun q => (.tup [],[(0,.var (.agg [bytesD q.2])),(1,.var (.agg [.u32 v,.sl none 36 (q.1.map inD),.sl none 2 (outs.map outD),.u32 k]))],[])) := by
 by_cases hne : ins = []
 · subst hne; exact rwitsN_ok b hb0 v k outs [] rfl
 · exact rwits_ok b hb0 v k ins outs hil hne
section
variable {b r r1 r2 r3 r4 u : List UInt8} {x : UInt64} {v k : UInt32} {ins l : List InS} {outs : List OutS}
theorem preO_len (h : preO r = some r1) : r1.length ≤ r.length := by
 unfold preO at h
 split at h
 · cases h2 : takeO r 2 with
   | none => rw [h2] at h; cases h
   | some q =>
    obtain ⟨y,z⟩ := q
    rw [h2] at h; cases h
    have := takeO_len h2
    show z.length ≤ r.length
    omega
 · cases h; exact Nat.le_refl _
theorem witQ_sz {s : Bool} (h : witQ s ins r2 = some (l,r3)) (hb : r2.length ≤ 100000) (hw : ∀ x ∈ ins,x.tx.length = 32 ∧ x.wit = []) : (∀ x ∈ l,x.tx.length = 32) ∧ szI l + r3.length ≤ szI ins + r2.length := by
 unfold witQ at h
 split at h
 · have := witsO_sz h hb hw; exact ⟨this.1,this.2.1⟩
 · cases h; exact ⟨fun x hx => (hw x hx).1,Nat.le_refl _⟩
theorem get_wf (h1 : r.length ≤ 100000) (h2 : preO r = some r1) (h3 : bodyO r1 = some ((ins,outs),r2)) (h4 : witQ (seenB r) ins r2 = some (l,r3)) : (⟨v,l,outs,k⟩ : TxS).wf := by
 have a1 := preO_len h2
 have a2 := bodyO_sz h3 (by omega)
 have a3 := witQ_sz h4 (by omega) a2.1
 exact wf_of_sz (by show szI l + szO outs ≤ 100000; omega) a3.1
end
end Go.Sx

namespace Go.Sx
open Go.Proofs
theorem get_ok (b : List UInt8) (hb0 : b.length ≤ 100000) : Fn Tryd.prog gl 23 [.sl none 1 (b.map D.u8)] (.tup [txD (getS b).1,.int (((getS b).2 : Nat) : Int)]) := by
 refine Fn.ofD (n := 65) Tryd.func23 rfl rfl rfl (nU rfl) fun C hC hD hdf hrd hkp => ?_
 refine WD.seq ?_
 refine W.l0 2 [] [] [] [(0,_)] [] 65 trivial rfl rfl rfl rfl (⟨rfl,_,R.alloc rfl (nU rfl),⟨rfl,_,R.alloc rfl (nU rfl),tV [(0,_),(2,_),(3,_)] [(3,.var _),(2,.var _)] 65 rfl rfl rfl ?_⟩⟩)
 refine WD.seq ?_
 refine W.seq ?_
 refine W.l0 3 [.y 6 _,.y 7 _,.y 8 _] [] [] [(0,_),(2,_),(3,_),(8,_)] [(3,.var _),(2,.var _)] 65 ⟨mU 0 rfl rfl,aU fun _ _ H K => R.lenE (SC.sl (K 6 _ rfl)) (List.length_map _) H,aU fun _ _ H K => R.gtrN (b.length) (16384) (eU K 7 rfl) (kI 16384 rfl) H,trivial⟩ rfl rfl rfl rfl (tU rfl ?_)
 refine W.condD rfl (fun hc8 => ?_) (fun hc8 => ?_)
 · refine W.seq ?_
   refine W.wkB 2 (d' := txD zeroT) (bx' := [(3,.var _),(2,.var _)]) rfl wk_zero rfl ?_
   refine W.l0 3 [.y 9 _] [] [] [(2,_),(3,_),(9,_)] [(3,.var _),(2,.var _)] 65 ⟨aU (lU 2 rfl rfl rfl rfl rfl rfl rfl),trivial⟩ rfl rfl rfl rfl (⟨rfl,_,R.stZ (gU 2 rfl) (xU 2 rfl) rfl (gV 9 rfl) (by rfl) (by rfl) (by rfl) (by rfl) rfl,⟨rfl,_,R.stZ (gU 3 rfl) (xU 3 rfl) rfl (kI 6 rfl) (by rfl) (by rfl) (by rfl) (by rfl) rfl,tV [(2,_),(3,_)] [(3,.var _),(2,.var _)] 65 rfl rfl rfl ?_⟩⟩)
   refine W.ret ?_
   exact fun a w hs => end0 hdf hkp hs (Ends.many (.inr rfl) (.cons rfl rfl rfl (show LdT _ 26 4 true from inferInstance) (.cons rfl rfl rfl (show LdT _ 34 1 false from inferInstance) .nil)) (by rw [gt_big hc8]) (show [(2,false),(3,false)].Nodup by decide))
 · refine W.skip ?_
   refine WD.defer hrd rfl rfl rfl rfl (nU rfl) fun b2 b3 hb23 => ?_
   obtain ⟨C1,hC1⟩ : ∃ C1,C1 = C.put (dfr 41 b2 b3) 2 3 b2 b3 := ⟨_,rfl⟩
   rw [← hC1]
   have hC0 := hC
   have hC : C1.gl = gl := by rw [hC1]; exact hC0
   have hD0 := hD
   have hD : ∀ id c_,C1.pin id = some c_ → memN [2,3] id = true := by rw [hC1]; exact put_pin hD0
   refine WD.of ?_
   refine W.dropS (live := [0,2,3]) (env' := [(0,_),(2,_),(3,_)]) (bx' := [(3,.var _),(2,.var _)]) (n' := 65) rfl rfl rfl ?_
   refine W.seq ?_
   refine W.l0 4 [.y 11 _,.y 12 _] [] [] [(0,_),(2,_),(3,_),(12,_)] [(3,.var _),(2,.var _)] 65 ⟨mU 0 rfl rfl,aU fun _ _ H K => R.bldSE (l := [.nils]) (l' := [_]) (.cons (eU K 11 rfl) (.nil rfl)) ⟨⟨_,(eU K 11 rfl),rfl,rfl,rfl⟩,trivial⟩ H,trivial⟩ rfl rfl rfl rfl (⟨rfl,_,R.box (gV 12 rfl) rfl rfl (nU rfl),⟨rfl,_,R.asg (gV 13 rfl) rfl (nU rfl),tV [(0,_),(2,_),(3,_),(4,_)] [(13,.var _),(3,.var _),(2,.var _)] 65 rfl rfl rfl ?_⟩⟩)
   refine W.seq ?_
   rcases hE : numO b 4 with _ | ⟨x,r⟩
   · refine W.lineX (n := 5) (by decide) (its := [.y 14 _]) (ks := []) (kk := []) (live := [0,2,3,4,14]) (env' := [(0,_),(2,_),(3,_),(4,_),(14,_)]) (⟨nU rfl,rfl,⟨mU 4 rfl rfl,trivial⟩,rfl,rfl,rfl⟩) rfl (bx' := [(13,.var _),(3,.var _),(2,.var _)]) rfl (n' := 65) rfl (⟨rfl,.inr (R.callXk [(0,13)] hC (FnO.none' (rnumber_ok b (by omega) 4 (by decide)) (by rw [hE]; rfl)) (EvB.cons (gV 14 rfl) rfl rfl rfl (EvB.cons (kI 4 rfl) rfl rfl rfl EvB.nil)) rfl ⟨rfl,trivial⟩ ⟨rfl,trivial⟩ rfl (fun e he => ?_))⟩)
     obtain ⟨ch,rfl,hch⟩ := he
     intro a w hs
     show bodyPostD _ _ _ _ _ _
     rw [gt_none hc8 (go_1 hE)]
     exact endDP (z2 := #[.int .u32 0,.slice none 0 0,.slice none 0 0,.int .u32 0]) (z3 := #[.int .i64 5]) (r2 := .agg [.u32 0,.nils,.nils,.u32 0]) hC1 hdf hkp (by decide) (hb23 (by decide)) rfl inferInstance (fun w ch hch cs2 cs3 e2 e3 q2 s2 q3 s3 => get1P b2 b3 w hch (hb23 (by decide)) q2 s2 q3 s3) ⟨ch,rfl,hch⟩ rfl rfl rfl rfl rfl rfl rfl rfl rfl rfl rfl rfl rfl rfl wk_zero rfl hs
   have hr := numO_len hE
   refine W.l0 5 [.y 14 _] [] [] [(0,_),(2,_),(3,_),(4,_),(14,_)] [(13,.var _),(3,.var _),(2,.var _)] 65 ⟨mU 4 rfl rfl,trivial⟩ rfl rfl rfl rfl (⟨rfl,_,R.callB [(0,13)] hC (FnO.some' (r := .u64 x) (bx' := [(0,.var (.agg [.sl none 1 (r.map D.u8)]))]) (nw := []) (rnumber_ok b (by omega) 4 (by decide)) (by rw [hE]; rfl)) (EvB.cons (gV 14 rfl) rfl rfl rfl (EvB.cons (kI 4 rfl) rfl rfl rfl EvB.nil)) rfl ⟨rfl,trivial⟩ ⟨rfl,trivial⟩ rfl rfl rfl rfl rfl rfl (nU rfl),⟨rfl,_,R.conv (gV 15 rfl) rfl (nU rfl),⟨rfl,_,R.fdP (gU 2 rfl) (nU rfl),⟨rfl,_,R.stZ (gU 17 rfl) (xU 2 rfl) rfl (gV 16 rfl) (by rfl) (by rfl) (by rfl) (by rfl) rfl,tV [(0,_),(2,_),(3,_),(4,_)] [(13,.var _),(3,.var _),(2,.var _)] 65 rfl rfl rfl ?_⟩⟩⟩⟩)
   refine W.seq ?_
   by_cases hs1 : 0 < r.length
   · by_cases hs2 : (r[0]! == 0) = true
     · refine W.l0 16 [.y 18 _,.y 19 _,.y 20 _,.y 21 _,.y 22 _,.y 23 _,.y 24 _,.y 25 _,.y 26 _,.y 27 _,.y 28 _,.y 29 _,.y 30 _,.y 31 _,.y 32 _,.y 5 _] [] [] [(0,_),(2,_),(3,_),(4,_),(5,_)] [(13,.var _),(3,.var _),(2,.var _)] 65 ⟨mU 4 rfl rfl,aU fun _ _ H K => R.nilcP (K 18 _ rfl) H,aU (fU 19 rfl rfl),aU (lU 20 rfl rfl rfl rfl rfl rfl rfl),aU fun _ _ H K => R.lenE (SC.sl (K 21 _ rfl)) (List.length_map _) H,aU fun _ _ H K => R.gtrN (r.length) (0) (eU K 22 rfl) (kI 0 rfl) H,mU 23 rfl rfl,aW rfl rfl (gT (decide_eq_true hs1) rfl) fun _ _ H K => R.mov (eU K 4 rfl) rfl H,aW rfl rfl (gT (decide_eq_true hs1) rfl) fun _ _ H K => R.nilcP (K 25 _ rfl) H,aW rfl rfl (gT (decide_eq_true hs1) rfl) (fU 26 rfl rfl),aW rfl rfl (gT (decide_eq_true hs1) rfl) (lU 27 rfl rfl rfl rfl rfl rfl rfl),aW rfl rfl (gT (decide_eq_true hs1) rfl) fun _ _ H K => R.idxN (0) (SC.sl (K 28 _ rfl)) (evoI (kI 0 rfl)) rfl bU H (by decide),aW rfl rfl (gT (decide_eq_true hs1) rfl) fun _ _ H K => R.ldE (K 29 _ rfl) (SC.sl (K 28 _ rfl)) (map_get! (l := r) bU) rfl rfl rfl rfl H,aW rfl rfl (gT (decide_eq_true hs1) rfl) fun _ _ H K => R.bin (eU K 30 rfl) (show ev _ _ (.const (.int .u8 0)) = some (.u8 0) from rfl) rfl trivial H,aU fun _ _ H K => R.pickT (eU K 24 rfl) (decide_eq_true hs1) (eU K 31 rfl) rfl H,aU fun _ _ H K => R.asg (eU K 32 rfl) rfl H,trivial⟩ rfl rfl rfl rfl (tU rfl ?_)
       refine W.seq ?_
       refine W.seq ?_
       refine W.l0 1 [.y 33 _] [] [] [(0,_),(2,_),(3,_),(4,_),(5,_),(33,_)] [(13,.var _),(3,.var _),(2,.var _)] 65 ⟨mU 5 rfl rfl,trivial⟩ rfl rfl rfl rfl (tU rfl ?_)
       refine W.condT rfl (hs2) ?_
       rcases hE2 : takeO r 2 with _ | ⟨u,r1⟩
       · refine W.lineX (n := 2) (by decide) (its := [.y 34 _]) (ks := []) (kk := []) (live := [0,2,3,4,5,34]) (env' := [(0,_),(2,_),(3,_),(4,_),(5,_),(34,_)]) (⟨nU rfl,rfl,⟨mU 4 rfl rfl,trivial⟩,rfl,rfl,rfl⟩) rfl (bx' := [(13,.var _),(3,.var _),(2,.var _)]) rfl (n' := 65) rfl (⟨rfl,.inr (R.callXk [(0,13)] hC (FnO.none' (rtake_ok r (by omega) 2 (by omega)) (by rw [hE2]; rfl)) (EvB.cons (gV 34 rfl) rfl rfl rfl (EvB.cons (kI 2 rfl) rfl rfl rfl EvB.nil)) rfl ⟨rfl,trivial⟩ ⟨rfl,trivial⟩ rfl (fun e he => ?_))⟩)
         obtain ⟨ch,rfl,hch⟩ := he
         intro a w hs
         show bodyPostD _ _ _ _ _ _
         rw [gt_none hc8 (go_2 hE (pre_n (sn_t hs1 hs2) hE2))]
         exact endDP (z2 := #[.int .u32 0,.slice none 0 0,.slice none 0 0,.int .u32 0]) (z3 := #[.int .i64 5]) (r2 := .agg [.u32 0,.nils,.nils,.u32 0]) hC1 hdf hkp (by decide) (hb23 (by decide)) rfl inferInstance (fun w ch hch cs2 cs3 e2 e3 q2 s2 q3 s3 => get1P b2 b3 w hch (hb23 (by decide)) q2 s2 q3 s3) ⟨ch,rfl,hch⟩ rfl rfl rfl rfl rfl rfl rfl rfl rfl rfl rfl rfl rfl rfl wk_zero rfl hs
       have hr1 := takeO_len hE2
       refine W.l0 2 [.y 34 _] [] [] [(0,_),(2,_),(3,_),(4,_),(5,_),(34,_)] [(13,.var _),(3,.var _),(2,.var _)] 65 ⟨mU 4 rfl rfl,trivial⟩ rfl rfl rfl rfl (⟨rfl,_,R.callB [(0,13)] hC (FnO.some' (r := .sl none 1 (u.map D.u8)) (bx' := [(0,.var (.agg [.sl none 1 (r1.map D.u8)]))]) (nw := []) (rtake_ok r (by omega) 2 (by omega)) (by rw [hE2]; rfl)) (EvB.cons (gV 34 rfl) rfl rfl rfl (EvB.cons (kI 2 rfl) rfl rfl rfl EvB.nil)) rfl ⟨rfl,trivial⟩ ⟨rfl,trivial⟩ rfl rfl rfl rfl rfl rfl (nU rfl),tV [(0,_),(2,_),(3,_),(4,_),(5,_)] [(13,.var _),(3,.var _),(2,.var _)] 65 rfl rfl rfl ?_⟩)
       refine W.seq ?_
       rcases hE3 : bodyO r1 with _ | ⟨⟨ins,outs⟩,r2⟩
       · refine W.asOwnP 2 [1] 56 36 (bx' := [(13,.var _),(3,.var _),(2,.var _)]) rfl rfl rfl rfl rfl ?_
         refine W.asOwnP 2 [2] 46 2 (bx' := [(13,.var _),(3,.var _),(2,.var _)]) rfl rfl rfl rfl rfl ?_
         refine W.lineX (n := 2) (by decide) (its := [.y 36 _]) (ks := []) (kk := []) (live := [0,2,3,4,5,36]) (env' := [(0,_),(2,_),(3,_),(4,_),(5,_),(36,_)]) (⟨nU rfl,rfl,⟨mU 4 rfl rfl,trivial⟩,rfl,rfl,rfl⟩) rfl (bx' := [(13,.var _),(3,.var _),(2,.var _)]) rfl (n' := 65) rfl (⟨rfl,.inr (R.callXk [(0,13),(1,2)] hC (FnO.none' (rbody_ok r1 (by omega) x.toUInt32 0) (by rw [hE3]; rfl)) (EvB.cons (gV 36 rfl) rfl rfl rfl (EvB.cons (gV 2 rfl) rfl rfl rfl EvB.nil)) rfl ⟨rfl,⟨rfl,trivial⟩⟩ ⟨rfl,⟨rfl,trivial⟩⟩ rfl (fun e he => ?_))⟩)
         obtain ⟨ch,rfl,hch⟩ := he
         intro a w hs
         show bodyPostD _ _ _ _ _ _
         rw [gt_none hc8 (go_3 hE (pre_s (sn_t hs1 hs2) hE2) hE3)]
         exact endDP (z2 := #[.int .u32 0,.slice none 0 0,.slice none 0 0,.int .u32 0]) (z3 := #[.int .i64 5]) (r2 := .agg [.u32 0,.nils,.nils,.u32 0]) hC1 hdf hkp (by decide) (hb23 (by decide)) rfl inferInstance (fun w ch hch cs2 cs3 e2 e3 q2 s2 q3 s3 => get1P b2 b3 w hch (hb23 (by decide)) q2 s2 q3 s3) ⟨ch,rfl,hch⟩ rfl rfl rfl rfl rfl rfl rfl rfl rfl rfl rfl rfl rfl rfl wk_zero rfl hs
       have hbs := bodyO_sz hE3 (by omega)
       have hil := szI_len ins
       refine W.asOwnP 2 [1] 56 36 (bx' := [(13,.var _),(3,.var _),(2,.var _)]) rfl rfl rfl rfl rfl ?_
       refine W.asOwnP 2 [2] 46 2 (bx' := [(13,.var _),(3,.var _),(2,.var _)]) rfl rfl rfl rfl rfl ?_
       refine W.l0 2 [.y 36 _] [] [] [(0,_),(2,_),(3,_),(4,_),(5,_),(36,_)] [(13,.var _),(3,.var _),(2,.var _)] 65 ⟨mU 4 rfl rfl,trivial⟩ rfl rfl rfl rfl (⟨rfl,_,R.callB [(0,13),(1,2)] hC (FnO.some' (r := .tup []) (bx' := [(0,.var (.agg [.sl none 1 (r2.map D.u8)])),(1,.var (.agg [.u32 x.toUInt32,.sl (some 56) 36 (ins.map inN),.sl (some 46) 2 (outs.map outD),.u32 0]))]) (nw := []) (rbody_ok r1 (by omega) x.toUInt32 0) (by rw [hE3]; rfl)) (EvB.cons (gV 36 rfl) rfl rfl rfl (EvB.cons (gV 2 rfl) rfl rfl rfl EvB.nil)) rfl ⟨rfl,⟨rfl,trivial⟩⟩ ⟨rfl,⟨rfl,trivial⟩⟩ rfl rfl rfl rfl rfl rfl (nU rfl),tV [(0,_),(2,_),(3,_),(4,_),(5,_)] [(13,.var _),(3,.var _),(2,.var _)] 65 rfl rfl rfl ?_⟩)
       refine W.seq ?_
       refine W.seq ?_
       refine W.l0 1 [.y 38 _] [] [] [(0,_),(2,_),(3,_),(4,_),(38,_)] [(13,.var _),(3,.var _),(2,.var _)] 65 ⟨mU 5 rfl rfl,trivial⟩ rfl rfl rfl rfl (tU rfl ?_)
       refine W.condT rfl (hs2) ?_
       rcases hE4 : witsO ins r2 with _ | ⟨l,r3⟩
       · refine W.lineX (n := 2) (by decide) (its := [.y 39 _]) (ks := []) (kk := []) (live := [0,2,3,4,39]) (env' := [(0,_),(2,_),(3,_),(4,_),(39,_)]) (⟨nU rfl,rfl,⟨mU 4 rfl rfl,trivial⟩,rfl,rfl,rfl⟩) rfl (bx' := [(13,.var _),(3,.var _),(2,.var _)]) rfl (n' := 65) rfl (⟨rfl,.inr (R.callXk [(0,13),(1,2)] hC (FnO.none' (rwits r2 (by omega) x.toUInt32 0 ins outs (by omega)) (by rw [hE4]; rfl)) (EvB.cons (gV 39 rfl) rfl rfl rfl (EvB.cons (gV 2 rfl) rfl rfl rfl EvB.nil)) rfl ⟨rfl,⟨rfl,trivial⟩⟩ ⟨rfl,⟨rfl,trivial⟩⟩ rfl (fun e he => ?_))⟩)
         obtain ⟨ch,rfl,hch⟩ := he
         intro a w hs
         show bodyPostD _ _ _ _ _ _
         rw [gt_none hc8 (go_4 hE (pre_s (sn_t hs1 hs2) hE2) hE3 ((wq_t (sn_t hs1 hs2)).trans hE4))]
         exact endDP (z2 := #[.int .u32 0,.slice none 0 0,.slice none 0 0,.int .u32 0]) (z3 := #[.int .i64 5]) (r2 := .agg [.u32 0,.nils,.nils,.u32 0]) hC1 hdf hkp (by decide) (hb23 (by decide)) rfl inferInstance (fun w ch hch cs2 cs3 e2 e3 q2 s2 q3 s3 => get1P b2 b3 w hch (hb23 (by decide)) q2 s2 q3 s3) ⟨ch,rfl,hch⟩ rfl rfl rfl rfl rfl rfl rfl rfl rfl rfl rfl rfl rfl rfl wk_zero rfl hs
       have hws := witsO_sz hE4 (by omega) hbs.1
       refine W.l0 2 [.y 39 _] [] [] [(0,_),(2,_),(3,_),(4,_),(39,_)] [(13,.var _),(3,.var _),(2,.var _)] 65 ⟨mU 4 rfl rfl,trivial⟩ rfl rfl rfl rfl (⟨rfl,_,R.callB [(0,13),(1,2)] hC (FnO.some' (r := .tup []) (bx' := [(0,.var (.agg [.sl none 1 (r3.map D.u8)])),(1,.var (.agg [.u32 x.toUInt32,.sl none 36 (l.map inD),.sl none 2 (outs.map outD),.u32 0]))]) (nw := []) (rwits r2 (by omega) x.toUInt32 0 ins outs (by omega)) (by rw [hE4]; rfl)) (EvB.cons (gV 39 rfl) rfl rfl rfl (EvB.cons (gV 2 rfl) rfl rfl rfl EvB.nil)) rfl ⟨rfl,⟨rfl,trivial⟩⟩ ⟨rfl,⟨rfl,trivial⟩⟩ rfl rfl rfl rfl rfl rfl (nU rfl),tV [(0,_),(2,_),(3,_),(4,_)] [(13,.var _),(3,.var _),(2,.var _)] 65 rfl rfl rfl ?_⟩)
       refine W.seq ?_
       rcases hE5 : numO r3 4 with _ | ⟨k,r4⟩
       · refine W.lineX (n := 5) (by decide) (its := [.y 41 _]) (ks := []) (kk := []) (live := [0,2,3,4,41]) (env' := [(0,_),(2,_),(3,_),(4,_),(41,_)]) (⟨nU rfl,rfl,⟨mU 4 rfl rfl,trivial⟩,rfl,rfl,rfl⟩) rfl (bx' := [(13,.var _),(3,.var _),(2,.var _)]) rfl (n' := 65) rfl (⟨rfl,.inr (R.callXk [(0,13)] hC (FnO.none' (rnumber_ok r3 (by omega) 4 (by decide)) (by rw [hE5]; rfl)) (EvB.cons (gV 41 rfl) rfl rfl rfl (EvB.cons (kI 4 rfl) rfl rfl rfl EvB.nil)) rfl ⟨rfl,trivial⟩ ⟨rfl,trivial⟩ rfl (fun e he => ?_))⟩)
         obtain ⟨ch,rfl,hch⟩ := he
         intro a w hs
         show bodyPostD _ _ _ _ _ _
         rw [gt_none hc8 (go_5 hE (pre_s (sn_t hs1 hs2) hE2) hE3 ((wq_t (sn_t hs1 hs2)).trans hE4) hE5)]
         exact endDP (z2 := #[.int .u32 0,.slice none 0 0,.slice none 0 0,.int .u32 0]) (z3 := #[.int .i64 5]) (r2 := .agg [.u32 0,.nils,.nils,.u32 0]) hC1 hdf hkp (by decide) (hb23 (by decide)) rfl inferInstance (fun w ch hch cs2 cs3 e2 e3 q2 s2 q3 s3 => get1P b2 b3 w hch (hb23 (by decide)) q2 s2 q3 s3) ⟨ch,rfl,hch⟩ rfl rfl rfl rfl rfl rfl rfl rfl rfl rfl rfl rfl rfl rfl wk_zero rfl hs
       refine W.l0 5 [.y 41 _] [] [] [(0,_),(2,_),(3,_),(4,_),(41,_)] [(13,.var _),(3,.var _),(2,.var _)] 65 ⟨mU 4 rfl rfl,trivial⟩ rfl rfl rfl rfl (⟨rfl,_,R.callB [(0,13)] hC (FnO.some' (r := .u64 k) (bx' := [(0,.var (.agg [.sl none 1 (r4.map D.u8)]))]) (nw := []) (rnumber_ok r3 (by omega) 4 (by decide)) (by rw [hE5]; rfl)) (EvB.cons (gV 41 rfl) rfl rfl rfl (EvB.cons (kI 4 rfl) rfl rfl rfl EvB.nil)) rfl ⟨rfl,trivial⟩ ⟨rfl,trivial⟩ rfl rfl rfl rfl rfl rfl (nU rfl),⟨rfl,_,R.conv (gV 42 rfl) rfl (nU rfl),⟨rfl,_,R.fdP (gU 2 rfl) (nU rfl),⟨rfl,_,R.stZ (gU 44 rfl) (xU 2 rfl) rfl (gV 43 rfl) (by rfl) (by rfl) (by rfl) (by rfl) rfl,tV [(0,_),(2,_),(3,_),(4,_)] [(13,.var _),(3,.var _),(2,.var _)] 65 rfl rfl rfl ?_⟩⟩⟩⟩)
       refine W.seq ?_
       refine W.seq ?_
       by_cases d1 : 0 < r4.length
       · have hwf : ((⟨x.toUInt32,l,outs,k.toUInt32⟩ : TxS)).wf := get_wf (by omega) (pre_s (sn_t hs1 hs2) hE2) hE3 ((wq_t (sn_t hs1 hs2)).trans hE4)
         refine W.l0 18 [.y 45 _,.y 46 _,.y 47 _,.y 48 _,.y 49 _,.y 50 _,.y 51 _,.x 52,.x 53,.x 54,.y 55 _,.y 56 _,.x 57,.x 58,.x 59,.x 60,.x 61,.y 62 _] [] [] [(2,_),(3,_),(62,_)] [(13,.var _),(3,.var _),(2,.var _)] 65 ⟨mU 4 rfl rfl,aU fun _ _ H K => R.nilcP (K 45 _ rfl) H,aU (fU 46 rfl rfl),aU (lU 47 rfl rfl rfl rfl rfl rfl rfl),aU fun _ _ H K => R.lenE (SC.sl (K 48 _ rfl)) (List.length_map _) H,aU fun _ _ H K => R.gtrN (r4.length) (0) (eU K 49 rfl) (kI 0 rfl) H,mU 50 rfl rfl,aF rfl rfl (gT (decide_eq_true d1) rfl),aF rfl rfl (gT (decide_eq_true d1) rfl),aF rfl rfl (gT (decide_eq_true d1) rfl),aU fun _ _ H K => R.pickT (eU K 51 rfl) (decide_eq_true d1) (kB true rfl) rfl H,mU 55 rfl rfl,aF rfl rfl (gT (rfl) rfl),aF rfl rfl (gT (rfl) rfl),aF rfl rfl (gT (rfl) rfl),aF rfl rfl (gT (rfl) rfl),aF rfl rfl (gT (rfl) rfl),aU fun _ _ H K => R.pickT (eU K 56 rfl) (rfl) (kB true rfl) rfl H,trivial⟩ rfl rfl rfl rfl (tU rfl ?_)
         refine W.condT rfl (rfl) ?_
         refine W.lineX (n := 2) (by decide) (its := [.y 63 _]) (ks := []) (kk := []) (live := [2,3,63]) (env' := [(2,_),(3,_),(63,_)]) (⟨nU rfl,rfl,⟨aU fun _ _ H _ => R.mkifc (kI 5 rfl) rfl rfl H,trivial⟩,rfl,rfl,rfl⟩) rfl (bx' := [(13,.var _),(3,.var _),(2,.var _)]) rfl (n' := 65) rfl (⟨rfl,.inr (R.panic (gU 63 rfl) (fun e he => ?_))⟩)
         obtain ⟨ch,rfl,hch⟩ := he
         intro a w hs
         show bodyPostD _ _ _ _ _ _
         rw [gt_none hc8 (by rw [go_6 hE (pre_s (sn_t hs1 hs2) hE2) hE3 ((wq_t (sn_t hs1 hs2)).trans hE4) hE5]; first | exact fin_1 d1 | exact fin_2 d2 | exact fin_3 hc62)]
         exact endDP (z2 := #[.int .u32 0,.slice none 0 0,.slice none 0 0,.int .u32 0]) (z3 := #[.int .i64 5]) (r2 := .agg [.u32 0,.nils,.nils,.u32 0]) hC1 hdf hkp (by decide) (hb23 (by decide)) rfl inferInstance (fun w ch hch cs2 cs3 e2 e3 q2 s2 q3 s3 => get1P b2 b3 w hch (hb23 (by decide)) q2 s2 q3 s3) ⟨ch,rfl,hch⟩ rfl rfl rfl rfl rfl rfl rfl rfl rfl rfl rfl rfl rfl rfl wk_zero rfl hs
       · by_cases d2 : mayS (⟨x.toUInt32,l,outs,k.toUInt32⟩ : TxS) = false
         · have hwf : ((⟨x.toUInt32,l,outs,k.toUInt32⟩ : TxS)).wf := get_wf (by omega) (pre_s (sn_t hs1 hs2) hE2) hE3 ((wq_t (sn_t hs1 hs2)).trans hE4)
           refine W.l0 18 [.y 45 _,.y 46 _,.y 47 _,.y 48 _,.y 49 _,.y 50 _,.y 51 _,.y 52 _,.y 53 _,.y 54 _,.y 55 _,.y 56 _,.x 57,.x 58,.x 59,.x 60,.x 61,.y 62 _] [] [] [(2,_),(3,_),(62,_)] [(13,.var _),(3,.var _),(2,.var _)] 65 ⟨mU 4 rfl rfl,aU fun _ _ H K => R.nilcP (K 45 _ rfl) H,aU (fU 46 rfl rfl),aU (lU 47 rfl rfl rfl rfl rfl rfl rfl),aU fun _ _ H K => R.lenE (SC.sl (K 48 _ rfl)) (List.length_map _) H,aU fun _ _ H K => R.gtrN (r4.length) (0) (eU K 49 rfl) (kI 0 rfl) H,mU 50 rfl rfl,aW rfl rfl (gF (decide_eq_false d1) rfl) (lU 2 rfl rfl rfl rfl rfl rfl rfl),aW rfl rfl (gF (decide_eq_false d1) rfl) fun _ _ H K => R.callG hC (may_ok (⟨x.toUInt32,l,outs,k.toUInt32⟩ : TxS) hwf) (Bors.cons (Bor.pur (eU K 52 rfl) rfl rfl) Bors.nil) (FrsR.one (.bool _)) H,aW rfl rfl (gF (decide_eq_false d1) rfl) fun _ _ H K => R.un (eU K 53 rfl) rfl H,aU fun _ _ H K => R.pickF (eU K 51 rfl) (decide_eq_false d1) (eU K 54 rfl) rfl H,mU 55 rfl rfl,aF rfl rfl (gT (by rw [d2]; rfl) rfl),aF rfl rfl (gT (by rw [d2]; rfl) rfl),aF rfl rfl (gT (by rw [d2]; rfl) rfl),aF rfl rfl (gT (by rw [d2]; rfl) rfl),aF rfl rfl (gT (by rw [d2]; rfl) rfl),aU fun _ _ H K => R.pickT (eU K 56 rfl) (by rw [d2]; rfl) (kB true rfl) rfl H,trivial⟩ rfl rfl rfl rfl (tU rfl ?_)
           refine W.condT rfl (rfl) ?_
           refine W.lineX (n := 2) (by decide) (its := [.y 63 _]) (ks := []) (kk := []) (live := [2,3,63]) (env' := [(2,_),(3,_),(63,_)]) (⟨nU rfl,rfl,⟨aU fun _ _ H _ => R.mkifc (kI 5 rfl) rfl rfl H,trivial⟩,rfl,rfl,rfl⟩) rfl (bx' := [(13,.var _),(3,.var _),(2,.var _)]) rfl (n' := 65) rfl (⟨rfl,.inr (R.panic (gU 63 rfl) (fun e he => ?_))⟩)
           obtain ⟨ch,rfl,hch⟩ := he
           intro a w hs
           show bodyPostD _ _ _ _ _ _
           rw [gt_none hc8 (by rw [go_6 hE (pre_s (sn_t hs1 hs2) hE2) hE3 ((wq_t (sn_t hs1 hs2)).trans hE4) hE5]; first | exact fin_1 d1 | exact fin_2 d2 | exact fin_3 hc62)]
           exact endDP (z2 := #[.int .u32 0,.slice none 0 0,.slice none 0 0,.int .u32 0]) (z3 := #[.int .i64 5]) (r2 := .agg [.u32 0,.nils,.nils,.u32 0]) hC1 hdf hkp (by decide) (hb23 (by decide)) rfl inferInstance (fun w ch hch cs2 cs3 e2 e3 q2 s2 q3 s3 => get1P b2 b3 w hch (hb23 (by decide)) q2 s2 q3 s3) ⟨ch,rfl,hch⟩ rfl rfl rfl rfl rfl rfl rfl rfl rfl rfl rfl rfl rfl rfl wk_zero rfl hs
         · have hwf : ((⟨x.toUInt32,l,outs,k.toUInt32⟩ : TxS)).wf := get_wf (by omega) (pre_s (sn_t hs1 hs2) hE2) hE3 ((wq_t (sn_t hs1 hs2)).trans hE4)
           refine W.l0 18 [.y 45 _,.y 46 _,.y 47 _,.y 48 _,.y 49 _,.y 50 _,.y 51 _,.y 52 _,.y 53 _,.y 54 _,.y 55 _,.y 56 _,.y 57 _,.y 58 _,.y 59 _,.y 60 _,.y 61 _,.y 62 _] [] [] [(2,_),(3,_),(62,_)] [(13,.var _),(3,.var _),(2,.var _)] 65 ⟨mU 4 rfl rfl,aU fun _ _ H K => R.nilcP (K 45 _ rfl) H,aU (fU 46 rfl rfl),aU (lU 47 rfl rfl rfl rfl rfl rfl rfl),aU fun _ _ H K => R.lenE (SC.sl (K 48 _ rfl)) (List.length_map _) H,aU fun _ _ H K => R.gtrN (r4.length) (0) (eU K 49 rfl) (kI 0 rfl) H,mU 50 rfl rfl,aW rfl rfl (gF (decide_eq_false d1) rfl) (lU 2 rfl rfl rfl rfl rfl rfl rfl),aW rfl rfl (gF (decide_eq_false d1) rfl) fun _ _ H K => R.callG hC (may_ok (⟨x.toUInt32,l,outs,k.toUInt32⟩ : TxS) hwf) (Bors.cons (Bor.pur (eU K 52 rfl) rfl rfl) Bors.nil) (FrsR.one (.bool _)) H,aW rfl rfl (gF (decide_eq_false d1) rfl) fun _ _ H K => R.un (eU K 53 rfl) rfl H,aU fun _ _ H K => R.pickF (eU K 51 rfl) (decide_eq_false d1) (eU K 54 rfl) rfl H,mU 55 rfl rfl,aW rfl rfl (gF (by simpa using d2) rfl) (lU 2 rfl rfl rfl rfl rfl rfl rfl),aW rfl rfl (gF (by simpa using d2) rfl) fun _ _ H K => R.callG hC (put_ok (⟨x.toUInt32,l,outs,k.toUInt32⟩ : TxS) hwf) (Bors.cons (Bor.pur (eU K 57 rfl) rfl rfl) Bors.nil) (FrsR.one (.sl _ _ _ (frs_map fun _ => .u8 _))) H,aW rfl rfl (gF (by simpa using d2) rfl) fun _ _ H K => R.mov (eU K 0 rfl) rfl H,aW rfl rfl (gF (by simpa using d2) rfl) fun _ _ H K => R.callG hC (beq_ok (putS (⟨x.toUInt32,l,outs,k.toUInt32⟩ : TxS)) b) (Bors.cons (Bor.sc (SC.sl (K 58 _ rfl)) (brw_map (fun _ => rfl))) (Bors.cons (Bor.pur (eU K 59 rfl) rfl rfl) Bors.nil)) (FrsR.one (.bool _)) H,aW rfl rfl (gF (by simpa using d2) rfl) fun _ _ H K => R.un (eU K 60 rfl) rfl H,aU fun _ _ H K => R.pickF (eU K 56 rfl) (by simpa using d2) (eU K 61 rfl) rfl H,trivial⟩ rfl rfl rfl rfl (tU rfl ?_)
           refine W.cond rfl (fun hc62 => ?_) (fun hc62 => ?_)
           · refine W.lineX (n := 2) (by decide) (its := [.y 63 _]) (ks := []) (kk := []) (live := [2,3,63]) (env' := [(2,_),(3,_),(63,_)]) (⟨nU rfl,rfl,⟨aU fun _ _ H _ => R.mkifc (kI 5 rfl) rfl rfl H,trivial⟩,rfl,rfl,rfl⟩) rfl (bx' := [(13,.var _),(3,.var _),(2,.var _)]) rfl (n' := 65) rfl (⟨rfl,.inr (R.panic (gU 63 rfl) (fun e he => ?_))⟩)
             obtain ⟨ch,rfl,hch⟩ := he
             intro a w hs
             show bodyPostD _ _ _ _ _ _
             rw [gt_none hc8 (by rw [go_6 hE (pre_s (sn_t hs1 hs2) hE2) hE3 ((wq_t (sn_t hs1 hs2)).trans hE4) hE5]; first | exact fin_1 d1 | exact fin_2 d2 | exact fin_3 hc62)]
             exact endDP (z2 := #[.int .u32 0,.slice none 0 0,.slice none 0 0,.int .u32 0]) (z3 := #[.int .i64 5]) (r2 := .agg [.u32 0,.nils,.nils,.u32 0]) hC1 hdf hkp (by decide) (hb23 (by decide)) rfl inferInstance (fun w ch hch cs2 cs3 e2 e3 q2 s2 q3 s3 => get1P b2 b3 w hch (hb23 (by decide)) q2 s2 q3 s3) ⟨ch,rfl,hch⟩ rfl rfl rfl rfl rfl rfl rfl rfl rfl rfl rfl rfl rfl rfl wk_zero rfl hs
           · refine W.skip ?_
             refine W.seq ?_
             refine W.l0 3 [.y 64 _] [] [] [(2,_),(3,_),(64,_)] [(13,.var _),(3,.var _),(2,.var _)] 65 ⟨aU (lU 2 rfl rfl rfl rfl rfl rfl rfl),trivial⟩ rfl rfl rfl rfl (⟨rfl,_,R.stZ (gU 2 rfl) (xU 2 rfl) rfl (gV 64 rfl) (by rfl) (by rfl) (by rfl) (by rfl) rfl,⟨rfl,_,R.stZ (gU 3 rfl) (xU 3 rfl) rfl (kI 0 rfl) (by rfl) (by rfl) (by rfl) (by rfl) rfl,tV [(2,_),(3,_)] [(13,.var _),(3,.var _),(2,.var _)] 65 rfl rfl rfl ?_⟩⟩)
             refine W.ret ?_
             intro a w hs
             show bodyPostD _ _ _ _ _ _
             rw [gt_some hc8 (by rw [go_6 hE (pre_s (sn_t hs1 hs2) hE2) hE3 ((wq_t (sn_t hs1 hs2)).trans hE4) hE5]; exact fin_s d1 (by simpa using d2) hc62)]
             exact endD hC1 hdf hkp (by decide) rfl inferInstance (get1R b2 b3) (.inr rfl) rfl rfl rfl rfl rfl rfl rfl rfl rfl rfl rfl rfl hs
     · refine W.l0 16 [.y 18 _,.y 19 _,.y 20 _,.y 21 _,.y 22 _,.y 23 _,.y 24 _,.y 25 _,.y 26 _,.y 27 _,.y 28 _,.y 29 _,.y 30 _,.y 31 _,.y 32 _,.y 5 _] [] [] [(0,_),(2,_),(3,_),(4,_),(5,_)] [(13,.var _),(3,.var _),(2,.var _)] 65 ⟨mU 4 rfl rfl,aU fun _ _ H K => R.nilcP (K 18 _ rfl) H,aU (fU 19 rfl rfl),aU (lU 20 rfl rfl rfl rfl rfl rfl rfl),aU fun _ _ H K => R.lenE (SC.sl (K 21 _ rfl)) (List.length_map _) H,aU fun _ _ H K => R.gtrN (r.length) (0) (eU K 22 rfl) (kI 0 rfl) H,mU 23 rfl rfl,aW rfl rfl (gT (decide_eq_true hs1) rfl) fun _ _ H K => R.mov (eU K 4 rfl) rfl H,aW rfl rfl (gT (decide_eq_true hs1) rfl) fun _ _ H K => R.nilcP (K 25 _ rfl) H,aW rfl rfl (gT (decide_eq_true hs1) rfl) (fU 26 rfl rfl),aW rfl rfl (gT (decide_eq_true hs1) rfl) (lU 27 rfl rfl rfl rfl rfl rfl rfl),aW rfl rfl (gT (decide_eq_true hs1) rfl) fun _ _ H K => R.idxN (0) (SC.sl (K 28 _ rfl)) (evoI (kI 0 rfl)) rfl bU H (by decide),aW rfl rfl (gT (decide_eq_true hs1) rfl) fun _ _ H K => R.ldE (K 29 _ rfl) (SC.sl (K 28 _ rfl)) (map_get! (l := r) bU) rfl rfl rfl rfl H,aW rfl rfl (gT (decide_eq_true hs1) rfl) fun _ _ H K => R.bin (eU K 30 rfl) (show ev _ _ (.const (.int .u8 0)) = some (.u8 0) from rfl) rfl trivial H,aU fun _ _ H K => R.pickT (eU K 24 rfl) (decide_eq_true hs1) (eU K 31 rfl) rfl H,aU fun _ _ H K => R.asg (eU K 32 rfl) rfl H,trivial⟩ rfl rfl rfl rfl (tU rfl ?_)
       refine W.seq ?_
       refine W.seq ?_
       refine W.l0 1 [.y 33 _] [] [] [(0,_),(2,_),(3,_),(4,_),(5,_),(33,_)] [(13,.var _),(3,.var _),(2,.var _)] 65 ⟨mU 5 rfl rfl,trivial⟩ rfl rfl rfl rfl (tU rfl ?_)
       refine W.condF rfl (by simpa using hs2) ?_
       refine W.skip ?_
       refine W.seq ?_
       rcases hE3 : bodyO r with _ | ⟨⟨ins,outs⟩,r2⟩
       · refine W.asOwnP 2 [1] 56 36 (bx' := [(13,.var _),(3,.var _),(2,.var _)]) rfl rfl rfl rfl rfl ?_
         refine W.asOwnP 2 [2] 46 2 (bx' := [(13,.var _),(3,.var _),(2,.var _)]) rfl rfl rfl rfl rfl ?_
         refine W.lineX (n := 2) (by decide) (its := [.y 36 _]) (ks := []) (kk := []) (live := [0,2,3,4,5,36]) (env' := [(0,_),(2,_),(3,_),(4,_),(5,_),(36,_)]) (⟨nU rfl,rfl,⟨mU 4 rfl rfl,trivial⟩,rfl,rfl,rfl⟩) rfl (bx' := [(13,.var _),(3,.var _),(2,.var _)]) rfl (n' := 65) rfl (⟨rfl,.inr (R.callXk [(0,13),(1,2)] hC (FnO.none' (rbody_ok r (by omega) x.toUInt32 0) (by rw [hE3]; rfl)) (EvB.cons (gV 36 rfl) rfl rfl rfl (EvB.cons (gV 2 rfl) rfl rfl rfl EvB.nil)) rfl ⟨rfl,⟨rfl,trivial⟩⟩ ⟨rfl,⟨rfl,trivial⟩⟩ rfl (fun e he => ?_))⟩)
         obtain ⟨ch,rfl,hch⟩ := he
         intro a w hs
         show bodyPostD _ _ _ _ _ _
         rw [gt_none hc8 (go_3 hE (pre_0 (sn_f2 hs2)) hE3)]
         exact endDP (z2 := #[.int .u32 0,.slice none 0 0,.slice none 0 0,.int .u32 0]) (z3 := #[.int .i64 5]) (r2 := .agg [.u32 0,.nils,.nils,.u32 0]) hC1 hdf hkp (by decide) (hb23 (by decide)) rfl inferInstance (fun w ch hch cs2 cs3 e2 e3 q2 s2 q3 s3 => get1P b2 b3 w hch (hb23 (by decide)) q2 s2 q3 s3) ⟨ch,rfl,hch⟩ rfl rfl rfl rfl rfl rfl rfl rfl rfl rfl rfl rfl rfl rfl wk_zero rfl hs
       have hbs := bodyO_sz hE3 (by omega)
       have hil := szI_len ins
       refine W.asOwnP 2 [1] 56 36 (bx' := [(13,.var _),(3,.var _),(2,.var _)]) rfl rfl rfl rfl rfl ?_
       refine W.asOwnP 2 [2] 46 2 (bx' := [(13,.var _),(3,.var _),(2,.var _)]) rfl rfl rfl rfl rfl ?_
       refine W.l0 2 [.y 36 _] [] [] [(0,_),(2,_),(3,_),(4,_),(5,_),(36,_)] [(13,.var _),(3,.var _),(2,.var _)] 65 ⟨mU 4 rfl rfl,trivial⟩ rfl rfl rfl rfl (⟨rfl,_,R.callB [(0,13),(1,2)] hC (FnO.some' (r := .tup []) (bx' := [(0,.var (.agg [.sl none 1 (r2.map D.u8)])),(1,.var (.agg [.u32 x.toUInt32,.sl (some 56) 36 (ins.map inN),.sl (some 46) 2 (outs.map outD),.u32 0]))]) (nw := []) (rbody_ok r (by omega) x.toUInt32 0) (by rw [hE3]; rfl)) (EvB.cons (gV 36 rfl) rfl rfl rfl (EvB.cons (gV 2 rfl) rfl rfl rfl EvB.nil)) rfl ⟨rfl,⟨rfl,trivial⟩⟩ ⟨rfl,⟨rfl,trivial⟩⟩ rfl rfl rfl rfl rfl rfl (nU rfl),tV [(0,_),(2,_),(3,_),(4,_),(5,_)] [(13,.var _),(3,.var _),(2,.var _)] 65 rfl rfl rfl ?_⟩)
       refine W.seq ?_
       refine W.seq ?_
       refine W.l0 1 [.y 38 _] [] [] [(0,_),(2,_),(3,_),(4,_),(38,_)] [(13,.var _),(3,.var _),(2,.var _)] 65 ⟨mU 5 rfl rfl,trivial⟩ rfl rfl rfl rfl (tU rfl ?_)
       refine W.condF rfl (by simpa using hs2) ?_
       refine W.skip ?_
       refine W.seq ?_
       rcases hE5 : numO r2 4 with _ | ⟨k,r4⟩
       · refine W.brwB 2 (d' := .agg [.u32 x.toUInt32,.sl none 36 (ins.map inN),.sl none 2 (outs.map outD),.u32 0]) (bx' := [(13,.var _),(3,.var _),(2,.var _)]) rfl (show (.agg [.u32 x.toUInt32,.sl (some 56) 36 (ins.map inN),.sl (some 46) 2 (outs.map outD),.u32 0] : D).brw = _ from by simp only [D.brw,brws_eq,List.map_cons,List.map_nil]; rw [brw_map brw_inN,brw_map brw_outD]) rfl ?_
         refine W.wkB 2 (d' := .agg [.u32 x.toUInt32,.sl none 36 (ins.map inD),.sl none 2 (outs.map outD),.u32 0]) (bx' := [(13,.var _),(3,.var _),(2,.var _)]) rfl (wk_txN fun z hz => (hbs.1 z hz).2) rfl ?_
         refine W.lineX (n := 5) (by decide) (its := [.y 41 _]) (ks := []) (kk := []) (live := [0,2,3,4,41]) (env' := [(0,_),(2,_),(3,_),(4,_),(41,_)]) (⟨nU rfl,rfl,⟨mU 4 rfl rfl,trivial⟩,rfl,rfl,rfl⟩) rfl (bx' := [(13,.var _),(3,.var _),(2,.var _)]) rfl (n' := 65) rfl (⟨rfl,.inr (R.callXk [(0,13)] hC (FnO.none' (rnumber_ok r2 (by omega) 4 (by decide)) (by rw [hE5]; rfl)) (EvB.cons (gV 41 rfl) rfl rfl rfl (EvB.cons (kI 4 rfl) rfl rfl rfl EvB.nil)) rfl ⟨rfl,trivial⟩ ⟨rfl,trivial⟩ rfl (fun e he => ?_))⟩)
         obtain ⟨ch,rfl,hch⟩ := he
         intro a w hs
         show bodyPostD _ _ _ _ _ _
         rw [gt_none hc8 (go_5 hE (pre_0 (sn_f2 hs2)) hE3 (wq_f (sn_f2 hs2)) hE5)]
         exact endDP (z2 := #[.int .u32 0,.slice none 0 0,.slice none 0 0,.int .u32 0]) (z3 := #[.int .i64 5]) (r2 := .agg [.u32 0,.nils,.nils,.u32 0]) hC1 hdf hkp (by decide) (hb23 (by decide)) rfl inferInstance (fun w ch hch cs2 cs3 e2 e3 q2 s2 q3 s3 => get1P b2 b3 w hch (hb23 (by decide)) q2 s2 q3 s3) ⟨ch,rfl,hch⟩ rfl rfl rfl rfl rfl rfl rfl rfl rfl rfl rfl rfl rfl rfl wk_zero rfl hs
       refine W.brwB 2 (d' := .agg [.u32 x.toUInt32,.sl none 36 (ins.map inN),.sl none 2 (outs.map outD),.u32 0]) (bx' := [(13,.var _),(3,.var _),(2,.var _)]) rfl (show (.agg [.u32 x.toUInt32,.sl (some 56) 36 (ins.map inN),.sl (some 46) 2 (outs.map outD),.u32 0] : D).brw = _ from by simp only [D.brw,brws_eq,List.map_cons,List.map_nil]; rw [brw_map brw_inN,brw_map brw_outD]) rfl ?_
       refine W.wkB 2 (d' := .agg [.u32 x.toUInt32,.sl none 36 (ins.map inD),.sl none 2 (outs.map outD),.u32 0]) (bx' := [(13,.var _),(3,.var _),(2,.var _)]) rfl (wk_txN fun z hz => (hbs.1 z hz).2) rfl ?_
       refine W.l0 5 [.y 41 _] [] [] [(0,_),(2,_),(3,_),(4,_),(41,_)] [(13,.var _),(3,.var _),(2,.var _)] 65 ⟨mU 4 rfl rfl,trivial⟩ rfl rfl rfl rfl (⟨rfl,_,R.callB [(0,13)] hC (FnO.some' (r := .u64 k) (bx' := [(0,.var (.agg [.sl none 1 (r4.map D.u8)]))]) (nw := []) (rnumber_ok r2 (by omega) 4 (by decide)) (by rw [hE5]; rfl)) (EvB.cons (gV 41 rfl) rfl rfl rfl (EvB.cons (kI 4 rfl) rfl rfl rfl EvB.nil)) rfl ⟨rfl,trivial⟩ ⟨rfl,trivial⟩ rfl rfl rfl rfl rfl rfl (nU rfl),⟨rfl,_,R.conv (gV 42 rfl) rfl (nU rfl),⟨rfl,_,R.fdP (gU 2 rfl) (nU rfl),⟨rfl,_,R.stZ (gU 44 rfl) (xU 2 rfl) rfl (gV 43 rfl) (by rfl) (by rfl) (by rfl) (by rfl) rfl,tV [(0,_),(2,_),(3,_),(4,_)] [(13,.var _),(3,.var _),(2,.var _)] 65 rfl rfl rfl ?_⟩⟩⟩⟩)
       refine W.seq ?_
       refine W.seq ?_
       by_cases d1 : 0 < r4.length
       · have hwf : ((⟨x.toUInt32,ins,outs,k.toUInt32⟩ : TxS)).wf := get_wf (by omega) (pre_0 (sn_f2 hs2)) hE3 (wq_f (sn_f2 hs2))
         refine W.l0 18 [.y 45 _,.y 46 _,.y 47 _,.y 48 _,.y 49 _,.y 50 _,.y 51 _,.x 52,.x 53,.x 54,.y 55 _,.y 56 _,.x 57,.x 58,.x 59,.x 60,.x 61,.y 62 _] [] [] [(2,_),(3,_),(62,_)] [(13,.var _),(3,.var _),(2,.var _)] 65 ⟨mU 4 rfl rfl,aU fun _ _ H K => R.nilcP (K 45 _ rfl) H,aU (fU 46 rfl rfl),aU (lU 47 rfl rfl rfl rfl rfl rfl rfl),aU fun _ _ H K => R.lenE (SC.sl (K 48 _ rfl)) (List.length_map _) H,aU fun _ _ H K => R.gtrN (r4.length) (0) (eU K 49 rfl) (kI 0 rfl) H,mU 50 rfl rfl,aF rfl rfl (gT (decide_eq_true d1) rfl),aF rfl rfl (gT (decide_eq_true d1) rfl),aF rfl rfl (gT (decide_eq_true d1) rfl),aU fun _ _ H K => R.pickT (eU K 51 rfl) (decide_eq_true d1) (kB true rfl) rfl H,mU 55 rfl rfl,aF rfl rfl (gT (rfl) rfl),aF rfl rfl (gT (rfl) rfl),aF rfl rfl (gT (rfl) rfl),aF rfl rfl (gT (rfl) rfl),aF rfl rfl (gT (rfl) rfl),aU fun _ _ H K => R.pickT (eU K 56 rfl) (rfl) (kB true rfl) rfl H,trivial⟩ rfl rfl rfl rfl (tU rfl ?_)
         refine W.condT rfl (rfl) ?_
         refine W.lineX (n := 2) (by decide) (its := [.y 63 _]) (ks := []) (kk := []) (live := [2,3,63]) (env' := [(2,_),(3,_),(63,_)]) (⟨nU rfl,rfl,⟨aU fun _ _ H _ => R.mkifc (kI 5 rfl) rfl rfl H,trivial⟩,rfl,rfl,rfl⟩) rfl (bx' := [(13,.var _),(3,.var _),(2,.var _)]) rfl (n' := 65) rfl (⟨rfl,.inr (R.panic (gU 63 rfl) (fun e he => ?_))⟩)
         obtain ⟨ch,rfl,hch⟩ := he
         intro a w hs
         show bodyPostD _ _ _ _ _ _
         rw [gt_none hc8 (by rw [go_6 hE (pre_0 (sn_f2 hs2)) hE3 (wq_f (sn_f2 hs2)) hE5]; first | exact fin_1 d1 | exact fin_2 d2 | exact fin_3 hc62)]
         exact endDP (z2 := #[.int .u32 0,.slice none 0 0,.slice none 0 0,.int .u32 0]) (z3 := #[.int .i64 5]) (r2 := .agg [.u32 0,.nils,.nils,.u32 0]) hC1 hdf hkp (by decide) (hb23 (by decide)) rfl inferInstance (fun w ch hch cs2 cs3 e2 e3 q2 s2 q3 s3 => get1P b2 b3 w hch (hb23 (by decide)) q2 s2 q3 s3) ⟨ch,rfl,hch⟩ rfl rfl rfl rfl rfl rfl rfl rfl rfl rfl rfl rfl rfl rfl wk_zero rfl hs
       · by_cases d2 : mayS (⟨x.toUInt32,ins,outs,k.toUInt32⟩ : TxS) = false
         · have hwf : ((⟨x.toUInt32,ins,outs,k.toUInt32⟩ : TxS)).wf := get_wf (by omega) (pre_0 (sn_f2 hs2)) hE3 (wq_f (sn_f2 hs2))
           refine W.l0 18 [.y 45 _,.y 46 _,.y 47 _,.y 48 _,.y 49 _,.y 50 _,.y 51 _,.y 52 _,.y 53 _,.y 54 _,.y 55 _,.y 56 _,.x 57,.x 58,.x 59,.x 60,.x 61,.y 62 _] [] [] [(2,_),(3,_),(62,_)] [(13,.var _),(3,.var _),(2,.var _)] 65 ⟨mU 4 rfl rfl,aU fun _ _ H K => R.nilcP (K 45 _ rfl) H,aU (fU 46 rfl rfl),aU (lU 47 rfl rfl rfl rfl rfl rfl rfl),aU fun _ _ H K => R.lenE (SC.sl (K 48 _ rfl)) (List.length_map _) H,aU fun _ _ H K => R.gtrN (r4.length) (0) (eU K 49 rfl) (kI 0 rfl) H,mU 50 rfl rfl,aW rfl rfl (gF (decide_eq_false d1) rfl) (lU 2 rfl rfl rfl rfl rfl rfl rfl),aW rfl rfl (gF (decide_eq_false d1) rfl) fun _ _ H K => R.callG hC (may_ok (⟨x.toUInt32,ins,outs,k.toUInt32⟩ : TxS) hwf) (Bors.cons (Bor.pur (eU K 52 rfl) rfl rfl) Bors.nil) (FrsR.one (.bool _)) H,aW rfl rfl (gF (decide_eq_false d1) rfl) fun _ _ H K => R.un (eU K 53 rfl) rfl H,aU fun _ _ H K => R.pickF (eU K 51 rfl) (decide_eq_false d1) (eU K 54 rfl) rfl H,mU 55 rfl rfl,aF rfl rfl (gT (by rw [d2]; rfl) rfl),aF rfl rfl (gT (by rw [d2]; rfl) rfl),aF rfl rfl (gT (by rw [d2]; rfl) rfl),aF rfl rfl (gT (by rw [d2]; rfl) rfl),aF rfl rfl (gT (by rw [d2]; rfl) rfl),aU fun _ _ H K => R.pickT (eU K 56 rfl) (by rw [d2]; rfl) (kB true rfl) rfl H,trivial⟩ rfl rfl rfl rfl (tU rfl ?_)
           refine W.condT rfl (rfl) ?_
           refine W.lineX (n := 2) (by decide) (its := [.y 63 _]) (ks := []) (kk := []) (live := [2,3,63]) (env' := [(2,_),(3,_),(63,_)]) (⟨nU rfl,rfl,⟨aU fun _ _ H _ => R.mkifc (kI 5 rfl) rfl rfl H,trivial⟩,rfl,rfl,rfl⟩) rfl (bx' := [(13,.var _),(3,.var _),(2,.var _)]) rfl (n' := 65) rfl (⟨rfl,.inr (R.panic (gU 63 rfl) (fun e he => ?_))⟩)
           obtain ⟨ch,rfl,hch⟩ := he
           intro a w hs
           show bodyPostD _ _ _ _ _ _
           rw [gt_none hc8 (by rw [go_6 hE (pre_0 (sn_f2 hs2)) hE3 (wq_f (sn_f2 hs2)) hE5]; first | exact fin_1 d1 | exact fin_2 d2 | exact fin_3 hc62)]
           exact endDP (z2 := #[.int .u32 0,.slice none 0 0,.slice none 0 0,.int .u32 0]) (z3 := #[.int .i64 5]) (r2 := .agg [.u32 0,.nils,.nils,.u32 0]) hC1 hdf hkp (by decide) (hb23 (by decide)) rfl inferInstance (fun w ch hch cs2 cs3 e2 e3 q2 s2 q3 s3 => get1P b2 b3 w hch (hb23 (by decide)) q2 s2 q3 s3) ⟨ch,rfl,hch⟩ rfl rfl rfl rfl rfl rfl rfl rfl rfl rfl rfl rfl rfl rfl wk_zero rfl hs
         · have hwf : ((⟨x.toUInt32,ins,outs,k.toUInt32⟩ : TxS)).wf := get_wf (by omega) (pre_0 (sn_f2 hs2)) hE3 (wq_f (sn_f2 hs2))
           refine W.l0 18 [.y 45 _,.y 46 _,.y 47 _,.y 48 _,.y 49 _,.y 50 _,.y 51 _,.y 52 _,.y 53 _,.y 54 _,.y 55 _,.y 56 _,.y 57 _,.y 58 _,.y 59 _,.y 60 _,.y 61 _,.y 62 _] [] [] [(2,_),(3,_),(62,_)] [(13,.var _),(3,.var _),(2,.var _)] 65 ⟨mU 4 rfl rfl,aU fun _ _ H K => R.nilcP (K 45 _ rfl) H,aU (fU 46 rfl rfl),aU (lU 47 rfl rfl rfl rfl rfl rfl rfl),aU fun _ _ H K => R.lenE (SC.sl (K 48 _ rfl)) (List.length_map _) H,aU fun _ _ H K => R.gtrN (r4.length) (0) (eU K 49 rfl) (kI 0 rfl) H,mU 50 rfl rfl,aW rfl rfl (gF (decide_eq_false d1) rfl) (lU 2 rfl rfl rfl rfl rfl rfl rfl),aW rfl rfl (gF (decide_eq_false d1) rfl) fun _ _ H K => R.callG hC (may_ok (⟨x.toUInt32,ins,outs,k.toUInt32⟩ : TxS) hwf) (Bors.cons (Bor.pur (eU K 52 rfl) rfl rfl) Bors.nil) (FrsR.one (.bool _)) H,aW rfl rfl (gF (decide_eq_false d1) rfl) fun _ _ H K => R.un (eU K 53 rfl) rfl H,aU fun _ _ H K => R.pickF (eU K 51 rfl) (decide_eq_false d1) (eU K 54 rfl) rfl H,mU 55 rfl rfl,aW rfl rfl (gF (by simpa using d2) rfl) (lU 2 rfl rfl rfl rfl rfl rfl rfl),aW rfl rfl (gF (by simpa using d2) rfl) fun _ _ H K => R.callG hC (put_ok (⟨x.toUInt32,ins,outs,k.toUInt32⟩ : TxS) hwf) (Bors.cons (Bor.pur (eU K 57 rfl) rfl rfl) Bors.nil) (FrsR.one (.sl _ _ _ (frs_map fun _ => .u8 _))) H,aW rfl rfl (gF (by simpa using d2) rfl) fun _ _ H K => R.mov (eU K 0 rfl) rfl H,aW rfl rfl (gF (by simpa using d2) rfl) fun _ _ H K => R.callG hC (beq_ok (putS (⟨x.toUInt32,ins,outs,k.toUInt32⟩ : TxS)) b) (Bors.cons (Bor.sc (SC.sl (K 58 _ rfl)) (brw_map (fun _ => rfl))) (Bors.cons (Bor.pur (eU K 59 rfl) rfl rfl) Bors.nil)) (FrsR.one (.bool _)) H,aW rfl rfl (gF (by simpa using d2) rfl) fun _ _ H K => R.un (eU K 60 rfl) rfl H,aU fun _ _ H K => R.pickF (eU K 56 rfl) (by simpa using d2) (eU K 61 rfl) rfl H,trivial⟩ rfl rfl rfl rfl (tU rfl ?_)
           refine W.cond rfl (fun hc62 => ?_) (fun hc62 => ?_)
           · refine W.lineX (n := 2) (by decide) (its := [.y 63 _]) (ks := []) (kk := []) (live := [2,3,63]) (env' := [(2,_),(3,_),(63,_)]) (⟨nU rfl,rfl,⟨aU fun _ _ H _ => R.mkifc (kI 5 rfl) rfl rfl H,trivial⟩,rfl,rfl,rfl⟩) rfl (bx' := [(13,.var _),(3,.var _),(2,.var _)]) rfl (n' := 65) rfl (⟨rfl,.inr (R.panic (gU 63 rfl) (fun e he => ?_))⟩)
             obtain ⟨ch,rfl,hch⟩ := he
             intro a w hs
             show bodyPostD _ _ _ _ _ _
             rw [gt_none hc8 (by rw [go_6 hE (pre_0 (sn_f2 hs2)) hE3 (wq_f (sn_f2 hs2)) hE5]; first | exact fin_1 d1 | exact fin_2 d2 | exact fin_3 hc62)]
             exact endDP (z2 := #[.int .u32 0,.slice none 0 0,.slice none 0 0,.int .u32 0]) (z3 := #[.int .i64 5]) (r2 := .agg [.u32 0,.nils,.nils,.u32 0]) hC1 hdf hkp (by decide) (hb23 (by decide)) rfl inferInstance (fun w ch hch cs2 cs3 e2 e3 q2 s2 q3 s3 => get1P b2 b3 w hch (hb23 (by decide)) q2 s2 q3 s3) ⟨ch,rfl,hch⟩ rfl rfl rfl rfl rfl rfl rfl rfl rfl rfl rfl rfl rfl rfl wk_zero rfl hs
           · refine W.skip ?_
             refine W.seq ?_
             refine W.l0 3 [.y 64 _] [] [] [(2,_),(3,_),(64,_)] [(13,.var _),(3,.var _),(2,.var _)] 65 ⟨aU (lU 2 rfl rfl rfl rfl rfl rfl rfl),trivial⟩ rfl rfl rfl rfl (⟨rfl,_,R.stZ (gU 2 rfl) (xU 2 rfl) rfl (gV 64 rfl) (by rfl) (by rfl) (by rfl) (by rfl) rfl,⟨rfl,_,R.stZ (gU 3 rfl) (xU 3 rfl) rfl (kI 0 rfl) (by rfl) (by rfl) (by rfl) (by rfl) rfl,tV [(2,_),(3,_)] [(13,.var _),(3,.var _),(2,.var _)] 65 rfl rfl rfl ?_⟩⟩)
             refine W.ret ?_
             intro a w hs
             show bodyPostD _ _ _ _ _ _
             rw [gt_some hc8 (by rw [go_6 hE (pre_0 (sn_f2 hs2)) hE3 (wq_f (sn_f2 hs2)) hE5]; exact fin_s d1 (by simpa using d2) hc62)]
             exact endD hC1 hdf hkp (by decide) rfl inferInstance (get1R b2 b3) (.inr rfl) rfl rfl rfl rfl rfl rfl rfl rfl rfl rfl rfl rfl hs
   · refine W.l0 16 [.y 18 _,.y 19 _,.y 20 _,.y 21 _,.y 22 _,.y 23 _,.y 24 _,.x 25,.x 26,.x 27,.x 28,.x 29,.x 30,.x 31,.y 32 _,.y 5 _] [] [] [(0,_),(2,_),(3,_),(4,_),(5,_)] [(13,.var _),(3,.var _),(2,.var _)] 65 ⟨mU 4 rfl rfl,aU fun _ _ H K => R.nilcP (K 18 _ rfl) H,aU (fU 19 rfl rfl),aU (lU 20 rfl rfl rfl rfl rfl rfl rfl),aU fun _ _ H K => R.lenE (SC.sl (K 21 _ rfl)) (List.length_map _) H,aU fun _ _ H K => R.gtrN (r.length) (0) (eU K 22 rfl) (kI 0 rfl) H,mU 23 rfl rfl,aF rfl rfl (gF (decide_eq_false hs1) rfl),aF rfl rfl (gF (decide_eq_false hs1) rfl),aF rfl rfl (gF (decide_eq_false hs1) rfl),aF rfl rfl (gF (decide_eq_false hs1) rfl),aF rfl rfl (gF (decide_eq_false hs1) rfl),aF rfl rfl (gF (decide_eq_false hs1) rfl),aF rfl rfl (gF (decide_eq_false hs1) rfl),aU fun _ _ H K => R.pickF (eU K 24 rfl) (decide_eq_false hs1) (kB false rfl) rfl H,aU fun _ _ H K => R.asg (eU K 32 rfl) rfl H,trivial⟩ rfl rfl rfl rfl (tU rfl ?_)
     refine W.seq ?_
     refine W.seq ?_
     refine W.l0 1 [.y 33 _] [] [] [(0,_),(2,_),(3,_),(4,_),(5,_),(33,_)] [(13,.var _),(3,.var _),(2,.var _)] 65 ⟨mU 5 rfl rfl,trivial⟩ rfl rfl rfl rfl (tU rfl ?_)
     refine W.condF rfl (rfl) ?_
     refine W.skip ?_
     refine W.seq ?_
     rcases hE3 : bodyO r with _ | ⟨⟨ins,outs⟩,r2⟩
     · refine W.asOwnP 2 [1] 56 36 (bx' := [(13,.var _),(3,.var _),(2,.var _)]) rfl rfl rfl rfl rfl ?_
       refine W.asOwnP 2 [2] 46 2 (bx' := [(13,.var _),(3,.var _),(2,.var _)]) rfl rfl rfl rfl rfl ?_
       refine W.lineX (n := 2) (by decide) (its := [.y 36 _]) (ks := []) (kk := []) (live := [0,2,3,4,5,36]) (env' := [(0,_),(2,_),(3,_),(4,_),(5,_),(36,_)]) (⟨nU rfl,rfl,⟨mU 4 rfl rfl,trivial⟩,rfl,rfl,rfl⟩) rfl (bx' := [(13,.var _),(3,.var _),(2,.var _)]) rfl (n' := 65) rfl (⟨rfl,.inr (R.callXk [(0,13),(1,2)] hC (FnO.none' (rbody_ok r (by omega) x.toUInt32 0) (by rw [hE3]; rfl)) (EvB.cons (gV 36 rfl) rfl rfl rfl (EvB.cons (gV 2 rfl) rfl rfl rfl EvB.nil)) rfl ⟨rfl,⟨rfl,trivial⟩⟩ ⟨rfl,⟨rfl,trivial⟩⟩ rfl (fun e he => ?_))⟩)
       obtain ⟨ch,rfl,hch⟩ := he
       intro a w hs
       show bodyPostD _ _ _ _ _ _
       rw [gt_none hc8 (go_3 hE (pre_0 (sn_f1 hs1)) hE3)]
       exact endDP (z2 := #[.int .u32 0,.slice none 0 0,.slice none 0 0,.int .u32 0]) (z3 := #[.int .i64 5]) (r2 := .agg [.u32 0,.nils,.nils,.u32 0]) hC1 hdf hkp (by decide) (hb23 (by decide)) rfl inferInstance (fun w ch hch cs2 cs3 e2 e3 q2 s2 q3 s3 => get1P b2 b3 w hch (hb23 (by decide)) q2 s2 q3 s3) ⟨ch,rfl,hch⟩ rfl rfl rfl rfl rfl rfl rfl rfl rfl rfl rfl rfl rfl rfl wk_zero rfl hs
     have hbs := bodyO_sz hE3 (by omega)
     have hil := szI_len ins
     refine W.asOwnP 2 [1] 56 36 (bx' := [(13,.var _),(3,.var _),(2,.var _)]) rfl rfl rfl rfl rfl ?_
     refine W.asOwnP 2 [2] 46 2 (bx' := [(13,.var _),(3,.var _),(2,.var _)]) rfl rfl rfl rfl rfl ?_
     refine W.l0 2 [.y 36 _] [] [] [(0,_),(2,_),(3,_),(4,_),(5,_),(36,_)] [(13,.var _),(3,.var _),(2,.var _)] 65 ⟨mU 4 rfl rfl,trivial⟩ rfl rfl rfl rfl (⟨rfl,_,R.callB [(0,13),(1,2)] hC (FnO.some' (r := .tup []) (bx' := [(0,.var (.agg [.sl none 1 (r2.map D.u8)])),(1,.var (.agg [.u32 x.toUInt32,.sl (some 56) 36 (ins.map inN),.sl (some 46) 2 (outs.map outD),.u32 0]))]) (nw := []) (rbody_ok r (by omega) x.toUInt32 0) (by rw [hE3]; rfl)) (EvB.cons (gV 36 rfl) rfl rfl rfl (EvB.cons (gV 2 rfl) rfl rfl rfl EvB.nil)) rfl ⟨rfl,⟨rfl,trivial⟩⟩ ⟨rfl,⟨rfl,trivial⟩⟩ rfl rfl rfl rfl rfl rfl (nU rfl),tV [(0,_),(2,_),(3,_),(4,_),(5,_)] [(13,.var _),(3,.var _),(2,.var _)] 65 rfl rfl rfl ?_⟩)
     refine W.seq ?_
     refine W.seq ?_
     refine W.l0 1 [.y 38 _] [] [] [(0,_),(2,_),(3,_),(4,_),(38,_)] [(13,.var _),(3,.var _),(2,.var _)] 65 ⟨mU 5 rfl rfl,trivial⟩ rfl rfl rfl rfl (tU rfl ?_)
     refine W.condF rfl (rfl) ?_
     refine W.skip ?_
     refine W.seq ?_
     rcases hE5 : numO r2 4 with _ | ⟨k,r4⟩
     · refine W.brwB 2 (d' := .agg [.u32 x.toUInt32,.sl none 36 (ins.map inN),.sl none 2 (outs.map outD),.u32 0]) (bx' := [(13,.var _),(3,.var _),(2,.var _)]) rfl (show (.agg [.u32 x.toUInt32,.sl (some 56) 36 (ins.map inN),.sl (some 46) 2 (outs.map outD),.u32 0] : D).brw = _ from by simp only [D.brw,brws_eq,List.map_cons,List.map_nil]; rw [brw_map brw_inN,brw_map brw_outD]) rfl ?_
       refine W.wkB 2 (d' := .agg [.u32 x.toUInt32,.sl none 36 (ins.map inD),.sl none 2 (outs.map outD),.u32 0]) (bx' := [(13,.var _),(3,.var _),(2,.var _)]) rfl (wk_txN fun z hz => (hbs.1 z hz).2) rfl ?_
       refine W.lineX (n := 5) (by decide) (its := [.y 41 _]) (ks := []) (kk := []) (live := [0,2,3,4,41]) (env' := [(0,_),(2,_),(3,_),(4,_),(41,_)]) (⟨nU rfl,rfl,⟨mU 4 rfl rfl,trivial⟩,rfl,rfl,rfl⟩) rfl (bx' := [(13,.var _),(3,.var _),(2,.var _)]) rfl (n' := 65) rfl (⟨rfl,.inr (R.callXk [(0,13)] hC (FnO.none' (rnumber_ok r2 (by omega) 4 (by decide)) (by rw [hE5]; rfl)) (EvB.cons (gV 41 rfl) rfl rfl rfl (EvB.cons (kI 4 rfl) rfl rfl rfl EvB.nil)) rfl ⟨rfl,trivial⟩ ⟨rfl,trivial⟩ rfl (fun e he => ?_))⟩)
       obtain ⟨ch,rfl,hch⟩ := he
       intro a w hs
       show bodyPostD _ _ _ _ _ _
       rw [gt_none hc8 (go_5 hE (pre_0 (sn_f1 hs1)) hE3 (wq_f (sn_f1 hs1)) hE5)]
       exact endDP (z2 := #[.int .u32 0,.slice none 0 0,.slice none 0 0,.int .u32 0]) (z3 := #[.int .i64 5]) (r2 := .agg [.u32 0,.nils,.nils,.u32 0]) hC1 hdf hkp (by decide) (hb23 (by decide)) rfl inferInstance (fun w ch hch cs2 cs3 e2 e3 q2 s2 q3 s3 => get1P b2 b3 w hch (hb23 (by decide)) q2 s2 q3 s3) ⟨ch,rfl,hch⟩ rfl rfl rfl rfl rfl rfl rfl rfl rfl rfl rfl rfl rfl rfl wk_zero rfl hs
     refine W.brwB 2 (d' := .agg [.u32 x.toUInt32,.sl none 36 (ins.map inN),.sl none 2 (outs.map outD),.u32 0]) (bx' := [(13,.var _),(3,.var _),(2,.var _)]) rfl (show (.agg [.u32 x.toUInt32,.sl (some 56) 36 (ins.map inN),.sl (some 46) 2 (outs.map outD),.u32 0] : D).brw = _ from by simp only [D.brw,brws_eq,List.map_cons,List.map_nil]; rw [brw_map brw_inN,brw_map brw_outD]) rfl ?_
     refine W.wkB 2 (d' := .agg [.u32 x.toUInt32,.sl none 36 (ins.map inD),.sl none 2 (outs.map outD),.u32 0]) (bx' := [(13,.var _),(3,.var _),(2,.var _)]) rfl (wk_txN fun z hz => (hbs.1 z hz).2) rfl ?_
     refine W.l0 5 [.y 41 _] [] [] [(0,_),(2,_),(3,_),(4,_),(41,_)] [(13,.var _),(3,.var _),(2,.var _)] 65 ⟨mU 4 rfl rfl,trivial⟩ rfl rfl rfl rfl (⟨rfl,_,R.callB [(0,13)] hC (FnO.some' (r := .u64 k) (bx' := [(0,.var (.agg [.sl none 1 (r4.map D.u8)]))]) (nw := []) (rnumber_ok r2 (by omega) 4 (by decide)) (by rw [hE5]; rfl)) (EvB.cons (gV 41 rfl) rfl rfl rfl (EvB.cons (kI 4 rfl) rfl rfl rfl EvB.nil)) rfl ⟨rfl,trivial⟩ ⟨rfl,trivial⟩ rfl rfl rfl rfl rfl rfl (nU rfl),⟨rfl,_,R.conv (gV 42 rfl) rfl (nU rfl),⟨rfl,_,R.fdP (gU 2 rfl) (nU rfl),⟨rfl,_,R.stZ (gU 44 rfl) (xU 2 rfl) rfl (gV 43 rfl) (by rfl) (by rfl) (by rfl) (by rfl) rfl,tV [(0,_),(2,_),(3,_),(4,_)] [(13,.var _),(3,.var _),(2,.var _)] 65 rfl rfl rfl ?_⟩⟩⟩⟩)
     refine W.seq ?_
     refine W.seq ?_
     by_cases d1 : 0 < r4.length
     · have hwf : ((⟨x.toUInt32,ins,outs,k.toUInt32⟩ : TxS)).wf := get_wf (by omega) (pre_0 (sn_f1 hs1)) hE3 (wq_f (sn_f1 hs1))
       refine W.l0 18 [.y 45 _,.y 46 _,.y 47 _,.y 48 _,.y 49 _,.y 50 _,.y 51 _,.x 52,.x 53,.x 54,.y 55 _,.y 56 _,.x 57,.x 58,.x 59,.x 60,.x 61,.y 62 _] [] [] [(2,_),(3,_),(62,_)] [(13,.var _),(3,.var _),(2,.var _)] 65 ⟨mU 4 rfl rfl,aU fun _ _ H K => R.nilcP (K 45 _ rfl) H,aU (fU 46 rfl rfl),aU (lU 47 rfl rfl rfl rfl rfl rfl rfl),aU fun _ _ H K => R.lenE (SC.sl (K 48 _ rfl)) (List.length_map _) H,aU fun _ _ H K => R.gtrN (r4.length) (0) (eU K 49 rfl) (kI 0 rfl) H,mU 50 rfl rfl,aF rfl rfl (gT (decide_eq_true d1) rfl),aF rfl rfl (gT (decide_eq_true d1) rfl),aF rfl rfl (gT (decide_eq_true d1) rfl),aU fun _ _ H K => R.pickT (eU K 51 rfl) (decide_eq_true d1) (kB true rfl) rfl H,mU 55 rfl rfl,aF rfl rfl (gT (rfl) rfl),aF rfl rfl (gT (rfl) rfl),aF rfl rfl (gT (rfl) rfl),aF rfl rfl (gT (rfl) rfl),aF rfl rfl (gT (rfl) rfl),aU fun _ _ H K => R.pickT (eU K 56 rfl) (rfl) (kB true rfl) rfl H,trivial⟩ rfl rfl rfl rfl (tU rfl ?_)
       refine W.condT rfl (rfl) ?_
       refine W.lineX (n := 2) (by decide) (its := [.y 63 _]) (ks := []) (kk := []) (live := [2,3,63]) (env' := [(2,_),(3,_),(63,_)]) (⟨nU rfl,rfl,⟨aU fun _ _ H _ => R.mkifc (kI 5 rfl) rfl rfl H,trivial⟩,rfl,rfl,rfl⟩) rfl (bx' := [(13,.var _),(3,.var _),(2,.var _)]) rfl (n' := 65) rfl (⟨rfl,.inr (R.panic (gU 63 rfl) (fun e he => ?_))⟩)
       obtain ⟨ch,rfl,hch⟩ := he
       intro a w hs
       show bodyPostD _ _ _ _ _ _
       rw [gt_none hc8 (by rw [go_6 hE (pre_0 (sn_f1 hs1)) hE3 (wq_f (sn_f1 hs1)) hE5]; first | exact fin_1 d1 | exact fin_2 d2 | exact fin_3 hc62)]
       exact endDP (z2 := #[.int .u32 0,.slice none 0 0,.slice none 0 0,.int .u32 0]) (z3 := #[.int .i64 5]) (r2 := .agg [.u32 0,.nils,.nils,.u32 0]) hC1 hdf hkp (by decide) (hb23 (by decide)) rfl inferInstance (fun w ch hch cs2 cs3 e2 e3 q2 s2 q3 s3 => get1P b2 b3 w hch (hb23 (by decide)) q2 s2 q3 s3) ⟨ch,rfl,hch⟩ rfl rfl rfl rfl rfl rfl rfl rfl rfl rfl rfl rfl rfl rfl wk_zero rfl hs
     · by_cases d2 : mayS (⟨x.toUInt32,ins,outs,k.toUInt32⟩ : TxS) = false
       · have hwf : ((⟨x.toUInt32,ins,outs,k.toUInt32⟩ : TxS)).wf := get_wf (by omega) (pre_0 (sn_f1 hs1)) hE3 (wq_f (sn_f1 hs1))
         refine W.l0 18 [.y 45 _,.y 46 _,.y 47 _,.y 48 _,.y 49 _,.y 50 _,.y 51 _,.y 52 _,.y 53 _,.y 54 _,.y 55 _,.y 56 _,.x 57,.x 58,.x 59,.x 60,.x 61,.y 62 _] [] [] [(2,_),(3,_),(62,_)] [(13,.var _),(3,.var _),(2,.var _)] 65 ⟨mU 4 rfl rfl,aU fun _ _ H K => R.nilcP (K 45 _ rfl) H,aU (fU 46 rfl rfl),aU (lU 47 rfl rfl rfl rfl rfl rfl rfl),aU fun _ _ H K => R.lenE (SC.sl (K 48 _ rfl)) (List.length_map _) H,aU fun _ _ H K => R.gtrN (r4.length) (0) (eU K 49 rfl) (kI 0 rfl) H,mU 50 rfl rfl,aW rfl rfl (gF (decide_eq_false d1) rfl) (lU 2 rfl rfl rfl rfl rfl rfl rfl),aW rfl rfl (gF (decide_eq_false d1) rfl) fun _ _ H K => R.callG hC (may_ok (⟨x.toUInt32,ins,outs,k.toUInt32⟩ : TxS) hwf) (Bors.cons (Bor.pur (eU K 52 rfl) rfl rfl) Bors.nil) (FrsR.one (.bool _)) H,aW rfl rfl (gF (decide_eq_false d1) rfl) fun _ _ H K => R.un (eU K 53 rfl) rfl H,aU fun _ _ H K => R.pickF (eU K 51 rfl) (decide_eq_false d1) (eU K 54 rfl) rfl H,mU 55 rfl rfl,aF rfl rfl (gT (by rw [d2]; rfl) rfl),aF rfl rfl (gT (by rw [d2]; rfl) rfl),aF rfl rfl (gT (by rw [d2]; rfl) rfl),aF rfl rfl (gT (by rw [d2]; rfl) rfl),aF rfl rfl (gT (by rw [d2]; rfl) rfl),aU fun _ _ H K => R.pickT (eU K 56 rfl) (by rw [d2]; rfl) (kB true rfl) rfl H,trivial⟩ rfl rfl rfl rfl (tU rfl ?_)
         refine W.condT rfl (rfl) ?_
         refine W.lineX (n := 2) (by decide) (its := [.y 63 _]) (ks := []) (kk := []) (live := [2,3,63]) (env' := [(2,_),(3,_),(63,_)]) (⟨nU rfl,rfl,⟨aU fun _ _ H _ => R.mkifc (kI 5 rfl) rfl rfl H,trivial⟩,rfl,rfl,rfl⟩) rfl (bx' := [(13,.var _),(3,.var _),(2,.var _)]) rfl (n' := 65) rfl (⟨rfl,.inr (R.panic (gU 63 rfl) (fun e he => ?_))⟩)
         obtain ⟨ch,rfl,hch⟩ := he
         intro a w hs
         show bodyPostD _ _ _ _ _ _
         rw [gt_none hc8 (by rw [go_6 hE (pre_0 (sn_f1 hs1)) hE3 (wq_f (sn_f1 hs1)) hE5]; first | exact fin_1 d1 | exact fin_2 d2 | exact fin_3 hc62)]
         exact endDP (z2 := #[.int .u32 0,.slice none 0 0,.slice none 0 0,.int .u32 0]) (z3 := #[.int .i64 5]) (r2 := .agg [.u32 0,.nils,.nils,.u32 0]) hC1 hdf hkp (by decide) (hb23 (by decide)) rfl inferInstance (fun w ch hch cs2 cs3 e2 e3 q2 s2 q3 s3 => get1P b2 b3 w hch (hb23 (by decide)) q2 s2 q3 s3) ⟨ch,rfl,hch⟩ rfl rfl rfl rfl rfl rfl rfl rfl rfl rfl rfl rfl rfl rfl wk_zero rfl hs
       · have hwf : ((⟨x.toUInt32,ins,outs,k.toUInt32⟩ : TxS)).wf := get_wf (by omega) (pre_0 (sn_f1 hs1)) hE3 (wq_f (sn_f1 hs1))
         refine W.l0 18 [.y 45 _,.y 46 _,.y 47 _,.y 48 _,.y 49 _,.y 50 _,.y 51 _,.y 52 _,.y 53 _,.y 54 _,.y 55 _,.y 56 _,.y 57 _,.y 58 _,.y 59 _,.y 60 _,.y 61 _,.y 62 _] [] [] [(2,_),(3,_),(62,_)] [(13,.var _),(3,.var _),(2,.var _)] 65 ⟨mU 4 rfl rfl,aU fun _ _ H K => R.nilcP (K 45 _ rfl) H,aU (fU 46 rfl rfl),aU (lU 47 rfl rfl rfl rfl rfl rfl rfl),aU fun _ _ H K => R.lenE (SC.sl (K 48 _ rfl)) (List.length_map _) H,aU fun _ _ H K => R.gtrN (r4.length) (0) (eU K 49 rfl) (kI 0 rfl) H,mU 50 rfl rfl,aW rfl rfl (gF (decide_eq_false d1) rfl) (lU 2 rfl rfl rfl rfl rfl rfl rfl),aW rfl rfl (gF (decide_eq_false d1) rfl) fun _ _ H K => R.callG hC (may_ok (⟨x.toUInt32,ins,outs,k.toUInt32⟩ : TxS) hwf) (Bors.cons (Bor.pur (eU K 52 rfl) rfl rfl) Bors.nil) (FrsR.one (.bool _)) H,aW rfl rfl (gF (decide_eq_false d1) rfl) fun _ _ H K => R.un (eU K 53 rfl) rfl H,aU fun _ _ H K => R.pickF (eU K 51 rfl) (decide_eq_false d1) (eU K 54 rfl) rfl H,mU 55 rfl rfl,aW rfl rfl (gF (by simpa using d2) rfl) (lU 2 rfl rfl rfl rfl rfl rfl rfl),aW rfl rfl (gF (by simpa using d2) rfl) fun _ _ H K => R.callG hC (put_ok (⟨x.toUInt32,ins,outs,k.toUInt32⟩ : TxS) hwf) (Bors.cons (Bor.pur (eU K 57 rfl) rfl rfl) Bors.nil) (FrsR.one (.sl _ _ _ (frs_map fun _ => .u8 _))) H,aW rfl rfl (gF (by simpa using d2) rfl) fun _ _ H K => R.mov (eU K 0 rfl) rfl H,aW rfl rfl (gF (by simpa using d2) rfl) fun _ _ H K => R.callG hC (beq_ok (putS (⟨x.toUInt32,ins,outs,k.toUInt32⟩ : TxS)) b) (Bors.cons (Bor.sc (SC.sl (K 58 _ rfl)) (brw_map (fun _ => rfl))) (Bors.cons (Bor.pur (eU K 59 rfl) rfl rfl) Bors.nil)) (FrsR.one (.bool _)) H,aW rfl rfl (gF (by simpa using d2) rfl) fun _ _ H K => R.un (eU K 60 rfl) rfl H,aU fun _ _ H K => R.pickF (eU K 56 rfl) (by simpa using d2) (eU K 61 rfl) rfl H,trivial⟩ rfl rfl rfl rfl (tU rfl ?_)
         refine W.cond rfl (fun hc62 => ?_) (fun hc62 => ?_)
         · refine W.lineX (n := 2) (by decide) (its := [.y 63 _]) (ks := []) (kk := []) (live := [2,3,63]) (env' := [(2,_),(3,_),(63,_)]) (⟨nU rfl,rfl,⟨aU fun _ _ H _ => R.mkifc (kI 5 rfl) rfl rfl H,trivial⟩,rfl,rfl,rfl⟩) rfl (bx' := [(13,.var _),(3,.var _),(2,.var _)]) rfl (n' := 65) rfl (⟨rfl,.inr (R.panic (gU 63 rfl) (fun e he => ?_))⟩)
           obtain ⟨ch,rfl,hch⟩ := he
           intro a w hs
           show bodyPostD _ _ _ _ _ _
           rw [gt_none hc8 (by rw [go_6 hE (pre_0 (sn_f1 hs1)) hE3 (wq_f (sn_f1 hs1)) hE5]; first | exact fin_1 d1 | exact fin_2 d2 | exact fin_3 hc62)]
           exact endDP (z2 := #[.int .u32 0,.slice none 0 0,.slice none 0 0,.int .u32 0]) (z3 := #[.int .i64 5]) (r2 := .agg [.u32 0,.nils,.nils,.u32 0]) hC1 hdf hkp (by decide) (hb23 (by decide)) rfl inferInstance (fun w ch hch cs2 cs3 e2 e3 q2 s2 q3 s3 => get1P b2 b3 w hch (hb23 (by decide)) q2 s2 q3 s3) ⟨ch,rfl,hch⟩ rfl rfl rfl rfl rfl rfl rfl rfl rfl rfl rfl rfl rfl rfl wk_zero rfl hs
         · refine W.skip ?_
           refine W.seq ?_
           refine W.l0 3 [.y 64 _] [] [] [(2,_),(3,_),(64,_)] [(13,.var _),(3,.var _),(2,.var _)] 65 ⟨aU (lU 2 rfl rfl rfl rfl rfl rfl rfl),trivial⟩ rfl rfl rfl rfl (⟨rfl,_,R.stZ (gU 2 rfl) (xU 2 rfl) rfl (gV 64 rfl) (by rfl) (by rfl) (by rfl) (by rfl) rfl,⟨rfl,_,R.stZ (gU 3 rfl) (xU 3 rfl) rfl (kI 0 rfl) (by rfl) (by rfl) (by rfl) (by rfl) rfl,tV [(2,_),(3,_)] [(13,.var _),(3,.var _),(2,.var _)] 65 rfl rfl rfl ?_⟩⟩)
           refine W.ret ?_
           intro a w hs
           show bodyPostD _ _ _ _ _ _
           rw [gt_some hc8 (by rw [go_6 hE (pre_0 (sn_f1 hs1)) hE3 (wq_f (sn_f1 hs1)) hE5]; exact fin_s d1 (by simpa using d2) hc62)]
           exact endD hC1 hdf hkp (by decide) rfl inferInstance (get1R b2 b3) (.inr rfl) rfl rfl rfl rfl rfl rfl rfl rfl rfl rfl rfl rfl hs

end Go.Sx

namespace Go.Sx
open Go.Proofs
theorem small_ok : Fn Tryd.prog gl 28 [] (.agg [.u32 1,.sl (some 56) 36 [.agg [.agg [hashD (List.replicate 32 0),.u32 4294967295],.nils,.u32 4294967295,.nils]],.sl (some 46) 2 [.agg [.u64 5,.sl none 1 [.u8 81]]],.u32 0]) := by
 refine Fn.of (n := 8) Tryd.func28 rfl rfl rfl (nU rfl) fun C hC hD => ?_
 refine W.seq ?_
 refine W.l0 1 [] [] [] [] [] 8 trivial rfl rfl rfl rfl (⟨rfl,_,R.alloc rfl (nU rfl),tV [(0,_)] [(0,.var _)] 8 rfl rfl rfl ?_⟩)
 refine W.seq ?_
 refine W.l0 8 [.y 1 _,.y 2 _,.y 3 _,.y 4 _,.y 5 _,.y 6 _,.y 7 _] [(6,3),(6,6)] [(6,3),(6,6)] [(0,_),(7,_)] [(0,.var _)] 8 ⟨aU fun _ _ H _ => R.bldSE (l := [.arr 32 1 ((List.replicate 32 0).map D.u8),.u32 0]) (l' := [_,_]) (.cons (show ev _ _ (.const (.int .u32 4294967295)) = some (.u32 4294967295) from rfl) (.nil rfl)) ⟨⟨_,(show ev _ _ (.const (.int .u32 4294967295)) = some (.u32 4294967295) from rfl),rfl,rfl,rfl⟩,trivial⟩ H,aU fun _ _ H K => R.bldSE (l := [.agg [.arr 32 1 ((List.replicate 32 0).map D.u8),.u32 0],.nils,.u32 0,.nils]) (l' := [_,_,_,_]) (.cons (eU K 1 rfl) (.cons (show ev _ _ (.const (.int .u32 4294967295)) = some (.u32 4294967295) from rfl) (.nil rfl))) ⟨⟨_,(eU K 1 rfl),rfl,rfl,rfl⟩,⟨⟨_,(show ev _ _ (.const (.int .u32 4294967295)) = some (.u32 4294967295) from rfl),rfl,rfl,rfl⟩,trivial⟩⟩ H,aU fun _ _ H K => R.bslE (z := 36) (.cons (eU K 2 rfl) .nil) ⟨⟨rfl,rfl,rfl⟩,trivial⟩ rfl H (by decide),aU fun _ _ H _ => R.frzT (r' := .sl none 1 [.u8 81]) (R.bslE (z := 1) (.cons (show ev _ _ (.const (.int .u8 81)) = some (.u8 81) from rfl) .nil) ⟨⟨rfl,rfl,rfl⟩,trivial⟩ rfl H (by decide)) rfl (rfl),aU fun _ _ H K => R.bldSE (l := [.u64 0,.nils]) (l' := [_,_]) (.cons (show ev _ _ (.const (.int .u64 5)) = some (.u64 5) from rfl) (.cons (eU K 4 rfl) (.nil rfl))) ⟨⟨_,(show ev _ _ (.const (.int .u64 5)) = some (.u64 5) from rfl),rfl,rfl,rfl⟩,⟨⟨_,(eU K 4 rfl),rfl,rfl,rfl⟩,trivial⟩⟩ H,aU fun _ _ H K => R.bslE (z := 2) (.cons (eU K 5 rfl) .nil) ⟨⟨rfl,rfl,rfl⟩,trivial⟩ rfl H (by decide),aU fun _ _ H K => R.bldO (l := [.u32 0,.nils,.nils,.u32 0]) (l' := [_,_,_,_]) (.pur (show ev _ _ (.const (.int .u32 1)) = some (.u32 1) from rfl) rfl rfl rfl (.own (K 3 _ rfl) rfl rfl rfl rfl (.own (K 6 _ rfl) rfl rfl rfl rfl (.nil rfl)))) rfl H,trivial⟩ rfl rfl rfl rfl (⟨rfl,_,R.stOZ (gU 0 rfl) (xU 0 rfl) rfl (gU 7 rfl) rfl rfl (by rfl) (by rfl) rfl rfl,tV [(0,_)] [(0,.var _)] 8 rfl rfl rfl ?_⟩)
 refine W.ret ?_
 exact Ends.one' (.inr rfl) rfl (rfl) rfl rfl (show LdT _ 26 4 true from inferInstance)

end Go.Sx

namespace Go.Sx
open Go.Proofs
section
variable {b r r0 r1 r2 r3 r4 r5 x s u : List UInt8} {bad e e0 e1 e2 e3 e4 e5 e6 : Bool} {p q : UInt64} {i j n m : Nat} {l : List InS} {o : List OutS}
end
end Go.Sx

namespace Go.Sx
open Go.Proofs
end Go.Sx

namespace Go.Sx
open Go.Proofs
end Go.Sx

namespace Go.Sx
def val : List UInt8 → Nat
 | [] => 0
 | x :: r => x.toNat + 256 * val r
theorem val_lt (l : List UInt8) : val l < 256 ^ l.length := by
 induction l with
 | nil => simp [val]
 | cons x r ih =>
  have := x.toNat_lt
  simp only [val,List.length_cons,Nat.pow_succ]
  omega
theorem val_snoc (l : List UInt8) (x : UInt8) : val (l ++ [x]) = val l + 256 ^ l.length * x.toNat := by
 induction l with
 | nil => simp [val]
 | cons y r ih =>
  simp only [List.cons_append,val,ih,List.length_cons,Nat.pow_succ]
  rw [Nat.mul_add,← Nat.mul_assoc,Nat.mul_comm 256 (256 ^ r.length)]
  omega
theorem p256 (i : Nat) : (256 : Nat) ^ i = 2 ^ (8 * i) := by
 rw [Nat.pow_mul]
theorem numI_val (l : List UInt8) : ∀ i,i ≤ l.length → i ≤ 8 → (numI l i).toNat = val (l.take i) := by
 intro i
 induction i with
 | zero => intro _ _; simp [numI,val]
 | succ i ih =>
  intro h1 h2
  have hi := ih (by omega) (by omega)
  rw [take_snoc (by omega),val_snoc]
  simp only [numI,UInt64.toNat_or,hi,shl_u64_toNat,UInt8.toNat_toUInt64]
  have hl : (l.take i).length = i := by simp; omega
  rw [hl,Nat.min_eq_left (by omega)]
  have hx := l[i]!.toNat_lt
  have hv : val (l.take i) < 2 ^ (8 * i) := by have := val_lt (l.take i); rw [hl,p256] at this; exact this
  have hp : 2 ^ (8 * i) ≤ 2 ^ 56 := Nat.pow_le_pow_right (by decide) (by omega)
  rw [Nat.mod_eq_of_lt (by
   have : l[i]!.toNat * 2 ^ (8 * i) ≤ 255 * 2 ^ 56 := Nat.mul_le_mul (by omega) hp
   omega)]
  rw [Nat.or_comm,Nat.mul_comm,← Nat.two_pow_add_eq_or_of_lt hv,p256]
  omega
section
variable {b r u : List UInt8} {e : Bool} {n : Nat} {x y : UInt64} {s : List UInt8} {ins l : List InS} {outs o : List OutS}
end
end Go.Sx

namespace Go.Sx
open Go.Proofs
section
variable {b r r1 r2 r3 r4 u x : List UInt8} {e e1 e2 e3 e4 f : Bool} {n j : Nat} {ws : List (List UInt8)} {ins l rest : List InS} {outs : List OutS} {y : InS} {Z : List InS × List UInt8 × Bool} {Y : List (List UInt8) × List UInt8 × Bool} {p k : UInt64}
end
end Go.Sx

namespace Go.Sx
end Go.Sx

namespace Go.Sx
section
variable {b r r1 r2 r3 r4 u : List UInt8} {x k : UInt64} {e e1 e2 e3 e4 : Bool} {ins l : List InS} {outs : List OutS}
end
end Go.Sx

namespace Go.Sx
open Go.Proofs
end Go.Sx

namespace Go.Sx
open Go.Proofs
def smI : InS := ⟨List.replicate 32 0,4294967295,[],4294967295,[]⟩
def smO : OutS := ⟨5,[81]⟩
def smT : TxS := ⟨1,[smI],[smO],0⟩
def smT2 : TxS := ⟨1,[setW smI [[]]],[smO],0⟩
theorem sm_wf : smT.wf := wf_of_sz (by decide) (by intro x hx; simp [smT] at hx; subst hx; rfl)
theorem sm2_wf : smT2.wf := wf_of_sz (by decide) (by intro x hx; simp [smT2] at hx; subst hx; rfl)
theorem zero_wf : zeroT.wf := wf_of_sz (by decide) (by intro x hx; cases hx)
theorem w_len : (putS smT).length = 61 := by decide +kernel
theorem w_0 : (putS smT)[0]! = 1 := by decide +kernel
theorem w_4 : (putS smT)[4]! = 1 := by decide +kernel
theorem w_37 : (putS smT)[37]! = 255 := by decide +kernel
theorem w_46 : (putS smT)[46]! = 1 := by decide +kernel
theorem w_47 : (putS smT)[47]! = 5 := by decide +kernel
theorem w_56 : (putS smT)[56]! = 81 := by decide +kernel
theorem w2_len : (putS smT2).length = 65 := by decide +kernel
theorem w2_4 : (putS smT2)[4]! = 0 := by decide +kernel
theorem w2_5 : (putS smT2)[5]! = 1 := by decide +kernel
theorem w_bare : bareS smT2 = putS smT := by decide +kernel
theorem w_mint : mintS smT2 = true := by decide +kernel
theorem w_may : mayS smT2 = true := by decide +kernel
theorem w_may0 : mayS zeroT = false := by decide +kernel
theorem w_same : sameS smT smT = true := by decide +kernel
theorem w_same2 : sameS smT smT2 = false := by decide +kernel
theorem w_get : getS (putS smT) = (smT,0) := by kernel_rfl
theorem w_short : getS ((putS smT).take 60) = (zeroT,5) := by kernel_rfl
abbrev smIr : D := .agg [.agg [hashD (List.replicate 32 0),.u32 4294967295],.nils,.u32 4294967295,.nils]
abbrev smOr : D := .agg [.u64 5,.sl none 1 [.u8 81]]
theorem brw_smIr : smIr.brw = smIr := by
 simp only [D.brw,brws_eq,List.map_cons,List.map_nil,brw_hash]
theorem wk_smI : Wk smIr (inD smI) := .aggL (.cons (.refl _) (.cons (.nils none 1) (.cons (.refl _) (.cons (.nils none 1) .nil))))
theorem wk_sm : Wk (.agg [.u32 1,.sl none 36 [smIr],.sl none 2 [smOr],.u32 0]) (txD smT) :=
 .aggL (.cons (.refl _) (.cons (.slL (.cons wk_smI .nil)) (.cons (.refl _) (.cons (.refl _) .nil))))
abbrev smIw : D := .agg [.agg [hashD (List.replicate 32 0),.u32 4294967295],.nils,.u32 4294967295,.sl none 1 [.sl none 1 []]]
theorem wk_smIw : Wk smIw (inD (setW smI [[]])) := .aggL (.cons (.refl _) (.cons (.nils none 1) (.cons (.refl _) (.cons (.refl _) .nil))))
theorem wk_sm2 : Wk (.agg [.u32 1,.sl none 36 [smIw],.sl none 2 [smOr],.u32 0]) (txD smT2) :=
 .aggL (.cons (.refl _) (.cons (.slL (.cons wk_smIw .nil)) (.cons (.refl _) (.cons (.refl _) .nil))))
theorem smIr_sz : smIr.sz = 36 := rfl
theorem bw_sm {σ : Sg} {q cap : Nat} (hb : σ.box 9 = some (.var (.agg ([smIr] ++ List.replicate q .dead)))) : Bw σ (.agg [.u32 1,.bs 9 36 1 cap,.sl none 2 [smOr],.u32 0]) (.agg [.u32 1,.sl none 36 [smIr],.sl none 2 [smOr],.u32 0]) :=
 .aggL (.cons (.pur rfl rfl) (.cons (.bs hb rfl (by intro x hx; simp only [List.mem_singleton] at hx; subst hx; exact smIr_sz) (by rw [List.map_cons,List.map_nil,brw_smIr]) (by intro x hx; simp only [List.mem_singleton] at hx; subst hx; rfl))
  (.cons (.pur (by simp only [D.brw,brws_eq,List.map_cons,List.map_nil]) rfl) (.cons (.pur rfl rfl) .nil))))
theorem bw_sm0 {σ : Sg} : Bw σ (.agg [.u32 1,.sl (some 56) 36 [smIr],.sl (some 46) 2 [smOr],.u32 0]) (.agg [.u32 1,.sl none 36 [smIr],.sl none 2 [smOr],.u32 0]) :=
 .pur (by simp only [D.brw,brws_eq,List.map_cons,List.map_nil,brw_hash]) rfl
end Go.Sx

namespace Go.Sx
open Go.Proofs
set_option maxHeartbeats 2000000 in
theorem works_ok : Fn Tryd.prog gl 12 [] (.bool true) := by
 refine Fn.of (n := 131) Tryd.func12 rfl rfl rfl (nU rfl) fun C hC hD => ?_
 refine W.seq ?_
 refine W.l0 1 [.y 0 _] [] [] [] [] 131 ⟨aU fun _ _ H _ => R.asg (kB false rfl) rfl H,trivial⟩ rfl rfl rfl rfl (tU rfl ?_)
 refine W.seq ?_
 refine W.l0 3 [.y 8 _] [] [] [(8,_)] [] 131 ⟨aU fun _ _ H _ => R.callPE hC (small_ok) EvP.nil H,trivial⟩ rfl rfl rfl rfl (⟨rfl,_,R.alloc rfl (nU rfl),⟨rfl,_,R.stOZ (gU 1 rfl) (xU 1 rfl) rfl (gU 8 rfl) rfl rfl (by rfl) (by rfl) rfl rfl,tV [(1,_)] [(1,.var _)] 131 rfl rfl rfl ?_⟩⟩)
 refine W.seq ?_
 refine W.openB 9 1 [1] rfl rfl rfl rfl rfl rfl (fun _ => rfl) (by simp) rfl (fun _ => rfl) fun cap q _ _ _ => ?_
 refine W.brwB 1 (d' := .agg [.u32 1,.bs 9 36 1 cap,.sl none 2 [smOr],.u32 0]) (bx' := [(9,.var _),(1,.var _)]) rfl (show (D.agg [.u32 1,.bs 9 36 1 cap,.sl (some 46) 2 [smOr],.u32 0]).brw = _ from by simp only [D.brw,brws_eq,List.map_cons,List.map_nil]) rfl ?_
 refine W.l0 3 [.y 9 _,.y 10 _,.y 2 _] [(2,10)] [(2,10)] [(1,_),(2,_)] [(9,.var _),(1,.var _)] 131 ⟨aU (lU 1 rfl rfl rfl rfl rfl rfl rfl),aU fun _ B H K => R.callL hC (put_ok smT sm_wf) (.cons (eU K 9 rfl) rfl (bw_sm (B 9 _ rfl)) (wk_sm) .nil) (FrsR.one (.sl _ _ _ (frs_map fun _ => .u8 _))) H,aU fun _ _ H K => R.asgO (K 10 _ rfl) rfl H (by decide),trivial⟩ rfl rfl rfl rfl (tU rfl ?_)
 refine W.seq ?_
 refine W.seq ?_
 have hl61 := w_len
 refine W.l0 39 (.y 11 _ :: .y 12 _ :: .y 13 _ :: .y 14 _ :: .y 15 _ :: .y 16 _ :: .y 17 _ :: .y 18 _ :: .y 19 _ :: .y 20 _ :: .y 21 _ :: .y 22 _ :: .y 23 _ :: .y 24 _ :: .y 25 _ :: .y 26 _ :: .y 27 _ :: .y 28 _ :: .y 29 _ :: .y 30 _ :: .y 31 _ :: .y 32 _ :: .y 33 _ :: .y 34 _ :: .y 35 _ :: .y 36 _ :: .y 37 _ :: .y 38 _ :: .y 39 _ :: .y 40 _ :: .y 41 _ :: .y 42 _ :: .y 43 _ :: .y 44 _ :: .y 45 _ :: .y 46 _ :: .y 47 _ :: .y 48 _ :: .y 49 _ :: []) [] [] [(1,_),(2,_),(49,_)] [(9,.var _),(1,.var _)] 131 ⟨aU fun _ _ H K => R.al (K 2 _ rfl) H (by decide),aU fun _ _ H K => R.lenE (SC.al (K 11 _ rfl) (K 2 _ rfl)) (List.length_map _) H,aU fun _ _ H K => R.neqN ((putS smT).length) (61) (eU K 12 rfl) (kI 61 rfl) H,mU 13 rfl rfl,aW rfl rfl (gF (decide_eq_false (by rw [w_len]; decide)) rfl) fun _ _ H K => R.al (K 2 _ rfl) H (by decide),aW rfl rfl (gF (decide_eq_false (by rw [w_len]; decide)) rfl) fun _ _ H K => R.idxN (0) (SC.al (K 15 _ rfl) (K 2 _ rfl)) (evoI (kI 0 rfl)) rfl bU H (by decide),aW rfl rfl (gF (decide_eq_false (by rw [w_len]; decide)) rfl) fun _ _ H K => R.ldE (K 16 _ rfl) (SC.al (K 15 _ rfl) (K 2 _ rfl)) (map_get! (l := (putS smT)) bU) rfl rfl rfl rfl H,aW rfl rfl (gF (decide_eq_false (by rw [w_len]; decide)) rfl) fun _ _ H K => R.bin (eU K 17 rfl) (show ev _ _ (.const (.int .u8 1)) = some (.u8 1) from rfl) rfl trivial H,aU fun _ _ H K => R.pickF (eU K 14 rfl) (decide_eq_false (by rw [w_len]; decide)) (eU K 18 rfl) rfl H,mU 19 rfl rfl,aW rfl rfl (gF (by rw [w_0]; rfl) rfl) fun _ _ H K => R.al (K 2 _ rfl) H (by decide),aW rfl rfl (gF (by rw [w_0]; rfl) rfl) fun _ _ H K => R.idxN (4) (SC.al (K 21 _ rfl) (K 2 _ rfl)) (evoI (kI 4 rfl)) rfl bU H (by decide),aW rfl rfl (gF (by rw [w_0]; rfl) rfl) fun _ _ H K => R.ldE (K 22 _ rfl) (SC.al (K 21 _ rfl) (K 2 _ rfl)) (map_get! (l := (putS smT)) bU) rfl rfl rfl rfl H,aW rfl rfl (gF (by rw [w_0]; rfl) rfl) fun _ _ H K => R.bin (eU K 23 rfl) (show ev _ _ (.const (.int .u8 1)) = some (.u8 1) from rfl) rfl trivial H,aU fun _ _ H K => R.pickF (eU K 20 rfl) (by rw [w_0]; rfl) (eU K 24 rfl) rfl H,mU 25 rfl rfl,aW rfl rfl (gF (by rw [w_4]; rfl) rfl) fun _ _ H K => R.al (K 2 _ rfl) H (by decide),aW rfl rfl (gF (by rw [w_4]; rfl) rfl) fun _ _ H K => R.idxN (37) (SC.al (K 27 _ rfl) (K 2 _ rfl)) (evoI (kI 37 rfl)) rfl bU H (by decide),aW rfl rfl (gF (by rw [w_4]; rfl) rfl) fun _ _ H K => R.ldE (K 28 _ rfl) (SC.al (K 27 _ rfl) (K 2 _ rfl)) (map_get! (l := (putS smT)) bU) rfl rfl rfl rfl H,aW rfl rfl (gF (by rw [w_4]; rfl) rfl) fun _ _ H K => R.bin (eU K 29 rfl) (show ev _ _ (.const (.int .u8 255)) = some (.u8 255) from rfl) rfl trivial H,aU fun _ _ H K => R.pickF (eU K 26 rfl) (by rw [w_4]; rfl) (eU K 30 rfl) rfl H,mU 31 rfl rfl,aW rfl rfl (gF (by rw [w_37]; rfl) rfl) fun _ _ H K => R.al (K 2 _ rfl) H (by decide),aW rfl rfl (gF (by rw [w_37]; rfl) rfl) fun _ _ H K => R.idxN (46) (SC.al (K 33 _ rfl) (K 2 _ rfl)) (evoI (kI 46 rfl)) rfl bU H (by decide),aW rfl rfl (gF (by rw [w_37]; rfl) rfl) fun _ _ H K => R.ldE (K 34 _ rfl) (SC.al (K 33 _ rfl) (K 2 _ rfl)) (map_get! (l := (putS smT)) bU) rfl rfl rfl rfl H,aW rfl rfl (gF (by rw [w_37]; rfl) rfl) fun _ _ H K => R.bin (eU K 35 rfl) (show ev _ _ (.const (.int .u8 1)) = some (.u8 1) from rfl) rfl trivial H,aU fun _ _ H K => R.pickF (eU K 32 rfl) (by rw [w_37]; rfl) (eU K 36 rfl) rfl H,mU 37 rfl rfl,aW rfl rfl (gF (by rw [w_46]; rfl) rfl) fun _ _ H K => R.al (K 2 _ rfl) H (by decide),aW rfl rfl (gF (by rw [w_46]; rfl) rfl) fun _ _ H K => R.idxN (47) (SC.al (K 39 _ rfl) (K 2 _ rfl)) (evoI (kI 47 rfl)) rfl bU H (by decide),aW rfl rfl (gF (by rw [w_46]; rfl) rfl) fun _ _ H K => R.ldE (K 40 _ rfl) (SC.al (K 39 _ rfl) (K 2 _ rfl)) (map_get! (l := (putS smT)) bU) rfl rfl rfl rfl H,aW rfl rfl (gF (by rw [w_46]; rfl) rfl) fun _ _ H K => R.bin (eU K 41 rfl) (show ev _ _ (.const (.int .u8 5)) = some (.u8 5) from rfl) rfl trivial H,aU fun _ _ H K => R.pickF (eU K 38 rfl) (by rw [w_46]; rfl) (eU K 42 rfl) rfl H,mU 43 rfl rfl,aW rfl rfl (gF (by rw [w_47]; rfl) rfl) fun _ _ H K => R.al (K 2 _ rfl) H (by decide),aW rfl rfl (gF (by rw [w_47]; rfl) rfl) fun _ _ H K => R.idxN (56) (SC.al (K 45 _ rfl) (K 2 _ rfl)) (evoI (kI 56 rfl)) rfl bU H (by decide),aW rfl rfl (gF (by rw [w_47]; rfl) rfl) fun _ _ H K => R.ldE (K 46 _ rfl) (SC.al (K 45 _ rfl) (K 2 _ rfl)) (map_get! (l := (putS smT)) bU) rfl rfl rfl rfl H,aW rfl rfl (gF (by rw [w_47]; rfl) rfl) fun _ _ H K => R.bin (eU K 47 rfl) (show ev _ _ (.const (.int .u8 81)) = some (.u8 81) from rfl) rfl trivial H,aU fun _ _ H K => R.pickF (eU K 44 rfl) (by rw [w_47]; rfl) (eU K 48 rfl) rfl H,trivial⟩ rfl rfl rfl rfl (tU rfl ?_)
 refine W.condF rfl (by rw [w_56]; rfl) ?_
 refine W.skip ?_
 refine W.seq ?_
 refine W.frzS (s := 2) (d' := .sl none 1 ((putS smT).map D.u8)) rfl rfl (by simp only [D.brw,brws_eq]; rw [brw_map (fun _ => rfl)]) ?_
 refine W.l0 8 [.y 51 _,.y 52 _,.y 50 _,.y 53 _,.y 54 _] [] [] [(1,_),(2,_),(53,_),(54,_)] [(9,.var _),(1,.var _)] 131 ⟨mU 2 rfl rfl,aU fun _ _ H K => R.callPE hC (show Fn Tryd.prog gl 23 [.sl none 1 ((putS smT).map D.u8)] (.tup [txD smT,.int ((0 : Nat) : Int)]) from by have h := get_ok (putS smT) (by rw [w_len]; decide); rw [w_get] at h; exact h) (EvP.cons (eU K 51 rfl) rfl rfl EvP.nil) H,aU fun _ _ H K => R.movT (K 52 _ rfl) rfl H,aU fun _ _ H K => R.ext (K 50 _ rfl) rfl rfl H,aU fun _ _ H K => R.ext (K 50 _ rfl) rfl rfl H,trivial⟩ rfl rfl rfl rfl (⟨rfl,_,R.alloc rfl (nU rfl),⟨rfl,_,R.stZ (gU 3 rfl) (xU 3 rfl) rfl (gV 53 rfl) (by rfl) (by rfl) (by rfl) (by rfl) rfl,⟨rfl,_,R.asg (gV 54 rfl) rfl (nU rfl),tV [(1,_),(2,_),(3,_),(4,_)] [(3,.var _),(9,.var _),(1,.var _)] 131 rfl rfl rfl ?_⟩⟩⟩)
 refine W.seq ?_
 refine W.l0 9 [.y 56 _,.y 57 _,.y 58 _,.y 55 _,.y 59 _,.y 60 _] [] [] [(1,_),(2,_),(3,_),(4,_),(59,_),(60,_)] [(3,.var _),(9,.var _),(1,.var _)] 131 ⟨mU 2 rfl rfl,aU fun _ _ H K => R.slIN (0) (60) (60) (eU K 56 rfl) rfl (evoI (kI 60 rfl)) rfl rfl (by decide) (by rw [List.length_map,w_len]; decide) rfl (show _ = ((putS smT).take 60).map D.u8 from by simp) H,aU fun _ _ H K => R.callPE hC (show Fn Tryd.prog gl 23 [.sl none 1 (((putS smT).take 60).map D.u8)] (.tup [txD zeroT,.int ((5 : Nat) : Int)]) from by have h := get_ok ((putS smT).take 60) (by simp; omega); rw [w_short] at h; exact h) (EvP.cons (eU K 57 rfl) rfl rfl EvP.nil) H,aU fun _ _ H K => R.movT (K 58 _ rfl) rfl H,aU fun _ _ H K => R.ext (K 55 _ rfl) rfl rfl H,aU fun _ _ H K => R.ext (K 55 _ rfl) rfl rfl H,trivial⟩ rfl rfl rfl rfl (⟨rfl,_,R.alloc rfl (nU rfl),⟨rfl,_,R.stZ (gU 5 rfl) (xU 5 rfl) rfl (gV 59 rfl) (by rfl) (by rfl) (by rfl) (by rfl) rfl,⟨rfl,_,R.asg (gV 60 rfl) rfl (nU rfl),tV [(1,_),(2,_),(3,_),(4,_),(6,_)] [(5,.var _),(3,.var _),(9,.var _),(1,.var _)] 131 rfl rfl rfl ?_⟩⟩⟩)
 refine W.seq ?_
 refine W.l0 7 [.y 61 _,.y 62 _,.y 63 _,.y 64 _,.y 65 _,.y 66 _] [] [] [(1,_),(2,_),(3,_),(4,_),(6,_),(64,_),(66,_)] [(5,.var _),(3,.var _),(9,.var _),(1,.var _)] 131 ⟨aU (fU 1 rfl rfl),aU (lU 61 rfl rfl rfl rfl rfl rfl rfl),aU fun _ _ H _ => R.frzT (r' := .sl none 1 []) (R.bslE .nil trivial rfl H (by decide)) rfl (rfl),aU fun _ _ H K => R.bslE (z := 1) (.cons (eU K 63 rfl) .nil) ⟨⟨rfl,rfl,rfl⟩,trivial⟩ rfl H (by decide),aU fun _ _ H K => R.idxBs (0) (K 62 _ rfl) (evoI (kI 0 rfl)) rfl bU H,aU (fU 65 rfl rfl),trivial⟩ rfl rfl rfl rfl (⟨rfl,_,R.stOZ (gU 66 rfl) (xU 9 rfl) rfl (gU 64 rfl) rfl rfl (by rfl) (by rfl) rfl rfl,tV [(1,_),(2,_),(3,_),(4,_),(6,_)] [(5,.var _),(3,.var _),(9,.var _),(1,.var _)] 131 rfl rfl rfl ?_⟩)
 refine W.seq ?_
 refine W.brwB 9 (d' := .agg ([smIw] ++ List.replicate q .dead)) (bx' := [(5,.var _),(3,.var _),(9,.var _),(1,.var _)]) rfl (show (D.agg ([.agg [.agg [hashD (List.replicate 32 0),.u32 4294967295],.nils,.u32 4294967295,.sl (some 29) 1 [.sl none 1 []]]] ++ List.replicate q .dead)).brw = _ from by simp only [D.brw,brws_eq,List.map_append,List.map_cons,List.map_nil,brw_hash,brw_deads]) rfl ?_
 refine W.shutB 9 1 [1] [5,3,1] (l := [smIw]) (bx' := [(5,.var _),(3,.var _),(1,.var _)]) rfl rfl (by decide) rfl rfl rfl rfl (by intro x hx; simp only [List.mem_singleton] at hx; subst hx; rfl) (by intro x hx; simp only [List.mem_singleton] at hx; subst hx; rfl) (by intro x hx; simp only [List.mem_singleton] at hx; subst hx; rfl) rfl rfl rfl rfl (pin_sub hD rfl) ?_
 refine W.wkB 1 (d' := txD smT2) (bx' := [(5,.var _),(3,.var _),(1,.var _)]) rfl wk_sm2 rfl ?_
 refine W.l0 3 [.y 67 _,.y 68 _,.y 7 _] [(2,68)] [(2,68)] [(1,_),(2,_),(3,_),(4,_),(6,_),(7,_)] [(5,.var _),(3,.var _),(1,.var _)] 131 ⟨aU (lU 1 rfl rfl rfl rfl rfl rfl rfl),aU fun _ _ H K => R.callG hC (put_ok smT2 sm2_wf) (Bors.cons (Bor.pur (eU K 67 rfl) rfl rfl) Bors.nil) (FrsR.one (.sl _ _ _ (frs_map fun _ => .u8 _))) H,aU fun _ _ H K => R.asgO (K 68 _ rfl) rfl H (by decide),trivial⟩ rfl rfl rfl rfl (tU rfl ?_)
 refine W.seq ?_
 have hl65 := w2_len
 refine W.draw (m := 63) (an := (0 :: 0 :: 3 :: 7 :: 15 :: 15 :: 63 :: 127 :: 255 :: 511 :: 1023 :: 2047 :: 4095 :: 8191 :: 16383 :: 32767 :: 65535 :: 131071 :: 262143 :: 524287 :: 1048575 :: 2097151 :: 4194303 :: 8388607 :: 16777215 :: 33554431 :: 67108863 :: 134217727 :: 268435455 :: 536870911 :: 1073741823 :: 2147483647 :: 4294967295 :: 8589934591 :: 17179869183 :: 34359738367 :: 68719476735 :: 137438953471 :: 34359738367 :: 309237645311 :: 1099511627775 :: 2199023255551 :: 4398046511103 :: 8796093022207 :: 17592186044415 :: 35184372088831 :: 70368744177663 :: 140737488355327 :: 281474976710655 :: 562949953421311 :: 1125899906842623 :: 2251799813685247 :: 4503599627370495 :: 9007199254740991 :: 18014398509481983 :: 36028797018963967 :: 72057594037927935 :: 144115188075855871 :: 72057594037927935 :: 576460752303423487 :: 1152921504606846975 :: 2305843009213693951 :: 4611686018427387903 :: [])) hP (by decide) rfl (its := (.y 69 _ :: .y 70 _ :: .y 71 _ :: .y 72 _ :: .y 73 _ :: .y 74 _ :: .y 75 _ :: .y 76 _ :: .y 77 _ :: .y 78 _ :: .y 79 _ :: .y 80 _ :: .y 81 _ :: .y 82 _ :: .y 83 _ :: .y 84 _ :: .y 85 _ :: .y 86 _ :: .y 87 _ :: .y 88 _ :: .y 89 _ :: .y 90 _ :: .y 91 _ :: .y 92 _ :: .y 93 _ :: .y 94 _ :: .y 95 _ :: .y 96 _ :: .y 97 _ :: .y 98 _ :: .y 99 _ :: .y 100 _ :: .y 101 _ :: .y 102 _ :: .y 103 _ :: .y 104 _ :: .y 105 _ :: .y 106 _ :: .y 107 _ :: .y 108 _ :: .y 109 _ :: .y 110 _ :: .y 111 _ :: .y 112 _ :: .y 113 _ :: .y 114 _ :: .y 115 _ :: .y 116 _ :: .y 117 _ :: .y 118 _ :: .y 119 _ :: .y 120 _ :: .y 121 _ :: .y 122 _ :: .y 123 _ :: .y 124 _ :: .y 125 _ :: .y 126 _ :: .y 127 _ :: .y 128 _ :: .y 129 _ :: .y 130 _ :: .y 0 _ :: [])) (ks := []) (kk := []) (live := [0]) (env' := [(0,_)]) (⟨nU rfl,rfl,⟨aU (lU 3 rfl rfl rfl rfl rfl rfl rfl),aU fun _ _ H _ => R.callPE hC (small_ok) EvP.nil H,aU fun _ _ H K => R.callL hC (same_ok smT smT sm_wf sm_wf) (.old (Bor.pur (eU K 69 rfl) rfl rfl) (.cons (eU K 70 rfl) rfl (bw_sm0) (wk_sm) .nil)) (FrsR.one (.bool _)) H,mU 71 rfl rfl,aW rfl rfl (gT (w_same) rfl) (lU 3 rfl rfl rfl rfl rfl rfl rfl),aW rfl rfl (gT (w_same) rfl) (lU 1 rfl rfl rfl rfl rfl rfl rfl),aW rfl rfl (gT (w_same) rfl) fun _ _ H K => R.callG hC (same_ok smT smT2 sm_wf sm2_wf) (Bors.cons (Bor.pur (eU K 73 rfl) rfl rfl) (Bors.cons (Bor.pur (eU K 74 rfl) rfl rfl) Bors.nil)) (FrsR.one (.bool _)) H,aW rfl rfl (gT (w_same) rfl) fun _ _ H K => R.un (eU K 75 rfl) rfl H,aU fun _ _ H K => R.pickT (eU K 72 rfl) (w_same) (eU K 76 rfl) rfl H,mU 77 rfl rfl,aW rfl rfl (gT (by rw [w_same2]; rfl) rfl) fun _ _ H K => R.mov (eU K 4 rfl) rfl H,aW rfl rfl (gT (by rw [w_same2]; rfl) rfl) fun _ _ H K => R.eqlN (0) (0) (eU K 79 rfl) (kI 0 rfl) H,aU fun _ _ H K => R.pickT (eU K 78 rfl) (by rw [w_same2]; rfl) (eU K 80 rfl) rfl H,mU 81 rfl rfl,aW rfl rfl (gT (rfl) rfl) fun _ _ H K => R.mov (eU K 6 rfl) rfl H,aW rfl rfl (gT (rfl) rfl) fun _ _ H K => R.eqlN (5) (5) (eU K 83 rfl) (kI 5 rfl) H,aU fun _ _ H K => R.pickT (eU K 82 rfl) (rfl) (eU K 84 rfl) rfl H,mU 85 rfl rfl,aW rfl rfl (gT (rfl) rfl) fun _ _ H K => R.al (K 7 _ rfl) H (by decide),aW rfl rfl (gT (rfl) rfl) fun _ _ H K => R.lenE (SC.al (K 87 _ rfl) (K 7 _ rfl)) (List.length_map _) H,aW rfl rfl (gT (rfl) rfl) fun _ _ H K => R.eqlN ((putS smT2).length) (65) (eU K 88 rfl) (kI 65 rfl) H,aU fun _ _ H K => R.pickT (eU K 86 rfl) (rfl) (eU K 89 rfl) rfl H,mU 90 rfl rfl,aW rfl rfl (gT (decide_eq_true w2_len) rfl) fun _ _ H K => R.al (K 7 _ rfl) H (by decide),aW rfl rfl (gT (decide_eq_true w2_len) rfl) fun _ _ H K => R.idxN (4) (SC.al (K 92 _ rfl) (K 7 _ rfl)) (evoI (kI 4 rfl)) rfl bU H (by decide),aW rfl rfl (gT (decide_eq_true w2_len) rfl) fun _ _ H K => R.ldE (K 93 _ rfl) (SC.al (K 92 _ rfl) (K 7 _ rfl)) (map_get! (l := (putS smT2)) bU) rfl rfl rfl rfl H,aW rfl rfl (gT (decide_eq_true w2_len) rfl) fun _ _ H K => R.bin (eU K 94 rfl) (show ev _ _ (.const (.int .u8 0)) = some (.u8 0) from rfl) rfl trivial H,aU fun _ _ H K => R.pickT (eU K 91 rfl) (decide_eq_true w2_len) (eU K 95 rfl) rfl H,mU 96 rfl rfl,aW rfl rfl (gT (by rw [w2_4]; rfl) rfl) fun _ _ H K => R.al (K 7 _ rfl) H (by decide),aW rfl rfl (gT (by rw [w2_4]; rfl) rfl) fun _ _ H K => R.idxN (5) (SC.al (K 98 _ rfl) (K 7 _ rfl)) (evoI (kI 5 rfl)) rfl bU H (by decide),aW rfl rfl (gT (by rw [w2_4]; rfl) rfl) fun _ _ H K => R.ldE (K 99 _ rfl) (SC.al (K 98 _ rfl) (K 7 _ rfl)) (map_get! (l := (putS smT2)) bU) rfl rfl rfl rfl H,aW rfl rfl (gT (by rw [w2_4]; rfl) rfl) fun _ _ H K => R.bin (eU K 100 rfl) (show ev _ _ (.const (.int .u8 1)) = some (.u8 1) from rfl) rfl trivial H,aU fun _ _ H K => R.pickT (eU K 97 rfl) (by rw [w2_4]; rfl) (eU K 101 rfl) rfl H,mU 102 rfl rfl,aW rfl rfl (gT (by rw [w2_5]; rfl) rfl) (lU 1 rfl rfl rfl rfl rfl rfl rfl),aW rfl rfl (gT (by rw [w2_5]; rfl) rfl) fun _ _ H K => R.callG hC (bare_ok smT2 sm2_wf) (Bors.cons (Bor.pur (eU K 104 rfl) rfl rfl) Bors.nil) (FrsR.one (.sl _ _ _ (frs_map fun _ => .u8 _))) H,aW rfl rfl (gT (by rw [w2_5]; rfl) rfl) fun _ _ H K => R.cvS (xs := (bareS smT2)) (SC.sl (K 105 _ rfl)) H,aW rfl rfl (gT (by rw [w2_5]; rfl) rfl) fun _ _ H K => R.mov (eU K 2 rfl) rfl H,aW rfl rfl (gT (by rw [w2_5]; rfl) rfl) fun _ _ H K => R.cvS (xs := (putS smT)) (SC.sl (K 107 _ rfl)) H,aW rfl rfl (gT (by rw [w2_5]; rfl) rfl) fun _ _ H K => R.bin (eU K 106 rfl) (eU K 108 rfl) rfl trivial H,aU fun _ _ H K => R.pickT (eU K 103 rfl) (by rw [w2_5]; rfl) (eU K 109 rfl) rfl H,mU 110 rfl rfl,aW rfl rfl (gT (by rw [w_bare]; simp) rfl) (lU 1 rfl rfl rfl rfl rfl rfl rfl),aW rfl rfl (gT (by rw [w_bare]; simp) rfl) fun _ _ H K => R.callG hC (mint_ok smT2 sm2_wf) (Bors.cons (Bor.pur (eU K 112 rfl) rfl rfl) Bors.nil) (FrsR.one (.bool _)) H,aU fun _ _ H K => R.pickT (eU K 111 rfl) (by rw [w_bare]; simp) (eU K 113 rfl) rfl H,mU 114 rfl rfl,aW rfl rfl (gT (w_mint) rfl) (lU 1 rfl rfl rfl rfl rfl rfl rfl),aW rfl rfl (gT (w_mint) rfl) fun _ _ H K => R.callG hC (may_ok smT2 sm2_wf) (Bors.cons (Bor.pur (eU K 116 rfl) rfl rfl) Bors.nil) (FrsR.one (.bool _)) H,aU fun _ _ H K => R.pickT (eU K 115 rfl) (w_mint) (eU K 117 rfl) rfl H,mU 118 rfl rfl,aW rfl rfl (gT (w_may) rfl) fun _ _ H _ => R.bldSE (l := [.u32 0,.nils,.nils,.u32 0]) (l' := [_,_,_,_]) (.nil rfl) trivial H,aW rfl rfl (gT (w_may) rfl) fun _ _ H K => R.callL hC (may_ok zeroT zero_wf) (.cons (eU K 120 rfl) rfl (.pur rfl rfl) (wk_zero) .nil) (FrsR.one (.bool _)) H,aW rfl rfl (gT (w_may) rfl) fun _ _ H K => R.un (eU K 121 rfl) rfl H,aU fun _ _ H K => R.pickT (eU K 119 rfl) (w_may) (eU K 122 rfl) rfl H,mU 123 rfl rfl,aW rfl rfl (gT (by rw [w_may0]; rfl) rfl) (lU 1 rfl rfl rfl rfl rfl rfl rfl),aW rfl rfl (gT (by rw [w_may0]; rfl) rfl) fun _ _ H K => R.callG hC (id_ok smT2 sm2_wf) (Bors.cons (Bor.pur (eU K 125 rfl) rfl rfl) Bors.nil) (FrsR.one (frs_hash _)) H,aW rfl rfl (gT (by rw [w_may0]; rfl) rfl) (lU 1 rfl rfl rfl rfl rfl rfl rfl),aW rfl rfl (gT (by rw [w_may0]; rfl) rfl) fun _ _ H K => R.callG hC (rid_ok smT2 sm2_wf) (Bors.cons (Bor.pur (eU K 127 rfl) rfl rfl) Bors.nil) (FrsR.one (frs_hash _)) H,aW rfl rfl (gT (by rw [w_may0]; rfl) rfl) fun _ _ H K => R.eqAE (eU K 126 rfl) (eU K 128 rfl) H,aU fun _ _ H K => R.pickT (eU K 124 rfl) (by rw [w_may0]; rfl) (eU K 129 rfl) rfl H,aU fun _ _ H K => R.asg (eU K 130 rfl) rfl H,trivial⟩,rfl,rfl,rfl⟩) rfl (bx' := [(5,.var _),(3,.var _),(1,.var _)]) rfl (n' := 131) rfl (tV [(0,_)] [(5,.var _),(3,.var _),(1,.var _)] 131 rfl rfl rfl ?_)
 refine W.ret ?_
 exact Ends.one' (.inr rfl) rfl (by simp) rfl rfl trivial

end Go.Sx
