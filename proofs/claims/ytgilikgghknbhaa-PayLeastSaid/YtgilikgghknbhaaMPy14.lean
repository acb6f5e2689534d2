/-
 Own library: in a region of any order: append to a slice in a box,of elements that own.
-/
import Derived.Test.YtgilikgghknbhaaMSxBldO
import Derived.Shelf.SlSortCmp.WholeK
import Derived.Test.YtgilikgghknbhaaMSxFnB
set_option linter.unusedVariables false
set_option linter.unusedSimpArgs false
set_option linter.unnecessarySimpa false

namespace Go.Sx
open Go.Proofs
theorem order_ok (a b : Un) (hxa : a.tx.length = 32) (hxb : b.tx.length = 32) : Fn Try.prog gl 26 [coD a,coD b] (.int (ordS a b)):=by
 refine Fn.of (n:=26) Try.func26 rfl rfl rfl (Nat.le_of_ble_eq_true rfl) fun C hC hD=>?_
 refine W.seq ?_
 refine W.line (n:=3) (by decide) (its:=[]) (ks:=[]) (kk:=[]) (live:=[0,1]) (env':=[(0,_),(1,_)])
  (⟨Nat.le_of_ble_eq_true rfl,rfl,
   trivial,rfl,rfl,rfl⟩)
  rfl (bx':=[]) rfl (n':=26) rfl (⟨rfl,_,R.box (evt (show Sg.get _ 0 = some _ from rfl)) rfl rfl (Nat.le_of_ble_eq_true rfl),⟨rfl,_,R.box (evt (show Sg.get _ 1 = some _ from rfl)) rfl rfl (Nat.le_of_ble_eq_true rfl),⟨rfl,_,R.asg (show ev _ _ (.const (.int .i64 0)) = some (.int ((0 : Nat) : Int)) from rfl) rfl (Nat.le_of_ble_eq_true rfl),⟨[2,3],[(2,_),(3,_)],[(3,.var _),(2,.var _)],26,rfl,rfl,rfl, ?_⟩⟩⟩⟩)
 refine W.seq ?_
 refine W.draw (m:=22) (an:=[0,1,0,4,15,0,32,96,0,256,768,2047,0,4096,12288,0,32768,98304,262143,524287,1048575,2097151]) hP (by decide) rfl (its:=[⟨5,_,true⟩,⟨6,_,true⟩,⟨7,_,true⟩,⟨8,_,true⟩,⟨9,_,true⟩,⟨10,_,true⟩,⟨11,_,true⟩,⟨12,_,true⟩,⟨13,_,true⟩,⟨14,_,true⟩,⟨15,_,true⟩,⟨16,_,true⟩,⟨17,_,true⟩,⟨18,_,true⟩,⟨19,_,true⟩,⟨20,_,true⟩,⟨21,_,true⟩,⟨22,_,true⟩,⟨23,_,true⟩,⟨24,_,true⟩,⟨25,_,true⟩,⟨4,_,true⟩]) (ks:=[]) (kk:=[]) (live:=[4]) (env':=[(4,_)])
  (⟨Nat.le_of_ble_eq_true rfl,rfl,
   ⟨⟨rfl,rfl,fun _ τ hb ht hτ=>R.fdP (hτ 3 _ rfl) ht⟩,
   ⟨⟨rfl,rfl,fun _ τ hb ht hτ=>R.ldP (hτ 5 _ rfl) (hb 3 _ rfl) rfl rfl rfl rfl ht⟩,
   ⟨⟨rfl,rfl,fun _ τ hb ht hτ=>R.fdP (hτ 2 _ rfl) ht⟩,
   ⟨⟨rfl,rfl,fun _ τ hb ht hτ=>R.ldP (hτ 7 _ rfl) (hb 2 _ rfl) rfl rfl rfl rfl ht⟩,
   ⟨⟨rfl,rfl,fun _ τ hb ht hτ=>R.callG hC (cmp64_ok b.value a.value) (Bors.cons (Bor.pur (evt (hτ 6 _ rfl)) rfl rfl) (Bors.cons (Bor.pur (evt (hτ 8 _ rfl)) rfl rfl) Bors.nil)) (FrsR.one (.int _)) ht⟩,
   ⟨⟨rfl,rfl,fun _ τ hb ht hτ=>R.fdP (hτ 2 _ rfl) ht⟩,
   ⟨⟨rfl,rfl,fun _ τ hb ht hτ=>R.fdP (hτ 10 _ rfl) ht⟩,
   ⟨⟨rfl,rfl,fun _ τ hb ht hτ=>R.slAN (0) (32) (32) (hτ 11 _ rfl) (hb 2 _ rfl) rfl rfl rfl rfl rfl (by first | omega | (simp only [List.length_map,List.length_append,List.length_cons,List.length_nil,List.length_take,List.length_drop,List.length_replicate]; omega) | (simp; omega)) (by first | omega | (simp only [List.length_map,List.length_append,List.length_cons,List.length_nil,List.length_take,List.length_drop,List.length_replicate]; omega) | (simp; omega)) rfl ht⟩,
   ⟨⟨rfl,rfl,fun _ τ hb ht hτ=>R.fdP (hτ 3 _ rfl) ht⟩,
   ⟨⟨rfl,rfl,fun _ τ hb ht hτ=>R.fdP (hτ 13 _ rfl) ht⟩,
   ⟨⟨rfl,rfl,fun _ τ hb ht hτ=>R.slAN (0) (32) (32) (hτ 14 _ rfl) (hb 3 _ rfl) rfl rfl rfl rfl rfl (by first | omega | (simp only [List.length_map,List.length_append,List.length_cons,List.length_nil,List.length_take,List.length_drop,List.length_replicate]; omega) | (simp; omega)) (by first | omega | (simp only [List.length_map,List.length_append,List.length_cons,List.length_nil,List.length_take,List.length_drop,List.length_replicate]; omega) | (simp; omega)) rfl ht⟩,
   ⟨⟨rfl,rfl,fun _ τ hb ht hτ=>R.callG hC (bcmp32 a.tx b.tx hxa hxb) (Bors.cons (Bor.sc (SC.va (hτ 12 _ rfl) (hb 2 _ rfl) rfl (by first | omega | (simp only [List.length_map,List.length_append,List.length_cons,List.length_nil,List.length_take,List.length_drop,List.length_replicate]; omega) | (simp; omega))) (brw_part (fun _=>rfl))) (Bors.cons (Bor.sc (SC.va (hτ 15 _ rfl) (hb 3 _ rfl) rfl (by first | omega | (simp only [List.length_map,List.length_append,List.length_cons,List.length_nil,List.length_take,List.length_drop,List.length_replicate]; omega) | (simp; omega))) (brw_part (fun _=>rfl))) Bors.nil)) (FrsR.one (.int _)) ht⟩,
   ⟨⟨rfl,rfl,fun _ τ hb ht hτ=>R.fdP (hτ 2 _ rfl) ht⟩,
   ⟨⟨rfl,rfl,fun _ τ hb ht hτ=>R.fdP (hτ 17 _ rfl) ht⟩,
   ⟨⟨rfl,rfl,fun _ τ hb ht hτ=>R.ldP (hτ 18 _ rfl) (hb 2 _ rfl) rfl rfl rfl rfl ht⟩,
   ⟨⟨rfl,rfl,fun _ τ hb ht hτ=>R.fdP (hτ 3 _ rfl) ht⟩,
   ⟨⟨rfl,rfl,fun _ τ hb ht hτ=>R.fdP (hτ 20 _ rfl) ht⟩,
   ⟨⟨rfl,rfl,fun _ τ hb ht hτ=>R.ldP (hτ 21 _ rfl) (hb 3 _ rfl) rfl rfl rfl rfl ht⟩,
   ⟨⟨rfl,rfl,fun _ τ hb ht hτ=>R.callG hC (cmp32_ok a.n b.n) (Bors.cons (Bor.pur (evt (hτ 19 _ rfl)) rfl rfl) (Bors.cons (Bor.pur (evt (hτ 22 _ rfl)) rfl rfl) Bors.nil)) (FrsR.one (.int _)) ht⟩,
   ⟨⟨rfl,rfl,fun _ τ hb ht hτ=>R.bslE (z:=1) (.cons (evt (hτ 9 _ rfl)) (.cons (evt (hτ 16 _ rfl)) (.cons (evt (hτ 23 _ rfl)) .nil))) ⟨⟨rfl,rfl,rfl⟩,⟨⟨rfl,rfl,rfl⟩,⟨⟨rfl,rfl,rfl⟩,trivial⟩⟩⟩ rfl ht (by decide)⟩,
   ⟨⟨rfl,rfl,fun _ τ hb ht hτ=>R.callG hC (or_ok [c64 b.value a.value,Lib.compareBytes a.tx b.tx,c32 a.n b.n] (by simp)) (Bors.cons (Bor.sc (SC.sl (hτ 24 _ rfl)) rfl) Bors.nil) (FrsR.one (.int _)) ht⟩,
   ⟨⟨rfl,rfl,fun _ τ hb ht hτ=>R.asg (evt (hτ 25 _ rfl)) rfl ht⟩,
   trivial⟩⟩⟩⟩⟩⟩⟩⟩⟩⟩⟩⟩⟩⟩⟩⟩⟩⟩⟩⟩⟩⟩,rfl,rfl,rfl⟩)
  rfl (bx':=[(3,.var _),(2,.var _)]) rfl (n':=26) rfl (⟨[4],[(4,_)],[(3,.var _),(2,.var _)],26,rfl,rfl,rfl, ?_⟩)
 refine W.ret ?_
 exact Ends.one' (.inr rfl) rfl (rfl) rfl rfl trivial
end Go.Sx

namespace Go.Proofs
open Go.Shelf
def Try.sortU_ren : Go.Shelf.Ren:=⟨fun | 6=>25 | 15=>37 | 14=>36 | 28=>52 | 29=>53 | 20=>44 | 21=>45 | 22=>46 | 23=>47 | 24=>48 | 25=>49 | 26=>50 | 27=>51 | 46=>69 | 47=>70 | 48=>71 | 49=>72 | 50=>73 | 57=>75 | n=>n,fun | 22=>22 | 24=>67 | 25=>81 | 3=>3 | 39=>92 | 0=>0 | 53=>26 | 55=>25 | 4=>4 | 46=>102 | 45=>101 | 50=>98 | 5=>5 | 9=>9 | 66=>121 | 70=>125 | 76=>128 | 77=>129 | n=>n,fun | n=>n⟩
theorem Try.sortU : Go.Proofs.SlLaysF0.n6 Try.prog Try.sortU_ren:={
 mixed:=by kernel_rfl
 f6:=⟨Try.f25.name,by decide,Try.func25.trans (congrArg some (by kernel_rfl))⟩
 f14:=⟨Try.f36.name,by decide,Try.func36.trans (congrArg some (by kernel_rfl))⟩
 f15:=Try.func37.trans (congrArg some (by kernel_rfl))
 f20:=⟨Try.f44.name,by decide,Try.func44.trans (congrArg some (by kernel_rfl))⟩
 f21:=⟨Try.f45.name,by decide,Try.func45.trans (congrArg some (by kernel_rfl))⟩
 f22:=⟨Try.f46.name,by decide,Try.func46.trans (congrArg some (by kernel_rfl))⟩
 f23:=⟨Try.f47.name,by decide,Try.func47.trans (congrArg some (by kernel_rfl))⟩
 f24:=⟨Try.f48.name,by decide,Try.func48.trans (congrArg some (by kernel_rfl))⟩
 f25:=⟨Try.f49.name,by decide,Try.func49.trans (congrArg some (by kernel_rfl))⟩
 f26:=⟨Try.f50.name,by decide,Try.func50.trans (congrArg some (by kernel_rfl))⟩
 f27:=⟨Try.f51.name,by decide,Try.func51.trans (congrArg some (by kernel_rfl))⟩
 f28:=Try.func52.trans (congrArg some (by kernel_rfl))
 f29:=Try.func53.trans (congrArg some (by kernel_rfl))
 f46:=⟨Try.f69.name,by decide,Try.func69.trans (congrArg some (by kernel_rfl))⟩
 f47:=Try.func70.trans (congrArg some (by kernel_rfl))
 f48:=Try.func71.trans (congrArg some (by kernel_rfl))
 f49:=⟨Try.f72.name,by decide,Try.func72.trans (congrArg some (by kernel_rfl))⟩
 f50:=⟨Try.f73.name,by decide,Try.func73.trans (congrArg some (by kernel_rfl))⟩
 f57:=⟨Try.f75.name,by decide,Try.func75.trans (congrArg some (by kernel_rfl))⟩
 t0:=Try.underlying0
 a0:=Try.isAgg0
 z0:=Try.sizeOf0
 v0:=Try.zeroValue0
 t3:=Try.underlying3
 a3:=Try.isAgg3
 z3:=Try.sizeOf3
 v3:=Try.zeroValue3
 t4:=Try.underlying4
 a4:=Try.isAgg4
 z4:=Try.sizeOf4
 v4:=Try.zeroValue4
 t5:=Try.underlying5
 a5:=Try.isAgg5
 z5:=Try.sizeOf5
 v5:=Try.zeroValue5
 t9:=Try.underlying9
 a9:=Try.isAgg9
 z9:=Try.sizeOf9
 v9:=Try.zeroValue9
 t22:=Try.underlying22
 a22:=Try.isAgg22
 z22:=Try.sizeOf22
 v22:=Try.zeroValue22
 t25:=Try.underlying81
 a25:=Try.isAgg81
 z25:=Try.sizeOf81
 v25:=Try.zeroValue81
 t39:=Try.underlying92
 a39:=Try.isAgg92
 z39:=Try.sizeOf92
 v39:=Try.zeroValue92
 t45:=Try.underlying101
 a45:=Try.isAgg101
 z45:=Try.sizeOf101
 v45:=Try.zeroValue101
 t46:=Try.underlying102
 a46:=Try.isAgg102
 z46:=Try.sizeOf102
 v46:=Try.zeroValue102
 t50:=Try.underlying98
 a50:=Try.isAgg98
 z50:=Try.sizeOf98
 v50:=Try.zeroValue98
 t53:=Try.underlying26
 a53:=Try.isAgg26
 z53:=Try.sizeOf26
 v53:=Try.zeroValue26
 t55:=Try.underlying25
 a55:=Try.isAgg25
 z55:=Try.sizeOf25
 v55:=Try.zeroValue25
 t66:=Try.underlying121
 a66:=Try.isAgg121
 z66:=Try.sizeOf121
 v66:=Try.zeroValue121
 t70:=Try.underlying125
 a70:=Try.isAgg125
 z70:=Try.sizeOf125
 v70:=Try.zeroValue125
 t76:=Try.underlying128
 a76:=Try.isAgg128
 z76:=Try.sizeOf128
 v76:=Try.zeroValue128
 t77:=Try.underlying129
 a77:=Try.isAgg129
 z77:=Try.sizeOf129
 v77:=Try.zeroValue129 }
end Go.Proofs

namespace Go.Sx
open Go.Proofs Go.Shelf Go.RowKit Go.Sort
structure TC {α : Type} (c : α -> α -> Int) : Prop where
 sym : ∀ x y,c x y < 0 ↔ 0 < c y x
 tr : ∀ x y z,c x y <= 0 -> c y z <= 0 -> c x z <= 0
theorem TC.tr1 {α : Type} {c : α -> α -> Int} (h : TC c) {x y z : α} (h1 : c x y < 0) (h2 : c y z <= 0) : c x z < 0:=by
 have h3:=h.tr x y z (by omega) h2
 rcases Int.lt_or_eq_of_le h3 with h4 | h4
 · exact h4
 · exfalso
   have a1:=h.sym x z
   have a2:=h.sym x y
   have:=h.tr y z x h2 (by omega)
   omega
theorem TC.tr2 {α : Type} {c : α -> α -> Int} (h : TC c) {x y z : α} (h1 : c x y <= 0) (h2 : c y z < 0) : c x z < 0:=by
 have h3:=h.tr x y z h1 (by omega)
 rcases Int.lt_or_eq_of_le h3 with h4 | h4
 · exact h4
 · exfalso
   have a1:=h.sym x z
   have a2:=h.sym y z
   have:=h.tr z x y (by omega) h1
   omega
theorem TC.swo {α : Type} {c : α -> α -> Int} (h : TC c) : SWO (ltOf c) where
 irrefl x:=by have:=h.sym x x; simp only [ltOf,decide_eq_false_iff_not]; omega
 trans x y z h1 h2:=by simp only [ltOf,decide_eq_true_eq] at *; exact h.tr1 h1 (by omega)
 ntrans x y z h1 h2:=by
  simp only [ltOf,decide_eq_false_iff_not] at *
  have a1:=h.sym x y; have a2:=h.sym y z; have a3:=h.sym x z
  have a4:=h.sym y x; have a5:=h.sym z y; have a6:=h.sym z x
  have:=h.tr z y x (by omega) (by omega)
  omega
theorem TC.lex {α : Type} {c d : α -> α -> Int} (h : TC c) (k : TC d) : TC fun x y=>if c x y = 0 then d x y else c x y where
 sym x y:=by
  have a1:=h.sym x y; have a2:=h.sym y x; have a3:=k.sym x y; have a4:=k.sym y x
  by_cases h1 : c x y = 0
  · have h2 : c y x = 0:=by omega
    simp only [h1,h2,if_true]; exact a3
  · have h2 : ¬ c y x = 0:=by omega
    simp only [h1,h2,if_false]; exact a1
 tr x y z:=by
  have a1:=h.sym x y; have a2:=h.sym y z; have a3:=h.sym x z
  have b1:=h.sym y x; have b2:=h.sym z y; have b3:=h.sym z x
  intro h1 h2
  by_cases e1 : c x y = 0
  · by_cases e2 : c y z = 0
    · have e3 : c x z = 0:=by
       have t1:=h.tr x y z (by omega) (by omega)
       have t2:=h.tr z y x (by omega) (by omega)
       omega
      simp only [e1,e2,e3,if_true] at *
      exact k.tr x y z h1 h2
    · simp only [e1,e2,if_true,if_false] at h1 h2
      have:=h.tr2 (x:=x) (y:=y) (z:=z) (by omega) (by omega)
      have e3 : ¬ c x z = 0:=by omega
      simp only [e3,if_false]; omega
  · simp only [e1,if_false] at h1
    have h2' : c y z <= 0:=by
     by_cases e2 : c y z = 0
     · omega
     · simpa only [e2,if_false] using h2
    have:=h.tr1 (x:=x) (y:=y) (z:=z) (by omega) h2'
    have e3 : ¬ c x z = 0:=by omega
    simp only [e3,if_false]; omega
theorem TC.on {α β : Type} {c : α -> α -> Int} (h : TC c) (f : β -> α) : TC fun x y=>c (f x) (f y):=⟨fun x y=>h.sym _ _,fun x y z=>h.tr _ _ _⟩
theorem TC.rev {α : Type} {c : α -> α -> Int} (h : TC c) : TC fun x y=>c y x:=⟨fun x y=>h.sym y x,fun x y z h1 h2=>h.tr z y x h2 h1⟩
theorem tc64 : TC c64 where
 sym x y:=by simp only [c64,UInt64.lt_iff_toNat_lt]; split <;> split <;> (try split) <;> (try split) <;> omega
 tr x y z:=by simp only [c64,UInt64.lt_iff_toNat_lt]; split <;> split <;> (try split) <;> (try split) <;> (try split) <;> (try split) <;> omega
theorem tc32 : TC c32 where
 sym x y:=by simp only [c32,UInt32.lt_iff_toNat_lt]; split <;> split <;> (try split) <;> (try split) <;> omega
 tr x y z:=by simp only [c32,UInt32.lt_iff_toNat_lt]; split <;> split <;> (try split) <;> (try split) <;> (try split) <;> (try split) <;> omega
theorem cmpB_sym : ∀ x y : List UInt8,Lib.compareBytes x y < 0 ↔ 0 < Lib.compareBytes y x
 | [],[]=>by simp [Lib.compareBytes]
 | [],_ :: _=>by simp [Lib.compareBytes]
 | _ :: _,[]=>by simp [Lib.compareBytes]
 | a :: x,b :: y=>by
  have ih:=cmpB_sym x y
  simp only [Lib.compareBytes,UInt8.lt_iff_toNat_lt]
  split <;> split <;> (try split) <;> (try split) <;> omega
theorem cmpB_tr : ∀ x y z : List UInt8,Lib.compareBytes x y <= 0 -> Lib.compareBytes y z <= 0 -> Lib.compareBytes x z <= 0
 | [],_,[]=>by simp [Lib.compareBytes]
 | [],_,_ :: _=>by simp [Lib.compareBytes]
 | _ :: _,[],_=>by simp [Lib.compareBytes]
 | _ :: _,_ :: _,[]=>by simp [Lib.compareBytes]
 | a :: x,b :: y,c :: z=>by
  have ih:=cmpB_tr x y z
  simp only [Lib.compareBytes,UInt8.lt_iff_toNat_lt]
  split <;> split <;> (try split) <;> (try split) <;> (try split) <;> (try split) <;> omega
theorem tcB : TC Lib.compareBytes:=⟨cmpB_sym,cmpB_tr⟩
theorem c64_z {a b : UInt64} (h : c64 a b = 0) : a = b:=by
 unfold c64 at h; split at h
 · omega
 · split at h
   · omega
   · exact UInt64.toNat_inj.1 (by simp only [UInt64.lt_iff_toNat_lt] at *; omega)
theorem c32_z {a b : UInt32} (h : c32 a b = 0) : a = b:=by
 unfold c32 at h; split at h
 · omega
 · split at h
   · omega
   · exact UInt32.toNat_inj.1 (by simp only [UInt32.lt_iff_toNat_lt] at *; omega)
theorem cmpB_z : ∀ {x y : List UInt8},Lib.compareBytes x y = 0 -> x = y
 | [],[],_=>rfl
 | [],_ :: _,h=>by simp [Lib.compareBytes] at h
 | _ :: _,[],h=>by simp [Lib.compareBytes] at h
 | a :: x,b :: y,h=>by
  simp only [Lib.compareBytes] at h
  split at h
  · omega
  · split at h
    · omega
    · rename_i h1 h2
      have e : a = b:=UInt8.toNat_inj.1 (by simp only [UInt8.lt_iff_toNat_lt] at h1 h2; omega)
      rw [e,cmpB_z h]
theorem ord_eq (a b : Un) : ordS a b = if c64 b.value a.value = 0 then (if Lib.compareBytes a.tx b.tx = 0 then c32 a.n b.n else Lib.compareBytes a.tx b.tx) else c64 b.value a.value:=by
 unfold ordS
 simp only [orS]
 split
 · split
   · split <;> simp_all
   · rfl
 · rfl
theorem tcO : TC ordS:=by
 have h:=(tc64.rev.on (fun a : Un=>a.value)).lex ((tcB.on (fun a : Un=>a.tx)).lex (tc32.on (fun a : Un=>a.n)))
 have e : ordS = fun x y=>if c64 y.value x.value = 0 then (if Lib.compareBytes x.tx y.tx = 0 then c32 x.n y.n else Lib.compareBytes x.tx y.tx) else c64 y.value x.value:=by
  funext a b; exact ord_eq a b
 rw [e]; exact h
theorem ord_z {a b : Un} (h : ordS a b = 0) : a.value = b.value /\ upl a = upl b:=by
 rw [ord_eq] at h
 split at h
 · rename_i h1
   split at h
   · rename_i h2
     exact ⟨(c64_z h1).symm,by rw [upl,upl,cmpB_z h2,c32_z h]⟩
   · exact absurd h ‹_›
 · exact absurd h ‹_›
abbrev UnH:={c : Un // c.tx.length = 32}
instance : Inhabited UnH:=⟨⟨⟨List.replicate 32 0,0,0,0⟩,by simp⟩⟩
def encU (c : UnH) : List Value:=(c.1.tx.map fun b=>Value.int .u8 b.toNat) ++ [.int .u32 c.1.n.toNat,.int .u64 c.1.value.toNat,.int .i64 c.1.ht]
theorem encU_len (c : UnH) : (encU c).length = 35:=by simp [encU,c.2]
theorem encU_one (c : UnH) : ∀ v ∈ encU c,v.oneCell' = true:=by
 intro v hv
 simp only [encU,List.mem_append,List.mem_map,List.mem_cons,List.not_mem_nil,or_false] at hv
 rcases hv with ⟨b,_,rfl⟩ | rfl | rfl | rfl <;> rfl
theorem rc_bytes {w : World} {ρ : Nat -> Nat} {G L : Nat -> Prop} {p : Bool} {l : List UInt8} {cs : List Value} {F : List Nat} (hr : Rc w ρ G L p (.arr 32 1 (l.map D.u8)) cs F) : cs = (l.map fun b=>Value.int .u8 b.toNat) /\ F = []:=by
 cases hr with
 | arr _ _ _ _ hl hs hr=>
  rw [List.length_map] at hl
  refine ⟨List.ext_getElem (by rw [hs,List.length_map]; omega) fun i h1 h2=>?_,rfl⟩
  have hi : i < l.length:=by simpa using h2
  have:=hr i (by simpa using hi)
  rw [List.getElem_map] at this
  have e : (cs.drop (i * 1)).take 1 = [cs[i]]:=by
   rw [Nat.mul_one,List.drop_eq_getElem_cons h1]
   rfl
  rw [e] at this
  rw [List.getElem_map]
  generalize cs[i] = v at this
  cases this
  rfl
theorem bytes_rc {w : World} {ρ : Nat -> Nat} {G L : Nat -> Prop} {p : Bool} {l : List UInt8} (hl : l.length = 32) : Rc w ρ G L p (.arr 32 1 (l.map D.u8)) (l.map fun b=>Value.int .u8 b.toNat) []:=by
 refine .arr 32 1 _ _ (by simpa using hl) (by simp [hl]) fun i hi=>?_
 have hi' : i < l.length:=by simpa using hi
 have e : ((l.map fun b=>Value.int .u8 b.toNat).drop (i * 1)).take 1 = [Value.int .u8 l[i].toNat]:=by
  rw [Nat.mul_one,List.drop_eq_getElem_cons (by simpa using hi')]
  simp
 rw [e,List.getElem_map]
 exact .u8 _
theorem agg_cut {w : World} {ρ : Nat -> Nat} {G L : Nat -> Prop} {p : Bool} {d : D} {r : List D} {cs : List Value} {F : List Nat} (h : Rc w ρ G L p (.agg (d :: r)) cs F) :
 ∃ F1 F2,Rc w ρ G L p d (cs.take d.sz) F1 /\ Rc w ρ G L p (.agg r) (cs.drop d.sz) F2 /\ F = F1 ++ F2:=by
 cases h with
 | agg _ _ Fs hs hr=>
  refine ⟨Fs 0,(List.range r.length).flatMap fun k=>Fs (k + 1), ?_, ?_, ?_⟩
  · have:=hr 0 (by simp)
    simpa [offk] using this
  · refine .agg r _ (fun k=>Fs (k + 1)) (by rw [List.length_drop,hs,szs_cons]; omega) fun k hk=>?_
    have:=hr (k + 1) (by simpa using hk)
    rw [List.drop_drop]
    simpa [offk] using this
  · rw [List.length_cons,List.range_succ_eq_map,List.flatMap_cons]
    congr 1
    rw [List.flatMap_map]
theorem cut_agg {w : World} {ρ : Nat -> Nat} {G L : Nat -> Prop} {p : Bool} {d : D} {r : List D} {c1 c2 : List Value} (h1 : Rc w ρ G L p d c1 []) (h2 : Rc w ρ G L p (.agg r) c2 []) : Rc w ρ G L p (.agg (d :: r)) (c1 ++ c2) []:=by
 have l1:=h1.len
 generalize hF : ([] : List Nat) = F at h2
 cases h2 with
 | agg _ _ Fs hs hr=>
  have hz : ∀ k,k < r.length -> Fs k = []:=by
   intro k hk
   have:=(List.flatMap_eq_nil_iff.1 hF.symm) k (List.mem_range.2 hk)
   exact this
  have key:=Rc.agg (w:=w) (ρ:=ρ) (G:=G) (L:=L) (p:=p) (d :: r) (c1 ++ c2) (fun _=>[]) (by rw [List.length_append,l1,hs,szs_cons]) (fun k hk=>by
   cases k with
   | zero=>simpa [offk,l1] using h1
   | succ k=>
    have hk' : k < r.length:=by simpa using hk
    have:=hr k hk'
    rw [hz k hk'] at this
    have e : offk (d :: r) (k + 1) = d.sz + offk r k:=by simp [offk]
    rw [e,<- l1,<- List.drop_drop,List.drop_left]
    exact this)
  have e5 : (List.range (d :: r).length).flatMap (fun _ : Nat=>([] : List Nat)) = []:=by
   rw [List.flatMap_eq_nil_iff]; intro _ _; rfl
  rw [e5] at key
  rw [<- hF]; exact key
theorem agg_nil {w : World} {ρ : Nat -> Nat} {G L : Nat -> Prop} {p : Bool} {cs : List Value} {F : List Nat} (h : Rc w ρ G L p (.agg []) cs F) : cs = [] /\ F = []:=by
 cases h with
 | agg _ _ Fs hs hr=>exact ⟨List.length_eq_zero_iff.1 (by simpa using hs),rfl⟩
theorem nil_agg {w : World} {ρ : Nat -> Nat} {G L : Nat -> Prop} {p : Bool} : Rc w ρ G L p (.agg []) [] []:=Rc.agg [] [] (fun _=>[]) rfl (fun k hk=>by cases hk)
theorem encU_rc {w : World} {ρ : Nat -> Nat} {G L : Nat -> Prop} {p : Bool} (c : UnH) : Rc w ρ G L p (coD c.1) (encU c) []:=by
 have h1 : Rc w ρ G L p (.agg [hashD c.1.tx,.u32 c.1.n]) ((c.1.tx.map fun b=>Value.int .u8 b.toNat) ++ [.int .u32 c.1.n.toNat]) []:=
  cut_agg (bytes_rc c.2) (cut_agg (c1:=[.int .u32 c.1.n.toNat]) (c2:=[]) (.u32 _) nil_agg)
 have h2 : Rc w ρ G L p (.agg [.u64 c.1.value,.int c.1.ht]) [.int .u64 c.1.value.toNat,.int .i64 c.1.ht] []:=
  cut_agg (c1:=[.int .u64 c.1.value.toNat]) (c2:=[.int .i64 c.1.ht]) (.u64 _) (cut_agg (c1:=[.int .i64 c.1.ht]) (c2:=[]) (.int _) nil_agg)
 have:=cut_agg h1 h2
 rw [List.append_assoc] at this
 exact this
theorem encU_rc' {w : World} {ρ : Nat -> Nat} {G L : Nat -> Prop} {p : Bool} {cs : List Value} {F : List Nat} (c : UnH) (h : Rc w ρ G L p (coD c.1) cs F) : cs = encU c /\ F = []:=by
 obtain ⟨F1,F2,h1,h2,rfl⟩:=agg_cut h
 obtain ⟨G1,G2,g1,g2,rfl⟩:=agg_cut h1
 obtain ⟨G3,G4,g3,g4,rfl⟩:=agg_cut g2
 obtain ⟨G5,G6,g5,g6,rfl⟩:=agg_cut h2
 obtain ⟨G7,G8,g7,g8,rfl⟩:=agg_cut g6
 obtain ⟨a1,rfl⟩:=rc_bytes g1
 obtain ⟨a4,rfl⟩:=agg_nil g4
 obtain ⟨a8,rfl⟩:=agg_nil g8
 have a1 : (cs.take 33).take 32 = c.1.tx.map fun b=>Value.int .u8 b.toNat:=a1
 have g3 : Rc w ρ G L p (.u32 c.1.n) (((cs.take 33).drop 32).take 1) G3:=g3
 have a4 : ((cs.take 33).drop 32).drop 1 = []:=a4
 have g5 : Rc w ρ G L p (.u64 c.1.value) ((cs.drop 33).take 1) G5:=g5
 have g7 : Rc w ρ G L p (.int c.1.ht) (((cs.drop 33).drop 1).take 1) G7:=g7
 have a8 : ((cs.drop 33).drop 1).drop 1 = []:=a8
 have b3 : ((cs.take 33).drop 32).take 1 = [.int .u32 c.1.n.toNat] /\ G3 = []:=by
  generalize ((cs.take 33).drop 32).take 1 = x at g3
  cases g3; exact ⟨rfl,rfl⟩
 have b5 : (cs.drop 33).take 1 = [.int .u64 c.1.value.toNat] /\ G5 = []:=by
  generalize (cs.drop 33).take 1 = x at g5
  cases g5; exact ⟨rfl,rfl⟩
 have b7 : ((cs.drop 33).drop 1).take 1 = [.int .i64 c.1.ht] /\ G7 = []:=by
  generalize ((cs.drop 33).drop 1).take 1 = x at g7
  cases g7; exact ⟨rfl,rfl⟩
 obtain ⟨b3,rfl⟩:=b3
 obtain ⟨b5,rfl⟩:=b5
 obtain ⟨b7,rfl⟩:=b7
 refine ⟨?_,by simp⟩
 have e1 : cs = cs.take 33 ++ cs.drop 33:=(List.take_append_drop _ _).symm
 have e2 : cs.take 33 = (cs.take 33).take 32 ++ (cs.take 33).drop 32:=(List.take_append_drop _ _).symm
 have e3 : (cs.take 33).drop 32 = ((cs.take 33).drop 32).take 1 ++ ((cs.take 33).drop 32).drop 1:=(List.take_append_drop _ _).symm
 have e4 : cs.drop 33 = (cs.drop 33).take 1 ++ (cs.drop 33).drop 1:=(List.take_append_drop _ _).symm
 have e5 : (cs.drop 33).drop 1 = ((cs.drop 33).drop 1).take 1 ++ ((cs.drop 33).drop 1).drop 1:=(List.take_append_drop _ _).symm
 rw [e1,e2,a1,e3,b3,a4,e4,b5,e5,b7,a8]
 simp [encU]
def cfU (a b : UnH) : Int:=ordS a.1 b.1
theorem swoU : SWO (ltOf cfU):=(tcO.on (fun a : UnH=>a.1)).swo
def nrm (c : Un) : UnH:=if h : c.tx.length = 32 then ⟨c,h⟩ else default
def srtA (l : List Un) : Array UnH:=pdq (ltOf cfU) (l.map nrm).toArray 0 (l.map nrm).toArray.size (Lib.bitLen (l.map nrm).toArray.size) true true
def sortU (l : List Un) : List Un:=(srtA l).toList.map (·.1)
theorem srtA_ok (l : List Un) : PermIn 0 (l.map nrm).toArray.size (l.map nrm).toArray (srtA l) /\ SortedIn (ltOf cfU) 0 (l.map nrm).toArray.size (srtA l):=
 pdq_sorts (ltOf cfU) swoU _ 0 _ _ true true (Nat.zero_le _) (Nat.le_refl _) (Or.inl rfl)
theorem srtC (l : List Un) (hl : l.length <= 1000000) : SrtC Try.prog 25 26 35 encU (l.map nrm).toArray (srtA l) where
 none p cap w:=AnyF.slices_SortFunc_none Try.sortU p cap _ w
 some blk cap w hH hb:=by
  have eg : ∀ args w,(callFunc 26 args).run Try.prog w = .ok (.enter 26 args) w:=enters_of Try.func26 (by kernel_rfl) rfl
  exact AnyQ.slices_SortFunc_eq Try.sortU 35 (fun w=>by exact (Try.isAgg67 : _) w) (fun w=>by exact (Try.sizeOf67 : _) w) encU encU_len encU_one cfU swoU 26 #[] blk 0 cap _ w eg
   (cmpLays_of (fun _=>rfl) (fun _ _ _ _ x=>encU_rc x) (fun x y=>order_ok x.1 y.1 x.2 y.2)) hH hb (by simp; omega)
 sz:=by
  exact (srtA_ok l).1.1
end Go.Sx

namespace Go.Sx
open Go.Proofs
theorem fee_bad (ins outs : Int) (rate : UInt64) (hf : feeP ins outs rate) : Fn Try.prog gl 9 [.int ins,.int outs,.u64 rate] (.tup [.u64 0,.int 1]):=by
 refine Fn.of (n:=35) Try.func9 rfl rfl rfl (nU rfl) fun C hC hD=>?_
 refine W.seq ?_
 refine W.l0 2 [.y 6 _,.y 7 _] [] [] [(0,_),(1,_),(2,_)] [] 35 ⟨aU fun _ _ H _=>R.asg (show ev _ _ (.const (.int .u64 0)) = some (.u64 0) from O) O H,aU fun _ _ H _=>R.asg (kI 0 O) O H,Zt⟩ O O O O (tU O ?_)
 refine W.seq (W.seq ?_)
 by_cases k1 : ins < 0
 · refine W.l0 18 [.y 8 _,.y 9 _,.y 10 _,.x 11,.x 12,.y 13 _,.y 14 _,.x 15,.x 16,.y 17 _,.y 18 _,.x 19,.x 20,.y 21 _,.y 22 _,.x 23,.x 24,.y 25 _] [] [] [(0,_),(1,_),(2,_),(25,_)] [] 35 ⟨mU 0 O O,aU fun _ _ H K=>R.bin (eU K 8 O) (kI 0 O) O Zt H,mU 9 O O,aF O O (gT (dT k1) O),aF O O (gT (dT k1) O),aU fun _ _ H K=>R.pickT (eU K 10 O) (dT k1) (kB true O) O H,mU 13 O O,aF O O (gT (O) O),aF O O (gT (O) O),aU fun _ _ H K=>R.pickT (eU K 14 O) (O) (kB true O) O H,mU 17 O O,aF O O (gT (O) O),aF O O (gT (O) O),aU fun _ _ H K=>R.pickT (eU K 18 O) (O) (kB true O) O H,mU 21 O O,aF O O (gT (O) O),aF O O (gT (O) O),aU fun _ _ H K=>R.pickT (eU K 22 O) (O) (kB true O) O H,Zt⟩ O O O O (tU O ?_)
   refine W.condT O (O) ?_
   refine W.seq ?_
   refine W.l0 2 [.y 6 _,.y 7 _] [] [] [(6,_),(7,_)] [] 35 ⟨aU fun _ _ H _=>R.asg (show ev _ _ (.const (.int .u64 0)) = some (.u64 0) from O) O H,aU fun _ _ H _=>R.asg (kI 1 O) O H,Zt⟩ O O O O (tU O ?_)
   refine W.ret ?_
   exact Ends.many (.inr O) (.cons O O O Zt (.cons O O O Zt .nil)) (O) (show [(6,true),(7,true)].Nodup by decide)
 · by_cases k2 : 4096 < ins
   · refine W.l0 18 [.y 8 _,.y 9 _,.y 10 _,.y 11 _,.y 12 _,.y 13 _,.y 14 _,.x 15,.x 16,.y 17 _,.y 18 _,.x 19,.x 20,.y 21 _,.y 22 _,.x 23,.x 24,.y 25 _] [] [] [(0,_),(1,_),(2,_),(25,_)] [] 35 ⟨mU 0 O O,aU fun _ _ H K=>R.bin (eU K 8 O) (kI 0 O) O Zt H,mU 9 O O,aW O O (gF (dF k1) O) fun _ _ H K=>R.mov (eU K 0 O) O H,aW O O (gF (dF k1) O) fun _ _ H K=>R.bin (eU K 11 O) (kI 4096 O) O Zt H,aU fun _ _ H K=>R.pickF (eU K 10 O) (dF k1) (eU K 12 O) O H,mU 13 O O,aF O O (gT (dT k2) O),aF O O (gT (dT k2) O),aU fun _ _ H K=>R.pickT (eU K 14 O) (dT k2) (kB true O) O H,mU 17 O O,aF O O (gT (O) O),aF O O (gT (O) O),aU fun _ _ H K=>R.pickT (eU K 18 O) (O) (kB true O) O H,mU 21 O O,aF O O (gT (O) O),aF O O (gT (O) O),aU fun _ _ H K=>R.pickT (eU K 22 O) (O) (kB true O) O H,Zt⟩ O O O O (tU O ?_)
     refine W.condT O (O) ?_
     refine W.seq ?_
     refine W.l0 2 [.y 6 _,.y 7 _] [] [] [(6,_),(7,_)] [] 35 ⟨aU fun _ _ H _=>R.asg (show ev _ _ (.const (.int .u64 0)) = some (.u64 0) from O) O H,aU fun _ _ H _=>R.asg (kI 1 O) O H,Zt⟩ O O O O (tU O ?_)
     refine W.ret ?_
     exact Ends.many (.inr O) (.cons O O O Zt (.cons O O O Zt .nil)) (O) (show [(6,true),(7,true)].Nodup by decide)
   · by_cases k3 : outs < 0
     · refine W.l0 18 [.y 8 _,.y 9 _,.y 10 _,.y 11 _,.y 12 _,.y 13 _,.y 14 _,.y 15 _,.y 16 _,.y 17 _,.y 18 _,.x 19,.x 20,.y 21 _,.y 22 _,.x 23,.x 24,.y 25 _] [] [] [(0,_),(1,_),(2,_),(25,_)] [] 35 ⟨mU 0 O O,aU fun _ _ H K=>R.bin (eU K 8 O) (kI 0 O) O Zt H,mU 9 O O,aW O O (gF (dF k1) O) fun _ _ H K=>R.mov (eU K 0 O) O H,aW O O (gF (dF k1) O) fun _ _ H K=>R.bin (eU K 11 O) (kI 4096 O) O Zt H,aU fun _ _ H K=>R.pickF (eU K 10 O) (dF k1) (eU K 12 O) O H,mU 13 O O,aW O O (gF (dF k2) O) fun _ _ H K=>R.mov (eU K 1 O) O H,aW O O (gF (dF k2) O) fun _ _ H K=>R.bin (eU K 15 O) (kI 0 O) O Zt H,aU fun _ _ H K=>R.pickF (eU K 14 O) (dF k2) (eU K 16 O) O H,mU 17 O O,aF O O (gT (dT k3) O),aF O O (gT (dT k3) O),aU fun _ _ H K=>R.pickT (eU K 18 O) (dT k3) (kB true O) O H,mU 21 O O,aF O O (gT (O) O),aF O O (gT (O) O),aU fun _ _ H K=>R.pickT (eU K 22 O) (O) (kB true O) O H,Zt⟩ O O O O (tU O ?_)
       refine W.condT O (O) ?_
       refine W.seq ?_
       refine W.l0 2 [.y 6 _,.y 7 _] [] [] [(6,_),(7,_)] [] 35 ⟨aU fun _ _ H _=>R.asg (show ev _ _ (.const (.int .u64 0)) = some (.u64 0) from O) O H,aU fun _ _ H _=>R.asg (kI 1 O) O H,Zt⟩ O O O O (tU O ?_)
       refine W.ret ?_
       exact Ends.many (.inr O) (.cons O O O Zt (.cons O O O Zt .nil)) (O) (show [(6,true),(7,true)].Nodup by decide)
     · by_cases k4 : 4096 < outs
       · refine W.l0 18 [.y 8 _,.y 9 _,.y 10 _,.y 11 _,.y 12 _,.y 13 _,.y 14 _,.y 15 _,.y 16 _,.y 17 _,.y 18 _,.y 19 _,.y 20 _,.y 21 _,.y 22 _,.x 23,.x 24,.y 25 _] [] [] [(0,_),(1,_),(2,_),(25,_)] [] 35 ⟨mU 0 O O,aU fun _ _ H K=>R.bin (eU K 8 O) (kI 0 O) O Zt H,mU 9 O O,aW O O (gF (dF k1) O) fun _ _ H K=>R.mov (eU K 0 O) O H,aW O O (gF (dF k1) O) fun _ _ H K=>R.bin (eU K 11 O) (kI 4096 O) O Zt H,aU fun _ _ H K=>R.pickF (eU K 10 O) (dF k1) (eU K 12 O) O H,mU 13 O O,aW O O (gF (dF k2) O) fun _ _ H K=>R.mov (eU K 1 O) O H,aW O O (gF (dF k2) O) fun _ _ H K=>R.bin (eU K 15 O) (kI 0 O) O Zt H,aU fun _ _ H K=>R.pickF (eU K 14 O) (dF k2) (eU K 16 O) O H,mU 17 O O,aW O O (gF (dF k3) O) fun _ _ H K=>R.mov (eU K 1 O) O H,aW O O (gF (dF k3) O) fun _ _ H K=>R.bin (eU K 19 O) (kI 4096 O) O Zt H,aU fun _ _ H K=>R.pickF (eU K 18 O) (dF k3) (eU K 20 O) O H,mU 21 O O,aF O O (gT (dT k4) O),aF O O (gT (dT k4) O),aU fun _ _ H K=>R.pickT (eU K 22 O) (dT k4) (kB true O) O H,Zt⟩ O O O O (tU O ?_)
         refine W.condT O (O) ?_
         refine W.seq ?_
         refine W.l0 2 [.y 6 _,.y 7 _] [] [] [(6,_),(7,_)] [] 35 ⟨aU fun _ _ H _=>R.asg (show ev _ _ (.const (.int .u64 0)) = some (.u64 0) from O) O H,aU fun _ _ H _=>R.asg (kI 1 O) O H,Zt⟩ O O O O (tU O ?_)
         refine W.ret ?_
         exact Ends.many (.inr O) (.cons O O O Zt (.cons O O O Zt .nil)) (O) (show [(6,true),(7,true)].Nodup by decide)
       · refine W.l0 18 [.y 8 _,.y 9 _,.y 10 _,.y 11 _,.y 12 _,.y 13 _,.y 14 _,.y 15 _,.y 16 _,.y 17 _,.y 18 _,.y 19 _,.y 20 _,.y 21 _,.y 22 _,.y 23 _,.y 24 _,.y 25 _] [] [] [(0,_),(1,_),(2,_),(25,_)] [] 35 ⟨mU 0 O O,aU fun _ _ H K=>R.bin (eU K 8 O) (kI 0 O) O Zt H,mU 9 O O,aW O O (gF (dF k1) O) fun _ _ H K=>R.mov (eU K 0 O) O H,aW O O (gF (dF k1) O) fun _ _ H K=>R.bin (eU K 11 O) (kI 4096 O) O Zt H,aU fun _ _ H K=>R.pickF (eU K 10 O) (dF k1) (eU K 12 O) O H,mU 13 O O,aW O O (gF (dF k2) O) fun _ _ H K=>R.mov (eU K 1 O) O H,aW O O (gF (dF k2) O) fun _ _ H K=>R.bin (eU K 15 O) (kI 0 O) O Zt H,aU fun _ _ H K=>R.pickF (eU K 14 O) (dF k2) (eU K 16 O) O H,mU 17 O O,aW O O (gF (dF k3) O) fun _ _ H K=>R.mov (eU K 1 O) O H,aW O O (gF (dF k3) O) fun _ _ H K=>R.bin (eU K 19 O) (kI 4096 O) O Zt H,aU fun _ _ H K=>R.pickF (eU K 18 O) (dF k3) (eU K 20 O) O H,mU 21 O O,aW O O (gF (dF k4) O) fun _ _ H K=>R.mov (eU K 2 O) O H,aW O O (gF (dF k4) O) fun _ _ H K=>R.bin (eU K 23 O) (show ev _ _ (.const (.int .u64 1000000)) = some (.u64 1000000) from O) O Zt H,aU fun _ _ H K=>R.pickF (eU K 22 O) (dF k4) (eU K 24 O) O H,Zt⟩ O O O O (tU O ?_)
         refine W.condT rfl (dT (by rcases hf with h | h | h | h | h <;> first | exact absurd h k1 | exact absurd h k2 | exact absurd h k3 | exact absurd h k4 | exact h)) ?_
         refine W.seq ?_
         refine W.l0 2 [.y 6 _,.y 7 _] [] [] [(6,_),(7,_)] [] 35 ⟨aU fun _ _ H _=>R.asg (show ev _ _ (.const (.int .u64 0)) = some (.u64 0) from O) O H,aU fun _ _ H _=>R.asg (kI 1 O) O H,Zt⟩ O O O O (tU O ?_)
         refine W.ret ?_
         exact Ends.many (.inr O) (.cons O O O Zt (.cons O O O Zt .nil)) (O) (show [(6,true),(7,true)].Nodup by decide)
theorem fee_good (ins outs : Nat) (rate : UInt64) (hi : ins <= 4096) (ho : outs <= 4096) (hr : ¬ 1000000 < rate) : Fn Try.prog gl 9 [.int ((ins : Nat) : Int),.int ((outs : Nat) : Int),.u64 rate] (.tup [.u64 (UInt64.ofInt ((10 + 148 * ins + 34 * outs : Nat) : Int) * rate),.int 0]):=by
 refine Fn.of (n:=35) Try.func9 rfl rfl rfl (nU rfl) fun C hC hD=>?_
 refine W.seq ?_
 refine W.l0 2 [.y 6 _,.y 7 _] [] [] [(0,_),(1,_),(2,_)] [] 35 ⟨aU fun _ _ H _=>R.asg (show ev _ _ (.const (.int .u64 0)) = some (.u64 0) from O) O H,aU fun _ _ H _=>R.asg (kI 0 O) O H,Zt⟩ O O O O (tU O ?_)
 refine W.seq (W.seq ?_)
 refine W.l0 18 [.y 8 _,.y 9 _,.y 10 _,.y 11 _,.y 12 _,.y 13 _,.y 14 _,.y 15 _,.y 16 _,.y 17 _,.y 18 _,.y 19 _,.y 20 _,.y 21 _,.y 22 _,.y 23 _,.y 24 _,.y 25 _] [] [] [(0,_),(1,_),(2,_),(25,_)] [] 35 ⟨mU 0 O O,aU fun _ _ H K=>R.lssN (ins) (0) (eU K 8 O) (kI 0 O) H,mU 9 O O,aW O O (gF (dF (by omega)) O) fun _ _ H K=>R.mov (eU K 0 O) O H,aW O O (gF (dF (by omega)) O) fun _ _ H K=>R.gtrN (ins) (4096) (eU K 11 O) (kI 4096 O) H,aU fun _ _ H K=>R.pickF (eU K 10 O) (dF (by omega)) (eU K 12 O) O H,mU 13 O O,aW O O (gF (dF (by omega)) O) fun _ _ H K=>R.mov (eU K 1 O) O H,aW O O (gF (dF (by omega)) O) fun _ _ H K=>R.lssN (outs) (0) (eU K 15 O) (kI 0 O) H,aU fun _ _ H K=>R.pickF (eU K 14 O) (dF (by omega)) (eU K 16 O) O H,mU 17 O O,aW O O (gF (dF (by omega)) O) fun _ _ H K=>R.mov (eU K 1 O) O H,aW O O (gF (dF (by omega)) O) fun _ _ H K=>R.gtrN (outs) (4096) (eU K 19 O) (kI 4096 O) H,aU fun _ _ H K=>R.pickF (eU K 18 O) (dF (by omega)) (eU K 20 O) O H,mU 21 O O,aW O O (gF (dF (by omega)) O) fun _ _ H K=>R.mov (eU K 2 O) O H,aW O O (gF (dF (by omega)) O) fun _ _ H K=>R.bin (eU K 23 O) (show ev _ _ (.const (.int .u64 1000000)) = some (.u64 1000000) from O) O Zt H,aU fun _ _ H K=>R.pickF (eU K 22 O) (dF (by omega)) (eU K 24 O) O H,Zt⟩ O O O O (tU O ?_)
 refine W.condF O (dF hr) ?_
 refine W.skip (W.seq ?_)
 refine W.l0 11 [.y 26 _,.y 27 _,.y 28 _,.y 29 _,.y 30 _,.y 31 _,.y 32 _,.y 33 _,.y 34 _,.y 6 _,.y 7 _] [] [] [(6,_),(7,_)] [] 35 ⟨mU 0 O O,aU fun _ _ H K=>R.mulN (148) (ins) (kI 148 O) (eU K 26 O) bU H,aU fun _ _ H K=>R.addN (10) ((148 * ins)) (kI 10 O) (eU K 27 O) bU H,mU 1 O O,aU fun _ _ H K=>R.mulN (34) (outs) (kI 34 O) (eU K 29 O) bU H,aU fun _ _ H K=>R.addN ((10 + (148 * ins))) ((34 * outs)) (eU K 28 O) (eU K 30 O) bU H,aU fun _ _ H K=>R.conv (eU K 31 O) O H,mU 2 O O,aU fun _ _ H K=>R.bin (eU K 32 O) (eU K 33 O) O Zt H,aU fun _ _ H K=>R.asg (eU K 34 O) O H,aU fun _ _ H _=>R.asg (kI 0 O) O H,Zt⟩ O O O O (tU O ?_)
 refine W.ret ?_
 exact Ends.many (.inr O) (.cons O O O Zt (.cons O O O Zt .nil)) (O) (show [(6,true),(7,true)].Nodup by decide)
end Go.Sx

namespace Go.Sx
open Go.Proofs Go.Shelf Go.RowKit Go.Sort
theorem bfalse {b : Bool} (h : ¬ b = true) : b = false:=by cases b; rfl; exact absurd rfl h
def hs32 (l : List Un) : Prop:=∀ c ∈ l,c.tx.length = 32
theorem nrm_val {c : Un} (h : c.tx.length = 32) : (nrm c).1 = c:=by rw [nrm,dif_pos h]
theorem nrm_map {l : List Un} (h : hs32 l) : (l.map nrm).map (·.1) = l:=by
 rw [List.map_map]
 conv=>rhs; rw [<- List.map_id l]
 exact List.map_congr_left fun c hc=>nrm_val (h c hc)
theorem sortU_perm {l : List Un} (h : hs32 l) : (sortU l).Perm l:=by
 have:=(srtA_ok l).1
 obtain ⟨hs,_,hp⟩:=this
 have e1 : (srtA l).extract 0 (l.map nrm).toArray.size = srtA l:=by rw [<- hs]; simp
 have e2 : (l.map nrm).toArray.extract 0 (l.map nrm).toArray.size = (l.map nrm).toArray:=by simp [List.take_of_length_le]
 rw [e1,e2] at hp
 have:=hp.map (·.1)
 rw [List.toList_toArray,nrm_map h] at this
 exact this
theorem sortU_len (l : List Un) : (sortU l).length = l.length:=by
 have:=(srtA_ok l).1.1
 simp only [sortU,List.length_map,Array.length_toList,this]
 simp
theorem sortU_hs {l : List Un} (h : hs32 l) : hs32 (sortU l):=fun c hc=>h c ((sortU_perm h).mem_iff.1 hc)
theorem sortU_sorted (l : List Un) {i j : Nat} (hij : i < j) (hj : j < l.length) : 0 <= ordS (sortU l)[j]! (sortU l)[i]!:=by
 have h1:=(srtA_ok l).2 i j (Nat.zero_le _) hij (by simpa using hj)
 have hs:=(srtA_ok l).1.1
 have hj' : j < (srtA l).size:=by rw [hs]; simpa using hj
 have hi' : i < (srtA l).size:=by omega
 have e : ∀ k (hk : k < (srtA l).size),(sortU l)[k]! = ((srtA l)[k]!).1:=fun k hk=>by
  rw [getElem!_pos (srtA l) k hk,getElem!_pos (sortU l) k (by simpa [sortU] using hk)]
  simp [sortU]
 rw [e j hj',e i hi']
 simp only [ltOf,cfU,decide_eq_false_iff_not] at h1
 exact Int.not_lt.1 (of_decide_eq_false h1)
theorem R.srtU {C : Ctx} {σ : Sg} {s s0 e t : Nat} {tys : Array TypeId} {rt : TypeId} {pos : String} {aft : Array Edge} {gd_ : Option (Nat × Bool)} (l : List Un) (hl : hs32 l) (hn : l.length <= 1000000)
 (ho : ownr σ s s0) (hs : σ.get s0 = some (.sl (some e) 35 (l.map coD))) (ht : t < σ.n) :
 OpS Try.prog C ⟨some t,.call { callee:=.value (.func 25),args:=#[.tmp s,.func 26],argTypes:=tys },rt,pos,aft,gd_⟩ σ ((σ.upd s0 (.sl (some e) 35 ((sortU l).map coD))).set t (.tup [])):=by
 refine R.sortS (el:=fun c : UnH=>coD c.1) (srtC l hn) encU_len encU_one (fun _ _ _ _ x=>encU_rc x) (fun _ _ _ _ _ _ x h=>encU_rc' x h) ?_ ?_ ho hs ht
 · conv=>lhs; rw [<- nrm_map hl]
   rw [List.map_map,List.toList_toArray]
   rfl
 · rw [Go.Sx.sortU,List.map_map]; rfl
theorem fee_ok (ins outs : Int) (rate : UInt64) : Fn Try.prog gl 9 [.int ins,.int outs,.u64 rate] (.tup [.u64 (feeV ins outs rate),.int (feeE ins outs rate)]):=by
 by_cases hf : feeP ins outs rate
 · rw [<- fee_t hf]; exact fee_bad ins outs rate hf
 · rw [<- fee_f hf]
   unfold feeP at hf
   obtain ⟨i,rfl⟩:=Int.eq_ofNat_of_zero_le (show 0 <= ins by omega)
   obtain ⟨o,rfl⟩:=Int.eq_ofNat_of_zero_le (show 0 <= outs by omega)
   have:=fee_good i o rate (by omega) (by omega) (fun h=>hf (.inr (.inr (.inr (.inr h)))))
   have e : ((10 + 148 * i + 34 * o : Nat) : Int) = 10 + 148 * (i : Int) + 34 * (o : Int):=by omega
   rw [e] at this
   exact this
theorem tot_f {l : List Wnt} (h : ¬ totP l) : [D.u64 0,D.bool false] = [.u64 (totV l),.bool (totB l)]:=by rw [totV,totB,if_neg h,decide_eq_false h]
theorem tot_t {l : List Wnt} (h : totP l) : [D.u64 (2100000000000000 - lftI l l.length),D.bool true] = [.u64 (totV l),.bool (totB l)]:=by rw [totV,totB,if_pos h,decide_eq_true h]
theorem ren_plc (m : Nat -> Nat) (k : Plc) : (placeK k).ren m = placeK k:=by
 simp only [placeK,hashD,D.ren,D.rens]
theorem okPu (ids : List Nat) (m : List (Plc × UInt64)) : ∀ kv ∈ m.map (fun e=>(placeK e.1,D.u64 e.2)),kv.1.okB ids = true /\ kv.2.okB ids = true:=okMpK (fun _=>rfl) (fun _=>rfl)
theorem renPu (m : Nat -> Nat) (M : List (Plc × UInt64)) (i : Nat) (r : List (Nat × Bx)) : renBx m ((i,mpK placeK D.u64 M) :: r) = (m i,mpK placeK D.u64 M) :: renBx m r:=renMp (fun _=>ren_plc _ _) (fun _=>rfl) M i r
end Go.Sx

namespace Go.Sx
open Go.Proofs
theorem total_ok (ws : List Wnt) (hw : ws.length <= 1000000) : Fn Try.prog gl 21 [.sl none 2 (ws.map wntD)] (.tup [.u64 (totV ws),.bool (totB ws)]):=by
 refine Fn.of (n:=43) Try.func21 rfl rfl rfl (nU rfl) fun C hC hD=>?_
 refine W.seq ?_
 refine W.l0 2 [.y 2 _,.y 3 _] [] [] [(0,_)] [] 43 ⟨aU fun _ _ H _=>R.asg (show ev _ _ (.const (.int .u64 0)) = some (.u64 0) from O) O H,aU fun _ _ H _=>R.asg (kB false O) O H,Zt⟩ O O O O (tU O ?_)
 refine W.seq (W.seq ?_)
 by_cases k1 : ws.length = 0
 · refine W.l0 8 [.y 7 _,.y 8 _,.y 9 _,.y 10 _,.x 11,.x 12,.x 13,.y 14 _] [] [] [(0,_),(14,_)] [] 43 ⟨mU 0 O O,aU fun _ _ H K=>R.lenE (SC.sl (K 7 _ O)) (lN _) H,aU fun _ _ H K=>R.eqlN (ws.length) (0) (eU K 8 O) (kI 0 O) H,mU 9 O O,aF O O (gT (dT k1) O),aF O O (gT (dT k1) O),aF O O (gT (dT k1) O),aU fun _ _ H K=>R.pickT (eU K 10 O) (dT k1) (kB true O) O H,Zt⟩ O O O O (tU O ?_)
   refine W.condT O (O) ?_
   refine W.seq ?_
   refine W.l0 2 [.y 2 _,.y 3 _] [] [] [(2,_),(3,_)] [] 43 ⟨aU fun _ _ H _=>R.asg (show ev _ _ (.const (.int .u64 0)) = some (.u64 0) from O) O H,aU fun _ _ H _=>R.asg (kB false O) O H,Zt⟩ O O O O (tU O ?_)
   refine W.ret ?_
   exact Ends.many (.inr O) (.cons O O O Zt (.cons O O O Zt .nil)) (tot_f (fun h=>h.1 k1)) (show [(2,true),(3,true)].Nodup by decide)
 · refine W.l0 8 [.y 7 _,.y 8 _,.y 9 _,.y 10 _,.y 11 _,.y 12 _,.y 13 _,.y 14 _] [] [] [(0,_),(14,_)] [] 43 ⟨mU 0 O O,aU fun _ _ H K=>R.lenE (SC.sl (K 7 _ O)) (lN _) H,aU fun _ _ H K=>R.eqlN (ws.length) (0) (eU K 8 O) (kI 0 O) H,mU 9 O O,aW O O (gF (dF k1) O) fun _ _ H K=>R.mov (eU K 0 O) O H,aW O O (gF (dF k1) O) fun _ _ H K=>R.lenE (SC.sl (K 11 _ O)) (lN _) H,aW O O (gF (dF k1) O) fun _ _ H K=>R.gtrN (ws.length) (64) (eU K 12 O) (kI 64 O) H,aU fun _ _ H K=>R.pickF (eU K 10 O) (dF k1) (eU K 13 O) O H,Zt⟩ O O O O (tU O ?_)
   refine W.condD O (fun hc14=>?_) (fun hc14=>?_)
   · refine W.seq ?_
     refine W.l0 2 [.y 2 _,.y 3 _] [] [] [(2,_),(3,_)] [] 43 ⟨aU fun _ _ H _=>R.asg (show ev _ _ (.const (.int .u64 0)) = some (.u64 0) from O) O H,aU fun _ _ H _=>R.asg (kB false O) O H,Zt⟩ O O O O (tU O ?_)
     refine W.ret ?_
     exact Ends.many (.inr O) (.cons O O O Zt (.cons O O O Zt .nil)) (tot_f (fun h=>by have:=h.2.1; omega)) (show [(2,true),(3,true)].Nodup by decide)
   · refine W.skip (W.seq ?_)
     refine W.l0 1 [.y 4 _] [] [] [(0,_),(4,_)] [] 43 ⟨aU fun _ _ H _=>R.asg (show ev _ _ (.const (.int .u64 2100000000000000)) = some (.u64 2100000000000000) from O) O H,Zt⟩ O O O O (tU O ?_)
     refine W.seq (W.seq ?_)
     refine W.l0 3 [.y 15 _,.y 16 _,.y 17 _] [] [] [(4,_),(15,_),(16,_),(17,_)] [] 43 ⟨mU 0 O O,aU fun _ _ H K=>R.lenE (SC.sl (K 15 _ O)) (lN _) H,aU fun _ _ H _=>R.mov (kI 0 O) O H,Zt⟩ O O O O (tU O ?_)
     refine W.block ?_
     refine W.loop (α:={q__ : Nat // q__ <= ws.length /\ ∀ j < q__,ws[j]!.value ≠ 0 /\ ¬ lftI ws j < ws[j]!.value /\ ws[j]!.script.length <= 1000}) (fun q__=>⟨43,[(4,.u64 (lftI ws q__.1)),(15,.sl none 2 (ws.map wntD)),(16,.int ((ws.length : Nat) : Int)),(17,.int ((q__.1 : Nat) : Int))],[]⟩) (fun q__=>ws.length - q__.1) ⟨(0),⟨Nat.zero_le _,fun j h=>absurd h (Nat.not_lt_zero _)⟩⟩ O ?_
     rintro ⟨i,⟨hi,hok⟩⟩
     show W _ _ _ _ ⟨43,[(4,.u64 (lftI ws i)),(15,.sl none 2 (ws.map wntD)),(16,.int ((ws.length : Nat) : Int)),(17,.int ((i : Nat) : Int))],[]⟩
     have hi : i <= ws.length:=hi
     have hok : ∀ j < i,ws[j]!.value ≠ 0 /\ ¬ lftI ws j < ws[j]!.value /\ ws[j]!.script.length <= 1000:=hok
     refine W.seq ?_
     refine W.l0 1 [.y 18 _] [] [] [(4,_),(15,_),(16,_),(17,_),(18,_)] [] 43 ⟨aU fun _ _ H K=>R.lssN (i) (ws.length) (eU K 17 O) (eU K 16 O) H,Zt⟩ O O O O (tU O ?_)
     refine W.seq ?_
     refine W.condD O (fun hc18=>?_) (fun hc18=>?_)
     · refine W.skip (W.seq (W.block (W.seq ?_)))
       refine W.l0 4 [.y 19 _,.y 20 _] [] [] [(4,_),(15,_),(16,_),(17,_),(20,_)] [] 43 ⟨aU fun _ _ H K=>R.idxN (i) (SC.sl (K 15 _ O)) (evoI (eU K 17 O)) O bU H dU,aU fun _ _ H K=>R.ldE (K 19 _ O) (SC.sl (K 15 _ O)) (map_get! (l:=ws) bU) O O O O H,Zt⟩ O O O O (⟨O,_,R.alloc O (nU O),⟨O,_,R.stZ (gU 6 O) (xU 6 O) O (gV 20 O) (by rfl) (by rfl) (by rfl) (by rfl) O,tV [(4,_),(6,_),(15,_),(16,_),(17,_)] [(6,.var _)] 43 O O O ?_⟩⟩)
       refine W.seq (W.seq ?_)
       by_cases k2 : ws[i]!.value = 0
       · refine W.l0 15 [.y 21 _,.y 22 _,.y 23 _,.y 24 _,.x 25,.x 26,.x 27,.x 28,.y 29 _,.y 30 _,.x 31,.x 32,.x 33,.x 34,.y 35 _] [] [] [(4,_),(6,_),(15,_),(16,_),(17,_),(35,_)] [(6,.var _)] 43 ⟨aU (fU 6 O O),aU (lU 21 O O O O O O O),aU fun _ _ H K=>R.bin (eU K 22 O) (show ev _ _ (.const (.int .u64 0)) = some (.u64 0) from O) O Zt H,mU 23 O O,aF O O (gT (beq_iff_eq.2 k2) O),aF O O (gT (beq_iff_eq.2 k2) O),aF O O (gT (beq_iff_eq.2 k2) O),aF O O (gT (beq_iff_eq.2 k2) O),aU fun _ _ H K=>R.pickT (eU K 24 O) (beq_iff_eq.2 k2) (kB true O) O H,mU 29 O O,aF O O (gT (O) O),aF O O (gT (O) O),aF O O (gT (O) O),aF O O (gT (O) O),aU fun _ _ H K=>R.pickT (eU K 30 O) (O) (kB true O) O H,Zt⟩ O O O O (tU O ?_)
         refine W.condT O (O) ?_
         refine W.seq ?_
         refine W.dropS (live:=[]) (env':=[]) (bx':=[(6,.var _)]) (n':=43) O O O ?_
         refine W.dropB [] (bx':=[]) O O O (pin_sub hD O) ?_
         refine W.l0 2 [.y 2 _,.y 3 _] [] [] [(2,_),(3,_)] [] 43 ⟨aU fun _ _ H _=>R.asg (show ev _ _ (.const (.int .u64 0)) = some (.u64 0) from O) O H,aU fun _ _ H _=>R.asg (kB false O) O H,Zt⟩ O O O O (tU O ?_)
         refine W.ret ?_
         exact Ends.many (.inr O) (.cons O O O Zt (.cons O O O Zt .nil)) (tot_f (fun h=>(h.2.2 i hc18).1 k2)) (show [(2,true),(3,true)].Nodup by decide)
       · by_cases k3 : lftI ws i < ws[i]!.value
         · refine W.l0 15 [.y 21 _,.y 22 _,.y 23 _,.y 24 _,.y 25 _,.y 26 _,.y 27 _,.y 28 _,.y 29 _,.y 30 _,.x 31,.x 32,.x 33,.x 34,.y 35 _] [] [] [(4,_),(6,_),(15,_),(16,_),(17,_),(35,_)] [(6,.var _)] 43 ⟨aU (fU 6 O O),aU (lU 21 O O O O O O O),aU fun _ _ H K=>R.bin (eU K 22 O) (show ev _ _ (.const (.int .u64 0)) = some (.u64 0) from O) O Zt H,mU 23 O O,aW O O (gF (beq_eq_false_iff_ne.2 k2) O) (fU 6 O O),aW O O (gF (beq_eq_false_iff_ne.2 k2) O) (lU 25 O O O O O O O),aW O O (gF (beq_eq_false_iff_ne.2 k2) O) fun _ _ H K=>R.mov (eU K 4 O) O H,aW O O (gF (beq_eq_false_iff_ne.2 k2) O) fun _ _ H K=>R.bin (eU K 26 O) (eU K 27 O) O Zt H,aU fun _ _ H K=>R.pickF (eU K 24 O) (beq_eq_false_iff_ne.2 k2) (eU K 28 O) O H,mU 29 O O,aF O O (gT (dT k3) O),aF O O (gT (dT k3) O),aF O O (gT (dT k3) O),aF O O (gT (dT k3) O),aU fun _ _ H K=>R.pickT (eU K 30 O) (dT k3) (kB true O) O H,Zt⟩ O O O O (tU O ?_)
           refine W.condT O (O) ?_
           refine W.seq ?_
           refine W.dropS (live:=[]) (env':=[]) (bx':=[(6,.var _)]) (n':=43) O O O ?_
           refine W.dropB [] (bx':=[]) O O O (pin_sub hD O) ?_
           refine W.l0 2 [.y 2 _,.y 3 _] [] [] [(2,_),(3,_)] [] 43 ⟨aU fun _ _ H _=>R.asg (show ev _ _ (.const (.int .u64 0)) = some (.u64 0) from O) O H,aU fun _ _ H _=>R.asg (kB false O) O H,Zt⟩ O O O O (tU O ?_)
           refine W.ret ?_
           exact Ends.many (.inr O) (.cons O O O Zt (.cons O O O Zt .nil)) (tot_f (fun h=>(h.2.2 i hc18).2.1 k3)) (show [(2,true),(3,true)].Nodup by decide)
         · refine W.l0 15 [.y 21 _,.y 22 _,.y 23 _,.y 24 _,.y 25 _,.y 26 _,.y 27 _,.y 28 _,.y 29 _,.y 30 _,.y 31 _,.y 32 _,.y 33 _,.y 34 _,.y 35 _] [] [] [(4,_),(6,_),(15,_),(16,_),(17,_),(35,_)] [(6,.var _)] 43 ⟨aU (fU 6 O O),aU (lU 21 O O O O O O O),aU fun _ _ H K=>R.bin (eU K 22 O) (show ev _ _ (.const (.int .u64 0)) = some (.u64 0) from O) O Zt H,mU 23 O O,aW O O (gF (beq_eq_false_iff_ne.2 k2) O) (fU 6 O O),aW O O (gF (beq_eq_false_iff_ne.2 k2) O) (lU 25 O O O O O O O),aW O O (gF (beq_eq_false_iff_ne.2 k2) O) fun _ _ H K=>R.mov (eU K 4 O) O H,aW O O (gF (beq_eq_false_iff_ne.2 k2) O) fun _ _ H K=>R.bin (eU K 26 O) (eU K 27 O) O Zt H,aU fun _ _ H K=>R.pickF (eU K 24 O) (beq_eq_false_iff_ne.2 k2) (eU K 28 O) O H,mU 29 O O,aW O O (gF (dF k3) O) (fU 6 O O),aW O O (gF (dF k3) O) (lU 31 O O O O O O O),aW O O (gF (dF k3) O) fun _ _ H K=>R.lenE (SC.sl (K 32 _ O)) (lN _) H,aW O O (gF (dF k3) O) fun _ _ H K=>R.gtrN (ws[i]!.script.length) (1000) (eU K 33 O) (kI 1000 O) H,aU fun _ _ H K=>R.pickF (eU K 30 O) (dF k3) (eU K 34 O) O H,Zt⟩ O O O O (tU O ?_)
           refine W.condD O (fun hc35=>?_) (fun hc35=>?_)
           · refine W.seq ?_
             refine W.dropS (live:=[]) (env':=[]) (bx':=[(6,.var _)]) (n':=43) O O O ?_
             refine W.dropB [] (bx':=[]) O O O (pin_sub hD O) ?_
             refine W.l0 2 [.y 2 _,.y 3 _] [] [] [(2,_),(3,_)] [] 43 ⟨aU fun _ _ H _=>R.asg (show ev _ _ (.const (.int .u64 0)) = some (.u64 0) from O) O H,aU fun _ _ H _=>R.asg (kB false O) O H,Zt⟩ O O O O (tU O ?_)
             refine W.ret ?_
             exact Ends.many (.inr O) (.cons O O O Zt (.cons O O O Zt .nil)) (tot_f (fun h=>by have:=(h.2.2 i hc18).2.2; omega)) (show [(2,true),(3,true)].Nodup by decide)
           · refine W.skip ?_
             refine W.l0 5 [.y 36 _,.y 37 _,.y 38 _,.y 39 _,.y 4 _] [] [] [(4,_),(15,_),(16,_),(17,_)] [(6,.var _)] 43 ⟨mU 4 O O,aU (fU 6 O O),aU (lU 37 O O O O O O O),aU fun _ _ H K=>R.bin (eU K 36 O) (eU K 38 O) O Zt H,aU fun _ _ H K=>R.asg (eU K 39 O) O H,Zt⟩ O O O O (tU O ?_)
             refine W.dropB [] (bx':=[]) O O O (pin_sub hD O) ?_
             refine W.l0 2 [.y 40 _,.y 17 _] [] [] [(4,_),(15,_),(16,_),(17,_)] [] 43 ⟨aU fun _ _ H K=>R.addN (i) (1) (eU K 17 O) (kI 1 O) bU H,mU 40 O O,Zt⟩ O O O O (tU O ?_)
             exact ⟨⟨(i + 1),⟨(by show i + 1 <= ws.length; omega),ext_i hok ⟨k2,k3,by omega⟩⟩⟩,rfl,(by simp only []; omega)⟩
     · obtain rfl : i = ws.length:=by omega
       refine W.exit (W.seq ?_)
       refine W.l0 4 [.y 41 _,.y 42 _,.y 2 _,.y 3 _] [] [] [(2,_),(3,_)] [] 43 ⟨mU 4 O O,aU fun _ _ H K=>R.bin (show ev _ _ (.const (.int .u64 2100000000000000)) = some (.u64 2100000000000000) from O) (eU K 41 O) O Zt H,aU fun _ _ H K=>R.asg (eU K 42 O) O H,aU fun _ _ H _=>R.asg (kB true O) O H,Zt⟩ O O O O (tU O ?_)
       refine W.ret ?_
       exact Ends.many (.inr O) (.cons O O O Zt (.cons O O O Zt .nil)) (tot_t ⟨k1,by omega,hok⟩) (show [(2,true),(3,true)].Nodup by decide)
end Go.Sx

namespace Go.Sx
open Go.Proofs
theorem purse_t (l : List Un) (hl : l.length <= 4096) (hp : purP l) : FnB Try.prog gl 22 [.sl none 35 (l.map coD)] [] (.tup [.map 12,.bool true]) [] [(12,mpK placeK D.u64 (purI l l.length))]:=by
 refine FnB.of (n:=39) (ids:=[12]) Try.func22 rfl rfl rfl (nU rfl) fun C hC hD=>?_
 refine W.seq ?_
 refine W.l0 2 [.y 2 _,.y 3 _] [] [] [(0,_)] [] 39 ⟨aU fun _ _ H _=>R.asg (show ev _ _ (.const (.map none)) = some (.nilmap) from O) O H,aU fun _ _ H _=>R.asg (kB false O) O H,Zt⟩ O O O O (tU O ?_)
 refine W.seq (W.seq ?_)
 refine W.l0 3 [.y 9 _,.y 10 _,.y 11 _] [] [] [(0,_),(11,_)] [] 39 ⟨mU 0 O O,aU fun _ _ H K=>R.lenE (SC.sl (K 9 _ O)) (lN _) H,aU fun _ _ H K=>R.gtrN (l.length) (4096) (eU K 10 O) (kI 4096 O) H,Zt⟩ O O O O (tU O ?_)
 refine W.condF O (dF (by omega)) ?_
 refine W.skip (W.seq ?_)
 refine W.l0 2 [] [] [] [(0,_)] [] 39 Zt O O O O (⟨O,_,R.mkmapK placeK D.u64 O (nU O),⟨O,_,R.asg (gV 12 O) O (nU O),tV [(0,_),(4,_)] [(12,mpK placeK D.u64 _)] 39 O O O ?_⟩⟩)
 refine W.seq (W.seq ?_)
 refine W.l0 3 [.y 13 _,.y 14 _,.y 15 _] [] [] [(4,_),(13,_),(14,_),(15,_)] [(12,mpK placeK D.u64 _)] 39 ⟨mU 0 O O,aU fun _ _ H K=>R.lenE (SC.sl (K 13 _ O)) (lN _) H,aU fun _ _ H _=>R.mov (kI 0 O) O H,Zt⟩ O O O O (tU O ?_)
 refine W.block ?_
 refine W.loop (α:={q__ : Nat // q__ <= l.length}) (fun q__=>⟨39,[(4,.map 12),(13,.sl none 35 (l.map coD)),(14,.int ((l.length : Nat) : Int)),(15,.int ((q__.1 : Nat) : Int))],[(12,mpK placeK D.u64 (purI l q__.1))]⟩) (fun q__=>l.length - q__.1) ⟨(0),bU⟩ O ?_
 rintro ⟨i,hi⟩
 show W _ _ _ _ ⟨39,[(4,.map 12),(13,.sl none 35 (l.map coD)),(14,.int ((l.length : Nat) : Int)),(15,.int ((i : Nat) : Int))],[(12,mpK placeK D.u64 (purI l i))]⟩
 have hi : i <= l.length:=hi
 refine W.seq ?_
 refine W.l0 1 [.y 16 _] [] [] [(4,_),(13,_),(14,_),(15,_),(16,_)] [(12,mpK placeK D.u64 _)] 39 ⟨aU fun _ _ H K=>R.lssN (i) (l.length) (eU K 15 O) (eU K 14 O) H,Zt⟩ O O O O (tU O ?_)
 refine W.seq ?_
 refine W.condD O (fun hc16=>?_) (fun hc16=>?_)
 · refine W.skip (W.seq (W.block (W.seq ?_)))
   refine W.l0 4 [.y 17 _,.y 18 _] [] [] [(4,_),(13,_),(14,_),(15,_),(18,_)] [(12,mpK placeK D.u64 _)] 39 ⟨aU fun _ _ H K=>R.idxN (i) (SC.sl (K 13 _ O)) (evoI (eU K 15 O)) O bU H dU,aU fun _ _ H K=>R.ldE (K 17 _ O) (SC.sl (K 13 _ O)) (map_get! (l:=l) bU) O O O O H,Zt⟩ O O O O (⟨O,_,R.alloc O (nU O),⟨O,_,R.stZ (gU 6 O) (xU 6 O) O (gV 18 O) (by rfl) (by rfl) (by rfl) (by rfl) O,tV [(4,_),(6,_),(13,_),(14,_),(15,_)] [(6,.var _),(12,mpK placeK D.u64 _)] 39 O O O ?_⟩⟩)
   refine W.seq (W.seq ?_)
   refine W.l0 9 [.y 20 _,.y 21 _,.y 22 _,.y 23 _,.y 19 _,.y 24 _,.y 25 _,.y 7 _,.y 8 _] [] [] [(4,_),(6,_),(8,_),(13,_),(14,_),(15,_)] [(6,.var _),(12,mpK placeK D.u64 _)] 39 ⟨mU 4 O O,aU (fU 6 O O),aU (lU 21 O O O O O O O),aU fun _ B H K=>R.lookK (k:=upl l[i]!) (z:=0) place_key (K 20 _ O) (B 12 _ O) (eU K 22 O) O O (fun _=>rfl) H,aU fun _ _ H K=>R.movT (K 23 _ O) O H,aU fun _ _ H K=>R.ext (K 19 _ O) O O H,aU fun _ _ H K=>R.ext (K 19 _ O) O O H,aU fun _ _ H K=>R.asg (eU K 24 O) O H,aU fun _ _ H K=>R.asg (eU K 25 O) O H,Zt⟩ O O O O (tU O ?_)
   refine W.seq ?_
   refine W.l0 6 [.y 26 _,.y 27 _,.y 28 _,.y 29 _,.y 30 _,.y 31 _] [] [] [(4,_),(6,_),(13,_),(14,_),(15,_),(31,_)] [(6,.var _),(12,mpK placeK D.u64 _)] 39 ⟨mU 8 O O,mU 26 O O,aW O O (gF ((hp i hc16).1) O) (fU 6 O O),aW O O (gF ((hp i hc16).1) O) (lU 28 O O O O O O O),aW O O (gF ((hp i hc16).1) O) fun _ _ H K=>R.bin (eU K 29 O) (show ev _ _ (.const (.int .u64 2100000000000000)) = some (.u64 2100000000000000) from O) O Zt H,aU fun _ _ H K=>R.pickF (eU K 27 O) ((hp i hc16).1) (eU K 30 O) O H,Zt⟩ O O O O (tU O ?_)
   refine W.condF O (dF (hp i hc16).2) ?_
   refine W.skip ?_
   refine W.l0 6 [.y 32 _,.y 33 _,.y 34 _,.y 35 _,.y 36 _] [] [] [(4,_),(13,_),(14,_),(15,_),(32,_),(34,_),(36,_)] [(6,.var _),(12,mpK placeK D.u64 _)] 39 ⟨mU 4 O O,aU (fU 6 O O),aU (lU 33 O O O O O O O),aU (fU 6 O O),aU (lU 35 O O O O O O O),Zt⟩ O O O O (⟨O,_,R.mupdN (k:=upl l[i]!) (u:=l[i]!.value) place_key (gU 32 O) (xU 12 O) (gV 34 O) O (gV 36 O) O O ((hp i hc16).1),tV [(4,_),(13,_),(14,_),(15,_)] [(6,.var _),(12,mpK placeK D.u64 _)] 39 O O O ?_⟩)
   refine W.dropBP [12] (bx':=[(12,mpK placeK D.u64 _)]) O O ⟨okMpK (fun _=>rfl) (fun _=>rfl),Zt⟩ (pin_sub hD O) ?_
   refine W.l0 2 [.y 37 _,.y 15 _] [] [] [(4,_),(13,_),(14,_),(15,_)] [(12,mpK placeK D.u64 _)] 39 ⟨aU fun _ _ H K=>R.addN (i) (1) (eU K 15 O) (kI 1 O) bU H,mU 37 O O,Zt⟩ O O O O (tU O ?_)
   exact ⟨⟨(i + 1),bU⟩,rfl,(by simp only []; omega)⟩
 · obtain rfl : i = l.length:=by omega
   refine W.exit (W.seq ?_)
   refine W.l0 3 [.y 38 _,.y 2 _,.y 3 _] [] [] [(2,_),(3,_)] [(12,mpK placeK D.u64 _)] 39 ⟨mU 4 O O,aU fun _ _ H K=>R.asg (eU K 38 O) O H,aU fun _ _ H _=>R.asg (kB true O) O H,Zt⟩ O O O O (tU O ?_)
   refine W.ret ?_
   exact EndsB.many' (.inr O) (.cons O O Zt (.cons O O Zt .nil)) (O) (show [(2,true),(3,true)].Nodup by decide) O O (O) ⟨okPu _ _,Zt⟩ O
theorem purse_f (l : List Un) (hl : l.length <= 4096) (hp : ¬ purP l) : FnB Try.prog gl 22 [.sl none 35 (l.map coD)] [] (.tup [.nilmap,.bool false]) [] []:=by
 refine FnB.of (n:=39) (ids:=[]) Try.func22 rfl rfl rfl (nU rfl) fun C hC hD=>?_
 refine W.seq ?_
 refine W.l0 2 [.y 2 _,.y 3 _] [] [] [(0,_)] [] 39 ⟨aU fun _ _ H _=>R.asg (show ev _ _ (.const (.map none)) = some (.nilmap) from O) O H,aU fun _ _ H _=>R.asg (kB false O) O H,Zt⟩ O O O O (tU O ?_)
 refine W.seq (W.seq ?_)
 refine W.l0 3 [.y 9 _,.y 10 _,.y 11 _] [] [] [(0,_),(11,_)] [] 39 ⟨mU 0 O O,aU fun _ _ H K=>R.lenE (SC.sl (K 9 _ O)) (lN _) H,aU fun _ _ H K=>R.gtrN (l.length) (4096) (eU K 10 O) (kI 4096 O) H,Zt⟩ O O O O (tU O ?_)
 refine W.condF O (dF (by omega)) ?_
 refine W.skip (W.seq ?_)
 refine W.l0 2 [] [] [] [(0,_)] [] 39 Zt O O O O (⟨O,_,R.mkmapK placeK D.u64 O (nU O),⟨O,_,R.asg (gV 12 O) O (nU O),tV [(0,_),(4,_)] [(12,mpK placeK D.u64 _)] 39 O O O ?_⟩⟩)
 refine W.seq (W.seq ?_)
 refine W.l0 3 [.y 13 _,.y 14 _,.y 15 _] [] [] [(4,_),(13,_),(14,_),(15,_)] [(12,mpK placeK D.u64 _)] 39 ⟨mU 0 O O,aU fun _ _ H K=>R.lenE (SC.sl (K 13 _ O)) (lN _) H,aU fun _ _ H _=>R.mov (kI 0 O) O H,Zt⟩ O O O O (tU O ?_)
 refine W.block ?_
 refine W.loop (α:={q__ : Nat // q__ <= l.length /\ ∀ j < q__,purA l j}) (fun q__=>⟨39,[(4,.map 12),(13,.sl none 35 (l.map coD)),(14,.int ((l.length : Nat) : Int)),(15,.int ((q__.1 : Nat) : Int))],[(12,mpK placeK D.u64 (purI l q__.1))]⟩) (fun q__=>l.length - q__.1) ⟨(0),⟨Nat.zero_le _,fun j h=>absurd h (Nat.not_lt_zero _)⟩⟩ O ?_
 rintro ⟨i,⟨hi,hok⟩⟩
 show W _ _ _ _ ⟨39,[(4,.map 12),(13,.sl none 35 (l.map coD)),(14,.int ((l.length : Nat) : Int)),(15,.int ((i : Nat) : Int))],[(12,mpK placeK D.u64 (purI l i))]⟩
 have hi : i <= l.length:=hi
 have hok : ∀ j < i,purA l j:=hok
 refine W.seq ?_
 refine W.l0 1 [.y 16 _] [] [] [(4,_),(13,_),(14,_),(15,_),(16,_)] [(12,mpK placeK D.u64 _)] 39 ⟨aU fun _ _ H K=>R.lssN (i) (l.length) (eU K 15 O) (eU K 14 O) H,Zt⟩ O O O O (tU O ?_)
 refine W.seq ?_
 refine W.condT O (dT (pur_lt hp hi hok)) ?_
 refine W.skip (W.seq (W.block (W.seq ?_)))
 have hc16:=pur_lt hp hi hok
 refine W.l0 4 [.y 17 _,.y 18 _] [] [] [(4,_),(13,_),(14,_),(15,_),(18,_)] [(12,mpK placeK D.u64 _)] 39 ⟨aU fun _ _ H K=>R.idxN (i) (SC.sl (K 13 _ O)) (evoI (eU K 15 O)) O bU H dU,aU fun _ _ H K=>R.ldE (K 17 _ O) (SC.sl (K 13 _ O)) (map_get! (l:=l) bU) O O O O H,Zt⟩ O O O O (⟨O,_,R.alloc O (nU O),⟨O,_,R.stZ (gU 6 O) (xU 6 O) O (gV 18 O) (by rfl) (by rfl) (by rfl) (by rfl) O,tV [(4,_),(6,_),(13,_),(14,_),(15,_)] [(6,.var _),(12,mpK placeK D.u64 _)] 39 O O O ?_⟩⟩)
 refine W.seq (W.seq ?_)
 refine W.l0 9 [.y 20 _,.y 21 _,.y 22 _,.y 23 _,.y 19 _,.y 24 _,.y 25 _,.y 7 _,.y 8 _] [] [] [(4,_),(6,_),(8,_),(13,_),(14,_),(15,_)] [(6,.var _),(12,mpK placeK D.u64 _)] 39 ⟨mU 4 O O,aU (fU 6 O O),aU (lU 21 O O O O O O O),aU fun _ B H K=>R.lookK (k:=upl l[i]!) (z:=0) place_key (K 20 _ O) (B 12 _ O) (eU K 22 O) O O (fun _=>rfl) H,aU fun _ _ H K=>R.movT (K 23 _ O) O H,aU fun _ _ H K=>R.ext (K 19 _ O) O O H,aU fun _ _ H K=>R.ext (K 19 _ O) O O H,aU fun _ _ H K=>R.asg (eU K 24 O) O H,aU fun _ _ H K=>R.asg (eU K 25 O) O H,Zt⟩ O O O O (tU O ?_)
 refine W.seq ?_
 by_cases k1 : kHas (purI l i) (upl l[i]!) = true
 · refine W.l0 6 [.y 26 _,.y 27 _,.x 28,.x 29,.x 30,.y 31 _] [] [] [(4,_),(6,_),(13,_),(14,_),(15,_),(31,_)] [(6,.var _),(12,mpK placeK D.u64 _)] 39 ⟨mU 8 O O,mU 26 O O,aF O O (gT (k1) O),aF O O (gT (k1) O),aF O O (gT (k1) O),aU fun _ _ H K=>R.pickT (eU K 27 O) (k1) (kB true O) O H,Zt⟩ O O O O (tU O ?_)
   refine W.condT O (O) ?_
   refine W.seq ?_
   refine W.dropS (live:=[]) (env':=[]) (bx':=[(6,.var _),(12,mpK placeK D.u64 _)]) (n':=39) O O O ?_
   refine W.dropBP [12] (bx':=[(12,mpK placeK D.u64 _)]) O O ⟨okMpK (fun _=>rfl) (fun _=>rfl),Zt⟩ (pin_sub hD O) ?_
   refine W.l0 2 [.y 2 _,.y 3 _] [] [] [(2,_),(3,_)] [(12,mpK placeK D.u64 _)] 39 ⟨aU fun _ _ H _=>R.asg (show ev _ _ (.const (.map none)) = some (.nilmap) from O) O H,aU fun _ _ H _=>R.asg (kB false O) O H,Zt⟩ O O O O (tU O ?_)
   refine W.ret ?_
   exact EndsB.many' (.inr O) (.cons O O Zt (.cons O O Zt .nil)) (O) (show [(2,true),(3,true)].Nodup by decide) O O (O) Zt O
 · refine W.l0 6 [.y 26 _,.y 27 _,.y 28 _,.y 29 _,.y 30 _,.y 31 _] [] [] [(4,_),(6,_),(13,_),(14,_),(15,_),(31,_)] [(6,.var _),(12,mpK placeK D.u64 _)] 39 ⟨mU 8 O O,mU 26 O O,aW O O (gF (bfalse k1) O) (fU 6 O O),aW O O (gF (bfalse k1) O) (lU 28 O O O O O O O),aW O O (gF (bfalse k1) O) fun _ _ H K=>R.bin (eU K 29 O) (show ev _ _ (.const (.int .u64 2100000000000000)) = some (.u64 2100000000000000) from O) O Zt H,aU fun _ _ H K=>R.pickF (eU K 27 O) (bfalse k1) (eU K 30 O) O H,Zt⟩ O O O O (tU O ?_)
   refine W.cond O (fun hc31=>?_) (fun hc31=>?_)
   · refine W.seq ?_
     refine W.dropS (live:=[]) (env':=[]) (bx':=[(6,.var _),(12,mpK placeK D.u64 _)]) (n':=39) O O O ?_
     refine W.dropBP [12] (bx':=[(12,mpK placeK D.u64 _)]) O O ⟨okMpK (fun _=>rfl) (fun _=>rfl),Zt⟩ (pin_sub hD O) ?_
     refine W.l0 2 [.y 2 _,.y 3 _] [] [] [(2,_),(3,_)] [(12,mpK placeK D.u64 _)] 39 ⟨aU fun _ _ H _=>R.asg (show ev _ _ (.const (.map none)) = some (.nilmap) from O) O H,aU fun _ _ H _=>R.asg (kB false O) O H,Zt⟩ O O O O (tU O ?_)
     refine W.ret ?_
     exact EndsB.many' (.inr O) (.cons O O Zt (.cons O O Zt .nil)) (O) (show [(2,true),(3,true)].Nodup by decide) O O (O) Zt O
   · refine W.skip ?_
     refine W.l0 6 [.y 32 _,.y 33 _,.y 34 _,.y 35 _,.y 36 _] [] [] [(4,_),(13,_),(14,_),(15,_),(32,_),(34,_),(36,_)] [(6,.var _),(12,mpK placeK D.u64 _)] 39 ⟨mU 4 O O,aU (fU 6 O O),aU (lU 33 O O O O O O O),aU (fU 6 O O),aU (lU 35 O O O O O O O),Zt⟩ O O O O (⟨O,_,R.mupdN (k:=upl l[i]!) (u:=l[i]!.value) place_key (gU 32 O) (xU 12 O) (gV 34 O) O (gV 36 O) O O (bfalse k1),tV [(4,_),(13,_),(14,_),(15,_)] [(6,.var _),(12,mpK placeK D.u64 _)] 39 O O O ?_⟩)
     refine W.dropBP [12] (bx':=[(12,mpK placeK D.u64 _)]) O O ⟨okMpK (fun _=>rfl) (fun _=>rfl),Zt⟩ (pin_sub hD O) ?_
     refine W.l0 2 [.y 37 _,.y 15 _] [] [] [(4,_),(13,_),(14,_),(15,_)] [(12,mpK placeK D.u64 _)] 39 ⟨aU fun _ _ H K=>R.addN (i) (1) (eU K 15 O) (kI 1 O) bU H,mU 37 O O,Zt⟩ O O O O (tU O ?_)
     exact ⟨⟨(i + 1),⟨(by show i + 1 <= l.length; have:=pur_lt hp hi hok; omega),ext_i hok ⟨bfalse k1,of_decide_eq_false hc31⟩⟩⟩,rfl,(by simp only []; omega)⟩
end Go.Sx

namespace Go.Sx
open Go.Proofs
theorem choose1_ok (ins outs : Int) (rate : UInt64) : FnB Try.prog gl 23 [.int ins,.int outs,.ptr 0 0 []] [(0,.var (.u64 rate))] (.u64 (feeV ins outs rate)) [(0,.var (.u64 rate))] []:=by
 refine FnB.of (n:=16) (ids:=[0]) Try.func23 rfl rfl rfl (Nat.le_of_ble_eq_true rfl) fun C hC hD=>?_
 refine W.seq ?_
 refine W.line (n:=1) (by decide) (its:=[⟨5,_,true⟩]) (ks:=[]) (kk:=[]) (live:=[0,1,2]) (env':=[(0,_),(1,_),(2,_)])
  (⟨Nat.le_of_ble_eq_true rfl,rfl,
   ⟨⟨rfl,rfl,fun _ τ hb ht hτ=>R.asg (show ev _ _ (.const (.int .u64 0)) = some (.u64 0) from rfl) rfl ht⟩,
   trivial⟩,rfl,rfl,rfl⟩)
  rfl (bx':=[(0,.var _)]) rfl (n':=16) rfl (⟨[0,1,2],[(0,_),(1,_),(2,_)],[(0,.var _)],16,rfl,rfl,rfl, ?_⟩)
 refine W.seq ?_
 refine W.line (n:=9) (by decide) (its:=[⟨9,_,true⟩,⟨10,_,true⟩,⟨11,_,true⟩,⟨12,_,true⟩,⟨8,_,true⟩,⟨13,_,true⟩,⟨14,_,true⟩,⟨6,_,true⟩,⟨7,_,true⟩]) (ks:=[]) (kk:=[]) (live:=[6]) (env':=[(6,_)])
  (⟨Nat.le_of_ble_eq_true rfl,rfl,
   ⟨⟨rfl,rfl,fun _ τ hb ht hτ=>R.mov (evt (hτ 0 _ rfl)) rfl ht⟩,
   ⟨⟨rfl,rfl,fun _ τ hb ht hτ=>R.mov (evt (hτ 1 _ rfl)) rfl ht⟩,
   ⟨⟨rfl,rfl,fun _ τ hb ht hτ=>R.ldP (hτ 2 _ rfl) (hb 0 _ rfl) rfl rfl rfl rfl ht⟩,
   ⟨⟨rfl,rfl,fun _ τ hb ht hτ=>R.callG hC (fee_ok ins outs rate) (Bors.cons (Bor.pur (evt (hτ 9 _ rfl)) rfl rfl) (Bors.cons (Bor.pur (evt (hτ 10 _ rfl)) rfl rfl) (Bors.cons (Bor.pur (evt (hτ 11 _ rfl)) rfl rfl) Bors.nil))) (FrsR.two (.u64 _) (.int _)) ht⟩,
   ⟨⟨rfl,rfl,fun _ τ hb ht hτ=>R.movT (hτ 12 _ rfl) rfl ht⟩,
   ⟨⟨rfl,rfl,fun _ τ hb ht hτ=>R.ext (hτ 8 _ rfl) rfl rfl ht⟩,
   ⟨⟨rfl,rfl,fun _ τ hb ht hτ=>R.ext (hτ 8 _ rfl) rfl rfl ht⟩,
   ⟨⟨rfl,rfl,fun _ τ hb ht hτ=>R.asg (evt (hτ 13 _ rfl)) rfl ht⟩,
   ⟨⟨rfl,rfl,fun _ τ hb ht hτ=>R.asg (evt (hτ 14 _ rfl)) rfl ht⟩,
   trivial⟩⟩⟩⟩⟩⟩⟩⟩⟩,rfl,rfl,rfl⟩)
  rfl (bx':=[(0,.var _)]) rfl (n':=16) rfl (⟨[6],[(6,_)],[(0,.var _)],16,rfl,rfl,rfl, ?_⟩)
 refine W.seq ?_
 refine W.line (n:=2) (by decide) (its:=[⟨15,_,true⟩,⟨5,_,true⟩]) (ks:=[]) (kk:=[]) (live:=[5]) (env':=[(5,_)])
  (⟨Nat.le_of_ble_eq_true rfl,rfl,
   ⟨⟨rfl,rfl,fun _ τ hb ht hτ=>R.mov (evt (hτ 6 _ rfl)) rfl ht⟩,
   ⟨⟨rfl,rfl,fun _ τ hb ht hτ=>R.asg (evt (hτ 15 _ rfl)) rfl ht⟩,
   trivial⟩⟩,rfl,rfl,rfl⟩)
  rfl (bx':=[(0,.var _)]) rfl (n':=16) rfl (⟨[5],[(5,_)],[(0,.var _)],16,rfl,rfl,rfl, ?_⟩)
 refine W.ret ?_
 exact EndsB.one' (.inr rfl) rfl (rfl) rfl trivial rfl rfl (rfl) ⟨rfl,trivial⟩ rfl
end Go.Sx

namespace Go.Sx
open Go.Proofs
theorem szH {o : Option Nat} {h : Hs} (e : o = some 32) : o = some (hashD h).sz:=e.trans (congrArg some (show 32 = (hashD h).sz from rfl))
def coinS (n : UInt8) (v : UInt64) : Un:=⟨n :: List.replicate 31 0,0,v,1⟩
def fewP (ws : List Wnt) : Prop:=ws.length <= 80 /\ ∀ i < ws.length,ws[i]!.script.length <= 1100
instance (ws : List Wnt) : Decidable (fewP ws):=by unfold fewP; infer_instance
def wokS (w : Wnt) : Prop:=¬ w.value < 1 /\ ¬ 2100000000000000 < w.value /\ w.script.length <= 1000
instance (w : Wnt) : Decidable (wokS w):=by unfold wokS; infer_instance
def wanN (ws : List Wnt) : Nat:=min ws.length 65
def wsumI (ws : List Wnt) : Nat -> UInt64
 | 0=>0
 | i + 1=>wsumI ws i + ws[i]!.value
def wanF (ws : List Wnt) : Prop:=∀ j < wanN ws,wokS ws[j]!
instance (ws : List Wnt) : Decidable (wanF ws):=by unfold wanF; infer_instance
def wanV (ws : List Wnt) : UInt64:=if wanF ws then wsumI ws (wanN ws) else 0
def wanP (ws : List Wnt) : Prop:=wanF ws /\ 1 <= ws.length /\ ws.length <= 64 /\ wsumI ws (wanN ws) <= 2100000000000000
instance (ws : List Wnt) : Decidable (wanP ws):=by unfold wanP; infer_instance
theorem purI_iff {l : List Un} {i : Nat} {p : Plc} : kHas (purI l i) p = true ↔ ∃ j < i,upl l[j]! = p:=by
 induction i with
 | zero=>simp [purI,kHas]
 | succ i ih=>
  have e : kHas (purI l (i + 1)) p = (kHas (purI l i) p || decide (upl l[i]! = p)):=by
   simp only [purI,kHas,List.any_append,List.any_cons,List.any_nil,Bool.or_false]
   rfl
  rw [e,Bool.or_eq_true,ih,decide_eq_true_iff]
  constructor
  · rintro (⟨j,hj,h⟩ | h)
    · exact ⟨j,by omega,h⟩
    · exact ⟨i,by omega,h⟩
  · rintro ⟨j,hj,h⟩
    rcases Nat.lt_succ_iff_lt_or_eq.1 hj with h1 | rfl
    · exact .inl ⟨j,h1,h⟩
    · exact .inr h
theorem purI_yes {l : List Un} {i j : Nat} (hj : j < i) (h : upl l[j]! = upl l[i]!) : kHas (purI l i) (upl l[i]!) = true:=purI_iff.2 ⟨j,hj,h⟩
theorem purI_no {l : List Un} {i : Nat} (h : ∀ k < i,upl l[k]! ≠ upl l[i]!) : kHas (purI l i) (upl l[i]!) = false:=by
 cases hh : kHas (purI l i) (upl l[i]!) with
 | false=>rfl
 | true=>obtain ⟨j,hj,he⟩:=purI_iff.1 hh; exact absurd he (h j hj)
theorem eqv_un (a b : Un) : EqV Try.prog 4 67 (coD a) (coD b) (a == b):=by
 have h1 : ∀ x y : Int,EqV Try.prog 3 3 (.int x) (.int y) (x == y):=fun x y=>(EqV.int Try.underlying3 x y).up 2
 have h2 : ∀ x y : UInt64,EqV Try.prog 3 25 (.u64 x) (.u64 y) (x == y):=fun x y=>(EqV.u64 Try.underlying25 x y).up 2
 have:=EqV.struct (k:=3) Try.underlying67 (by kernel_rfl) (.cons rfl rfl inferInstance rfl rfl rfl rfl (eqv_place (upl a) (upl b)) (.cons rfl rfl inferInstance rfl rfl rfl rfl (h2 a.value b.value) (.cons rfl rfl inferInstance rfl rfl rfl rfl (h1 a.ht b.ht) .nil)))
 rw [Bool.and_true] at this
 have e : (a == b) = (upl a == upl b && (a.value == b.value && a.ht == b.ht)):=by
  rw [Bool.eq_iff_iff]
  obtain ⟨x1,x2,x3,x4⟩:=a
  obtain ⟨y1,y2,y3,y4⟩:=b
  simp [upl,and_assoc]
 rw [e]
 exact this
theorem take_s {α : Type} [Inhabited α] {l : List α} {i : Nat} (h : i < l.length) : l.take (i + 1) = l.take i ++ [l[i]!]:=by
 rw [List.take_succ_eq_append_getElem h,getElem!_pos l i h]
end Go.Sx

namespace Go.Sx
open Go.Proofs
theorem sclone_ok (b : List UInt8) (hb0 : b.length <= 1000000000) : Fn Try.prog gl 32 [.sl none 1 (b.map D.u8)] (.sl (some 5) 1 (b.map D.u8)):=by
 refine Fn.of (n:=8) Try.func32 rfl rfl rfl (nU rfl) fun C hC hD=>?_
 refine W.seq ?_
 refine W.l0 1 [.y 2 _] [] [] [(0,_)] [] 8 ⟨aU fun _ _ H _=>R.asg (kN O) O H,Zt⟩ O O O O (tU O ?_)
 refine W.seq (W.seq ?_)
 refine W.region (WL.cons O (R.mov (gV 0 O) O (nU O)) (WL.nilq (SC.sl (gU 3 O)) (nU O) (fun b__ hb__=>WL.nil ?_)))
 show W _ _ _ _ _
 refine W.dropS (live:=[0,4]) (env':=[(0,_),(4,_)]) (bx':=[]) (n':=8) O O O ?_
 refine W.cond O (fun hc4=>?_) (fun hc4=>?_)
 · refine W.seq ?_
   refine W.l0 1 [.y 2 _] [] [] [(2,_)] [] 8 ⟨aU fun _ _ H _=>R.asg (kN O) O H,Zt⟩ O O O O (tU O ?_)
   refine W.asOwn (s:=2) 5 1 O ?_
   refine W.ret ?_
   exact Ends.one' (.inr rfl) rfl (by obtain rfl:=nil_of hb__ hc4; rfl) rfl rfl Zt
 · refine W.skip (W.seq ?_)
   refine W.l0 4 [.y 5 _,.y 6 _,.y 7 _,.y 2 _] [(2,5),(3,7)] [(2,5),(3,7)] [(2,_)] [] 8 ⟨aU fun _ _ H _=>R.bslE .nil Zt O H dU,mU 0 O O,aU fun _ _ H K=>R.appE (Or.inl O) (K 5 _ O) (SrcO.sc (SC.sl (K 6 _ O)) (pur_map (fun _=>rfl))) (List.nil_append _) bU H dU dU,aU fun _ _ H K=>R.asgO (K 7 _ O) O H dU,Zt⟩ O O O O (tU O ?_)
   refine W.ret ?_
   exact Ends.one' (.inr O) O (O) O O Zt
theorem uclone_ok (b : List Un) (hb0 : b.length <= 1000000) : Fn Try.prog gl 24 [.sl none 35 (b.map coD)] (.sl (some 67) 35 (b.map coD)):=by
 refine Fn.of (n:=8) Try.func24 rfl rfl rfl (nU rfl) fun C hC hD=>?_
 refine W.seq ?_
 refine W.l0 1 [.y 2 _] [] [] [(0,_)] [] 8 ⟨aU fun _ _ H _=>R.asg (kN O) O H,Zt⟩ O O O O (tU O ?_)
 refine W.seq (W.seq ?_)
 refine W.region (WL.cons O (R.mov (gV 0 O) O (nU O)) (WL.nilq (SC.sl (gU 3 O)) (nU O) (fun b__ hb__=>WL.nil ?_)))
 show W _ _ _ _ _
 refine W.dropS (live:=[0,4]) (env':=[(0,_),(4,_)]) (bx':=[]) (n':=8) O O O ?_
 refine W.cond O (fun hc4=>?_) (fun hc4=>?_)
 · refine W.seq ?_
   refine W.l0 1 [.y 2 _] [] [] [(2,_)] [] 8 ⟨aU fun _ _ H _=>R.asg (kN O) O H,Zt⟩ O O O O (tU O ?_)
   refine W.asOwn (s:=2) 67 35 O ?_
   refine W.ret ?_
   exact Ends.one' (.inr rfl) rfl (by obtain rfl:=nil_of hb__ hc4; rfl) rfl rfl Zt
 · refine W.skip (W.seq ?_)
   refine W.l0 4 [.y 5 _,.y 6 _,.y 7 _,.y 2 _] [(2,5),(3,7)] [(2,5),(3,7)] [(2,_)] [] 8 ⟨aU fun _ _ H _=>R.bslE .nil Zt O H dU,mU 0 O O,aU fun _ _ H K=>R.appE (Or.inl O) (K 5 _ O) (SrcO.sc (SC.sl (K 6 _ O)) (pur_map (fun _=>rfl))) (List.nil_append _) bU H dU dU,aU fun _ _ H K=>R.asgO (K 7 _ O) O H dU,Zt⟩ O O O O (tU O ?_)
   refine W.ret ?_
   exact Ends.one' (.inr O) O (O) O O Zt
theorem clip_ok (b : List Un) : Fn Try.prog gl 27 [.sl none 35 (b.map coD)] (.sl none 35 (b.map coD)):=by
 refine Fn.of (n:=9) Try.func27 rfl rfl rfl (nU rfl) fun C hC hD=>?_
 refine W.seq ?_
 refine W.l0 1 [.y 2 _] [] [] [(0,_)] [] 9 ⟨aU fun _ _ H _=>R.asg (kN O) O H,Zt⟩ O O O O (tU O ?_)
 refine W.seq ?_
 refine W.l0 7 [.y 3 _,.y 4 _,.y 5 _,.y 6 _,.y 7 _,.y 8 _,.y 2 _] [] [] [(2,_)] [] 9 ⟨mU 0 O O,mU 0 O O,aU fun _ _ H K=>R.lenE (SC.sl (K 4 _ O)) (lN _) H,mU 0 O O,aU fun _ _ H K=>R.lenE (SC.sl (K 6 _ O)) (lN _) H,aU fun _ _ H K=>R.slM (eU K 3 O) (eU K 5 O) (eU K 7 O) (by simp) (by simp) H,aU fun _ _ H K=>R.asg (eU K 8 O) O H,Zt⟩ O O O O (tU O ?_)
 refine W.ret ?_
 exact Ends.one' (.inr O) O (O) O O Zt
theorem coin_ok (n : UInt8) (v : UInt64) : Fn Try.prog gl 20 [.u8 n,.u64 v] (coD (coinS n v)):=by
 refine Fn.of (n:=10) Try.func20 rfl rfl rfl (nU rfl) fun C hC hD=>?_
 refine W.seq ?_
 refine W.l0 1 [] [] [] [(0,_),(1,_)] [] 10 Zt O O O O (⟨O,_,R.alloc O (nU O),tV [(0,_),(1,_),(4,_)] [(4,.var _)] 10 O O O ?_⟩)
 refine W.seq ?_
 refine W.l0 6 [.y 5 _,.y 6 _,.y 7 _,.y 8 _,.y 9 _] [] [] [(4,_),(9,_)] [(4,.var _)] 10 ⟨mU 0 O O,aU fun _ _ H K=>R.bldAP (z:=1) (l2:=((n :: List.replicate 31 0).map D.u8)) (.cons (eU K 5 O) (.nil O)) ⟨⟨_,(eU K 5 O),O,O,O,O⟩,Zt⟩ (O) H,aU fun _ _ H K=>R.bldSE (l:=[.arr 32 1 ((List.replicate 32 0).map D.u8),.u32 0]) (l':=[_,_]) (.cons (eU K 6 O) (.nil O)) ⟨⟨_,(eU K 6 O),O,O,szH O⟩,Zt⟩ H,mU 1 O O,aU fun _ _ H K=>R.bldSE (l:=[.agg [.arr 32 1 ((List.replicate 32 0).map D.u8),.u32 0],.u64 0,.int 0]) (l':=[_,_,_]) (.cons (eU K 7 O) (.cons (eU K 8 O) (.cons (kI 1 O) (.nil O)))) ⟨⟨_,(eU K 7 O),O,O,O⟩,⟨⟨_,(eU K 8 O),O,O,O⟩,⟨⟨_,(kI 1 O),O,O,O⟩,Zt⟩⟩⟩ H,Zt⟩ O O O O (⟨O,_,R.stZ (gU 4 O) (xU 4 O) O (gV 9 O) (by rfl) (by rfl) (by rfl) (by rfl) O,tV [(4,_)] [(4,.var _)] 10 O O O ?_⟩)
 refine W.ret ?_
 exact Ends.one' (.inr O) O (O) O O (show LdT _ 67 35 true from inferInstance)
end Go.Sx

namespace Go.Sx
open Go.Proofs
end Go.Sx

namespace Go.Sx
open Go.Proofs
end Go.Sx

namespace Go.Sx
open Go.Proofs
theorem brw_coD (c : Un) : (coD c).brw = coD c:=by simp only [coD,D.brw,brws_eq,List.map_cons,List.map_nil,brw_hash]
theorem brw_co (o : Option Nat) (l : List Un) : (D.sl o 35 (l.map coD)).brw = .sl none 35 (l.map coD):=by
 simp only [D.brw,brws_eq]; rw [brw_map brw_coD]
theorem frs_coD (c : Un) : Frs (coD c):=.agg _ fun x hx=>by
 simp only [List.mem_cons,List.not_mem_nil,or_false] at hx
 rcases hx with rfl | rfl | rfl
 · exact .agg _ fun x hx=>by
    simp only [List.mem_cons,List.not_mem_nil,or_false] at hx
    rcases hx with rfl | rfl
    · exact .arr _ _ _ (frs_map fun _=>.u8 _)
    · exact .u32 _
 · exact .u64 _
 · exact .int _
theorem frs_co (e : Nat) (l : List Un) : Frs (.sl (some e) 35 (l.map coD)):=.sl _ _ _ (frs_map frs_coD)
def sumU (s : List Un) : Nat -> UInt64
 | 0=>0
 | i + 1=>sumU s i + s[i]!.value
def chP (l : List Un) (ws : List Wnt) (r : UInt64) : Prop:=totP ws /\ purP l /\ ¬ 1000000 < r
instance (l : List Un) (ws : List Wnt) (r : UInt64) : Decidable (chP l ws r):=by unfold chP; infer_instance
def chL (l : List Un) (ws : List Wnt) (r : UInt64) (i : Nat) : Prop:=sumU (sortU l) (i + 1) < totV ws + feeV ((i + 1 : Nat) : Int) ((ws.length : Nat) : Int) r
instance (l : List Un) (ws : List Wnt) (r : UInt64) (i : Nat) : Decidable (chL l ws r i):=by unfold chL; infer_instance
def chM (ws : List Wnt) (r : UInt64) (i : Nat) : UInt64:=totV ws + feeV ((i + 1 : Nat) : Int) ((ws.length + 1 : Nat) : Int) r
def chF (l : List Un) (ws : List Wnt) (r : UInt64) : Option Nat:=(List.range l.length).find? fun i=>decide (¬ chL l ws r i)
def chC (l : List Un) (ws : List Wnt) (r : UInt64) : List Un:=if chP l ws r then (match chF l ws r with | some i=>(sortU l).take (i + 1) | none=>[]) else []
def chV (l : List Un) (ws : List Wnt) (r : UInt64) : UInt64:=if chP l ws r then (match chF l ws r with | some i=>(if chM ws r i + 546 <= sumU (sortU l) (i + 1) then sumU (sortU l) (i + 1) - chM ws r i else 0) | none=>0) else 0
def chE (l : List Un) (ws : List Wnt) (r : UInt64) : Int:=if chP l ws r then (match chF l ws r with | some _=>0 | none=>14) else 1
theorem chF_none {l : List Un} {ws : List Wnt} {r : UInt64} (h : ∀ j < l.length,chL l ws r j) : chF l ws r = none:=by
 unfold chF
 rw [List.find?_eq_none]
 intro j hj
 simpa using h j (List.mem_range.1 hj)
theorem chF_some {l : List Un} {ws : List Wnt} {r : UInt64} {i : Nat} (hi : i < l.length) (h : ∀ j < i,chL l ws r j) (hs : ¬ chL l ws r i) : chF l ws r = some i:=by
 unfold chF
 rw [List.find?_eq_some_iff_append]
 refine ⟨by simpa using hs,List.range i,(List.range (l.length - i - 1)).map (· + (i + 1)), ?_,fun j hj=>by simpa using h j (List.mem_range.1 hj)⟩
 refine List.ext_getElem (by simp; omega) fun k h1 h2=>?_
 simp only [List.getElem_range,List.getElem_append,List.getElem_cons,List.getElem_map,List.length_range]
 split
 · rfl
 · split <;> omega
theorem ch_bad {l : List Un} {ws : List Wnt} {r : UInt64} (h : ¬ chP l ws r) : [D.sl none 35 (([] : List Un).map coD),.u64 0,.int 1] = [.sl none 35 ((chC l ws r).map coD),.u64 (chV l ws r),.int (chE l ws r)]:=by
 rw [chC,chV,chE,if_neg h,if_neg h,if_neg h]
theorem ch_none {l : List Un} {ws : List Wnt} {r : UInt64} (h : chP l ws r) (hn : ∀ j < l.length,chL l ws r j) : [D.sl none 35 (([] : List Un).map coD),.u64 0,.int 14] = [.sl none 35 ((chC l ws r).map coD),.u64 (chV l ws r),.int (chE l ws r)]:=by
 rw [chC,chV,chE,if_pos h,if_pos h,if_pos h,chF_none hn]
theorem ch_y {l : List Un} {ws : List Wnt} {r : UInt64} {i : Nat} (h : chP l ws r) (hi : i < l.length) (hn : ∀ j < i,chL l ws r j) (hs : ¬ chL l ws r i) (hc : chM ws r i + 546 <= sumU (sortU l) (i + 1)) :
 [D.sl none 35 ((((sortU l).drop 0).take (i + 1)).map coD),.u64 (sumU (sortU l) (i + 1) - chM ws r i),.int 0] = [.sl none 35 ((chC l ws r).map coD),.u64 (chV l ws r),.int (chE l ws r)]:=by
 rw [chC,chV,chE,if_pos h,if_pos h,if_pos h,chF_some hi hn hs]
 simp only [if_pos hc,List.drop_zero]
theorem ch_n {l : List Un} {ws : List Wnt} {r : UInt64} {i : Nat} (h : chP l ws r) (hi : i < l.length) (hn : ∀ j < i,chL l ws r j) (hs : ¬ chL l ws r i) (hc : ¬ chM ws r i + 546 <= sumU (sortU l) (i + 1)) :
 [D.sl none 35 ((((sortU l).drop 0).take (i + 1)).map coD),.u64 0,.int 0] = [.sl none 35 ((chC l ws r).map coD),.u64 (chV l ws r),.int (chE l ws r)]:=by
 rw [chC,chV,chE,if_pos h,if_pos h,if_pos h,chF_some hi hn hs]
 simp only [if_neg hc,List.drop_zero]
end Go.Sx

namespace Go.Sx
open Go.Proofs
theorem choose_ok (l : List Un) (ws : List Wnt) (r : UInt64) (hl : l.length <= 4096) (hx : hs32 l) (hw : ws.length <= 1000000) : Fn Try.prog gl 11 [.sl none 35 (l.map coD),.sl none 2 (ws.map wntD),.u64 r] (.tup [.sl none 35 ((chC l ws r).map coD),.u64 (chV l ws r),.int (chE l ws r)]):=by
 refine Fn.of (n:=88) Try.func11 rfl rfl rfl (nU rfl) fun C hC hD=>?_
 have hsl:=sortU_len l
 refine W.seq ?_
 refine W.l0 4 [] [] [] [(0,_),(1,_),(2,_)] [] 88 Zt O O O O (⟨O,_,R.box (gV 2 O) O O (nU O),⟨O,_,R.asg (kN O) O (nU O),⟨O,_,R.asg (show ev _ _ (.const (.int .u64 0)) = some (.u64 0) from O) O (nU O),⟨O,_,R.asg (kI 0 O) O (nU O),tV [(0,_),(1,_),(5,_),(7,_)] [(5,.var _)] 88 O O O ?_⟩⟩⟩⟩)
 refine W.seq ?_
 refine W.l0 7 [.y 21 _,.y 22 _,.y 20 _,.y 23 _,.y 24 _,.y 9 _,.y 10 _] [] [] [(0,_),(1,_),(5,_),(7,_),(9,_),(10,_)] [(5,.var _)] 88 ⟨mU 1 O O,aU fun _ _ H K=>R.callG hC (total_ok ws hw) (Bc (Bp (eU K 21 O) O O) Bn) (FrsR.two (.u64 _) (.bool _)) H,aU fun _ _ H K=>R.movT (K 22 _ O) O H,aU fun _ _ H K=>R.ext (K 20 _ O) O O H,aU fun _ _ H K=>R.ext (K 20 _ O) O O H,aU fun _ _ H K=>R.asg (eU K 23 O) O H,aU fun _ _ H K=>R.asg (eU K 24 O) O H,Zt⟩ O O O O (tU O ?_)
 refine W.seq ?_
 by_cases hp : purP l
 · refine W.l0 7 [.y 26 _] [] [] [(0,_),(1,_),(5,_),(7,_),(9,_),(10,_),(26,_)] [(5,.var _)] 88 ⟨mU 0 O O,Zt⟩ O O O O (⟨O,_,R.callB [(12,27)] hC (purse_t l hl hp) (EvB.cons (gV 26 O) O O O EvB.nil) O Zt Zt O (renPu _ _ _ _) O O O O (nU O),⟨O,_,R.movT (gU 27 O) O (nU O),⟨O,_,R.ext (gU 25 O) O O (nU O),⟨O,_,R.ext (gU 25 O) O O (nU O),⟨O,_,R.asg (gV 28 O) O (nU O),⟨O,_,R.asg (gV 29 O) O (nU O),tV [(0,_),(1,_),(5,_),(7,_),(9,_),(10,_),(12,_)] [(27,mpK placeK D.u64 _),(5,.var _)] 88 O O O ?_⟩⟩⟩⟩⟩⟩)
   refine W.seq (W.seq ?_)
   by_cases k1 : ¬ totB ws = true
   · refine W.l0 10 [.y 30 _,.y 31 _,.y 32 _,.x 33,.x 34,.y 35 _,.y 36 _,.x 37,.x 38,.y 39 _] [] [] [(0,_),(1,_),(5,_),(7,_),(9,_),(39,_)] [(27,mpK placeK D.u64 _),(5,.var _)] 88 ⟨mU 10 O O,aU fun _ _ H K=>R.un (eU K 30 O) O H,mU 31 O O,aF O O (gT (by simpa using k1) O),aF O O (gT (by simpa using k1) O),aU fun _ _ H K=>R.pickT (eU K 32 O) (by simpa using k1) (kB true O) O H,mU 35 O O,aF O O (gT (O) O),aF O O (gT (O) O),aU fun _ _ H K=>R.pickT (eU K 36 O) (O) (kB true O) O H,Zt⟩ O O O O (tU O ?_)
     refine W.condT O (O) ?_
     refine W.seq ?_
     refine W.l0 3 [.y 6 _,.y 7 _,.y 8 _] [] [] [(6,_),(7,_),(8,_)] [(27,mpK placeK D.u64 _),(5,.var _)] 88 ⟨aU fun _ _ H _=>R.asg (kN O) O H,aU fun _ _ H _=>R.asg (show ev _ _ (.const (.int .u64 0)) = some (.u64 0) from O) O H,aU fun _ _ H _=>R.asg (kI 1 O) O H,Zt⟩ O O O O (tU O ?_)
     refine W.wkS (s:=6) (d':=.sl none 35 (([] : List Un).map coD)) O O O (.nils _ _) ?_
     refine W.ret ?_
     exact Ends.many (.inr O) (.cons O O O Zt (.cons O O O Zt (.cons O O O Zt .nil))) (ch_bad (fun h=>k1 (dT h.1))) (show [(6,true),(7,true),(8,true)].Nodup by decide)
   · refine W.l0 10 [.y 30 _,.y 31 _,.y 32 _,.y 33 _,.y 34 _,.y 35 _,.y 36 _,.y 37 _,.y 38 _,.y 39 _] [] [] [(0,_),(1,_),(5,_),(7,_),(9,_),(39,_)] [(27,mpK placeK D.u64 _),(5,.var _)] 88 ⟨mU 10 O O,aU fun _ _ H K=>R.un (eU K 30 O) O H,mU 31 O O,aW O O (gF (by simpa using k1) O) fun _ _ H K=>R.mov (eU K 12 O) O H,aW O O (gF (by simpa using k1) O) fun _ _ H K=>R.un (eU K 33 O) O H,aU fun _ _ H K=>R.pickF (eU K 32 O) (by simpa using k1) (eU K 34 O) O H,mU 35 O O,aW O O (gF (O) O) (lU 5 O O O O O O O),aW O O (gF (O) O) fun _ _ H K=>R.bin (eU K 37 O) (show ev _ _ (.const (.int .u64 1000000)) = some (.u64 1000000) from O) O Zt H,aU fun _ _ H K=>R.pickF (eU K 36 O) (O) (eU K 38 O) O H,Zt⟩ O O O O (tU O ?_)
     refine W.cond O (fun hc39=>?_) (fun hc39=>?_)
     · refine W.seq ?_
       refine W.l0 3 [.y 6 _,.y 7 _,.y 8 _] [] [] [(6,_),(7,_),(8,_)] [(27,mpK placeK D.u64 _),(5,.var _)] 88 ⟨aU fun _ _ H _=>R.asg (kN O) O H,aU fun _ _ H _=>R.asg (show ev _ _ (.const (.int .u64 0)) = some (.u64 0) from O) O H,aU fun _ _ H _=>R.asg (kI 1 O) O H,Zt⟩ O O O O (tU O ?_)
       refine W.wkS (s:=6) (d':=.sl none 35 (([] : List Un).map coD)) O O O (.nils _ _) ?_
       refine W.ret ?_
       exact Ends.many (.inr O) (.cons O O O Zt (.cons O O O Zt (.cons O O O Zt .nil))) (ch_bad (fun h=>h.2.2 (of_decide_eq_true hc39))) (show [(6,true),(7,true),(8,true)].Nodup by decide)
     · refine W.skip (W.seq ?_)
       refine W.l0 2 [.y 40 _,.y 13 _] [] [] [(0,_),(1,_),(7,_),(9,_),(13,_)] [(27,mpK placeK D.u64 _),(5,.var _)] 88 ⟨aU fun _ _ H K=>R.mkfn1 (eU K 5 O) O O H,aU fun _ _ H K=>R.asg (eU K 40 O) O H,Zt⟩ O O O O (tU O ?_)
       refine W.seq ?_
       refine W.l0 3 [.y 41 _,.y 42 _,.y 14 _] [(2,42)] [(2,42)] [(1,_),(7,_),(9,_),(13,_),(14,_)] [(27,mpK placeK D.u64 _),(5,.var _)] 88 ⟨mU 0 O O,aU fun _ _ H K=>R.callG hC (uclone_ok l (by omega)) (Bc (Bp (eU K 41 O) O O) Bn) (FrsR.one (frs_co _ _)) H,aU fun _ _ H K=>R.asgO (K 42 _ O) O H dU,Zt⟩ O O O O (tU O ?_)
       refine W.seq ?_
       refine W.l0 2 [.y 43 _] [] [] [(1,_),(7,_),(9,_),(13,_),(14,_),(43,_)] [(27,mpK placeK D.u64 _),(5,.var _)] 88 ⟨aU fun _ _ H K=>R.al (K 14 _ O) H dU,Zt⟩ O O O O (⟨O,_,R.srtU l hx (by omega) (Or.inr (gU 43 O)) (gU 14 O) (nU O),tV [(1,_),(7,_),(9,_),(13,_),(14,_)] [(27,mpK placeK D.u64 _),(5,.var _)] 88 O O O ?_⟩)
       refine W.seq ?_
       refine W.frzS (s:=14) (d':=.sl none 35 ((sortU l).map coD)) O O (brw_co _ _) ?_
       refine W.l0 1 [.y 15 _] [] [] [(1,_),(7,_),(9,_),(13,_),(14,_),(15,_)] [(27,mpK placeK D.u64 _),(5,.var _)] 88 ⟨aU fun _ _ H _=>R.asg (show ev _ _ (.const (.int .u64 0)) = some (.u64 0) from O) O H,Zt⟩ O O O O (tU O ?_)
       refine W.seq (W.seq ?_)
       refine W.l0 3 [.y 45 _,.y 46 _,.y 47 _] [] [] [(1,_),(7,_),(9,_),(13,_),(14,_),(15,_),(45,_),(46,_),(47,_)] [(27,mpK placeK D.u64 _),(5,.var _)] 88 ⟨mU 14 O O,aU fun _ _ H K=>R.lenE (SC.sl (K 45 _ O)) (lN _) H,aU fun _ _ H _=>R.mov (kI 0 O) O H,Zt⟩ O O O O (tU O ?_)
       refine W.block ?_
       refine W.loop (α:={q__ : Nat // q__ <= l.length /\ ∀ j < q__,chL l ws r j}) (fun q__=>⟨88,[(1,.sl none 2 (ws.map wntD)),(7,.u64 0),(9,.u64 (totV ws)),(13,.fn 23 [.ptr 5 0 []]),(14,.sl none 35 ((sortU l).map coD)),(15,.u64 (sumU (sortU l) q__.1)),(45,.sl none 35 ((sortU l).map coD)),(46,.int (((sortU l).length : Nat) : Int)),(47,.int ((q__.1 : Nat) : Int))],[(27,mpK placeK D.u64 (purI l l.length)),(5,.var (.u64 r))]⟩) (fun q__=>l.length - q__.1) ⟨(0),⟨Nat.zero_le _,fun j h=>absurd h (Nat.not_lt_zero _)⟩⟩ O ?_
       rintro ⟨i,⟨hi,hno⟩⟩
       show W _ _ _ _ ⟨88,[(1,.sl none 2 (ws.map wntD)),(7,.u64 0),(9,.u64 (totV ws)),(13,.fn 23 [.ptr 5 0 []]),(14,.sl none 35 ((sortU l).map coD)),(15,.u64 (sumU (sortU l) i)),(45,.sl none 35 ((sortU l).map coD)),(46,.int (((sortU l).length : Nat) : Int)),(47,.int ((i : Nat) : Int))],[(27,mpK placeK D.u64 (purI l l.length)),(5,.var (.u64 r))]⟩
       have hi : i <= l.length:=hi
       have hno : ∀ j < i,chL l ws r j:=hno
       refine W.seq ?_
       refine W.l0 1 [.y 48 _] [] [] [(1,_),(7,_),(9,_),(13,_),(14,_),(15,_),(45,_),(46,_),(47,_),(48,_)] [(27,mpK placeK D.u64 _),(5,.var _)] 88 ⟨aU fun _ _ H K=>R.lssN (i) ((sortU l).length) (eU K 47 O) (eU K 46 O) H,Zt⟩ O O O O (tU O ?_)
       refine W.seq ?_
       refine W.condD O (fun hc48=>?_) (fun hc48=>?_)
       · refine W.skip (W.seq (W.block (W.seq ?_)))
         refine W.l0 6 [.y 49 _,.y 50 _,.y 51 _] [] [] [(1,_),(7,_),(9,_),(13,_),(14,_),(15,_),(45,_),(46,_),(47,_),(49,_),(51,_)] [(27,mpK placeK D.u64 _),(5,.var _)] 88 ⟨mU 47 O O,aU fun _ _ H K=>R.idxN (i) (SC.sl (K 45 _ O)) (evoI (eU K 47 O)) O bU H dU,aU fun _ _ H K=>R.ldE (K 50 _ O) (SC.sl (K 45 _ O)) (map_get! (l:=(sortU l)) bU) O O O O H,Zt⟩ O O O O (⟨O,_,R.alloc O (nU O),⟨O,_,R.asg (gV 49 O) O (nU O),⟨O,_,R.stZ (gU 17 O) (xU 17 O) O (gV 51 O) (by rfl) (by rfl) (by rfl) (by rfl) O,tV [(1,_),(7,_),(9,_),(13,_),(14,_),(15,_),(16,_),(17,_),(45,_),(46,_),(47,_)] [(17,.var _),(27,mpK placeK D.u64 _),(5,.var _)] 88 O O O ?_⟩⟩⟩)
         refine W.seq ?_
         refine W.l0 5 [.y 52 _,.y 53 _,.y 54 _,.y 55 _,.y 15 _] [] [] [(1,_),(7,_),(9,_),(13,_),(14,_),(15,_),(16,_),(45,_),(46,_),(47,_)] [(17,.var _),(27,mpK placeK D.u64 _),(5,.var _)] 88 ⟨mU 15 O O,aU (fU 17 O O),aU (lU 53 O O O O O O O),aU fun _ _ H K=>R.bin (eU K 52 O) (eU K 54 O) O Zt H,aU fun _ _ H K=>R.asg (eU K 55 O) O H,Zt⟩ O O O O (tU O ?_)
         refine W.seq ?_
         refine W.dropBP [5,27] (bx':=[(27,mpK placeK D.u64 _),(5,.var _)]) O O ⟨okMpK (fun _=>rfl) (fun _=>rfl),⟨O,Zt⟩⟩ (pin_sub hD O) ?_
         refine W.l0 3 [.y 56 _,.y 57 _,.y 18 _] [] [] [(1,_),(7,_),(9,_),(13,_),(14,_),(15,_),(18,_),(45,_),(46,_),(47,_)] [(27,mpK placeK D.u64 _),(5,.var _)] 88 ⟨mU 16 O O,aU fun _ _ H K=>R.addN (i) (1) (eU K 56 O) (kI 1 O) bU H,aU fun _ _ H K=>R.asg (eU K 57 O) O H,Zt⟩ O O O O (tU O ?_)
         refine W.seq (W.seq ?_)
         refine W.l0 9 [.y 58 _,.y 59 _,.y 60 _,.y 61 _,.y 62 _,.y 63 _] [] [] [(1,_),(7,_),(9,_),(13,_),(14,_),(15,_),(18,_),(45,_),(46,_),(47,_),(58,_),(59,_),(60,_),(61,_),(63,_)] [(27,mpK placeK D.u64 _),(5,.var _)] 88 ⟨mU 15 O O,mU 9 O O,mU 13 O O,mU 18 O O,mU 1 O O,aU fun _ _ H K=>R.lenE (SC.sl (K 62 _ O)) (lN _) H,Zt⟩ O O O O (⟨O,_,R.callVB (ds:=[.int ((i + 1 : Nat) : Int),.int ((ws.length : Nat) : Int)]) (caps:=[.ptr 0 0 []]) [(0,5)] hC (gU 60 O) O O (choose1_ok ((i + 1 : Nat) : Int) ((ws.length : Nat) : Int) r) (EvB.cons (gV 61 O) O O O (EvB.cons (gV 63 O) O O O EvB.nil)) O ⟨O,Zt⟩ ⟨O,Zt⟩ O O O O O O (nU O),⟨O,_,R.bin (gV 59 O) (gV 64 O) O Zt (nU O),⟨O,_,R.bin (gV 58 O) (gV 65 O) O Zt (nU O),tV [(1,_),(7,_),(9,_),(13,_),(14,_),(15,_),(18,_),(45,_),(46,_),(47,_),(66,_)] [(27,mpK placeK D.u64 _),(5,.var _)] 88 O O O ?_⟩⟩⟩)
         refine W.cond O (fun hc66=>?_) (fun hc66=>?_)
         · refine W.exit ?_
           refine W.l0 2 [.y 87 _,.y 47 _] [] [] [(1,_),(7,_),(9,_),(13,_),(14,_),(15,_),(45,_),(46,_),(47,_)] [(27,mpK placeK D.u64 _),(5,.var _)] 88 ⟨aU fun _ _ H K=>R.addN (i) (1) (eU K 47 O) (kI 1 O) bU H,mU 87 O O,Zt⟩ O O O O (tU O ?_)
           exact ⟨⟨(i + 1),⟨(by show i + 1 <= l.length; omega),ext_i hno (of_decide_eq_true hc66)⟩⟩,rfl,(by simp only []; omega)⟩
         · refine W.skip (W.seq (W.seq ?_))
           refine W.l0 9 [.y 67 _,.y 68 _,.y 69 _,.y 70 _,.y 71 _,.y 72 _] [] [] [(7,_),(14,_),(15,_),(18,_),(67,_),(68,_),(69,_),(72,_)] [(27,mpK placeK D.u64 _),(5,.var _)] 88 ⟨mU 9 O O,mU 13 O O,mU 18 O O,mU 1 O O,aU fun _ _ H K=>R.lenE (SC.sl (K 70 _ O)) (lN _) H,aU fun _ _ H K=>R.addN (ws.length) (1) (eU K 71 O) (kI 1 O) bU H,Zt⟩ O O O O (⟨O,_,R.callVB (ds:=[.int ((i + 1 : Nat) : Int),.int ((ws.length + 1 : Nat) : Int)]) (caps:=[.ptr 0 0 []]) [(0,5)] hC (gU 68 O) O O (choose1_ok ((i + 1 : Nat) : Int) ((ws.length + 1 : Nat) : Int) r) (EvB.cons (gV 69 O) O O O (EvB.cons (gV 72 O) O O O EvB.nil)) O ⟨O,Zt⟩ ⟨O,Zt⟩ O O O O O O (nU O),⟨O,_,R.bin (gV 67 O) (gV 73 O) O Zt (nU O),⟨O,_,R.asg (gV 74 O) O (nU O),tV [(7,_),(14,_),(15,_),(18,_),(19,_)] [(27,mpK placeK D.u64 _),(5,.var _)] 88 O O O ?_⟩⟩⟩)
           refine W.seq ?_
           refine W.l0 4 [.y 75 _,.y 76 _,.y 77 _,.y 78 _] [] [] [(7,_),(14,_),(15,_),(18,_),(19,_),(78,_)] [(27,mpK placeK D.u64 _),(5,.var _)] 88 ⟨mU 15 O O,mU 19 O O,aU fun _ _ H K=>R.bin (eU K 76 O) (show ev _ _ (.const (.int .u64 546)) = some (.u64 546) from O) O Zt H,aU fun _ _ H K=>R.bin (eU K 75 O) (eU K 77 O) O Zt H,Zt⟩ O O O O (tU O ?_)
           refine W.cond O (fun hc78=>?_) (fun hc78=>?_)
           · refine W.l0 4 [.y 79 _,.y 80 _,.y 81 _,.y 7 _] [] [] [(7,_),(14,_),(18,_)] [(27,mpK placeK D.u64 _),(5,.var _)] 88 ⟨mU 15 O O,mU 19 O O,aU fun _ _ H K=>R.bin (eU K 79 O) (eU K 80 O) O Zt H,aU fun _ _ H K=>R.asg (eU K 81 O) O H,Zt⟩ O O O O (tU O ?_)
             refine W.seq ?_
             refine W.l0 8 [.y 82 _,.y 83 _,.y 84 _,.y 85 _,.y 86 _,.y 6 _,.y 7 _,.y 8 _] [] [] [(6,_),(7,_),(8,_)] [(27,mpK placeK D.u64 _),(5,.var _)] 88 ⟨mU 14 O O,mU 18 O O,aU fun _ _ H K=>R.slIN (0) ((i + 1)) ((i + 1)) (eU K 82 O) O (evoI (eU K 83 O)) O O bU bU O (part_map) H,aU fun _ _ H K=>R.callPE hC (clip_ok (((sortU l).drop 0).take (i + 1))) (EvP.cons (eU K 84 O) O O EvP.nil) H,mU 7 O O,aU fun _ _ H K=>R.asg (eU K 85 O) O H,aU fun _ _ H K=>R.asg (eU K 86 O) O H,aU fun _ _ H _=>R.asg (kI 0 O) O H,Zt⟩ O O O O (tU O ?_)
             refine W.ret ?_
             exact Ends.many (.inr O) (.cons O O O Zt (.cons O O O Zt (.cons O O O Zt .nil))) (ch_y ⟨of_decide_eq_true (show totB ws = true from Classical.byContradiction k1),hp,of_decide_eq_false hc39⟩ (by omega) hno (of_decide_eq_false hc66) (of_decide_eq_true hc78)) (show [(6,true),(7,true),(8,true)].Nodup by decide)
           · refine W.skip (W.seq ?_)
             refine W.l0 8 [.y 82 _,.y 83 _,.y 84 _,.y 85 _,.y 86 _,.y 6 _,.y 7 _,.y 8 _] [] [] [(6,_),(7,_),(8,_)] [(27,mpK placeK D.u64 _),(5,.var _)] 88 ⟨mU 14 O O,mU 18 O O,aU fun _ _ H K=>R.slIN (0) ((i + 1)) ((i + 1)) (eU K 82 O) O (evoI (eU K 83 O)) O O bU bU O (part_map) H,aU fun _ _ H K=>R.callPE hC (clip_ok (((sortU l).drop 0).take (i + 1))) (EvP.cons (eU K 84 O) O O EvP.nil) H,mU 7 O O,aU fun _ _ H K=>R.asg (eU K 85 O) O H,aU fun _ _ H K=>R.asg (eU K 86 O) O H,aU fun _ _ H _=>R.asg (kI 0 O) O H,Zt⟩ O O O O (tU O ?_)
             refine W.ret ?_
             exact Ends.many (.inr O) (.cons O O O Zt (.cons O O O Zt (.cons O O O Zt .nil))) (ch_n ⟨of_decide_eq_true (show totB ws = true from Classical.byContradiction k1),hp,of_decide_eq_false hc39⟩ (by omega) hno (of_decide_eq_false hc66) (of_decide_eq_false hc78)) (show [(6,true),(7,true),(8,true)].Nodup by decide)
       · obtain rfl : i = l.length:=by omega
         refine W.exit (W.seq ?_)
         refine W.l0 3 [.y 6 _,.y 7 _,.y 8 _] [] [] [(6,_),(7,_),(8,_)] [(27,mpK placeK D.u64 _),(5,.var _)] 88 ⟨aU fun _ _ H _=>R.asg (kN O) O H,aU fun _ _ H _=>R.asg (show ev _ _ (.const (.int .u64 0)) = some (.u64 0) from O) O H,aU fun _ _ H _=>R.asg (kI 14 O) O H,Zt⟩ O O O O (tU O ?_)
         refine W.wkS (s:=6) (d':=.sl none 35 (([] : List Un).map coD)) O O O (.nils _ _) ?_
         refine W.ret ?_
         exact Ends.many (.inr O) (.cons O O O Zt (.cons O O O Zt (.cons O O O Zt .nil))) (ch_none ⟨of_decide_eq_true (show totB ws = true from Classical.byContradiction k1),hp,of_decide_eq_false hc39⟩ hno) (show [(6,true),(7,true),(8,true)].Nodup by decide)
 · refine W.l0 7 [.y 26 _] [] [] [(0,_),(1,_),(5,_),(7,_),(9,_),(10,_),(26,_)] [(5,.var _)] 88 ⟨mU 0 O O,Zt⟩ O O O O (⟨O,_,R.callB [] hC (purse_f l hl hp) (EvB.cons (gV 26 O) O O O EvB.nil) O Zt Zt O O O O O O (nU O),⟨O,_,R.movT (gU 27 O) O (nU O),⟨O,_,R.ext (gU 25 O) O O (nU O),⟨O,_,R.ext (gU 25 O) O O (nU O),⟨O,_,R.asg (gV 28 O) O (nU O),⟨O,_,R.asg (gV 29 O) O (nU O),tV [(0,_),(1,_),(5,_),(7,_),(9,_),(10,_),(12,_)] [(5,.var _)] 88 O O O ?_⟩⟩⟩⟩⟩⟩)
   refine W.seq (W.seq ?_)
   by_cases k1 : ¬ totB ws = true
   · refine W.l0 10 [.y 30 _,.y 31 _,.y 32 _,.x 33,.x 34,.y 35 _,.y 36 _,.x 37,.x 38,.y 39 _] [] [] [(0,_),(1,_),(5,_),(7,_),(9,_),(39,_)] [(5,.var _)] 88 ⟨mU 10 O O,aU fun _ _ H K=>R.un (eU K 30 O) O H,mU 31 O O,aF O O (gT (by simpa using k1) O),aF O O (gT (by simpa using k1) O),aU fun _ _ H K=>R.pickT (eU K 32 O) (by simpa using k1) (kB true O) O H,mU 35 O O,aF O O (gT (O) O),aF O O (gT (O) O),aU fun _ _ H K=>R.pickT (eU K 36 O) (O) (kB true O) O H,Zt⟩ O O O O (tU O ?_)
     refine W.condT O (O) ?_
     refine W.seq ?_
     refine W.l0 3 [.y 6 _,.y 7 _,.y 8 _] [] [] [(6,_),(7,_),(8,_)] [(5,.var _)] 88 ⟨aU fun _ _ H _=>R.asg (kN O) O H,aU fun _ _ H _=>R.asg (show ev _ _ (.const (.int .u64 0)) = some (.u64 0) from O) O H,aU fun _ _ H _=>R.asg (kI 1 O) O H,Zt⟩ O O O O (tU O ?_)
     refine W.wkS (s:=6) (d':=.sl none 35 (([] : List Un).map coD)) O O O (.nils _ _) ?_
     refine W.ret ?_
     exact Ends.many (.inr O) (.cons O O O Zt (.cons O O O Zt (.cons O O O Zt .nil))) (ch_bad (fun h=>k1 (dT h.1))) (show [(6,true),(7,true),(8,true)].Nodup by decide)
   · refine W.l0 10 [.y 30 _,.y 31 _,.y 32 _,.y 33 _,.y 34 _,.y 35 _,.y 36 _,.x 37,.x 38,.y 39 _] [] [] [(0,_),(1,_),(5,_),(7,_),(9,_),(39,_)] [(5,.var _)] 88 ⟨mU 10 O O,aU fun _ _ H K=>R.un (eU K 30 O) O H,mU 31 O O,aW O O (gF (by simpa using k1) O) fun _ _ H K=>R.mov (eU K 12 O) O H,aW O O (gF (by simpa using k1) O) fun _ _ H K=>R.un (eU K 33 O) O H,aU fun _ _ H K=>R.pickF (eU K 32 O) (by simpa using k1) (eU K 34 O) O H,mU 35 O O,aF O O (gT (O) O),aF O O (gT (O) O),aU fun _ _ H K=>R.pickT (eU K 36 O) (O) (kB true O) O H,Zt⟩ O O O O (tU O ?_)
     refine W.condT O (O) ?_
     refine W.seq ?_
     refine W.l0 3 [.y 6 _,.y 7 _,.y 8 _] [] [] [(6,_),(7,_),(8,_)] [(5,.var _)] 88 ⟨aU fun _ _ H _=>R.asg (kN O) O H,aU fun _ _ H _=>R.asg (show ev _ _ (.const (.int .u64 0)) = some (.u64 0) from O) O H,aU fun _ _ H _=>R.asg (kI 1 O) O H,Zt⟩ O O O O (tU O ?_)
     refine W.wkS (s:=6) (d':=.sl none 35 (([] : List Un).map coD)) O O O (.nils _ _) ?_
     refine W.ret ?_
     exact Ends.many (.inr O) (.cons O O O Zt (.cons O O O Zt (.cons O O O Zt .nil))) (ch_bad (fun h=>hp h.2.1)) (show [(6,true),(7,true),(8,true)].Nodup by decide)
end Go.Sx

namespace Go.Sx
open Go.Proofs
theorem u_sub_add (a b c : UInt64) : a - b - c = a - (b + c):=by grind
theorem u_sub_sub (a b : UInt64) : a - (a - b) = b:=by grind
theorem u_sub_zero (a : UInt64) : a - 0 = a:=by grind
theorem lft_sum (ws : List Wnt) (i : Nat) : lftI ws i = 2100000000000000 - wsumI ws i:=by
 induction i with
 | zero=>rw [lftI,wsumI,u_sub_zero]
 | succ i ih=>rw [lftI,wsumI,ih,u_sub_add]
theorem getE {α : Type} [Inhabited α] {l : List α} {i : Nat} (h : i < l.length) : l[i]! = l[i]:=getElem!_pos l i h
theorem mem_get {α : Type} [Inhabited α] {l : List α} {c : α} (h : c ∈ l) : ∃ i,i < l.length /\ l[i]! = c:=by
 obtain ⟨i,hi,rfl⟩:=List.getElem_of_mem h
 exact ⟨i,hi,getE hi⟩
theorem get_in {α : Type} [Inhabited α] {l : List α} {i : Nat} (h : i < l.length) : l[i]! ∈ l:=by rw [getE h]; exact List.getElem_mem h
theorem wsum_nat {ws : List Wnt} : ∀ i,i <= 65 -> (∀ j < i,ws[j]!.value.toNat <= 2100000000000000) -> (wsumI ws i).toNat <= i * 2100000000000000 /\ (wsumI ws i).toNat = ((List.range i).map fun j=>ws[j]!.value.toNat).sum:=by
 intro i
 induction i with
 | zero=>intro _ _; exact ⟨by simp [wsumI],by simp [wsumI]⟩
 | succ i ih=>
  intro h1 h2
  obtain ⟨a,b⟩:=ih (by omega) (fun j hj=>h2 j (by omega))
  have h3:=h2 i (by omega)
  have e : (wsumI ws (i + 1)).toNat = (wsumI ws i).toNat + ws[i]!.value.toNat:=by
   rw [wsumI,UInt64.toNat_add]
   exact Nat.mod_eq_of_lt (by omega)
  refine ⟨by omega, ?_⟩
  rw [e,b,List.range_succ,List.map_append,List.sum_append]
  simp
theorem wsum_mono {ws : List Wnt} {i j : Nat} (hij : i <= j) (hj : j <= 65) (h : ∀ k < j,ws[k]!.value.toNat <= 2100000000000000) : (wsumI ws i).toNat <= (wsumI ws j).toNat:=by
 induction j with
 | zero=>
  have : i = 0:=by omega
  subst this; exact Nat.le_refl _
 | succ j ih=>
  rcases Nat.lt_or_eq_of_le hij with h1 | h1
  · have:=ih (by omega) (by omega) (fun k hk=>h k (by omega))
    have b:=(wsum_nat (ws:=ws) j (by omega) (fun k hk=>h k (by omega))).1
    have h3:=h j (by omega)
    have e : (wsumI ws (j + 1)).toNat = (wsumI ws j).toNat + ws[j]!.value.toNat:=by
     rw [wsumI,UInt64.toNat_add]
     exact Nat.mod_eq_of_lt (by omega)
    omega
  · subst h1; exact Nat.le_refl _
theorem MMn : (2100000000000000 : UInt64).toNat = 2100000000000000:=rfl
theorem tot_wan (ws : List Wnt) : totP ws ↔ wanP ws:=by
 have key : ∀ i,i <= 64 -> (∀ j < i,ws[j]!.value.toNat <= 2100000000000000) -> (wsumI ws i).toNat <= 2100000000000000 -> (lftI ws i).toNat = 2100000000000000 - (wsumI ws i).toNat:=by
  intro i _ _ h
  rw [lft_sum,UInt64.toNat_sub_of_le _ _ (UInt64.le_iff_toNat_le.2 (by rw [MMn]; exact h)),MMn]
 constructor
 · rintro ⟨h0,h1,h2⟩
   have hall : ∀ i,i <= ws.length -> (∀ j < i,ws[j]!.value.toNat <= 2100000000000000) /\ (wsumI ws i).toNat <= 2100000000000000:=by
    intro i
    induction i with
    | zero=>intro _; exact ⟨fun j hj=>absurd hj (Nat.not_lt_zero _),by simp [wsumI]⟩
    | succ i ih=>
     intro hi
     obtain ⟨a,b⟩:=ih (by omega)
     have k1:=key i (by omega) a b
     have k2:=(h2 i (by omega)).2.1
     rw [UInt64.lt_iff_toNat_lt,k1] at k2
     refine ⟨fun j hj=>?_, ?_⟩
     · rcases Nat.lt_succ_iff_lt_or_eq.1 hj with h | h
       · exact a j h
       · subst h; omega
     · rw [wsumI,UInt64.toNat_add,Nat.mod_eq_of_lt (by omega)]; omega
   have hN : wanN ws = ws.length:=by unfold wanN; omega
   refine ⟨fun j hj=>?_,by omega,h1, ?_⟩
   · rw [hN] at hj
     have g:=h2 j hj
     have gv:=(hall ws.length (Nat.le_refl _)).1 j hj
     refine ⟨fun hlt=>g.1 ?_,fun hlt=>?_,g.2.2⟩
     · rw [UInt64.lt_iff_toNat_lt] at hlt
       exact UInt64.toNat_inj.1 (by simp at hlt ⊢; omega)
     · rw [UInt64.lt_iff_toNat_lt,MMn] at hlt; omega
   · rw [hN,UInt64.le_iff_toNat_le,MMn]; exact (hall _ (Nat.le_refl _)).2
 · rintro ⟨h0,h1,h2,h3⟩
   have hN : wanN ws = ws.length:=by unfold wanN; omega
   rw [hN,UInt64.le_iff_toNat_le,MMn] at h3
   have hv : ∀ j < ws.length,ws[j]!.value.toNat <= 2100000000000000 /\ ws[j]!.value ≠ 0 /\ ws[j]!.script.length <= 1000:=fun j hj=>by
    have g:=h0 j (by rw [hN]; exact hj)
    have g2:=g.2.1
    rw [UInt64.lt_iff_toNat_lt,MMn] at g2
    refine ⟨by omega,fun e=>g.1 (by rw [e]; decide),g.2.2⟩
   refine ⟨by omega,h2,fun i hi=>⟨(hv i hi).2.1,fun hlt=>?_,(hv i hi).2.2⟩⟩
   have m1:=wsum_mono (ws:=ws) (i:=i) (j:=ws.length) (by omega) (by omega) (fun k hk=>(hv k hk).1)
   have m2:=wsum_mono (ws:=ws) (i:=i + 1) (j:=ws.length) (by omega) (by omega) (fun k hk=>(hv k hk).1)
   have k1:=key i (by omega) (fun j hj=>(hv j (by omega)).1) (by omega)
   rw [UInt64.lt_iff_toNat_lt,k1] at hlt
   have h4:=(hv i hi).1
   have e : (wsumI ws (i + 1)).toNat = (wsumI ws i).toNat + ws[i]!.value.toNat:=by
    rw [wsumI,UInt64.toNat_add]
    exact Nat.mod_eq_of_lt (by omega)
   omega
theorem tot_wanV {ws : List Wnt} (h : totP ws) : wanV ws = totV ws:=by
 have hw:=(tot_wan ws).1 h
 have hN : wanN ws = ws.length:=by have:=h.2.1; unfold wanN; omega
 rw [wanV,if_pos hw.1,totV,if_pos h,hN,lft_sum]
 have:=hw.2.2.2
 rw [hN] at this
 rw [u_sub_sub]
end Go.Sx

namespace Go.Sx
open Go.Proofs
theorem pur_ne {l : List Un} (h : purP l) {i j : Nat} (hij : i < j) (hj : j < l.length) : upl l[i]! ≠ upl l[j]!:=fun e=>by
 have:=(h j hj).1
 rw [purI_yes hij e] at this
 cases this
theorem pur_nodup {l : List Un} (h : purP l) : (l.map upl).Nodup:=by
 rw [List.Nodup,List.pairwise_iff_getElem]
 intro i j hi hj hij
 have hj' : j < l.length:=by simpa using hj
 have:=pur_ne h hij hj'
 rw [getE (by omega),getE hj'] at this
 simpa using this
theorem nodup_get {l : List Un} (h : (l.map upl).Nodup) {i j : Nat} (hi : i < l.length) (hj : j < l.length) (e : upl l[i]! = upl l[j]!) : i = j:=by
 rw [getE hi,getE hj] at e
 rw [List.Nodup,List.pairwise_iff_getElem] at h
 rcases Nat.lt_trichotomy i j with h1 | h1 | h1
 · have:=h i j (by simpa using hi) (by simpa using hj) h1
   exact absurd e (by simpa using this)
 · exact h1
 · have:=h j i (by simpa using hj) (by simpa using hi) h1
   exact absurd e.symm (by simpa using this)
theorem sortU_nodup {l : List Un} (hx : hs32 l) (h : purP l) : ((sortU l).map upl).Nodup:=((sortU_perm hx).map upl).nodup_iff.2 (pur_nodup h)
theorem ord_sym (a b : Un) : ordS a b < 0 ↔ 0 < ordS b a:=tcO.sym a b
theorem ord_self (a : Un) : ordS a a = 0:=by have:=ord_sym a a; omega
theorem sorted_lt {l : List Un} (hx : hs32 l) (h : purP l) {i j : Nat} (hij : i < j) (hj : j < l.length) : ordS (sortU l)[i]! (sortU l)[j]! < 0:=by
 have h1:=sortU_sorted l hij hj
 have hl:=sortU_len l
 rcases Int.lt_or_eq_of_le h1 with h2 | h2
 · exact (ord_sym _ _).2 h2
 · exfalso
   have:=nodup_get (sortU_nodup hx h) (i:=j) (j:=i) (by omega) (by omega) (ord_z h2.symm).2
   omega
end Go.Sx

namespace Go.Sx
open Go.Proofs
end Go.Sx

namespace Go.Sx
open Go.Proofs
end Go.Sx

namespace Go.Sx
variable {P : Program} {C : Ctx} {σ σ' σ1 : Sg} {a : Act} {w w' : World} {ρ : Nat -> Nat} {Fe Fe' Fb : Nat -> List Nat}
variable {ops : List Oper} {an : List Nat} {ks kk : List (Nat × Nat)} {its : List It}
end Go.Sx

namespace Go.Sx
open Go.Proofs
def bytOwn (b : List UInt8) : D:=.sl (some 5) 1 (b.map D.u8)
def outOwn (o : OutS) : D:=.agg [.u64 o.value,bytOwn o.script]
def inC (c : Un) : D:=.agg [.agg [hashD c.tx,.u32 c.n],.nils,.u32 4294967295,.nils]
def inOwn (x : InS) : D:=.agg [.agg [hashD x.tx,.u32 x.n],bytOwn x.script,.u32 x.seq,.sl (some 24) 1 (x.wit.map bytOwn)]
def txOwn (t : TxS) : D:=.agg [.u32 t.ver,.sl (some 46) 36 (t.ins.map inOwn),.sl (some 48) 2 (t.outs.map outOwn),.u32 t.lock]
theorem brw_mapO {α : Type} {f g : α -> D} (h : ∀ x,(f x).brw = g x) (l : List α) : (l.map f).map D.brw = l.map g:=by
 rw [List.map_map]
 exact List.map_congr_left fun x _=>h x
theorem brw_bytOwn (b : List UInt8) : (bytOwn b).brw = bytesD b:=by
 simp only [bytOwn,bytesD,D.brw,brws_eq]
 rw [brw_mapO (g:=D.u8) (fun _=>rfl)]
theorem brw_inOwn (x : InS) : (inOwn x).brw = inD x:=by
 simp only [inOwn,inD,D.brw,brws_eq,List.map_cons,List.map_nil,brw_hash,brw_bytOwn]
 rw [brw_mapO brw_bytOwn]
theorem brw_outOwn (x : OutS) : (outOwn x).brw = outD x:=by
 simp only [outOwn,outD,D.brw,brws_eq,List.map_cons,List.map_nil,brw_bytOwn]
theorem brw_txOwn (t : TxS) : (txOwn t).brw = txD t:=by
 simp only [txOwn,txD,D.brw,brws_eq,List.map_cons,List.map_nil]
 rw [brw_mapO brw_inOwn,brw_mapO brw_outOwn]
theorem frs_bytOwn (b : List UInt8) : Frs (bytOwn b):=.sl _ _ _ (frs_map (fun x=>.u8 x))
def zeroT : TxS:=⟨0,[],[],0⟩
theorem wk_zeroT : Wk (.agg [.u32 0,.nils,.nils,.u32 0]) (txD zeroT):=
 .aggL (.cons (.refl _) (.cons (.nils _ _) (.cons (.nils _ _) (.cons (.refl _) .nil))))
def mkI (c : Un) : InS:=⟨c.tx,c.n,[],4294967295,[]⟩
theorem wk_in (c : Un) : Wk (inC c) (inOwn (mkI c)):=
 .aggL (.cons (.refl _) (.cons (.nils _ _) (.cons (.refl _) (.cons (.nils _ _) .nil))))
theorem wk_ins (o : Option Nat) (cs : List Un) : Wk (.sl o 36 (cs.map inC)) (.sl o 36 ((cs.map mkI).map inOwn)):=by
 rw [List.map_map]
 exact .slM fun c _=>wk_in c
theorem wk_mk (cs : List Un) (os : List OutS) : Wk (.agg [.u32 2,.sl (some 46) 36 (cs.map inC),.sl (some 48) 2 (os.map outOwn),.u32 0]) (txOwn ⟨2,cs.map mkI,os,0⟩):=
 .aggL (.cons (.refl _) (.cons (wk_ins _ cs) (.cons (.refl _) (.cons (.refl _) .nil))))
theorem wk_mkE (cs : List Un) (e : Nat) : Wk (.agg [.u32 2,.sl (some 46) 36 (cs.map inC),.nils,.u32 0]) (.agg [.u32 2,.sl (some 46) 36 (cs.map inC),.sl (some e) 2 [],.u32 0]):=
 .aggL (.cons (.refl _) (.cons (.refl _) (.cons (.nils _ _) (.cons (.refl _) .nil))))
def woS (w : Wnt) : OutS:=⟨w.value,w.script⟩
def mkO (ws : List Wnt) (ch : UInt64) (own : List UInt8) : List OutS:=if 0 < ch then ws.map woS ++ [⟨ch,own⟩] else ws.map woS
def mkX (l : List Un) (ws : List Wnt) (own : List UInt8) (r : UInt64) : TxS:=⟨2,(chC l ws r).map mkI,mkO ws (chV l ws r) own,0⟩
def mkE (l : List Un) (ws : List Wnt) (own : List UInt8) (r : UInt64) : Int:=if chE l ws r = 0 then (if 1000 < own.length then 1 else if mayS (mkX l ws own r) = true then 0 else 6) else chE l ws r
def mkT (l : List Un) (ws : List Wnt) (own : List UInt8) (r : UInt64) : TxS:=if mkE l ws own r = 0 then mkX l ws own r else zeroT
theorem mk_app (os : List OutS) (v : UInt64) (sc : List UInt8) : os.map outOwn ++ [.agg [.u64 v,.sl (some 5) 1 (sc.map D.u8)]] = (os ++ [(⟨v,sc⟩ : OutS)]).map outOwn:=by
 rw [List.map_append]; rfl
theorem mkI_app {cs : List Un} {i : Nat} (h : i < cs.length) : (cs.take i).map inC ++ [.agg [.agg [hashD cs[i]!.tx,.u32 cs[i]!.n],.nils,.u32 4294967295,.nils]] = (cs.take (i + 1)).map inC:=by
 rw [take_s h,List.map_append]; rfl
theorem woS_app {ws : List Wnt} {i : Nat} (h : i < ws.length) : (ws.take i).map woS ++ [(⟨ws[i]!.value,ws[i]!.script⟩ : OutS)] = (ws.take (i + 1)).map woS:=by
 rw [take_s h,List.map_append]; rfl
theorem mkO_y {ws : List Wnt} {ch : UInt64} {own : List UInt8} (h : 0 < ch) : ws.map woS ++ [(⟨ch,own⟩ : OutS)] = mkO ws ch own:=by rw [mkO,if_pos h]
theorem mkO_n {ws : List Wnt} {ch : UInt64} {own : List UInt8} (h : ¬ 0 < ch) : ws.map woS = mkO ws ch own:=by rw [mkO,if_neg h]
theorem mk_1 {l : List Un} {ws : List Wnt} {own : List UInt8} {r : UInt64} (h : ¬ chE l ws r = 0) : [txD zeroT,.int (chE l ws r)] = [txD (mkT l ws own r),.int (mkE l ws own r)]:=by
 have e : mkE l ws own r = chE l ws r:=by rw [mkE,if_neg h]
 rw [mkT,e,if_neg h]
theorem mk_2 {l : List Un} {ws : List Wnt} {own : List UInt8} {r : UInt64} (h : chE l ws r = 0) (h2 : 1000 < own.length) : [txD zeroT,.int 1] = [txD (mkT l ws own r),.int (mkE l ws own r)]:=by
 have e : mkE l ws own r = 1:=by rw [mkE,if_pos h,if_pos h2]
 rw [mkT,e,if_neg (by decide)]
theorem mk_3 {l : List Un} {ws : List Wnt} {own : List UInt8} {r : UInt64} (h : chE l ws r = 0) (h2 : ¬ 1000 < own.length) (h3 : mayS (mkX l ws own r) = false) : [txD zeroT,.int 6] = [txD (mkT l ws own r),.int (mkE l ws own r)]:=by
 have e : mkE l ws own r = 6:=by rw [mkE,if_pos h,if_neg h2,h3]; rfl
 rw [mkT,e,if_neg (by decide)]
theorem mk_4 {l : List Un} {ws : List Wnt} {own : List UInt8} {r : UInt64} (h : chE l ws r = 0) (h2 : ¬ 1000 < own.length) (h3 : mayS (mkX l ws own r) = true) : [txD (mkX l ws own r),.int 0] = [txD (mkT l ws own r),.int (mkE l ws own r)]:=by
 have e : mkE l ws own r = 0:=by rw [mkE,if_pos h,if_neg h2,if_pos h3]
 rw [mkT,e,if_pos rfl]
theorem insS_small {l : List InS} (h : ∀ x ∈ l,x.tx.length = 32 /\ x.script = []) : ∀ i ≤ l.length,(insS l i).length <= i * 49:=by
 intro i
 induction i with
 | zero=>intro _; simp [insS]
 | succ i ih=>
  intro hi
  have h1:=h _ (get_in (l:=l) (i:=i) (by omega))
  have h2:=ih (by omega)
  have h3:=itemS_len l[i]!.script
  rw [h1.2,List.length_nil] at h3
  simp only [insS,inS,List.length_append,lowI_len,h1.1,h1.2] at *
  omega
theorem outsS_small {l : List OutS} (h : ∀ x ∈ l,x.script.length <= 1000) : ∀ i ≤ l.length,(outsS l i).length <= i * 1017:=by
 intro i
 induction i with
 | zero=>intro _; simp [outsS]
 | succ i ih=>
  intro hi
  have h1:=h _ (get_in (l:=l) (i:=i) (by omega))
  have h2:=ih (by omega)
  have h3:=itemS_len l[i]!.script
  simp only [outsS,outS',List.length_append,lowI_len] at *
  omega
theorem witsS_small {l : List InS} (h : ∀ x ∈ l,x.wit = []) : ∀ i ≤ l.length,(witsS l i).length <= i * 9:=by
 intro i
 induction i with
 | zero=>intro _; simp [witsS]
 | succ i ih=>
  intro hi
  have h1:=h _ (get_in (l:=l) (i:=i) (by omega))
  have h2:=ih (by omega)
  have h3:=countS_len l[i]!.wit.length
  simp only [witsS,h1,witS,List.length_append,List.length_nil] at *
  omega
theorem small_wf {t : TxS} (hi : t.ins.length <= 5000) (ho : t.outs.length <= 1000) (h1 : ∀ x ∈ t.ins,x.tx.length = 32 /\ x.script = [] /\ x.wit = []) (h2 : ∀ x ∈ t.outs,x.script.length <= 1000) : t.wf where
 ins:=by omega
 outs:=by omega
 hash x hx:=(h1 x hx).1
 scr x hx:=by rw [(h1 x hx).2.1]; simp
 oscr x hx:=Nat.le_trans (h2 x hx) (by decide)
 insb i h:=by have:=insS_small (fun x hx=>⟨(h1 x hx).1,(h1 x hx).2.1⟩) i h; omega
 outsb i h:=by have:=outsS_small h2 i h; omega
 witsb i h:=by have:=witsS_small (fun x hx=>(h1 x hx).2.2) i h; omega
 witl x hx:=by
  rw [(h1 x hx).2.2]
  refine ⟨by simp,fun i hi=>?_⟩
  have : i = 0:=by simpa using hi
  rw [this]; simp [witS]
 witi x hx b hb:=by rw [(h1 x hx).2.2] at hb; cases hb
theorem chC_sub {l : List Un} {ws : List Wnt} {r : UInt64} : ∀ c ∈ chC l ws r,c ∈ sortU l:=fun c hc=>by
 unfold chC at hc
 split at hc
 · split at hc
   · exact List.mem_of_mem_take hc
   · cases hc
 · cases hc
theorem chC_len (l : List Un) (ws : List Wnt) (r : UInt64) : (chC l ws r).length <= l.length:=by
 unfold chC
 split
 · split
   · rw [List.length_take,sortU_len]; omega
   · simp
 · simp
theorem chC_hs {l : List Un} {ws : List Wnt} {r : UInt64} (hx : hs32 l) : hs32 (chC l ws r):=fun c hc=>sortU_hs hx c (chC_sub c hc)
theorem chE_P {l : List Un} {ws : List Wnt} {r : UInt64} (h : chE l ws r = 0) : chP l ws r:=by
 unfold chE at h
 split at h
 · assumption
 · cases h
theorem mkO_len (ws : List Wnt) (ch : UInt64) (own : List UInt8) : (mkO ws ch own).length <= ws.length + 1:=by unfold mkO; split <;> simp
theorem mkO_scr {ws : List Wnt} {ch : UInt64} {own : List UInt8} (hw : ∀ w ∈ ws,w.script.length <= 1000) (ho : own.length <= 1000) : ∀ x ∈ mkO ws ch own,x.script.length <= 1000:=fun x hx=>by
 have h1 : ∀ x ∈ ws.map woS,x.script.length <= 1000:=fun x hx=>by
  obtain ⟨w,hw',rfl⟩:=List.mem_map.1 hx
  exact hw w hw'
 unfold mkO at hx
 split at hx
 · rcases List.mem_append.1 hx with h | h
   · exact h1 x h
   · rw [List.mem_singleton.1 h]; exact ho
 · exact h1 x hx
theorem mkX_wf {l : List Un} {ws : List Wnt} {own : List UInt8} {r : UInt64} (hl : l.length <= 4096) (hx : hs32 l) (h : chE l ws r = 0) (ho : ¬ 1000 < own.length) : (mkX l ws own r).wf:=by
 have hp:=chE_P h
 have h1:=chC_len l ws r
 have h2:=mkO_len ws (chV l ws r) own
 have h3:=hp.1.2.1
 refine small_wf (by simp [mkX]; omega) (by simp only [mkX]; omega) (fun x hxm=>?_) ?_
 · obtain ⟨c,hc,rfl⟩:=List.mem_map.1 hxm
   exact ⟨chC_hs hx c hc,rfl,rfl⟩
 · exact mkO_scr (fun w hw=>by
    obtain ⟨i,hi,rfl⟩:=mem_get hw
    exact (hp.1.2.2 i hi).2.2) (by omega)
end Go.Sx

namespace Go.Sx
open Go.Proofs
theorem make1_ok (cs : List Un) (os : List OutS) (sc : List UInt8) (v : UInt64) (ho : os.length <= 1000) (hs : sc.length <= 1000000) : FnB Try.prog gl 31 [.sl none 1 (sc.map D.u8),.u64 v,.ptr 0 0 []] [(0,.var (.agg [.u32 2,.sl (some 46) 36 (cs.map inC),.sl (some 48) 2 (os.map outOwn),.u32 0]))] (.tup []) [(0,.var (.agg [.u32 2,.sl (some 46) 36 (cs.map inC),.sl (some 48) 2 ((os ++ [(⟨v,sc⟩ : OutS)]).map outOwn),.u32 0]))] []:=by
 refine FnB.of (n:=14) (ids:=[0]) Try.func31 rfl rfl rfl (Nat.le_of_ble_eq_true rfl) fun C hC hD=>?_
 refine W.draw (m:=7) (an:=[0,1,0,0,8,28,60,127,255,511]) hP (by decide) rfl (its:=[⟨5,_,true⟩,⟨6,_,true⟩,⟨7,_,true⟩,⟨8,_,true⟩,⟨9,_,true⟩,⟨10,_,true⟩,⟨11,_,true⟩]) (ks:=[(5,9),(6,10)]) (kk:=[(5,9),(6,10)]) (live:=[2,6,11]) (env':=[(2,_),(6,_),(11,_)])
  (⟨Nat.le_of_ble_eq_true rfl,rfl,
   ⟨⟨rfl,rfl,fun _ τ hb ht hτ=>R.fdP (hτ 2 _ rfl) ht⟩,
   ⟨⟨rfl,rfl,fun _ τ hb ht hτ=>R.ldO (hτ 5 _ rfl) (hb 0 _ rfl) rfl ht⟩,
   ⟨⟨rfl,rfl,fun _ τ hb ht hτ=>R.mov (evt (hτ 1 _ rfl)) rfl ht⟩,
   ⟨⟨rfl,rfl,fun _ τ hb ht hτ=>R.mov (evt (hτ 0 _ rfl)) rfl ht⟩,
   ⟨⟨rfl,rfl,fun _ τ hb ht hτ=>R.callG hC (sclone_ok sc (by omega)) (Bors.cons (Bor.pur (evt (hτ 8 _ rfl)) rfl rfl) Bors.nil) (FrsR.one (frs_bytOwn sc)) ht⟩,
   ⟨⟨rfl,rfl,fun _ τ hb ht hτ=>R.bldO (l:=[.u64 0,.nils]) (l':=[_,_]) (.pur (evt (hτ 7 _ rfl)) rfl rfl rfl (.own (hτ 9 _ rfl) rfl rfl rfl rfl (.nil rfl))) rfl ht⟩,
   ⟨⟨rfl,rfl,fun _ τ hb ht hτ=>R.bslO (z:=2) (.own (hτ 10 _ rfl) rfl rfl rfl rfl .nil) rfl rfl ht (by decide)⟩,
   trivial⟩⟩⟩⟩⟩⟩⟩,rfl,rfl,rfl⟩)
  rfl (bx':=[(0,.var _)]) rfl (n':=14) rfl (⟨rfl,_,R.appBP2 (show Sg.get _ 6 = some _ from rfl) (show Sg.box _ 0 = some _ from rfl) rfl rfl rfl rfl (show Sg.get _ 6 = some _ from rfl) (show Sg.get _ 11 = some _ from rfl) rfl (show _ = ((os ++ [(⟨v,sc⟩ : OutS)]).map outOwn) from (mk_app _ _ _)) (by simp only [List.length_map,List.length_cons,List.length_nil]; omega) (Nat.le_of_ble_eq_true rfl) (by decide) (by decide),⟨rfl,_,R.fdP (show Sg.get _ 2 = some _ from rfl) (Nat.le_of_ble_eq_true rfl),⟨rfl,_,R.stOZ (show Sg.get _ 13 = some _ from rfl) (show Sg.box _ 0 = some _ from rfl) rfl (show Sg.get _ 12 = some _ from rfl) rfl rfl (by rfl) (by rfl) rfl rfl,⟨[],[],[(0,.var _)],14,rfl,rfl,rfl, ?_⟩⟩⟩⟩)
 exact EndsB.none' (r:=.dead) (.inl rfl) rfl (rfl) ⟨rfl,trivial⟩
end Go.Sx

namespace Go.Sx
open Go.Proofs
theorem wnumber_ok (b : List UInt8) (x : UInt64) (n : Nat) (hn : n <= 8) (hb : b.length <= 10000000) : FnB Try.prog gl 59 [.ptr 0 0 [],.u64 x,.int ((n : Nat) : Int)] [(0,.var (.agg [.sl (some 5) 1 (b.map D.u8)]))] (.tup []) [(0,.var (.agg [.sl (some 5) 1 ((b ++ lowI x n).map D.u8)]))] []:=by
 refine FnB.of (n:=23) (ids:=[0]) Try.func59 rfl rfl rfl (nU rfl) fun C hC hD=>?_
 refine W.seq ?_
 refine W.l0 2 [.y 6 _,.y 7 _] [] [] [(0,_),(1,_),(6,_),(7,_)] [(0,.var _)] 23 ⟨mU 2 O O,aU fun _ _ H _=>R.mov (kI 0 O) O H,Zt⟩ O O O O (tU O ?_)
 refine W.block ?_
 refine W.loop (α:={q__ : Nat // q__ <= n}) (fun q__=>⟨23,[(0,.ptr 0 0 []),(1,.u64 (shN x q__.1)),(6,.int ((n : Nat) : Int)),(7,.int ((q__.1 : Nat) : Int))],[(0,.var (.agg [.sl (some 5) 1 ((b ++ lowI x q__.1).map D.u8)]))]⟩) (fun q__=>n - q__.1) ⟨(0),bU⟩ (by simp only [lowI,List.append_nil]; rfl) ?_
 rintro ⟨i,hi⟩
 show W _ _ _ _ ⟨23,[(0,.ptr 0 0 []),(1,.u64 (shN x i)),(6,.int ((n : Nat) : Int)),(7,.int ((i : Nat) : Int))],[(0,.var (.agg [.sl (some 5) 1 ((b ++ lowI x i).map D.u8)]))]⟩
 have hi : i <= n:=hi
 have hll:=lowI_len x i
 refine W.seq ?_
 refine W.l0 1 [.y 8 _] [] [] [(0,_),(1,_),(6,_),(7,_),(8,_)] [(0,.var _)] 23 ⟨aU fun _ _ H K=>R.lssN (i) (n) (eU K 7 O) (eU K 6 O) H,Zt⟩ O O O O (tU O ?_)
 refine W.seq ?_
 refine W.condD O (fun hc8=>?_) (fun hc8=>?_)
 · refine W.skip (W.seq (W.block (W.seq ?_)))
   refine W.l0 12 [.y 9 _,.y 10 _,.y 11 _,.y 12 _,.y 13 _,.y 14 _,.y 15 _,.y 16 _] [] [] [(0,_),(1,_),(6,_),(7,_),(9,_),(13,_),(16,_)] [(0,.var _)] 23 ⟨mU 0 O O,mU 0 O O,aU fun _ _ H K=>R.nilcP (K 10 _ O) H,aU (fU 11 O O),aU fun _ B H K=>R.ldO (K 12 _ O) (B 0 _ O) O H,mU 1 O O,aU fun _ _ H K=>R.conv (eU K 14 O) O H,aU fun _ _ H K=>R.bslE (z:=1) (.cons (eU K 15 O) .nil) ⟨⟨O,O,O⟩,Zt⟩ O H dU,Zt⟩ O O O O (⟨O,_,R.appBP (gU 13 O) (xU 0 O) O O O O (gU 13 O) (SrcO.sc (SC.sl (gU 16 O)) (pur_lit O)) (show _ = ((b ++ lowI x (i + 1)).map D.u8) from (by simp [lowI])) bU (nU O) dU dU,⟨O,_,R.nilcP (gU 9 O) (nU O),⟨O,_,R.fdP (gU 18 O) (nU O),⟨O,_,R.stOZ (gU 19 O) (xU 0 O) O (gU 17 O) O O (by rfl) (by rfl) O O,tV [(0,_),(1,_),(6,_),(7,_)] [(0,.var _)] 23 O O O ?_⟩⟩⟩⟩)
   refine W.l0 3 [.y 20 _,.y 21 _,.y 1 _] [] [] [(0,_),(1,_),(6,_),(7,_)] [(0,.var _)] 23 ⟨mU 1 O O,aU fun _ _ H K=>R.bin (eU K 20 O) (show ev _ _ (.const (.int .u64 8)) = some (.u64 8) from O) O bV H,aU fun _ _ H K=>R.asg (eU K 21 O) O H,Zt⟩ O O O O (tU O ?_)
   refine W.l0 2 [.y 22 _,.y 7 _] [] [] [(0,_),(1,_),(6,_),(7,_)] [(0,.var _)] 23 ⟨aU fun _ _ H K=>R.addN (i) (1) (eU K 7 O) (kI 1 O) bU H,mU 22 O O,Zt⟩ O O O O (tU O ?_)
   exact ⟨⟨(i + 1),bU⟩,rfl,(by simp only []; omega)⟩
 · obtain rfl : i = n:=by omega
   refine W.exit ?_
   exact EndsB.none' (r:=.dead) (.inl O) O (O) ⟨O,Zt⟩
theorem wcount_ok (b : List UInt8) (n : Nat) (hb : b.length <= 9000000) : FnB Try.prog gl 61 [.ptr 0 0 [],.int ((n : Nat) : Int)] [(0,.var (.agg [.sl (some 5) 1 (b.map D.u8)]))] (.tup []) [(0,.var (.agg [.sl (some 5) 1 ((b ++ countS n).map D.u8)]))] []:=by
 refine FnB.of (n:=34) (ids:=[0]) Try.func61 rfl rfl rfl (nU rfl) fun C hC hD=>?_
 refine W.seq ?_
 refine W.l0 3 [.y 5 _,.y 6 _,.y 4 _] [] [] [(0,_),(4,_)] [(0,.var _)] 34 ⟨mU 1 O O,aU fun _ _ H K=>R.convE (d:=.u64 (cU n)) (eU K 5 O) O (O) H,aU fun _ _ H K=>R.asg (eU K 6 O) O H,Zt⟩ O O O O (tU O ?_)
 refine W.block (W.seq ?_)
 refine W.l0 3 [.y 13 _,.y 14 _,.y 12 _] [] [] [(0,_),(4,_),(12,_)] [(0,.var _)] 34 ⟨mU 4 O O,aU fun _ _ H K=>R.bin (eU K 13 O) (show ev _ _ (.const (.int .u64 253)) = some (.u64 253) from O) O Zt H,aU fun _ _ H K=>R.asg (eU K 14 O) O H,Zt⟩ O O O O (tU O ?_)
 refine W.cond O (fun hc12=>?_) (fun hc12=>?_)
 · refine W.l0 3 [.y 15 _,.y 16 _] [] [] [(15,_),(16,_)] [(0,.var _)] 34 ⟨mU 0 O O,mU 4 O O,Zt⟩ O O O O (⟨O,_,R.callB [(0,0)] hC (wnumber_ok b (cU n) 1 dU (by first | omega | (simp only [List.length_append,lowI_len,List.length_cons,List.length_nil]; omega) | simp)) (EvB.cons (gV 15 O) O O O (EvB.cons (gV 16 O) O O O (EvB.cons (kI 1 O) O O O EvB.nil))) O ⟨O,Zt⟩ ⟨O,Zt⟩ O O O O O O (nU O),tV [] [(0,.var _)] 34 O O O ?_⟩)
   exact EndsB.none' (r:=.dead) (.inl O) O (by simp only [countS,if_pos (of_decide_eq_true hc12)]; rfl) ⟨O,Zt⟩
 · refine W.seq ?_
   refine W.l0 3 [.y 19 _,.y 20 _,.y 18 _] [] [] [(0,_),(4,_),(18,_)] [(0,.var _)] 34 ⟨mU 4 O O,aU fun _ _ H K=>R.bin (eU K 19 O) (show ev _ _ (.const (.int .u64 65535)) = some (.u64 65535) from O) O Zt H,aU fun _ _ H K=>R.asg (eU K 20 O) O H,Zt⟩ O O O O (tU O ?_)
   refine W.cond O (fun hc18=>?_) (fun hc18=>?_)
   · refine W.seq ?_
     refine W.l0 2 [.y 21 _] [] [] [(0,_),(4,_),(21,_)] [(0,.var _)] 34 ⟨mU 0 O O,Zt⟩ O O O O (⟨O,_,R.callB [(0,0)] hC (wnumber_ok b 253 1 dU (by first | omega | (simp only [List.length_append,lowI_len,List.length_cons,List.length_nil]; omega) | simp)) (EvB.cons (gV 21 O) O O O (EvB.cons (show ev _ _ (.const (.int .u64 253)) = some (.u64 253) from O) O O O (EvB.cons (kI 1 O) O O O EvB.nil))) O ⟨O,Zt⟩ ⟨O,Zt⟩ O O O O O O (nU O),tV [(0,_),(4,_)] [(0,.var _)] 34 O O O ?_⟩)
     refine W.l0 3 [.y 23 _,.y 24 _] [] [] [(23,_),(24,_)] [(0,.var _)] 34 ⟨mU 0 O O,mU 4 O O,Zt⟩ O O O O (⟨O,_,R.callB [(0,0)] hC (wnumber_ok (b ++ lowI 253 1) (cU n) 2 dU (by first | omega | (simp only [List.length_append,lowI_len,List.length_cons,List.length_nil]; omega) | simp)) (EvB.cons (gV 23 O) O O O (EvB.cons (gV 24 O) O O O (EvB.cons (kI 2 O) O O O EvB.nil))) O ⟨O,Zt⟩ ⟨O,Zt⟩ O O O O O O (nU O),tV [] [(0,.var _)] 34 O O O ?_⟩)
     exact EndsB.none' (r:=.dead) (.inl O) O (by simp only [countS,if_neg (of_decide_eq_false hc12),if_pos (of_decide_eq_true hc18),List.append_assoc]; rfl) ⟨O,Zt⟩
   · refine W.seq ?_
     refine W.l0 3 [.y 27 _,.y 28 _,.y 26 _] [] [] [(0,_),(4,_),(26,_)] [(0,.var _)] 34 ⟨mU 4 O O,aU fun _ _ H K=>R.bin (eU K 27 O) (show ev _ _ (.const (.int .u64 4294967295)) = some (.u64 4294967295) from O) O Zt H,aU fun _ _ H K=>R.asg (eU K 28 O) O H,Zt⟩ O O O O (tU O ?_)
     refine W.cond O (fun hc26=>?_) (fun hc26=>?_)
     · refine W.seq ?_
       refine W.l0 2 [.y 29 _] [] [] [(0,_),(4,_),(29,_)] [(0,.var _)] 34 ⟨mU 0 O O,Zt⟩ O O O O (⟨O,_,R.callB [(0,0)] hC (wnumber_ok b 254 1 dU (by first | omega | (simp only [List.length_append,lowI_len,List.length_cons,List.length_nil]; omega) | simp)) (EvB.cons (gV 29 O) O O O (EvB.cons (show ev _ _ (.const (.int .u64 254)) = some (.u64 254) from O) O O O (EvB.cons (kI 1 O) O O O EvB.nil))) O ⟨O,Zt⟩ ⟨O,Zt⟩ O O O O O O (nU O),tV [(0,_),(4,_)] [(0,.var _)] 34 O O O ?_⟩)
       refine W.l0 3 [.y 31 _,.y 32 _] [] [] [(31,_),(32,_)] [(0,.var _)] 34 ⟨mU 0 O O,mU 4 O O,Zt⟩ O O O O (⟨O,_,R.callB [(0,0)] hC (wnumber_ok (b ++ lowI 254 1) (cU n) 4 dU (by first | omega | (simp only [List.length_append,lowI_len,List.length_cons,List.length_nil]; omega) | simp)) (EvB.cons (gV 31 O) O O O (EvB.cons (gV 32 O) O O O (EvB.cons (kI 4 O) O O O EvB.nil))) O ⟨O,Zt⟩ ⟨O,Zt⟩ O O O O O O (nU O),tV [] [(0,.var _)] 34 O O O ?_⟩)
       exact EndsB.none' (r:=.dead) (.inl O) O (by simp only [countS,if_neg (of_decide_eq_false hc12),if_neg (of_decide_eq_false hc18),if_pos (of_decide_eq_true hc26),List.append_assoc]; rfl) ⟨O,Zt⟩
     · refine W.seq ?_
       refine W.l0 2 [.y 7 _] [] [] [(0,_),(4,_),(7,_)] [(0,.var _)] 34 ⟨mU 0 O O,Zt⟩ O O O O (⟨O,_,R.callB [(0,0)] hC (wnumber_ok b 255 1 dU (by first | omega | (simp only [List.length_append,lowI_len,List.length_cons,List.length_nil]; omega) | simp)) (EvB.cons (gV 7 O) O O O (EvB.cons (show ev _ _ (.const (.int .u64 255)) = some (.u64 255) from O) O O O (EvB.cons (kI 1 O) O O O EvB.nil))) O ⟨O,Zt⟩ ⟨O,Zt⟩ O O O O O O (nU O),tV [(0,_),(4,_)] [(0,.var _)] 34 O O O ?_⟩)
       refine W.l0 3 [.y 9 _,.y 10 _] [] [] [(9,_),(10,_)] [(0,.var _)] 34 ⟨mU 0 O O,mU 4 O O,Zt⟩ O O O O (⟨O,_,R.callB [(0,0)] hC (wnumber_ok (b ++ lowI 255 1) (cU n) 8 dU (by first | omega | (simp only [List.length_append,lowI_len,List.length_cons,List.length_nil]; omega) | simp)) (EvB.cons (gV 9 O) O O O (EvB.cons (gV 10 O) O O O (EvB.cons (kI 8 O) O O O EvB.nil))) O ⟨O,Zt⟩ ⟨O,Zt⟩ O O O O O O (nU O),tV [] [(0,.var _)] 34 O O O ?_⟩)
       exact EndsB.none' (r:=.dead) (.inl O) O (by simp only [countS,if_neg (of_decide_eq_false hc12),if_neg (of_decide_eq_false hc18),if_neg (of_decide_eq_false hc26),List.append_assoc]; rfl) ⟨O,Zt⟩
theorem witem_ok (b x : List UInt8) (hb : b.length <= 8000000) (hx : x.length <= 1000000) : FnB Try.prog gl 62 [.ptr 0 0 [],.sl none 1 (x.map D.u8)] [(0,.var (.agg [.sl (some 5) 1 (b.map D.u8)]))] (.tup []) [(0,.var (.agg [.sl (some 5) 1 ((b ++ itemS x).map D.u8)]))] []:=by
 refine FnB.of (n:=17) (ids:=[0]) Try.func62 rfl rfl rfl (nU rfl) fun C hC hD=>?_
 refine W.seq ?_
 refine W.l0 4 [.y 4 _,.y 5 _,.y 6 _] [] [] [(0,_),(1,_),(4,_),(6,_)] [(0,.var _)] 17 ⟨mU 0 O O,mU 1 O O,aU fun _ _ H K=>R.lenE (SC.sl (K 5 _ O)) (lN _) H,Zt⟩ O O O O (⟨O,_,R.callB [(0,0)] hC (wcount_ok b x.length (by omega)) (EvB.cons (gV 4 O) O O O (EvB.cons (gV 6 O) O O O EvB.nil)) O ⟨O,Zt⟩ ⟨O,Zt⟩ O O O O O O (nU O),tV [(0,_),(1,_)] [(0,.var _)] 17 O O O ?_⟩)
 have hcl:=countS_len x.length
 refine W.l0 10 [.y 8 _,.y 9 _,.y 10 _,.y 11 _,.y 12 _,.y 13 _] [] [] [(8,_),(12,_),(13,_)] [(0,.var _)] 17 ⟨mU 0 O O,mU 0 O O,aU fun _ _ H K=>R.nilcP (K 9 _ O) H,aU (fU 10 O O),aU fun _ B H K=>R.ldO (K 11 _ O) (B 0 _ O) O H,mU 1 O O,Zt⟩ O O O O (⟨O,_,R.appBP (gU 12 O) (xU 0 O) O O O O (gU 12 O) (SrcO.sc (SC.sl (gU 13 O)) (pur_map (fun _=>rfl))) (app_map) bU (nU O) dU dU,⟨O,_,R.nilcP (gU 8 O) (nU O),⟨O,_,R.fdP (gU 15 O) (nU O),⟨O,_,R.stOZ (gU 16 O) (xU 0 O) O (gU 14 O) O O (by rfl) (by rfl) O O,tV [] [(0,.var _)] 17 O O O ?_⟩⟩⟩⟩)
 exact EndsB.none' (r:=.dead) (.inl O) O (by simp only [itemS,List.append_assoc]; rfl) ⟨O,Zt⟩
end Go.Sx
