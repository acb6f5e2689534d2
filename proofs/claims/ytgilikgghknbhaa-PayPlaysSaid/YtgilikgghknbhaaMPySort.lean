/- Proved: what functions of the given program compute (used by the theorem of this claim). Conditions: none but those that each theorem states. -/
import Derived.Test.YtgilikgghknbhaaMPyMid3
import Derived.Test.YtgilikgghknbhaaMSxDrawE
set_option linter.unusedVariables false
set_option linter.unusedSimpArgs false
set_option linter.unnecessarySimpa false

namespace Go.Sx
open Go.Proofs Go.Shelf Go.RowKit Go.Sort
structure TC {α : Type} (c : α -> α -> Int) : Prop where
 sym : ∀ x y,c x y < 0 ↔ 0 < c y x
 tr : ∀ x y z,c x y <= 0 -> c y z <= 0 -> c x z <= 0
theorem TC.tr1 {α : Type} {c : α -> α -> Int} (h : TC c) {x y z : α} (h1 : c x y < 0) (h2 : c y z <= 0) : c x z < 0:=by
 have h3:=h.tr x y z (by omega) h2
 rcases Int.lt_or_eq_of_le h3 with h4 | h4
 · exact h4
 · exfalso
   have a1:=h.sym x z
   have a2:=h.sym x y
   have:=h.tr y z x h2 (by omega)
   omega
theorem TC.tr2 {α : Type} {c : α -> α -> Int} (h : TC c) {x y z : α} (h1 : c x y <= 0) (h2 : c y z < 0) : c x z < 0:=by
 have h3:=h.tr x y z h1 (by omega)
 rcases Int.lt_or_eq_of_le h3 with h4 | h4
 · exact h4
 · exfalso
   have a1:=h.sym x z
   have a2:=h.sym y z
   have:=h.tr z x y (by omega) h1
   omega
theorem TC.swo {α : Type} {c : α -> α -> Int} (h : TC c) : SWO (ltOf c) where
 irrefl x:=by have:=h.sym x x; simp only [ltOf,decide_eq_false_iff_not]; omega
 trans x y z h1 h2:=by simp only [ltOf,decide_eq_true_eq] at *; exact h.tr1 h1 (by omega)
 ntrans x y z h1 h2:=by
  simp only [ltOf,decide_eq_false_iff_not] at *
  have a1:=h.sym x y; have a2:=h.sym y z; have a3:=h.sym x z
  have a4:=h.sym y x; have a5:=h.sym z y; have a6:=h.sym z x
  have:=h.tr z y x (by omega) (by omega)
  omega
theorem TC.lex {α : Type} {c d : α -> α -> Int} (h : TC c) (k : TC d) : TC fun x y=>if c x y = 0 then d x y else c x y where
 sym x y:=by
  have a1:=h.sym x y; have a2:=h.sym y x; have a3:=k.sym x y; have a4:=k.sym y x
  by_cases h1 : c x y = 0
  · have h2 : c y x = 0:=by omega
    simp only [h1,h2,if_true]; exact a3
  · have h2 : ¬ c y x = 0:=by omega
    simp only [h1,h2,if_false]; exact a1
 tr x y z:=by
  have a1:=h.sym x y; have a2:=h.sym y z; have a3:=h.sym x z
  have b1:=h.sym y x; have b2:=h.sym z y; have b3:=h.sym z x
  intro h1 h2
  by_cases e1 : c x y = 0
  · by_cases e2 : c y z = 0
    · have e3 : c x z = 0:=by
       have t1:=h.tr x y z (by omega) (by omega)
       have t2:=h.tr z y x (by omega) (by omega)
       omega
      simp only [e1,e2,e3,if_true] at *
      exact k.tr x y z h1 h2
    · simp only [e1,e2,if_true,if_false] at h1 h2
      have:=h.tr2 (x:=x) (y:=y) (z:=z) (by omega) (by omega)
      have e3 : ¬ c x z = 0:=by omega
      simp only [e3,if_false]; omega
  · simp only [e1,if_false] at h1
    have h2' : c y z <= 0:=by
     by_cases e2 : c y z = 0
     · omega
     · simpa only [e2,if_false] using h2
    have:=h.tr1 (x:=x) (y:=y) (z:=z) (by omega) h2'
    have e3 : ¬ c x z = 0:=by omega
    simp only [e3,if_false]; omega
theorem TC.on {α β : Type} {c : α -> α -> Int} (h : TC c) (f : β -> α) : TC fun x y=>c (f x) (f y):=⟨fun x y=>h.sym _ _,fun x y z=>h.tr _ _ _⟩
theorem TC.rev {α : Type} {c : α -> α -> Int} (h : TC c) : TC fun x y=>c y x:=⟨fun x y=>h.sym y x,fun x y z h1 h2=>h.tr z y x h2 h1⟩
theorem tc64 : TC c64 where
 sym x y:=by simp only [c64,UInt64.lt_iff_toNat_lt]; split <;> split <;> (try split) <;> (try split) <;> omega
 tr x y z:=by simp only [c64,UInt64.lt_iff_toNat_lt]; split <;> split <;> (try split) <;> (try split) <;> (try split) <;> (try split) <;> omega
theorem tc32 : TC c32 where
 sym x y:=by simp only [c32,UInt32.lt_iff_toNat_lt]; split <;> split <;> (try split) <;> (try split) <;> omega
 tr x y z:=by simp only [c32,UInt32.lt_iff_toNat_lt]; split <;> split <;> (try split) <;> (try split) <;> (try split) <;> (try split) <;> omega
theorem cmpB_sym : ∀ x y : List UInt8,Lib.compareBytes x y < 0 ↔ 0 < Lib.compareBytes y x
 | [],[]=>by simp [Lib.compareBytes]
 | [],_ :: _=>by simp [Lib.compareBytes]
 | _ :: _,[]=>by simp [Lib.compareBytes]
 | a :: x,b :: y=>by
  have ih:=cmpB_sym x y
  simp only [Lib.compareBytes,UInt8.lt_iff_toNat_lt]
  split <;> split <;> (try split) <;> (try split) <;> omega
theorem cmpB_tr : ∀ x y z : List UInt8,Lib.compareBytes x y <= 0 -> Lib.compareBytes y z <= 0 -> Lib.compareBytes x z <= 0
 | [],_,[]=>by simp [Lib.compareBytes]
 | [],_,_ :: _=>by simp [Lib.compareBytes]
 | _ :: _,[],_=>by simp [Lib.compareBytes]
 | _ :: _,_ :: _,[]=>by simp [Lib.compareBytes]
 | a :: x,b :: y,c :: z=>by
  have ih:=cmpB_tr x y z
  simp only [Lib.compareBytes,UInt8.lt_iff_toNat_lt]
  split <;> split <;> (try split) <;> (try split) <;> (try split) <;> (try split) <;> omega
theorem tcB : TC Lib.compareBytes:=⟨cmpB_sym,cmpB_tr⟩
theorem c64_z {a b : UInt64} (h : c64 a b = 0) : a = b:=by
 unfold c64 at h; split at h
 · omega
 · split at h
   · omega
   · exact UInt64.toNat_inj.1 (by simp only [UInt64.lt_iff_toNat_lt] at *; omega)
theorem c32_z {a b : UInt32} (h : c32 a b = 0) : a = b:=by
 unfold c32 at h; split at h
 · omega
 · split at h
   · omega
   · exact UInt32.toNat_inj.1 (by simp only [UInt32.lt_iff_toNat_lt] at *; omega)
theorem cmpB_z : ∀ {x y : List UInt8},Lib.compareBytes x y = 0 -> x = y
 | [],[],_=>rfl
 | [],_ :: _,h=>by simp [Lib.compareBytes] at h
 | _ :: _,[],h=>by simp [Lib.compareBytes] at h
 | a :: x,b :: y,h=>by
  simp only [Lib.compareBytes] at h
  split at h
  · omega
  · split at h
    · omega
    · rename_i h1 h2
      have e : a = b:=UInt8.toNat_inj.1 (by simp only [UInt8.lt_iff_toNat_lt] at h1 h2; omega)
      rw [e,cmpB_z h]
theorem ord_eq (a b : Un) : ordS a b = if c64 b.value a.value = 0 then (if Lib.compareBytes a.tx b.tx = 0 then c32 a.n b.n else Lib.compareBytes a.tx b.tx) else c64 b.value a.value:=by
 unfold ordS
 simp only [orS]
 split
 · split
   · split <;> simp_all
   · rfl
 · rfl
theorem tcO : TC ordS:=by
 have h:=(tc64.rev.on (fun a : Un=>a.value)).lex ((tcB.on (fun a : Un=>a.tx)).lex (tc32.on (fun a : Un=>a.n)))
 have e : ordS = fun x y=>if c64 y.value x.value = 0 then (if Lib.compareBytes x.tx y.tx = 0 then c32 x.n y.n else Lib.compareBytes x.tx y.tx) else c64 y.value x.value:=by
  funext a b; exact ord_eq a b
 rw [e]; exact h
theorem ord_z {a b : Un} (h : ordS a b = 0) : a.value = b.value /\ upl a = upl b:=by
 rw [ord_eq] at h
 split at h
 · rename_i h1
   split at h
   · rename_i h2
     exact ⟨(c64_z h1).symm,by rw [upl,upl,cmpB_z h2,c32_z h]⟩
   · exact absurd h ‹_›
 · exact absurd h ‹_›
abbrev UnH:={c : Un // c.tx.length = 32}
instance : Inhabited UnH:=⟨⟨⟨List.replicate 32 0,0,0,0⟩,by simp⟩⟩
def encU (c : UnH) : List Value:=(c.1.tx.map fun b=>Value.int .u8 b.toNat) ++ [.int .u32 c.1.n.toNat,.int .u64 c.1.value.toNat,.int .i64 c.1.ht]
theorem encU_len (c : UnH) : (encU c).length = 35:=by simp [encU,c.2]
theorem encU_one (c : UnH) : ∀ v ∈ encU c,v.oneCell' = true:=by
 intro v hv
 simp only [encU,List.mem_append,List.mem_map,List.mem_cons,List.not_mem_nil,or_false] at hv
 rcases hv with ⟨b,_,rfl⟩ | rfl | rfl | rfl <;> rfl
theorem rc_bytes {w : World} {ρ : Nat -> Nat} {G L : Nat -> Prop} {p : Bool} {l : List UInt8} {cs : List Value} {F : List Nat} (hr : Rc w ρ G L p (.arr 32 1 (l.map D.u8)) cs F) : cs = (l.map fun b=>Value.int .u8 b.toNat) /\ F = []:=by
 cases hr with
 | arr _ _ _ _ hl hs hr=>
  rw [List.length_map] at hl
  refine ⟨List.ext_getElem (by rw [hs,List.length_map]; omega) fun i h1 h2=>?_,rfl⟩
  have hi : i < l.length:=by simpa using h2
  have:=hr i (by simpa using hi)
  rw [List.getElem_map] at this
  have e : (cs.drop (i * 1)).take 1 = [cs[i]]:=by
   rw [Nat.mul_one,List.drop_eq_getElem_cons h1]
   rfl
  rw [e] at this
  rw [List.getElem_map]
  generalize cs[i] = v at this
  cases this
  rfl
theorem bytes_rc {w : World} {ρ : Nat -> Nat} {G L : Nat -> Prop} {p : Bool} {l : List UInt8} (hl : l.length = 32) : Rc w ρ G L p (.arr 32 1 (l.map D.u8)) (l.map fun b=>Value.int .u8 b.toNat) []:=by
 refine .arr 32 1 _ _ (by simpa using hl) (by simp [hl]) fun i hi=>?_
 have hi' : i < l.length:=by simpa using hi
 have e : ((l.map fun b=>Value.int .u8 b.toNat).drop (i * 1)).take 1 = [Value.int .u8 l[i].toNat]:=by
  rw [Nat.mul_one,List.drop_eq_getElem_cons (by simpa using hi')]
  simp
 rw [e,List.getElem_map]
 exact .u8 _
theorem agg_cut {w : World} {ρ : Nat -> Nat} {G L : Nat -> Prop} {p : Bool} {d : D} {r : List D} {cs : List Value} {F : List Nat} (h : Rc w ρ G L p (.agg (d :: r)) cs F) :
 ∃ F1 F2,Rc w ρ G L p d (cs.take d.sz) F1 /\ Rc w ρ G L p (.agg r) (cs.drop d.sz) F2 /\ F = F1 ++ F2:=by
 cases h with
 | agg _ _ Fs hs hr=>
  refine ⟨Fs 0,(List.range r.length).flatMap fun k=>Fs (k + 1), ?_, ?_, ?_⟩
  · have:=hr 0 (by simp)
    simpa [offk] using this
  · refine .agg r _ (fun k=>Fs (k + 1)) (by rw [List.length_drop,hs,szs_cons]; omega) fun k hk=>?_
    have:=hr (k + 1) (by simpa using hk)
    rw [List.drop_drop]
    simpa [offk] using this
  · rw [List.length_cons,List.range_succ_eq_map,List.flatMap_cons]
    congr 1
    rw [List.flatMap_map]
theorem cut_agg {w : World} {ρ : Nat -> Nat} {G L : Nat -> Prop} {p : Bool} {d : D} {r : List D} {c1 c2 : List Value} (h1 : Rc w ρ G L p d c1 []) (h2 : Rc w ρ G L p (.agg r) c2 []) : Rc w ρ G L p (.agg (d :: r)) (c1 ++ c2) []:=by
 have l1:=h1.len
 generalize hF : ([] : List Nat) = F at h2
 cases h2 with
 | agg _ _ Fs hs hr=>
  have hz : ∀ k,k < r.length -> Fs k = []:=by
   intro k hk
   have:=(List.flatMap_eq_nil_iff.1 hF.symm) k (List.mem_range.2 hk)
   exact this
  have key:=Rc.agg (w:=w) (ρ:=ρ) (G:=G) (L:=L) (p:=p) (d :: r) (c1 ++ c2) (fun _=>[]) (by rw [List.length_append,l1,hs,szs_cons]) (fun k hk=>by
   cases k with
   | zero=>simpa [offk,l1] using h1
   | succ k=>
    have hk' : k < r.length:=by simpa using hk
    have:=hr k hk'
    rw [hz k hk'] at this
    have e : offk (d :: r) (k + 1) = d.sz + offk r k:=by simp [offk]
    rw [e,<- l1,<- List.drop_drop,List.drop_left]
    exact this)
  have e5 : (List.range (d :: r).length).flatMap (fun _ : Nat=>([] : List Nat)) = []:=by
   rw [List.flatMap_eq_nil_iff]; intro _ _; rfl
  rw [e5] at key
  rw [<- hF]; exact key
theorem agg_nil {w : World} {ρ : Nat -> Nat} {G L : Nat -> Prop} {p : Bool} {cs : List Value} {F : List Nat} (h : Rc w ρ G L p (.agg []) cs F) : cs = [] /\ F = []:=by
 cases h with
 | agg _ _ Fs hs hr=>exact ⟨List.length_eq_zero_iff.1 (by simpa using hs),rfl⟩
theorem nil_agg {w : World} {ρ : Nat -> Nat} {G L : Nat -> Prop} {p : Bool} : Rc w ρ G L p (.agg []) [] []:=Rc.agg [] [] (fun _=>[]) rfl (fun k hk=>by cases hk)
theorem encU_rc {w : World} {ρ : Nat -> Nat} {G L : Nat -> Prop} {p : Bool} (c : UnH) : Rc w ρ G L p (coD c.1) (encU c) []:=by
 have h1 : Rc w ρ G L p (.agg [hashD c.1.tx,.u32 c.1.n]) ((c.1.tx.map fun b=>Value.int .u8 b.toNat) ++ [.int .u32 c.1.n.toNat]) []:=
  cut_agg (bytes_rc c.2) (cut_agg (c1:=[.int .u32 c.1.n.toNat]) (c2:=[]) (.u32 _) nil_agg)
 have h2 : Rc w ρ G L p (.agg [.u64 c.1.value,.int c.1.ht]) [.int .u64 c.1.value.toNat,.int .i64 c.1.ht] []:=
  cut_agg (c1:=[.int .u64 c.1.value.toNat]) (c2:=[.int .i64 c.1.ht]) (.u64 _) (cut_agg (c1:=[.int .i64 c.1.ht]) (c2:=[]) (.int _) nil_agg)
 have:=cut_agg h1 h2
 rw [List.append_assoc] at this
 exact this
theorem encU_rc' {w : World} {ρ : Nat -> Nat} {G L : Nat -> Prop} {p : Bool} {cs : List Value} {F : List Nat} (c : UnH) (h : Rc w ρ G L p (coD c.1) cs F) : cs = encU c /\ F = []:=by
 obtain ⟨F1,F2,h1,h2,rfl⟩:=agg_cut h
 obtain ⟨G1,G2,g1,g2,rfl⟩:=agg_cut h1
 obtain ⟨G3,G4,g3,g4,rfl⟩:=agg_cut g2
 obtain ⟨G5,G6,g5,g6,rfl⟩:=agg_cut h2
 obtain ⟨G7,G8,g7,g8,rfl⟩:=agg_cut g6
 obtain ⟨a1,rfl⟩:=rc_bytes g1
 obtain ⟨a4,rfl⟩:=agg_nil g4
 obtain ⟨a8,rfl⟩:=agg_nil g8
 have a1 : (cs.take 33).take 32 = c.1.tx.map fun b=>Value.int .u8 b.toNat:=a1
 have g3 : Rc w ρ G L p (.u32 c.1.n) (((cs.take 33).drop 32).take 1) G3:=g3
 have a4 : ((cs.take 33).drop 32).drop 1 = []:=a4
 have g5 : Rc w ρ G L p (.u64 c.1.value) ((cs.drop 33).take 1) G5:=g5
 have g7 : Rc w ρ G L p (.int c.1.ht) (((cs.drop 33).drop 1).take 1) G7:=g7
 have a8 : ((cs.drop 33).drop 1).drop 1 = []:=a8
 have b3 : ((cs.take 33).drop 32).take 1 = [.int .u32 c.1.n.toNat] /\ G3 = []:=by
  generalize ((cs.take 33).drop 32).take 1 = x at g3
  cases g3; exact ⟨rfl,rfl⟩
 have b5 : (cs.drop 33).take 1 = [.int .u64 c.1.value.toNat] /\ G5 = []:=by
  generalize (cs.drop 33).take 1 = x at g5
  cases g5; exact ⟨rfl,rfl⟩
 have b7 : ((cs.drop 33).drop 1).take 1 = [.int .i64 c.1.ht] /\ G7 = []:=by
  generalize ((cs.drop 33).drop 1).take 1 = x at g7
  cases g7; exact ⟨rfl,rfl⟩
 obtain ⟨b3,rfl⟩:=b3
 obtain ⟨b5,rfl⟩:=b5
 obtain ⟨b7,rfl⟩:=b7
 refine ⟨?_,by simp⟩
 have e1 : cs = cs.take 33 ++ cs.drop 33:=(List.take_append_drop _ _).symm
 have e2 : cs.take 33 = (cs.take 33).take 32 ++ (cs.take 33).drop 32:=(List.take_append_drop _ _).symm
 have e3 : (cs.take 33).drop 32 = ((cs.take 33).drop 32).take 1 ++ ((cs.take 33).drop 32).drop 1:=(List.take_append_drop _ _).symm
 have e4 : cs.drop 33 = (cs.drop 33).take 1 ++ (cs.drop 33).drop 1:=(List.take_append_drop _ _).symm
 have e5 : (cs.drop 33).drop 1 = ((cs.drop 33).drop 1).take 1 ++ ((cs.drop 33).drop 1).drop 1:=(List.take_append_drop _ _).symm
 rw [e1,e2,a1,e3,b3,a4,e4,b5,e5,b7,a8]
 simp [encU]
def cfU (a b : UnH) : Int:=ordS a.1 b.1
theorem swoU : SWO (ltOf cfU):=(tcO.on (fun a : UnH=>a.1)).swo
def nrm (c : Un) : UnH:=if h : c.tx.length = 32 then ⟨c,h⟩ else default
def srtA (l : List Un) : Array UnH:=pdq (ltOf cfU) (l.map nrm).toArray 0 (l.map nrm).toArray.size (Lib.bitLen (l.map nrm).toArray.size) true true
def sortU (l : List Un) : List Un:=(srtA l).toList.map (·.1)
theorem srtA_ok (l : List Un) : PermIn 0 (l.map nrm).toArray.size (l.map nrm).toArray (srtA l) /\ SortedIn (ltOf cfU) 0 (l.map nrm).toArray.size (srtA l):=
 pdq_sorts (ltOf cfU) swoU _ 0 _ _ true true (Nat.zero_le _) (Nat.le_refl _) (Or.inl rfl)
theorem srtC (l : List Un) (hl : l.length <= 1000000) : SrtC Try.prog 25 26 35 encU (l.map nrm).toArray (srtA l) where
 none p cap w:=AnyF.slices_SortFunc_none Try.sortU p cap _ w
 some blk cap w hH hb:=by
  have eg : ∀ args w,(callFunc 26 args).run Try.prog w = .ok (.enter 26 args) w:=enters_of Try.func26 (by kernel_rfl) rfl
  exact AnyQ.slices_SortFunc_eq Try.sortU 35 (fun w=>by exact (Try.isAgg67 : _) w) (fun w=>by exact (Try.sizeOf67 : _) w) encU encU_len encU_one cfU swoU 26 #[] blk 0 cap _ w eg
   (cmpLays_of (fun _=>rfl) (fun _ _ _ _ x=>encU_rc x) (fun x y=>order_ok x.1 y.1 x.2 y.2)) hH hb (by simp; omega)
 sz:=by
  exact (srtA_ok l).1.1
end Go.Sx

namespace Go.Sx
open Go.Proofs
theorem fee_bad (ins outs : Int) (rate : UInt64) (hf : feeP ins outs rate) : Fn Try.prog gl 9 [.int ins,.int outs,.u64 rate] (.tup [.u64 0,.int 1]):=by
 refine Fn.of (n:=35) Try.func9 rfl rfl rfl (nU rfl) fun C hC hD=>?_
 refine W.seq ?_
 refine W.l0 2 [.y 6 _,.y 7 _] [] [] [(0,_),(1,_),(2,_)] [] 35 ⟨aU fun _ _ H _=>R.asg (show ev _ _ (.const (.int .u64 0)) = some (.u64 0) from O) O H,aU fun _ _ H _=>R.asg (kI 0 O) O H,Zt⟩ O O O O (tU O ?_)
 refine W.seq (W.seq ?_)
 by_cases k1 : ins < 0
 · refine W.l0 18 [.y 8 _,.y 9 _,.y 10 _,.x 11,.x 12,.y 13 _,.y 14 _,.x 15,.x 16,.y 17 _,.y 18 _,.x 19,.x 20,.y 21 _,.y 22 _,.x 23,.x 24,.y 25 _] [] [] [(0,_),(1,_),(2,_),(25,_)] [] 35 ⟨mU 0 O O,aU fun _ _ H K=>R.bin (eU K 8 O) (kI 0 O) O Zt H,mU 9 O O,aF O O (gT (dT k1) O),aF O O (gT (dT k1) O),aU fun _ _ H K=>R.pickT (eU K 10 O) (dT k1) (kB true O) O H,mU 13 O O,aF O O (gT (O) O),aF O O (gT (O) O),aU fun _ _ H K=>R.pickT (eU K 14 O) (O) (kB true O) O H,mU 17 O O,aF O O (gT (O) O),aF O O (gT (O) O),aU fun _ _ H K=>R.pickT (eU K 18 O) (O) (kB true O) O H,mU 21 O O,aF O O (gT (O) O),aF O O (gT (O) O),aU fun _ _ H K=>R.pickT (eU K 22 O) (O) (kB true O) O H,Zt⟩ O O O O (tU O ?_)
   refine W.condT O (O) ?_
   refine W.seq ?_
   refine W.l0 2 [.y 6 _,.y 7 _] [] [] [(6,_),(7,_)] [] 35 ⟨aU fun _ _ H _=>R.asg (show ev _ _ (.const (.int .u64 0)) = some (.u64 0) from O) O H,aU fun _ _ H _=>R.asg (kI 1 O) O H,Zt⟩ O O O O (tU O ?_)
   refine W.ret ?_
   exact Ends.many (.inr O) (.cons O O O Zt (.cons O O O Zt .nil)) (O) (show [(6,true),(7,true)].Nodup by decide)
 · by_cases k2 : 4096 < ins
   · refine W.l0 18 [.y 8 _,.y 9 _,.y 10 _,.y 11 _,.y 12 _,.y 13 _,.y 14 _,.x 15,.x 16,.y 17 _,.y 18 _,.x 19,.x 20,.y 21 _,.y 22 _,.x 23,.x 24,.y 25 _] [] [] [(0,_),(1,_),(2,_),(25,_)] [] 35 ⟨mU 0 O O,aU fun _ _ H K=>R.bin (eU K 8 O) (kI 0 O) O Zt H,mU 9 O O,aW O O (gF (dF k1) O) fun _ _ H K=>R.mov (eU K 0 O) O H,aW O O (gF (dF k1) O) fun _ _ H K=>R.bin (eU K 11 O) (kI 4096 O) O Zt H,aU fun _ _ H K=>R.pickF (eU K 10 O) (dF k1) (eU K 12 O) O H,mU 13 O O,aF O O (gT (dT k2) O),aF O O (gT (dT k2) O),aU fun _ _ H K=>R.pickT (eU K 14 O) (dT k2) (kB true O) O H,mU 17 O O,aF O O (gT (O) O),aF O O (gT (O) O),aU fun _ _ H K=>R.pickT (eU K 18 O) (O) (kB true O) O H,mU 21 O O,aF O O (gT (O) O),aF O O (gT (O) O),aU fun _ _ H K=>R.pickT (eU K 22 O) (O) (kB true O) O H,Zt⟩ O O O O (tU O ?_)
     refine W.condT O (O) ?_
     refine W.seq ?_
     refine W.l0 2 [.y 6 _,.y 7 _] [] [] [(6,_),(7,_)] [] 35 ⟨aU fun _ _ H _=>R.asg (show ev _ _ (.const (.int .u64 0)) = some (.u64 0) from O) O H,aU fun _ _ H _=>R.asg (kI 1 O) O H,Zt⟩ O O O O (tU O ?_)
     refine W.ret ?_
     exact Ends.many (.inr O) (.cons O O O Zt (.cons O O O Zt .nil)) (O) (show [(6,true),(7,true)].Nodup by decide)
   · by_cases k3 : outs < 0
     · refine W.l0 18 [.y 8 _,.y 9 _,.y 10 _,.y 11 _,.y 12 _,.y 13 _,.y 14 _,.y 15 _,.y 16 _,.y 17 _,.y 18 _,.x 19,.x 20,.y 21 _,.y 22 _,.x 23,.x 24,.y 25 _] [] [] [(0,_),(1,_),(2,_),(25,_)] [] 35 ⟨mU 0 O O,aU fun _ _ H K=>R.bin (eU K 8 O) (kI 0 O) O Zt H,mU 9 O O,aW O O (gF (dF k1) O) fun _ _ H K=>R.mov (eU K 0 O) O H,aW O O (gF (dF k1) O) fun _ _ H K=>R.bin (eU K 11 O) (kI 4096 O) O Zt H,aU fun _ _ H K=>R.pickF (eU K 10 O) (dF k1) (eU K 12 O) O H,mU 13 O O,aW O O (gF (dF k2) O) fun _ _ H K=>R.mov (eU K 1 O) O H,aW O O (gF (dF k2) O) fun _ _ H K=>R.bin (eU K 15 O) (kI 0 O) O Zt H,aU fun _ _ H K=>R.pickF (eU K 14 O) (dF k2) (eU K 16 O) O H,mU 17 O O,aF O O (gT (dT k3) O),aF O O (gT (dT k3) O),aU fun _ _ H K=>R.pickT (eU K 18 O) (dT k3) (kB true O) O H,mU 21 O O,aF O O (gT (O) O),aF O O (gT (O) O),aU fun _ _ H K=>R.pickT (eU K 22 O) (O) (kB true O) O H,Zt⟩ O O O O (tU O ?_)
       refine W.condT O (O) ?_
       refine W.seq ?_
       refine W.l0 2 [.y 6 _,.y 7 _] [] [] [(6,_),(7,_)] [] 35 ⟨aU fun _ _ H _=>R.asg (show ev _ _ (.const (.int .u64 0)) = some (.u64 0) from O) O H,aU fun _ _ H _=>R.asg (kI 1 O) O H,Zt⟩ O O O O (tU O ?_)
       refine W.ret ?_
       exact Ends.many (.inr O) (.cons O O O Zt (.cons O O O Zt .nil)) (O) (show [(6,true),(7,true)].Nodup by decide)
     · by_cases k4 : 4096 < outs
       · refine W.l0 18 [.y 8 _,.y 9 _,.y 10 _,.y 11 _,.y 12 _,.y 13 _,.y 14 _,.y 15 _,.y 16 _,.y 17 _,.y 18 _,.y 19 _,.y 20 _,.y 21 _,.y 22 _,.x 23,.x 24,.y 25 _] [] [] [(0,_),(1,_),(2,_),(25,_)] [] 35 ⟨mU 0 O O,aU fun _ _ H K=>R.bin (eU K 8 O) (kI 0 O) O Zt H,mU 9 O O,aW O O (gF (dF k1) O) fun _ _ H K=>R.mov (eU K 0 O) O H,aW O O (gF (dF k1) O) fun _ _ H K=>R.bin (eU K 11 O) (kI 4096 O) O Zt H,aU fun _ _ H K=>R.pickF (eU K 10 O) (dF k1) (eU K 12 O) O H,mU 13 O O,aW O O (gF (dF k2) O) fun _ _ H K=>R.mov (eU K 1 O) O H,aW O O (gF (dF k2) O) fun _ _ H K=>R.bin (eU K 15 O) (kI 0 O) O Zt H,aU fun _ _ H K=>R.pickF (eU K 14 O) (dF k2) (eU K 16 O) O H,mU 17 O O,aW O O (gF (dF k3) O) fun _ _ H K=>R.mov (eU K 1 O) O H,aW O O (gF (dF k3) O) fun _ _ H K=>R.bin (eU K 19 O) (kI 4096 O) O Zt H,aU fun _ _ H K=>R.pickF (eU K 18 O) (dF k3) (eU K 20 O) O H,mU 21 O O,aF O O (gT (dT k4) O),aF O O (gT (dT k4) O),aU fun _ _ H K=>R.pickT (eU K 22 O) (dT k4) (kB true O) O H,Zt⟩ O O O O (tU O ?_)
         refine W.condT O (O) ?_
         refine W.seq ?_
         refine W.l0 2 [.y 6 _,.y 7 _] [] [] [(6,_),(7,_)] [] 35 ⟨aU fun _ _ H _=>R.asg (show ev _ _ (.const (.int .u64 0)) = some (.u64 0) from O) O H,aU fun _ _ H _=>R.asg (kI 1 O) O H,Zt⟩ O O O O (tU O ?_)
         refine W.ret ?_
         exact Ends.many (.inr O) (.cons O O O Zt (.cons O O O Zt .nil)) (O) (show [(6,true),(7,true)].Nodup by decide)
       · refine W.l0 18 [.y 8 _,.y 9 _,.y 10 _,.y 11 _,.y 12 _,.y 13 _,.y 14 _,.y 15 _,.y 16 _,.y 17 _,.y 18 _,.y 19 _,.y 20 _,.y 21 _,.y 22 _,.y 23 _,.y 24 _,.y 25 _] [] [] [(0,_),(1,_),(2,_),(25,_)] [] 35 ⟨mU 0 O O,aU fun _ _ H K=>R.bin (eU K 8 O) (kI 0 O) O Zt H,mU 9 O O,aW O O (gF (dF k1) O) fun _ _ H K=>R.mov (eU K 0 O) O H,aW O O (gF (dF k1) O) fun _ _ H K=>R.bin (eU K 11 O) (kI 4096 O) O Zt H,aU fun _ _ H K=>R.pickF (eU K 10 O) (dF k1) (eU K 12 O) O H,mU 13 O O,aW O O (gF (dF k2) O) fun _ _ H K=>R.mov (eU K 1 O) O H,aW O O (gF (dF k2) O) fun _ _ H K=>R.bin (eU K 15 O) (kI 0 O) O Zt H,aU fun _ _ H K=>R.pickF (eU K 14 O) (dF k2) (eU K 16 O) O H,mU 17 O O,aW O O (gF (dF k3) O) fun _ _ H K=>R.mov (eU K 1 O) O H,aW O O (gF (dF k3) O) fun _ _ H K=>R.bin (eU K 19 O) (kI 4096 O) O Zt H,aU fun _ _ H K=>R.pickF (eU K 18 O) (dF k3) (eU K 20 O) O H,mU 21 O O,aW O O (gF (dF k4) O) fun _ _ H K=>R.mov (eU K 2 O) O H,aW O O (gF (dF k4) O) fun _ _ H K=>R.bin (eU K 23 O) (show ev _ _ (.const (.int .u64 1000000)) = some (.u64 1000000) from O) O Zt H,aU fun _ _ H K=>R.pickF (eU K 22 O) (dF k4) (eU K 24 O) O H,Zt⟩ O O O O (tU O ?_)
         refine W.condT rfl (dT (by rcases hf with h | h | h | h | h <;> first | exact absurd h k1 | exact absurd h k2 | exact absurd h k3 | exact absurd h k4 | exact h)) ?_
         refine W.seq ?_
         refine W.l0 2 [.y 6 _,.y 7 _] [] [] [(6,_),(7,_)] [] 35 ⟨aU fun _ _ H _=>R.asg (show ev _ _ (.const (.int .u64 0)) = some (.u64 0) from O) O H,aU fun _ _ H _=>R.asg (kI 1 O) O H,Zt⟩ O O O O (tU O ?_)
         refine W.ret ?_
         exact Ends.many (.inr O) (.cons O O O Zt (.cons O O O Zt .nil)) (O) (show [(6,true),(7,true)].Nodup by decide)
theorem fee_good (ins outs : Nat) (rate : UInt64) (hi : ins <= 4096) (ho : outs <= 4096) (hr : ¬ 1000000 < rate) : Fn Try.prog gl 9 [.int ((ins : Nat) : Int),.int ((outs : Nat) : Int),.u64 rate] (.tup [.u64 (UInt64.ofInt ((10 + 148 * ins + 34 * outs : Nat) : Int) * rate),.int 0]):=by
 refine Fn.of (n:=35) Try.func9 rfl rfl rfl (nU rfl) fun C hC hD=>?_
 refine W.seq ?_
 refine W.l0 2 [.y 6 _,.y 7 _] [] [] [(0,_),(1,_),(2,_)] [] 35 ⟨aU fun _ _ H _=>R.asg (show ev _ _ (.const (.int .u64 0)) = some (.u64 0) from O) O H,aU fun _ _ H _=>R.asg (kI 0 O) O H,Zt⟩ O O O O (tU O ?_)
 refine W.seq (W.seq ?_)
 refine W.l0 18 [.y 8 _,.y 9 _,.y 10 _,.y 11 _,.y 12 _,.y 13 _,.y 14 _,.y 15 _,.y 16 _,.y 17 _,.y 18 _,.y 19 _,.y 20 _,.y 21 _,.y 22 _,.y 23 _,.y 24 _,.y 25 _] [] [] [(0,_),(1,_),(2,_),(25,_)] [] 35 ⟨mU 0 O O,aU fun _ _ H K=>R.lssN (ins) (0) (eU K 8 O) (kI 0 O) H,mU 9 O O,aW O O (gF (dF (by omega)) O) fun _ _ H K=>R.mov (eU K 0 O) O H,aW O O (gF (dF (by omega)) O) fun _ _ H K=>R.gtrN (ins) (4096) (eU K 11 O) (kI 4096 O) H,aU fun _ _ H K=>R.pickF (eU K 10 O) (dF (by omega)) (eU K 12 O) O H,mU 13 O O,aW O O (gF (dF (by omega)) O) fun _ _ H K=>R.mov (eU K 1 O) O H,aW O O (gF (dF (by omega)) O) fun _ _ H K=>R.lssN (outs) (0) (eU K 15 O) (kI 0 O) H,aU fun _ _ H K=>R.pickF (eU K 14 O) (dF (by omega)) (eU K 16 O) O H,mU 17 O O,aW O O (gF (dF (by omega)) O) fun _ _ H K=>R.mov (eU K 1 O) O H,aW O O (gF (dF (by omega)) O) fun _ _ H K=>R.gtrN (outs) (4096) (eU K 19 O) (kI 4096 O) H,aU fun _ _ H K=>R.pickF (eU K 18 O) (dF (by omega)) (eU K 20 O) O H,mU 21 O O,aW O O (gF (dF (by omega)) O) fun _ _ H K=>R.mov (eU K 2 O) O H,aW O O (gF (dF (by omega)) O) fun _ _ H K=>R.bin (eU K 23 O) (show ev _ _ (.const (.int .u64 1000000)) = some (.u64 1000000) from O) O Zt H,aU fun _ _ H K=>R.pickF (eU K 22 O) (dF (by omega)) (eU K 24 O) O H,Zt⟩ O O O O (tU O ?_)
 refine W.condF O (dF hr) ?_
 refine W.skip (W.seq ?_)
 refine W.l0 11 [.y 26 _,.y 27 _,.y 28 _,.y 29 _,.y 30 _,.y 31 _,.y 32 _,.y 33 _,.y 34 _,.y 6 _,.y 7 _] [] [] [(6,_),(7,_)] [] 35 ⟨mU 0 O O,aU fun _ _ H K=>R.mulN (148) (ins) (kI 148 O) (eU K 26 O) bU H,aU fun _ _ H K=>R.addN (10) ((148 * ins)) (kI 10 O) (eU K 27 O) bU H,mU 1 O O,aU fun _ _ H K=>R.mulN (34) (outs) (kI 34 O) (eU K 29 O) bU H,aU fun _ _ H K=>R.addN ((10 + (148 * ins))) ((34 * outs)) (eU K 28 O) (eU K 30 O) bU H,aU fun _ _ H K=>R.conv (eU K 31 O) O H,mU 2 O O,aU fun _ _ H K=>R.bin (eU K 32 O) (eU K 33 O) O Zt H,aU fun _ _ H K=>R.asg (eU K 34 O) O H,aU fun _ _ H _=>R.asg (kI 0 O) O H,Zt⟩ O O O O (tU O ?_)
 refine W.ret ?_
 exact Ends.many (.inr O) (.cons O O O Zt (.cons O O O Zt .nil)) (O) (show [(6,true),(7,true)].Nodup by decide)
theorem rfee_bad (ins outs : Int) (rate : UInt64) (hf : feeP ins outs rate) : Fn Try.prog gl 10 [.int ins,.int outs,.u64 rate] (.tup [.u64 0,.int 1]):=by
 refine Fn.of (n:=35) Try.func10 rfl rfl rfl (nU rfl) fun C hC hD=>?_
 refine W.seq ?_
 refine W.l0 2 [.y 6 _,.y 7 _] [] [] [(0,_),(1,_),(2,_)] [] 35 ⟨aU fun _ _ H _=>R.asg (show ev _ _ (.const (.int .u64 0)) = some (.u64 0) from O) O H,aU fun _ _ H _=>R.asg (kI 0 O) O H,Zt⟩ O O O O (tU O ?_)
 refine W.seq (W.seq ?_)
 by_cases k1 : ins < 0
 · refine W.l0 18 [.y 8 _,.y 9 _,.y 10 _,.x 11,.x 12,.y 13 _,.y 14 _,.x 15,.x 16,.y 17 _,.y 18 _,.x 19,.x 20,.y 21 _,.y 22 _,.x 23,.x 24,.y 25 _] [] [] [(0,_),(1,_),(2,_),(25,_)] [] 35 ⟨mU 0 O O,aU fun _ _ H K=>R.bin (eU K 8 O) (kI 0 O) O Zt H,mU 9 O O,aF O O (gT (dT k1) O),aF O O (gT (dT k1) O),aU fun _ _ H K=>R.pickT (eU K 10 O) (dT k1) (kB true O) O H,mU 13 O O,aF O O (gT (O) O),aF O O (gT (O) O),aU fun _ _ H K=>R.pickT (eU K 14 O) (O) (kB true O) O H,mU 17 O O,aF O O (gT (O) O),aF O O (gT (O) O),aU fun _ _ H K=>R.pickT (eU K 18 O) (O) (kB true O) O H,mU 21 O O,aF O O (gT (O) O),aF O O (gT (O) O),aU fun _ _ H K=>R.pickT (eU K 22 O) (O) (kB true O) O H,Zt⟩ O O O O (tU O ?_)
   refine W.condT O (O) ?_
   refine W.seq ?_
   refine W.l0 2 [.y 6 _,.y 7 _] [] [] [(6,_),(7,_)] [] 35 ⟨aU fun _ _ H _=>R.asg (show ev _ _ (.const (.int .u64 0)) = some (.u64 0) from O) O H,aU fun _ _ H _=>R.asg (kI 1 O) O H,Zt⟩ O O O O (tU O ?_)
   refine W.ret ?_
   exact Ends.many (.inr O) (.cons O O O Zt (.cons O O O Zt .nil)) (O) (show [(6,true),(7,true)].Nodup by decide)
 · by_cases k2 : 4096 < ins
   · refine W.l0 18 [.y 8 _,.y 9 _,.y 10 _,.y 11 _,.y 12 _,.y 13 _,.y 14 _,.x 15,.x 16,.y 17 _,.y 18 _,.x 19,.x 20,.y 21 _,.y 22 _,.x 23,.x 24,.y 25 _] [] [] [(0,_),(1,_),(2,_),(25,_)] [] 35 ⟨mU 0 O O,aU fun _ _ H K=>R.bin (eU K 8 O) (kI 0 O) O Zt H,mU 9 O O,aW O O (gF (dF k1) O) fun _ _ H K=>R.mov (eU K 0 O) O H,aW O O (gF (dF k1) O) fun _ _ H K=>R.bin (eU K 11 O) (kI 4096 O) O Zt H,aU fun _ _ H K=>R.pickF (eU K 10 O) (dF k1) (eU K 12 O) O H,mU 13 O O,aF O O (gT (dT k2) O),aF O O (gT (dT k2) O),aU fun _ _ H K=>R.pickT (eU K 14 O) (dT k2) (kB true O) O H,mU 17 O O,aF O O (gT (O) O),aF O O (gT (O) O),aU fun _ _ H K=>R.pickT (eU K 18 O) (O) (kB true O) O H,mU 21 O O,aF O O (gT (O) O),aF O O (gT (O) O),aU fun _ _ H K=>R.pickT (eU K 22 O) (O) (kB true O) O H,Zt⟩ O O O O (tU O ?_)
     refine W.condT O (O) ?_
     refine W.seq ?_
     refine W.l0 2 [.y 6 _,.y 7 _] [] [] [(6,_),(7,_)] [] 35 ⟨aU fun _ _ H _=>R.asg (show ev _ _ (.const (.int .u64 0)) = some (.u64 0) from O) O H,aU fun _ _ H _=>R.asg (kI 1 O) O H,Zt⟩ O O O O (tU O ?_)
     refine W.ret ?_
     exact Ends.many (.inr O) (.cons O O O Zt (.cons O O O Zt .nil)) (O) (show [(6,true),(7,true)].Nodup by decide)
   · by_cases k3 : outs < 0
     · refine W.l0 18 [.y 8 _,.y 9 _,.y 10 _,.y 11 _,.y 12 _,.y 13 _,.y 14 _,.y 15 _,.y 16 _,.y 17 _,.y 18 _,.x 19,.x 20,.y 21 _,.y 22 _,.x 23,.x 24,.y 25 _] [] [] [(0,_),(1,_),(2,_),(25,_)] [] 35 ⟨mU 0 O O,aU fun _ _ H K=>R.bin (eU K 8 O) (kI 0 O) O Zt H,mU 9 O O,aW O O (gF (dF k1) O) fun _ _ H K=>R.mov (eU K 0 O) O H,aW O O (gF (dF k1) O) fun _ _ H K=>R.bin (eU K 11 O) (kI 4096 O) O Zt H,aU fun _ _ H K=>R.pickF (eU K 10 O) (dF k1) (eU K 12 O) O H,mU 13 O O,aW O O (gF (dF k2) O) fun _ _ H K=>R.mov (eU K 1 O) O H,aW O O (gF (dF k2) O) fun _ _ H K=>R.bin (eU K 15 O) (kI 0 O) O Zt H,aU fun _ _ H K=>R.pickF (eU K 14 O) (dF k2) (eU K 16 O) O H,mU 17 O O,aF O O (gT (dT k3) O),aF O O (gT (dT k3) O),aU fun _ _ H K=>R.pickT (eU K 18 O) (dT k3) (kB true O) O H,mU 21 O O,aF O O (gT (O) O),aF O O (gT (O) O),aU fun _ _ H K=>R.pickT (eU K 22 O) (O) (kB true O) O H,Zt⟩ O O O O (tU O ?_)
       refine W.condT O (O) ?_
       refine W.seq ?_
       refine W.l0 2 [.y 6 _,.y 7 _] [] [] [(6,_),(7,_)] [] 35 ⟨aU fun _ _ H _=>R.asg (show ev _ _ (.const (.int .u64 0)) = some (.u64 0) from O) O H,aU fun _ _ H _=>R.asg (kI 1 O) O H,Zt⟩ O O O O (tU O ?_)
       refine W.ret ?_
       exact Ends.many (.inr O) (.cons O O O Zt (.cons O O O Zt .nil)) (O) (show [(6,true),(7,true)].Nodup by decide)
     · by_cases k4 : 4096 < outs
       · refine W.l0 18 [.y 8 _,.y 9 _,.y 10 _,.y 11 _,.y 12 _,.y 13 _,.y 14 _,.y 15 _,.y 16 _,.y 17 _,.y 18 _,.y 19 _,.y 20 _,.y 21 _,.y 22 _,.x 23,.x 24,.y 25 _] [] [] [(0,_),(1,_),(2,_),(25,_)] [] 35 ⟨mU 0 O O,aU fun _ _ H K=>R.bin (eU K 8 O) (kI 0 O) O Zt H,mU 9 O O,aW O O (gF (dF k1) O) fun _ _ H K=>R.mov (eU K 0 O) O H,aW O O (gF (dF k1) O) fun _ _ H K=>R.bin (eU K 11 O) (kI 4096 O) O Zt H,aU fun _ _ H K=>R.pickF (eU K 10 O) (dF k1) (eU K 12 O) O H,mU 13 O O,aW O O (gF (dF k2) O) fun _ _ H K=>R.mov (eU K 1 O) O H,aW O O (gF (dF k2) O) fun _ _ H K=>R.bin (eU K 15 O) (kI 0 O) O Zt H,aU fun _ _ H K=>R.pickF (eU K 14 O) (dF k2) (eU K 16 O) O H,mU 17 O O,aW O O (gF (dF k3) O) fun _ _ H K=>R.mov (eU K 1 O) O H,aW O O (gF (dF k3) O) fun _ _ H K=>R.bin (eU K 19 O) (kI 4096 O) O Zt H,aU fun _ _ H K=>R.pickF (eU K 18 O) (dF k3) (eU K 20 O) O H,mU 21 O O,aF O O (gT (dT k4) O),aF O O (gT (dT k4) O),aU fun _ _ H K=>R.pickT (eU K 22 O) (dT k4) (kB true O) O H,Zt⟩ O O O O (tU O ?_)
         refine W.condT O (O) ?_
         refine W.seq ?_
         refine W.l0 2 [.y 6 _,.y 7 _] [] [] [(6,_),(7,_)] [] 35 ⟨aU fun _ _ H _=>R.asg (show ev _ _ (.const (.int .u64 0)) = some (.u64 0) from O) O H,aU fun _ _ H _=>R.asg (kI 1 O) O H,Zt⟩ O O O O (tU O ?_)
         refine W.ret ?_
         exact Ends.many (.inr O) (.cons O O O Zt (.cons O O O Zt .nil)) (O) (show [(6,true),(7,true)].Nodup by decide)
       · refine W.l0 18 [.y 8 _,.y 9 _,.y 10 _,.y 11 _,.y 12 _,.y 13 _,.y 14 _,.y 15 _,.y 16 _,.y 17 _,.y 18 _,.y 19 _,.y 20 _,.y 21 _,.y 22 _,.y 23 _,.y 24 _,.y 25 _] [] [] [(0,_),(1,_),(2,_),(25,_)] [] 35 ⟨mU 0 O O,aU fun _ _ H K=>R.bin (eU K 8 O) (kI 0 O) O Zt H,mU 9 O O,aW O O (gF (dF k1) O) fun _ _ H K=>R.mov (eU K 0 O) O H,aW O O (gF (dF k1) O) fun _ _ H K=>R.bin (eU K 11 O) (kI 4096 O) O Zt H,aU fun _ _ H K=>R.pickF (eU K 10 O) (dF k1) (eU K 12 O) O H,mU 13 O O,aW O O (gF (dF k2) O) fun _ _ H K=>R.mov (eU K 1 O) O H,aW O O (gF (dF k2) O) fun _ _ H K=>R.bin (eU K 15 O) (kI 0 O) O Zt H,aU fun _ _ H K=>R.pickF (eU K 14 O) (dF k2) (eU K 16 O) O H,mU 17 O O,aW O O (gF (dF k3) O) fun _ _ H K=>R.mov (eU K 1 O) O H,aW O O (gF (dF k3) O) fun _ _ H K=>R.bin (eU K 19 O) (kI 4096 O) O Zt H,aU fun _ _ H K=>R.pickF (eU K 18 O) (dF k3) (eU K 20 O) O H,mU 21 O O,aW O O (gF (dF k4) O) fun _ _ H K=>R.mov (eU K 2 O) O H,aW O O (gF (dF k4) O) fun _ _ H K=>R.bin (eU K 23 O) (show ev _ _ (.const (.int .u64 1000000)) = some (.u64 1000000) from O) O Zt H,aU fun _ _ H K=>R.pickF (eU K 22 O) (dF k4) (eU K 24 O) O H,Zt⟩ O O O O (tU O ?_)
         refine W.condT rfl (dT (by rcases hf with h | h | h | h | h <;> first | exact absurd h k1 | exact absurd h k2 | exact absurd h k3 | exact absurd h k4 | exact h)) ?_
         refine W.seq ?_
         refine W.l0 2 [.y 6 _,.y 7 _] [] [] [(6,_),(7,_)] [] 35 ⟨aU fun _ _ H _=>R.asg (show ev _ _ (.const (.int .u64 0)) = some (.u64 0) from O) O H,aU fun _ _ H _=>R.asg (kI 1 O) O H,Zt⟩ O O O O (tU O ?_)
         refine W.ret ?_
         exact Ends.many (.inr O) (.cons O O O Zt (.cons O O O Zt .nil)) (O) (show [(6,true),(7,true)].Nodup by decide)
theorem rfee_good (ins outs : Nat) (rate : UInt64) (hi : ins <= 4096) (ho : outs <= 4096) (hr : ¬ 1000000 < rate) : Fn Try.prog gl 10 [.int ((ins : Nat) : Int),.int ((outs : Nat) : Int),.u64 rate] (.tup [.u64 (UInt64.ofInt ((10 + 148 * ins + 34 * outs : Nat) : Int) * rate),.int 0]):=by
 refine Fn.of (n:=35) Try.func10 rfl rfl rfl (nU rfl) fun C hC hD=>?_
 refine W.seq ?_
 refine W.l0 2 [.y 6 _,.y 7 _] [] [] [(0,_),(1,_),(2,_)] [] 35 ⟨aU fun _ _ H _=>R.asg (show ev _ _ (.const (.int .u64 0)) = some (.u64 0) from O) O H,aU fun _ _ H _=>R.asg (kI 0 O) O H,Zt⟩ O O O O (tU O ?_)
 refine W.seq (W.seq ?_)
 refine W.l0 18 [.y 8 _,.y 9 _,.y 10 _,.y 11 _,.y 12 _,.y 13 _,.y 14 _,.y 15 _,.y 16 _,.y 17 _,.y 18 _,.y 19 _,.y 20 _,.y 21 _,.y 22 _,.y 23 _,.y 24 _,.y 25 _] [] [] [(0,_),(1,_),(2,_),(25,_)] [] 35 ⟨mU 0 O O,aU fun _ _ H K=>R.lssN (ins) (0) (eU K 8 O) (kI 0 O) H,mU 9 O O,aW O O (gF (dF (by omega)) O) fun _ _ H K=>R.mov (eU K 0 O) O H,aW O O (gF (dF (by omega)) O) fun _ _ H K=>R.gtrN (ins) (4096) (eU K 11 O) (kI 4096 O) H,aU fun _ _ H K=>R.pickF (eU K 10 O) (dF (by omega)) (eU K 12 O) O H,mU 13 O O,aW O O (gF (dF (by omega)) O) fun _ _ H K=>R.mov (eU K 1 O) O H,aW O O (gF (dF (by omega)) O) fun _ _ H K=>R.lssN (outs) (0) (eU K 15 O) (kI 0 O) H,aU fun _ _ H K=>R.pickF (eU K 14 O) (dF (by omega)) (eU K 16 O) O H,mU 17 O O,aW O O (gF (dF (by omega)) O) fun _ _ H K=>R.mov (eU K 1 O) O H,aW O O (gF (dF (by omega)) O) fun _ _ H K=>R.gtrN (outs) (4096) (eU K 19 O) (kI 4096 O) H,aU fun _ _ H K=>R.pickF (eU K 18 O) (dF (by omega)) (eU K 20 O) O H,mU 21 O O,aW O O (gF (dF (by omega)) O) fun _ _ H K=>R.mov (eU K 2 O) O H,aW O O (gF (dF (by omega)) O) fun _ _ H K=>R.bin (eU K 23 O) (show ev _ _ (.const (.int .u64 1000000)) = some (.u64 1000000) from O) O Zt H,aU fun _ _ H K=>R.pickF (eU K 22 O) (dF (by omega)) (eU K 24 O) O H,Zt⟩ O O O O (tU O ?_)
 refine W.condF O (dF hr) ?_
 refine W.skip (W.seq ?_)
 refine W.l0 11 [.y 26 _,.y 27 _,.y 28 _,.y 29 _,.y 30 _,.y 31 _,.y 32 _,.y 33 _,.y 34 _,.y 6 _,.y 7 _] [] [] [(6,_),(7,_)] [] 35 ⟨mU 0 O O,aU fun _ _ H K=>R.mulN (148) (ins) (kI 148 O) (eU K 26 O) bU H,aU fun _ _ H K=>R.addN (10) ((148 * ins)) (kI 10 O) (eU K 27 O) bU H,mU 1 O O,aU fun _ _ H K=>R.mulN (34) (outs) (kI 34 O) (eU K 29 O) bU H,aU fun _ _ H K=>R.addN ((10 + (148 * ins))) ((34 * outs)) (eU K 28 O) (eU K 30 O) bU H,aU fun _ _ H K=>R.conv (eU K 31 O) O H,mU 2 O O,aU fun _ _ H K=>R.bin (eU K 32 O) (eU K 33 O) O Zt H,aU fun _ _ H K=>R.asg (eU K 34 O) O H,aU fun _ _ H _=>R.asg (kI 0 O) O H,Zt⟩ O O O O (tU O ?_)
 refine W.ret ?_
 exact Ends.many (.inr O) (.cons O O O Zt (.cons O O O Zt .nil)) (O) (show [(6,true),(7,true)].Nodup by decide)
end Go.Sx

namespace Go.Sx
open Go.Proofs Go.Shelf Go.RowKit Go.Sort
theorem bfalse {b : Bool} (h : ¬ b = true) : b = false:=by cases b; rfl; exact absurd rfl h
def hs32 (l : List Un) : Prop:=∀ c ∈ l,c.tx.length = 32
theorem hs32.get {l : List Un} (h : hs32 l) {i : Nat} (hi : i < l.length) : l[i]!.tx.length = 32:=by
 rw [getElem!_pos l i hi]; exact h _ (List.getElem_mem hi)
theorem nrm_val {c : Un} (h : c.tx.length = 32) : (nrm c).1 = c:=by rw [nrm,dif_pos h]
theorem nrm_map {l : List Un} (h : hs32 l) : (l.map nrm).map (·.1) = l:=by
 rw [List.map_map]
 conv=>rhs; rw [<- List.map_id l]
 exact List.map_congr_left fun c hc=>nrm_val (h c hc)
theorem sortU_perm {l : List Un} (h : hs32 l) : (sortU l).Perm l:=by
 have:=(srtA_ok l).1
 obtain ⟨hs,_,hp⟩:=this
 have e1 : (srtA l).extract 0 (l.map nrm).toArray.size = srtA l:=by rw [<- hs]; simp
 have e2 : (l.map nrm).toArray.extract 0 (l.map nrm).toArray.size = (l.map nrm).toArray:=by simp [List.take_of_length_le]
 rw [e1,e2] at hp
 have:=hp.map (·.1)
 rw [List.toList_toArray,nrm_map h] at this
 exact this
theorem sortU_len (l : List Un) : (sortU l).length = l.length:=by
 have:=(srtA_ok l).1.1
 simp only [sortU,List.length_map,Array.length_toList,this]
 simp
theorem sortU_hs {l : List Un} (h : hs32 l) : hs32 (sortU l):=fun c hc=>h c ((sortU_perm h).mem_iff.1 hc)
theorem sortU_sorted (l : List Un) {i j : Nat} (hij : i < j) (hj : j < l.length) : 0 <= ordS (sortU l)[j]! (sortU l)[i]!:=by
 have h1:=(srtA_ok l).2 i j (Nat.zero_le _) hij (by simpa using hj)
 have hs:=(srtA_ok l).1.1
 have hj' : j < (srtA l).size:=by rw [hs]; simpa using hj
 have hi' : i < (srtA l).size:=by omega
 have e : ∀ k (hk : k < (srtA l).size),(sortU l)[k]! = ((srtA l)[k]!).1:=fun k hk=>by
  rw [getElem!_pos (srtA l) k hk,getElem!_pos (sortU l) k (by simpa [sortU] using hk)]
  simp [sortU]
 rw [e j hj',e i hi']
 simp only [ltOf,cfU,decide_eq_false_iff_not] at h1
 exact Int.not_lt.1 (of_decide_eq_false h1)
theorem R.srtU {C : Ctx} {σ : Sg} {s s0 e t : Nat} {tys : Array TypeId} {rt : TypeId} {pos : String} {aft : Array Edge} {gd_ : Option (Nat × Bool)} (l : List Un) (hl : hs32 l) (hn : l.length <= 1000000)
 (ho : ownr σ s s0) (hs : σ.get s0 = some (.sl (some e) 35 (l.map coD))) (ht : t < σ.n) :
 OpS Try.prog C ⟨some t,.call { callee:=.value (.func 25),args:=#[.tmp s,.func 26],argTypes:=tys },rt,pos,aft,gd_⟩ σ ((σ.upd s0 (.sl (some e) 35 ((sortU l).map coD))).set t (.tup [])):=by
 refine R.sortS (el:=fun c : UnH=>coD c.1) (srtC l hn) encU_len encU_one (fun _ _ _ _ x=>encU_rc x) (fun _ _ _ _ _ _ x h=>encU_rc' x h) ?_ ?_ ho hs ht
 · conv=>lhs; rw [<- nrm_map hl]
   rw [List.map_map,List.toList_toArray]
   rfl
 · rw [Go.Sx.sortU,List.map_map]; rfl
theorem fee_ok (ins outs : Int) (rate : UInt64) : Fn Try.prog gl 9 [.int ins,.int outs,.u64 rate] (.tup [.u64 (feeV ins outs rate),.int (feeE ins outs rate)]):=by
 by_cases hf : feeP ins outs rate
 · rw [<- fee_t hf]; exact fee_bad ins outs rate hf
 · rw [<- fee_f hf]
   unfold feeP at hf
   obtain ⟨i,rfl⟩:=Int.eq_ofNat_of_zero_le (show 0 <= ins by omega)
   obtain ⟨o,rfl⟩:=Int.eq_ofNat_of_zero_le (show 0 <= outs by omega)
   have:=fee_good i o rate (by omega) (by omega) (fun h=>hf (.inr (.inr (.inr (.inr h)))))
   have e : ((10 + 148 * i + 34 * o : Nat) : Int) = 10 + 148 * (i : Int) + 34 * (o : Int):=by omega
   rw [e] at this
   exact this
theorem rfee_ok (ins outs : Int) (rate : UInt64) : Fn Try.prog gl 10 [.int ins,.int outs,.u64 rate] (.tup [.u64 (feeV ins outs rate),.int (feeE ins outs rate)]):=by
 by_cases hf : feeP ins outs rate
 · rw [<- fee_t hf]; exact rfee_bad ins outs rate hf
 · rw [<- fee_f hf]
   unfold feeP at hf
   obtain ⟨i,rfl⟩:=Int.eq_ofNat_of_zero_le (show 0 <= ins by omega)
   obtain ⟨o,rfl⟩:=Int.eq_ofNat_of_zero_le (show 0 <= outs by omega)
   have:=rfee_good i o rate (by omega) (by omega) (fun h=>hf (.inr (.inr (.inr (.inr h)))))
   have e : ((10 + 148 * i + 34 * o : Nat) : Int) = 10 + 148 * (i : Int) + 34 * (o : Int):=by omega
   rw [e] at this
   exact this
theorem tot_f {l : List Wnt} (h : ¬ totP l) : [D.u64 0,D.bool false] = [.u64 (totV l),.bool (totB l)]:=by rw [totV,totB,if_neg h,decide_eq_false h]
theorem tot_t {l : List Wnt} (h : totP l) : [D.u64 (2100000000000000 - lftI l l.length),D.bool true] = [.u64 (totV l),.bool (totB l)]:=by rw [totV,totB,if_pos h,decide_eq_true h]
theorem ren_plc (m : Nat -> Nat) (k : Plc) : (placeK k).ren m = placeK k:=by
 simp only [placeK,hashD,D.ren,D.rens]
theorem okPu (ids : List Nat) (m : List (Plc × UInt64)) : ∀ kv ∈ m.map (fun e=>(placeK e.1,D.u64 e.2)),kv.1.okB ids = true /\ kv.2.okB ids = true:=okMpK (fun _=>rfl) (fun _=>rfl)
theorem renPu (m : Nat -> Nat) (M : List (Plc × UInt64)) (i : Nat) (r : List (Nat × Bx)) : renBx m ((i,mpK placeK D.u64 M) :: r) = (m i,mpK placeK D.u64 M) :: renBx m r:=renMp (fun _=>ren_plc _ _) (fun _=>rfl) M i r
end Go.Sx

namespace Go.Sx
open Go.Proofs
theorem total_ok (ws : List Wnt) (hw : ws.length <= 1000000) : Fn Try.prog gl 21 [.sl none 2 (ws.map wntD)] (.tup [.u64 (totV ws),.bool (totB ws)]):=by
 refine Fn.of (n:=43) Try.func21 rfl rfl rfl (nU rfl) fun C hC hD=>?_
 refine W.seq ?_
 refine W.l0 2 [.y 2 _,.y 3 _] [] [] [(0,_)] [] 43 ⟨aU fun _ _ H _=>R.asg (show ev _ _ (.const (.int .u64 0)) = some (.u64 0) from O) O H,aU fun _ _ H _=>R.asg (kB false O) O H,Zt⟩ O O O O (tU O ?_)
 refine W.seq (W.seq ?_)
 by_cases k1 : ws.length = 0
 · refine W.l0 8 [.y 7 _,.y 8 _,.y 9 _,.y 10 _,.x 11,.x 12,.x 13,.y 14 _] [] [] [(0,_),(14,_)] [] 43 ⟨mU 0 O O,aU fun _ _ H K=>R.lenE (SC.sl (K 7 _ O)) (lN _) H,aU fun _ _ H K=>R.eqlN (ws.length) (0) (eU K 8 O) (kI 0 O) H,mU 9 O O,aF O O (gT (dT k1) O),aF O O (gT (dT k1) O),aF O O (gT (dT k1) O),aU fun _ _ H K=>R.pickT (eU K 10 O) (dT k1) (kB true O) O H,Zt⟩ O O O O (tU O ?_)
   refine W.condT O (O) ?_
   refine W.seq ?_
   refine W.l0 2 [.y 2 _,.y 3 _] [] [] [(2,_),(3,_)] [] 43 ⟨aU fun _ _ H _=>R.asg (show ev _ _ (.const (.int .u64 0)) = some (.u64 0) from O) O H,aU fun _ _ H _=>R.asg (kB false O) O H,Zt⟩ O O O O (tU O ?_)
   refine W.ret ?_
   exact Ends.many (.inr O) (.cons O O O Zt (.cons O O O Zt .nil)) (tot_f (fun h=>h.1 k1)) (show [(2,true),(3,true)].Nodup by decide)
 · refine W.l0 8 [.y 7 _,.y 8 _,.y 9 _,.y 10 _,.y 11 _,.y 12 _,.y 13 _,.y 14 _] [] [] [(0,_),(14,_)] [] 43 ⟨mU 0 O O,aU fun _ _ H K=>R.lenE (SC.sl (K 7 _ O)) (lN _) H,aU fun _ _ H K=>R.eqlN (ws.length) (0) (eU K 8 O) (kI 0 O) H,mU 9 O O,aW O O (gF (dF k1) O) fun _ _ H K=>R.mov (eU K 0 O) O H,aW O O (gF (dF k1) O) fun _ _ H K=>R.lenE (SC.sl (K 11 _ O)) (lN _) H,aW O O (gF (dF k1) O) fun _ _ H K=>R.gtrN (ws.length) (64) (eU K 12 O) (kI 64 O) H,aU fun _ _ H K=>R.pickF (eU K 10 O) (dF k1) (eU K 13 O) O H,Zt⟩ O O O O (tU O ?_)
   refine W.condD O (fun hc14=>?_) (fun hc14=>?_)
   · refine W.seq ?_
     refine W.l0 2 [.y 2 _,.y 3 _] [] [] [(2,_),(3,_)] [] 43 ⟨aU fun _ _ H _=>R.asg (show ev _ _ (.const (.int .u64 0)) = some (.u64 0) from O) O H,aU fun _ _ H _=>R.asg (kB false O) O H,Zt⟩ O O O O (tU O ?_)
     refine W.ret ?_
     exact Ends.many (.inr O) (.cons O O O Zt (.cons O O O Zt .nil)) (tot_f (fun h=>by have:=h.2.1; omega)) (show [(2,true),(3,true)].Nodup by decide)
   · refine W.skip (W.seq ?_)
     refine W.l0 1 [.y 4 _] [] [] [(0,_),(4,_)] [] 43 ⟨aU fun _ _ H _=>R.asg (show ev _ _ (.const (.int .u64 2100000000000000)) = some (.u64 2100000000000000) from O) O H,Zt⟩ O O O O (tU O ?_)
     refine W.seq (W.seq ?_)
     refine W.l0 3 [.y 15 _,.y 16 _,.y 17 _] [] [] [(4,_),(15,_),(16,_),(17,_)] [] 43 ⟨mU 0 O O,aU fun _ _ H K=>R.lenE (SC.sl (K 15 _ O)) (lN _) H,aU fun _ _ H _=>R.mov (kI 0 O) O H,Zt⟩ O O O O (tU O ?_)
     refine W.block ?_
     refine W.loop (α:={q__ : Nat // q__ <= ws.length /\ ∀ j < q__,ws[j]!.value ≠ 0 /\ ¬ lftI ws j < ws[j]!.value /\ ws[j]!.script.length <= 1000}) (fun q__=>⟨43,[(4,.u64 (lftI ws q__.1)),(15,.sl none 2 (ws.map wntD)),(16,.int ((ws.length : Nat) : Int)),(17,.int ((q__.1 : Nat) : Int))],[]⟩) (fun q__=>ws.length - q__.1) ⟨(0),⟨Nat.zero_le _,fun j h=>absurd h (Nat.not_lt_zero _)⟩⟩ O ?_
     rintro ⟨i,⟨hi,hok⟩⟩
     show W _ _ _ _ ⟨43,[(4,.u64 (lftI ws i)),(15,.sl none 2 (ws.map wntD)),(16,.int ((ws.length : Nat) : Int)),(17,.int ((i : Nat) : Int))],[]⟩
     have hi : i <= ws.length:=hi
     have hok : ∀ j < i,ws[j]!.value ≠ 0 /\ ¬ lftI ws j < ws[j]!.value /\ ws[j]!.script.length <= 1000:=hok
     refine W.seq ?_
     refine W.l0 1 [.y 18 _] [] [] [(4,_),(15,_),(16,_),(17,_),(18,_)] [] 43 ⟨aU fun _ _ H K=>R.lssN (i) (ws.length) (eU K 17 O) (eU K 16 O) H,Zt⟩ O O O O (tU O ?_)
     refine W.seq ?_
     refine W.condD O (fun hc18=>?_) (fun hc18=>?_)
     · refine W.skip (W.seq (W.block (W.seq ?_)))
       refine W.l0 4 [.y 19 _,.y 20 _] [] [] [(4,_),(15,_),(16,_),(17,_),(20,_)] [] 43 ⟨aU fun _ _ H K=>R.idxN (i) (SC.sl (K 15 _ O)) (evoI (eU K 17 O)) O bU H dU,aU fun _ _ H K=>R.ldE (K 19 _ O) (SC.sl (K 15 _ O)) (map_get! (l:=ws) bU) O O O O H,Zt⟩ O O O O (⟨O,_,R.alloc O (nU O),⟨O,_,R.stZ (gU 6 O) (xU 6 O) O (gV 20 O) (by rfl) (by rfl) (by rfl) (by rfl) O,tV [(4,_),(6,_),(15,_),(16,_),(17,_)] [(6,.var _)] 43 O O O ?_⟩⟩)
       refine W.seq (W.seq ?_)
       by_cases k2 : ws[i]!.value = 0
       · refine W.l0 15 [.y 21 _,.y 22 _,.y 23 _,.y 24 _,.x 25,.x 26,.x 27,.x 28,.y 29 _,.y 30 _,.x 31,.x 32,.x 33,.x 34,.y 35 _] [] [] [(4,_),(6,_),(15,_),(16,_),(17,_),(35,_)] [(6,.var _)] 43 ⟨aU (fU 6 O O),aU (lU 21 O O O O O O O),aU fun _ _ H K=>R.bin (eU K 22 O) (show ev _ _ (.const (.int .u64 0)) = some (.u64 0) from O) O Zt H,mU 23 O O,aF O O (gT (beq_iff_eq.2 k2) O),aF O O (gT (beq_iff_eq.2 k2) O),aF O O (gT (beq_iff_eq.2 k2) O),aF O O (gT (beq_iff_eq.2 k2) O),aU fun _ _ H K=>R.pickT (eU K 24 O) (beq_iff_eq.2 k2) (kB true O) O H,mU 29 O O,aF O O (gT (O) O),aF O O (gT (O) O),aF O O (gT (O) O),aF O O (gT (O) O),aU fun _ _ H K=>R.pickT (eU K 30 O) (O) (kB true O) O H,Zt⟩ O O O O (tU O ?_)
         refine W.condT O (O) ?_
         refine W.seq ?_
         refine W.dropS (live:=[]) (env':=[]) (bx':=[(6,.var _)]) (n':=43) O O O ?_
         refine W.dropB [] (bx':=[]) O O O (pin_sub hD O) ?_
         refine W.l0 2 [.y 2 _,.y 3 _] [] [] [(2,_),(3,_)] [] 43 ⟨aU fun _ _ H _=>R.asg (show ev _ _ (.const (.int .u64 0)) = some (.u64 0) from O) O H,aU fun _ _ H _=>R.asg (kB false O) O H,Zt⟩ O O O O (tU O ?_)
         refine W.ret ?_
         exact Ends.many (.inr O) (.cons O O O Zt (.cons O O O Zt .nil)) (tot_f (fun h=>(h.2.2 i hc18).1 k2)) (show [(2,true),(3,true)].Nodup by decide)
       · by_cases k3 : lftI ws i < ws[i]!.value
         · refine W.l0 15 [.y 21 _,.y 22 _,.y 23 _,.y 24 _,.y 25 _,.y 26 _,.y 27 _,.y 28 _,.y 29 _,.y 30 _,.x 31,.x 32,.x 33,.x 34,.y 35 _] [] [] [(4,_),(6,_),(15,_),(16,_),(17,_),(35,_)] [(6,.var _)] 43 ⟨aU (fU 6 O O),aU (lU 21 O O O O O O O),aU fun _ _ H K=>R.bin (eU K 22 O) (show ev _ _ (.const (.int .u64 0)) = some (.u64 0) from O) O Zt H,mU 23 O O,aW O O (gF (beq_eq_false_iff_ne.2 k2) O) (fU 6 O O),aW O O (gF (beq_eq_false_iff_ne.2 k2) O) (lU 25 O O O O O O O),aW O O (gF (beq_eq_false_iff_ne.2 k2) O) fun _ _ H K=>R.mov (eU K 4 O) O H,aW O O (gF (beq_eq_false_iff_ne.2 k2) O) fun _ _ H K=>R.bin (eU K 26 O) (eU K 27 O) O Zt H,aU fun _ _ H K=>R.pickF (eU K 24 O) (beq_eq_false_iff_ne.2 k2) (eU K 28 O) O H,mU 29 O O,aF O O (gT (dT k3) O),aF O O (gT (dT k3) O),aF O O (gT (dT k3) O),aF O O (gT (dT k3) O),aU fun _ _ H K=>R.pickT (eU K 30 O) (dT k3) (kB true O) O H,Zt⟩ O O O O (tU O ?_)
           refine W.condT O (O) ?_
           refine W.seq ?_
           refine W.dropS (live:=[]) (env':=[]) (bx':=[(6,.var _)]) (n':=43) O O O ?_
           refine W.dropB [] (bx':=[]) O O O (pin_sub hD O) ?_
           refine W.l0 2 [.y 2 _,.y 3 _] [] [] [(2,_),(3,_)] [] 43 ⟨aU fun _ _ H _=>R.asg (show ev _ _ (.const (.int .u64 0)) = some (.u64 0) from O) O H,aU fun _ _ H _=>R.asg (kB false O) O H,Zt⟩ O O O O (tU O ?_)
           refine W.ret ?_
           exact Ends.many (.inr O) (.cons O O O Zt (.cons O O O Zt .nil)) (tot_f (fun h=>(h.2.2 i hc18).2.1 k3)) (show [(2,true),(3,true)].Nodup by decide)
         · refine W.l0 15 [.y 21 _,.y 22 _,.y 23 _,.y 24 _,.y 25 _,.y 26 _,.y 27 _,.y 28 _,.y 29 _,.y 30 _,.y 31 _,.y 32 _,.y 33 _,.y 34 _,.y 35 _] [] [] [(4,_),(6,_),(15,_),(16,_),(17,_),(35,_)] [(6,.var _)] 43 ⟨aU (fU 6 O O),aU (lU 21 O O O O O O O),aU fun _ _ H K=>R.bin (eU K 22 O) (show ev _ _ (.const (.int .u64 0)) = some (.u64 0) from O) O Zt H,mU 23 O O,aW O O (gF (beq_eq_false_iff_ne.2 k2) O) (fU 6 O O),aW O O (gF (beq_eq_false_iff_ne.2 k2) O) (lU 25 O O O O O O O),aW O O (gF (beq_eq_false_iff_ne.2 k2) O) fun _ _ H K=>R.mov (eU K 4 O) O H,aW O O (gF (beq_eq_false_iff_ne.2 k2) O) fun _ _ H K=>R.bin (eU K 26 O) (eU K 27 O) O Zt H,aU fun _ _ H K=>R.pickF (eU K 24 O) (beq_eq_false_iff_ne.2 k2) (eU K 28 O) O H,mU 29 O O,aW O O (gF (dF k3) O) (fU 6 O O),aW O O (gF (dF k3) O) (lU 31 O O O O O O O),aW O O (gF (dF k3) O) fun _ _ H K=>R.lenE (SC.sl (K 32 _ O)) (lN _) H,aW O O (gF (dF k3) O) fun _ _ H K=>R.gtrN (ws[i]!.script.length) (1000) (eU K 33 O) (kI 1000 O) H,aU fun _ _ H K=>R.pickF (eU K 30 O) (dF k3) (eU K 34 O) O H,Zt⟩ O O O O (tU O ?_)
           refine W.condD O (fun hc35=>?_) (fun hc35=>?_)
           · refine W.seq ?_
             refine W.dropS (live:=[]) (env':=[]) (bx':=[(6,.var _)]) (n':=43) O O O ?_
             refine W.dropB [] (bx':=[]) O O O (pin_sub hD O) ?_
             refine W.l0 2 [.y 2 _,.y 3 _] [] [] [(2,_),(3,_)] [] 43 ⟨aU fun _ _ H _=>R.asg (show ev _ _ (.const (.int .u64 0)) = some (.u64 0) from O) O H,aU fun _ _ H _=>R.asg (kB false O) O H,Zt⟩ O O O O (tU O ?_)
             refine W.ret ?_
             exact Ends.many (.inr O) (.cons O O O Zt (.cons O O O Zt .nil)) (tot_f (fun h=>by have:=(h.2.2 i hc18).2.2; omega)) (show [(2,true),(3,true)].Nodup by decide)
           · refine W.skip ?_
             refine W.l0 5 [.y 36 _,.y 37 _,.y 38 _,.y 39 _,.y 4 _] [] [] [(4,_),(15,_),(16,_),(17,_)] [(6,.var _)] 43 ⟨mU 4 O O,aU (fU 6 O O),aU (lU 37 O O O O O O O),aU fun _ _ H K=>R.bin (eU K 36 O) (eU K 38 O) O Zt H,aU fun _ _ H K=>R.asg (eU K 39 O) O H,Zt⟩ O O O O (tU O ?_)
             refine W.dropB [] (bx':=[]) O O O (pin_sub hD O) ?_
             refine W.l0 2 [.y 40 _,.y 17 _] [] [] [(4,_),(15,_),(16,_),(17,_)] [] 43 ⟨aU fun _ _ H K=>R.addN (i) (1) (eU K 17 O) (kI 1 O) bU H,mU 40 O O,Zt⟩ O O O O (tU O ?_)
             exact ⟨⟨(i + 1),⟨(by show i + 1 <= ws.length; omega),ext_i hok ⟨k2,k3,by omega⟩⟩⟩,rfl,(by simp only []; omega)⟩
     · obtain rfl : i = ws.length:=by omega
       refine W.exit (W.seq ?_)
       refine W.l0 4 [.y 41 _,.y 42 _,.y 2 _,.y 3 _] [] [] [(2,_),(3,_)] [] 43 ⟨mU 4 O O,aU fun _ _ H K=>R.bin (show ev _ _ (.const (.int .u64 2100000000000000)) = some (.u64 2100000000000000) from O) (eU K 41 O) O Zt H,aU fun _ _ H K=>R.asg (eU K 42 O) O H,aU fun _ _ H _=>R.asg (kB true O) O H,Zt⟩ O O O O (tU O ?_)
       refine W.ret ?_
       exact Ends.many (.inr O) (.cons O O O Zt (.cons O O O Zt .nil)) (tot_t ⟨k1,by omega,hok⟩) (show [(2,true),(3,true)].Nodup by decide)
end Go.Sx

namespace Go.Sx
open Go.Proofs
theorem purse_t (l : List Un) (hl : l.length <= 4096) (hp : purP l) : FnB Try.prog gl 22 [.sl none 35 (l.map coD)] [] (.tup [.map 12,.bool true]) [] [(12,mpK placeK D.u64 (purI l l.length))]:=by
 refine FnB.of (n:=39) (ids:=[12]) Try.func22 rfl rfl rfl (nU rfl) fun C hC hD=>?_
 refine W.seq ?_
 refine W.l0 2 [.y 2 _,.y 3 _] [] [] [(0,_)] [] 39 ⟨aU fun _ _ H _=>R.asg (show ev _ _ (.const (.map none)) = some (.nilmap) from O) O H,aU fun _ _ H _=>R.asg (kB false O) O H,Zt⟩ O O O O (tU O ?_)
 refine W.seq (W.seq ?_)
 refine W.l0 3 [.y 9 _,.y 10 _,.y 11 _] [] [] [(0,_),(11,_)] [] 39 ⟨mU 0 O O,aU fun _ _ H K=>R.lenE (SC.sl (K 9 _ O)) (lN _) H,aU fun _ _ H K=>R.gtrN (l.length) (4096) (eU K 10 O) (kI 4096 O) H,Zt⟩ O O O O (tU O ?_)
 refine W.condF O (dF (by omega)) ?_
 refine W.skip (W.seq ?_)
 refine W.l0 2 [] [] [] [(0,_)] [] 39 Zt O O O O (⟨O,_,R.mkmapK placeK D.u64 O (nU O),⟨O,_,R.asg (gV 12 O) O (nU O),tV [(0,_),(4,_)] [(12,mpK placeK D.u64 _)] 39 O O O ?_⟩⟩)
 refine W.seq (W.seq ?_)
 refine W.l0 3 [.y 13 _,.y 14 _,.y 15 _] [] [] [(4,_),(13,_),(14,_),(15,_)] [(12,mpK placeK D.u64 _)] 39 ⟨mU 0 O O,aU fun _ _ H K=>R.lenE (SC.sl (K 13 _ O)) (lN _) H,aU fun _ _ H _=>R.mov (kI 0 O) O H,Zt⟩ O O O O (tU O ?_)
 refine W.block ?_
 refine W.loop (α:={q__ : Nat // q__ <= l.length}) (fun q__=>⟨39,[(4,.map 12),(13,.sl none 35 (l.map coD)),(14,.int ((l.length : Nat) : Int)),(15,.int ((q__.1 : Nat) : Int))],[(12,mpK placeK D.u64 (purI l q__.1))]⟩) (fun q__=>l.length - q__.1) ⟨(0),bU⟩ O ?_
 rintro ⟨i,hi⟩
 show W _ _ _ _ ⟨39,[(4,.map 12),(13,.sl none 35 (l.map coD)),(14,.int ((l.length : Nat) : Int)),(15,.int ((i : Nat) : Int))],[(12,mpK placeK D.u64 (purI l i))]⟩
 have hi : i <= l.length:=hi
 refine W.seq ?_
 refine W.l0 1 [.y 16 _] [] [] [(4,_),(13,_),(14,_),(15,_),(16,_)] [(12,mpK placeK D.u64 _)] 39 ⟨aU fun _ _ H K=>R.lssN (i) (l.length) (eU K 15 O) (eU K 14 O) H,Zt⟩ O O O O (tU O ?_)
 refine W.seq ?_
 refine W.condD O (fun hc16=>?_) (fun hc16=>?_)
 · refine W.skip (W.seq (W.block (W.seq ?_)))
   refine W.l0 4 [.y 17 _,.y 18 _] [] [] [(4,_),(13,_),(14,_),(15,_),(18,_)] [(12,mpK placeK D.u64 _)] 39 ⟨aU fun _ _ H K=>R.idxN (i) (SC.sl (K 13 _ O)) (evoI (eU K 15 O)) O bU H dU,aU fun _ _ H K=>R.ldE (K 17 _ O) (SC.sl (K 13 _ O)) (map_get! (l:=l) bU) O O O O H,Zt⟩ O O O O (⟨O,_,R.alloc O (nU O),⟨O,_,R.stZ (gU 6 O) (xU 6 O) O (gV 18 O) (by rfl) (by rfl) (by rfl) (by rfl) O,tV [(4,_),(6,_),(13,_),(14,_),(15,_)] [(6,.var _),(12,mpK placeK D.u64 _)] 39 O O O ?_⟩⟩)
   refine W.seq (W.seq ?_)
   refine W.l0 9 [.y 20 _,.y 21 _,.y 22 _,.y 23 _,.y 19 _,.y 24 _,.y 25 _,.y 7 _,.y 8 _] [] [] [(4,_),(6,_),(8,_),(13,_),(14,_),(15,_)] [(6,.var _),(12,mpK placeK D.u64 _)] 39 ⟨mU 4 O O,aU (fU 6 O O),aU (lU 21 O O O O O O O),aU fun _ B H K=>R.lookK (k:=upl l[i]!) (z:=0) place_key (K 20 _ O) (B 12 _ O) (eU K 22 O) O O (fun _=>rfl) H,aU fun _ _ H K=>R.movT (K 23 _ O) O H,aU fun _ _ H K=>R.ext (K 19 _ O) O O H,aU fun _ _ H K=>R.ext (K 19 _ O) O O H,aU fun _ _ H K=>R.asg (eU K 24 O) O H,aU fun _ _ H K=>R.asg (eU K 25 O) O H,Zt⟩ O O O O (tU O ?_)
   refine W.seq ?_
   refine W.l0 6 [.y 26 _,.y 27 _,.y 28 _,.y 29 _,.y 30 _,.y 31 _] [] [] [(4,_),(6,_),(13,_),(14,_),(15,_),(31,_)] [(6,.var _),(12,mpK placeK D.u64 _)] 39 ⟨mU 8 O O,mU 26 O O,aW O O (gF ((hp i hc16).1) O) (fU 6 O O),aW O O (gF ((hp i hc16).1) O) (lU 28 O O O O O O O),aW O O (gF ((hp i hc16).1) O) fun _ _ H K=>R.bin (eU K 29 O) (show ev _ _ (.const (.int .u64 2100000000000000)) = some (.u64 2100000000000000) from O) O Zt H,aU fun _ _ H K=>R.pickF (eU K 27 O) ((hp i hc16).1) (eU K 30 O) O H,Zt⟩ O O O O (tU O ?_)
   refine W.condF O (dF (hp i hc16).2) ?_
   refine W.skip ?_
   refine W.l0 6 [.y 32 _,.y 33 _,.y 34 _,.y 35 _,.y 36 _] [] [] [(4,_),(13,_),(14,_),(15,_),(32,_),(34,_),(36,_)] [(6,.var _),(12,mpK placeK D.u64 _)] 39 ⟨mU 4 O O,aU (fU 6 O O),aU (lU 33 O O O O O O O),aU (fU 6 O O),aU (lU 35 O O O O O O O),Zt⟩ O O O O (⟨O,_,R.mupdN (k:=upl l[i]!) (u:=l[i]!.value) place_key (gU 32 O) (xU 12 O) (gV 34 O) O (gV 36 O) O O ((hp i hc16).1),tV [(4,_),(13,_),(14,_),(15,_)] [(6,.var _),(12,mpK placeK D.u64 _)] 39 O O O ?_⟩)
   refine W.dropBP [12] (bx':=[(12,mpK placeK D.u64 _)]) O O ⟨okMpK (fun _=>rfl) (fun _=>rfl),Zt⟩ (pin_sub hD O) ?_
   refine W.l0 2 [.y 37 _,.y 15 _] [] [] [(4,_),(13,_),(14,_),(15,_)] [(12,mpK placeK D.u64 _)] 39 ⟨aU fun _ _ H K=>R.addN (i) (1) (eU K 15 O) (kI 1 O) bU H,mU 37 O O,Zt⟩ O O O O (tU O ?_)
   exact ⟨⟨(i + 1),bU⟩,rfl,(by simp only []; omega)⟩
 · obtain rfl : i = l.length:=by omega
   refine W.exit (W.seq ?_)
   refine W.l0 3 [.y 38 _,.y 2 _,.y 3 _] [] [] [(2,_),(3,_)] [(12,mpK placeK D.u64 _)] 39 ⟨mU 4 O O,aU fun _ _ H K=>R.asg (eU K 38 O) O H,aU fun _ _ H _=>R.asg (kB true O) O H,Zt⟩ O O O O (tU O ?_)
   refine W.ret ?_
   exact EndsB.many' (.inr O) (.cons O O Zt (.cons O O Zt .nil)) (O) (show [(2,true),(3,true)].Nodup by decide) O O (O) ⟨okPu _ _,Zt⟩ O
theorem purse_f (l : List Un) (hl : l.length <= 4096) (hp : ¬ purP l) : FnB Try.prog gl 22 [.sl none 35 (l.map coD)] [] (.tup [.nilmap,.bool false]) [] []:=by
 refine FnB.of (n:=39) (ids:=[]) Try.func22 rfl rfl rfl (nU rfl) fun C hC hD=>?_
 refine W.seq ?_
 refine W.l0 2 [.y 2 _,.y 3 _] [] [] [(0,_)] [] 39 ⟨aU fun _ _ H _=>R.asg (show ev _ _ (.const (.map none)) = some (.nilmap) from O) O H,aU fun _ _ H _=>R.asg (kB false O) O H,Zt⟩ O O O O (tU O ?_)
 refine W.seq (W.seq ?_)
 refine W.l0 3 [.y 9 _,.y 10 _,.y 11 _] [] [] [(0,_),(11,_)] [] 39 ⟨mU 0 O O,aU fun _ _ H K=>R.lenE (SC.sl (K 9 _ O)) (lN _) H,aU fun _ _ H K=>R.gtrN (l.length) (4096) (eU K 10 O) (kI 4096 O) H,Zt⟩ O O O O (tU O ?_)
 refine W.condF O (dF (by omega)) ?_
 refine W.skip (W.seq ?_)
 refine W.l0 2 [] [] [] [(0,_)] [] 39 Zt O O O O (⟨O,_,R.mkmapK placeK D.u64 O (nU O),⟨O,_,R.asg (gV 12 O) O (nU O),tV [(0,_),(4,_)] [(12,mpK placeK D.u64 _)] 39 O O O ?_⟩⟩)
 refine W.seq (W.seq ?_)
 refine W.l0 3 [.y 13 _,.y 14 _,.y 15 _] [] [] [(4,_),(13,_),(14,_),(15,_)] [(12,mpK placeK D.u64 _)] 39 ⟨mU 0 O O,aU fun _ _ H K=>R.lenE (SC.sl (K 13 _ O)) (lN _) H,aU fun _ _ H _=>R.mov (kI 0 O) O H,Zt⟩ O O O O (tU O ?_)
 refine W.block ?_
 refine W.loop (α:={q__ : Nat // q__ <= l.length /\ ∀ j < q__,purA l j}) (fun q__=>⟨39,[(4,.map 12),(13,.sl none 35 (l.map coD)),(14,.int ((l.length : Nat) : Int)),(15,.int ((q__.1 : Nat) : Int))],[(12,mpK placeK D.u64 (purI l q__.1))]⟩) (fun q__=>l.length - q__.1) ⟨(0),⟨Nat.zero_le _,fun j h=>absurd h (Nat.not_lt_zero _)⟩⟩ O ?_
 rintro ⟨i,⟨hi,hok⟩⟩
 show W _ _ _ _ ⟨39,[(4,.map 12),(13,.sl none 35 (l.map coD)),(14,.int ((l.length : Nat) : Int)),(15,.int ((i : Nat) : Int))],[(12,mpK placeK D.u64 (purI l i))]⟩
 have hi : i <= l.length:=hi
 have hok : ∀ j < i,purA l j:=hok
 refine W.seq ?_
 refine W.l0 1 [.y 16 _] [] [] [(4,_),(13,_),(14,_),(15,_),(16,_)] [(12,mpK placeK D.u64 _)] 39 ⟨aU fun _ _ H K=>R.lssN (i) (l.length) (eU K 15 O) (eU K 14 O) H,Zt⟩ O O O O (tU O ?_)
 refine W.seq ?_
 refine W.condT O (dT (pur_lt hp hi hok)) ?_
 refine W.skip (W.seq (W.block (W.seq ?_)))
 have hc16:=pur_lt hp hi hok
 refine W.l0 4 [.y 17 _,.y 18 _] [] [] [(4,_),(13,_),(14,_),(15,_),(18,_)] [(12,mpK placeK D.u64 _)] 39 ⟨aU fun _ _ H K=>R.idxN (i) (SC.sl (K 13 _ O)) (evoI (eU K 15 O)) O bU H dU,aU fun _ _ H K=>R.ldE (K 17 _ O) (SC.sl (K 13 _ O)) (map_get! (l:=l) bU) O O O O H,Zt⟩ O O O O (⟨O,_,R.alloc O (nU O),⟨O,_,R.stZ (gU 6 O) (xU 6 O) O (gV 18 O) (by rfl) (by rfl) (by rfl) (by rfl) O,tV [(4,_),(6,_),(13,_),(14,_),(15,_)] [(6,.var _),(12,mpK placeK D.u64 _)] 39 O O O ?_⟩⟩)
 refine W.seq (W.seq ?_)
 refine W.l0 9 [.y 20 _,.y 21 _,.y 22 _,.y 23 _,.y 19 _,.y 24 _,.y 25 _,.y 7 _,.y 8 _] [] [] [(4,_),(6,_),(8,_),(13,_),(14,_),(15,_)] [(6,.var _),(12,mpK placeK D.u64 _)] 39 ⟨mU 4 O O,aU (fU 6 O O),aU (lU 21 O O O O O O O),aU fun _ B H K=>R.lookK (k:=upl l[i]!) (z:=0) place_key (K 20 _ O) (B 12 _ O) (eU K 22 O) O O (fun _=>rfl) H,aU fun _ _ H K=>R.movT (K 23 _ O) O H,aU fun _ _ H K=>R.ext (K 19 _ O) O O H,aU fun _ _ H K=>R.ext (K 19 _ O) O O H,aU fun _ _ H K=>R.asg (eU K 24 O) O H,aU fun _ _ H K=>R.asg (eU K 25 O) O H,Zt⟩ O O O O (tU O ?_)
 refine W.seq ?_
 by_cases k1 : kHas (purI l i) (upl l[i]!) = true
 · refine W.l0 6 [.y 26 _,.y 27 _,.x 28,.x 29,.x 30,.y 31 _] [] [] [(4,_),(6,_),(13,_),(14,_),(15,_),(31,_)] [(6,.var _),(12,mpK placeK D.u64 _)] 39 ⟨mU 8 O O,mU 26 O O,aF O O (gT (k1) O),aF O O (gT (k1) O),aF O O (gT (k1) O),aU fun _ _ H K=>R.pickT (eU K 27 O) (k1) (kB true O) O H,Zt⟩ O O O O (tU O ?_)
   refine W.condT O (O) ?_
   refine W.seq ?_
   refine W.dropS (live:=[]) (env':=[]) (bx':=[(6,.var _),(12,mpK placeK D.u64 _)]) (n':=39) O O O ?_
   refine W.dropBP [12] (bx':=[(12,mpK placeK D.u64 _)]) O O ⟨okMpK (fun _=>rfl) (fun _=>rfl),Zt⟩ (pin_sub hD O) ?_
   refine W.l0 2 [.y 2 _,.y 3 _] [] [] [(2,_),(3,_)] [(12,mpK placeK D.u64 _)] 39 ⟨aU fun _ _ H _=>R.asg (show ev _ _ (.const (.map none)) = some (.nilmap) from O) O H,aU fun _ _ H _=>R.asg (kB false O) O H,Zt⟩ O O O O (tU O ?_)
   refine W.ret ?_
   exact EndsB.many' (.inr O) (.cons O O Zt (.cons O O Zt .nil)) (O) (show [(2,true),(3,true)].Nodup by decide) O O (O) Zt O
 · refine W.l0 6 [.y 26 _,.y 27 _,.y 28 _,.y 29 _,.y 30 _,.y 31 _] [] [] [(4,_),(6,_),(13,_),(14,_),(15,_),(31,_)] [(6,.var _),(12,mpK placeK D.u64 _)] 39 ⟨mU 8 O O,mU 26 O O,aW O O (gF (bfalse k1) O) (fU 6 O O),aW O O (gF (bfalse k1) O) (lU 28 O O O O O O O),aW O O (gF (bfalse k1) O) fun _ _ H K=>R.bin (eU K 29 O) (show ev _ _ (.const (.int .u64 2100000000000000)) = some (.u64 2100000000000000) from O) O Zt H,aU fun _ _ H K=>R.pickF (eU K 27 O) (bfalse k1) (eU K 30 O) O H,Zt⟩ O O O O (tU O ?_)
   refine W.cond O (fun hc31=>?_) (fun hc31=>?_)
   · refine W.seq ?_
     refine W.dropS (live:=[]) (env':=[]) (bx':=[(6,.var _),(12,mpK placeK D.u64 _)]) (n':=39) O O O ?_
     refine W.dropBP [12] (bx':=[(12,mpK placeK D.u64 _)]) O O ⟨okMpK (fun _=>rfl) (fun _=>rfl),Zt⟩ (pin_sub hD O) ?_
     refine W.l0 2 [.y 2 _,.y 3 _] [] [] [(2,_),(3,_)] [(12,mpK placeK D.u64 _)] 39 ⟨aU fun _ _ H _=>R.asg (show ev _ _ (.const (.map none)) = some (.nilmap) from O) O H,aU fun _ _ H _=>R.asg (kB false O) O H,Zt⟩ O O O O (tU O ?_)
     refine W.ret ?_
     exact EndsB.many' (.inr O) (.cons O O Zt (.cons O O Zt .nil)) (O) (show [(2,true),(3,true)].Nodup by decide) O O (O) Zt O
   · refine W.skip ?_
     refine W.l0 6 [.y 32 _,.y 33 _,.y 34 _,.y 35 _,.y 36 _] [] [] [(4,_),(13,_),(14,_),(15,_),(32,_),(34,_),(36,_)] [(6,.var _),(12,mpK placeK D.u64 _)] 39 ⟨mU 4 O O,aU (fU 6 O O),aU (lU 33 O O O O O O O),aU (fU 6 O O),aU (lU 35 O O O O O O O),Zt⟩ O O O O (⟨O,_,R.mupdN (k:=upl l[i]!) (u:=l[i]!.value) place_key (gU 32 O) (xU 12 O) (gV 34 O) O (gV 36 O) O O (bfalse k1),tV [(4,_),(13,_),(14,_),(15,_)] [(6,.var _),(12,mpK placeK D.u64 _)] 39 O O O ?_⟩)
     refine W.dropBP [12] (bx':=[(12,mpK placeK D.u64 _)]) O O ⟨okMpK (fun _=>rfl) (fun _=>rfl),Zt⟩ (pin_sub hD O) ?_
     refine W.l0 2 [.y 37 _,.y 15 _] [] [] [(4,_),(13,_),(14,_),(15,_)] [(12,mpK placeK D.u64 _)] 39 ⟨aU fun _ _ H K=>R.addN (i) (1) (eU K 15 O) (kI 1 O) bU H,mU 37 O O,Zt⟩ O O O O (tU O ?_)
     exact ⟨⟨(i + 1),⟨(by show i + 1 <= l.length; have:=pur_lt hp hi hok; omega),ext_i hok ⟨bfalse k1,of_decide_eq_false hc31⟩⟩⟩,rfl,(by simp only []; omega)⟩
end Go.Sx

namespace Go.Sx
open Go.Proofs
theorem choose1_ok (ins outs : Int) (rate : UInt64) : FnB Try.prog gl 23 [.int ins,.int outs,.ptr 0 0 []] [(0,.var (.u64 rate))] (.u64 (feeV ins outs rate)) [(0,.var (.u64 rate))] []:=by
 refine FnB.of (n:=16) (ids:=[0]) Try.func23 rfl rfl rfl (Nat.le_of_ble_eq_true rfl) fun C hC hD=>?_
 refine W.seq ?_
 refine W.line (n:=1) (by decide) (its:=[⟨5,_,true⟩]) (ks:=[]) (kk:=[]) (live:=[0,1,2]) (env':=[(0,_),(1,_),(2,_)])
  (⟨Nat.le_of_ble_eq_true rfl,rfl,
   ⟨⟨rfl,rfl,fun _ τ hb ht hτ=>R.asg (show ev _ _ (.const (.int .u64 0)) = some (.u64 0) from rfl) rfl ht⟩,
   trivial⟩,rfl,rfl,rfl⟩)
  rfl (bx':=[(0,.var _)]) rfl (n':=16) rfl (⟨[0,1,2],[(0,_),(1,_),(2,_)],[(0,.var _)],16,rfl,rfl,rfl, ?_⟩)
 refine W.seq ?_
 refine W.line (n:=9) (by decide) (its:=[⟨9,_,true⟩,⟨10,_,true⟩,⟨11,_,true⟩,⟨12,_,true⟩,⟨8,_,true⟩,⟨13,_,true⟩,⟨14,_,true⟩,⟨6,_,true⟩,⟨7,_,true⟩]) (ks:=[]) (kk:=[]) (live:=[6]) (env':=[(6,_)])
  (⟨Nat.le_of_ble_eq_true rfl,rfl,
   ⟨⟨rfl,rfl,fun _ τ hb ht hτ=>R.mov (evt (hτ 0 _ rfl)) rfl ht⟩,
   ⟨⟨rfl,rfl,fun _ τ hb ht hτ=>R.mov (evt (hτ 1 _ rfl)) rfl ht⟩,
   ⟨⟨rfl,rfl,fun _ τ hb ht hτ=>R.ldP (hτ 2 _ rfl) (hb 0 _ rfl) rfl rfl rfl rfl ht⟩,
   ⟨⟨rfl,rfl,fun _ τ hb ht hτ=>R.callG hC (fee_ok ins outs rate) (Bors.cons (Bor.pur (evt (hτ 9 _ rfl)) rfl rfl) (Bors.cons (Bor.pur (evt (hτ 10 _ rfl)) rfl rfl) (Bors.cons (Bor.pur (evt (hτ 11 _ rfl)) rfl rfl) Bors.nil))) (FrsR.two (.u64 _) (.int _)) ht⟩,
   ⟨⟨rfl,rfl,fun _ τ hb ht hτ=>R.movT (hτ 12 _ rfl) rfl ht⟩,
   ⟨⟨rfl,rfl,fun _ τ hb ht hτ=>R.ext (hτ 8 _ rfl) rfl rfl ht⟩,
   ⟨⟨rfl,rfl,fun _ τ hb ht hτ=>R.ext (hτ 8 _ rfl) rfl rfl ht⟩,
   ⟨⟨rfl,rfl,fun _ τ hb ht hτ=>R.asg (evt (hτ 13 _ rfl)) rfl ht⟩,
   ⟨⟨rfl,rfl,fun _ τ hb ht hτ=>R.asg (evt (hτ 14 _ rfl)) rfl ht⟩,
   trivial⟩⟩⟩⟩⟩⟩⟩⟩⟩,rfl,rfl,rfl⟩)
  rfl (bx':=[(0,.var _)]) rfl (n':=16) rfl (⟨[6],[(6,_)],[(0,.var _)],16,rfl,rfl,rfl, ?_⟩)
 refine W.seq ?_
 refine W.line (n:=2) (by decide) (its:=[⟨15,_,true⟩,⟨5,_,true⟩]) (ks:=[]) (kk:=[]) (live:=[5]) (env':=[(5,_)])
  (⟨Nat.le_of_ble_eq_true rfl,rfl,
   ⟨⟨rfl,rfl,fun _ τ hb ht hτ=>R.mov (evt (hτ 6 _ rfl)) rfl ht⟩,
   ⟨⟨rfl,rfl,fun _ τ hb ht hτ=>R.asg (evt (hτ 15 _ rfl)) rfl ht⟩,
   trivial⟩⟩,rfl,rfl,rfl⟩)
  rfl (bx':=[(0,.var _)]) rfl (n':=16) rfl (⟨[5],[(5,_)],[(0,.var _)],16,rfl,rfl,rfl, ?_⟩)
 refine W.ret ?_
 exact EndsB.one' (.inr rfl) rfl (rfl) rfl trivial rfl rfl (rfl) ⟨rfl,trivial⟩ rfl
end Go.Sx

namespace Go.Sx
open Go.Proofs
theorem szH {o : Option Nat} {h : Hs} (e : o = some 32) : o = some (hashD h).sz:=e.trans (congrArg some (show 32 = (hashD h).sz from rfl))
theorem dt32 {a : List UInt8} (h : a.length = 32) : ((a.map D.u8).drop 0).take 32 = a.map D.u8:=by
 rw [List.drop_zero,List.take_of_length_le (by rw [List.length_map,h]; exact Nat.le_refl _)]
def coinS (n : UInt8) (v : UInt64) : Un:=⟨n :: List.replicate 31 0,0,v,1⟩
def fewP (ws : List Wnt) : Prop:=ws.length <= 80 /\ ∀ i < ws.length,ws[i]!.script.length <= 1100
instance (ws : List Wnt) : Decidable (fewP ws):=by unfold fewP; infer_instance
def fewS (ws : List Wnt) : Bool:=decide (fewP ws)
theorem few_f {ws : List Wnt} (h : ¬ fewP ws) : fewS ws = false:=decide_eq_false h
theorem few_t {ws : List Wnt} (h : fewP ws) : fewS ws = true:=decide_eq_true h
def wokS (w : Wnt) : Prop:=¬ w.value < 1 /\ ¬ 2100000000000000 < w.value /\ w.script.length <= 1000
instance (w : Wnt) : Decidable (wokS w):=by unfold wokS; infer_instance
def wanN (ws : List Wnt) : Nat:=min ws.length 65
def wsumI (ws : List Wnt) : Nat -> UInt64
 | 0=>0
 | i + 1=>wsumI ws i + ws[i]!.value
def wanF (ws : List Wnt) : Prop:=∀ j < wanN ws,wokS ws[j]!
instance (ws : List Wnt) : Decidable (wanF ws):=by unfold wanF; infer_instance
def wanV (ws : List Wnt) : UInt64:=if wanF ws then wsumI ws (wanN ws) else 0
def wanP (ws : List Wnt) : Prop:=wanF ws /\ 1 <= ws.length /\ ws.length <= 64 /\ wsumI ws (wanN ws) <= 2100000000000000
instance (ws : List Wnt) : Decidable (wanP ws):=by unfold wanP; infer_instance
def wanB (ws : List Wnt) : Bool:=decide (wanP ws)
theorem wanN_eq {ws : List Wnt} {i : Nat} (hi : i <= ws.length) (h65 : i <= 65) (h : ¬ i < ws.length ∨ ¬ i <= 64) : i = wanN ws:=by unfold wanN; omega
theorem wan_f {ws : List Wnt} {i : Nat} (h0 : i < ws.length) (h : i <= 64) (hn : ¬ wokS ws[i]!) : [D.u64 0,D.bool false] = [.u64 (wanV ws),.bool (wanB ws)]:=by
 have hf : ¬ wanF ws:=fun hf=>hn (hf i (by unfold wanN; omega))
 rw [wanV,if_neg hf,wanB,decide_eq_false (fun hp : wanP ws=>hf hp.1)]
theorem wan_1 {ws : List Wnt} (g1 : 1 <= ws.length) (g2 : ws.length <= 64) (h : wanF ws) : [D.u64 (wsumI ws (wanN ws)),D.bool (decide (wsumI ws (wanN ws) <= 2100000000000000))] = [.u64 (wanV ws),.bool (wanB ws)]:=by
 rw [wanV,if_pos h,wanB]
 congr 2
 simp [wanP,h,g1,g2]
theorem wan_2 {ws : List Wnt} (g2 : ¬ ws.length <= 64) (h : wanF ws) : [D.u64 (wsumI ws (wanN ws)),D.bool false] = [.u64 (wanV ws),.bool (wanB ws)]:=by
 rw [wanV,if_pos h,wanB,decide_eq_false (fun hp : wanP ws=>g2 hp.2.2.1)]
theorem wan_3 {ws : List Wnt} (g1 : ¬ 1 <= ws.length) (h : wanF ws) : [D.u64 (wsumI ws (wanN ws)),D.bool false] = [.u64 (wanV ws),.bool (wanB ws)]:=by
 rw [wanV,if_pos h,wanB,decide_eq_false (fun hp : wanP ws=>g1 hp.2.1)]
theorem purI_iff {l : List Un} {i : Nat} {p : Plc} : kHas (purI l i) p = true ↔ ∃ j < i,upl l[j]! = p:=by
 induction i with
 | zero=>simp [purI,kHas]
 | succ i ih=>
  have e : kHas (purI l (i + 1)) p = (kHas (purI l i) p || decide (upl l[i]! = p)):=by
   simp only [purI,kHas,List.any_append,List.any_cons,List.any_nil,Bool.or_false]
   rfl
  rw [e,Bool.or_eq_true,ih,decide_eq_true_iff]
  constructor
  · rintro (⟨j,hj,h⟩ | h)
    · exact ⟨j,by omega,h⟩
    · exact ⟨i,by omega,h⟩
  · rintro ⟨j,hj,h⟩
    rcases Nat.lt_succ_iff_lt_or_eq.1 hj with h1 | rfl
    · exact .inl ⟨j,h1,h⟩
    · exact .inr h
theorem purI_yes {l : List Un} {i j : Nat} (hj : j < i) (h : upl l[j]! = upl l[i]!) : kHas (purI l i) (upl l[i]!) = true:=purI_iff.2 ⟨j,hj,h⟩
theorem purI_no {l : List Un} {i : Nat} (h : ∀ k < i,upl l[k]! ≠ upl l[i]!) : kHas (purI l i) (upl l[i]!) = false:=by
 cases hh : kHas (purI l i) (upl l[i]!) with
 | false=>rfl
 | true=>obtain ⟨j,hj,he⟩:=purI_iff.1 hh; exact absurd he (h j hj)
theorem ne_of_beqf {α : Type} [BEq α] [LawfulBEq α] {a b : α} (h : (a == b) = false) : a ≠ b:=fun e=>by subst e; simp at h
def firS (a b : Un) : Bool:=decide (ordS a b < 0)
theorem cmpB_less : ∀ x y : List UInt8,Op.bytesLess x y = decide (Lib.compareBytes x y < 0)
 | [],[]=>rfl
 | [],_ :: _=>rfl
 | _ :: _,[]=>rfl
 | a :: x,b :: y=>by
  have ih:=cmpB_less x y
  simp only [Op.bytesLess,Lib.compareBytes,ih]
  by_cases h1 : a < b
  · simp [h1]
  · by_cases h2 : b < a
    · have h3 : ¬ a = b:=fun e=>by subst e; exact h1 h2
      simp [h1,h2,h3]
    · have h3 : a = b:=UInt8.toNat_inj.1 (by simp only [UInt8.lt_iff_toNat_lt] at h1 h2; omega)
      subst h3
      simp
theorem fir_1 {a b : Un} (h : a.value ≠ b.value) : firS a b = decide (b.value < a.value):=by
 have hz : ¬ c64 b.value a.value = 0:=fun e=>h (c64_z e).symm
 rw [firS,ord_eq,if_neg hz]
 congr 1
 apply propext
 unfold c64
 split
 · rename_i h1; simp [h1]
 · rename_i h1
   simp only [h1,iff_false]
   split <;> omega
theorem fir_2 {a b : Un} (h : a.value = b.value) (ht : a.tx ≠ b.tx) : firS a b = Op.bytesLess a.tx b.tx:=by
 have hz : c64 b.value a.value = 0:=by rw [h]; exact c64_3 (UInt64.lt_irrefl _) (UInt64.lt_irrefl _)
 have hz2 : ¬ Lib.compareBytes a.tx b.tx = 0:=fun e=>ht (cmpB_z e)
 rw [firS,ord_eq,if_pos hz,if_neg hz2,cmpB_less]
theorem cmpB_r (x : List UInt8) : Lib.compareBytes x x = 0:=by
 have:=cmpB_sym x x
 omega
theorem fir_3 {a b : Un} (h : a.value = b.value) (ht : a.tx = b.tx) : firS a b = decide (a.n < b.n):=by
 have hz : c64 b.value a.value = 0:=by rw [h]; exact c64_3 (UInt64.lt_irrefl _) (UInt64.lt_irrefl _)
 have hz2 : Lib.compareBytes a.tx b.tx = 0:=by rw [ht]; exact cmpB_r _
 rw [firS,ord_eq,if_pos hz,if_pos hz2]
 congr 1
 apply propext
 unfold c32
 split
 · rename_i h1; simp [h1]
 · rename_i h1
   simp only [h1,iff_false]
   split <;> omega
theorem eqv_un (a b : Un) : EqV Try.prog 4 67 (coD a) (coD b) (a == b):=by
 have h1 : ∀ x y : Int,EqV Try.prog 3 3 (.int x) (.int y) (x == y):=fun x y=>(EqV.int Try.underlying3 x y).up 2
 have h2 : ∀ x y : UInt64,EqV Try.prog 3 25 (.u64 x) (.u64 y) (x == y):=fun x y=>(EqV.u64 Try.underlying25 x y).up 2
 have:=EqV.struct (k:=3) Try.underlying67 (by kernel_rfl) (.cons rfl rfl inferInstance rfl rfl rfl rfl (eqv_place (upl a) (upl b)) (.cons rfl rfl inferInstance rfl rfl rfl rfl (h2 a.value b.value) (.cons rfl rfl inferInstance rfl rfl rfl rfl (h1 a.ht b.ht) .nil)))
 rw [Bool.and_true] at this
 have e : (a == b) = (upl a == upl b && (a.value == b.value && a.ht == b.ht)):=by
  rw [Bool.eq_iff_iff]
  obtain ⟨x1,x2,x3,x4⟩:=a
  obtain ⟨y1,y2,y3,y4⟩:=b
  simp [upl,and_assoc]
 rw [e]
 exact this
theorem ext_list {α : Type} [Inhabited α] {a b : List α} (h : a.length = b.length) (he : ∀ j < a.length,a[j]! = b[j]!) : a = b:=by
 refine List.ext_getElem h fun i h1 h2=>?_
 have:=he i h1
 rwa [getElem!_pos a i h1,getElem!_pos b i h2] at this
theorem take_s {α : Type} [Inhabited α] {l : List α} {i : Nat} (h : i < l.length) : l.take (i + 1) = l.take i ++ [l[i]!]:=by
 rw [List.take_succ_eq_append_getElem h,getElem!_pos l i h]
end Go.Sx

namespace Go.Sx
open Go.Proofs
theorem sclone_ok (b : List UInt8) (hb0 : b.length <= 1000000000) : Fn Try.prog gl 32 [.sl none 1 (b.map D.u8)] (.sl (some 5) 1 (b.map D.u8)):=by
 refine Fn.of (n:=8) Try.func32 rfl rfl rfl (nU rfl) fun C hC hD=>?_
 refine W.seq ?_
 refine W.l0 1 [.y 2 _] [] [] [(0,_)] [] 8 ⟨aU fun _ _ H _=>R.asg (kN O) O H,Zt⟩ O O O O (tU O ?_)
 refine W.seq (W.seq ?_)
 refine W.region (WL.cons O (R.mov (gV 0 O) O (nU O)) (WL.nilq (SC.sl (gU 3 O)) (nU O) (fun b__ hb__=>WL.nil ?_)))
 show W _ _ _ _ _
 refine W.dropS (live:=[0,4]) (env':=[(0,_),(4,_)]) (bx':=[]) (n':=8) O O O ?_
 refine W.cond O (fun hc4=>?_) (fun hc4=>?_)
 · refine W.seq ?_
   refine W.l0 1 [.y 2 _] [] [] [(2,_)] [] 8 ⟨aU fun _ _ H _=>R.asg (kN O) O H,Zt⟩ O O O O (tU O ?_)
   refine W.asOwn (s:=2) 5 1 O ?_
   refine W.ret ?_
   exact Ends.one' (.inr rfl) rfl (by obtain rfl:=nil_of hb__ hc4; rfl) rfl rfl Zt
 · refine W.skip (W.seq ?_)
   refine W.l0 4 [.y 5 _,.y 6 _,.y 7 _,.y 2 _] [(2,5),(3,7)] [(2,5),(3,7)] [(2,_)] [] 8 ⟨aU fun _ _ H _=>R.bslE .nil Zt O H dU,mU 0 O O,aU fun _ _ H K=>R.appE (Or.inl O) (K 5 _ O) (SrcO.sc (SC.sl (K 6 _ O)) (pur_map (fun _=>rfl))) (List.nil_append _) bU H dU dU,aU fun _ _ H K=>R.asgO (K 7 _ O) O H dU,Zt⟩ O O O O (tU O ?_)
   refine W.ret ?_
   exact Ends.one' (.inr O) O (O) O O Zt
theorem uclone_ok (b : List Un) (hb0 : b.length <= 1000000) : Fn Try.prog gl 24 [.sl none 35 (b.map coD)] (.sl (some 67) 35 (b.map coD)):=by
 refine Fn.of (n:=8) Try.func24 rfl rfl rfl (nU rfl) fun C hC hD=>?_
 refine W.seq ?_
 refine W.l0 1 [.y 2 _] [] [] [(0,_)] [] 8 ⟨aU fun _ _ H _=>R.asg (kN O) O H,Zt⟩ O O O O (tU O ?_)
 refine W.seq (W.seq ?_)
 refine W.region (WL.cons O (R.mov (gV 0 O) O (nU O)) (WL.nilq (SC.sl (gU 3 O)) (nU O) (fun b__ hb__=>WL.nil ?_)))
 show W _ _ _ _ _
 refine W.dropS (live:=[0,4]) (env':=[(0,_),(4,_)]) (bx':=[]) (n':=8) O O O ?_
 refine W.cond O (fun hc4=>?_) (fun hc4=>?_)
 · refine W.seq ?_
   refine W.l0 1 [.y 2 _] [] [] [(2,_)] [] 8 ⟨aU fun _ _ H _=>R.asg (kN O) O H,Zt⟩ O O O O (tU O ?_)
   refine W.asOwn (s:=2) 67 35 O ?_
   refine W.ret ?_
   exact Ends.one' (.inr rfl) rfl (by obtain rfl:=nil_of hb__ hc4; rfl) rfl rfl Zt
 · refine W.skip (W.seq ?_)
   refine W.l0 4 [.y 5 _,.y 6 _,.y 7 _,.y 2 _] [(2,5),(3,7)] [(2,5),(3,7)] [(2,_)] [] 8 ⟨aU fun _ _ H _=>R.bslE .nil Zt O H dU,mU 0 O O,aU fun _ _ H K=>R.appE (Or.inl O) (K 5 _ O) (SrcO.sc (SC.sl (K 6 _ O)) (pur_map (fun _=>rfl))) (List.nil_append _) bU H dU dU,aU fun _ _ H K=>R.asgO (K 7 _ O) O H dU,Zt⟩ O O O O (tU O ?_)
   refine W.ret ?_
   exact Ends.one' (.inr O) O (O) O O Zt
theorem clip_ok (b : List Un) : Fn Try.prog gl 27 [.sl none 35 (b.map coD)] (.sl none 35 (b.map coD)):=by
 refine Fn.of (n:=9) Try.func27 rfl rfl rfl (nU rfl) fun C hC hD=>?_
 refine W.seq ?_
 refine W.l0 1 [.y 2 _] [] [] [(0,_)] [] 9 ⟨aU fun _ _ H _=>R.asg (kN O) O H,Zt⟩ O O O O (tU O ?_)
 refine W.seq ?_
 refine W.l0 7 [.y 3 _,.y 4 _,.y 5 _,.y 6 _,.y 7 _,.y 8 _,.y 2 _] [] [] [(2,_)] [] 9 ⟨mU 0 O O,mU 0 O O,aU fun _ _ H K=>R.lenE (SC.sl (K 4 _ O)) (lN _) H,mU 0 O O,aU fun _ _ H K=>R.lenE (SC.sl (K 6 _ O)) (lN _) H,aU fun _ _ H K=>R.slM (eU K 3 O) (eU K 5 O) (eU K 7 O) (by simp) (by simp) H,aU fun _ _ H K=>R.asg (eU K 8 O) O H,Zt⟩ O O O O (tU O ?_)
 refine W.ret ?_
 exact Ends.one' (.inr O) O (O) O O Zt
theorem coin_ok (n : UInt8) (v : UInt64) : Fn Try.prog gl 20 [.u8 n,.u64 v] (coD (coinS n v)):=by
 refine Fn.of (n:=10) Try.func20 rfl rfl rfl (nU rfl) fun C hC hD=>?_
 refine W.seq ?_
 refine W.l0 1 [] [] [] [(0,_),(1,_)] [] 10 Zt O O O O (⟨O,_,R.alloc O (nU O),tV [(0,_),(1,_),(4,_)] [(4,.var _)] 10 O O O ?_⟩)
 refine W.seq ?_
 refine W.l0 6 [.y 5 _,.y 6 _,.y 7 _,.y 8 _,.y 9 _] [] [] [(4,_),(9,_)] [(4,.var _)] 10 ⟨mU 0 O O,aU fun _ _ H K=>R.bldAP (z:=1) (l2:=((n :: List.replicate 31 0).map D.u8)) (.cons (eU K 5 O) (.nil O)) ⟨⟨_,(eU K 5 O),O,O,O,O⟩,Zt⟩ (O) H,aU fun _ _ H K=>R.bldSE (l:=[.arr 32 1 ((List.replicate 32 0).map D.u8),.u32 0]) (l':=[_,_]) (.cons (eU K 6 O) (.nil O)) ⟨⟨_,(eU K 6 O),O,O,szH O⟩,Zt⟩ H,mU 1 O O,aU fun _ _ H K=>R.bldSE (l:=[.agg [.arr 32 1 ((List.replicate 32 0).map D.u8),.u32 0],.u64 0,.int 0]) (l':=[_,_,_]) (.cons (eU K 7 O) (.cons (eU K 8 O) (.cons (kI 1 O) (.nil O)))) ⟨⟨_,(eU K 7 O),O,O,O⟩,⟨⟨_,(eU K 8 O),O,O,O⟩,⟨⟨_,(kI 1 O),O,O,O⟩,Zt⟩⟩⟩ H,Zt⟩ O O O O (⟨O,_,R.stZ (gU 4 O) (xU 4 O) O (gV 9 O) (by rfl) (by rfl) (by rfl) (by rfl) O,tV [(4,_)] [(4,.var _)] 10 O O O ?_⟩)
 refine W.ret ?_
 exact Ends.one' (.inr O) O (O) O O (show LdT _ 67 35 true from inferInstance)
theorem few_ok (ws : List Wnt) (hw : ws.length <= 140737488355328) : Fn Try.prog gl 6 [.sl none 2 (ws.map wntD)] (.bool (fewS ws)):=by
 refine Fn.of (n:=20) Try.func6 rfl rfl rfl (nU rfl) fun C hC hD=>?_
 refine W.seq ?_
 refine W.l0 1 [.y 2 _] [] [] [(0,_)] [] 20 ⟨aU fun _ _ H _=>R.asg (kB false O) O H,Zt⟩ O O O O (tU O ?_)
 refine W.seq (W.seq ?_)
 refine W.l0 3 [.y 4 _,.y 5 _,.y 6 _] [] [] [(0,_),(6,_)] [] 20 ⟨mU 0 O O,aU fun _ _ H K=>R.lenE (SC.sl (K 4 _ O)) (lN _) H,aU fun _ _ H K=>R.gtrN (ws.length) (80) (eU K 5 O) (kI 80 O) H,Zt⟩ O O O O (tU O ?_)
 refine W.condD O (fun hc6=>?_) (fun hc6=>?_)
 · refine W.seq ?_
   refine W.l0 1 [.y 2 _] [] [] [(2,_)] [] 20 ⟨aU fun _ _ H _=>R.asg (kB false O) O H,Zt⟩ O O O O (tU O ?_)
   refine W.ret ?_
   exact Ends.one' (.inr O) O (congrArg D.bool (few_f (fun h=>by have:=h.1; omega)).symm) O O Zt
 · refine W.skip (W.seq (W.seq ?_))
   refine W.l0 1 [.y 3 _] [] [] [(0,_),(3,_)] [] 20 ⟨aU fun _ _ H _=>R.asg (kI 0 O) O H,Zt⟩ O O O O (tU O ?_)
   refine W.block ?_
   refine W.loop (α:={q__ : Nat // q__ <= ws.length /\ ∀ j < q__,ws[j]!.script.length <= 1100}) (fun q__=>⟨20,[(0,.sl none 2 (ws.map wntD)),(3,.int ((q__.1 : Nat) : Int))],[]⟩) (fun q__=>ws.length - q__.1) ⟨(0),⟨Nat.zero_le _,fun j h=>absurd h (Nat.not_lt_zero _)⟩⟩ O ?_
   rintro ⟨i,⟨hi,hok⟩⟩
   show W _ _ _ _ ⟨20,[(0,.sl none 2 (ws.map wntD)),(3,.int ((i : Nat) : Int))],[]⟩
   have hi : i <= ws.length:=hi
   have hok : ∀ j < i,ws[j]!.script.length <= 1100:=hok
   refine W.seq (W.seq ?_)
   refine W.l0 4 [.y 7 _,.y 8 _,.y 9 _,.y 10 _] [] [] [(0,_),(3,_),(10,_)] [] 20 ⟨mU 3 O O,mU 0 O O,aU fun _ _ H K=>R.lenE (SC.sl (K 8 _ O)) (lN _) H,aU fun _ _ H K=>R.lssN (i) (ws.length) (eU K 7 O) (eU K 9 O) H,Zt⟩ O O O O (tU O ?_)
   refine W.condD O (fun hc10=>?_) (fun hc10=>?_)
   · refine W.skip (W.seq (W.block (W.seq ?_)))
     refine W.l0 7 [.y 13 _,.y 14 _,.y 15 _,.y 16 _,.y 17 _,.y 18 _,.y 19 _] [] [] [(0,_),(3,_),(19,_)] [] 20 ⟨mU 0 O O,mU 3 O O,aU fun _ _ H K=>R.idxN (i) (SC.sl (K 13 _ O)) (evoI (eU K 14 O)) O bU H dU,aU fun _ _ H K=>R.fdE (K 15 _ O) H dU,aU fun _ _ H K=>R.ldE (K 16 _ O) (SC.sl (K 13 _ O)) (map_get! (l:=ws) bU) O O O O H,aU fun _ _ H K=>R.lenE (SC.sl (K 17 _ O)) (lN _) H,aU fun _ _ H K=>R.gtrN (ws[i]!.script.length) (1100) (eU K 18 O) (kI 1100 O) H,Zt⟩ O O O O (tU O ?_)
     refine W.condD O (fun hc19=>?_) (fun hc19=>?_)
     · refine W.seq ?_
       refine W.l0 1 [.y 2 _] [] [] [(2,_)] [] 20 ⟨aU fun _ _ H _=>R.asg (kB false O) O H,Zt⟩ O O O O (tU O ?_)
       refine W.ret ?_
       exact Ends.one' (.inr O) O (congrArg D.bool (few_f (fun h=>by have:=h.2 i hc10; omega)).symm) O O Zt
     · refine W.skip ?_
       refine W.l0 3 [.y 11 _,.y 12 _,.y 3 _] [] [] [(0,_),(3,_)] [] 20 ⟨mU 3 O O,aU fun _ _ H K=>R.addN (i) (1) (eU K 11 O) (kI 1 O) bU H,aU fun _ _ H K=>R.asg (eU K 12 O) O H,Zt⟩ O O O O (tU O ?_)
       exact ⟨⟨(i + 1),⟨by omega,ext_i hok (by omega)⟩⟩,rfl,(by simp only []; omega)⟩
   · obtain rfl : i = ws.length:=by omega
     refine W.exit (W.seq ?_)
     refine W.l0 1 [.y 2 _] [] [] [(2,_)] [] 20 ⟨aU fun _ _ H _=>R.asg (kB true O) O H,Zt⟩ O O O O (tU O ?_)
     refine W.ret ?_
     exact Ends.one' (.inr O) O (congrArg D.bool (few_t ⟨by omega,hok⟩).symm) O O Zt
end Go.Sx

namespace Go.Sx
open Go.Proofs
theorem wanted_ok (ws : List Wnt) (hw : ws.length <= 1000000) : Fn Try.prog gl 28 [.sl none 2 (ws.map wntD)] (.tup [.u64 (wanV ws),.bool (wanB ws)]):=by
 refine Fn.of (n:=59) Try.func28 rfl rfl rfl (nU rfl) fun C hC hD=>?_
 refine W.seq ?_
 refine W.l0 2 [.y 2 _,.y 3 _] [] [] [(0,_)] [] 59 ⟨aU fun _ _ H _=>R.asg (show ev _ _ (.const (.int .u64 0)) = some (.u64 0) from O) O H,aU fun _ _ H _=>R.asg (kB false O) O H,Zt⟩ O O O O (tU O ?_)
 refine W.seq ?_
 refine W.l0 1 [.y 4 _] [] [] [(0,_),(4,_)] [] 59 ⟨aU fun _ _ H _=>R.asg (show ev _ _ (.const (.int .u64 0)) = some (.u64 0) from O) O H,Zt⟩ O O O O (tU O ?_)
 refine W.seq (W.seq ?_)
 refine W.l0 1 [.y 5 _] [] [] [(0,_),(4,_),(5,_)] [] 59 ⟨aU fun _ _ H _=>R.asg (kI 0 O) O H,Zt⟩ O O O O (tU O ?_)
 refine W.block ?_
 refine W.loop (α:={q__ : Nat // q__ <= ws.length /\ q__ <= 65 /\ ∀ j < q__,wokS ws[j]!}) (fun q__=>⟨59,[(0,.sl none 2 (ws.map wntD)),(4,.u64 (wsumI ws q__.1)),(5,.int ((q__.1 : Nat) : Int))],[]⟩) (fun q__=>ws.length - q__.1) ⟨(0),⟨Nat.zero_le _,Nat.zero_le _,fun j h=>absurd h (Nat.not_lt_zero _)⟩⟩ O ?_
 rintro ⟨i,⟨hi,hi65,hok⟩⟩
 show W _ _ _ _ ⟨59,[(0,.sl none 2 (ws.map wntD)),(4,.u64 (wsumI ws i)),(5,.int ((i : Nat) : Int))],[]⟩
 have hi : i <= ws.length:=hi
 have hi65 : i <= 65:=hi65
 have hok : ∀ j < i,wokS ws[j]!:=hok
 refine W.seq (W.seq ?_)
 by_cases k0 : i < ws.length
 · refine W.l0 8 [.y 6 _,.y 7 _,.y 8 _,.y 9 _,.y 10 _,.y 11 _,.y 12 _,.y 13 _] [] [] [(0,_),(4,_),(5,_),(13,_)] [] 59 ⟨mU 5 O O,mU 0 O O,aU fun _ _ H K=>R.lenE (SC.sl (K 7 _ O)) (lN _) H,aU fun _ _ H K=>R.lssN (i) (ws.length) (eU K 6 O) (eU K 8 O) H,mU 9 O O,aW O O (gT (dT k0) O) fun _ _ H K=>R.mov (eU K 5 O) O H,aW O O (gT (dT k0) O) fun _ _ H K=>R.leqN (i) (64) (eU K 11 O) (kI 64 O) H,aU fun _ _ H K=>R.pickT (eU K 10 O) (dT k0) (eU K 12 O) O H,Zt⟩ O O O O (tU O ?_)
   refine W.condD O (fun hc13=>?_) (fun hc13=>?_)
   · refine W.skip (W.seq (W.block (W.seq (W.seq ?_))))
     by_cases k1 : ws[i]!.value < 1
     · refine W.l0 23 [.y 16 _,.y 17 _,.y 18 _,.y 19 _,.y 20 _,.y 21 _,.y 22 _,.x 23,.x 24,.x 25,.x 26,.x 27,.x 28,.y 29 _,.y 30 _,.x 31,.x 32,.x 33,.x 34,.x 35,.x 36,.x 37,.y 38 _] [] [] [(0,_),(4,_),(5,_),(38,_)] [] 59 ⟨mU 0 O O,mU 5 O O,aU fun _ _ H K=>R.idxN (i) (SC.sl (K 16 _ O)) (evoI (eU K 17 O)) O bU H dU,aU fun _ _ H K=>R.fdE (K 18 _ O) H dU,aU fun _ _ H K=>R.ldE (K 19 _ O) (SC.sl (K 16 _ O)) (map_get! (l:=ws) bU) O O O O H,aU fun _ _ H K=>R.bin (eU K 20 O) (show ev _ _ (.const (.int .u64 1)) = some (.u64 1) from O) O Zt H,mU 21 O O,aF O O (gT (dT k1) O),aF O O (gT (dT k1) O),aF O O (gT (dT k1) O),aF O O (gT (dT k1) O),aF O O (gT (dT k1) O),aF O O (gT (dT k1) O),aU fun _ _ H K=>R.pickT (eU K 22 O) (dT k1) (kB true O) O H,mU 29 O O,aF O O (gT (O) O),aF O O (gT (O) O),aF O O (gT (O) O),aF O O (gT (O) O),aF O O (gT (O) O),aF O O (gT (O) O),aF O O (gT (O) O),aU fun _ _ H K=>R.pickT (eU K 30 O) (O) (kB true O) O H,Zt⟩ O O O O (tU O ?_)
       refine W.condT O (O) ?_
       refine W.seq ?_
       refine W.l0 2 [.y 2 _,.y 3 _] [] [] [(2,_),(3,_)] [] 59 ⟨aU fun _ _ H _=>R.asg (show ev _ _ (.const (.int .u64 0)) = some (.u64 0) from O) O H,aU fun _ _ H _=>R.asg (kB false O) O H,Zt⟩ O O O O (tU O ?_)
       refine W.ret ?_
       exact Ends.many (.inr O) (.cons O O O Zt (.cons O O O Zt .nil)) (wan_f k0 hc13 (fun h=>h.1 k1)) (show [(2,true),(3,true)].Nodup by decide)
     · by_cases k2 : 2100000000000000 < ws[i]!.value
       · refine W.l0 23 [.y 16 _,.y 17 _,.y 18 _,.y 19 _,.y 20 _,.y 21 _,.y 22 _,.y 23 _,.y 24 _,.y 25 _,.y 26 _,.y 27 _,.y 28 _,.y 29 _,.y 30 _,.x 31,.x 32,.x 33,.x 34,.x 35,.x 36,.x 37,.y 38 _] [] [] [(0,_),(4,_),(5,_),(38,_)] [] 59 ⟨mU 0 O O,mU 5 O O,aU fun _ _ H K=>R.idxN (i) (SC.sl (K 16 _ O)) (evoI (eU K 17 O)) O bU H dU,aU fun _ _ H K=>R.fdE (K 18 _ O) H dU,aU fun _ _ H K=>R.ldE (K 19 _ O) (SC.sl (K 16 _ O)) (map_get! (l:=ws) bU) O O O O H,aU fun _ _ H K=>R.bin (eU K 20 O) (show ev _ _ (.const (.int .u64 1)) = some (.u64 1) from O) O Zt H,mU 21 O O,aW O O (gF (dF k1) O) fun _ _ H K=>R.mov (eU K 0 O) O H,aW O O (gF (dF k1) O) fun _ _ H K=>R.mov (eU K 5 O) O H,aW O O (gF (dF k1) O) fun _ _ H K=>R.idxN (i) (SC.sl (K 23 _ O)) (evoI (eU K 24 O)) O bU H dU,aW O O (gF (dF k1) O) fun _ _ H K=>R.fdE (K 25 _ O) H dU,aW O O (gF (dF k1) O) fun _ _ H K=>R.ldE (K 26 _ O) (SC.sl (K 23 _ O)) (map_get! (l:=ws) bU) O O O O H,aW O O (gF (dF k1) O) fun _ _ H K=>R.bin (eU K 27 O) (show ev _ _ (.const (.int .u64 2100000000000000)) = some (.u64 2100000000000000) from O) O Zt H,aU fun _ _ H K=>R.pickF (eU K 22 O) (dF k1) (eU K 28 O) O H,mU 29 O O,aF O O (gT (dT k2) O),aF O O (gT (dT k2) O),aF O O (gT (dT k2) O),aF O O (gT (dT k2) O),aF O O (gT (dT k2) O),aF O O (gT (dT k2) O),aF O O (gT (dT k2) O),aU fun _ _ H K=>R.pickT (eU K 30 O) (dT k2) (kB true O) O H,Zt⟩ O O O O (tU O ?_)
         refine W.condT O (O) ?_
         refine W.seq ?_
         refine W.l0 2 [.y 2 _,.y 3 _] [] [] [(2,_),(3,_)] [] 59 ⟨aU fun _ _ H _=>R.asg (show ev _ _ (.const (.int .u64 0)) = some (.u64 0) from O) O H,aU fun _ _ H _=>R.asg (kB false O) O H,Zt⟩ O O O O (tU O ?_)
         refine W.ret ?_
         exact Ends.many (.inr O) (.cons O O O Zt (.cons O O O Zt .nil)) (wan_f k0 hc13 (fun h=>h.2.1 k2)) (show [(2,true),(3,true)].Nodup by decide)
       · refine W.l0 23 [.y 16 _,.y 17 _,.y 18 _,.y 19 _,.y 20 _,.y 21 _,.y 22 _,.y 23 _,.y 24 _,.y 25 _,.y 26 _,.y 27 _,.y 28 _,.y 29 _,.y 30 _,.y 31 _,.y 32 _,.y 33 _,.y 34 _,.y 35 _,.y 36 _,.y 37 _,.y 38 _] [] [] [(0,_),(4,_),(5,_),(38,_)] [] 59 ⟨mU 0 O O,mU 5 O O,aU fun _ _ H K=>R.idxN (i) (SC.sl (K 16 _ O)) (evoI (eU K 17 O)) O bU H dU,aU fun _ _ H K=>R.fdE (K 18 _ O) H dU,aU fun _ _ H K=>R.ldE (K 19 _ O) (SC.sl (K 16 _ O)) (map_get! (l:=ws) bU) O O O O H,aU fun _ _ H K=>R.bin (eU K 20 O) (show ev _ _ (.const (.int .u64 1)) = some (.u64 1) from O) O Zt H,mU 21 O O,aW O O (gF (dF k1) O) fun _ _ H K=>R.mov (eU K 0 O) O H,aW O O (gF (dF k1) O) fun _ _ H K=>R.mov (eU K 5 O) O H,aW O O (gF (dF k1) O) fun _ _ H K=>R.idxN (i) (SC.sl (K 23 _ O)) (evoI (eU K 24 O)) O bU H dU,aW O O (gF (dF k1) O) fun _ _ H K=>R.fdE (K 25 _ O) H dU,aW O O (gF (dF k1) O) fun _ _ H K=>R.ldE (K 26 _ O) (SC.sl (K 23 _ O)) (map_get! (l:=ws) bU) O O O O H,aW O O (gF (dF k1) O) fun _ _ H K=>R.bin (eU K 27 O) (show ev _ _ (.const (.int .u64 2100000000000000)) = some (.u64 2100000000000000) from O) O Zt H,aU fun _ _ H K=>R.pickF (eU K 22 O) (dF k1) (eU K 28 O) O H,mU 29 O O,aW O O (gF (dF k2) O) fun _ _ H K=>R.mov (eU K 0 O) O H,aW O O (gF (dF k2) O) fun _ _ H K=>R.mov (eU K 5 O) O H,aW O O (gF (dF k2) O) fun _ _ H K=>R.idxN (i) (SC.sl (K 31 _ O)) (evoI (eU K 32 O)) O bU H dU,aW O O (gF (dF k2) O) fun _ _ H K=>R.fdE (K 33 _ O) H dU,aW O O (gF (dF k2) O) fun _ _ H K=>R.ldE (K 34 _ O) (SC.sl (K 31 _ O)) (map_get! (l:=ws) bU) O O O O H,aW O O (gF (dF k2) O) fun _ _ H K=>R.lenE (SC.sl (K 35 _ O)) (lN _) H,aW O O (gF (dF k2) O) fun _ _ H K=>R.gtrN (ws[i]!.script.length) (1000) (eU K 36 O) (kI 1000 O) H,aU fun _ _ H K=>R.pickF (eU K 30 O) (dF k2) (eU K 37 O) O H,Zt⟩ O O O O (tU O ?_)
         refine W.condD O (fun hc38=>?_) (fun hc38=>?_)
         · refine W.seq ?_
           refine W.l0 2 [.y 2 _,.y 3 _] [] [] [(2,_),(3,_)] [] 59 ⟨aU fun _ _ H _=>R.asg (show ev _ _ (.const (.int .u64 0)) = some (.u64 0) from O) O H,aU fun _ _ H _=>R.asg (kB false O) O H,Zt⟩ O O O O (tU O ?_)
           refine W.ret ?_
           exact Ends.many (.inr O) (.cons O O O Zt (.cons O O O Zt .nil)) (wan_f k0 hc13 (fun h=>absurd h.2.2 (by omega))) (show [(2,true),(3,true)].Nodup by decide)
         · refine W.skip ?_
           refine W.l0 8 [.y 39 _,.y 40 _,.y 41 _,.y 42 _,.y 43 _,.y 44 _,.y 45 _,.y 4 _] [] [] [(0,_),(4,_),(5,_)] [] 59 ⟨mU 4 O O,mU 0 O O,mU 5 O O,aU fun _ _ H K=>R.idxN (i) (SC.sl (K 40 _ O)) (evoI (eU K 41 O)) O bU H dU,aU fun _ _ H K=>R.fdE (K 42 _ O) H dU,aU fun _ _ H K=>R.ldE (K 43 _ O) (SC.sl (K 40 _ O)) (map_get! (l:=ws) bU) O O O O H,aU fun _ _ H K=>R.bin (eU K 39 O) (eU K 44 O) O Zt H,aU fun _ _ H K=>R.asg (eU K 45 O) O H,Zt⟩ O O O O (tU O ?_)
           refine W.l0 3 [.y 14 _,.y 15 _,.y 5 _] [] [] [(0,_),(4,_),(5,_)] [] 59 ⟨mU 5 O O,aU fun _ _ H K=>R.addN (i) (1) (eU K 14 O) (kI 1 O) bU H,aU fun _ _ H K=>R.asg (eU K 15 O) O H,Zt⟩ O O O O (tU O ?_)
           exact ⟨⟨(i + 1),⟨by omega,by omega,ext_i hok ⟨k1,k2,by omega⟩⟩⟩,rfl,(by simp only []; omega)⟩
   · have hie : i = wanN ws:=wanN_eq hi hi65 (by omega)
     subst hie
     refine W.exit (W.seq ?_)
     by_cases g1 : 1 <= ws.length
     · by_cases g2 : ws.length <= 64
       · refine W.l0 15 [.y 46 _,.y 47 _,.y 48 _,.y 49 _,.y 50 _,.y 51 _,.y 52 _,.y 53 _,.y 54 _,.y 55 _,.y 56 _,.y 57 _,.y 58 _,.y 2 _,.y 3 _] [] [] [(2,_),(3,_)] [] 59 ⟨mU 4 O O,mU 0 O O,aU fun _ _ H K=>R.lenE (SC.sl (K 47 _ O)) (lN _) H,aU fun _ _ H K=>R.geqN (ws.length) (1) (eU K 48 O) (kI 1 O) H,mU 49 O O,aW O O (gT (dT g1) O) fun _ _ H K=>R.mov (eU K 0 O) O H,aW O O (gT (dT g1) O) fun _ _ H K=>R.lenE (SC.sl (K 51 _ O)) (lN _) H,aW O O (gT (dT g1) O) fun _ _ H K=>R.leqN (ws.length) (64) (eU K 52 O) (kI 64 O) H,aU fun _ _ H K=>R.pickT (eU K 50 O) (dT g1) (eU K 53 O) O H,mU 54 O O,aW O O (gT (dT g2) O) fun _ _ H K=>R.mov (eU K 4 O) O H,aW O O (gT (dT g2) O) fun _ _ H K=>R.bin (eU K 56 O) (show ev _ _ (.const (.int .u64 2100000000000000)) = some (.u64 2100000000000000) from O) O Zt H,aU fun _ _ H K=>R.pickT (eU K 55 O) (dT g2) (eU K 57 O) O H,aU fun _ _ H K=>R.asg (eU K 46 O) O H,aU fun _ _ H K=>R.asg (eU K 58 O) O H,Zt⟩ O O O O (tU O ?_)
         refine W.ret ?_
         exact Ends.many (.inr O) (.cons O O O Zt (.cons O O O Zt .nil)) (wan_1 g1 g2 hok) (show [(2,true),(3,true)].Nodup by decide)
       · refine W.l0 15 [.y 46 _,.y 47 _,.y 48 _,.y 49 _,.y 50 _,.y 51 _,.y 52 _,.y 53 _,.y 54 _,.y 55 _,.x 56,.x 57,.y 58 _,.y 2 _,.y 3 _] [] [] [(2,_),(3,_)] [] 59 ⟨mU 4 O O,mU 0 O O,aU fun _ _ H K=>R.lenE (SC.sl (K 47 _ O)) (lN _) H,aU fun _ _ H K=>R.geqN (ws.length) (1) (eU K 48 O) (kI 1 O) H,mU 49 O O,aW O O (gT (dT g1) O) fun _ _ H K=>R.mov (eU K 0 O) O H,aW O O (gT (dT g1) O) fun _ _ H K=>R.lenE (SC.sl (K 51 _ O)) (lN _) H,aW O O (gT (dT g1) O) fun _ _ H K=>R.leqN (ws.length) (64) (eU K 52 O) (kI 64 O) H,aU fun _ _ H K=>R.pickT (eU K 50 O) (dT g1) (eU K 53 O) O H,mU 54 O O,aF O O (gF (dF g2) O),aF O O (gF (dF g2) O),aU fun _ _ H K=>R.pickF (eU K 55 O) (dF g2) (kB false O) O H,aU fun _ _ H K=>R.asg (eU K 46 O) O H,aU fun _ _ H K=>R.asg (eU K 58 O) O H,Zt⟩ O O O O (tU O ?_)
         refine W.ret ?_
         exact Ends.many (.inr O) (.cons O O O Zt (.cons O O O Zt .nil)) (wan_2 g2 hok) (show [(2,true),(3,true)].Nodup by decide)
     · refine W.l0 15 [.y 46 _,.y 47 _,.y 48 _,.y 49 _,.y 50 _,.x 51,.x 52,.x 53,.y 54 _,.y 55 _,.x 56,.x 57,.y 58 _,.y 2 _,.y 3 _] [] [] [(2,_),(3,_)] [] 59 ⟨mU 4 O O,mU 0 O O,aU fun _ _ H K=>R.lenE (SC.sl (K 47 _ O)) (lN _) H,aU fun _ _ H K=>R.geqN (ws.length) (1) (eU K 48 O) (kI 1 O) H,mU 49 O O,aF O O (gF (dF g1) O),aF O O (gF (dF g1) O),aF O O (gF (dF g1) O),aU fun _ _ H K=>R.pickF (eU K 50 O) (dF g1) (kB false O) O H,mU 54 O O,aF O O (gF (O) O),aF O O (gF (O) O),aU fun _ _ H K=>R.pickF (eU K 55 O) (O) (kB false O) O H,aU fun _ _ H K=>R.asg (eU K 46 O) O H,aU fun _ _ H K=>R.asg (eU K 58 O) O H,Zt⟩ O O O O (tU O ?_)
       refine W.ret ?_
       exact Ends.many (.inr O) (.cons O O O Zt (.cons O O O Zt .nil)) (wan_3 g1 hok) (show [(2,true),(3,true)].Nodup by decide)
 · refine W.l0 8 [.y 6 _,.y 7 _,.y 8 _,.y 9 _,.y 10 _,.x 11,.x 12,.y 13 _] [] [] [(0,_),(4,_),(5,_),(13,_)] [] 59 ⟨mU 5 O O,mU 0 O O,aU fun _ _ H K=>R.lenE (SC.sl (K 7 _ O)) (lN _) H,aU fun _ _ H K=>R.lssN (i) (ws.length) (eU K 6 O) (eU K 8 O) H,mU 9 O O,aF O O (gF (dF k0) O),aF O O (gF (dF k0) O),aU fun _ _ H K=>R.pickF (eU K 10 O) (dF k0) (kB false O) O H,Zt⟩ O O O O (tU O ?_)
   refine W.condF O (O) ?_
   have hie : i = wanN ws:=wanN_eq hi hi65 (by omega)
   subst hie
   refine W.exit (W.seq ?_)
   by_cases g1 : 1 <= ws.length
   · by_cases g2 : ws.length <= 64
     · refine W.l0 15 [.y 46 _,.y 47 _,.y 48 _,.y 49 _,.y 50 _,.y 51 _,.y 52 _,.y 53 _,.y 54 _,.y 55 _,.y 56 _,.y 57 _,.y 58 _,.y 2 _,.y 3 _] [] [] [(2,_),(3,_)] [] 59 ⟨mU 4 O O,mU 0 O O,aU fun _ _ H K=>R.lenE (SC.sl (K 47 _ O)) (lN _) H,aU fun _ _ H K=>R.geqN (ws.length) (1) (eU K 48 O) (kI 1 O) H,mU 49 O O,aW O O (gT (dT g1) O) fun _ _ H K=>R.mov (eU K 0 O) O H,aW O O (gT (dT g1) O) fun _ _ H K=>R.lenE (SC.sl (K 51 _ O)) (lN _) H,aW O O (gT (dT g1) O) fun _ _ H K=>R.leqN (ws.length) (64) (eU K 52 O) (kI 64 O) H,aU fun _ _ H K=>R.pickT (eU K 50 O) (dT g1) (eU K 53 O) O H,mU 54 O O,aW O O (gT (dT g2) O) fun _ _ H K=>R.mov (eU K 4 O) O H,aW O O (gT (dT g2) O) fun _ _ H K=>R.bin (eU K 56 O) (show ev _ _ (.const (.int .u64 2100000000000000)) = some (.u64 2100000000000000) from O) O Zt H,aU fun _ _ H K=>R.pickT (eU K 55 O) (dT g2) (eU K 57 O) O H,aU fun _ _ H K=>R.asg (eU K 46 O) O H,aU fun _ _ H K=>R.asg (eU K 58 O) O H,Zt⟩ O O O O (tU O ?_)
       refine W.ret ?_
       exact Ends.many (.inr O) (.cons O O O Zt (.cons O O O Zt .nil)) (wan_1 g1 g2 hok) (show [(2,true),(3,true)].Nodup by decide)
     · refine W.l0 15 [.y 46 _,.y 47 _,.y 48 _,.y 49 _,.y 50 _,.y 51 _,.y 52 _,.y 53 _,.y 54 _,.y 55 _,.x 56,.x 57,.y 58 _,.y 2 _,.y 3 _] [] [] [(2,_),(3,_)] [] 59 ⟨mU 4 O O,mU 0 O O,aU fun _ _ H K=>R.lenE (SC.sl (K 47 _ O)) (lN _) H,aU fun _ _ H K=>R.geqN (ws.length) (1) (eU K 48 O) (kI 1 O) H,mU 49 O O,aW O O (gT (dT g1) O) fun _ _ H K=>R.mov (eU K 0 O) O H,aW O O (gT (dT g1) O) fun _ _ H K=>R.lenE (SC.sl (K 51 _ O)) (lN _) H,aW O O (gT (dT g1) O) fun _ _ H K=>R.leqN (ws.length) (64) (eU K 52 O) (kI 64 O) H,aU fun _ _ H K=>R.pickT (eU K 50 O) (dT g1) (eU K 53 O) O H,mU 54 O O,aF O O (gF (dF g2) O),aF O O (gF (dF g2) O),aU fun _ _ H K=>R.pickF (eU K 55 O) (dF g2) (kB false O) O H,aU fun _ _ H K=>R.asg (eU K 46 O) O H,aU fun _ _ H K=>R.asg (eU K 58 O) O H,Zt⟩ O O O O (tU O ?_)
       refine W.ret ?_
       exact Ends.many (.inr O) (.cons O O O Zt (.cons O O O Zt .nil)) (wan_2 g2 hok) (show [(2,true),(3,true)].Nodup by decide)
   · refine W.l0 15 [.y 46 _,.y 47 _,.y 48 _,.y 49 _,.y 50 _,.x 51,.x 52,.x 53,.y 54 _,.y 55 _,.x 56,.x 57,.y 58 _,.y 2 _,.y 3 _] [] [] [(2,_),(3,_)] [] 59 ⟨mU 4 O O,mU 0 O O,aU fun _ _ H K=>R.lenE (SC.sl (K 47 _ O)) (lN _) H,aU fun _ _ H K=>R.geqN (ws.length) (1) (eU K 48 O) (kI 1 O) H,mU 49 O O,aF O O (gF (dF g1) O),aF O O (gF (dF g1) O),aF O O (gF (dF g1) O),aU fun _ _ H K=>R.pickF (eU K 50 O) (dF g1) (kB false O) O H,mU 54 O O,aF O O (gF (O) O),aF O O (gF (O) O),aU fun _ _ H K=>R.pickF (eU K 55 O) (O) (kB false O) O H,aU fun _ _ H K=>R.asg (eU K 46 O) O H,aU fun _ _ H K=>R.asg (eU K 58 O) O H,Zt⟩ O O O O (tU O ?_)
     refine W.ret ?_
     exact Ends.many (.inr O) (.cons O O O Zt (.cons O O O Zt .nil)) (wan_3 g1 hok) (show [(2,true),(3,true)].Nodup by decide)
theorem coins_ok (l : List Un) (hl : l.length <= 4096) : Fn Try.prog gl 29 [.sl none 35 (l.map coD)] (.bool (decide (purP l))):=by
 refine Fn.of (n:=36) Try.func29 rfl rfl rfl (nU rfl) fun C hC hD=>?_
 refine W.seq ?_
 refine W.l0 1 [.y 2 _] [] [] [(0,_)] [] 36 ⟨aU fun _ _ H _=>R.asg (kB false O) O H,Zt⟩ O O O O (tU O ?_)
 refine W.seq (W.seq ?_)
 refine W.l0 3 [.y 5 _,.y 6 _,.y 7 _] [] [] [(0,_),(7,_)] [] 36 ⟨mU 0 O O,aU fun _ _ H K=>R.lenE (SC.sl (K 5 _ O)) (lN _) H,aU fun _ _ H K=>R.gtrN (l.length) (4096) (eU K 6 O) (kI 4096 O) H,Zt⟩ O O O O (tU O ?_)
 refine W.condF O (dF (by omega)) ?_
 refine W.skip (W.seq (W.seq ?_))
 refine W.l0 1 [.y 3 _] [] [] [(0,_),(3,_)] [] 36 ⟨aU fun _ _ H _=>R.asg (kI 0 O) O H,Zt⟩ O O O O (tU O ?_)
 refine W.block ?_
 refine W.loop (α:={q__ : Nat // q__ <= l.length /\ ∀ j < q__,purA l j}) (fun q__=>⟨36,[(0,.sl none 35 (l.map coD)),(3,.int ((q__.1 : Nat) : Int))],[]⟩) (fun q__=>l.length - q__.1) ⟨(0),⟨Nat.zero_le _,fun j h=>absurd h (Nat.not_lt_zero _)⟩⟩ O ?_
 rintro ⟨i,⟨hi,hok⟩⟩
 show W _ _ _ _ ⟨36,[(0,.sl none 35 (l.map coD)),(3,.int ((i : Nat) : Int))],[]⟩
 have hi : i <= l.length:=hi
 have hok : ∀ j < i,purA l j:=hok
 refine W.seq (W.seq ?_)
 refine W.l0 4 [.y 8 _,.y 9 _,.y 10 _,.y 11 _] [] [] [(0,_),(3,_),(11,_)] [] 36 ⟨mU 3 O O,mU 0 O O,aU fun _ _ H K=>R.lenE (SC.sl (K 9 _ O)) (lN _) H,aU fun _ _ H K=>R.lssN (i) (l.length) (eU K 8 O) (eU K 10 O) H,Zt⟩ O O O O (tU O ?_)
 refine W.condD O (fun hc11=>?_) (fun hc11=>?_)
 · refine W.skip (W.seq (W.block (W.seq (W.seq ?_))))
   refine W.l0 6 [.y 14 _,.y 15 _,.y 16 _,.y 17 _,.y 18 _,.y 19 _] [] [] [(0,_),(3,_),(19,_)] [] 36 ⟨mU 0 O O,mU 3 O O,aU fun _ _ H K=>R.idxN (i) (SC.sl (K 14 _ O)) (evoI (eU K 15 O)) O bU H dU,aU fun _ _ H K=>R.fdE (K 16 _ O) H dU,aU fun _ _ H K=>R.ldE (K 17 _ O) (SC.sl (K 14 _ O)) (map_get! (l:=l) bU) O O O O H,aU fun _ _ H K=>R.bin (eU K 18 O) (show ev _ _ (.const (.int .u64 2100000000000000)) = some (.u64 2100000000000000) from O) O Zt H,Zt⟩ O O O O (tU O ?_)
   refine W.cond O (fun hc19=>?_) (fun hc19=>?_)
   · refine W.seq ?_
     refine W.l0 1 [.y 2 _] [] [] [(2,_)] [] 36 ⟨aU fun _ _ H _=>R.asg (kB false O) O H,Zt⟩ O O O O (tU O ?_)
     refine W.ret ?_
     exact Ends.one' (.inr O) O (congrArg D.bool (dF (fun h=>(h i hc11).2 (by first | exact hc19 | exact of_decide_eq_true hc19))).symm) O O Zt
   · refine W.skip (W.seq ?_)
     refine W.l0 1 [.y 4 _] [] [] [(0,_),(3,_),(4,_)] [] 36 ⟨aU fun _ _ H _=>R.asg (kI 0 O) O H,Zt⟩ O O O O (tU O ?_)
     refine W.block ?_
     refine W.loop (α:={q__ : Nat // q__ <= i /\ ∀ k < q__,upl l[k]! ≠ upl l[i]!}) (fun q__=>⟨36,[(0,.sl none 35 (l.map coD)),(3,.int ((i : Nat) : Int)),(4,.int ((q__.1 : Nat) : Int))],[]⟩) (fun q__=>i - q__.1) ⟨(0),⟨Nat.zero_le _,fun j h=>absurd h (Nat.not_lt_zero _)⟩⟩ O ?_
     rintro ⟨j,⟨hj,hne⟩⟩
     show W _ _ _ _ ⟨36,[(0,.sl none 35 (l.map coD)),(3,.int ((i : Nat) : Int)),(4,.int ((j : Nat) : Int))],[]⟩
     have hj : j <= i:=hj
     have hne : ∀ k < j,upl l[k]! ≠ upl l[i]!:=hne
     refine W.seq (W.seq ?_)
     refine W.l0 3 [.y 20 _,.y 21 _,.y 22 _] [] [] [(0,_),(3,_),(4,_),(22,_)] [] 36 ⟨mU 4 O O,mU 3 O O,aU fun _ _ H K=>R.lssN (j) (i) (eU K 20 O) (eU K 21 O) H,Zt⟩ O O O O (tU O ?_)
     refine W.condD O (fun hc22=>?_) (fun hc22=>?_)
     · refine W.skip (W.seq (W.block (W.seq ?_)))
       refine W.draw (m:=11) (an:=[0,0,3,7,15,0,0,96,224,480,1023]) hP dU O (its:=[.y 25 _,.y 26 _,.y 27 _,.y 28 _,.y 29 _,.y 30 _,.y 31 _,.y 32 _,.y 33 _,.y 34 _,.y 35 _]) (ks:=[]) (kk:=[]) (live:=[0,3,4,35]) (env':=[(0,_),(3,_),(4,_),(35,_)]) (⟨nU O,O,⟨mU 0 O O,mU 4 O O,aU fun _ _ H K=>R.idxN (j) (SC.sl (K 25 _ O)) (evoI (eU K 26 O)) O bU H dU,aU fun _ _ H K=>R.fdE (K 27 _ O) H dU,aU fun _ _ H K=>R.ldE (K 28 _ O) (SC.sl (K 25 _ O)) (map_get! (l:=l) bU) O O O O H,mU 0 O O,mU 3 O O,aU fun _ _ H K=>R.idxN (i) (SC.sl (K 30 _ O)) (evoI (eU K 31 O)) O bU H dU,aU fun _ _ H K=>R.fdE (K 32 _ O) H dU,aU fun _ _ H K=>R.ldE (K 33 _ O) (SC.sl (K 30 _ O)) (map_get! (l:=l) bU) O O O O H,aU fun _ _ H K=>R.eqD (neg:=false) (b':=(upl l[j]! == upl l[i]!)) (eqv_place (upl l[j]!) (upl l[i]!)) O (eU K 29 O) (eU K 34 O) O O O O (O) H,Zt⟩,O,O,O⟩) O (bx':=[]) O (n':=36) O (tV [(0,_),(3,_),(4,_),(35,_)] [] 36 O O O ?_)
       refine W.cond O (fun hc35=>?_) (fun hc35=>?_)
       · refine W.seq ?_
         refine W.l0 1 [.y 2 _] [] [] [(2,_)] [] 36 ⟨aU fun _ _ H _=>R.asg (kB false O) O H,Zt⟩ O O O O (tU O ?_)
         refine W.ret ?_
         exact Ends.one' (.inr O) O (congrArg D.bool (dF (fun h=>by have:=(h i hc11).1; rw [purI_yes hc22 (beq_iff_eq.1 hc35)] at this; cases this)).symm) O O Zt
       · refine W.skip ?_
         refine W.l0 3 [.y 23 _,.y 24 _,.y 4 _] [] [] [(0,_),(3,_),(4,_)] [] 36 ⟨mU 4 O O,aU fun _ _ H K=>R.addN (j) (1) (eU K 23 O) (kI 1 O) bU H,aU fun _ _ H K=>R.asg (eU K 24 O) O H,Zt⟩ O O O O (tU O ?_)
         exact ⟨⟨(j + 1),⟨by omega,ext_i hne (ne_of_beqf hc35)⟩⟩,rfl,(by simp only []; omega)⟩
     · obtain rfl : i = j:=by omega
       refine W.exit ?_
       refine W.l0 3 [.y 12 _,.y 13 _,.y 3 _] [] [] [(0,_),(3,_)] [] 36 ⟨mU 3 O O,aU fun _ _ H K=>R.addN (i) (1) (eU K 12 O) (kI 1 O) bU H,aU fun _ _ H K=>R.asg (eU K 13 O) O H,Zt⟩ O O O O (tU O ?_)
       exact ⟨⟨(i + 1),⟨by omega,ext_i hok ⟨purI_no hne,by first | exact hc19 | exact of_decide_eq_false hc19⟩⟩⟩,rfl,(by simp only []; omega)⟩
 · obtain rfl : i = l.length:=by omega
   refine W.exit (W.seq ?_)
   refine W.l0 1 [.y 2 _] [] [] [(2,_)] [] 36 ⟨aU fun _ _ H _=>R.asg (kB true O) O H,Zt⟩ O O O O (tU O ?_)
   refine W.ret ?_
   exact Ends.one' (.inr O) O (congrArg D.bool (dT hok).symm) O O Zt
end Go.Sx

namespace Go.Sx
open Go.Proofs
theorem first_ok (a b : Un) (hxa : a.tx.length = 32) (hxb : b.tx.length = 32) : Fn Try.prog gl 30 [coD a,coD b] (.bool (firS a b)):=by
 refine Fn.of (n:=38) Try.func30 rfl rfl rfl (nU rfl) fun C hC hD=>?_
 refine W.seq ?_
 refine W.l0 3 [] [] [] [(0,_),(1,_)] [] 38 Zt O O O O (⟨O,_,R.box (gV 0 O) O O (nU O),⟨O,_,R.box (gV 1 O) O O (nU O),⟨O,_,R.asg (kB false O) O (nU O),tV [(2,_),(3,_)] [(3,.var _),(2,.var _)] 38 O O O ?_⟩⟩⟩)
 refine W.seq (W.seq ?_)
 refine W.l0 5 [.y 5 _,.y 6 _,.y 7 _,.y 8 _,.y 9 _] [] [] [(2,_),(3,_),(9,_)] [(3,.var _),(2,.var _)] 38 ⟨aU (fU 2 O O),aU (lU 5 O O O O O O O),aU (fU 3 O O),aU (lU 7 O O O O O O O),aU fun _ _ H K=>R.bin (eU K 6 O) (eU K 8 O) O Zt H,Zt⟩ O O O O (tU O ?_)
 refine W.cond O (fun hc9=>?_) (fun hc9=>?_)
 · refine W.seq ?_
   refine W.l0 6 [.y 10 _,.y 11 _,.y 12 _,.y 13 _,.y 14 _,.y 4 _] [] [] [(4,_)] [(3,.var _),(2,.var _)] 38 ⟨aU (fU 2 O O),aU (lU 10 O O O O O O O),aU (fU 3 O O),aU (lU 12 O O O O O O O),aU fun _ _ H K=>R.bin (eU K 11 O) (eU K 13 O) O Zt H,aU fun _ _ H K=>R.asg (eU K 14 O) O H,Zt⟩ O O O O (tU O ?_)
   refine W.ret ?_
   exact Ends.one' (.inr O) O (congrArg D.bool (fir_1 (by simpa using hc9)).symm) O O Zt
 · refine W.skip (W.seq (W.seq ?_))
   refine W.l0 7 [.y 15 _,.y 16 _,.y 17 _,.y 18 _,.y 19 _,.y 20 _,.y 21 _] [] [] [(2,_),(3,_),(21,_)] [(3,.var _),(2,.var _)] 38 ⟨aU (fU 2 O O),aU (fU 15 O O),aU (lU 16 O O O O O O O),aU (fU 3 O O),aU (fU 18 O O),aU (lU 19 O O O O O O O),aU fun _ _ H K=>R.eqD (neg:=true) (b':=(!(a.tx == b.tx))) (EqV.arr a.tx b.tx) O (eU K 17 O) (eU K 20 O) O O O O (O) H,Zt⟩ O O O O (tU O ?_)
   refine W.cond O (fun hc21=>?_) (fun hc21=>?_)
   · refine W.seq ?_
     refine W.draw (m:=10) (an:=[0,1,3,7,0,16,48,112,255,511]) hP dU O (its:=[.y 22 _,.y 23 _,.y 24 _,.y 25 _,.y 26 _,.y 27 _,.y 28 _,.y 29 _,.y 30 _,.y 4 _]) (ks:=[]) (kk:=[]) (live:=[4]) (env':=[(4,_)]) (⟨nU O,O,⟨aU (fU 2 O O),aU (fU 22 O O),aU fun _ B H K=>R.slAN (0) (32) (32) (K 23 _ O) (B 2 _ O) O O O O O bU bU O H,aU fun _ B H K=>R.cvSE (xs:=a.tx) (SC.va (K 24 _ O) (B 2 _ O) O bU) (dt32 hxa) H,aU (fU 3 O O),aU (fU 26 O O),aU fun _ B H K=>R.slAN (0) (32) (32) (K 27 _ O) (B 3 _ O) O O O O O bU bU O H,aU fun _ B H K=>R.cvSE (xs:=b.tx) (SC.va (K 28 _ O) (B 3 _ O) O bU) (dt32 hxb) H,aU fun _ _ H K=>R.bin (eU K 25 O) (eU K 29 O) O Zt H,aU fun _ _ H K=>R.asg (eU K 30 O) O H,Zt⟩,O,O,O⟩) O (bx':=[(3,.var _),(2,.var _)]) O (n':=38) O (tV [(4,_)] [(3,.var _),(2,.var _)] 38 O O O ?_)
     refine W.ret ?_
     exact Ends.one' (.inr O) O (congrArg D.bool (fir_2 (by simpa using hc9) (by simpa using hc21)).symm) O O Zt
   · refine W.skip (W.seq ?_)
     refine W.l0 8 [.y 31 _,.y 32 _,.y 33 _,.y 34 _,.y 35 _,.y 36 _,.y 37 _,.y 4 _] [] [] [(4,_)] [(3,.var _),(2,.var _)] 38 ⟨aU (fU 2 O O),aU (fU 31 O O),aU (lU 32 O O O O O O O),aU (fU 3 O O),aU (fU 34 O O),aU (lU 35 O O O O O O O),aU fun _ _ H K=>R.bin (eU K 33 O) (eU K 36 O) O Zt H,aU fun _ _ H K=>R.asg (eU K 37 O) O H,Zt⟩ O O O O (tU O ?_)
     refine W.ret ?_
     exact Ends.one' (.inr O) O (congrArg D.bool (fir_3 (by simpa using hc9) (by simpa using hc21)).symm) O O Zt
theorem refs_ok (ws : List Wnt) (hw : ws.length <= 1000000) : Fn Try.prog gl 13 [.sl none 2 (ws.map wntD)] (.sl (some 85) 2 (ws.map wntD)):=by
 refine Fn.of (n:=19) Try.func13 rfl rfl rfl (nU rfl) fun C hC hD=>?_
 refine W.seq ?_
 refine W.l0 1 [.y 2 _] [] [] [(0,_)] [] 19 ⟨aU fun _ _ H _=>R.asg (kN O) O H,Zt⟩ O O O O (tU O ?_)
 refine W.seq ?_
 refine W.l0 1 [.y 3 _] [] [] [(0,_),(3,_)] [] 19 ⟨aU fun _ _ H _=>R.asg (kN O) O H,Zt⟩ O O O O (tU O ?_)
 refine W.seq (W.seq ?_)
 refine W.l0 1 [.y 4 _] [] [] [(0,_),(3,_),(4,_)] [] 19 ⟨aU fun _ _ H _=>R.asg (kI 0 O) O H,Zt⟩ O O O O (tU O ?_)
 refine W.block ?_
 refine W.asOwn (s:=3) 85 2 O ?_
 refine W.loop (α:={q__ : Nat // q__ <= ws.length}) (fun q__=>⟨19,[(0,.sl none 2 (ws.map wntD)),(3,.sl (some 85) 2 ((ws.take q__.1).map wntD)),(4,.int ((q__.1 : Nat) : Int))],[]⟩) (fun q__=>ws.length - q__.1) ⟨(0),bU⟩ O ?_
 rintro ⟨i,hi⟩
 show W _ _ _ _ ⟨19,[(0,.sl none 2 (ws.map wntD)),(3,.sl (some 85) 2 ((ws.take i).map wntD)),(4,.int ((i : Nat) : Int))],[]⟩
 have hi : i <= ws.length:=hi
 refine W.seq (W.seq ?_)
 refine W.l0 4 [.y 5 _,.y 6 _,.y 7 _,.y 8 _] [] [] [(0,_),(3,_),(4,_),(8,_)] [] 19 ⟨mU 4 O O,mU 0 O O,aU fun _ _ H K=>R.lenE (SC.sl (K 6 _ O)) (lN _) H,aU fun _ _ H K=>R.lssN (i) (ws.length) (eU K 5 O) (eU K 7 O) H,Zt⟩ O O O O (tU O ?_)
 refine W.condD O (fun hc8=>?_) (fun hc8=>?_)
 · refine W.skip (W.seq (W.block ?_))
   refine W.l0 8 [.y 11 _,.y 12 _,.y 13 _,.y 14 _,.y 15 _,.y 16 _,.y 17 _,.y 3 _] [(6,3),(7,17),(7,11)] [(6,3),(7,17)] [(0,_),(3,_),(4,_)] [] 19 ⟨aU fun _ _ H K=>R.al (K 3 _ O) H dU,mU 0 O O,mU 4 O O,aU fun _ _ H K=>R.idxN (i) (SC.sl (K 12 _ O)) (evoI (eU K 13 O)) O bU H dU,aU fun _ _ H K=>R.ldE (K 14 _ O) (SC.sl (K 12 _ O)) (map_get! (l:=ws) bU) O O O O H,aU fun _ _ H K=>R.bslE (z:=2) (.cons (eU K 15 O) .nil) ⟨⟨O,O,O⟩,Zt⟩ O H dU,aU fun _ _ H K=>R.appE (Or.inr (K 11 _ O)) (K 3 _ O) (SrcO.sc (SC.sl (K 16 _ O)) (pur_lit O)) (show _ = ((ws.take (i + 1)).map wntD) from (by rw [take_s hc8,List.map_append]; rfl)) (by simp; omega) H dU dU,aU fun _ _ H K=>R.asgO (K 17 _ O) O H dU,Zt⟩ O O O O (tU O ?_)
   refine W.l0 3 [.y 9 _,.y 10 _,.y 4 _] [] [] [(0,_),(3,_),(4,_)] [] 19 ⟨mU 4 O O,aU fun _ _ H K=>R.addN (i) (1) (eU K 9 O) (kI 1 O) bU H,aU fun _ _ H K=>R.asg (eU K 10 O) O H,Zt⟩ O O O O (tU O ?_)
   exact ⟨⟨(i + 1),bU⟩,rfl,(by simp only []; omega)⟩
 · obtain rfl : i = ws.length:=by omega
   refine W.exit (W.seq ?_)
   refine W.l0 2 [.y 18 _,.y 2 _] [(0,3),(1,18)] [(0,3),(1,18)] [(2,_)] [] 19 ⟨aU fun _ _ H K=>R.movO (K 3 _ O) O H dU,aU fun _ _ H K=>R.asgO (K 18 _ O) O H dU,Zt⟩ O O O O (tU O ?_)
   refine W.ret ?_
   exact Ends.one' (.inr O) O (by rw [List.take_length]) O O Zt
theorem same31_ok (a b : List Un) (ha : a.length <= 1000000) (hb : b.length <= 1000000) : Fn Try.prog gl 14 [.sl none 35 (a.map coD),.sl none 35 (b.map coD)] (.bool (decide (a = b))):=by
 refine Fn.of (n:=26) Try.func14 rfl rfl rfl (nU rfl) fun C hC hD=>?_
 refine W.seq ?_
 refine W.l0 1 [.y 4 _] [] [] [(0,_),(1,_)] [] 26 ⟨aU fun _ _ H _=>R.asg (kB false O) O H,Zt⟩ O O O O (tU O ?_)
 refine W.seq (W.seq ?_)
 refine W.l0 5 [.y 6 _,.y 7 _,.y 8 _,.y 9 _,.y 10 _] [] [] [(0,_),(1,_),(10,_)] [] 26 ⟨mU 0 O O,aU fun _ _ H K=>R.lenE (SC.sl (K 6 _ O)) (lN _) H,mU 1 O O,aU fun _ _ H K=>R.lenE (SC.sl (K 8 _ O)) (lN _) H,aU fun _ _ H K=>R.neqN (a.length) (b.length) (eU K 7 O) (eU K 9 O) H,Zt⟩ O O O O (tU O ?_)
 refine W.condD O (fun hc10=>?_) (fun hc10=>?_)
 · refine W.seq ?_
   refine W.l0 1 [.y 4 _] [] [] [(4,_)] [] 26 ⟨aU fun _ _ H _=>R.asg (kB false O) O H,Zt⟩ O O O O (tU O ?_)
   refine W.ret ?_
   exact Ends.one' (.inr O) O (congrArg D.bool (dF (fun h=>hc10 (by rw [h]))).symm) O O Zt
 · refine W.skip (W.seq (W.seq ?_))
   refine W.l0 1 [.y 5 _] [] [] [(0,_),(1,_),(5,_)] [] 26 ⟨aU fun _ _ H _=>R.asg (kI 0 O) O H,Zt⟩ O O O O (tU O ?_)
   refine W.block ?_
   refine W.loop (α:={q__ : Nat // q__ <= a.length /\ ∀ j < q__,a[j]! = b[j]!}) (fun q__=>⟨26,[(0,.sl none 35 (a.map coD)),(1,.sl none 35 (b.map coD)),(5,.int ((q__.1 : Nat) : Int))],[]⟩) (fun q__=>a.length - q__.1) ⟨(0),⟨Nat.zero_le _,fun j h=>absurd h (Nat.not_lt_zero _)⟩⟩ O ?_
   rintro ⟨i,⟨hi,hq⟩⟩
   show W _ _ _ _ ⟨26,[(0,.sl none 35 (a.map coD)),(1,.sl none 35 (b.map coD)),(5,.int ((i : Nat) : Int))],[]⟩
   have hi : i <= a.length:=hi
   have hq : ∀ j < i,a[j]! = b[j]!:=hq
   have hll : a.length = b.length:=Decidable.not_not.1 hc10
   refine W.seq (W.seq ?_)
   refine W.l0 4 [.y 11 _,.y 12 _,.y 13 _,.y 14 _] [] [] [(0,_),(1,_),(5,_),(14,_)] [] 26 ⟨mU 5 O O,mU 0 O O,aU fun _ _ H K=>R.lenE (SC.sl (K 12 _ O)) (lN _) H,aU fun _ _ H K=>R.lssN (i) (a.length) (eU K 11 O) (eU K 13 O) H,Zt⟩ O O O O (tU O ?_)
   refine W.condD O (fun hc14=>?_) (fun hc14=>?_)
   · refine W.skip (W.seq (W.block (W.seq ?_)))
     refine W.draw (m:=9) (an:=[0,0,3,7,0,0,48,112,255]) hP dU O (its:=[.y 17 _,.y 18 _,.y 19 _,.y 20 _,.y 21 _,.y 22 _,.y 23 _,.y 24 _,.y 25 _]) (ks:=[]) (kk:=[]) (live:=[0,1,5,25]) (env':=[(0,_),(1,_),(5,_),(25,_)]) (⟨nU O,O,⟨mU 0 O O,mU 5 O O,aU fun _ _ H K=>R.idxN (i) (SC.sl (K 17 _ O)) (evoI (eU K 18 O)) O bU H dU,aU fun _ _ H K=>R.ldE (K 19 _ O) (SC.sl (K 17 _ O)) (map_get! (l:=a) bU) O O O O H,mU 1 O O,mU 5 O O,aU fun _ _ H K=>R.idxN (i) (SC.sl (K 21 _ O)) (evoI (eU K 22 O)) O bU H dU,aU fun _ _ H K=>R.ldE (K 23 _ O) (SC.sl (K 21 _ O)) (map_get! (l:=b) bU) O O O O H,aU fun _ _ H K=>R.eqD (neg:=true) (b':=(!(a[i]! == b[i]!))) (eqv_un a[i]! b[i]!) O (eU K 20 O) (eU K 24 O) O O O O (O) H,Zt⟩,O,O,O⟩) O (bx':=[]) O (n':=26) O (tV [(0,_),(1,_),(5,_),(25,_)] [] 26 O O O ?_)
     refine W.cond O (fun hc25=>?_) (fun hc25=>?_)
     · refine W.seq ?_
       refine W.l0 1 [.y 4 _] [] [] [(4,_)] [] 26 ⟨aU fun _ _ H _=>R.asg (kB false O) O H,Zt⟩ O O O O (tU O ?_)
       refine W.ret ?_
       exact Ends.one' (.inr rfl) rfl (congrArg D.bool (dF (fun h=>by subst h; simp at hc25)).symm) rfl rfl Zt
     · refine W.skip ?_
       refine W.l0 3 [.y 15 _,.y 16 _,.y 5 _] [] [] [(0,_),(1,_),(5,_)] [] 26 ⟨mU 5 O O,aU fun _ _ H K=>R.addN (i) (1) (eU K 15 O) (kI 1 O) bU H,aU fun _ _ H K=>R.asg (eU K 16 O) O H,Zt⟩ O O O O (tU O ?_)
       exact ⟨⟨(i + 1),⟨by omega,ext_i hq (by simpa using hc25)⟩⟩,rfl,(by simp only []; omega)⟩
   · obtain rfl : i = a.length:=by omega
     refine W.exit (W.seq ?_)
     refine W.l0 1 [.y 4 _] [] [] [(4,_)] [] 26 ⟨aU fun _ _ H _=>R.asg (kB true O) O H,Zt⟩ O O O O (tU O ?_)
     refine W.ret ?_
     exact Ends.one' (.inr O) O (congrArg D.bool (dT (ext_list hll hq)).symm) O O Zt
end Go.Sx

namespace Go.Sx
open Go.Proofs
theorem brw_coD (c : Un) : (coD c).brw = coD c:=by simp only [coD,D.brw,brws_eq,List.map_cons,List.map_nil,brw_hash]
theorem brw_co (o : Option Nat) (l : List Un) : (D.sl o 35 (l.map coD)).brw = .sl none 35 (l.map coD):=by
 simp only [D.brw,brws_eq]; rw [brw_map brw_coD]
theorem frs_coD (c : Un) : Frs (coD c):=.agg _ fun x hx=>by
 simp only [List.mem_cons,List.not_mem_nil,or_false] at hx
 rcases hx with rfl | rfl | rfl
 · exact .agg _ fun x hx=>by
    simp only [List.mem_cons,List.not_mem_nil,or_false] at hx
    rcases hx with rfl | rfl
    · exact .arr _ _ _ (frs_map fun _=>.u8 _)
    · exact .u32 _
 · exact .u64 _
 · exact .int _
theorem frs_co (e : Nat) (l : List Un) : Frs (.sl (some e) 35 (l.map coD)):=.sl _ _ _ (frs_map frs_coD)
def sumU (s : List Un) : Nat -> UInt64
 | 0=>0
 | i + 1=>sumU s i + s[i]!.value
def chP (l : List Un) (ws : List Wnt) (r : UInt64) : Prop:=totP ws /\ purP l /\ ¬ 1000000 < r
instance (l : List Un) (ws : List Wnt) (r : UInt64) : Decidable (chP l ws r):=by unfold chP; infer_instance
def chL (l : List Un) (ws : List Wnt) (r : UInt64) (i : Nat) : Prop:=sumU (sortU l) (i + 1) < totV ws + feeV ((i + 1 : Nat) : Int) ((ws.length : Nat) : Int) r
instance (l : List Un) (ws : List Wnt) (r : UInt64) (i : Nat) : Decidable (chL l ws r i):=by unfold chL; infer_instance
def chM (ws : List Wnt) (r : UInt64) (i : Nat) : UInt64:=totV ws + feeV ((i + 1 : Nat) : Int) ((ws.length + 1 : Nat) : Int) r
def chF (l : List Un) (ws : List Wnt) (r : UInt64) : Option Nat:=(List.range l.length).find? fun i=>decide (¬ chL l ws r i)
def chC (l : List Un) (ws : List Wnt) (r : UInt64) : List Un:=if chP l ws r then (match chF l ws r with | some i=>(sortU l).take (i + 1) | none=>[]) else []
def chV (l : List Un) (ws : List Wnt) (r : UInt64) : UInt64:=if chP l ws r then (match chF l ws r with | some i=>(if chM ws r i + 546 <= sumU (sortU l) (i + 1) then sumU (sortU l) (i + 1) - chM ws r i else 0) | none=>0) else 0
def chE (l : List Un) (ws : List Wnt) (r : UInt64) : Int:=if chP l ws r then (match chF l ws r with | some _=>0 | none=>14) else 1
theorem chF_none {l : List Un} {ws : List Wnt} {r : UInt64} (h : ∀ j < l.length,chL l ws r j) : chF l ws r = none:=by
 unfold chF
 rw [List.find?_eq_none]
 intro j hj
 simpa using h j (List.mem_range.1 hj)
theorem chF_some {l : List Un} {ws : List Wnt} {r : UInt64} {i : Nat} (hi : i < l.length) (h : ∀ j < i,chL l ws r j) (hs : ¬ chL l ws r i) : chF l ws r = some i:=by
 unfold chF
 rw [List.find?_eq_some_iff_append]
 refine ⟨by simpa using hs,List.range i,(List.range (l.length - i - 1)).map (· + (i + 1)), ?_,fun j hj=>by simpa using h j (List.mem_range.1 hj)⟩
 refine List.ext_getElem (by simp; omega) fun k h1 h2=>?_
 simp only [List.getElem_range,List.getElem_append,List.getElem_cons,List.getElem_map,List.length_range]
 split
 · rfl
 · split <;> omega
theorem ch_bad {l : List Un} {ws : List Wnt} {r : UInt64} (h : ¬ chP l ws r) : [D.sl none 35 (([] : List Un).map coD),.u64 0,.int 1] = [.sl none 35 ((chC l ws r).map coD),.u64 (chV l ws r),.int (chE l ws r)]:=by
 rw [chC,chV,chE,if_neg h,if_neg h,if_neg h]
theorem ch_none {l : List Un} {ws : List Wnt} {r : UInt64} (h : chP l ws r) (hn : ∀ j < l.length,chL l ws r j) : [D.sl none 35 (([] : List Un).map coD),.u64 0,.int 14] = [.sl none 35 ((chC l ws r).map coD),.u64 (chV l ws r),.int (chE l ws r)]:=by
 rw [chC,chV,chE,if_pos h,if_pos h,if_pos h,chF_none hn]
theorem ch_y {l : List Un} {ws : List Wnt} {r : UInt64} {i : Nat} (h : chP l ws r) (hi : i < l.length) (hn : ∀ j < i,chL l ws r j) (hs : ¬ chL l ws r i) (hc : chM ws r i + 546 <= sumU (sortU l) (i + 1)) :
 [D.sl none 35 ((((sortU l).drop 0).take (i + 1)).map coD),.u64 (sumU (sortU l) (i + 1) - chM ws r i),.int 0] = [.sl none 35 ((chC l ws r).map coD),.u64 (chV l ws r),.int (chE l ws r)]:=by
 rw [chC,chV,chE,if_pos h,if_pos h,if_pos h,chF_some hi hn hs]
 simp only [if_pos hc,List.drop_zero]
theorem ch_n {l : List Un} {ws : List Wnt} {r : UInt64} {i : Nat} (h : chP l ws r) (hi : i < l.length) (hn : ∀ j < i,chL l ws r j) (hs : ¬ chL l ws r i) (hc : ¬ chM ws r i + 546 <= sumU (sortU l) (i + 1)) :
 [D.sl none 35 ((((sortU l).drop 0).take (i + 1)).map coD),.u64 0,.int 0] = [.sl none 35 ((chC l ws r).map coD),.u64 (chV l ws r),.int (chE l ws r)]:=by
 rw [chC,chV,chE,if_pos h,if_pos h,if_pos h,chF_some hi hn hs]
 simp only [if_neg hc,List.drop_zero]
end Go.Sx

namespace Go.Sx
open Go.Proofs
theorem choose_ok (l : List Un) (ws : List Wnt) (r : UInt64) (hl : l.length <= 4096) (hx : hs32 l) (hw : ws.length <= 1000000) : Fn Try.prog gl 11 [.sl none 35 (l.map coD),.sl none 2 (ws.map wntD),.u64 r] (.tup [.sl none 35 ((chC l ws r).map coD),.u64 (chV l ws r),.int (chE l ws r)]):=by
 refine Fn.of (n:=88) Try.func11 rfl rfl rfl (nU rfl) fun C hC hD=>?_
 have hsl:=sortU_len l
 refine W.seq ?_
 refine W.l0 4 [] [] [] [(0,_),(1,_),(2,_)] [] 88 Zt O O O O (⟨O,_,R.box (gV 2 O) O O (nU O),⟨O,_,R.asg (kN O) O (nU O),⟨O,_,R.asg (show ev _ _ (.const (.int .u64 0)) = some (.u64 0) from O) O (nU O),⟨O,_,R.asg (kI 0 O) O (nU O),tV [(0,_),(1,_),(5,_),(7,_)] [(5,.var _)] 88 O O O ?_⟩⟩⟩⟩)
 refine W.seq ?_
 refine W.l0 7 [.y 21 _,.y 22 _,.y 20 _,.y 23 _,.y 24 _,.y 9 _,.y 10 _] [] [] [(0,_),(1,_),(5,_),(7,_),(9,_),(10,_)] [(5,.var _)] 88 ⟨mU 1 O O,aU fun _ _ H K=>R.callG hC (total_ok ws hw) (Bc (Bp (eU K 21 O) O O) Bn) (FrsR.two (.u64 _) (.bool _)) H,aU fun _ _ H K=>R.movT (K 22 _ O) O H,aU fun _ _ H K=>R.ext (K 20 _ O) O O H,aU fun _ _ H K=>R.ext (K 20 _ O) O O H,aU fun _ _ H K=>R.asg (eU K 23 O) O H,aU fun _ _ H K=>R.asg (eU K 24 O) O H,Zt⟩ O O O O (tU O ?_)
 refine W.seq ?_
 by_cases hp : purP l
 · refine W.l0 7 [.y 26 _] [] [] [(0,_),(1,_),(5,_),(7,_),(9,_),(10,_),(26,_)] [(5,.var _)] 88 ⟨mU 0 O O,Zt⟩ O O O O (⟨O,_,R.callB [(12,27)] hC (purse_t l hl hp) (EvB.cons (gV 26 O) O O O EvB.nil) O Zt Zt O (renPu _ _ _ _) O O O O (nU O),⟨O,_,R.movT (gU 27 O) O (nU O),⟨O,_,R.ext (gU 25 O) O O (nU O),⟨O,_,R.ext (gU 25 O) O O (nU O),⟨O,_,R.asg (gV 28 O) O (nU O),⟨O,_,R.asg (gV 29 O) O (nU O),tV [(0,_),(1,_),(5,_),(7,_),(9,_),(10,_),(12,_)] [(27,mpK placeK D.u64 _),(5,.var _)] 88 O O O ?_⟩⟩⟩⟩⟩⟩)
   refine W.seq (W.seq ?_)
   by_cases k1 : ¬ totB ws = true
   · refine W.l0 10 [.y 30 _,.y 31 _,.y 32 _,.x 33,.x 34,.y 35 _,.y 36 _,.x 37,.x 38,.y 39 _] [] [] [(0,_),(1,_),(5,_),(7,_),(9,_),(39,_)] [(27,mpK placeK D.u64 _),(5,.var _)] 88 ⟨mU 10 O O,aU fun _ _ H K=>R.un (eU K 30 O) O H,mU 31 O O,aF O O (gT (by simpa using k1) O),aF O O (gT (by simpa using k1) O),aU fun _ _ H K=>R.pickT (eU K 32 O) (by simpa using k1) (kB true O) O H,mU 35 O O,aF O O (gT (O) O),aF O O (gT (O) O),aU fun _ _ H K=>R.pickT (eU K 36 O) (O) (kB true O) O H,Zt⟩ O O O O (tU O ?_)
     refine W.condT O (O) ?_
     refine W.seq ?_
     refine W.l0 3 [.y 6 _,.y 7 _,.y 8 _] [] [] [(6,_),(7,_),(8,_)] [(27,mpK placeK D.u64 _),(5,.var _)] 88 ⟨aU fun _ _ H _=>R.asg (kN O) O H,aU fun _ _ H _=>R.asg (show ev _ _ (.const (.int .u64 0)) = some (.u64 0) from O) O H,aU fun _ _ H _=>R.asg (kI 1 O) O H,Zt⟩ O O O O (tU O ?_)
     refine W.wkS (s:=6) (d':=.sl none 35 (([] : List Un).map coD)) O O O (.nils _ _) ?_
     refine W.ret ?_
     exact Ends.many (.inr O) (.cons O O O Zt (.cons O O O Zt (.cons O O O Zt .nil))) (ch_bad (fun h=>k1 (dT h.1))) (show [(6,true),(7,true),(8,true)].Nodup by decide)
   · refine W.l0 10 [.y 30 _,.y 31 _,.y 32 _,.y 33 _,.y 34 _,.y 35 _,.y 36 _,.y 37 _,.y 38 _,.y 39 _] [] [] [(0,_),(1,_),(5,_),(7,_),(9,_),(39,_)] [(27,mpK placeK D.u64 _),(5,.var _)] 88 ⟨mU 10 O O,aU fun _ _ H K=>R.un (eU K 30 O) O H,mU 31 O O,aW O O (gF (by simpa using k1) O) fun _ _ H K=>R.mov (eU K 12 O) O H,aW O O (gF (by simpa using k1) O) fun _ _ H K=>R.un (eU K 33 O) O H,aU fun _ _ H K=>R.pickF (eU K 32 O) (by simpa using k1) (eU K 34 O) O H,mU 35 O O,aW O O (gF (O) O) (lU 5 O O O O O O O),aW O O (gF (O) O) fun _ _ H K=>R.bin (eU K 37 O) (show ev _ _ (.const (.int .u64 1000000)) = some (.u64 1000000) from O) O Zt H,aU fun _ _ H K=>R.pickF (eU K 36 O) (O) (eU K 38 O) O H,Zt⟩ O O O O (tU O ?_)
     refine W.cond O (fun hc39=>?_) (fun hc39=>?_)
     · refine W.seq ?_
       refine W.l0 3 [.y 6 _,.y 7 _,.y 8 _] [] [] [(6,_),(7,_),(8,_)] [(27,mpK placeK D.u64 _),(5,.var _)] 88 ⟨aU fun _ _ H _=>R.asg (kN O) O H,aU fun _ _ H _=>R.asg (show ev _ _ (.const (.int .u64 0)) = some (.u64 0) from O) O H,aU fun _ _ H _=>R.asg (kI 1 O) O H,Zt⟩ O O O O (tU O ?_)
       refine W.wkS (s:=6) (d':=.sl none 35 (([] : List Un).map coD)) O O O (.nils _ _) ?_
       refine W.ret ?_
       exact Ends.many (.inr O) (.cons O O O Zt (.cons O O O Zt (.cons O O O Zt .nil))) (ch_bad (fun h=>h.2.2 (of_decide_eq_true hc39))) (show [(6,true),(7,true),(8,true)].Nodup by decide)
     · refine W.skip (W.seq ?_)
       refine W.l0 2 [.y 40 _,.y 13 _] [] [] [(0,_),(1,_),(7,_),(9,_),(13,_)] [(27,mpK placeK D.u64 _),(5,.var _)] 88 ⟨aU fun _ _ H K=>R.mkfn1 (eU K 5 O) O O H,aU fun _ _ H K=>R.asg (eU K 40 O) O H,Zt⟩ O O O O (tU O ?_)
       refine W.seq ?_
       refine W.l0 3 [.y 41 _,.y 42 _,.y 14 _] [(2,42)] [(2,42)] [(1,_),(7,_),(9,_),(13,_),(14,_)] [(27,mpK placeK D.u64 _),(5,.var _)] 88 ⟨mU 0 O O,aU fun _ _ H K=>R.callG hC (uclone_ok l (by omega)) (Bc (Bp (eU K 41 O) O O) Bn) (FrsR.one (frs_co _ _)) H,aU fun _ _ H K=>R.asgO (K 42 _ O) O H dU,Zt⟩ O O O O (tU O ?_)
       refine W.seq ?_
       refine W.l0 2 [.y 43 _] [] [] [(1,_),(7,_),(9,_),(13,_),(14,_),(43,_)] [(27,mpK placeK D.u64 _),(5,.var _)] 88 ⟨aU fun _ _ H K=>R.al (K 14 _ O) H dU,Zt⟩ O O O O (⟨O,_,R.srtU l hx (by omega) (Or.inr (gU 43 O)) (gU 14 O) (nU O),tV [(1,_),(7,_),(9,_),(13,_),(14,_)] [(27,mpK placeK D.u64 _),(5,.var _)] 88 O O O ?_⟩)
       refine W.seq ?_
       refine W.frzS (s:=14) (d':=.sl none 35 ((sortU l).map coD)) O O (brw_co _ _) ?_
       refine W.l0 1 [.y 15 _] [] [] [(1,_),(7,_),(9,_),(13,_),(14,_),(15,_)] [(27,mpK placeK D.u64 _),(5,.var _)] 88 ⟨aU fun _ _ H _=>R.asg (show ev _ _ (.const (.int .u64 0)) = some (.u64 0) from O) O H,Zt⟩ O O O O (tU O ?_)
       refine W.seq (W.seq ?_)
       refine W.l0 3 [.y 45 _,.y 46 _,.y 47 _] [] [] [(1,_),(7,_),(9,_),(13,_),(14,_),(15,_),(45,_),(46,_),(47,_)] [(27,mpK placeK D.u64 _),(5,.var _)] 88 ⟨mU 14 O O,aU fun _ _ H K=>R.lenE (SC.sl (K 45 _ O)) (lN _) H,aU fun _ _ H _=>R.mov (kI 0 O) O H,Zt⟩ O O O O (tU O ?_)
       refine W.block ?_
       refine W.loop (α:={q__ : Nat // q__ <= l.length /\ ∀ j < q__,chL l ws r j}) (fun q__=>⟨88,[(1,.sl none 2 (ws.map wntD)),(7,.u64 0),(9,.u64 (totV ws)),(13,.fn 23 [.ptr 5 0 []]),(14,.sl none 35 ((sortU l).map coD)),(15,.u64 (sumU (sortU l) q__.1)),(45,.sl none 35 ((sortU l).map coD)),(46,.int (((sortU l).length : Nat) : Int)),(47,.int ((q__.1 : Nat) : Int))],[(27,mpK placeK D.u64 (purI l l.length)),(5,.var (.u64 r))]⟩) (fun q__=>l.length - q__.1) ⟨(0),⟨Nat.zero_le _,fun j h=>absurd h (Nat.not_lt_zero _)⟩⟩ O ?_
       rintro ⟨i,⟨hi,hno⟩⟩
       show W _ _ _ _ ⟨88,[(1,.sl none 2 (ws.map wntD)),(7,.u64 0),(9,.u64 (totV ws)),(13,.fn 23 [.ptr 5 0 []]),(14,.sl none 35 ((sortU l).map coD)),(15,.u64 (sumU (sortU l) i)),(45,.sl none 35 ((sortU l).map coD)),(46,.int (((sortU l).length : Nat) : Int)),(47,.int ((i : Nat) : Int))],[(27,mpK placeK D.u64 (purI l l.length)),(5,.var (.u64 r))]⟩
       have hi : i <= l.length:=hi
       have hno : ∀ j < i,chL l ws r j:=hno
       refine W.seq ?_
       refine W.l0 1 [.y 48 _] [] [] [(1,_),(7,_),(9,_),(13,_),(14,_),(15,_),(45,_),(46,_),(47,_),(48,_)] [(27,mpK placeK D.u64 _),(5,.var _)] 88 ⟨aU fun _ _ H K=>R.lssN (i) ((sortU l).length) (eU K 47 O) (eU K 46 O) H,Zt⟩ O O O O (tU O ?_)
       refine W.seq ?_
       refine W.condD O (fun hc48=>?_) (fun hc48=>?_)
       · refine W.skip (W.seq (W.block (W.seq ?_)))
         refine W.l0 6 [.y 49 _,.y 50 _,.y 51 _] [] [] [(1,_),(7,_),(9,_),(13,_),(14,_),(15,_),(45,_),(46,_),(47,_),(49,_),(51,_)] [(27,mpK placeK D.u64 _),(5,.var _)] 88 ⟨mU 47 O O,aU fun _ _ H K=>R.idxN (i) (SC.sl (K 45 _ O)) (evoI (eU K 47 O)) O bU H dU,aU fun _ _ H K=>R.ldE (K 50 _ O) (SC.sl (K 45 _ O)) (map_get! (l:=(sortU l)) bU) O O O O H,Zt⟩ O O O O (⟨O,_,R.alloc O (nU O),⟨O,_,R.asg (gV 49 O) O (nU O),⟨O,_,R.stZ (gU 17 O) (xU 17 O) O (gV 51 O) (by rfl) (by rfl) (by rfl) (by rfl) O,tV [(1,_),(7,_),(9,_),(13,_),(14,_),(15,_),(16,_),(17,_),(45,_),(46,_),(47,_)] [(17,.var _),(27,mpK placeK D.u64 _),(5,.var _)] 88 O O O ?_⟩⟩⟩)
         refine W.seq ?_
         refine W.l0 5 [.y 52 _,.y 53 _,.y 54 _,.y 55 _,.y 15 _] [] [] [(1,_),(7,_),(9,_),(13,_),(14,_),(15,_),(16,_),(45,_),(46,_),(47,_)] [(17,.var _),(27,mpK placeK D.u64 _),(5,.var _)] 88 ⟨mU 15 O O,aU (fU 17 O O),aU (lU 53 O O O O O O O),aU fun _ _ H K=>R.bin (eU K 52 O) (eU K 54 O) O Zt H,aU fun _ _ H K=>R.asg (eU K 55 O) O H,Zt⟩ O O O O (tU O ?_)
         refine W.seq ?_
         refine W.dropBP [5,27] (bx':=[(27,mpK placeK D.u64 _),(5,.var _)]) O O ⟨okMpK (fun _=>rfl) (fun _=>rfl),⟨O,Zt⟩⟩ (pin_sub hD O) ?_
         refine W.l0 3 [.y 56 _,.y 57 _,.y 18 _] [] [] [(1,_),(7,_),(9,_),(13,_),(14,_),(15,_),(18,_),(45,_),(46,_),(47,_)] [(27,mpK placeK D.u64 _),(5,.var _)] 88 ⟨mU 16 O O,aU fun _ _ H K=>R.addN (i) (1) (eU K 56 O) (kI 1 O) bU H,aU fun _ _ H K=>R.asg (eU K 57 O) O H,Zt⟩ O O O O (tU O ?_)
         refine W.seq (W.seq ?_)
         refine W.l0 9 [.y 58 _,.y 59 _,.y 60 _,.y 61 _,.y 62 _,.y 63 _] [] [] [(1,_),(7,_),(9,_),(13,_),(14,_),(15,_),(18,_),(45,_),(46,_),(47,_),(58,_),(59,_),(60,_),(61,_),(63,_)] [(27,mpK placeK D.u64 _),(5,.var _)] 88 ⟨mU 15 O O,mU 9 O O,mU 13 O O,mU 18 O O,mU 1 O O,aU fun _ _ H K=>R.lenE (SC.sl (K 62 _ O)) (lN _) H,Zt⟩ O O O O (⟨O,_,R.callVB (ds:=[.int ((i + 1 : Nat) : Int),.int ((ws.length : Nat) : Int)]) (caps:=[.ptr 0 0 []]) [(0,5)] hC (gU 60 O) O O (choose1_ok ((i + 1 : Nat) : Int) ((ws.length : Nat) : Int) r) (EvB.cons (gV 61 O) O O O (EvB.cons (gV 63 O) O O O EvB.nil)) O ⟨O,Zt⟩ ⟨O,Zt⟩ O O O O O O (nU O),⟨O,_,R.bin (gV 59 O) (gV 64 O) O Zt (nU O),⟨O,_,R.bin (gV 58 O) (gV 65 O) O Zt (nU O),tV [(1,_),(7,_),(9,_),(13,_),(14,_),(15,_),(18,_),(45,_),(46,_),(47,_),(66,_)] [(27,mpK placeK D.u64 _),(5,.var _)] 88 O O O ?_⟩⟩⟩)
         refine W.cond O (fun hc66=>?_) (fun hc66=>?_)
         · refine W.exit ?_
           refine W.l0 2 [.y 87 _,.y 47 _] [] [] [(1,_),(7,_),(9,_),(13,_),(14,_),(15,_),(45,_),(46,_),(47,_)] [(27,mpK placeK D.u64 _),(5,.var _)] 88 ⟨aU fun _ _ H K=>R.addN (i) (1) (eU K 47 O) (kI 1 O) bU H,mU 87 O O,Zt⟩ O O O O (tU O ?_)
           exact ⟨⟨(i + 1),⟨(by show i + 1 <= l.length; omega),ext_i hno (of_decide_eq_true hc66)⟩⟩,rfl,(by simp only []; omega)⟩
         · refine W.skip (W.seq (W.seq ?_))
           refine W.l0 9 [.y 67 _,.y 68 _,.y 69 _,.y 70 _,.y 71 _,.y 72 _] [] [] [(7,_),(14,_),(15,_),(18,_),(67,_),(68,_),(69,_),(72,_)] [(27,mpK placeK D.u64 _),(5,.var _)] 88 ⟨mU 9 O O,mU 13 O O,mU 18 O O,mU 1 O O,aU fun _ _ H K=>R.lenE (SC.sl (K 70 _ O)) (lN _) H,aU fun _ _ H K=>R.addN (ws.length) (1) (eU K 71 O) (kI 1 O) bU H,Zt⟩ O O O O (⟨O,_,R.callVB (ds:=[.int ((i + 1 : Nat) : Int),.int ((ws.length + 1 : Nat) : Int)]) (caps:=[.ptr 0 0 []]) [(0,5)] hC (gU 68 O) O O (choose1_ok ((i + 1 : Nat) : Int) ((ws.length + 1 : Nat) : Int) r) (EvB.cons (gV 69 O) O O O (EvB.cons (gV 72 O) O O O EvB.nil)) O ⟨O,Zt⟩ ⟨O,Zt⟩ O O O O O O (nU O),⟨O,_,R.bin (gV 67 O) (gV 73 O) O Zt (nU O),⟨O,_,R.asg (gV 74 O) O (nU O),tV [(7,_),(14,_),(15,_),(18,_),(19,_)] [(27,mpK placeK D.u64 _),(5,.var _)] 88 O O O ?_⟩⟩⟩)
           refine W.seq ?_
           refine W.l0 4 [.y 75 _,.y 76 _,.y 77 _,.y 78 _] [] [] [(7,_),(14,_),(15,_),(18,_),(19,_),(78,_)] [(27,mpK placeK D.u64 _),(5,.var _)] 88 ⟨mU 15 O O,mU 19 O O,aU fun _ _ H K=>R.bin (eU K 76 O) (show ev _ _ (.const (.int .u64 546)) = some (.u64 546) from O) O Zt H,aU fun _ _ H K=>R.bin (eU K 75 O) (eU K 77 O) O Zt H,Zt⟩ O O O O (tU O ?_)
           refine W.cond O (fun hc78=>?_) (fun hc78=>?_)
           · refine W.l0 4 [.y 79 _,.y 80 _,.y 81 _,.y 7 _] [] [] [(7,_),(14,_),(18,_)] [(27,mpK placeK D.u64 _),(5,.var _)] 88 ⟨mU 15 O O,mU 19 O O,aU fun _ _ H K=>R.bin (eU K 79 O) (eU K 80 O) O Zt H,aU fun _ _ H K=>R.asg (eU K 81 O) O H,Zt⟩ O O O O (tU O ?_)
             refine W.seq ?_
             refine W.l0 8 [.y 82 _,.y 83 _,.y 84 _,.y 85 _,.y 86 _,.y 6 _,.y 7 _,.y 8 _] [] [] [(6,_),(7,_),(8,_)] [(27,mpK placeK D.u64 _),(5,.var _)] 88 ⟨mU 14 O O,mU 18 O O,aU fun _ _ H K=>R.slIN (0) ((i + 1)) ((i + 1)) (eU K 82 O) O (evoI (eU K 83 O)) O O bU bU O (part_map) H,aU fun _ _ H K=>R.callPE hC (clip_ok (((sortU l).drop 0).take (i + 1))) (EvP.cons (eU K 84 O) O O EvP.nil) H,mU 7 O O,aU fun _ _ H K=>R.asg (eU K 85 O) O H,aU fun _ _ H K=>R.asg (eU K 86 O) O H,aU fun _ _ H _=>R.asg (kI 0 O) O H,Zt⟩ O O O O (tU O ?_)
             refine W.ret ?_
             exact Ends.many (.inr O) (.cons O O O Zt (.cons O O O Zt (.cons O O O Zt .nil))) (ch_y ⟨of_decide_eq_true (show totB ws = true from Classical.byContradiction k1),hp,of_decide_eq_false hc39⟩ (by omega) hno (of_decide_eq_false hc66) (of_decide_eq_true hc78)) (show [(6,true),(7,true),(8,true)].Nodup by decide)
           · refine W.skip (W.seq ?_)
             refine W.l0 8 [.y 82 _,.y 83 _,.y 84 _,.y 85 _,.y 86 _,.y 6 _,.y 7 _,.y 8 _] [] [] [(6,_),(7,_),(8,_)] [(27,mpK placeK D.u64 _),(5,.var _)] 88 ⟨mU 14 O O,mU 18 O O,aU fun _ _ H K=>R.slIN (0) ((i + 1)) ((i + 1)) (eU K 82 O) O (evoI (eU K 83 O)) O O bU bU O (part_map) H,aU fun _ _ H K=>R.callPE hC (clip_ok (((sortU l).drop 0).take (i + 1))) (EvP.cons (eU K 84 O) O O EvP.nil) H,mU 7 O O,aU fun _ _ H K=>R.asg (eU K 85 O) O H,aU fun _ _ H K=>R.asg (eU K 86 O) O H,aU fun _ _ H _=>R.asg (kI 0 O) O H,Zt⟩ O O O O (tU O ?_)
             refine W.ret ?_
             exact Ends.many (.inr O) (.cons O O O Zt (.cons O O O Zt (.cons O O O Zt .nil))) (ch_n ⟨of_decide_eq_true (show totB ws = true from Classical.byContradiction k1),hp,of_decide_eq_false hc39⟩ (by omega) hno (of_decide_eq_false hc66) (of_decide_eq_false hc78)) (show [(6,true),(7,true),(8,true)].Nodup by decide)
       · obtain rfl : i = l.length:=by omega
         refine W.exit (W.seq ?_)
         refine W.l0 3 [.y 6 _,.y 7 _,.y 8 _] [] [] [(6,_),(7,_),(8,_)] [(27,mpK placeK D.u64 _),(5,.var _)] 88 ⟨aU fun _ _ H _=>R.asg (kN O) O H,aU fun _ _ H _=>R.asg (show ev _ _ (.const (.int .u64 0)) = some (.u64 0) from O) O H,aU fun _ _ H _=>R.asg (kI 14 O) O H,Zt⟩ O O O O (tU O ?_)
         refine W.wkS (s:=6) (d':=.sl none 35 (([] : List Un).map coD)) O O O (.nils _ _) ?_
         refine W.ret ?_
         exact Ends.many (.inr O) (.cons O O O Zt (.cons O O O Zt (.cons O O O Zt .nil))) (ch_none ⟨of_decide_eq_true (show totB ws = true from Classical.byContradiction k1),hp,of_decide_eq_false hc39⟩ hno) (show [(6,true),(7,true),(8,true)].Nodup by decide)
 · refine W.l0 7 [.y 26 _] [] [] [(0,_),(1,_),(5,_),(7,_),(9,_),(10,_),(26,_)] [(5,.var _)] 88 ⟨mU 0 O O,Zt⟩ O O O O (⟨O,_,R.callB [] hC (purse_f l hl hp) (EvB.cons (gV 26 O) O O O EvB.nil) O Zt Zt O O O O O O (nU O),⟨O,_,R.movT (gU 27 O) O (nU O),⟨O,_,R.ext (gU 25 O) O O (nU O),⟨O,_,R.ext (gU 25 O) O O (nU O),⟨O,_,R.asg (gV 28 O) O (nU O),⟨O,_,R.asg (gV 29 O) O (nU O),tV [(0,_),(1,_),(5,_),(7,_),(9,_),(10,_),(12,_)] [(5,.var _)] 88 O O O ?_⟩⟩⟩⟩⟩⟩)
   refine W.seq (W.seq ?_)
   by_cases k1 : ¬ totB ws = true
   · refine W.l0 10 [.y 30 _,.y 31 _,.y 32 _,.x 33,.x 34,.y 35 _,.y 36 _,.x 37,.x 38,.y 39 _] [] [] [(0,_),(1,_),(5,_),(7,_),(9,_),(39,_)] [(5,.var _)] 88 ⟨mU 10 O O,aU fun _ _ H K=>R.un (eU K 30 O) O H,mU 31 O O,aF O O (gT (by simpa using k1) O),aF O O (gT (by simpa using k1) O),aU fun _ _ H K=>R.pickT (eU K 32 O) (by simpa using k1) (kB true O) O H,mU 35 O O,aF O O (gT (O) O),aF O O (gT (O) O),aU fun _ _ H K=>R.pickT (eU K 36 O) (O) (kB true O) O H,Zt⟩ O O O O (tU O ?_)
     refine W.condT O (O) ?_
     refine W.seq ?_
     refine W.l0 3 [.y 6 _,.y 7 _,.y 8 _] [] [] [(6,_),(7,_),(8,_)] [(5,.var _)] 88 ⟨aU fun _ _ H _=>R.asg (kN O) O H,aU fun _ _ H _=>R.asg (show ev _ _ (.const (.int .u64 0)) = some (.u64 0) from O) O H,aU fun _ _ H _=>R.asg (kI 1 O) O H,Zt⟩ O O O O (tU O ?_)
     refine W.wkS (s:=6) (d':=.sl none 35 (([] : List Un).map coD)) O O O (.nils _ _) ?_
     refine W.ret ?_
     exact Ends.many (.inr O) (.cons O O O Zt (.cons O O O Zt (.cons O O O Zt .nil))) (ch_bad (fun h=>k1 (dT h.1))) (show [(6,true),(7,true),(8,true)].Nodup by decide)
   · refine W.l0 10 [.y 30 _,.y 31 _,.y 32 _,.y 33 _,.y 34 _,.y 35 _,.y 36 _,.x 37,.x 38,.y 39 _] [] [] [(0,_),(1,_),(5,_),(7,_),(9,_),(39,_)] [(5,.var _)] 88 ⟨mU 10 O O,aU fun _ _ H K=>R.un (eU K 30 O) O H,mU 31 O O,aW O O (gF (by simpa using k1) O) fun _ _ H K=>R.mov (eU K 12 O) O H,aW O O (gF (by simpa using k1) O) fun _ _ H K=>R.un (eU K 33 O) O H,aU fun _ _ H K=>R.pickF (eU K 32 O) (by simpa using k1) (eU K 34 O) O H,mU 35 O O,aF O O (gT (O) O),aF O O (gT (O) O),aU fun _ _ H K=>R.pickT (eU K 36 O) (O) (kB true O) O H,Zt⟩ O O O O (tU O ?_)
     refine W.condT O (O) ?_
     refine W.seq ?_
     refine W.l0 3 [.y 6 _,.y 7 _,.y 8 _] [] [] [(6,_),(7,_),(8,_)] [(5,.var _)] 88 ⟨aU fun _ _ H _=>R.asg (kN O) O H,aU fun _ _ H _=>R.asg (show ev _ _ (.const (.int .u64 0)) = some (.u64 0) from O) O H,aU fun _ _ H _=>R.asg (kI 1 O) O H,Zt⟩ O O O O (tU O ?_)
     refine W.wkS (s:=6) (d':=.sl none 35 (([] : List Un).map coD)) O O O (.nils _ _) ?_
     refine W.ret ?_
     exact Ends.many (.inr O) (.cons O O O Zt (.cons O O O Zt (.cons O O O Zt .nil))) (ch_bad (fun h=>hp h.2.1)) (show [(6,true),(7,true),(8,true)].Nodup by decide)
end Go.Sx
