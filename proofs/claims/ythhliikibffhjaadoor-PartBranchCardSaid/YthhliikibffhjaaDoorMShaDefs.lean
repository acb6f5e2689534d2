/-
 What the functions of sha and scantlingref01 compute,as they compute it.
-/
import Derived.Test.YthhliikibffhjaaDoorMSxOwn
import Derived.Test.YthhliikibffhjaaDoorMSxCallB
import Derived.Test.YthhliikibffhjaaDoorMSxRange
import Derived.Test.YthhliikibffhjaaDoorProg
import Derived.Test.YthhliikibffhjaaDoorChecked
set_option linter.unusedVariables false
set_option linter.unusedSimpArgs false
set_option linter.unnecessarySimpa false

namespace Go.Sx

def kTab : List UInt32 := [0x428a2f98,0x71374491,0xb5c0fbcf,0xe9b5dba5,0x3956c25b,0x59f111f1,0x923f82a4,0xab1c5ed5,
 0xd807aa98,0x12835b01,0x243185be,0x550c7dc3,0x72be5d74,0x80deb1fe,0x9bdc06a7,0xc19bf174,
 0xe49b69c1,0xefbe4786,0x0fc19dc6,0x240ca1cc,0x2de92c6f,0x4a7484aa,0x5cb0a9dc,0x76f988da,
 0x983e5152,0xa831c66d,0xb00327c8,0xbf597fc7,0xc6e00bf3,0xd5a79147,0x06ca6351,0x14292967,
 0x27b70a85,0x2e1b2138,0x4d2c6dfc,0x53380d13,0x650a7354,0x766a0abb,0x81c2c92e,0x92722c85,
 0xa2bfe8a1,0xa81a664b,0xc24b8b70,0xc76c51a3,0xd192e819,0xd6990624,0xf40e3585,0x106aa070,
 0x19a4c116,0x1e376c08,0x2748774c,0x34b0bcb5,0x391c0cb3,0x4ed8aa4a,0x5b9cca4f,0x682e6ff3,
 0x748f82ee,0x78a5636f,0x84c87814,0x8cc70208,0x90befffa,0xa4506ceb,0xbef9a3f7,0xc67178f2]
def iv : List UInt32 := [0x6a09e667,0xbb67ae85,0x3c6ef372,0xa54ff53a,0x510e527f,0x9b05688c,0x1f83d9ab,0x5be0cd19]

def hashD (b : List UInt8) : D := .arr 32 1 (b.map D.u8)

def rotl (x : UInt32) (k : Int) : UInt32 := shl_u32 x (UInt64.ofInt k &&& 31).toNat ||| shr_u32 x (32 - (UInt64.ofInt k &&& 31)).toNat
def right (x : UInt32) (n : Int) : UInt32 := rotl x (wr (0 - n))
def inW (p : List UInt8) (t : Nat) (w : List UInt32) : Nat → List UInt32
 | 0 => w
 | i + 1 => (inW p t w i).set t (shl_u32 (inW p t w i)[t]! 8 ||| (p[4 * t + i]!).toUInt32)
def nextW (w : List UInt32) (t : Nat) : UInt32 :=
 w[t - 16]! + w[t - 7]! + (right w[t - 15]! 7 ^^^ right w[t - 15]! 18 ^^^ shr_u32 w[t - 15]! 3) + (right w[t - 2]! 17 ^^^ right w[t - 2]! 19 ^^^ shr_u32 w[t - 2]! 10)
def sched (p : List UInt8) : Nat → List UInt32
 | 0 => List.replicate 64 0
 | t + 1 => if t < 16 then inW p t (sched p t) 4 else (sched p t).set t (nextW (sched p t) t)

structure W8 where
 a : UInt32
 b : UInt32
 c : UInt32
 d : UInt32
 e : UInt32
 f : UInt32
 g : UInt32
 l : UInt32
def W8.list (v : W8) : List UInt32 := [v.a,v.b,v.c,v.d,v.e,v.f,v.g,v.l]
def W8.of (h : List UInt32) : W8 := ⟨h[0]!,h[1]!,h[2]!,h[3]!,h[4]!,h[5]!,h[6]!,h[7]!⟩
def one (v : W8) (k w : UInt32) : UInt32 := v.l + (right v.e 6 ^^^ right v.e 11 ^^^ right v.e 25) + (v.g ^^^ (v.e &&& (v.f ^^^ v.g))) + k + w
def two (v : W8) : UInt32 := (right v.a 2 ^^^ right v.a 13 ^^^ right v.a 22) + (v.a &&& v.b ||| v.c &&& (v.a ||| v.b))
def rnd (v : W8) (k w : UInt32) : W8 := ⟨one v k w + two v,v.a,v.b,v.c,v.d + one v k w,v.e,v.f,v.g⟩
def rds (h w : List UInt32) : Nat → W8
 | 0 => W8.of h
 | t + 1 => rnd (rds h w t) kTab[t]! w[t]!
def addH (h l : List UInt32) : Nat → List UInt32
 | 0 => h
 | i + 1 => (addH h l i).set i ((addH h l i)[i]! + l[i]!)
def comp (h : List UInt32) (p : List UInt8) : List UInt32 := addH h (rds h (sched p 64) 64).list 8

structure ShaS where
 begun : Bool
 h : List UInt32
 piece : List UInt8
 n : UInt64
def stD (s : ShaS) : D := .agg [.bool s.begun,.arr 8 1 (s.h.map D.u32),.arr 64 1 (s.piece.map D.u8),.u64 s.n]
def ShaS.zero : ShaS := ⟨false,List.replicate 8 0,List.replicate 64 0,0⟩
def ShaS.start : ShaS := ⟨true,iv,List.replicate 64 0,0⟩
structure ShaS.ok (s : ShaS) : Prop where
 h : s.h.length = 8
 p : s.piece.length = 64
theorem ShaS.start_ok : ShaS.start.ok := ⟨by simp [ShaS.start,iv],by simp [ShaS.start]⟩

theorem frs_st (s : ShaS) : Frs (stD s) := .agg _ (frs_cons (.bool _) (frs_cons (.arr _ _ _ (frs_map fun _ => .u32 _)) (frs_cons (.arr _ _ _ (frs_map fun _ => .u8 _)) (frs_cons (.u64 _) frs_nil))))
theorem frs_hash (b : List UInt8) : Frs (hashD b) := .arr _ _ _ (frs_map fun _ => .u8 _)

theorem inW_len (p : List UInt8) (t : Nat) (w : List UInt32) (i : Nat) : (inW p t w i).length = w.length := by
 induction i with
 | zero => rfl
 | succ i ih => simp [inW,ih]
theorem sched_len (p : List UInt8) (t : Nat) : (sched p t).length = 64 := by
 induction t with
 | zero => simp [sched]
 | succ t ih => simp only [sched]; split <;> simp [inW_len,ih]
theorem addH_len (h l : List UInt32) (i : Nat) : (addH h l i).length = h.length := by
 induction i with
 | zero => rfl
 | succ i ih => simp [addH,ih]
theorem comp_len (h : List UInt32) (p : List UInt8) : (comp h p).length = h.length := addH_len ..

def mS (s : ShaS) : Nat := (s.n % 64).toNat
def kS (s : ShaS) (b : List UInt8) : Nat := min b.length (64 - mS s)
def pieceS (s : ShaS) (b : List UInt8) : List UInt8 := s.piece.take (mS s) ++ b.take (kS s b) ++ s.piece.drop (mS s + kS s b)
def nS (s : ShaS) (b : List UInt8) : UInt64 := s.n + UInt64.ofInt (kS s b : Nat)
def stepS (s : ShaS) (b : List UInt8) : ShaS := ⟨s.begun,bif nS s b % 64 == 0 then comp s.h (pieceS s b) else s.h,pieceS s b,nS s b⟩
theorem mS_lt (s : ShaS) : mS s < 64 := by
 unfold mS
 rw [UInt64.toNat_mod]
 exact Nat.mod_lt _ (by decide)
theorem kS_le (s : ShaS) (b : List UInt8) : kS s b ≤ b.length := Nat.min_le_left _ _
theorem kS_pos (s : ShaS) (b : List UInt8) (h : 0 < b.length) : 0 < kS s b := by have := mS_lt s; unfold kS; omega
theorem kS_room (s : ShaS) (b : List UInt8) : mS s + kS s b ≤ 64 := by have := mS_lt s; unfold kS; omega
def addW (s : ShaS) (b : List UInt8) : ShaS :=
 if h : b.length = 0 then s else addW (stepS s b) (b.drop (kS s b))
termination_by b.length
decreasing_by
 have := kS_pos s b (by omega)
 simp only [List.length_drop]; omega
theorem addW_nil (s : ShaS) (b : List UInt8) (h : b.length = 0) : addW s b = s := by rw [addW]; simp [h]
theorem addW_step (s : ShaS) (b : List UInt8) (h : b.length ≠ 0) : addW s b = addW (stepS s b) (b.drop (kS s b)) := by rw [addW]; simp [h]
def addS (s : ShaS) (b : List UInt8) : ShaS := addW (bif s.begun then s else ShaS.start) b
theorem pieceS_len (s : ShaS) (b : List UInt8) (h : s.ok) : (pieceS s b).length = 64 := by
 have h1 := kS_room s b
 have h2 := kS_le s b
 have h3 := h.p
 simp [pieceS]; omega
theorem stepS_ok (s : ShaS) (b : List UInt8) (h : s.ok) : (stepS s b).ok := by
 refine ⟨?_,pieceS_len s b h⟩
 simp only [stepS]
 cases (nS s b % 64 == 0) with
 | true => simp only [cond_true,comp_len]; exact h.h
 | false => exact h.h
theorem addW_ok (s : ShaS) (b : List UInt8) (h : s.ok) : (addW s b).ok := by
 induction hn : b.length using Nat.strongRecOn generalizing s b with
 | _ n ih =>
  by_cases h0 : b.length = 0
  · rw [addW_nil _ _ h0]; exact h
  · rw [addW_step _ _ h0]
    have := kS_pos s b (by omega)
    exact ih _ (by simp; omega) _ _ (stepS_ok s b h) rfl
theorem addS_ok (s : ShaS) (b : List UInt8) (h : s.ok) : (addS s b).ok := by
 unfold addS
 cases s.begun with
 | true => exact addW_ok _ _ h
 | false => exact addW_ok _ _ ShaS.start_ok

def padN (s : ShaS) : Nat := (120 - mS s) % 64
def padS : Nat → ShaS → ShaS
 | 0,s => s
 | k + 1,s => padS k (addS s [0])
def longB (n : UInt64) : Nat → List UInt8
 | 0 => List.replicate 8 0
 | i + 1 => (longB n i).set i (shr_u64 n (56 - 8 * i)).toUInt8
theorem longB_len (n : UInt64) (i : Nat) : (longB n i).length = 8 := by
 induction i with
 | zero => simp [longB]
 | succ i ih => simp [longB,ih]
def outB (h : List UInt32) : Nat → List UInt8
 | 0 => List.replicate 32 0
 | i + 1 => (outB h i).set i (shr_u32 h[i / 4]! (24 - 8 * (i % 4))).toUInt8
theorem outB_len (h : List UInt32) (i : Nat) : (outB h i).length = 32 := by
 induction i with
 | zero => simp [outB]
 | succ i ih => simp [outB,ih]
def pad1 (s : ShaS) : ShaS := addS s [128]
def pad2 (s : ShaS) : ShaS := padS (padN (pad1 s)) (pad1 s)
def pad3 (s : ShaS) : ShaS := addS (pad2 s) (longB (s.n * 8) 8)
def endS (s : ShaS) : List UInt8 := outB (pad3 s).h 32
def sumS (b : List UInt8) : List UInt8 := endS (addS ShaS.start b)
def twiceS (b : List UInt8) : List UInt8 := sumS (sumS b)
theorem endS_len (s : ShaS) : (endS s).length = 32 := outB_len _ _
theorem sumS_len (b : List UInt8) : (sumS b).length = 32 := endS_len _

theorem stepS_begun (s : ShaS) (b : List UInt8) : (stepS s b).begun = s.begun := rfl
theorem addW_begun (s : ShaS) (b : List UInt8) : (addW s b).begun = s.begun := by
 induction hn : b.length using Nat.strongRecOn generalizing s b with
 | _ n ih =>
  by_cases h0 : b.length = 0
  · rw [addW_nil _ _ h0]
  · rw [addW_step _ _ h0]
    have := kS_pos s b (by omega)
    rw [ih _ (by simp; omega) _ _ rfl,stepS_begun]
theorem addS_begun (s : ShaS) (b : List UInt8) : (addS s b).begun = true := by
 unfold addS
 rw [addW_begun]
 cases h : s.begun with
 | true => simpa using h
 | false => rfl
theorem addS_one (s : ShaS) (x : UInt8) (h : s.begun = true) : addS s [x] = stepS s [x] := by
 unfold addS
 have hk : kS s [x] = 1 := by have := mS_lt s; simp only [kS,List.length_singleton]; omega
 rw [h,cond_true,addW_step _ _ (by simp),addW_nil _ _ (by simp [hk])]
theorem mS_one (s : ShaS) (x : UInt8) (h : s.begun = true) : mS (addS s [x]) = (mS s + 1) % 64 := by
 rw [addS_one s x h]
 have hk : kS s [x] = 1 := by have := mS_lt s; simp only [kS,List.length_singleton]; omega
 have e : UInt64.ofInt ((1 : Nat) : Int) = 1 := rfl
 have e1 : (1 : UInt64).toNat = 1 := rfl
 have e2 : (64 : UInt64).toNat = 64 := rfl
 simp only [mS,stepS,nS,hk,e,UInt64.toNat_mod,UInt64.toNat_add,e1,e2]
 omega
theorem mS_ne {s : ShaS} (h : (s.n % 64 != 56) = true) : mS s ≠ 56 := by
 intro he
 have : s.n % 64 = 56 := UInt64.toNat_inj.1 he
 simp [this] at h
theorem mS_eq {s : ShaS} (h : (s.n % 64 != 56) = false) : mS s = 56 := by
 have : s.n % 64 = 56 := by simpa using h
 unfold mS; rw [this]; rfl
theorem pad_step (s : ShaS) (hb : s.begun = true) (h : mS s ≠ 56) : padS (padN s) s = padS (padN (addS s [0])) (addS s [0]) := by
 have h1 := mS_one s 0 hb
 have h2 := mS_lt s
 have : padN s = padN (addS s [0]) + 1 := by unfold padN; omega
 rw [this]; rfl
theorem pad_less (s : ShaS) (hb : s.begun = true) (h : mS s ≠ 56) : padN (addS s [0]) < padN s := by
 have h1 := mS_one s 0 hb
 have h2 := mS_lt s
 unfold padN; omega
theorem pad_end (s : ShaS) (h : mS s = 56) : padN s = 0 := by unfold padN; omega

def rright (x : UInt32) (n : UInt64) : UInt32 := shr_u32 x n.toNat ||| shl_u32 x (32 - n).toNat
def w4 (p : List UInt8) (t : Nat) : UInt32 :=
 shl_u32 (p[4 * t]!).toUInt32 24 ||| shl_u32 (p[4 * t + 1]!).toUInt32 16 ||| shl_u32 (p[4 * t + 2]!).toUInt32 8 ||| (p[4 * t + 3]!).toUInt32
def nextR (w : List UInt32) (t : Nat) : UInt32 :=
 (rright w[t - 2]! 17 ^^^ rright w[t - 2]! 19 ^^^ shr_u32 w[t - 2]! 10) + w[t - 7]! + (rright w[t - 15]! 7 ^^^ rright w[t - 15]! 18 ^^^ shr_u32 w[t - 15]! 3) + w[t - 16]!
def wR (p : List UInt8) : Nat → List UInt32
 | 0 => []
 | t + 1 => wR p t ++ [if t < 16 then w4 p t else nextR (wR p t) t]
theorem wR_len (p : List UInt8) (t : Nat) : (wR p t).length = t := by
 induction t with
 | zero => rfl
 | succ t ih => simp [wR,ih]
def oneR (l : List UInt32) (k w : UInt32) : UInt32 :=
 l[7]! + (rright l[4]! 6 ^^^ rright l[4]! 11 ^^^ rright l[4]! 25) + (l[4]! &&& l[5]! ^^^ ~~~l[4]! &&& l[6]!) + k + w
def twoR (l : List UInt32) : UInt32 := (rright l[0]! 2 ^^^ rright l[0]! 13 ^^^ rright l[0]! 22) + (l[0]! &&& l[1]! ^^^ l[0]! &&& l[2]! ^^^ l[1]! &&& l[2]!)
def rndR (l : List UInt32) (k w : UInt32) : List UInt32 := [oneR l k w + twoR l,l[0]!,l[1]!,l[2]!,l[3]! + oneR l k w,l[4]!,l[5]!,l[6]!]
def rdsR (h w : List UInt32) : Nat → List UInt32
 | 0 => h
 | t + 1 => rndR (rdsR h w t) kTab[t]! w[t]!
def compR (h : List UInt32) (p : List UInt8) : List UInt32 := addH h (rdsR h (wR p 64) 64) 8
theorem compR_len (h : List UInt32) (p : List UInt8) : (compR h p).length = h.length := addH_len ..
def zR (b : List UInt8) : Nat := (119 - b.length % 64) % 64
def tailR (n : UInt64) : Nat → List UInt8
 | 0 => []
 | j + 1 => tailR n j ++ [(shr_u64 n (UInt64.ofInt (wr (8 * (7 - ((j : Nat) : Int))))).toNat).toUInt8]
theorem tailR_len (n : UInt64) (t : Nat) : (tailR n t).length = t := by
 induction t with
 | zero => rfl
 | succ t ih => simp [tailR,ih]
def bitsR (b : List UInt8) : UInt64 := UInt64.ofInt (b.length : Nat) * 8
def textR (b : List UInt8) : List UInt8 := b ++ [128] ++ List.replicate (zR b) 0 ++ tailR (bitsR b) 8
theorem textR_len (b : List UInt8) : (textR b).length = b.length + 9 + zR b := by simp [textR,tailR_len]; omega
def pieces (b : List UInt8) : Nat := (b.length + 9 + zR b) / 64
theorem textR_pieces (b : List UInt8) : (textR b).length = 64 * pieces b := by rw [textR_len]; unfold pieces zR; omega
def hR (all : List UInt8) : Nat → List UInt32
 | 0 => iv
 | m + 1 => compR (hR all m) ((all.drop (64 * m)).take 64)
theorem hR_len (all : List UInt8) (m : Nat) : (hR all m).length = 8 := by
 induction m with
 | zero => rfl
 | succ m ih => simp only [hR,compR_len,ih]
def outR (h : List UInt32) : Nat → List UInt8
 | 0 => List.replicate 32 0
 | i + 1 => (outR h i).set i (shr_u32 h[i / 4]! (UInt64.ofInt ((24 - 8 * (i % 4) : Nat) : Int)).toNat).toUInt8
def sumR (b : List UInt8) : List UInt8 := outR (hR (textR b) (pieces b)) 32
def twiceR (b : List UInt8) : List UInt8 := sumR (sumR b)
end Go.Sx

namespace Go.Sx

variable {P : Program} {C : Ctx} {σ σ' σ1 : Sg} {a : Act} {w w' : World} {ρ : Nat → Nat} {Fe Fe' Fb : Nat → List Nat}

theorem run_callVC {f : FuncId} [h : CaT P f] {s : Nat} {t : Option Nat} {args : Array Operand} {vs : List Value} {tys : Array TypeId} {rt : TypeId} {pos : String} {aft : Array Edge} {g : Option (Nat × Bool)} (a : Act) (w : World) (hs : a.tmps[s]? = some (.func (.func f) #[] vs.toArray)) :
 (execOp a.eval ⟨t,.call { callee := .value (.tmp s),args := args,argTypes := tys },rt,pos,aft,g⟩).run P w = .ok (.enter f (args.map a.eval ++ vs.toArray)) w := by
 obtain ⟨fn,h1,h2,h3⟩ := h.i
 unfold execOp
 simp [resolve,eval_tmp hs,Deferred.ofValue,invoke,run_callFunc h1 h2 h3]

theorem R.callVB {f : FuncId} [CaT P f] {s t : Nat} {args : List Operand} {tys : Array TypeId} {rt : TypeId} {pos : String} {aft : Array Edge} {g : Option (Nat × Bool)} {gl : List (Nat × D)} {ds caps capsA : List D} {r r' : D} {bx bx' nw cx cx' nwc : List (Nat × Bx)}
 (ml : List (Nat × Nat)) (hC : C.gl = gl) (hs : σ.get s = some (.fn f capsA)) (hca : D.rens (mlk ml) caps = capsA) (hcp : D.okBs (bx.map Prod.fst) caps = true) (hF : FnB P gl f (ds ++ caps) bx r bx' nw) (ha : EvB C.gl σ (mlk ml) (bx.map Prod.fst) args ds)
 (hcx : renBx (mlk ml) bx = cx) (hlk : hasBx σ.bx cx) (hob : okBxP (bx.map Prod.fst) bx) (hcx' : renBx (mlk ml) bx' = cx') (hnw : renBx (mlk ml) nw = nwc) (hr : r.ren (mlk ml) = r')
 (hk : bx'.map Prod.fst = bx.map Prod.fst) (hfr : freshB σ.bx nwc = true) (hinj : injB (mlk ml) ((nw ++ bx').map Prod.fst) = true) (ht : t < σ.n) :
 OpS P C ⟨some t,.call { callee := .value (.tmp s),args := args.toArray,argTypes := tys },rt,pos,aft,g⟩ σ ((⟨σ.n,scrubL (cx.map Prod.fst) σ.env,nwc ++ lendB cx' σ.bx⟩ : Sg).set t r') := by
 subst hC; subst hcx; subst hcx'; subst hnw; subst hr
 intro a w ⟨ρ,Fe,Fb,st⟩ K Q hK
 obtain ⟨hhand,hback⟩ := st.callB (m := mlk ml) hlk hob hk hfr hinj
 have hmem : ∀ i,memB (bx.map Prod.fst) i = true → (lk bx i).isSome = true := fun i hi => by
  rw [lk_key]
  simp only [memB,List.any_eq_true] at hi
  obtain ⟨j,hj,he⟩ := hi
  rw [Nat.eq_of_beq_eq_true he]; exact hj
 obtain ⟨vs,hvs,hvl,hva,hvr⟩ : ∃ vs : List Value,a.tmps[s]? = some (.func (.func f) #[] vs.toArray) ∧ vs.length = caps.length ∧ (∀ k (h : k < caps.length),caps[k].isAgg = false) ∧
  ∀ k (h : k < caps.length),Rc w (fun i => ρ (mlk ml i)) (gd C Fe Fb) (fun i => (lk bx i).isSome = true) true caps[k] [vs.getD k undef] [] := by
  obtain ⟨vg,hvg,hrg⟩ := (SR_plain rfl).1 (st.env s _ hs)
  simp only [VR,D.isAgg,Bool.false_eq_true,if_false] at hrg
  rw [rens_eq] at hca
  subst hca
  generalize Fe s = Fg at hrg
  cases hrg with
  | fn _ _ vs hl ha hr =>
   refine ⟨vs,hvg,by simpa using hl,fun k hk => ?_,fun k hk => ?_⟩
   · have := ha k (by simpa using hk); rw [List.getElem_map,isAgg_ren] at this; exact this
   · have h1 := hr k (by simpa using hk)
     rw [List.getElem_map] at h1
     have h2 : Rc w (fun i => ρ (mlk ml i)) (gd C Fe Fb) (fun i => (σ.box (mlk ml i)).isSome = true) true caps[k] [vs.getD k undef] [] := h1.unren rfl (fun i hi => ⟨hi,rfl⟩)
     exact (h2.okB (okBs_get caps hcp k hk)).mono (fun _ _ _ => rfl) (fun _ h _ => h) (fun i hi => ⟨hmem i hi.1,rfl⟩)
 refine wpIn_of_run (run_callVC a w hvs) (by simp) ?_
 rw [Oper.uponIn_enter]
 have hlen : (args.map a.eval).length = ds.length := by simp [ha.len]
 have hc := hF w (fun b => gd C Fe Fb b ∧ b < w.heap.size) (fun i => ρ (mlk ml i)) (fun i => if (lk bx i).isSome then Fb (mlk ml i) else []) (args.map a.eval ++ vs)
  (fun g d hg => by obtain ⟨h1,h2⟩ := gl_ok st g d hg; obtain ⟨cs,e,fz,h3,h4⟩ := h2; exact ⟨⟨h1,(Array.getElem?_eq_some_iff.1 h3).1⟩,cs,e,fz,h3,h4⟩) (fun b hb => hb.2) (by simp [ha.len,hvl])
  (fun k hk => by
   by_cases hkd : k < ds.length
   · have h1 := (ha.ok st k hkd).mono (fun _ _ _ => rfl) (fun b (hb : gd C Fe Fb b) hl => (⟨hb,hl⟩ : gd C Fe Fb b ∧ b < w.heap.size)) (fun i hi => ⟨hmem i hi.1,rfl⟩)
     have e1 : (ds ++ caps)[k] = ds[k] := List.getElem_append_left hkd
     have e2 : (args.map a.eval ++ vs).getD k undef = (args.map a.eval).getD k undef := by
      simp only [List.getD_eq_getElem?_getD]
      rw [List.getElem?_append_left (by rw [hlen]; exact hkd)]
     rw [e1,e2]
     exact h1
   · have hk' : k - ds.length < caps.length := by simp only [List.length_append] at hk; omega
     have e1 : (ds ++ caps)[k] = caps[k - ds.length] := List.getElem_append_right (by omega)
     have e2 : (args.map a.eval ++ vs).getD k undef = vs.getD (k - ds.length) undef := by
      simp only [List.getD_eq_getElem?_getD]
      rw [List.getElem?_append_right (by rw [hlen]; omega),hlen]
     rw [e1,e2]
     simp only [VR,hva _ hk',Bool.false_eq_true,if_false]
     exact (hvr _ hk').mono (fun _ _ _ => rfl) (fun b hb hl => ⟨hb,hl⟩) (fun i hi => ⟨hi,rfl⟩))
  ⟨fun id x hx => (hhand.box id x hx).mono (fun _ _ _ => rfl) (fun b hb hl => ⟨hb,hl⟩) (fun i hi => ⟨hi,rfl⟩),hhand.boxN,hhand.nodB,hhand.dBB,fun id b hb hc => hhand.out id b hb hc.1⟩
 simp only [List.map_toArray,List.append_toArray]
 refine ⟨(fun h => by cases h),(callsIn_fx (Calls.mono hc ?_))⟩
 rintro e w' ⟨v,F,ρ',Fb',rfl,hext,hρ',hnd,hsrc,hFB,hFl,hand,hrv⟩
 have hGG : ∀ b,(((gd C Fe Fb b ∧ b < w.heap.size) ∨ w.heap.size ≤ b ∨ ∃ id,b ∈ (if (lk bx id).isSome then Fb (mlk ml id) else [])) ∧ b ∉ F ∧ ¬ ∃ id,b ∈ Fb' id) →
  ((gd C Fe Fb b ∨ w.heap.size ≤ b ∨ ∃ id,b ∈ (if (lk bx id).isSome then Fb (mlk ml id) else [])) ∧ b ∉ F ∧ ¬ ∃ id,b ∈ Fb' id) := fun b hb => ⟨hb.1.imp (fun h => h.1) (fun h => h),hb.2⟩
 obtain ⟨ρ2,Fb2,st2,hrv2,hdE,hdB,hkp,hok⟩ := hback w' F ρ' Fb' hext hρ' hnd hsrc hFB hFl
  ⟨fun id x hx => (hand.box id x hx).mono (fun _ _ _ => rfl) (fun b hb _ => hGG b hb) (fun i hi => ⟨hi,rfl⟩),hand.boxN,hand.nodB,hand.dBB,fun id b hb hc => hc.2.2 ⟨id,hb⟩⟩
 have hrv3 := hrv2 r v (hrv.mono (fun _ _ _ => rfl) (fun b hb _ => hGG b hb) (fun i hi => ⟨hi,rfl⟩))
 have hput : (a.put (some t) v).tmps[t]? = some v := by rw [put_get a t v t (by rw [st.size]; exact ht)]; simp
 refine hK _ _ ⟨ρ2,upd Fe t F,Fb2,st2.adopt ht hnd hdE hdB hkp hok (RV.slot (hrv3.mono (fun _ _ _ => rfl) (fun b hb _ => ⟨hb.1.1, ?_⟩) (fun i hi => ⟨hi,rfl⟩)) hput)⟩
 rintro (⟨u,hu⟩ | ho)
 · by_cases hut : u = t
   · subst hut; simp at hu; exact hb.2 hu
   · rw [upd_other hut] at hu; exact hb.1.2 (.inl ⟨u,hu⟩)
 · exact hb.1.2 (.inr ho)
inductive EvFs (gl : List (Nat × D)) (σ : Sg) : List Operand → List D → Prop
 | nil : EvFs gl σ [] []
 | cons {x : Operand} {d : D} {xs : List Operand} {ds : List D} (h : ev gl σ x = some d) (hp : d.pur = true) (ha : d.isAgg = false) (t : EvFs gl σ xs ds) : EvFs gl σ (x :: xs) (d :: ds)
theorem EvFs.len {gl : List (Nat × D)} {xs : List Operand} {ds : List D} (h : EvFs gl σ xs ds) : xs.length = ds.length := by
 induction h with
 | nil => rfl
 | cons _ _ _ _ ih => simp [ih]
theorem EvFs.at {gl : List (Nat × D)} {xs : List Operand} {ds : List D} (h : EvFs gl σ xs ds) : ∀ k (h : k < xs.length) (h' : k < ds.length),ev gl σ xs[k] = some ds[k] ∧ ds[k].pur = true ∧ ds[k].isAgg = false := by
 induction h with
 | nil => intro k hk; simp at hk
 | cons h hp ha t ih =>
  intro k hk hk'
  cases k with
  | zero => exact ⟨h,hp,ha⟩
  | succ k => exact ih k (by simpa using hk) (by simpa using hk')
theorem R.mkfnL {t f : Nat} {xs : List Operand} {ds : List D} {rt : TypeId} {pos : String} {aft : Array Edge} {g : Option (Nat × Bool)} (h : EvFs C.gl σ xs ds) (ht : t < σ.n) :
 OpS P C ⟨some t,.makeFunc (.func f) #[] xs.toArray,rt,pos,aft,g⟩ σ (σ.set t (.fn f ds)) := R.mkfn h.len h.at ht
end Go.Sx

namespace Go.Sx
open Go.Proofs
set_option maxRecDepth 100000
instance : LdT Tryd.prog 1 1 false := ⟨_,_,rfl,rfl,rfl,rfl⟩
instance : ElT Tryd.prog 1 1 8 := ⟨_,_,rfl,rfl,rfl,rfl,rfl,by decide,rfl⟩
instance : ZrT Tryd.prog 1 (.nilf) := ⟨_,_,rfl,rfl,by decide,rfl⟩
instance : LdT Tryd.prog 2 1 false := ⟨_,_,rfl,rfl,rfl,rfl⟩
instance : ElT Tryd.prog 2 1 8 := ⟨_,_,rfl,rfl,rfl,rfl,rfl,by decide,rfl⟩
instance : IkT Tryd.prog 2 .i64 := ⟨rfl⟩
instance : ZrT Tryd.prog 2 (.int 0) := ⟨_,_,rfl,rfl,by decide,rfl⟩
instance : LdT Tryd.prog 3 1 false := ⟨_,_,rfl,rfl,rfl,rfl⟩
instance : ElT Tryd.prog 3 1 8 := ⟨_,_,rfl,rfl,rfl,rfl,rfl,by decide,rfl⟩
instance : IkT Tryd.prog 3 .i64 := ⟨rfl⟩
instance : ZrT Tryd.prog 3 (.int 0) := ⟨_,_,rfl,rfl,by decide,rfl⟩
instance : LdT Tryd.prog 4 1 false := ⟨_,_,rfl,rfl,rfl,rfl⟩
instance : ElT Tryd.prog 4 1 1 := ⟨_,_,rfl,rfl,rfl,rfl,rfl,by decide,rfl⟩
instance : BoT Tryd.prog 4 := ⟨rfl⟩
instance : ZrT Tryd.prog 4 (.bool false) := ⟨_,_,rfl,rfl,by decide,rfl⟩
instance : LdT Tryd.prog 5 1 false := ⟨_,_,rfl,rfl,rfl,rfl⟩
instance : ElT Tryd.prog 5 1 1 := ⟨_,_,rfl,rfl,rfl,rfl,rfl,by decide,rfl⟩
instance : IkT Tryd.prog 5 .u8 := ⟨rfl⟩
instance : ZrT Tryd.prog 5 (.u8 0) := ⟨_,_,rfl,rfl,by decide,rfl⟩
instance : LdT Tryd.prog 6 1 false := ⟨_,_,rfl,rfl,rfl,rfl⟩
instance : ElT Tryd.prog 6 1 1 := ⟨_,_,rfl,rfl,rfl,rfl,rfl,by decide,rfl⟩
instance : IkT Tryd.prog 6 .u8 := ⟨rfl⟩
instance : ZrT Tryd.prog 6 (.u8 0) := ⟨_,_,rfl,rfl,by decide,rfl⟩
instance : LdT Tryd.prog 7 4 true := ⟨_,_,rfl,rfl,rfl,rfl⟩
instance : ElT Tryd.prog 7 4 24 := ⟨_,_,rfl,rfl,rfl,rfl,rfl,by decide,rfl⟩
instance : FtT Tryd.prog 7 0 2 0 := ⟨_,_,rfl,rfl,rfl,rfl⟩
instance : FdT Tryd.prog 7 0 0 := ⟨_,_,_,rfl,rfl,rfl,rfl,by decide⟩
instance : FtT Tryd.prog 7 1 3 1 := ⟨_,_,rfl,rfl,rfl,rfl⟩
instance : FdT Tryd.prog 7 1 1 := ⟨_,_,_,rfl,rfl,rfl,rfl,by decide⟩
instance : FtT Tryd.prog 7 2 4 2 := ⟨_,_,rfl,rfl,rfl,rfl⟩
instance : FdT Tryd.prog 7 2 2 := ⟨_,_,_,rfl,rfl,rfl,rfl,by decide⟩
instance : FtT Tryd.prog 7 3 6 3 := ⟨_,_,rfl,rfl,rfl,rfl⟩
instance : FdT Tryd.prog 7 3 3 := ⟨_,_,_,rfl,rfl,rfl,rfl,by decide⟩
instance : ZrT Tryd.prog 7 (.agg [.int 0,.int 0,.bool false,.u8 0]) := ⟨_,_,rfl,rfl,by decide,rfl⟩
instance : BsT Tryd.prog 7 ([.int 0,.int 0,.bool false,.u8 0]) := ⟨_,_,_,rfl,rfl,rfl,rfl,by decide⟩
instance : LdT Tryd.prog 8 4 true := ⟨_,_,rfl,rfl,rfl,rfl⟩
instance : ElT Tryd.prog 8 4 24 := ⟨_,_,rfl,rfl,rfl,rfl,rfl,by decide,rfl⟩
instance : FtT Tryd.prog 8 0 2 0 := ⟨_,_,rfl,rfl,rfl,rfl⟩
instance : FdT Tryd.prog 8 0 0 := ⟨_,_,_,rfl,rfl,rfl,rfl,by decide⟩
instance : FtT Tryd.prog 8 1 3 1 := ⟨_,_,rfl,rfl,rfl,rfl⟩
instance : FdT Tryd.prog 8 1 1 := ⟨_,_,_,rfl,rfl,rfl,rfl,by decide⟩
instance : FtT Tryd.prog 8 2 4 2 := ⟨_,_,rfl,rfl,rfl,rfl⟩
instance : FdT Tryd.prog 8 2 2 := ⟨_,_,_,rfl,rfl,rfl,rfl,by decide⟩
instance : FtT Tryd.prog 8 3 6 3 := ⟨_,_,rfl,rfl,rfl,rfl⟩
instance : FdT Tryd.prog 8 3 3 := ⟨_,_,_,rfl,rfl,rfl,rfl,by decide⟩
instance : ZrT Tryd.prog 8 (.agg [.int 0,.int 0,.bool false,.u8 0]) := ⟨_,_,rfl,rfl,by decide,rfl⟩
instance : BsT Tryd.prog 8 ([.int 0,.int 0,.bool false,.u8 0]) := ⟨_,_,_,rfl,rfl,rfl,rfl,by decide⟩
instance : LdT Tryd.prog 9 1 false := ⟨_,_,rfl,rfl,rfl,rfl⟩
instance : ElT Tryd.prog 9 1 16 := ⟨_,_,rfl,rfl,rfl,rfl,rfl,by decide,rfl⟩
instance : StT Tryd.prog 9 := ⟨rfl⟩
instance : ZrT Tryd.prog 9 (.str []) := ⟨_,_,rfl,rfl,by decide,rfl⟩
instance : LdT Tryd.prog 10 1 false := ⟨_,_,rfl,rfl,rfl,rfl⟩
instance : ElT Tryd.prog 10 1 16 := ⟨_,_,rfl,rfl,rfl,rfl,rfl,by decide,rfl⟩
instance : StT Tryd.prog 10 := ⟨rfl⟩
instance : ZrT Tryd.prog 10 (.str []) := ⟨_,_,rfl,rfl,by decide,rfl⟩
instance : LdT Tryd.prog 11 1 false := ⟨_,_,rfl,rfl,rfl,rfl⟩
instance : ElT Tryd.prog 11 1 16 := ⟨_,_,rfl,rfl,rfl,rfl,rfl,by decide,rfl⟩
instance : StT Tryd.prog 11 := ⟨rfl⟩
instance : ZrT Tryd.prog 11 (.str []) := ⟨_,_,rfl,rfl,by decide,rfl⟩
instance : LdT Tryd.prog 12 1 false := ⟨_,_,rfl,rfl,rfl,rfl⟩
instance : ElT Tryd.prog 12 1 8 := ⟨_,_,rfl,rfl,rfl,rfl,rfl,by decide,rfl⟩
instance : IkT Tryd.prog 12 .u64 := ⟨rfl⟩
instance : ZrT Tryd.prog 12 (.u64 0) := ⟨_,_,rfl,rfl,by decide,rfl⟩
instance : LdT Tryd.prog 13 2 true := ⟨_,_,rfl,rfl,rfl,rfl⟩
instance : ElT Tryd.prog 13 2 24 := ⟨_,_,rfl,rfl,rfl,rfl,rfl,by decide,rfl⟩
instance : FtT Tryd.prog 13 0 9 0 := ⟨_,_,rfl,rfl,rfl,rfl⟩
instance : FdT Tryd.prog 13 0 0 := ⟨_,_,_,rfl,rfl,rfl,rfl,by decide⟩
instance : FtT Tryd.prog 13 1 12 1 := ⟨_,_,rfl,rfl,rfl,rfl⟩
instance : FdT Tryd.prog 13 1 1 := ⟨_,_,_,rfl,rfl,rfl,rfl,by decide⟩
instance : ZrT Tryd.prog 13 (.agg [.str [],.u64 0]) := ⟨_,_,rfl,rfl,by decide,rfl⟩
instance : BsT Tryd.prog 13 ([.str [],.u64 0]) := ⟨_,_,_,rfl,rfl,rfl,rfl,by decide⟩
instance : LdT Tryd.prog 14 2 true := ⟨_,_,rfl,rfl,rfl,rfl⟩
instance : ElT Tryd.prog 14 2 24 := ⟨_,_,rfl,rfl,rfl,rfl,rfl,by decide,rfl⟩
instance : FtT Tryd.prog 14 0 9 0 := ⟨_,_,rfl,rfl,rfl,rfl⟩
instance : FdT Tryd.prog 14 0 0 := ⟨_,_,_,rfl,rfl,rfl,rfl,by decide⟩
instance : FtT Tryd.prog 14 1 12 1 := ⟨_,_,rfl,rfl,rfl,rfl⟩
instance : FdT Tryd.prog 14 1 1 := ⟨_,_,_,rfl,rfl,rfl,rfl,by decide⟩
instance : ZrT Tryd.prog 14 (.agg [.str [],.u64 0]) := ⟨_,_,rfl,rfl,by decide,rfl⟩
instance : BsT Tryd.prog 14 ([.str [],.u64 0]) := ⟨_,_,_,rfl,rfl,rfl,rfl,by decide⟩
instance : LdT Tryd.prog 15 1 false := ⟨_,_,rfl,rfl,rfl,rfl⟩
instance : ElT Tryd.prog 15 1 8 := ⟨_,_,rfl,rfl,rfl,rfl,rfl,by decide,rfl⟩
instance : ZrT Tryd.prog 15 (.nilp) := ⟨_,_,rfl,rfl,by decide,rfl⟩
instance : LdT Tryd.prog 17 1 false := ⟨_,_,rfl,rfl,rfl,rfl⟩
instance : ElT Tryd.prog 17 1 8 := ⟨_,_,rfl,rfl,rfl,rfl,rfl,by decide,rfl⟩
instance : ZrT Tryd.prog 17 (.nilp) := ⟨_,_,rfl,rfl,by decide,rfl⟩
instance : LdT Tryd.prog 18 1 true := ⟨_,_,rfl,rfl,rfl,rfl⟩
instance : ElT Tryd.prog 18 1 8 := ⟨_,_,rfl,rfl,rfl,rfl,rfl,by decide,rfl⟩
instance : FtT Tryd.prog 18 0 17 0 := ⟨_,_,rfl,rfl,rfl,rfl⟩
instance : FdT Tryd.prog 18 0 0 := ⟨_,_,_,rfl,rfl,rfl,rfl,by decide⟩
instance : ZrT Tryd.prog 18 (.agg [.nilp]) := ⟨_,_,rfl,rfl,by decide,rfl⟩
instance : BsT Tryd.prog 18 ([.nilp]) := ⟨_,_,_,rfl,rfl,rfl,rfl,by decide⟩
instance : LdT Tryd.prog 19 1 true := ⟨_,_,rfl,rfl,rfl,rfl⟩
instance : ElT Tryd.prog 19 1 8 := ⟨_,_,rfl,rfl,rfl,rfl,rfl,by decide,rfl⟩
instance : FtT Tryd.prog 19 0 17 0 := ⟨_,_,rfl,rfl,rfl,rfl⟩
instance : FdT Tryd.prog 19 0 0 := ⟨_,_,_,rfl,rfl,rfl,rfl,by decide⟩
instance : ZrT Tryd.prog 19 (.agg [.nilp]) := ⟨_,_,rfl,rfl,by decide,rfl⟩
instance : BsT Tryd.prog 19 ([.nilp]) := ⟨_,_,_,rfl,rfl,rfl,rfl,by decide⟩
instance : LdT Tryd.prog 21 1 false := ⟨_,_,rfl,rfl,rfl,rfl⟩
instance : ElT Tryd.prog 21 1 4 := ⟨_,_,rfl,rfl,rfl,rfl,rfl,by decide,rfl⟩
instance : IkT Tryd.prog 21 .i32 := ⟨rfl⟩
instance : ZrT Tryd.prog 21 (.ik .i32 0) := ⟨_,_,rfl,rfl,by decide,rfl⟩
instance : LdT Tryd.prog 22 1 false := ⟨_,_,rfl,rfl,rfl,rfl⟩
instance : ElT Tryd.prog 22 1 24 := ⟨_,_,rfl,rfl,rfl,rfl,rfl,by decide,rfl⟩
instance : SlT Tryd.prog 22 38 := ⟨rfl⟩
instance : ZrT Tryd.prog 22 (.nils) := ⟨_,_,rfl,rfl,by decide,rfl⟩
instance : LdT Tryd.prog 23 1 false := ⟨_,_,rfl,rfl,rfl,rfl⟩
instance : ElT Tryd.prog 23 1 24 := ⟨_,_,rfl,rfl,rfl,rfl,rfl,by decide,rfl⟩
instance : SlT Tryd.prog 23 4 := ⟨rfl⟩
instance : ZrT Tryd.prog 23 (.nils) := ⟨_,_,rfl,rfl,by decide,rfl⟩
instance : LdT Tryd.prog 24 3 true := ⟨_,_,rfl,rfl,rfl,rfl⟩
instance : ElT Tryd.prog 24 3 56 := ⟨_,_,rfl,rfl,rfl,rfl,rfl,by decide,rfl⟩
instance : FtT Tryd.prog 24 0 3 0 := ⟨_,_,rfl,rfl,rfl,rfl⟩
instance : FdT Tryd.prog 24 0 0 := ⟨_,_,_,rfl,rfl,rfl,rfl,by decide⟩
instance : FtT Tryd.prog 24 1 22 1 := ⟨_,_,rfl,rfl,rfl,rfl⟩
instance : FdT Tryd.prog 24 1 1 := ⟨_,_,_,rfl,rfl,rfl,rfl,by decide⟩
instance : FtT Tryd.prog 24 2 23 2 := ⟨_,_,rfl,rfl,rfl,rfl⟩
instance : FdT Tryd.prog 24 2 2 := ⟨_,_,_,rfl,rfl,rfl,rfl,by decide⟩
instance : ZrT Tryd.prog 24 (.agg [.int 0,.nils,.nils]) := ⟨_,_,rfl,rfl,by decide,rfl⟩
instance : BsT Tryd.prog 24 ([.int 0,.nils,.nils]) := ⟨_,_,_,rfl,rfl,rfl,rfl,by decide⟩
instance : LdT Tryd.prog 25 3 true := ⟨_,_,rfl,rfl,rfl,rfl⟩
instance : ElT Tryd.prog 25 3 56 := ⟨_,_,rfl,rfl,rfl,rfl,rfl,by decide,rfl⟩
instance : FtT Tryd.prog 25 0 3 0 := ⟨_,_,rfl,rfl,rfl,rfl⟩
instance : FdT Tryd.prog 25 0 0 := ⟨_,_,_,rfl,rfl,rfl,rfl,by decide⟩
instance : FtT Tryd.prog 25 1 22 1 := ⟨_,_,rfl,rfl,rfl,rfl⟩
instance : FdT Tryd.prog 25 1 1 := ⟨_,_,_,rfl,rfl,rfl,rfl,by decide⟩
instance : FtT Tryd.prog 25 2 23 2 := ⟨_,_,rfl,rfl,rfl,rfl⟩
instance : FdT Tryd.prog 25 2 2 := ⟨_,_,_,rfl,rfl,rfl,rfl,by decide⟩
instance : ZrT Tryd.prog 25 (.agg [.int 0,.nils,.nils]) := ⟨_,_,rfl,rfl,by decide,rfl⟩
instance : BsT Tryd.prog 25 ([.int 0,.nils,.nils]) := ⟨_,_,_,rfl,rfl,rfl,rfl,by decide⟩
instance : LdT Tryd.prog 26 1 false := ⟨_,_,rfl,rfl,rfl,rfl⟩
instance : ElT Tryd.prog 26 1 2 := ⟨_,_,rfl,rfl,rfl,rfl,rfl,by decide,rfl⟩
instance : IkT Tryd.prog 26 .u16 := ⟨rfl⟩
instance : ZrT Tryd.prog 26 (.u16 0) := ⟨_,_,rfl,rfl,by decide,rfl⟩
instance : LdT Tryd.prog 27 1 false := ⟨_,_,rfl,rfl,rfl,rfl⟩
instance : ElT Tryd.prog 27 1 24 := ⟨_,_,rfl,rfl,rfl,rfl,rfl,by decide,rfl⟩
instance : SlT Tryd.prog 27 5 := ⟨rfl⟩
instance : ZrT Tryd.prog 27 (.nils) := ⟨_,_,rfl,rfl,by decide,rfl⟩
instance : LdT Tryd.prog 28 1 false := ⟨_,_,rfl,rfl,rfl,rfl⟩
instance : ElT Tryd.prog 28 1 8 := ⟨_,_,rfl,rfl,rfl,rfl,rfl,by decide,rfl⟩
instance : ZrT Tryd.prog 28 (.nilf) := ⟨_,_,rfl,rfl,by decide,rfl⟩
instance : LdT Tryd.prog 29 1 false := ⟨_,_,rfl,rfl,rfl,rfl⟩
instance : ElT Tryd.prog 29 1 8 := ⟨_,_,rfl,rfl,rfl,rfl,rfl,by decide,rfl⟩
instance : ZrT Tryd.prog 29 (.nilf) := ⟨_,_,rfl,rfl,by decide,rfl⟩
instance : LdT Tryd.prog 30 1 false := ⟨_,_,rfl,rfl,rfl,rfl⟩
instance : ElT Tryd.prog 30 1 8 := ⟨_,_,rfl,rfl,rfl,rfl,rfl,by decide,rfl⟩
instance : IkT Tryd.prog 30 .i64 := ⟨rfl⟩
instance : ZrT Tryd.prog 30 (.int 0) := ⟨_,_,rfl,rfl,by decide,rfl⟩
instance : LdT Tryd.prog 32 1 false := ⟨_,_,rfl,rfl,rfl,rfl⟩
instance : ElT Tryd.prog 32 1 8 := ⟨_,_,rfl,rfl,rfl,rfl,rfl,by decide,rfl⟩
instance : ZrT Tryd.prog 32 (.nilf) := ⟨_,_,rfl,rfl,by decide,rfl⟩
instance : LdT Tryd.prog 33 3 true := ⟨_,_,rfl,rfl,rfl,rfl⟩
instance : ElT Tryd.prog 33 3 56 := ⟨_,_,rfl,rfl,rfl,rfl,rfl,by decide,rfl⟩
instance : FtT Tryd.prog 33 0 3 0 := ⟨_,_,rfl,rfl,rfl,rfl⟩
instance : FdT Tryd.prog 33 0 0 := ⟨_,_,_,rfl,rfl,rfl,rfl,by decide⟩
instance : FtT Tryd.prog 33 1 22 1 := ⟨_,_,rfl,rfl,rfl,rfl⟩
instance : FdT Tryd.prog 33 1 1 := ⟨_,_,_,rfl,rfl,rfl,rfl,by decide⟩
instance : FtT Tryd.prog 33 2 23 2 := ⟨_,_,rfl,rfl,rfl,rfl⟩
instance : FdT Tryd.prog 33 2 2 := ⟨_,_,_,rfl,rfl,rfl,rfl,by decide⟩
instance : ZrT Tryd.prog 33 (.agg [.int 0,.nils,.nils]) := ⟨_,_,rfl,rfl,by decide,rfl⟩
instance : BsT Tryd.prog 33 ([.int 0,.nils,.nils]) := ⟨_,_,_,rfl,rfl,rfl,rfl,by decide⟩
instance : LdT Tryd.prog 35 1 false := ⟨_,_,rfl,rfl,rfl,rfl⟩
instance : ElT Tryd.prog 35 1 8 := ⟨_,_,rfl,rfl,rfl,rfl,rfl,by decide,rfl⟩
instance : ZrT Tryd.prog 35 (.nilf) := ⟨_,_,rfl,rfl,by decide,rfl⟩
instance : LdT Tryd.prog 36 1 false := ⟨_,_,rfl,rfl,rfl,rfl⟩
instance : ElT Tryd.prog 36 1 8 := ⟨_,_,rfl,rfl,rfl,rfl,rfl,by decide,rfl⟩
instance : ZrT Tryd.prog 36 (.nilf) := ⟨_,_,rfl,rfl,by decide,rfl⟩
instance : LdT Tryd.prog 37 32 true := ⟨_,_,rfl,rfl,rfl,rfl⟩
instance : ElT Tryd.prog 37 32 32 := ⟨_,_,rfl,rfl,rfl,rfl,rfl,by decide,rfl⟩
instance : ArT Tryd.prog 37 32 5 := ⟨rfl⟩
instance : BaT Tryd.prog 37 32 5 1 := ⟨_,_,_,rfl,rfl,rfl,rfl,rfl,rfl⟩
instance : EqT Tryd.prog 37 := ⟨by decide +kernel⟩
instance : ZrT Tryd.prog 37 (.arr 32 1 ((List.replicate 32 0).map D.u8)) := ⟨_,_,rfl,rfl,by decide,rfl⟩
instance : LdT Tryd.prog 38 32 true := ⟨_,_,rfl,rfl,rfl,rfl⟩
instance : ElT Tryd.prog 38 32 32 := ⟨_,_,rfl,rfl,rfl,rfl,rfl,by decide,rfl⟩
instance : ArT Tryd.prog 38 32 5 := ⟨rfl⟩
instance : BaT Tryd.prog 38 32 5 1 := ⟨_,_,_,rfl,rfl,rfl,rfl,rfl,rfl⟩
instance : EqT Tryd.prog 38 := ⟨by decide +kernel⟩
instance : ZrT Tryd.prog 38 (.arr 32 1 ((List.replicate 32 0).map D.u8)) := ⟨_,_,rfl,rfl,by decide,rfl⟩
instance : LdT Tryd.prog 39 1 false := ⟨_,_,rfl,rfl,rfl,rfl⟩
instance : ElT Tryd.prog 39 1 24 := ⟨_,_,rfl,rfl,rfl,rfl,rfl,by decide,rfl⟩
instance : SlT Tryd.prog 39 33 := ⟨rfl⟩
instance : ZrT Tryd.prog 39 (.nils) := ⟨_,_,rfl,rfl,by decide,rfl⟩
instance : LdT Tryd.prog 40 1 false := ⟨_,_,rfl,rfl,rfl,rfl⟩
instance : ElT Tryd.prog 40 1 24 := ⟨_,_,rfl,rfl,rfl,rfl,rfl,by decide,rfl⟩
instance : SlT Tryd.prog 40 3 := ⟨rfl⟩
instance : ZrT Tryd.prog 40 (.nils) := ⟨_,_,rfl,rfl,by decide,rfl⟩
instance : LdT Tryd.prog 42 1 false := ⟨_,_,rfl,rfl,rfl,rfl⟩
instance : ElT Tryd.prog 42 1 8 := ⟨_,_,rfl,rfl,rfl,rfl,rfl,by decide,rfl⟩
instance : ZrT Tryd.prog 42 (.nilf) := ⟨_,_,rfl,rfl,by decide,rfl⟩
instance : LdT Tryd.prog 43 1 false := ⟨_,_,rfl,rfl,rfl,rfl⟩
instance : ElT Tryd.prog 43 1 8 := ⟨_,_,rfl,rfl,rfl,rfl,rfl,by decide,rfl⟩
instance : ZrT Tryd.prog 43 (.nilf) := ⟨_,_,rfl,rfl,by decide,rfl⟩
instance : LdT Tryd.prog 45 1 false := ⟨_,_,rfl,rfl,rfl,rfl⟩
instance : ElT Tryd.prog 45 1 8 := ⟨_,_,rfl,rfl,rfl,rfl,rfl,by decide,rfl⟩
instance : ZrT Tryd.prog 45 (.nilf) := ⟨_,_,rfl,rfl,by decide,rfl⟩
instance : LdT Tryd.prog 46 1 false := ⟨_,_,rfl,rfl,rfl,rfl⟩
instance : ElT Tryd.prog 46 1 8 := ⟨_,_,rfl,rfl,rfl,rfl,rfl,by decide,rfl⟩
instance : ZrT Tryd.prog 46 (.nilf) := ⟨_,_,rfl,rfl,by decide,rfl⟩
instance : LdT Tryd.prog 47 1 false := ⟨_,_,rfl,rfl,rfl,rfl⟩
instance : ElT Tryd.prog 47 1 8 := ⟨_,_,rfl,rfl,rfl,rfl,rfl,by decide,rfl⟩
instance : ZrT Tryd.prog 47 (.nilf) := ⟨_,_,rfl,rfl,by decide,rfl⟩
instance : LdT Tryd.prog 48 1 false := ⟨_,_,rfl,rfl,rfl,rfl⟩
instance : ElT Tryd.prog 48 1 8 := ⟨_,_,rfl,rfl,rfl,rfl,rfl,by decide,rfl⟩
instance : ZrT Tryd.prog 48 (.nilf) := ⟨_,_,rfl,rfl,by decide,rfl⟩
instance : LdT Tryd.prog 49 1 false := ⟨_,_,rfl,rfl,rfl,rfl⟩
instance : ElT Tryd.prog 49 1 8 := ⟨_,_,rfl,rfl,rfl,rfl,rfl,by decide,rfl⟩
instance : ZrT Tryd.prog 49 (.nilf) := ⟨_,_,rfl,rfl,by decide,rfl⟩
instance : LdT Tryd.prog 50 1 false := ⟨_,_,rfl,rfl,rfl,rfl⟩
instance : ElT Tryd.prog 50 1 8 := ⟨_,_,rfl,rfl,rfl,rfl,rfl,by decide,rfl⟩
instance : ZrT Tryd.prog 50 (.nilf) := ⟨_,_,rfl,rfl,by decide,rfl⟩
instance : LdT Tryd.prog 51 1 false := ⟨_,_,rfl,rfl,rfl,rfl⟩
instance : ElT Tryd.prog 51 1 8 := ⟨_,_,rfl,rfl,rfl,rfl,rfl,by decide,rfl⟩
instance : ZrT Tryd.prog 51 (.nilf) := ⟨_,_,rfl,rfl,by decide,rfl⟩
instance : LdT Tryd.prog 52 1 false := ⟨_,_,rfl,rfl,rfl,rfl⟩
instance : ElT Tryd.prog 52 1 24 := ⟨_,_,rfl,rfl,rfl,rfl,rfl,by decide,rfl⟩
instance : SlT Tryd.prog 52 26 := ⟨rfl⟩
instance : ZrT Tryd.prog 52 (.nils) := ⟨_,_,rfl,rfl,by decide,rfl⟩
instance : LdT Tryd.prog 53 1 false := ⟨_,_,rfl,rfl,rfl,rfl⟩
instance : ElT Tryd.prog 53 1 8 := ⟨_,_,rfl,rfl,rfl,rfl,rfl,by decide,rfl⟩
instance : IkT Tryd.prog 53 .u64 := ⟨rfl⟩
instance : ZrT Tryd.prog 53 (.u64 0) := ⟨_,_,rfl,rfl,by decide,rfl⟩
instance : LdT Tryd.prog 54 1 false := ⟨_,_,rfl,rfl,rfl,rfl⟩
instance : ElT Tryd.prog 54 1 8 := ⟨_,_,rfl,rfl,rfl,rfl,rfl,by decide,rfl⟩
instance : ZrT Tryd.prog 54 (.nilf) := ⟨_,_,rfl,rfl,by decide,rfl⟩
instance : LdT Tryd.prog 55 1 false := ⟨_,_,rfl,rfl,rfl,rfl⟩
instance : ElT Tryd.prog 55 1 8 := ⟨_,_,rfl,rfl,rfl,rfl,rfl,by decide,rfl⟩
instance : ZrT Tryd.prog 55 (.nilf) := ⟨_,_,rfl,rfl,by decide,rfl⟩
instance : LdT Tryd.prog 56 1 false := ⟨_,_,rfl,rfl,rfl,rfl⟩
instance : ElT Tryd.prog 56 1 8 := ⟨_,_,rfl,rfl,rfl,rfl,rfl,by decide,rfl⟩
instance : ZrT Tryd.prog 56 (.nilf) := ⟨_,_,rfl,rfl,by decide,rfl⟩
instance : LdT Tryd.prog 57 1 false := ⟨_,_,rfl,rfl,rfl,rfl⟩
instance : ElT Tryd.prog 57 1 8 := ⟨_,_,rfl,rfl,rfl,rfl,rfl,by decide,rfl⟩
instance : ZrT Tryd.prog 57 (.nilf) := ⟨_,_,rfl,rfl,by decide,rfl⟩
instance : LdT Tryd.prog 58 1 false := ⟨_,_,rfl,rfl,rfl,rfl⟩
instance : ElT Tryd.prog 58 1 8 := ⟨_,_,rfl,rfl,rfl,rfl,rfl,by decide,rfl⟩
instance : ZrT Tryd.prog 58 (.nilf) := ⟨_,_,rfl,rfl,by decide,rfl⟩
instance : LdT Tryd.prog 60 1 false := ⟨_,_,rfl,rfl,rfl,rfl⟩
instance : ElT Tryd.prog 60 1 8 := ⟨_,_,rfl,rfl,rfl,rfl,rfl,by decide,rfl⟩
instance : ZrT Tryd.prog 60 (.nilf) := ⟨_,_,rfl,rfl,by decide,rfl⟩
instance : LdT Tryd.prog 61 1 false := ⟨_,_,rfl,rfl,rfl,rfl⟩
instance : ElT Tryd.prog 61 1 8 := ⟨_,_,rfl,rfl,rfl,rfl,rfl,by decide,rfl⟩
instance : ZrT Tryd.prog 61 (.nilf) := ⟨_,_,rfl,rfl,by decide,rfl⟩
instance : LdT Tryd.prog 62 1 false := ⟨_,_,rfl,rfl,rfl,rfl⟩
instance : ElT Tryd.prog 62 1 24 := ⟨_,_,rfl,rfl,rfl,rfl,rfl,by decide,rfl⟩
instance : SlT Tryd.prog 62 22 := ⟨rfl⟩
instance : ZrT Tryd.prog 62 (.nils) := ⟨_,_,rfl,rfl,by decide,rfl⟩
instance : LdT Tryd.prog 63 1 false := ⟨_,_,rfl,rfl,rfl,rfl⟩
instance : ElT Tryd.prog 63 1 24 := ⟨_,_,rfl,rfl,rfl,rfl,rfl,by decide,rfl⟩
instance : SlT Tryd.prog 63 23 := ⟨rfl⟩
instance : ZrT Tryd.prog 63 (.nils) := ⟨_,_,rfl,rfl,by decide,rfl⟩
instance : LdT Tryd.prog 65 1 false := ⟨_,_,rfl,rfl,rfl,rfl⟩
instance : ElT Tryd.prog 65 1 8 := ⟨_,_,rfl,rfl,rfl,rfl,rfl,by decide,rfl⟩
instance : ZrT Tryd.prog 65 (.nilf) := ⟨_,_,rfl,rfl,by decide,rfl⟩
instance : LdT Tryd.prog 66 1 false := ⟨_,_,rfl,rfl,rfl,rfl⟩
instance : ElT Tryd.prog 66 1 8 := ⟨_,_,rfl,rfl,rfl,rfl,rfl,by decide,rfl⟩
instance : ZrT Tryd.prog 66 (.nilf) := ⟨_,_,rfl,rfl,by decide,rfl⟩
instance : LdT Tryd.prog 67 1 false := ⟨_,_,rfl,rfl,rfl,rfl⟩
instance : ElT Tryd.prog 67 1 8 := ⟨_,_,rfl,rfl,rfl,rfl,rfl,by decide,rfl⟩
instance : ZrT Tryd.prog 67 (.nilf) := ⟨_,_,rfl,rfl,by decide,rfl⟩
instance : LdT Tryd.prog 68 1 false := ⟨_,_,rfl,rfl,rfl,rfl⟩
instance : ElT Tryd.prog 68 1 8 := ⟨_,_,rfl,rfl,rfl,rfl,rfl,by decide,rfl⟩
instance : ZrT Tryd.prog 68 (.nilf) := ⟨_,_,rfl,rfl,by decide,rfl⟩
instance : LdT Tryd.prog 69 1 false := ⟨_,_,rfl,rfl,rfl,rfl⟩
instance : ElT Tryd.prog 69 1 8 := ⟨_,_,rfl,rfl,rfl,rfl,rfl,by decide,rfl⟩
instance : ZrT Tryd.prog 69 (.nilf) := ⟨_,_,rfl,rfl,by decide,rfl⟩
instance : LdT Tryd.prog 70 1 false := ⟨_,_,rfl,rfl,rfl,rfl⟩
instance : ElT Tryd.prog 70 1 8 := ⟨_,_,rfl,rfl,rfl,rfl,rfl,by decide,rfl⟩
instance : ZrT Tryd.prog 70 (.nilf) := ⟨_,_,rfl,rfl,by decide,rfl⟩
instance : LdT Tryd.prog 72 1 false := ⟨_,_,rfl,rfl,rfl,rfl⟩
instance : ElT Tryd.prog 72 1 8 := ⟨_,_,rfl,rfl,rfl,rfl,rfl,by decide,rfl⟩
instance : ZrT Tryd.prog 72 (.nilf) := ⟨_,_,rfl,rfl,by decide,rfl⟩
instance : LdT Tryd.prog 73 1 false := ⟨_,_,rfl,rfl,rfl,rfl⟩
instance : ElT Tryd.prog 73 1 8 := ⟨_,_,rfl,rfl,rfl,rfl,rfl,by decide,rfl⟩
instance : ZrT Tryd.prog 73 (.nilp) := ⟨_,_,rfl,rfl,by decide,rfl⟩
instance : LdT Tryd.prog 74 7 true := ⟨_,_,rfl,rfl,rfl,rfl⟩
instance : ElT Tryd.prog 74 7 136 := ⟨_,_,rfl,rfl,rfl,rfl,rfl,by decide,rfl⟩
instance : FtT Tryd.prog 74 0 33 0 := ⟨_,_,rfl,rfl,rfl,rfl⟩
instance : FdT Tryd.prog 74 0 0 := ⟨_,_,_,rfl,rfl,rfl,rfl,by decide⟩
instance : FtT Tryd.prog 74 1 40 3 := ⟨_,_,rfl,rfl,rfl,rfl⟩
instance : FdT Tryd.prog 74 1 3 := ⟨_,_,_,rfl,rfl,rfl,rfl,by decide⟩
instance : FtT Tryd.prog 74 2 22 4 := ⟨_,_,rfl,rfl,rfl,rfl⟩
instance : FdT Tryd.prog 74 2 4 := ⟨_,_,_,rfl,rfl,rfl,rfl,by decide⟩
instance : FtT Tryd.prog 74 3 40 5 := ⟨_,_,rfl,rfl,rfl,rfl⟩
instance : FdT Tryd.prog 74 3 5 := ⟨_,_,_,rfl,rfl,rfl,rfl,by decide⟩
instance : FtT Tryd.prog 74 4 4 6 := ⟨_,_,rfl,rfl,rfl,rfl⟩
instance : FdT Tryd.prog 74 4 6 := ⟨_,_,_,rfl,rfl,rfl,rfl,by decide⟩
instance : ZrT Tryd.prog 74 (.agg [.agg [.int 0,.nils,.nils],.nils,.nils,.nils,.bool false]) := ⟨_,_,rfl,rfl,by decide,rfl⟩
instance : BsT Tryd.prog 74 ([.agg [.int 0,.nils,.nils],.nils,.nils,.nils,.bool false]) := ⟨_,_,_,rfl,rfl,rfl,rfl,by decide⟩
instance : LdT Tryd.prog 75 7 true := ⟨_,_,rfl,rfl,rfl,rfl⟩
instance : ElT Tryd.prog 75 7 136 := ⟨_,_,rfl,rfl,rfl,rfl,rfl,by decide,rfl⟩
instance : FtT Tryd.prog 75 0 33 0 := ⟨_,_,rfl,rfl,rfl,rfl⟩
instance : FdT Tryd.prog 75 0 0 := ⟨_,_,_,rfl,rfl,rfl,rfl,by decide⟩
instance : FtT Tryd.prog 75 1 40 3 := ⟨_,_,rfl,rfl,rfl,rfl⟩
instance : FdT Tryd.prog 75 1 3 := ⟨_,_,_,rfl,rfl,rfl,rfl,by decide⟩
instance : FtT Tryd.prog 75 2 22 4 := ⟨_,_,rfl,rfl,rfl,rfl⟩
instance : FdT Tryd.prog 75 2 4 := ⟨_,_,_,rfl,rfl,rfl,rfl,by decide⟩
instance : FtT Tryd.prog 75 3 40 5 := ⟨_,_,rfl,rfl,rfl,rfl⟩
instance : FdT Tryd.prog 75 3 5 := ⟨_,_,_,rfl,rfl,rfl,rfl,by decide⟩
instance : FtT Tryd.prog 75 4 4 6 := ⟨_,_,rfl,rfl,rfl,rfl⟩
instance : FdT Tryd.prog 75 4 6 := ⟨_,_,_,rfl,rfl,rfl,rfl,by decide⟩
instance : ZrT Tryd.prog 75 (.agg [.agg [.int 0,.nils,.nils],.nils,.nils,.nils,.bool false]) := ⟨_,_,rfl,rfl,by decide,rfl⟩
instance : BsT Tryd.prog 75 ([.agg [.int 0,.nils,.nils],.nils,.nils,.nils,.bool false]) := ⟨_,_,_,rfl,rfl,rfl,rfl,by decide⟩
instance : LdT Tryd.prog 76 1 false := ⟨_,_,rfl,rfl,rfl,rfl⟩
instance : ElT Tryd.prog 76 1 8 := ⟨_,_,rfl,rfl,rfl,rfl,rfl,by decide,rfl⟩
instance : ZrT Tryd.prog 76 (.nilf) := ⟨_,_,rfl,rfl,by decide,rfl⟩
instance : LdT Tryd.prog 77 1 false := ⟨_,_,rfl,rfl,rfl,rfl⟩
instance : ElT Tryd.prog 77 1 8 := ⟨_,_,rfl,rfl,rfl,rfl,rfl,by decide,rfl⟩
instance : ZrT Tryd.prog 77 (.nilf) := ⟨_,_,rfl,rfl,by decide,rfl⟩
instance : LdT Tryd.prog 78 1 false := ⟨_,_,rfl,rfl,rfl,rfl⟩
instance : ElT Tryd.prog 78 1 8 := ⟨_,_,rfl,rfl,rfl,rfl,rfl,by decide,rfl⟩
instance : IkT Tryd.prog 78 .u64 := ⟨rfl⟩
instance : ZrT Tryd.prog 78 (.u64 0) := ⟨_,_,rfl,rfl,by decide,rfl⟩
instance : LdT Tryd.prog 79 1 false := ⟨_,_,rfl,rfl,rfl,rfl⟩
instance : ElT Tryd.prog 79 1 8 := ⟨_,_,rfl,rfl,rfl,rfl,rfl,by decide,rfl⟩
instance : ZrT Tryd.prog 79 (.nilf) := ⟨_,_,rfl,rfl,by decide,rfl⟩
instance : LdT Tryd.prog 80 3 true := ⟨_,_,rfl,rfl,rfl,rfl⟩
instance : ElT Tryd.prog 80 3 24 := ⟨_,_,rfl,rfl,rfl,rfl,rfl,by decide,rfl⟩
instance : ArT Tryd.prog 80 3 3 := ⟨rfl⟩
instance : BaT Tryd.prog 80 3 3 1 := ⟨_,_,_,rfl,rfl,rfl,rfl,rfl,rfl⟩
instance : EqT Tryd.prog 80 := ⟨by decide +kernel⟩
instance : ZrT Tryd.prog 80 (.arr 3 1 (List.replicate 3 (.int 0))) := ⟨_,_,rfl,rfl,by decide,rfl⟩
instance : LdT Tryd.prog 82 1 false := ⟨_,_,rfl,rfl,rfl,rfl⟩
instance : ElT Tryd.prog 82 1 8 := ⟨_,_,rfl,rfl,rfl,rfl,rfl,by decide,rfl⟩
instance : ZrT Tryd.prog 82 (.nilf) := ⟨_,_,rfl,rfl,by decide,rfl⟩
instance : LdT Tryd.prog 83 1 false := ⟨_,_,rfl,rfl,rfl,rfl⟩
instance : ElT Tryd.prog 83 1 8 := ⟨_,_,rfl,rfl,rfl,rfl,rfl,by decide,rfl⟩
instance : ZrT Tryd.prog 83 (.nilf) := ⟨_,_,rfl,rfl,by decide,rfl⟩
instance : LdT Tryd.prog 84 1 false := ⟨_,_,rfl,rfl,rfl,rfl⟩
instance : ElT Tryd.prog 84 1 8 := ⟨_,_,rfl,rfl,rfl,rfl,rfl,by decide,rfl⟩
instance : ZrT Tryd.prog 84 (.nilf) := ⟨_,_,rfl,rfl,by decide,rfl⟩
instance : LdT Tryd.prog 85 1 false := ⟨_,_,rfl,rfl,rfl,rfl⟩
instance : ElT Tryd.prog 85 1 8 := ⟨_,_,rfl,rfl,rfl,rfl,rfl,by decide,rfl⟩
instance : ZrT Tryd.prog 85 (.nilf) := ⟨_,_,rfl,rfl,by decide,rfl⟩
instance : LdT Tryd.prog 86 1 false := ⟨_,_,rfl,rfl,rfl,rfl⟩
instance : ElT Tryd.prog 86 1 8 := ⟨_,_,rfl,rfl,rfl,rfl,rfl,by decide,rfl⟩
instance : ZrT Tryd.prog 86 (.nilf) := ⟨_,_,rfl,rfl,by decide,rfl⟩
instance : LdT Tryd.prog 87 1 false := ⟨_,_,rfl,rfl,rfl,rfl⟩
instance : ElT Tryd.prog 87 1 8 := ⟨_,_,rfl,rfl,rfl,rfl,rfl,by decide,rfl⟩
instance : ZrT Tryd.prog 87 (.nilf) := ⟨_,_,rfl,rfl,by decide,rfl⟩
instance : LdT Tryd.prog 88 1 false := ⟨_,_,rfl,rfl,rfl,rfl⟩
instance : ElT Tryd.prog 88 1 8 := ⟨_,_,rfl,rfl,rfl,rfl,rfl,by decide,rfl⟩
instance : ZrT Tryd.prog 88 (.nilf) := ⟨_,_,rfl,rfl,by decide,rfl⟩
instance : LdT Tryd.prog 89 64 true := ⟨_,_,rfl,rfl,rfl,rfl⟩
instance : ElT Tryd.prog 89 64 64 := ⟨_,_,rfl,rfl,rfl,rfl,rfl,by decide,rfl⟩
instance : ArT Tryd.prog 89 64 5 := ⟨rfl⟩
instance : BaT Tryd.prog 89 64 5 1 := ⟨_,_,_,rfl,rfl,rfl,rfl,rfl,rfl⟩
instance : EqT Tryd.prog 89 := ⟨by decide +kernel⟩
instance : ZrT Tryd.prog 89 (.arr 64 1 ((List.replicate 64 0).map D.u8)) := ⟨_,_,rfl,rfl,by decide,rfl⟩
instance : LdT Tryd.prog 90 1 false := ⟨_,_,rfl,rfl,rfl,rfl⟩
instance : ElT Tryd.prog 90 1 8 := ⟨_,_,rfl,rfl,rfl,rfl,rfl,by decide,rfl⟩
instance : ZrT Tryd.prog 90 (.nilf) := ⟨_,_,rfl,rfl,by decide,rfl⟩
instance : LdT Tryd.prog 91 1 false := ⟨_,_,rfl,rfl,rfl,rfl⟩
instance : ElT Tryd.prog 91 1 8 := ⟨_,_,rfl,rfl,rfl,rfl,rfl,by decide,rfl⟩
instance : ZrT Tryd.prog 91 (.nilf) := ⟨_,_,rfl,rfl,by decide,rfl⟩
instance : LdT Tryd.prog 92 1 false := ⟨_,_,rfl,rfl,rfl,rfl⟩
instance : ElT Tryd.prog 92 1 8 := ⟨_,_,rfl,rfl,rfl,rfl,rfl,by decide,rfl⟩
instance : ZrT Tryd.prog 92 (.nilf) := ⟨_,_,rfl,rfl,by decide,rfl⟩
instance : LdT Tryd.prog 93 1 false := ⟨_,_,rfl,rfl,rfl,rfl⟩
instance : ElT Tryd.prog 93 1 8 := ⟨_,_,rfl,rfl,rfl,rfl,rfl,by decide,rfl⟩
instance : ZrT Tryd.prog 93 (.nilf) := ⟨_,_,rfl,rfl,by decide,rfl⟩
instance : LdT Tryd.prog 94 1 false := ⟨_,_,rfl,rfl,rfl,rfl⟩
instance : ElT Tryd.prog 94 1 4 := ⟨_,_,rfl,rfl,rfl,rfl,rfl,by decide,rfl⟩
instance : IkT Tryd.prog 94 .u32 := ⟨rfl⟩
instance : ZrT Tryd.prog 94 (.u32 0) := ⟨_,_,rfl,rfl,by decide,rfl⟩
instance : LdT Tryd.prog 95 8 true := ⟨_,_,rfl,rfl,rfl,rfl⟩
instance : ElT Tryd.prog 95 8 32 := ⟨_,_,rfl,rfl,rfl,rfl,rfl,by decide,rfl⟩
instance : ArT Tryd.prog 95 8 94 := ⟨rfl⟩
instance : BaT Tryd.prog 95 8 94 1 := ⟨_,_,_,rfl,rfl,rfl,rfl,rfl,rfl⟩
instance : EqT Tryd.prog 95 := ⟨by decide +kernel⟩
instance : ZrT Tryd.prog 95 (.arr 8 1 ((List.replicate 8 0).map D.u32)) := ⟨_,_,rfl,rfl,by decide,rfl⟩
instance : LdT Tryd.prog 96 8 true := ⟨_,_,rfl,rfl,rfl,rfl⟩
instance : ElT Tryd.prog 96 8 32 := ⟨_,_,rfl,rfl,rfl,rfl,rfl,by decide,rfl⟩
instance : ArT Tryd.prog 96 8 94 := ⟨rfl⟩
instance : BaT Tryd.prog 96 8 94 1 := ⟨_,_,_,rfl,rfl,rfl,rfl,rfl,rfl⟩
instance : EqT Tryd.prog 96 := ⟨by decide +kernel⟩
instance : ZrT Tryd.prog 96 (.arr 8 1 ((List.replicate 8 0).map D.u32)) := ⟨_,_,rfl,rfl,by decide,rfl⟩
instance : LdT Tryd.prog 97 74 true := ⟨_,_,rfl,rfl,rfl,rfl⟩
instance : ElT Tryd.prog 97 74 112 := ⟨_,_,rfl,rfl,rfl,rfl,rfl,by decide,rfl⟩
instance : FtT Tryd.prog 97 0 4 0 := ⟨_,_,rfl,rfl,rfl,rfl⟩
instance : FdT Tryd.prog 97 0 0 := ⟨_,_,_,rfl,rfl,rfl,rfl,by decide⟩
instance : FtT Tryd.prog 97 1 96 1 := ⟨_,_,rfl,rfl,rfl,rfl⟩
instance : FdT Tryd.prog 97 1 1 := ⟨_,_,_,rfl,rfl,rfl,rfl,by decide⟩
instance : FtT Tryd.prog 97 2 89 9 := ⟨_,_,rfl,rfl,rfl,rfl⟩
instance : FdT Tryd.prog 97 2 9 := ⟨_,_,_,rfl,rfl,rfl,rfl,by decide⟩
instance : FtT Tryd.prog 97 3 78 73 := ⟨_,_,rfl,rfl,rfl,rfl⟩
instance : FdT Tryd.prog 97 3 73 := ⟨_,_,_,rfl,rfl,rfl,rfl,by decide⟩
instance : ZrT Tryd.prog 97 (.agg [.bool false,.arr 8 1 ((List.replicate 8 0).map D.u32),.arr 64 1 ((List.replicate 64 0).map D.u8),.u64 0]) := ⟨_,_,rfl,rfl,by decide,rfl⟩
instance : BsT Tryd.prog 97 ([.bool false,.arr 8 1 ((List.replicate 8 0).map D.u32),.arr 64 1 ((List.replicate 64 0).map D.u8),.u64 0]) := ⟨_,_,_,rfl,rfl,rfl,rfl,by decide⟩
instance : LdT Tryd.prog 98 74 true := ⟨_,_,rfl,rfl,rfl,rfl⟩
instance : ElT Tryd.prog 98 74 112 := ⟨_,_,rfl,rfl,rfl,rfl,rfl,by decide,rfl⟩
instance : FtT Tryd.prog 98 0 4 0 := ⟨_,_,rfl,rfl,rfl,rfl⟩
instance : FdT Tryd.prog 98 0 0 := ⟨_,_,_,rfl,rfl,rfl,rfl,by decide⟩
instance : FtT Tryd.prog 98 1 96 1 := ⟨_,_,rfl,rfl,rfl,rfl⟩
instance : FdT Tryd.prog 98 1 1 := ⟨_,_,_,rfl,rfl,rfl,rfl,by decide⟩
instance : FtT Tryd.prog 98 2 89 9 := ⟨_,_,rfl,rfl,rfl,rfl⟩
instance : FdT Tryd.prog 98 2 9 := ⟨_,_,_,rfl,rfl,rfl,rfl,by decide⟩
instance : FtT Tryd.prog 98 3 78 73 := ⟨_,_,rfl,rfl,rfl,rfl⟩
instance : FdT Tryd.prog 98 3 73 := ⟨_,_,_,rfl,rfl,rfl,rfl,by decide⟩
instance : ZrT Tryd.prog 98 (.agg [.bool false,.arr 8 1 ((List.replicate 8 0).map D.u32),.arr 64 1 ((List.replicate 64 0).map D.u8),.u64 0]) := ⟨_,_,rfl,rfl,by decide,rfl⟩
instance : BsT Tryd.prog 98 ([.bool false,.arr 8 1 ((List.replicate 8 0).map D.u32),.arr 64 1 ((List.replicate 64 0).map D.u8),.u64 0]) := ⟨_,_,_,rfl,rfl,rfl,rfl,by decide⟩
instance : LdT Tryd.prog 99 1 false := ⟨_,_,rfl,rfl,rfl,rfl⟩
instance : ElT Tryd.prog 99 1 8 := ⟨_,_,rfl,rfl,rfl,rfl,rfl,by decide,rfl⟩
instance : ZrT Tryd.prog 99 (.nilf) := ⟨_,_,rfl,rfl,by decide,rfl⟩
instance : LdT Tryd.prog 100 1 false := ⟨_,_,rfl,rfl,rfl,rfl⟩
instance : ElT Tryd.prog 100 1 8 := ⟨_,_,rfl,rfl,rfl,rfl,rfl,by decide,rfl⟩
instance : ZrT Tryd.prog 100 (.nilf) := ⟨_,_,rfl,rfl,by decide,rfl⟩
instance : LdT Tryd.prog 101 1 false := ⟨_,_,rfl,rfl,rfl,rfl⟩
instance : ElT Tryd.prog 101 1 8 := ⟨_,_,rfl,rfl,rfl,rfl,rfl,by decide,rfl⟩
instance : ZrT Tryd.prog 101 (.nilf) := ⟨_,_,rfl,rfl,by decide,rfl⟩
instance : LdT Tryd.prog 102 1 false := ⟨_,_,rfl,rfl,rfl,rfl⟩
instance : ElT Tryd.prog 102 1 24 := ⟨_,_,rfl,rfl,rfl,rfl,rfl,by decide,rfl⟩
instance : SlT Tryd.prog 102 94 := ⟨rfl⟩
instance : ZrT Tryd.prog 102 (.nils) := ⟨_,_,rfl,rfl,by decide,rfl⟩
instance : LdT Tryd.prog 103 1 false := ⟨_,_,rfl,rfl,rfl,rfl⟩
instance : ElT Tryd.prog 103 1 8 := ⟨_,_,rfl,rfl,rfl,rfl,rfl,by decide,rfl⟩
instance : ZrT Tryd.prog 103 (.nilf) := ⟨_,_,rfl,rfl,by decide,rfl⟩
instance : LdT Tryd.prog 104 1 false := ⟨_,_,rfl,rfl,rfl,rfl⟩
instance : ElT Tryd.prog 104 1 8 := ⟨_,_,rfl,rfl,rfl,rfl,rfl,by decide,rfl⟩
instance : ZrT Tryd.prog 104 (.nilf) := ⟨_,_,rfl,rfl,by decide,rfl⟩
instance : LdT Tryd.prog 105 1 false := ⟨_,_,rfl,rfl,rfl,rfl⟩
instance : ElT Tryd.prog 105 1 8 := ⟨_,_,rfl,rfl,rfl,rfl,rfl,by decide,rfl⟩
instance : ZrT Tryd.prog 105 (.nilf) := ⟨_,_,rfl,rfl,by decide,rfl⟩
instance : LdT Tryd.prog 106 1 false := ⟨_,_,rfl,rfl,rfl,rfl⟩
instance : ElT Tryd.prog 106 1 8 := ⟨_,_,rfl,rfl,rfl,rfl,rfl,by decide,rfl⟩
instance : ZrT Tryd.prog 106 (.nilf) := ⟨_,_,rfl,rfl,by decide,rfl⟩
instance : LdT Tryd.prog 107 1 false := ⟨_,_,rfl,rfl,rfl,rfl⟩
instance : ElT Tryd.prog 107 1 8 := ⟨_,_,rfl,rfl,rfl,rfl,rfl,by decide,rfl⟩
instance : ZrT Tryd.prog 107 (.nilf) := ⟨_,_,rfl,rfl,by decide,rfl⟩
instance : LdT Tryd.prog 108 1 false := ⟨_,_,rfl,rfl,rfl,rfl⟩
instance : ElT Tryd.prog 108 1 8 := ⟨_,_,rfl,rfl,rfl,rfl,rfl,by decide,rfl⟩
instance : ZrT Tryd.prog 108 (.nilp) := ⟨_,_,rfl,rfl,by decide,rfl⟩
instance : LdT Tryd.prog 109 8 true := ⟨_,_,rfl,rfl,rfl,rfl⟩
instance : ElT Tryd.prog 109 8 8 := ⟨_,_,rfl,rfl,rfl,rfl,rfl,by decide,rfl⟩
instance : ArT Tryd.prog 109 8 5 := ⟨rfl⟩
instance : BaT Tryd.prog 109 8 5 1 := ⟨_,_,_,rfl,rfl,rfl,rfl,rfl,rfl⟩
instance : EqT Tryd.prog 109 := ⟨by decide +kernel⟩
instance : ZrT Tryd.prog 109 (.arr 8 1 ((List.replicate 8 0).map D.u8)) := ⟨_,_,rfl,rfl,by decide,rfl⟩
instance : LdT Tryd.prog 110 64 true := ⟨_,_,rfl,rfl,rfl,rfl⟩
instance : ElT Tryd.prog 110 64 256 := ⟨_,_,rfl,rfl,rfl,rfl,rfl,by decide,rfl⟩
instance : ArT Tryd.prog 110 64 94 := ⟨rfl⟩
instance : BaT Tryd.prog 110 64 94 1 := ⟨_,_,_,rfl,rfl,rfl,rfl,rfl,rfl⟩
instance : EqT Tryd.prog 110 := ⟨by decide +kernel⟩
instance : ZrT Tryd.prog 110 (.arr 64 1 ((List.replicate 64 0).map D.u32)) := ⟨_,_,rfl,rfl,by decide,rfl⟩
instance : LdT Tryd.prog 111 1 false := ⟨_,_,rfl,rfl,rfl,rfl⟩
instance : ElT Tryd.prog 111 1 8 := ⟨_,_,rfl,rfl,rfl,rfl,rfl,by decide,rfl⟩
instance : ZrT Tryd.prog 111 (.nilf) := ⟨_,_,rfl,rfl,by decide,rfl⟩
instance : LdT Tryd.prog 112 1 false := ⟨_,_,rfl,rfl,rfl,rfl⟩
instance : ElT Tryd.prog 112 1 8 := ⟨_,_,rfl,rfl,rfl,rfl,rfl,by decide,rfl⟩
instance : ZrT Tryd.prog 112 (.nilf) := ⟨_,_,rfl,rfl,by decide,rfl⟩
instance : LdT Tryd.prog 113 1 false := ⟨_,_,rfl,rfl,rfl,rfl⟩
instance : ElT Tryd.prog 113 1 8 := ⟨_,_,rfl,rfl,rfl,rfl,rfl,by decide,rfl⟩
instance : ZrT Tryd.prog 113 (.nilf) := ⟨_,_,rfl,rfl,by decide,rfl⟩
instance : LdT Tryd.prog 114 4 true := ⟨_,_,rfl,rfl,rfl,rfl⟩
instance : ElT Tryd.prog 114 4 40 := ⟨_,_,rfl,rfl,rfl,rfl,rfl,by decide,rfl⟩
instance : FtT Tryd.prog 114 0 17 0 := ⟨_,_,rfl,rfl,rfl,rfl⟩
instance : FdT Tryd.prog 114 0 0 := ⟨_,_,_,rfl,rfl,rfl,rfl,by decide⟩
instance : FtT Tryd.prog 114 1 17 1 := ⟨_,_,rfl,rfl,rfl,rfl⟩
instance : FdT Tryd.prog 114 1 1 := ⟨_,_,_,rfl,rfl,rfl,rfl,by decide⟩
instance : FtT Tryd.prog 114 2 17 2 := ⟨_,_,rfl,rfl,rfl,rfl⟩
instance : FdT Tryd.prog 114 2 2 := ⟨_,_,_,rfl,rfl,rfl,rfl,by decide⟩
instance : FtT Tryd.prog 114 3 9 3 := ⟨_,_,rfl,rfl,rfl,rfl⟩
instance : FdT Tryd.prog 114 3 3 := ⟨_,_,_,rfl,rfl,rfl,rfl,by decide⟩
instance : ZrT Tryd.prog 114 (.agg [.nilp,.nilp,.nilp,.str []]) := ⟨_,_,rfl,rfl,by decide,rfl⟩
instance : BsT Tryd.prog 114 ([.nilp,.nilp,.nilp,.str []]) := ⟨_,_,_,rfl,rfl,rfl,rfl,by decide⟩
instance : LdT Tryd.prog 115 4 true := ⟨_,_,rfl,rfl,rfl,rfl⟩
instance : ElT Tryd.prog 115 4 40 := ⟨_,_,rfl,rfl,rfl,rfl,rfl,by decide,rfl⟩
instance : FtT Tryd.prog 115 0 17 0 := ⟨_,_,rfl,rfl,rfl,rfl⟩
instance : FdT Tryd.prog 115 0 0 := ⟨_,_,_,rfl,rfl,rfl,rfl,by decide⟩
instance : FtT Tryd.prog 115 1 17 1 := ⟨_,_,rfl,rfl,rfl,rfl⟩
instance : FdT Tryd.prog 115 1 1 := ⟨_,_,_,rfl,rfl,rfl,rfl,by decide⟩
instance : FtT Tryd.prog 115 2 17 2 := ⟨_,_,rfl,rfl,rfl,rfl⟩
instance : FdT Tryd.prog 115 2 2 := ⟨_,_,_,rfl,rfl,rfl,rfl,by decide⟩
instance : FtT Tryd.prog 115 3 9 3 := ⟨_,_,rfl,rfl,rfl,rfl⟩
instance : FdT Tryd.prog 115 3 3 := ⟨_,_,_,rfl,rfl,rfl,rfl,by decide⟩
instance : ZrT Tryd.prog 115 (.agg [.nilp,.nilp,.nilp,.str []]) := ⟨_,_,rfl,rfl,by decide,rfl⟩
instance : BsT Tryd.prog 115 ([.nilp,.nilp,.nilp,.str []]) := ⟨_,_,_,rfl,rfl,rfl,rfl,by decide⟩
instance : LdT Tryd.prog 119 1 false := ⟨_,_,rfl,rfl,rfl,rfl⟩
instance : ElT Tryd.prog 119 1 8 := ⟨_,_,rfl,rfl,rfl,rfl,rfl,by decide,rfl⟩
instance : ZrT Tryd.prog 119 (.nilf) := ⟨_,_,rfl,rfl,by decide,rfl⟩
instance : LdT Tryd.prog 120 1 false := ⟨_,_,rfl,rfl,rfl,rfl⟩
instance : ElT Tryd.prog 120 1 1 := ⟨_,_,rfl,rfl,rfl,rfl,rfl,by decide,rfl⟩
instance : IkT Tryd.prog 120 .u8 := ⟨rfl⟩
instance : ZrT Tryd.prog 120 (.u8 0) := ⟨_,_,rfl,rfl,by decide,rfl⟩
instance : LdT Tryd.prog 121 1 false := ⟨_,_,rfl,rfl,rfl,rfl⟩
instance : ElT Tryd.prog 121 1 1 := ⟨_,_,rfl,rfl,rfl,rfl,rfl,by decide,rfl⟩
instance : IkT Tryd.prog 121 .u8 := ⟨rfl⟩
instance : ZrT Tryd.prog 121 (.u8 0) := ⟨_,_,rfl,rfl,by decide,rfl⟩
instance : LdT Tryd.prog 122 1 false := ⟨_,_,rfl,rfl,rfl,rfl⟩
instance : ElT Tryd.prog 122 1 8 := ⟨_,_,rfl,rfl,rfl,rfl,rfl,by decide,rfl⟩
instance : ZrT Tryd.prog 122 (.nilf) := ⟨_,_,rfl,rfl,by decide,rfl⟩
instance : LdT Tryd.prog 123 1 false := ⟨_,_,rfl,rfl,rfl,rfl⟩
instance : ElT Tryd.prog 123 1 8 := ⟨_,_,rfl,rfl,rfl,rfl,rfl,by decide,rfl⟩
instance : ZrT Tryd.prog 123 (.nilp) := ⟨_,_,rfl,rfl,by decide,rfl⟩
instance : LdT Tryd.prog 124 1 false := ⟨_,_,rfl,rfl,rfl,rfl⟩
instance : ElT Tryd.prog 124 1 4 := ⟨_,_,rfl,rfl,rfl,rfl,rfl,by decide,rfl⟩
instance : IkT Tryd.prog 124 .i32 := ⟨rfl⟩
instance : ZrT Tryd.prog 124 (.ik .i32 0) := ⟨_,_,rfl,rfl,by decide,rfl⟩
instance : LdT Tryd.prog 125 1 false := ⟨_,_,rfl,rfl,rfl,rfl⟩
instance : ElT Tryd.prog 125 1 4 := ⟨_,_,rfl,rfl,rfl,rfl,rfl,by decide,rfl⟩
instance : IkT Tryd.prog 125 .i32 := ⟨rfl⟩
instance : ZrT Tryd.prog 125 (.ik .i32 0) := ⟨_,_,rfl,rfl,by decide,rfl⟩
instance : LdT Tryd.prog 126 11 true := ⟨_,_,rfl,rfl,rfl,rfl⟩
instance : ElT Tryd.prog 126 11 48 := ⟨_,_,rfl,rfl,rfl,rfl,rfl,by decide,rfl⟩
instance : FtT Tryd.prog 126 0 12 0 := ⟨_,_,rfl,rfl,rfl,rfl⟩
instance : FdT Tryd.prog 126 0 0 := ⟨_,_,_,rfl,rfl,rfl,rfl,by decide⟩
instance : FtT Tryd.prog 126 1 12 1 := ⟨_,_,rfl,rfl,rfl,rfl⟩
instance : FdT Tryd.prog 126 1 1 := ⟨_,_,_,rfl,rfl,rfl,rfl,by decide⟩
instance : FtT Tryd.prog 126 2 94 2 := ⟨_,_,rfl,rfl,rfl,rfl⟩
instance : FdT Tryd.prog 126 2 2 := ⟨_,_,_,rfl,rfl,rfl,rfl,by decide⟩
instance : FtT Tryd.prog 126 3 120 3 := ⟨_,_,rfl,rfl,rfl,rfl⟩
instance : FdT Tryd.prog 126 3 3 := ⟨_,_,_,rfl,rfl,rfl,rfl,by decide⟩
instance : FtT Tryd.prog 126 4 5 4 := ⟨_,_,rfl,rfl,rfl,rfl⟩
instance : FdT Tryd.prog 126 4 4 := ⟨_,_,_,rfl,rfl,rfl,rfl,by decide⟩
instance : FtT Tryd.prog 126 5 5 5 := ⟨_,_,rfl,rfl,rfl,rfl⟩
instance : FdT Tryd.prog 126 5 5 := ⟨_,_,_,rfl,rfl,rfl,rfl,by decide⟩
instance : FtT Tryd.prog 126 6 121 6 := ⟨_,_,rfl,rfl,rfl,rfl⟩
instance : FdT Tryd.prog 126 6 6 := ⟨_,_,_,rfl,rfl,rfl,rfl,by decide⟩
instance : FtT Tryd.prog 126 7 122 7 := ⟨_,_,rfl,rfl,rfl,rfl⟩
instance : FdT Tryd.prog 126 7 7 := ⟨_,_,_,rfl,rfl,rfl,rfl,by decide⟩
instance : FtT Tryd.prog 126 8 123 8 := ⟨_,_,rfl,rfl,rfl,rfl⟩
instance : FdT Tryd.prog 126 8 8 := ⟨_,_,_,rfl,rfl,rfl,rfl,by decide⟩
instance : FtT Tryd.prog 126 9 124 9 := ⟨_,_,rfl,rfl,rfl,rfl⟩
instance : FdT Tryd.prog 126 9 9 := ⟨_,_,_,rfl,rfl,rfl,rfl,by decide⟩
instance : FtT Tryd.prog 126 10 125 10 := ⟨_,_,rfl,rfl,rfl,rfl⟩
instance : FdT Tryd.prog 126 10 10 := ⟨_,_,_,rfl,rfl,rfl,rfl,by decide⟩
instance : ZrT Tryd.prog 126 (.agg [.u64 0,.u64 0,.u32 0,.u8 0,.u8 0,.u8 0,.u8 0,.nilf,.nilp,.ik .i32 0,.ik .i32 0]) := ⟨_,_,rfl,rfl,by decide,rfl⟩
instance : BsT Tryd.prog 126 ([.u64 0,.u64 0,.u32 0,.u8 0,.u8 0,.u8 0,.u8 0,.nilf,.nilp,.ik .i32 0,.ik .i32 0]) := ⟨_,_,_,rfl,rfl,rfl,rfl,by decide⟩
instance : LdT Tryd.prog 127 11 true := ⟨_,_,rfl,rfl,rfl,rfl⟩
instance : ElT Tryd.prog 127 11 48 := ⟨_,_,rfl,rfl,rfl,rfl,rfl,by decide,rfl⟩
instance : FtT Tryd.prog 127 0 12 0 := ⟨_,_,rfl,rfl,rfl,rfl⟩
instance : FdT Tryd.prog 127 0 0 := ⟨_,_,_,rfl,rfl,rfl,rfl,by decide⟩
instance : FtT Tryd.prog 127 1 12 1 := ⟨_,_,rfl,rfl,rfl,rfl⟩
instance : FdT Tryd.prog 127 1 1 := ⟨_,_,_,rfl,rfl,rfl,rfl,by decide⟩
instance : FtT Tryd.prog 127 2 94 2 := ⟨_,_,rfl,rfl,rfl,rfl⟩
instance : FdT Tryd.prog 127 2 2 := ⟨_,_,_,rfl,rfl,rfl,rfl,by decide⟩
instance : FtT Tryd.prog 127 3 120 3 := ⟨_,_,rfl,rfl,rfl,rfl⟩
instance : FdT Tryd.prog 127 3 3 := ⟨_,_,_,rfl,rfl,rfl,rfl,by decide⟩
instance : FtT Tryd.prog 127 4 5 4 := ⟨_,_,rfl,rfl,rfl,rfl⟩
instance : FdT Tryd.prog 127 4 4 := ⟨_,_,_,rfl,rfl,rfl,rfl,by decide⟩
instance : FtT Tryd.prog 127 5 5 5 := ⟨_,_,rfl,rfl,rfl,rfl⟩
instance : FdT Tryd.prog 127 5 5 := ⟨_,_,_,rfl,rfl,rfl,rfl,by decide⟩
instance : FtT Tryd.prog 127 6 121 6 := ⟨_,_,rfl,rfl,rfl,rfl⟩
instance : FdT Tryd.prog 127 6 6 := ⟨_,_,_,rfl,rfl,rfl,rfl,by decide⟩
instance : FtT Tryd.prog 127 7 122 7 := ⟨_,_,rfl,rfl,rfl,rfl⟩
instance : FdT Tryd.prog 127 7 7 := ⟨_,_,_,rfl,rfl,rfl,rfl,by decide⟩
instance : FtT Tryd.prog 127 8 123 8 := ⟨_,_,rfl,rfl,rfl,rfl⟩
instance : FdT Tryd.prog 127 8 8 := ⟨_,_,_,rfl,rfl,rfl,rfl,by decide⟩
instance : FtT Tryd.prog 127 9 124 9 := ⟨_,_,rfl,rfl,rfl,rfl⟩
instance : FdT Tryd.prog 127 9 9 := ⟨_,_,_,rfl,rfl,rfl,rfl,by decide⟩
instance : FtT Tryd.prog 127 10 125 10 := ⟨_,_,rfl,rfl,rfl,rfl⟩
instance : FdT Tryd.prog 127 10 10 := ⟨_,_,_,rfl,rfl,rfl,rfl,by decide⟩
instance : ZrT Tryd.prog 127 (.agg [.u64 0,.u64 0,.u32 0,.u8 0,.u8 0,.u8 0,.u8 0,.nilf,.nilp,.ik .i32 0,.ik .i32 0]) := ⟨_,_,rfl,rfl,by decide,rfl⟩
instance : BsT Tryd.prog 127 ([.u64 0,.u64 0,.u32 0,.u8 0,.u8 0,.u8 0,.u8 0,.nilf,.nilp,.ik .i32 0,.ik .i32 0]) := ⟨_,_,_,rfl,rfl,rfl,rfl,by decide⟩
instance : CaT Tryd.prog 3 := ⟨_,Tryd.func3,by decide,by decide⟩
instance : CaT Tryd.prog 4 := ⟨_,Tryd.func4,by decide,by decide⟩
instance : CaT Tryd.prog 5 := ⟨_,Tryd.func5,by decide,by decide⟩
instance : CaT Tryd.prog 6 := ⟨_,Tryd.func6,by decide,by decide⟩
instance : CaT Tryd.prog 7 := ⟨_,Tryd.func7,by decide,by decide⟩
instance : CaT Tryd.prog 8 := ⟨_,Tryd.func8,by decide,by decide⟩
instance : CaT Tryd.prog 9 := ⟨_,Tryd.func9,by decide,by decide⟩
instance : CaT Tryd.prog 10 := ⟨_,Tryd.func10,by decide,by decide⟩
instance : CaT Tryd.prog 11 := ⟨_,Tryd.func11,by decide,by decide⟩
instance : CaT Tryd.prog 12 := ⟨_,Tryd.func12,by decide,by decide⟩
instance : CaT Tryd.prog 13 := ⟨_,Tryd.func13,by decide,by decide⟩
instance : CaT Tryd.prog 14 := ⟨_,Tryd.func14,by decide,by decide⟩
instance : CaT Tryd.prog 15 := ⟨_,Tryd.func15,by decide,by decide⟩
instance : CaT Tryd.prog 16 := ⟨_,Tryd.func16,by decide,by decide⟩
instance : CaT Tryd.prog 17 := ⟨_,Tryd.func17,by decide,by decide⟩
instance : CaT Tryd.prog 18 := ⟨_,Tryd.func18,by decide,by decide⟩
instance : CaT Tryd.prog 19 := ⟨_,Tryd.func19,by decide,by decide⟩
instance : CaT Tryd.prog 20 := ⟨_,Tryd.func20,by decide,by decide⟩
instance : CaT Tryd.prog 21 := ⟨_,Tryd.func21,by decide,by decide⟩
instance : CaT Tryd.prog 22 := ⟨_,Tryd.func22,by decide,by decide⟩
instance : CaT Tryd.prog 23 := ⟨_,Tryd.func23,by decide,by decide⟩
instance : CaT Tryd.prog 24 := ⟨_,Tryd.func24,by decide,by decide⟩
instance : CaT Tryd.prog 25 := ⟨_,Tryd.func25,by decide,by decide⟩
instance : CaT Tryd.prog 26 := ⟨_,Tryd.func26,by decide,by decide⟩
instance : CaT Tryd.prog 27 := ⟨_,Tryd.func27,by decide,by decide⟩
instance : CaT Tryd.prog 28 := ⟨_,Tryd.func28,by decide,by decide⟩
instance : CaT Tryd.prog 29 := ⟨_,Tryd.func29,by decide,by decide⟩
instance : CaT Tryd.prog 30 := ⟨_,Tryd.func30,by decide,by decide⟩
instance : CaT Tryd.prog 31 := ⟨_,Tryd.func31,by decide,by decide⟩
instance : CaT Tryd.prog 32 := ⟨_,Tryd.func32,by decide,by decide⟩
instance : CaT Tryd.prog 33 := ⟨_,Tryd.func33,by decide,by decide⟩
instance : CaT Tryd.prog 34 := ⟨_,Tryd.func34,by decide,by decide⟩
instance : CaT Tryd.prog 35 := ⟨_,Tryd.func35,by decide,by decide⟩
instance : CaT Tryd.prog 36 := ⟨_,Tryd.func36,by decide,by decide⟩
instance : CaT Tryd.prog 37 := ⟨_,Tryd.func37,by decide,by decide⟩
instance : CaT Tryd.prog 38 := ⟨_,Tryd.func38,by decide,by decide⟩
instance : CaT Tryd.prog 39 := ⟨_,Tryd.func39,by decide,by decide⟩
instance : CaT Tryd.prog 40 := ⟨_,Tryd.func40,by decide,by decide⟩
instance : CaT Tryd.prog 41 := ⟨_,Tryd.func41,by decide,by decide⟩
instance : CaT Tryd.prog 42 := ⟨_,Tryd.func42,by decide,by decide⟩
instance : CaT Tryd.prog 43 := ⟨_,Tryd.func43,by decide,by decide⟩
instance : CaT Tryd.prog 44 := ⟨_,Tryd.func44,by decide,by decide⟩
instance : CaT Tryd.prog 45 := ⟨_,Tryd.func45,by decide,by decide⟩
instance : CaT Tryd.prog 46 := ⟨_,Tryd.func46,by decide,by decide⟩
instance : CaT Tryd.prog 47 := ⟨_,Tryd.func47,by decide,by decide⟩
instance : CaT Tryd.prog 48 := ⟨_,Tryd.func48,by decide,by decide⟩
instance : CaT Tryd.prog 49 := ⟨_,Tryd.func49,by decide,by decide⟩
instance : CaT Tryd.prog 50 := ⟨_,Tryd.func50,by decide,by decide⟩
instance : CaT Tryd.prog 51 := ⟨_,Tryd.func51,by decide,by decide⟩
instance : CaT Tryd.prog 52 := ⟨_,Tryd.func52,by decide,by decide⟩
instance : CaT Tryd.prog 53 := ⟨_,Tryd.func53,by decide,by decide⟩
instance : CaT Tryd.prog 54 := ⟨_,Tryd.func54,by decide,by decide⟩
instance : CaT Tryd.prog 55 := ⟨_,Tryd.func55,by decide,by decide⟩
instance : CaT Tryd.prog 56 := ⟨_,Tryd.func56,by decide,by decide⟩
instance : CaT Tryd.prog 57 := ⟨_,Tryd.func57,by decide,by decide⟩
instance : CaT Tryd.prog 58 := ⟨_,Tryd.func58,by decide,by decide⟩
instance : CaT Tryd.prog 59 := ⟨_,Tryd.func59,by decide,by decide⟩
instance : CaT Tryd.prog 60 := ⟨_,Tryd.func60,by decide,by decide⟩
instance : CaT Tryd.prog 61 := ⟨_,Tryd.func61,by decide,by decide⟩
instance : CaT Tryd.prog 62 := ⟨_,Tryd.func62,by decide,by decide⟩
instance : CaT Tryd.prog 63 := ⟨_,Tryd.func63,by decide,by decide⟩
def gl : List (Nat × D) := [(0,.arr 64 1 (kTab.map D.u32))]
end Go.Sx

namespace Go.Sx
open Go.Proofs
theorem hP : Tryd.prog.follows .mixedOrders = true := Tryd.checked.mixed
theorem rot_ok (x : UInt32) (k : Int) : Fn Tryd.prog gl 63 [.u32 x,.int (k : Int)] (.u32 (rotl x k)) := by
 refine Fn.of (n := 17) Tryd.func63 rfl rfl rfl (nU rfl) fun C hC hD => ?_
 refine W.seq ?_
 refine W.l0 1 [.y 4 _] [] [] [(0,_),(1,_)] [] 17 ⟨aU fun _ _ H _ => R.asg (show ev _ _ (.const (.int .u32 0)) = some (.u32 0) from rfl) rfl H,trivial⟩ rfl rfl rfl rfl (tU rfl ?_)
 refine W.seq ?_
 refine W.l0 4 [.y 6 _,.y 7 _,.y 8 _,.y 5 _] [] [] [(0,_),(5,_)] [] 17 ⟨mU 1 rfl rfl,aU fun _ _ H K => R.conv (eU K 6 rfl) rfl H,aU fun _ _ H K => R.bin (eU K 7 rfl) (show ev _ _ (.const (.int .u64 31)) = some (.u64 31) from rfl) rfl trivial H,aU fun _ _ H K => R.asg (eU K 8 rfl) rfl H,trivial⟩ rfl rfl rfl rfl (tU rfl ?_)
 refine W.seq ?_
 refine W.l0 9 [.y 9 _,.y 10 _,.y 11 _,.y 12 _,.y 13 _,.y 14 _,.y 15 _,.y 16 _,.y 4 _] [] [] [(4,_)] [] 17 ⟨mU 0 rfl rfl,mU 5 rfl rfl,aU fun _ _ H K => R.bin (eU K 9 rfl) (eU K 10 rfl) rfl bV H,mU 0 rfl rfl,mU 5 rfl rfl,aU fun _ _ H K => R.bin (show ev _ _ (.const (.int .u64 32)) = some (.u64 32) from rfl) (eU K 13 rfl) rfl trivial H,aU fun _ _ H K => R.bin (eU K 12 rfl) (eU K 14 rfl) rfl bV H,aU fun _ _ H K => R.bin (eU K 11 rfl) (eU K 15 rfl) rfl trivial H,aU fun _ _ H K => R.asg (eU K 16 rfl) rfl H,trivial⟩ rfl rfl rfl rfl (tU rfl ?_)
 refine W.ret ?_
 exact Ends.one' (.inr rfl) rfl (rfl) rfl rfl trivial

theorem right_ok (x : UInt32) (k : Int) : Fn Tryd.prog gl 62 [.u32 x,.int (k : Int)] (.u32 (right x k)) := by
 refine Fn.of (n := 9) Tryd.func62 rfl rfl rfl (nU rfl) fun C hC hD => ?_
 refine W.seq ?_
 refine W.l0 1 [.y 4 _] [] [] [(0,_),(1,_)] [] 9 ⟨aU fun _ _ H _ => R.asg (show ev _ _ (.const (.int .u32 0)) = some (.u32 0) from rfl) rfl H,trivial⟩ rfl rfl rfl rfl (tU rfl ?_)
 refine W.seq ?_
 refine W.l0 5 [.y 5 _,.y 6 _,.y 7 _,.y 8 _,.y 4 _] [] [] [(4,_)] [] 9 ⟨mU 0 rfl rfl,mU 1 rfl rfl,aU fun _ _ H K => R.un (eU K 6 rfl) rfl H,aU fun _ _ H K => R.callG hC (rot_ok _ _) (Bors.cons (Bor.pur (eU K 5 rfl) rfl rfl) (Bors.cons (Bor.pur (eU K 7 rfl) rfl rfl) Bors.nil)) (FrsR.one (.u32 _)) H,aU fun _ _ H K => R.asg (eU K 8 rfl) rfl H,trivial⟩ rfl rfl rfl rfl (tU rfl ?_)
 refine W.ret ?_
 exact Ends.one' (.inr rfl) rfl (rfl) rfl rfl trivial

theorem start_ok : Fn Tryd.prog gl 59 [] (.arr 8 1 (iv.map D.u32)) := by
 refine Fn.of (n := 2) Tryd.func59 rfl rfl rfl (nU rfl) fun C hC hD => ?_
 refine W.seq ?_
 refine W.l0 1 [] [] [] [] [] 2 trivial rfl rfl rfl rfl (⟨rfl,_,R.alloc rfl (nU rfl),tV [(0,_)] [(0,.var _)] 2 rfl rfl rfl ?_⟩)
 refine W.seq ?_
 refine W.l0 2 [.y 1 _] [] [] [(0,_),(1,_)] [(0,.var _)] 2 ⟨aU fun _ _ H _ => R.bldAE (z := 1) (.cons (show ev _ _ (.const (.int .u32 1779033703)) = some (.u32 1779033703) from rfl) (.cons (show ev _ _ (.const (.int .u32 3144134277)) = some (.u32 3144134277) from rfl) (.cons (show ev _ _ (.const (.int .u32 1013904242)) = some (.u32 1013904242) from rfl) (.cons (show ev _ _ (.const (.int .u32 2773480762)) = some (.u32 2773480762) from rfl) (.cons (show ev _ _ (.const (.int .u32 1359893119)) = some (.u32 1359893119) from rfl) (.cons (show ev _ _ (.const (.int .u32 2600822924)) = some (.u32 2600822924) from rfl) (.cons (show ev _ _ (.const (.int .u32 528734635)) = some (.u32 528734635) from rfl) (.cons (show ev _ _ (.const (.int .u32 1541459225)) = some (.u32 1541459225) from rfl) .nil)))))))) ⟨⟨rfl,rfl,rfl⟩,⟨rfl,rfl,rfl⟩,⟨rfl,rfl,rfl⟩,⟨rfl,rfl,rfl⟩,⟨rfl,rfl,rfl⟩,⟨rfl,rfl,rfl⟩,⟨rfl,rfl,rfl⟩,⟨rfl,rfl,rfl⟩,trivial⟩ rfl H,trivial⟩ rfl rfl rfl rfl (⟨rfl,_,R.stZ (gU 0 rfl) (xU 0 rfl) rfl (gV 1 rfl) (by rfl) (by rfl) (by rfl) (by rfl) rfl,tV [(0,_)] [(0,.var _)] 2 rfl rfl rfl ?_⟩)
 refine W.ret ?_
 exact Ends.one' (.inr rfl) rfl (rfl) rfl rfl (show LdT _ 96 8 true from inferInstance)

theorem begin_ok : Fn Tryd.prog gl 52 [] (stD ShaS.start) := by
 refine Fn.of (n := 3) Tryd.func52 rfl rfl rfl (nU rfl) fun C hC hD => ?_
 refine W.seq ?_
 refine W.l0 1 [] [] [] [] [] 3 trivial rfl rfl rfl rfl (⟨rfl,_,R.alloc rfl (nU rfl),tV [(0,_)] [(0,.var _)] 3 rfl rfl rfl ?_⟩)
 refine W.seq ?_
 refine W.l0 3 [.y 1 _,.y 2 _] [] [] [(0,_),(2,_)] [(0,.var _)] 3 ⟨aU fun _ _ H _ => R.callG hC (start_ok) Bors.nil (FrsR.one (.arr _ _ _ (frs_map fun _ => .u32 _))) H,aU fun _ _ H K => R.bldSE (l := [.bool false,.arr 8 1 ((List.replicate 8 0).map D.u32),.arr 64 1 ((List.replicate 64 0).map D.u8),.u64 0]) (l' := [_,_,_,_]) (.cons (kB true rfl) (.cons (eU K 1 rfl) (.nil rfl))) ⟨⟨_,(kB true rfl),rfl,rfl,rfl⟩,⟨⟨_,(eU K 1 rfl),rfl,rfl,rfl⟩,trivial⟩⟩ H,trivial⟩ rfl rfl rfl rfl (⟨rfl,_,R.stZ (gU 0 rfl) (xU 0 rfl) rfl (gV 2 rfl) (by rfl) (by rfl) (by rfl) (by rfl) rfl,tV [(0,_)] [(0,.var _)] 3 rfl rfl rfl ?_⟩)
 refine W.ret ?_
 exact Ends.one' (.inr rfl) rfl (rfl) rfl rfl (show LdT _ 98 74 true from inferInstance)

theorem sched_ok (p : List UInt8) (hp : p.length = 64) : Fn Tryd.prog gl 61 [.rp (.arr 64 1 (p.map D.u8))] (.arr 64 1 ((sched p 64).map D.u32)) := by
 refine Fn.of (n := 75) Tryd.func61 rfl rfl rfl (nU rfl) fun C hC hD => ?_
 refine W.seq ?_
 refine W.l0 1 [] [] [] [(0,_)] [] 75 trivial rfl rfl rfl rfl (⟨rfl,_,R.alloc rfl (nU rfl),tV [(0,_),(2,_)] [(2,.var _)] 75 rfl rfl rfl ?_⟩)
 refine W.seq ?_
 refine W.seq ?_
 refine W.l0 1 [.y 8 _] [] [] [(0,_),(2,_),(8,_)] [(2,.var _)] 75 ⟨aU fun _ _ H _ => R.mov (kI 0 rfl) rfl H,trivial⟩ rfl rfl rfl rfl (tU rfl ?_)
 refine W.block ?_
 refine W.loop (α := {q__ : Nat // q__ ≤ 64}) (fun q__ => ⟨75,[(0,.rp (.arr 64 1 (p.map D.u8))),(2,.ptr 2 0 []),(8,.int ((q__.1 : Nat) : Int))],[(2,.var (.arr 64 1 ((sched p q__.1).map D.u32)))]⟩) (fun q__ => 64 - q__.1) ⟨(0),bU⟩ rfl ?_
 rintro ⟨t,htl⟩
 show W _ _ _ _ ⟨75,[(0,.rp (.arr 64 1 (p.map D.u8))),(2,.ptr 2 0 []),(8,.int ((t : Nat) : Int))],[(2,.var (.arr 64 1 ((sched p t).map D.u32)))]⟩
 have hsl := sched_len p t
 refine W.seq ?_
 refine W.l0 1 [.y 9 _] [] [] [(0,_),(2,_),(8,_),(9,_)] [(2,.var _)] 75 ⟨aU fun _ _ H K => R.lssN (t) (64) (eU K 8 rfl) (kI 64 rfl) H,trivial⟩ rfl rfl rfl rfl (tU rfl ?_)
 refine W.seq ?_
 refine W.condD rfl (fun hc9 => ?_) (fun hc9 => ?_)
 · refine W.skip ?_
   refine W.seq ?_
   refine W.block ?_
   refine W.seq ?_
   refine W.l0 2 [.y 10 _,.y 3 _] [] [] [(0,_),(2,_),(3,_),(8,_)] [(2,.var _)] 75 ⟨mU 8 rfl rfl,aU fun _ _ H K => R.asg (eU K 10 rfl) rfl H,trivial⟩ rfl rfl rfl rfl (tU rfl ?_)
   refine W.seq ?_
   refine W.seq ?_
   refine W.l0 2 [.y 11 _,.y 12 _] [] [] [(0,_),(2,_),(3,_),(8,_),(12,_)] [(2,.var _)] 75 ⟨mU 3 rfl rfl,aU fun _ _ H K => R.lssN (t) (16) (eU K 11 rfl) (kI 16 rfl) H,trivial⟩ rfl rfl rfl rfl (tU rfl ?_)
   refine W.condD rfl (fun hc12 => ?_) (fun hc12 => ?_)
   · refine W.seq ?_
     refine W.seq ?_
     refine W.l0 10 [.y 13 _,.y 14 _,.y 15 _,.y 16 _,.y 17 _,.y 18 _,.y 19 _,.y 20 _,.y 21 _,.y 22 _] [] [] [(0,_),(2,_),(3,_),(8,_),(20,_),(21,_),(22,_)] [(2,.var _)] 75 ⟨mU 0 rfl rfl,aU fun _ _ H K => R.nilc (eU K 13 rfl) H,mU 3 rfl rfl,aU fun _ _ H K => R.mulN (4) (t) (kI 4 rfl) (eU K 15 rfl) bU H,mU 3 rfl rfl,aU fun _ _ H K => R.mulN (4) (t) (kI 4 rfl) (eU K 17 rfl) bU H,aU fun _ _ H K => R.addN ((4 * t)) (4) (eU K 18 rfl) (kI 4 rfl) bU H,aU fun _ _ H K => R.slRN ((4 * t)) (((4 * t) + 4)) (4) (eU K 14 rfl) (evoI (eU K 16 rfl)) (evoI (eU K 19 rfl)) rfl rfl bU bU bU (part_map) H,aU fun _ _ H K => R.lenE (n := 4) (SC.sl (K 20 _ rfl)) (by simp; omega) H,aU fun _ _ H _ => R.mov (kI 0 rfl) rfl H,trivial⟩ rfl rfl rfl rfl (tU rfl ?_)
     refine W.block ?_
     refine W.loop (α := {q__ : Nat // q__ ≤ 4}) (fun q__ => ⟨75,[(0,.rp (.arr 64 1 (p.map D.u8))),(2,.ptr 2 0 []),(3,.int ((t : Nat) : Int)),(8,.int ((t : Nat) : Int)),(20,.sl none 1 (((p.drop (4 * t)).take 4).map D.u8)),(21,.int ((4 : Nat) : Int)),(22,.int ((q__.1 : Nat) : Int))],[(2,.var (.arr 64 1 ((inW p t (sched p t) q__.1).map D.u32)))]⟩) (fun q__ => 4 - q__.1) ⟨(0),bU⟩ rfl ?_
     rintro ⟨i,hil⟩
     show W _ _ _ _ ⟨75,[(0,.rp (.arr 64 1 (p.map D.u8))),(2,.ptr 2 0 []),(3,.int ((t : Nat) : Int)),(8,.int ((t : Nat) : Int)),(20,.sl none 1 (((p.drop (4 * t)).take 4).map D.u8)),(21,.int ((4 : Nat) : Int)),(22,.int ((i : Nat) : Int))],[(2,.var (.arr 64 1 ((inW p t (sched p t) i).map D.u32)))]⟩
     have hil2 := inW_len p t (sched p t) i
     refine W.seq ?_
     refine W.l0 1 [.y 23 _] [] [] [(0,_),(2,_),(3,_),(8,_),(20,_),(21,_),(22,_),(23,_)] [(2,.var _)] 75 ⟨aU fun _ _ H K => R.lssN (i) (4) (eU K 22 rfl) (eU K 21 rfl) H,trivial⟩ rfl rfl rfl rfl (tU rfl ?_)
     refine W.seq ?_
     refine W.condD rfl (fun hc23 => ?_) (fun hc23 => ?_)
     · refine W.skip ?_
       refine W.seq ?_
       refine W.block ?_
       refine W.seq ?_
       refine W.l0 3 [.y 24 _,.y 25 _,.y 5 _] [] [] [(0,_),(2,_),(3,_),(5,_),(8,_),(20,_),(21,_),(22,_)] [(2,.var _)] 75 ⟨aU fun _ _ H K => R.idxN (i) (SC.sl (K 20 _ rfl)) (evoI (eU K 22 rfl)) rfl bU H (by decide),aU fun _ _ H K => R.ldE (K 24 _ rfl) (SC.sl (K 20 _ rfl)) (part_get! (by omega) (by omega)) rfl rfl rfl rfl H,aU fun _ _ H K => R.asg (eU K 25 rfl) rfl H,trivial⟩ rfl rfl rfl rfl (tU rfl ?_)
       refine W.l0 10 [.y 26 _,.y 27 _,.y 28 _,.y 29 _,.y 30 _,.y 31 _,.y 32 _,.y 33 _,.y 34 _] [] [] [(0,_),(2,_),(3,_),(8,_),(20,_),(21,_),(22,_),(33,_),(34,_)] [(2,.var _)] 75 ⟨mU 3 rfl rfl,mU 3 rfl rfl,aU fun _ _ H K => R.idxP (t) (K 2 _ rfl) (evoI (eU K 27 rfl)) rfl bU H,aU fun _ B H K => R.ldP (K 28 _ rfl) (B 2 _ rfl) (loc_arr (map_get! (l := (inW p t (sched p t) i)) bU) loc_nil bU) rfl rfl rfl H,aU fun _ _ H K => R.bin (eU K 29 rfl) (show ev _ _ (.const (.int .u64 8)) = some (.u64 8) from rfl) rfl bV H,mU 5 rfl rfl,aU fun _ _ H K => R.conv (eU K 31 rfl) rfl H,aU fun _ _ H K => R.bin (eU K 30 rfl) (eU K 32 rfl) rfl trivial H,aU fun _ _ H K => R.idxP (t) (K 2 _ rfl) (evoI (eU K 26 rfl)) rfl bU H,trivial⟩ rfl rfl rfl rfl (⟨rfl,_,R.stZ (gU 34 rfl) (xU 2 rfl) (loc_arr (map_get! (l := (inW p t (sched p t) i)) bU) loc_nil bU) (gV 33 rfl) (by rfl) (by rfl) (by rfl) (by rfl) (upd_arr (map_get! (l := (inW p t (sched p t) i)) bU) upd_nil set_map),tV [(0,_),(2,_),(3,_),(8,_),(20,_),(21,_),(22,_)] [(2,.var _)] 75 rfl rfl rfl ?_⟩)
       refine W.l0 2 [.y 35 _,.y 22 _] [] [] [(0,_),(2,_),(3,_),(8,_),(20,_),(21,_),(22,_)] [(2,.var _)] 75 ⟨aU fun _ _ H K => R.addN (i) (1) (eU K 22 rfl) (kI 1 rfl) bU H,mU 35 rfl rfl,trivial⟩ rfl rfl rfl rfl (tU rfl ?_)
       exact ⟨⟨(i + 1),bU⟩,rfl,(by simp only []; omega)⟩
     · obtain rfl : i = 4 := by omega
       refine W.exit ?_
       refine W.exit ?_
       refine W.l0 2 [.y 73 _,.y 8 _] [] [] [(0,_),(2,_),(8,_)] [(2,.var _)] 75 ⟨aU fun _ _ H K => R.addN (t) (1) (eU K 8 rfl) (kI 1 rfl) bU H,mU 73 rfl rfl,trivial⟩ rfl rfl rfl rfl (tU rfl ?_)
       exact ⟨⟨(t + 1),bU⟩,(by simp only [sched]; first | rw [if_pos hc12] | (rw [if_neg hc12]; rfl)),(by simp only []; omega)⟩
   · refine W.skip ?_
     refine W.seq ?_
     refine W.draw (m := 10) (an := [0,1,3,7,0,16,48,112,15,511]) hP (by decide) rfl (its := [.y 36 _,.y 37 _,.y 38 _,.y 39 _,.y 40 _,.y 41 _,.y 42 _,.y 43 _,.y 6 _,.y 7 _]) (ks := []) (kk := []) (live := [0,2,3,6,7,8]) (env' := [(0,_),(2,_),(3,_),(6,_),(7,_),(8,_)]) (⟨nU rfl,rfl,⟨mU 3 rfl rfl,aU fun _ _ H K => R.subN (t) (15) (eU K 36 rfl) (kI 15 rfl) bU bU H,aU fun _ _ H K => R.idxP ((t - 15)) (K 2 _ rfl) (evoI (eU K 37 rfl)) rfl bU H,aU fun _ B H K => R.ldP (K 38 _ rfl) (B 2 _ rfl) (loc_arr (map_get! (l := (sched p t)) bU) loc_nil bU) rfl rfl rfl H,mU 3 rfl rfl,aU fun _ _ H K => R.subN (t) (2) (eU K 40 rfl) (kI 2 rfl) bU bU H,aU fun _ _ H K => R.idxP ((t - 2)) (K 2 _ rfl) (evoI (eU K 41 rfl)) rfl bU H,aU fun _ B H K => R.ldP (K 42 _ rfl) (B 2 _ rfl) (loc_arr (map_get! (l := (sched p t)) bU) loc_nil bU) rfl rfl rfl H,aU fun _ _ H K => R.asg (eU K 39 rfl) rfl H,aU fun _ _ H K => R.asg (eU K 43 rfl) rfl H,trivial⟩,rfl,rfl,rfl⟩) rfl (bx' := [(2,.var _)]) rfl (n' := 75) rfl (tV [(0,_),(2,_),(3,_),(6,_),(7,_),(8,_)] [(2,.var _)] 75 rfl rfl rfl ?_)
     refine W.draw (m := 29) (an := (0 :: 0 :: 2 :: 6 :: 14 :: 0 :: 32 :: 96 :: 224 :: 510 :: 0 :: 1024 :: 0 :: 7168 :: 15360 :: 0 :: 32768 :: 130048 :: 262142 :: 0 :: 539648 :: 0 :: 3685376 :: 7879680 :: 0 :: 16777216 :: 66599936 :: 134217726 :: 268435455 :: 536870911 :: [])) hP (by decide) rfl (its := (.y 44 _ :: .y 45 _ :: .y 46 _ :: .y 47 _ :: .y 48 _ :: .y 49 _ :: .y 50 _ :: .y 51 _ :: .y 52 _ :: .y 53 _ :: .y 54 _ :: .y 55 _ :: .y 56 _ :: .y 57 _ :: .y 58 _ :: .y 59 _ :: .y 60 _ :: .y 61 _ :: .y 62 _ :: .y 63 _ :: .y 64 _ :: .y 65 _ :: .y 66 _ :: .y 67 _ :: .y 68 _ :: .y 69 _ :: .y 70 _ :: .y 71 _ :: .y 72 _ :: [])) (ks := []) (kk := []) (live := [0,2,8,71,72]) (env' := [(0,_),(2,_),(8,_),(71,_),(72,_)]) (⟨nU rfl,rfl,⟨mU 3 rfl rfl,mU 3 rfl rfl,aU fun _ _ H K => R.subN (t) (16) (eU K 45 rfl) (kI 16 rfl) bU bU H,aU fun _ _ H K => R.idxP ((t - 16)) (K 2 _ rfl) (evoI (eU K 46 rfl)) rfl bU H,aU fun _ B H K => R.ldP (K 47 _ rfl) (B 2 _ rfl) (loc_arr (map_get! (l := (sched p t)) bU) loc_nil bU) rfl rfl rfl H,mU 3 rfl rfl,aU fun _ _ H K => R.subN (t) (7) (eU K 49 rfl) (kI 7 rfl) bU bU H,aU fun _ _ H K => R.idxP ((t - 7)) (K 2 _ rfl) (evoI (eU K 50 rfl)) rfl bU H,aU fun _ B H K => R.ldP (K 51 _ rfl) (B 2 _ rfl) (loc_arr (map_get! (l := (sched p t)) bU) loc_nil bU) rfl rfl rfl H,aU fun _ _ H K => R.bin (eU K 48 rfl) (eU K 52 rfl) rfl trivial H,mU 6 rfl rfl,aU fun _ _ H K => R.callG hC (right_ok _ _) (Bors.cons (Bor.pur (eU K 54 rfl) rfl rfl) (Bors.cons (Bor.pur (kI 7 rfl) rfl rfl) Bors.nil)) (FrsR.one (.u32 _)) H,mU 6 rfl rfl,aU fun _ _ H K => R.callG hC (right_ok _ _) (Bors.cons (Bor.pur (eU K 56 rfl) rfl rfl) (Bors.cons (Bor.pur (kI 18 rfl) rfl rfl) Bors.nil)) (FrsR.one (.u32 _)) H,aU fun _ _ H K => R.bin (eU K 55 rfl) (eU K 57 rfl) rfl trivial H,mU 6 rfl rfl,aU fun _ _ H K => R.bin (eU K 59 rfl) (show ev _ _ (.const (.int .u64 3)) = some (.u64 3) from rfl) rfl bV H,aU fun _ _ H K => R.bin (eU K 58 rfl) (eU K 60 rfl) rfl trivial H,aU fun _ _ H K => R.bin (eU K 53 rfl) (eU K 61 rfl) rfl trivial H,mU 7 rfl rfl,aU fun _ _ H K => R.callG hC (right_ok _ _) (Bors.cons (Bor.pur (eU K 63 rfl) rfl rfl) (Bors.cons (Bor.pur (kI 17 rfl) rfl rfl) Bors.nil)) (FrsR.one (.u32 _)) H,mU 7 rfl rfl,aU fun _ _ H K => R.callG hC (right_ok _ _) (Bors.cons (Bor.pur (eU K 65 rfl) rfl rfl) (Bors.cons (Bor.pur (kI 19 rfl) rfl rfl) Bors.nil)) (FrsR.one (.u32 _)) H,aU fun _ _ H K => R.bin (eU K 64 rfl) (eU K 66 rfl) rfl trivial H,mU 7 rfl rfl,aU fun _ _ H K => R.bin (eU K 68 rfl) (show ev _ _ (.const (.int .u64 10)) = some (.u64 10) from rfl) rfl bV H,aU fun _ _ H K => R.bin (eU K 67 rfl) (eU K 69 rfl) rfl trivial H,aU fun _ _ H K => R.bin (eU K 62 rfl) (eU K 70 rfl) rfl trivial H,aU fun _ _ H K => R.idxP (t) (K 2 _ rfl) (evoI (eU K 44 rfl)) rfl bU H,trivial⟩,rfl,rfl,rfl⟩) rfl (bx' := [(2,.var _)]) rfl (n' := 75) rfl (⟨rfl,_,R.stZ (gU 72 rfl) (xU 2 rfl) (loc_arr (map_get! (l := (sched p t)) bU) loc_nil bU) (gV 71 rfl) (by rfl) (by rfl) (by rfl) (by rfl) (upd_arr (map_get! (l := (sched p t)) bU) upd_nil set_map),tV [(0,_),(2,_),(8,_)] [(2,.var _)] 75 rfl rfl rfl ?_⟩)
     refine W.l0 2 [.y 73 _,.y 8 _] [] [] [(0,_),(2,_),(8,_)] [(2,.var _)] 75 ⟨aU fun _ _ H K => R.addN (t) (1) (eU K 8 rfl) (kI 1 rfl) bU H,mU 73 rfl rfl,trivial⟩ rfl rfl rfl rfl (tU rfl ?_)
     exact ⟨⟨(t + 1),bU⟩,(by simp only [sched]; first | rw [if_pos hc12] | (rw [if_neg hc12]; rfl)),(by simp only []; omega)⟩
 · obtain rfl : t = 64 := by omega
   refine W.exit ?_
   refine W.seq ?_
   refine W.l0 2 [.y 74 _] [] [] [(2,_),(74,_)] [(2,.var _)] 75 ⟨aU (lU 2 rfl rfl rfl rfl rfl rfl rfl),trivial⟩ rfl rfl rfl rfl (⟨rfl,_,R.stZ (gU 2 rfl) (xU 2 rfl) rfl (gV 74 rfl) (by rfl) (by rfl) (by rfl) (by rfl) rfl,tV [(2,_)] [(2,.var _)] 75 rfl rfl rfl ?_⟩)
   refine W.ret ?_
   exact Ends.one' (.inr rfl) rfl (rfl) rfl rfl (show LdT _ 110 64 true from inferInstance)

theorem with_ok (h : List UInt32) (p : List UInt8) (hh : h.length = 8) (hp : p.length = 64) : Fn Tryd.prog gl 60 [.arr 8 1 (h.map D.u32),.rp (.arr 64 1 (p.map D.u8))] (.arr 8 1 ((comp h p).map D.u32)) := by
 refine Fn.of (n := 119) Tryd.func60 rfl rfl rfl (nU rfl) fun C hC hD => ?_
 refine W.seq ?_
 refine W.l0 2 [] [] [] [(0,_),(1,_)] [] 119 trivial rfl rfl rfl rfl (⟨rfl,_,R.box (gV 0 rfl) rfl rfl (nU rfl),⟨rfl,_,R.alloc rfl (nU rfl),tV [(1,_),(2,_),(4,_)] [(4,.var _),(2,.var _)] 119 rfl rfl rfl ?_⟩⟩)
 refine W.seq ?_
 refine W.draw (m := 24) (an := [0,1,0,4,0,16,0,64,0,256,0,1024,0,4096,0,16384,3,65551,196671,459007,984063,2035711,4145151,8388607]) hP (by decide) rfl (its := [.y 20 _,.y 21 _,.y 22 _,.y 23 _,.y 24 _,.y 25 _,.y 26 _,.y 27 _,.y 28 _,.y 29 _,.y 30 _,.y 31 _,.y 32 _,.y 33 _,.y 34 _,.y 35 _,.y 5 _,.y 6 _,.y 7 _,.y 8 _,.y 9 _,.y 10 _,.y 11 _,.y 12 _]) (ks := []) (kk := []) (live := [1,2,4,5,6,7,8,9,10,11,12]) (env' := [(1,_),(2,_),(4,_),(5,_),(6,_),(7,_),(8,_),(9,_),(10,_),(11,_),(12,_)]) (⟨nU rfl,rfl,⟨aU fun _ _ H K => R.idxP (0) (K 2 _ rfl) (evoI (kI 0 rfl)) rfl bU H,aU fun _ B H K => R.ldP (K 20 _ rfl) (B 2 _ rfl) (loc_arr (map_get! (l := h) bU) loc_nil bU) rfl rfl rfl H,aU fun _ _ H K => R.idxP (1) (K 2 _ rfl) (evoI (kI 1 rfl)) rfl bU H,aU fun _ B H K => R.ldP (K 22 _ rfl) (B 2 _ rfl) (loc_arr (map_get! (l := h) bU) loc_nil bU) rfl rfl rfl H,aU fun _ _ H K => R.idxP (2) (K 2 _ rfl) (evoI (kI 2 rfl)) rfl bU H,aU fun _ B H K => R.ldP (K 24 _ rfl) (B 2 _ rfl) (loc_arr (map_get! (l := h) bU) loc_nil bU) rfl rfl rfl H,aU fun _ _ H K => R.idxP (3) (K 2 _ rfl) (evoI (kI 3 rfl)) rfl bU H,aU fun _ B H K => R.ldP (K 26 _ rfl) (B 2 _ rfl) (loc_arr (map_get! (l := h) bU) loc_nil bU) rfl rfl rfl H,aU fun _ _ H K => R.idxP (4) (K 2 _ rfl) (evoI (kI 4 rfl)) rfl bU H,aU fun _ B H K => R.ldP (K 28 _ rfl) (B 2 _ rfl) (loc_arr (map_get! (l := h) bU) loc_nil bU) rfl rfl rfl H,aU fun _ _ H K => R.idxP (5) (K 2 _ rfl) (evoI (kI 5 rfl)) rfl bU H,aU fun _ B H K => R.ldP (K 30 _ rfl) (B 2 _ rfl) (loc_arr (map_get! (l := h) bU) loc_nil bU) rfl rfl rfl H,aU fun _ _ H K => R.idxP (6) (K 2 _ rfl) (evoI (kI 6 rfl)) rfl bU H,aU fun _ B H K => R.ldP (K 32 _ rfl) (B 2 _ rfl) (loc_arr (map_get! (l := h) bU) loc_nil bU) rfl rfl rfl H,aU fun _ _ H K => R.idxP (7) (K 2 _ rfl) (evoI (kI 7 rfl)) rfl bU H,aU fun _ B H K => R.ldP (K 34 _ rfl) (B 2 _ rfl) (loc_arr (map_get! (l := h) bU) loc_nil bU) rfl rfl rfl H,aU fun _ _ H K => R.asg (eU K 21 rfl) rfl H,aU fun _ _ H K => R.asg (eU K 23 rfl) rfl H,aU fun _ _ H K => R.asg (eU K 25 rfl) rfl H,aU fun _ _ H K => R.asg (eU K 27 rfl) rfl H,aU fun _ _ H K => R.asg (eU K 29 rfl) rfl H,aU fun _ _ H K => R.asg (eU K 31 rfl) rfl H,aU fun _ _ H K => R.asg (eU K 33 rfl) rfl H,aU fun _ _ H K => R.asg (eU K 35 rfl) rfl H,trivial⟩,rfl,rfl,rfl⟩) rfl (bx' := [(4,.var _),(2,.var _)]) rfl (n' := 119) rfl (tV [(1,_),(2,_),(4,_),(5,_),(6,_),(7,_),(8,_),(9,_),(10,_),(11,_),(12,_)] [(4,.var _),(2,.var _)] 119 rfl rfl rfl ?_)
 refine W.seq ?_
 refine W.l0 4 [.y 36 _,.y 37 _] [] [] [(2,_),(4,_),(5,_),(6,_),(7,_),(8,_),(9,_),(10,_),(11,_),(12,_),(37,_)] [(4,.var _),(2,.var _)] 119 ⟨mU 1 rfl rfl,aU fun _ _ H K => R.callG hC (sched_ok _ hp) (Bors.cons (Bor.pur (eU K 36 rfl) rfl rfl) Bors.nil) (FrsR.one (.arr _ _ _ (frs_map fun _ => .u32 _))) H,trivial⟩ rfl rfl rfl rfl (⟨rfl,_,R.alloc rfl (nU rfl),⟨rfl,_,R.stZ (gU 13 rfl) (xU 13 rfl) rfl (gV 37 rfl) (by rfl) (by rfl) (by rfl) (by rfl) rfl,tV [(2,_),(4,_),(5,_),(6,_),(7,_),(8,_),(9,_),(10,_),(11,_),(12,_),(13,_)] [(13,.var _),(4,.var _),(2,.var _)] 119 rfl rfl rfl ?_⟩⟩)
 refine W.seq ?_
 refine W.seq ?_
 refine W.l0 2 [.y 38 _,.y 39 _] [] [] [(2,_),(4,_),(5,_),(6,_),(7,_),(8,_),(9,_),(10,_),(11,_),(12,_),(13,_),(38,_),(39,_)] [(13,.var _),(4,.var _),(2,.var _)] 119 ⟨aU fun _ _ H _ => R.ldR (evg hC rfl) rfl rfl rfl H,aU fun _ _ H _ => R.mov (kI 0 rfl) rfl H,trivial⟩ rfl rfl rfl rfl (tU rfl ?_)
 refine W.block ?_
 refine W.loop (α := {q__ : Nat // q__ ≤ 64}) (fun q__ => ⟨119,[(2,.ptr 2 0 []),(4,.ptr 4 0 []),(5,.u32 (rds h (sched p 64) q__.1).a),(6,.u32 (rds h (sched p 64) q__.1).b),(7,.u32 (rds h (sched p 64) q__.1).c),(8,.u32 (rds h (sched p 64) q__.1).d),(9,.u32 (rds h (sched p 64) q__.1).e),(10,.u32 (rds h (sched p 64) q__.1).f),(11,.u32 (rds h (sched p 64) q__.1).g),(12,.u32 (rds h (sched p 64) q__.1).l),(13,.ptr 13 0 []),(38,.arr 64 1 (kTab.map D.u32)),(39,.int ((q__.1 : Nat) : Int))],[(13,.var (.arr 64 1 ((sched p 64).map D.u32))),(4,.var (.arr 8 1 ((List.replicate 8 0).map D.u32))),(2,.var (.arr 8 1 (h.map D.u32)))]⟩) (fun q__ => 64 - q__.1) ⟨(0),bU⟩ rfl ?_
 rintro ⟨t,htl⟩
 show W _ _ _ _ ⟨119,[(2,.ptr 2 0 []),(4,.ptr 4 0 []),(5,.u32 (rds h (sched p 64) t).a),(6,.u32 (rds h (sched p 64) t).b),(7,.u32 (rds h (sched p 64) t).c),(8,.u32 (rds h (sched p 64) t).d),(9,.u32 (rds h (sched p 64) t).e),(10,.u32 (rds h (sched p 64) t).f),(11,.u32 (rds h (sched p 64) t).g),(12,.u32 (rds h (sched p 64) t).l),(13,.ptr 13 0 []),(38,.arr 64 1 (kTab.map D.u32)),(39,.int ((t : Nat) : Int))],[(13,.var (.arr 64 1 ((sched p 64).map D.u32))),(4,.var (.arr 8 1 ((List.replicate 8 0).map D.u32))),(2,.var (.arr 8 1 (h.map D.u32)))]⟩
 have hsl := sched_len p 64
 have hkl : kTab.length = 64 := rfl
 refine W.seq ?_
 refine W.l0 1 [.y 40 _] [] [] [(2,_),(4,_),(5,_),(6,_),(7,_),(8,_),(9,_),(10,_),(11,_),(12,_),(13,_),(38,_),(39,_),(40,_)] [(13,.var _),(4,.var _),(2,.var _)] 119 ⟨aU fun _ _ H K => R.lssN (t) (64) (eU K 39 rfl) (kI 64 rfl) H,trivial⟩ rfl rfl rfl rfl (tU rfl ?_)
 refine W.seq ?_
 refine W.condD rfl (fun hc40 => ?_) (fun hc40 => ?_)
 · refine W.skip ?_
   refine W.seq ?_
   refine W.block ?_
   refine W.seq ?_
   refine W.l0 4 [.y 41 _,.y 42 _,.y 14 _,.y 15 _] [] [] [(2,_),(4,_),(5,_),(6,_),(7,_),(8,_),(9,_),(10,_),(11,_),(12,_),(13,_),(14,_),(15,_),(38,_),(39,_)] [(13,.var _),(4,.var _),(2,.var _)] 119 ⟨mU 39 rfl rfl,aU fun _ _ H K => R.ixA (t) (eU K 38 rfl) (evoI (eU K 39 rfl)) rfl (map_get! (l := kTab) bU) rfl rfl rfl H,aU fun _ _ H K => R.asg (eU K 41 rfl) rfl H,aU fun _ _ H K => R.asg (eU K 42 rfl) rfl H,trivial⟩ rfl rfl rfl rfl (tU rfl ?_)
   refine W.seq ?_
   refine W.draw (m := 25) (an := (0 :: 0 :: 2 :: 0 :: 14 :: 30 :: 0 :: 94 :: 254 :: 511 :: 0 :: 0 :: 0 :: 0 :: 12288 :: 30720 :: 64512 :: 131071 :: 0 :: 524287 :: 0 :: 1048576 :: 3145728 :: 8388607 :: 16777215 :: [])) hP (by decide) rfl (its := (.y 43 _ :: .y 44 _ :: .y 45 _ :: .y 46 _ :: .y 47 _ :: .y 48 _ :: .y 49 _ :: .y 50 _ :: .y 51 _ :: .y 52 _ :: .y 53 _ :: .y 54 _ :: .y 55 _ :: .y 56 _ :: .y 57 _ :: .y 58 _ :: .y 59 _ :: .y 60 _ :: .y 61 _ :: .y 62 _ :: .y 63 _ :: .y 64 _ :: .y 65 _ :: .y 66 _ :: .y 16 _ :: [])) (ks := []) (kk := []) (live := [2,4,5,6,7,8,9,10,11,13,16,38,39]) (env' := [(2,_),(4,_),(5,_),(6,_),(7,_),(8,_),(9,_),(10,_),(11,_),(13,_),(16,_),(38,_),(39,_)]) (⟨nU rfl,rfl,⟨mU 12 rfl rfl,mU 9 rfl rfl,aU fun _ _ H K => R.callG hC (right_ok _ _) (Bors.cons (Bor.pur (eU K 44 rfl) rfl rfl) (Bors.cons (Bor.pur (kI 6 rfl) rfl rfl) Bors.nil)) (FrsR.one (.u32 _)) H,mU 9 rfl rfl,aU fun _ _ H K => R.callG hC (right_ok _ _) (Bors.cons (Bor.pur (eU K 46 rfl) rfl rfl) (Bors.cons (Bor.pur (kI 11 rfl) rfl rfl) Bors.nil)) (FrsR.one (.u32 _)) H,aU fun _ _ H K => R.bin (eU K 45 rfl) (eU K 47 rfl) rfl trivial H,mU 9 rfl rfl,aU fun _ _ H K => R.callG hC (right_ok _ _) (Bors.cons (Bor.pur (eU K 49 rfl) rfl rfl) (Bors.cons (Bor.pur (kI 25 rfl) rfl rfl) Bors.nil)) (FrsR.one (.u32 _)) H,aU fun _ _ H K => R.bin (eU K 48 rfl) (eU K 50 rfl) rfl trivial H,aU fun _ _ H K => R.bin (eU K 43 rfl) (eU K 51 rfl) rfl trivial H,mU 11 rfl rfl,mU 9 rfl rfl,mU 10 rfl rfl,mU 11 rfl rfl,aU fun _ _ H K => R.bin (eU K 55 rfl) (eU K 56 rfl) rfl trivial H,aU fun _ _ H K => R.bin (eU K 54 rfl) (eU K 57 rfl) rfl trivial H,aU fun _ _ H K => R.bin (eU K 53 rfl) (eU K 58 rfl) rfl trivial H,aU fun _ _ H K => R.bin (eU K 52 rfl) (eU K 59 rfl) rfl trivial H,mU 15 rfl rfl,aU fun _ _ H K => R.bin (eU K 60 rfl) (eU K 61 rfl) rfl trivial H,mU 14 rfl rfl,aU fun _ _ H K => R.idxP (t) (K 13 _ rfl) (evoI (eU K 63 rfl)) rfl bU H,aU fun _ B H K => R.ldP (K 64 _ rfl) (B 13 _ rfl) (loc_arr (map_get! (l := (sched p 64)) bU) loc_nil bU) rfl rfl rfl H,aU fun _ _ H K => R.bin (eU K 62 rfl) (eU K 65 rfl) rfl trivial H,aU fun _ _ H K => R.asg (eU K 66 rfl) rfl H,trivial⟩,rfl,rfl,rfl⟩) rfl (bx' := [(13,.var _),(4,.var _),(2,.var _)]) rfl (n' := 119) rfl (tV [(2,_),(4,_),(5,_),(6,_),(7,_),(8,_),(9,_),(10,_),(11,_),(13,_),(16,_),(38,_),(39,_)] [(13,.var _),(4,.var _),(2,.var _)] 119 rfl rfl rfl ?_)
   refine W.seq ?_
   refine W.l0 19 [.y 67 _,.y 68 _,.y 69 _,.y 70 _,.y 71 _,.y 72 _,.y 73 _,.y 74 _,.y 75 _,.y 76 _,.y 77 _,.y 78 _,.y 79 _,.y 80 _,.y 81 _,.y 82 _,.y 83 _,.y 84 _,.y 17 _] [] [] [(2,_),(4,_),(5,_),(6,_),(7,_),(8,_),(9,_),(10,_),(11,_),(13,_),(16,_),(17,_),(38,_),(39,_)] [(13,.var _),(4,.var _),(2,.var _)] 119 ⟨mU 5 rfl rfl,aU fun _ _ H K => R.callG hC (right_ok _ _) (Bors.cons (Bor.pur (eU K 67 rfl) rfl rfl) (Bors.cons (Bor.pur (kI 2 rfl) rfl rfl) Bors.nil)) (FrsR.one (.u32 _)) H,mU 5 rfl rfl,aU fun _ _ H K => R.callG hC (right_ok _ _) (Bors.cons (Bor.pur (eU K 69 rfl) rfl rfl) (Bors.cons (Bor.pur (kI 13 rfl) rfl rfl) Bors.nil)) (FrsR.one (.u32 _)) H,aU fun _ _ H K => R.bin (eU K 68 rfl) (eU K 70 rfl) rfl trivial H,mU 5 rfl rfl,aU fun _ _ H K => R.callG hC (right_ok _ _) (Bors.cons (Bor.pur (eU K 72 rfl) rfl rfl) (Bors.cons (Bor.pur (kI 22 rfl) rfl rfl) Bors.nil)) (FrsR.one (.u32 _)) H,aU fun _ _ H K => R.bin (eU K 71 rfl) (eU K 73 rfl) rfl trivial H,mU 5 rfl rfl,mU 6 rfl rfl,aU fun _ _ H K => R.bin (eU K 75 rfl) (eU K 76 rfl) rfl trivial H,mU 7 rfl rfl,mU 5 rfl rfl,mU 6 rfl rfl,aU fun _ _ H K => R.bin (eU K 79 rfl) (eU K 80 rfl) rfl trivial H,aU fun _ _ H K => R.bin (eU K 78 rfl) (eU K 81 rfl) rfl trivial H,aU fun _ _ H K => R.bin (eU K 77 rfl) (eU K 82 rfl) rfl trivial H,aU fun _ _ H K => R.bin (eU K 74 rfl) (eU K 83 rfl) rfl trivial H,aU fun _ _ H K => R.asg (eU K 84 rfl) rfl H,trivial⟩ rfl rfl rfl rfl (tU rfl ?_)
   refine W.l0 20 [.y 85 _,.y 86 _,.y 87 _,.y 88 _,.y 89 _,.y 90 _,.y 91 _,.y 92 _,.y 93 _,.y 94 _,.y 95 _,.y 96 _,.y 12 _,.y 11 _,.y 10 _,.y 9 _,.y 8 _,.y 7 _,.y 6 _,.y 5 _] [] [] [(2,_),(4,_),(5,_),(6,_),(7,_),(8,_),(9,_),(10,_),(11,_),(12,_),(13,_),(38,_),(39,_)] [(13,.var _),(4,.var _),(2,.var _)] 119 ⟨mU 11 rfl rfl,mU 10 rfl rfl,mU 9 rfl rfl,mU 8 rfl rfl,mU 16 rfl rfl,aU fun _ _ H K => R.bin (eU K 88 rfl) (eU K 89 rfl) rfl trivial H,mU 7 rfl rfl,mU 6 rfl rfl,mU 5 rfl rfl,mU 16 rfl rfl,mU 17 rfl rfl,aU fun _ _ H K => R.bin (eU K 94 rfl) (eU K 95 rfl) rfl trivial H,aU fun _ _ H K => R.asg (eU K 85 rfl) rfl H,aU fun _ _ H K => R.asg (eU K 86 rfl) rfl H,aU fun _ _ H K => R.asg (eU K 87 rfl) rfl H,aU fun _ _ H K => R.asg (eU K 90 rfl) rfl H,aU fun _ _ H K => R.asg (eU K 91 rfl) rfl H,aU fun _ _ H K => R.asg (eU K 92 rfl) rfl H,aU fun _ _ H K => R.asg (eU K 93 rfl) rfl H,aU fun _ _ H K => R.asg (eU K 96 rfl) rfl H,trivial⟩ rfl rfl rfl rfl (tU rfl ?_)
   refine W.l0 2 [.y 97 _,.y 39 _] [] [] [(2,_),(4,_),(5,_),(6,_),(7,_),(8,_),(9,_),(10,_),(11,_),(12,_),(13,_),(38,_),(39,_)] [(13,.var _),(4,.var _),(2,.var _)] 119 ⟨aU fun _ _ H K => R.addN (t) (1) (eU K 39 rfl) (kI 1 rfl) bU H,mU 97 rfl rfl,trivial⟩ rfl rfl rfl rfl (tU rfl ?_)
   exact ⟨⟨(t + 1),bU⟩,rfl,(by simp only []; omega)⟩
 · obtain rfl : t = 64 := by omega
   refine W.exit ?_
   refine W.seq ?_
   refine W.seq ?_
   refine W.l0 10 [.y 98 _,.y 99 _,.y 100 _,.y 101 _,.y 102 _,.y 103 _,.y 104 _,.y 105 _,.y 106 _,.y 107 _] [] [] [(2,_),(4,_),(106,_),(107,_)] [(13,.var _),(4,.var _),(2,.var _)] 119 ⟨mU 5 rfl rfl,mU 6 rfl rfl,mU 7 rfl rfl,mU 8 rfl rfl,mU 9 rfl rfl,mU 10 rfl rfl,mU 11 rfl rfl,mU 12 rfl rfl,aU fun _ _ H K => R.bldAE (z := 1) (.cons (eU K 98 rfl) (.cons (eU K 99 rfl) (.cons (eU K 100 rfl) (.cons (eU K 101 rfl) (.cons (eU K 102 rfl) (.cons (eU K 103 rfl) (.cons (eU K 104 rfl) (.cons (eU K 105 rfl) .nil)))))))) ⟨⟨rfl,rfl,rfl⟩,⟨rfl,rfl,rfl⟩,⟨rfl,rfl,rfl⟩,⟨rfl,rfl,rfl⟩,⟨rfl,rfl,rfl⟩,⟨rfl,rfl,rfl⟩,⟨rfl,rfl,rfl⟩,⟨rfl,rfl,rfl⟩,trivial⟩ rfl H,aU fun _ _ H _ => R.mov (kI 0 rfl) rfl H,trivial⟩ rfl rfl rfl rfl (tU rfl ?_)
   refine W.block ?_
   refine W.loop (α := {q__ : Nat // q__ ≤ 8}) (fun q__ => ⟨119,[(2,.ptr 2 0 []),(4,.ptr 4 0 []),(106,.arr 8 1 ((rds h (sched p 64) 64).list.map D.u32)),(107,.int ((q__.1 : Nat) : Int))],[(13,.var (.arr 64 1 ((sched p 64).map D.u32))),(4,.var (.arr 8 1 ((List.replicate 8 0).map D.u32))),(2,.var (.arr 8 1 ((addH h (rds h (sched p 64) 64).list q__.1).map D.u32)))]⟩) (fun q__ => 8 - q__.1) ⟨(0),bU⟩ rfl ?_
   rintro ⟨i,hil⟩
   show W _ _ _ _ ⟨119,[(2,.ptr 2 0 []),(4,.ptr 4 0 []),(106,.arr 8 1 ((rds h (sched p 64) 64).list.map D.u32)),(107,.int ((i : Nat) : Int))],[(13,.var (.arr 64 1 ((sched p 64).map D.u32))),(4,.var (.arr 8 1 ((List.replicate 8 0).map D.u32))),(2,.var (.arr 8 1 ((addH h (rds h (sched p 64) 64).list i).map D.u32)))]⟩
   have hll : (rds h (sched p 64) 64).list.length = 8 := rfl
   have hal := addH_len h (rds h (sched p 64) 64).list i
   refine W.seq ?_
   refine W.l0 1 [.y 108 _] [] [] [(2,_),(4,_),(106,_),(107,_),(108,_)] [(13,.var _),(4,.var _),(2,.var _)] 119 ⟨aU fun _ _ H K => R.lssN (i) (8) (eU K 107 rfl) (kI 8 rfl) H,trivial⟩ rfl rfl rfl rfl (tU rfl ?_)
   refine W.seq ?_
   refine W.condD rfl (fun hc108 => ?_) (fun hc108 => ?_)
   · refine W.skip ?_
     refine W.seq ?_
     refine W.block ?_
     refine W.seq ?_
     refine W.l0 4 [.y 109 _,.y 110 _,.y 18 _,.y 19 _] [] [] [(2,_),(4,_),(18,_),(19,_),(106,_),(107,_)] [(13,.var _),(4,.var _),(2,.var _)] 119 ⟨mU 107 rfl rfl,aU fun _ _ H K => R.ixA (i) (eU K 106 rfl) (evoI (eU K 107 rfl)) rfl (map_get! (l := (rds h (sched p 64) 64).list) bU) rfl rfl rfl H,aU fun _ _ H K => R.asg (eU K 109 rfl) rfl H,aU fun _ _ H K => R.asg (eU K 110 rfl) rfl H,trivial⟩ rfl rfl rfl rfl (tU rfl ?_)
     refine W.l0 7 [.y 111 _,.y 112 _,.y 113 _,.y 114 _,.y 115 _,.y 116 _] [] [] [(2,_),(4,_),(106,_),(107,_),(115,_),(116,_)] [(13,.var _),(4,.var _),(2,.var _)] 119 ⟨mU 18 rfl rfl,aU fun _ _ H K => R.idxP (i) (K 2 _ rfl) (evoI (eU K 111 rfl)) rfl bU H,aU fun _ B H K => R.ldP (K 112 _ rfl) (B 2 _ rfl) (loc_arr (map_get! (l := (addH h (rds h (sched p 64) 64).list i)) bU) loc_nil bU) rfl rfl rfl H,mU 19 rfl rfl,aU fun _ _ H K => R.bin (eU K 113 rfl) (eU K 114 rfl) rfl trivial H,aU fun _ _ H K => R.idxP (i) (K 2 _ rfl) (evoI (eU K 111 rfl)) rfl bU H,trivial⟩ rfl rfl rfl rfl (⟨rfl,_,R.stZ (gU 116 rfl) (xU 2 rfl) (loc_arr (map_get! (l := (addH h (rds h (sched p 64) 64).list i)) bU) loc_nil bU) (gV 115 rfl) (by rfl) (by rfl) (by rfl) (by rfl) (upd_arr (map_get! (l := (addH h (rds h (sched p 64) 64).list i)) bU) upd_nil set_map),tV [(2,_),(4,_),(106,_),(107,_)] [(13,.var _),(4,.var _),(2,.var _)] 119 rfl rfl rfl ?_⟩)
     refine W.l0 2 [.y 117 _,.y 107 _] [] [] [(2,_),(4,_),(106,_),(107,_)] [(13,.var _),(4,.var _),(2,.var _)] 119 ⟨aU fun _ _ H K => R.addN (i) (1) (eU K 107 rfl) (kI 1 rfl) bU H,mU 117 rfl rfl,trivial⟩ rfl rfl rfl rfl (tU rfl ?_)
     exact ⟨⟨(i + 1),bU⟩,rfl,(by simp only []; omega)⟩
   · obtain rfl : i = 8 := by omega
     refine W.exit ?_
     refine W.seq ?_
     refine W.l0 2 [.y 118 _] [] [] [(4,_),(118,_)] [(13,.var _),(4,.var _),(2,.var _)] 119 ⟨aU (lU 2 rfl rfl rfl rfl rfl rfl rfl),trivial⟩ rfl rfl rfl rfl (⟨rfl,_,R.stZ (gU 4 rfl) (xU 4 rfl) rfl (gV 118 rfl) (by rfl) (by rfl) (by rfl) (by rfl) rfl,tV [(4,_)] [(13,.var _),(4,.var _),(2,.var _)] 119 rfl rfl rfl ?_⟩)
     refine W.ret ?_
     exact Ends.one' (.inr rfl) rfl (rfl) rfl rfl (show LdT _ 96 8 true from inferInstance)

theorem add_ok (s : ShaS) (b : List UInt8) (hs : s.ok) (hb0 : b.length ≤ 1073741824) : Fn Tryd.prog gl 53 [stD s,.sl none 1 (b.map D.u8)] (stD (addS s b)) := by
 refine Fn.of (n := 39) Tryd.func53 rfl rfl rfl (nU rfl) fun C hC hD => ?_
 refine W.seq ?_
 refine W.l0 2 [] [] [] [(0,_),(1,_)] [] 39 trivial rfl rfl rfl rfl (⟨rfl,_,R.box (gV 0 rfl) rfl rfl (nU rfl),⟨rfl,_,R.alloc rfl (nU rfl),tV [(1,_),(2,_),(4,_)] [(4,.var _),(2,.var _)] 39 rfl rfl rfl ?_⟩⟩)
 refine W.seqM (fun s__ => ∃ q__ : {q__ : Unit // True},s__ = ⟨39,[(1,.sl none 1 (b.map D.u8)),(2,.ptr 2 0 []),(4,.ptr 4 0 [])],[(4,.var (stD ShaS.zero)),(2,.var (stD (bif s.begun then s else ShaS.start)))]⟩) ?_ ?_
 · refine W.seq ?_
   refine W.l0 3 [.y 6 _,.y 7 _,.y 8 _] [] [] [(1,_),(2,_),(4,_),(8,_)] [(4,.var _),(2,.var _)] 39 ⟨aU (fU 2 rfl rfl),aU (lU 6 rfl rfl rfl rfl rfl rfl rfl),aU fun _ _ H K => R.un (eU K 7 rfl) rfl H,trivial⟩ rfl rfl rfl rfl (tU rfl ?_)
   refine W.cond rfl (fun hc8 => ?_) (fun hc8 => ?_)
   · refine W.l0 2 [.y 9 _] [] [] [(1,_),(2,_),(4,_),(9,_)] [(4,.var _),(2,.var _)] 39 ⟨aU fun _ _ H _ => R.callG hC (begin_ok) Bors.nil (FrsR.one (frs_st _)) H,trivial⟩ rfl rfl rfl rfl (⟨rfl,_,R.stZ (gU 2 rfl) (xU 2 rfl) rfl (gV 9 rfl) (by rfl) (by rfl) (by rfl) (by rfl) rfl,tV [(1,_),(2,_),(4,_)] [(4,.var _),(2,.var _)] 39 rfl rfl rfl ?_⟩)
     exact ⟨⟨(()),trivial⟩,(by have h0 : s.begun = false := (by simpa using hc8); rw [h0]; rfl)⟩
   · refine W.dropS (live := [1,2,4]) (env' := [(1,_),(2,_),(4,_)]) (bx' := [(4,.var _),(2,.var _)]) (n' := 39) rfl rfl rfl ?_
     refine W.skip ?_
     exact ⟨⟨(()),trivial⟩,(by have h0 : s.begun = true := (by simpa using hc8); rw [h0]; rfl)⟩
 · rintro s__ ⟨⟨_,_⟩,rfl⟩
   have hs0 : (bif s.begun then s else ShaS.start).ok := by cases s.begun <;> first | exact hs | exact ShaS.start_ok
   refine W.seq ?_
   refine W.block ?_
   refine W.loop (α := {q__ : ShaS × List UInt8 // q__.1.ok ∧ q__.2.length ≤ b.length ∧ addW q__.1 q__.2 = addS s b}) (fun q__ => ⟨39,[(1,.sl none 1 (q__.1.2.map D.u8)),(2,.ptr 2 0 []),(4,.ptr 4 0 [])],[(4,.var (stD ShaS.zero)),(2,.var (stD q__.1.1))]⟩) (fun q__ => q__.1.2.length) ⟨((bif s.begun then s else ShaS.start),b),⟨hs0,Nat.le_refl _,rfl⟩⟩ rfl ?_
   rintro ⟨⟨u,c⟩,⟨hu,hcb,heq⟩⟩
   show W _ _ _ _ ⟨39,[(1,.sl none 1 (c.map D.u8)),(2,.ptr 2 0 []),(4,.ptr 4 0 [])],[(4,.var (stD ShaS.zero)),(2,.var (stD u))]⟩
   have hcb : c.length ≤ b.length := hcb
   have hm := mS_lt u
   have hkl := kS_le u c
   have hkr := kS_room u c
   have hpl := pieceS_len u c hu
   have hpp := hu.p
   refine W.seq ?_
   refine W.seq ?_
   refine W.l0 3 [.y 10 _,.y 11 _,.y 12 _] [] [] [(1,_),(2,_),(4,_),(12,_)] [(4,.var _),(2,.var _)] 39 ⟨mU 1 rfl rfl,aU fun _ _ H K => R.lenE (SC.sl (K 10 _ rfl)) (List.length_map _) H,aU fun _ _ H K => R.gtrN (c.length) (0) (eU K 11 rfl) (kI 0 rfl) H,trivial⟩ rfl rfl rfl rfl (tU rfl ?_)
   refine W.condD rfl (fun hc12 => ?_) (fun hc12 => ?_)
   · refine W.skip ?_
     refine W.block ?_
     refine W.seq ?_
     refine W.l0 8 [.y 13 _,.y 14 _,.y 15 _,.y 16 _,.y 17 _,.y 18 _] [] [] [(1,_),(2,_),(4,_),(17,_),(18,_)] [(4,.var _),(2,.var _)] 39 ⟨aU (fU 2 rfl rfl),aU (fU 2 rfl rfl),aU (lU 14 rfl rfl rfl rfl rfl rfl rfl),aU fun _ _ H K => R.bin (eU K 15 rfl) (show ev _ _ (.const (.int .u64 64)) = some (.u64 64) from rfl) rfl (by decide) H,aU fun _ B H K => R.slAN (mS u) (64) (64 - mS u) (K 13 _ rfl) (B 2 _ rfl) rfl (evo64 (eU K 16 rfl)) rfl rfl rfl (by omega) bU bU H,mU 1 rfl rfl,trivial⟩ rfl rfl rfl rfl (⟨rfl,_,R.cpAE (k := kS u c) (l2 := ((pieceS u c).map D.u8)) (gU 17 rfl) (xU 2 rfl) rfl (by omega) (SrcO.sc (SC.sl (gU 18 rfl)) (pur_map (fun _ => rfl))) (np_map (fun _ => rfl)) (nU rfl) (by simp only [List.length_map]; rfl) (by simp only [pieceS,List.map_append,List.map_take,List.map_drop]) rfl,⟨rfl,_,R.asg (gV 19 rfl) rfl (nU rfl),tV [(1,_),(2,_),(4,_),(5,_)] [(4,.var _),(2,.var _)] 39 rfl rfl rfl ?_⟩⟩)
     refine W.seq ?_
     refine W.l0 4 [.y 20 _,.y 21 _,.y 22 _,.y 1 _] [] [] [(1,_),(2,_),(4,_),(5,_)] [(4,.var _),(2,.var _)] 39 ⟨mU 1 rfl rfl,mU 5 rfl rfl,aU fun _ _ H K => R.slIN (kS u c) (c.length) ((c.length - kS u c)) (eU K 20 rfl) (evoI (eU K 21 rfl)) rfl rfl (by simp) (by omega) (by first | omega | simp) rfl (rest_map) H,aU fun _ _ H K => R.asg (eU K 22 rfl) rfl H,trivial⟩ rfl rfl rfl rfl (tU rfl ?_)
     refine W.seq ?_
     refine W.l0 7 [.y 23 _,.y 24 _,.y 25 _,.y 26 _,.y 27 _,.y 28 _] [] [] [(1,_),(2,_),(4,_),(27,_),(28,_)] [(4,.var _),(2,.var _)] 39 ⟨aU (fU 2 rfl rfl),aU (lU 23 rfl rfl rfl rfl rfl rfl rfl),mU 5 rfl rfl,aU fun _ _ H K => R.conv (eU K 25 rfl) rfl H,aU fun _ _ H K => R.bin (eU K 24 rfl) (eU K 26 rfl) rfl trivial H,aU (fU 2 rfl rfl),trivial⟩ rfl rfl rfl rfl (⟨rfl,_,R.stZ (gU 28 rfl) (xU 2 rfl) rfl (gV 27 rfl) (by rfl) (by rfl) (by rfl) (by rfl) rfl,tV [(1,_),(2,_),(4,_)] [(4,.var _),(2,.var _)] 39 rfl rfl rfl ?_⟩)
     refine W.seq ?_
     refine W.l0 4 [.y 29 _,.y 30 _,.y 31 _,.y 32 _] [] [] [(1,_),(2,_),(4,_),(32,_)] [(4,.var _),(2,.var _)] 39 ⟨aU (fU 2 rfl rfl),aU (lU 29 rfl rfl rfl rfl rfl rfl rfl),aU fun _ _ H K => R.bin (eU K 30 rfl) (show ev _ _ (.const (.int .u64 64)) = some (.u64 64) from rfl) rfl (by decide) H,aU fun _ _ H K => R.bin (eU K 31 rfl) (show ev _ _ (.const (.int .u64 0)) = some (.u64 0) from rfl) rfl trivial H,trivial⟩ rfl rfl rfl rfl (tU rfl ?_)
     refine W.cond rfl (fun hc32 => ?_) (fun hc32 => ?_)
     · refine W.l0 6 [.y 33 _,.y 34 _,.y 35 _,.y 36 _,.y 37 _] [] [] [(1,_),(2,_),(4,_),(36,_),(37,_)] [(4,.var _),(2,.var _)] 39 ⟨aU (fU 2 rfl rfl),aU (lU 33 rfl rfl rfl rfl rfl rfl rfl),aU (fU 2 rfl rfl),aU fun _ B H K => R.callG hC (with_ok _ _ hu.h hpl) (Bors.cons (Bor.pur (eU K 34 rfl) rfl rfl) (Bors.cons (Bor.ptr (K 35 _ rfl) (B 2 _ rfl) rfl (brw_arr (fun _ => rfl)) rfl) Bors.nil)) (FrsR.one (.arr _ _ _ (frs_map fun _ => .u32 _))) H,aU (fU 2 rfl rfl),trivial⟩ rfl rfl rfl rfl (⟨rfl,_,R.stZ (gU 37 rfl) (xU 2 rfl) rfl (gV 36 rfl) (by rfl) (by rfl) (by rfl) (by rfl) rfl,tV [(1,_),(2,_),(4,_)] [(4,.var _),(2,.var _)] 39 rfl rfl rfl ?_⟩)
       exact ⟨⟨(stepS u c,c.drop (kS u c)),⟨stepS_ok u c hu,by simp only [List.length_drop]; omega,by rw [← addW_step u c (by omega)]; exact heq⟩⟩,(by simp only [stepS]; first | (rw [show (nS u c % 64 == 0) = true from hc32]; rfl) | (rw [show (nS u c % 64 == 0) = false from hc32]; rfl)),(by have := kS_pos u c (by omega); show (c.drop (kS u c)).length < c.length; simp only [List.length_drop]; omega)⟩
     · refine W.dropS (live := [1,2,4]) (env' := [(1,_),(2,_),(4,_)]) (bx' := [(4,.var _),(2,.var _)]) (n' := 39) rfl rfl rfl ?_
       refine W.skip ?_
       exact ⟨⟨(stepS u c,c.drop (kS u c)),⟨stepS_ok u c hu,by simp only [List.length_drop]; omega,by rw [← addW_step u c (by omega)]; exact heq⟩⟩,(by simp only [stepS]; first | (rw [show (nS u c % 64 == 0) = true from hc32]; rfl) | (rw [show (nS u c % 64 == 0) = false from hc32]; rfl)),(by have := kS_pos u c (by omega); show (c.drop (kS u c)).length < c.length; simp only [List.length_drop]; omega)⟩
   · have hw := addW_nil u c (by omega)
     rw [hw] at heq
     refine W.exit ?_
     refine W.seq ?_
     refine W.l0 2 [.y 38 _] [] [] [(4,_),(38,_)] [(4,.var _),(2,.var _)] 39 ⟨aU (lU 2 rfl rfl rfl rfl rfl rfl rfl),trivial⟩ rfl rfl rfl rfl (⟨rfl,_,R.stZ (gU 4 rfl) (xU 4 rfl) rfl (gV 38 rfl) (by rfl) (by rfl) (by rfl) (by rfl) rfl,tV [(4,_)] [(4,.var _),(2,.var _)] 39 rfl rfl rfl ?_⟩)
     refine W.ret ?_
     exact Ends.one' (.inr rfl) rfl (congrArg stD heq) rfl rfl (show LdT _ 98 74 true from inferInstance)

theorem end_ok (s : ShaS) (hs : s.ok) : Fn Tryd.prog gl 54 [stD s] (hashD (endS s)) := by
 refine Fn.of (n := 54) Tryd.func54 rfl rfl rfl (nU rfl) fun C hC hD => ?_
 refine W.seq ?_
 refine W.l0 2 [] [] [] [(0,_)] [] 54 trivial rfl rfl rfl rfl (⟨rfl,_,R.box (gV 0 rfl) rfl rfl (nU rfl),⟨rfl,_,R.alloc rfl (nU rfl),tV [(1,_),(2,_)] [(2,.var _),(1,.var _)] 54 rfl rfl rfl ?_⟩⟩)
 refine W.seq ?_
 refine W.l0 4 [.y 8 _,.y 9 _,.y 10 _,.y 3 _] [] [] [(1,_),(2,_),(3,_)] [(2,.var _),(1,.var _)] 54 ⟨aU (fU 1 rfl rfl),aU (lU 8 rfl rfl rfl rfl rfl rfl rfl),aU fun _ _ H K => R.bin (eU K 9 rfl) (show ev _ _ (.const (.int .u64 8)) = some (.u64 8) from rfl) rfl trivial H,aU fun _ _ H K => R.asg (eU K 10 rfl) rfl H,trivial⟩ rfl rfl rfl rfl (tU rfl ?_)
 refine W.seq ?_
 refine W.l0 4 [.y 11 _,.y 12 _,.y 13 _] [] [] [(1,_),(2,_),(3,_),(13,_)] [(2,.var _),(1,.var _)] 54 ⟨aU (lU 1 rfl rfl rfl rfl rfl rfl rfl),aU fun _ _ H _ => R.bslE (z := 1) (.cons (show ev _ _ (.const (.int .u8 128)) = some (.u8 128) from rfl) .nil) ⟨⟨rfl,rfl,rfl⟩,trivial⟩ rfl H (by decide),aU fun _ _ H K => R.callG hC (add_ok s [128] hs (by decide)) (Bors.cons (Bor.pur (eU K 11 rfl) rfl rfl) (Bors.cons (Bor.sc (SC.sl (K 12 _ rfl)) rfl) Bors.nil)) (FrsR.one (frs_st _)) H,trivial⟩ rfl rfl rfl rfl (⟨rfl,_,R.stZ (gU 1 rfl) (xU 1 rfl) rfl (gV 13 rfl) (by rfl) (by rfl) (by rfl) (by rfl) rfl,tV [(1,_),(2,_),(3,_)] [(2,.var _),(1,.var _)] 54 rfl rfl rfl ?_⟩)
 refine W.seq ?_
 refine W.block ?_
 refine W.loop (α := {q__ : ShaS // q__.ok ∧ q__.begun = true ∧ padS (padN q__) q__ = pad2 s}) (fun q__ => ⟨54,[(1,.ptr 1 0 []),(2,.ptr 2 0 []),(3,.u64 (s.n * 8))],[(2,.var (hashD (List.replicate 32 0))),(1,.var (stD q__.1))]⟩) (fun q__ => padN q__.1) ⟨(pad1 s),⟨addS_ok s _ hs,addS_begun s _,rfl⟩⟩ rfl ?_
 rintro ⟨u,⟨hu,hub,heq⟩⟩
 show W _ _ _ _ ⟨54,[(1,.ptr 1 0 []),(2,.ptr 2 0 []),(3,.u64 (s.n * 8))],[(2,.var (hashD (List.replicate 32 0))),(1,.var (stD u))]⟩
 refine W.seq ?_
 refine W.seq ?_
 refine W.l0 4 [.y 14 _,.y 15 _,.y 16 _,.y 17 _] [] [] [(1,_),(2,_),(3,_),(17,_)] [(2,.var _),(1,.var _)] 54 ⟨aU (fU 1 rfl rfl),aU (lU 14 rfl rfl rfl rfl rfl rfl rfl),aU fun _ _ H K => R.bin (eU K 15 rfl) (show ev _ _ (.const (.int .u64 64)) = some (.u64 64) from rfl) rfl (by decide) H,aU fun _ _ H K => R.bin (eU K 16 rfl) (show ev _ _ (.const (.int .u64 56)) = some (.u64 56) from rfl) rfl trivial H,trivial⟩ rfl rfl rfl rfl (tU rfl ?_)
 refine W.cond rfl (fun hc17 => ?_) (fun hc17 => ?_)
 · refine W.skip ?_
   refine W.block ?_
   refine W.l0 4 [.y 18 _,.y 19 _,.y 20 _] [] [] [(1,_),(2,_),(3,_),(20,_)] [(2,.var _),(1,.var _)] 54 ⟨aU (lU 1 rfl rfl rfl rfl rfl rfl rfl),aU fun _ _ H _ => R.bslE (z := 1) (.cons (show ev _ _ (.const (.int .u8 0)) = some (.u8 0) from rfl) .nil) ⟨⟨rfl,rfl,rfl⟩,trivial⟩ rfl H (by decide),aU fun _ _ H K => R.callG hC (add_ok u [0] hu (by decide)) (Bors.cons (Bor.pur (eU K 18 rfl) rfl rfl) (Bors.cons (Bor.sc (SC.sl (K 19 _ rfl)) rfl) Bors.nil)) (FrsR.one (frs_st _)) H,trivial⟩ rfl rfl rfl rfl (⟨rfl,_,R.stZ (gU 1 rfl) (xU 1 rfl) rfl (gV 20 rfl) (by rfl) (by rfl) (by rfl) (by rfl) rfl,tV [(1,_),(2,_),(3,_)] [(2,.var _),(1,.var _)] 54 rfl rfl rfl ?_⟩)
   exact ⟨⟨(addS u [0]),⟨addS_ok u _ hu,addS_begun u _,by rw [pad_step u hub (mS_ne hc17)] at heq; exact heq⟩⟩,rfl,(by have := pad_less u hub (mS_ne hc17); simp only []; omega)⟩
 · have hp0 : padN u = 0 := pad_end u (mS_eq hc17)
   rw [hp0] at heq
   obtain rfl : u = pad2 s := heq
   have hs2 := hu
   refine W.exit ?_
   refine W.seq ?_
   refine W.l0 1 [] [] [] [(1,_),(2,_),(3,_)] [(2,.var _),(1,.var _)] 54 trivial rfl rfl rfl rfl (⟨rfl,_,R.alloc rfl (nU rfl),tV [(1,_),(2,_),(3,_),(4,_)] [(4,.var _),(2,.var _),(1,.var _)] 54 rfl rfl rfl ?_⟩)
   refine W.seq ?_
   refine W.seq ?_
   refine W.l0 1 [.y 21 _] [] [] [(1,_),(2,_),(3,_),(4,_),(21,_)] [(4,.var _),(2,.var _),(1,.var _)] 54 ⟨aU fun _ _ H _ => R.mov (kI 0 rfl) rfl H,trivial⟩ rfl rfl rfl rfl (tU rfl ?_)
   refine W.block ?_
   refine W.loop (α := {q__ : Nat // q__ ≤ 8}) (fun q__ => ⟨54,[(1,.ptr 1 0 []),(2,.ptr 2 0 []),(3,.u64 (s.n * 8)),(4,.ptr 4 0 []),(21,.int ((q__.1 : Nat) : Int))],[(4,.var (.arr 8 1 ((longB (s.n * 8) q__.1).map D.u8))),(2,.var (hashD (List.replicate 32 0))),(1,.var (stD (pad2 s)))]⟩) (fun q__ => 8 - q__.1) ⟨(0),bU⟩ rfl ?_
   rintro ⟨i,hil⟩
   show W _ _ _ _ ⟨54,[(1,.ptr 1 0 []),(2,.ptr 2 0 []),(3,.u64 (s.n * 8)),(4,.ptr 4 0 []),(21,.int ((i : Nat) : Int))],[(4,.var (.arr 8 1 ((longB (s.n * 8) i).map D.u8))),(2,.var (hashD (List.replicate 32 0))),(1,.var (stD (pad2 s)))]⟩
   have hll := longB_len (s.n * 8) i
   refine W.seq ?_
   refine W.l0 1 [.y 22 _] [] [] [(1,_),(2,_),(3,_),(4,_),(21,_),(22,_)] [(4,.var _),(2,.var _),(1,.var _)] 54 ⟨aU fun _ _ H K => R.lssN (i) (8) (eU K 21 rfl) (kI 8 rfl) H,trivial⟩ rfl rfl rfl rfl (tU rfl ?_)
   refine W.seq ?_
   refine W.condD rfl (fun hc22 => ?_) (fun hc22 => ?_)
   · refine W.skip ?_
     refine W.seq ?_
     refine W.block ?_
     refine W.seq ?_
     refine W.l0 2 [.y 23 _,.y 5 _] [] [] [(1,_),(2,_),(3,_),(4,_),(5,_),(21,_)] [(4,.var _),(2,.var _),(1,.var _)] 54 ⟨mU 21 rfl rfl,aU fun _ _ H K => R.asg (eU K 23 rfl) rfl H,trivial⟩ rfl rfl rfl rfl (tU rfl ?_)
     refine W.l0 9 [.y 24 _,.y 25 _,.y 26 _,.y 27 _,.y 28 _,.y 29 _,.y 30 _,.y 31 _] [] [] [(1,_),(2,_),(3,_),(4,_),(21,_),(30,_),(31,_)] [(4,.var _),(2,.var _),(1,.var _)] 54 ⟨mU 5 rfl rfl,mU 3 rfl rfl,mU 5 rfl rfl,aU fun _ _ H K => R.mulN (8) (i) (kI 8 rfl) (eU K 26 rfl) bU H,aU fun _ _ H K => R.subN (56) ((8 * i)) (kI 56 rfl) (eU K 27 rfl) bU bU H,aU fun _ _ H K => R.bin (eU K 25 rfl) (eU K 28 rfl) rfl (show (0 : Int) ≤ _ from Int.natCast_nonneg _) H,aU fun _ _ H K => R.conv (eU K 29 rfl) rfl H,aU fun _ _ H K => R.idxP (i) (K 4 _ rfl) (evoI (eU K 24 rfl)) rfl bU H,trivial⟩ rfl rfl rfl rfl (⟨rfl,_,R.stZ (gU 31 rfl) (xU 4 rfl) (loc_arr (map_get! (l := (longB (s.n * 8) i)) bU) loc_nil bU) (gV 30 rfl) (by rfl) (by rfl) (by rfl) (by rfl) (upd_arr (map_get! (l := (longB (s.n * 8) i)) bU) upd_nil set_map),tV [(1,_),(2,_),(3,_),(4,_),(21,_)] [(4,.var _),(2,.var _),(1,.var _)] 54 rfl rfl rfl ?_⟩)
     refine W.l0 2 [.y 32 _,.y 21 _] [] [] [(1,_),(2,_),(3,_),(4,_),(21,_)] [(4,.var _),(2,.var _),(1,.var _)] 54 ⟨aU fun _ _ H K => R.addN (i) (1) (eU K 21 rfl) (kI 1 rfl) bU H,mU 32 rfl rfl,trivial⟩ rfl rfl rfl rfl (tU rfl ?_)
     exact ⟨⟨(i + 1),bU⟩,rfl,(by simp only []; omega)⟩
   · obtain rfl : i = 8 := by omega
     refine W.exit ?_
     refine W.seq ?_
     refine W.draw (m := 3) (an := [0,0,3,7]) hP (by decide) rfl (its := [.y 33 _,.y 34 _,.y 35 _]) (ks := []) (kk := []) (live := [1,2,35]) (env' := [(1,_),(2,_),(35,_)]) (⟨nU rfl,rfl,⟨aU (lU 1 rfl rfl rfl rfl rfl rfl rfl),aU fun _ B H K => R.slAN (0) (8) (8) (K 4 _ rfl) (B 4 _ rfl) rfl rfl rfl rfl rfl bU bU rfl H,aU fun _ B H K => R.callG hC (add_ok _ _ hs2 (by simp [longB_len])) (Bors.cons (Bor.pur (eU K 33 rfl) rfl rfl) (Bors.cons (Bor.sc (SC.va (K 34 _ rfl) (B 4 _ rfl) rfl bU) (brw_all (fun _ => rfl) (longB_len _ _))) Bors.nil)) (FrsR.one (frs_st _)) H,trivial⟩,rfl,rfl,rfl⟩) rfl (bx' := [(4,.var _),(2,.var _),(1,.var _)]) rfl (n' := 54) rfl (⟨rfl,_,R.stZ (gU 1 rfl) (xU 1 rfl) rfl (gV 35 rfl) (by rfl) (by rfl) (by rfl) (by rfl) rfl,tV [(1,_),(2,_)] [(4,.var _),(2,.var _),(1,.var _)] 54 rfl rfl rfl ?_⟩)
     refine W.seq ?_
     refine W.l0 1 [] [] [] [(1,_),(2,_)] [(4,.var _),(2,.var _),(1,.var _)] 54 trivial rfl rfl rfl rfl (⟨rfl,_,R.alloc rfl (nU rfl),tV [(1,_),(2,_),(6,_)] [(6,.var _),(4,.var _),(2,.var _),(1,.var _)] 54 rfl rfl rfl ?_⟩)
     refine W.seq ?_
     refine W.seq ?_
     refine W.l0 1 [.y 36 _] [] [] [(1,_),(2,_),(6,_),(36,_)] [(6,.var _),(4,.var _),(2,.var _),(1,.var _)] 54 ⟨aU fun _ _ H _ => R.mov (kI 0 rfl) rfl H,trivial⟩ rfl rfl rfl rfl (tU rfl ?_)
     refine W.block ?_
     refine W.loop (α := {q__ : Nat // q__ ≤ 32}) (fun q__ => ⟨54,[(1,.ptr 1 0 []),(2,.ptr 2 0 []),(6,.ptr 6 0 []),(36,.int ((q__.1 : Nat) : Int))],[(6,.var (hashD (outB (pad3 s).h q__.1))),(4,.var (.arr 8 1 ((longB (s.n * 8) 8).map D.u8))),(2,.var (hashD (List.replicate 32 0))),(1,.var (stD (pad3 s)))]⟩) (fun q__ => 32 - q__.1) ⟨(0),bU⟩ rfl ?_
     rintro ⟨i,hil⟩
     show W _ _ _ _ ⟨54,[(1,.ptr 1 0 []),(2,.ptr 2 0 []),(6,.ptr 6 0 []),(36,.int ((i : Nat) : Int))],[(6,.var (hashD (outB (pad3 s).h i))),(4,.var (.arr 8 1 ((longB (s.n * 8) 8).map D.u8))),(2,.var (hashD (List.replicate 32 0))),(1,.var (stD (pad3 s)))]⟩
     have hol := outB_len (pad3 s).h i
     have h3 : (pad3 s).ok := addS_ok _ _ hs2
     have h3l := h3.h
     refine W.seq ?_
     refine W.l0 1 [.y 37 _] [] [] [(1,_),(2,_),(6,_),(36,_),(37,_)] [(6,.var _),(4,.var _),(2,.var _),(1,.var _)] 54 ⟨aU fun _ _ H K => R.lssN (i) (32) (eU K 36 rfl) (kI 32 rfl) H,trivial⟩ rfl rfl rfl rfl (tU rfl ?_)
     refine W.seq ?_
     refine W.condD rfl (fun hc37 => ?_) (fun hc37 => ?_)
     · refine W.skip ?_
       refine W.seq ?_
       refine W.block ?_
       refine W.seq ?_
       refine W.l0 2 [.y 38 _,.y 7 _] [] [] [(1,_),(2,_),(6,_),(7,_),(36,_)] [(6,.var _),(4,.var _),(2,.var _),(1,.var _)] 54 ⟨mU 36 rfl rfl,aU fun _ _ H K => R.asg (eU K 38 rfl) rfl H,trivial⟩ rfl rfl rfl rfl (tU rfl ?_)
       refine W.l0 14 [.y 39 _,.y 40 _,.y 41 _,.y 42 _,.y 43 _,.y 44 _,.y 45 _,.y 46 _,.y 47 _,.y 48 _,.y 49 _,.y 50 _,.y 51 _] [] [] [(1,_),(2,_),(6,_),(36,_),(50,_),(51,_)] [(6,.var _),(4,.var _),(2,.var _),(1,.var _)] 54 ⟨mU 7 rfl rfl,mU 7 rfl rfl,aU fun _ _ H K => R.quoN (i) (4) (eU K 40 rfl) (kI 4 rfl) bU bU H,aU (fU 1 rfl rfl),aU fun _ _ H K => R.idxP ((i / 4)) (K 42 _ rfl) (evoI (eU K 41 rfl)) rfl bU H,aU fun _ B H K => R.ldP (K 43 _ rfl) (B 1 _ rfl) (loc_agg (m := 1) rfl rfl (loc_arr (map_get! (l := (pad3 s).h) bU) loc_nil rfl) bU) rfl rfl rfl H,mU 7 rfl rfl,aU fun _ _ H K => R.remN (i) (4) (eU K 45 rfl) (kI 4 rfl) bU H,aU fun _ _ H K => R.mulN (8) ((i % 4)) (kI 8 rfl) (eU K 46 rfl) bU H,aU fun _ _ H K => R.subN (24) ((8 * (i % 4))) (kI 24 rfl) (eU K 47 rfl) bU bU H,aU fun _ _ H K => R.bin (eU K 44 rfl) (eU K 48 rfl) rfl (show (0 : Int) ≤ _ from Int.natCast_nonneg _) H,aU fun _ _ H K => R.conv (eU K 49 rfl) rfl H,aU fun _ _ H K => R.idxP (i) (K 6 _ rfl) (evoI (eU K 39 rfl)) rfl bU H,trivial⟩ rfl rfl rfl rfl (⟨rfl,_,R.stZ (gU 51 rfl) (xU 6 rfl) (loc_arr (map_get! (l := (outB (pad3 s).h i)) bU) loc_nil bU) (gV 50 rfl) (by rfl) (by rfl) (by rfl) (by rfl) (upd_arr (map_get! (l := (outB (pad3 s).h i)) bU) upd_nil set_map),tV [(1,_),(2,_),(6,_),(36,_)] [(6,.var _),(4,.var _),(2,.var _),(1,.var _)] 54 rfl rfl rfl ?_⟩)
       refine W.l0 2 [.y 52 _,.y 36 _] [] [] [(1,_),(2,_),(6,_),(36,_)] [(6,.var _),(4,.var _),(2,.var _),(1,.var _)] 54 ⟨aU fun _ _ H K => R.addN (i) (1) (eU K 36 rfl) (kI 1 rfl) bU H,mU 52 rfl rfl,trivial⟩ rfl rfl rfl rfl (tU rfl ?_)
       exact ⟨⟨(i + 1),bU⟩,rfl,(by simp only []; omega)⟩
     · obtain rfl : i = 32 := by omega
       refine W.exit ?_
       refine W.seq ?_
       refine W.l0 2 [.y 53 _] [] [] [(2,_),(53,_)] [(6,.var _),(4,.var _),(2,.var _),(1,.var _)] 54 ⟨aU (lU 6 rfl rfl rfl rfl rfl rfl rfl),trivial⟩ rfl rfl rfl rfl (⟨rfl,_,R.stZ (gU 2 rfl) (xU 2 rfl) rfl (gV 53 rfl) (by rfl) (by rfl) (by rfl) (by rfl) rfl,tV [(2,_)] [(6,.var _),(4,.var _),(2,.var _),(1,.var _)] 54 rfl rfl rfl ?_⟩)
       refine W.ret ?_
       exact Ends.one' (.inr rfl) rfl (rfl) rfl rfl (show LdT _ 38 32 true from inferInstance)

theorem sum_ok (b : List UInt8) (hb0 : b.length ≤ 1073741824) : Fn Tryd.prog gl 50 [.sl none 1 (b.map D.u8)] (hashD (sumS b)) := by
 refine Fn.of (n := 7) Tryd.func50 rfl rfl rfl (nU rfl) fun C hC hD => ?_
 refine W.seq ?_
 refine W.l0 1 [] [] [] [(0,_)] [] 7 trivial rfl rfl rfl rfl (⟨rfl,_,R.alloc rfl (nU rfl),tV [(0,_),(2,_)] [(2,.var _)] 7 rfl rfl rfl ?_⟩)
 refine W.seq ?_
 refine W.l0 5 [.y 3 _,.y 4 _,.y 5 _,.y 6 _] [] [] [(2,_),(6,_)] [(2,.var _)] 7 ⟨aU fun _ _ H _ => R.callG hC (begin_ok) Bors.nil (FrsR.one (frs_st _)) H,mU 0 rfl rfl,aU fun _ _ H K => R.callG hC (add_ok _ _ ShaS.start_ok hb0) (Bors.cons (Bor.pur (eU K 3 rfl) rfl rfl) (Bors.cons (Bor.pur (eU K 4 rfl) rfl rfl) Bors.nil)) (FrsR.one (frs_st _)) H,aU fun _ _ H K => R.callG hC (end_ok _ (addS_ok _ _ ShaS.start_ok)) (Bors.cons (Bor.pur (eU K 5 rfl) rfl rfl) Bors.nil) (FrsR.one (frs_hash _)) H,trivial⟩ rfl rfl rfl rfl (⟨rfl,_,R.stZ (gU 2 rfl) (xU 2 rfl) rfl (gV 6 rfl) (by rfl) (by rfl) (by rfl) (by rfl) rfl,tV [(2,_)] [(2,.var _)] 7 rfl rfl rfl ?_⟩)
 refine W.ret ?_
 exact Ends.one' (.inr rfl) rfl (rfl) rfl rfl (show LdT _ 38 32 true from inferInstance)

theorem twice_ok (b : List UInt8) (hb0 : b.length ≤ 1073741824) : Fn Tryd.prog gl 42 [.sl none 1 (b.map D.u8)] (hashD (twiceS b)) := by
 refine Fn.of (n := 8) Tryd.func42 rfl rfl rfl (nU rfl) fun C hC hD => ?_
 refine W.seq ?_
 refine W.l0 1 [] [] [] [(0,_)] [] 8 trivial rfl rfl rfl rfl (⟨rfl,_,R.alloc rfl (nU rfl),tV [(0,_),(2,_)] [(2,.var _)] 8 rfl rfl rfl ?_⟩)
 refine W.seq ?_
 refine W.l0 4 [.y 4 _,.y 5 _] [] [] [(2,_),(5,_)] [(2,.var _)] 8 ⟨mU 0 rfl rfl,aU fun _ _ H K => R.callG hC (sum_ok _ hb0) (Bors.cons (Bor.pur (eU K 4 rfl) rfl rfl) Bors.nil) (FrsR.one (frs_hash _)) H,trivial⟩ rfl rfl rfl rfl (⟨rfl,_,R.alloc rfl (nU rfl),⟨rfl,_,R.stZ (gU 3 rfl) (xU 3 rfl) rfl (gV 5 rfl) (by rfl) (by rfl) (by rfl) (by rfl) rfl,tV [(2,_),(3,_)] [(3,.var _),(2,.var _)] 8 rfl rfl rfl ?_⟩⟩)
 refine W.seq ?_
 refine W.l0 3 [.y 6 _,.y 7 _] [] [] [(2,_),(7,_)] [(3,.var _),(2,.var _)] 8 ⟨aU fun _ B H K => R.slAN (0) (32) (32) (K 3 _ rfl) (B 3 _ rfl) rfl rfl rfl rfl rfl bU bU rfl H,aU fun _ B H K => R.callG hC (sum_ok (sumS b) (by rw [sumS_len]; decide)) (Bors.cons (Bor.sc (SC.va (K 6 _ rfl) (B 3 _ rfl) rfl bU) (brw_all (fun _ => rfl) (sumS_len _))) Bors.nil) (FrsR.one (frs_hash _)) H,trivial⟩ rfl rfl rfl rfl (⟨rfl,_,R.stZ (gU 2 rfl) (xU 2 rfl) rfl (gV 7 rfl) (by rfl) (by rfl) (by rfl) (by rfl) rfl,tV [(2,_)] [(3,.var _),(2,.var _)] 8 rfl rfl rfl ?_⟩)
 refine W.ret ?_
 exact Ends.one' (.inr rfl) rfl (rfl) rfl rfl (show LdT _ 38 32 true from inferInstance)

end Go.Sx

namespace Go.Sx
open Go.Proofs
end Go.Sx

namespace Go.Sx

theorem or_comm32 (a b : UInt32) : a ||| b = b ||| a := by
 apply UInt32.toBitVec_inj.1
 simp [BitVec.or_comm]
theorem right_r (x : UInt32) : right x 2 = rright x 2 ∧ right x 13 = rright x 13 ∧ right x 22 = rright x 22 ∧ right x 6 = rright x 6 ∧ right x 11 = rright x 11 ∧ right x 25 = rright x 25 ∧
 right x 7 = rright x 7 ∧ right x 18 = rright x 18 ∧ right x 17 = rright x 17 ∧ right x 19 = rright x 19 := by
 refine ⟨?_, ?_, ?_, ?_, ?_, ?_, ?_, ?_, ?_, ?_⟩ <;> exact or_comm32 _ _
theorem ch_r (e f g : UInt32) : g ^^^ (e &&& (f ^^^ g)) = e &&& f ^^^ ~~~e &&& g := by
 apply UInt32.toBitVec_inj.1
 simp only [UInt32.toBitVec_xor,UInt32.toBitVec_and,UInt32.toBitVec_not]
 ext i hi
 simp only [BitVec.getElem_xor,BitVec.getElem_and,BitVec.getElem_not]
 cases e.toBitVec[i] <;> cases f.toBitVec[i] <;> cases g.toBitVec[i] <;> rfl
theorem maj_r (a b c : UInt32) : a &&& b ||| c &&& (a ||| b) = a &&& b ^^^ a &&& c ^^^ b &&& c := by
 apply UInt32.toBitVec_inj.1
 simp only [UInt32.toBitVec_xor,UInt32.toBitVec_and,UInt32.toBitVec_or]
 ext i hi
 simp only [BitVec.getElem_xor,BitVec.getElem_and,BitVec.getElem_or]
 cases a.toBitVec[i] <;> cases b.toBitVec[i] <;> cases c.toBitVec[i] <;> rfl

theorem get!_append {α : Type} [Inhabited α] {l r : List α} {i : Nat} (h : i < l.length) : (l ++ r)[i]! = l[i]! := by
 simp [List.getElem?_append_left h]
theorem get!_set_same {α : Type} [Inhabited α] {l : List α} {i : Nat} {v : α} (h : i < l.length) : (l.set i v)[i]! = v := by simp [h]

theorem next_r (w r : List UInt32) (t : Nat) (h : 16 ≤ t) (hw : w.length = t) : nextW (w ++ r) t = nextR w t := by
 unfold nextW nextR
 rw [get!_append (by omega),get!_append (by omega),get!_append (by omega),get!_append (by omega)]
 obtain ⟨_,_,_,_,_,_,h7,h18,_,_⟩ := right_r w[t - 15]!
 obtain ⟨_,_,_,_,_,_,_,_,h17,h19⟩ := right_r w[t - 2]!
 rw [h7,h18,h17,h19]
 generalize rright _ 7 ^^^ _ ^^^ _ = a
 generalize rright _ 17 ^^^ _ ^^^ _ = b
 generalize w[t - 16]! = c
 generalize w[t - 7]! = d
 apply UInt32.toBitVec_inj.1
 simp only [UInt32.toBitVec_add]
 ac_rfl

theorem shl_or (x y : UInt32) : shl_u32 (x ||| y) 8 = shl_u32 x 8 ||| shl_u32 y 8 := by
 apply UInt32.toBitVec_inj.1
 simp [shl_u32,BitVec.shiftLeft_or_distrib]
theorem shl_8_8 (x : UInt32) : shl_u32 (shl_u32 x 8) 8 = shl_u32 x 16 := by
 apply UInt32.toBitVec_inj.1
 simp [shl_u32,← BitVec.shiftLeft_add]
theorem shl_16_8 (x : UInt32) : shl_u32 (shl_u32 x 16) 8 = shl_u32 x 24 := by
 apply UInt32.toBitVec_inj.1
 simp [shl_u32,← BitVec.shiftLeft_add]
theorem sched_r (p : List UInt8) (t : Nat) (ht : t ≤ 64) : sched p t = wR p t ++ List.replicate (64 - t) 0 := by
 induction t with
 | zero => simp [sched,wR]
 | succ t ih =>
  have ih := ih (by omega)
  have hl := wR_len p t
  have hset : ∀ v : UInt32,(wR p t ++ List.replicate (64 - t) 0).set t v = wR p t ++ [v] ++ List.replicate (64 - (t + 1)) 0 := by
   intro v
   rw [List.set_append_right _ _ (by omega),hl,Nat.sub_self,show 64 - t = (64 - (t + 1)) + 1 by omega,List.replicate_succ,List.set_cons_zero]
   simp
  simp only [sched,wR]
  by_cases h : t < 16
  · rw [if_pos h,if_pos h,ih]
    have h0 : (wR p t ++ List.replicate (64 - t) 0)[t]! = 0 := by
     simp only [getElem!_def]
     rw [List.getElem?_append_right (by omega),hl,Nat.sub_self]
     simp [show 0 < 64 - t by omega]
    have hlen : ∀ l : List UInt32,l.length = 64 → t < l.length := fun l hl => by omega
    have e0 : (wR p t ++ List.replicate (64 - t) 0).length = 64 := by simp [hl]; omega
    have hins : inW p t (wR p t ++ List.replicate (64 - t) 0) 4 = (wR p t ++ List.replicate (64 - t) 0).set t (w4 p t) := by
     simp only [inW]
     simp only [List.set_set,get!_set_same (hlen _ e0),h0]
     congr 1
     unfold w4
     have hz : ∀ y : UInt32,shl_u32 0 8 ||| y = y := fun y => by
      apply UInt32.toBitVec_inj.1
      simp [shl_u32]
     simp only [hz,shl_or,shl_8_8,shl_16_8,Nat.add_zero]
    rw [hins,hset]
  · rw [if_neg h,if_neg h,ih,next_r _ _ _ (by omega) hl,hset]

theorem sched_64 (p : List UInt8) : sched p 64 = wR p 64 := by rw [sched_r p 64 (Nat.le_refl _)]; simp

theorem W8.list_get (v : W8) : v.list[0]! = v.a ∧ v.list[1]! = v.b ∧ v.list[2]! = v.c ∧ v.list[3]! = v.d ∧ v.list[4]! = v.e ∧ v.list[5]! = v.f ∧ v.list[6]! = v.g ∧ v.list[7]! = v.l := ⟨rfl,rfl,rfl,rfl,rfl,rfl,rfl,rfl⟩
theorem of_list (h : List UInt32) (hh : h.length = 8) : (W8.of h).list = h := by
 match h,hh with
 | [a,b,c,d,e,f,g,l],_ => rfl
theorem rnd_r (v : W8) (k w : UInt32) : (rnd v k w).list = rndR v.list k w := by
 obtain ⟨e0,e1,e2,e3,e4,e5,e6,e7⟩ := W8.list_get v
 unfold rndR oneR twoR
 simp only [e0,e1,e2,e3,e4,e5,e6,e7]
 obtain ⟨h2,h13,h22,_⟩ := right_r v.a
 obtain ⟨_,_,_,h6,h11,h25,_⟩ := right_r v.e
 simp only [rnd,W8.list,one,two,ch_r,maj_r,h2,h13,h22,h6,h11,h25]
theorem rds_r (h w : List UInt32) (hh : h.length = 8) (t : Nat) : (rds h w t).list = rdsR h w t := by
 induction t with
 | zero => exact of_list h hh
 | succ t ih => simp only [rds,rdsR,rnd_r,ih]
theorem comp_r (h : List UInt32) (p : List UInt8) (hh : h.length = 8) : comp h p = compR h p := by
 unfold comp compR
 rw [sched_64,rds_r _ _ hh]

theorem outB_r (h : List UInt32) (i : Nat) (hi : i ≤ 32) : outB h i = outR h i := by
 induction i with
 | zero => rfl
 | succ i ih =>
  simp only [outB,outR,ih (by omega)]
  have : (UInt64.ofInt ((24 - 8 * (i % 4) : Nat) : Int)).toNat = 24 - 8 * (i % 4) := by
   have h := ofInt_u64 ((24 - 8 * (i % 4) : Nat) : Int)
   omega
  rw [this]
theorem long_tail (n : UInt64) (i : Nat) (hi : i ≤ 8) : longB n i = tailR n i ++ List.replicate (8 - i) 0 := by
 induction i with
 | zero => simp [longB,tailR]
 | succ i ih =>
  simp only [longB,tailR,ih (by omega)]
  have hl := tailR_len n i
  rw [List.set_append_right _ _ (by omega),hl,Nat.sub_self,show 8 - i = (8 - (i + 1)) + 1 by omega,List.replicate_succ,List.set_cons_zero]
  have e : (UInt64.ofInt (wr (8 * (7 - ((i : Nat) : Int))))).toNat = 56 - 8 * i := by
   have h := ofInt_u64 (wr (8 * (7 - ((i : Nat) : Int))))
   have h2 : wr (8 * (7 - ((i : Nat) : Int))) = 8 * (7 - (i : Int)) := by unfold wr; rw [IntKind.wrap_i64]; omega
   rw [h2] at h
   rw [h2]
   omega
  rw [e]
  simp
theorem long_tail8 (n : UInt64) : longB n 8 = tailR n 8 := by rw [long_tail n 8 (Nat.le_refl _)]; simp

theorem hR_prefix (a b : List UInt8) (q : Nat) (h : 64 * q ≤ a.length) : hR (a ++ b) q = hR a q := by
 induction q with
 | zero => rfl
 | succ q ih =>
  simp only [hR,ih (by omega)]
  rw [List.drop_append_of_le_length (by omega),List.take_append_of_le_length (by simp; omega)]

structure Rep (s : ShaS) (b : List UInt8) : Prop where
 begun : s.begun = true
 n : s.n = UInt64.ofNat b.length
 h : s.h = hR b (b.length / 64)
 len : s.piece.length = 64
 piece : s.piece.take (b.length % 64) = b.drop (64 * (b.length / 64))

theorem Rep.mS {s : ShaS} {b : List UInt8} (h : Rep s b) : mS s = b.length % 64 := by
 unfold Go.Sx.mS
 rw [h.n,UInt64.toNat_mod,UInt64.toNat_ofNat']
 have : (64 : UInt64).toNat = 64 := rfl
 rw [this]; omega

theorem rep_start : Rep ShaS.start [] := ⟨rfl,rfl,rfl,by simp [ShaS.start],by simp⟩

theorem rep_step {s : ShaS} {b c : List UInt8} (h : Rep s b) (hc : c.length ≠ 0) : Rep (stepS s c) (b ++ c.take (kS s c)) := by
 have hm := h.mS
 have hk1 := kS_le s c
 have hk2 := kS_room s c
 have hk3 := kS_pos s c (by omega)
 have hmlt := mS_lt s
 generalize hk : kS s c = k at hk1 hk2 hk3
 have hb' : (b ++ c.take k).length = b.length + k := by simp; omega
 have hp : pieceS s c = b.drop (64 * (b.length / 64)) ++ c.take k ++ s.piece.drop (b.length % 64 + k) := by
  unfold pieceS; rw [hk,hm,h.piece]
 have hpl : (b.drop (64 * (b.length / 64))).length = b.length % 64 := by simp; omega
 have hn : nS s c = UInt64.ofNat (b.length + k) := by
  unfold nS
  rw [hk,h.n]
  apply UInt64.toNat_inj.1
  have h1 := ofInt_u64 ((k : Nat) : Int)
  simp only [UInt64.toNat_add,UInt64.toNat_ofNat']
  omega
 have hmod : (nS s c % 64 == 0) = decide ((b.length + k) % 64 = 0) := by
  rw [hn,Bool.eq_iff_iff,beq_iff_eq,decide_eq_true_eq,← UInt64.toNat_inj,UInt64.toNat_mod,UInt64.toNat_ofNat']
  have h1 : (64 : UInt64).toNat = 64 := rfl
  have h2 : (0 : UInt64).toNat = 0 := rfl
  rw [h1,h2]; omega
 have hlen : (pieceS s c).length = 64 := by
  rw [hp]; simp only [List.length_append,List.length_drop,List.length_take,h.len]; omega
 refine ⟨h.begun,by simp only [stepS,hn,hb'], ?_,hlen, ?_⟩
 · simp only [stepS,hmod,hb']
   by_cases hd : (b.length + k) % 64 = 0
   · simp only [hd,decide_true,cond_true]
     have hq : (b.length + k) / 64 = b.length / 64 + 1 := by omega
     have hmk : b.length % 64 + k = 64 := by omega
     rw [hq]
     simp only [hR]
     rw [hR_prefix b _ _ (by omega),h.h,comp_r _ _ (hR_len _ _)]
     congr 1
     have e1 : (b ++ c.take k).drop (64 * (b.length / 64)) = b.drop (64 * (b.length / 64)) ++ c.take k := List.drop_append_of_le_length (by omega)
     have e2 : s.piece.drop 64 = [] := List.drop_eq_nil_of_le (by rw [h.len]; exact Nat.le_refl _)
     rw [hp,hmk,e1,e2,List.append_nil]
     exact (List.take_of_length_le (by rw [List.length_append,hpl,List.length_take]; omega)).symm
   · simp only [hd,decide_false,cond_false]
     have hq : (b.length + k) / 64 = b.length / 64 := by omega
     rw [hq,hR_prefix b _ _ (by omega),h.h]
 · simp only [stepS,hb']
   by_cases hd : (b.length + k) % 64 = 0
   · rw [hd,List.take_zero,List.drop_eq_nil_of_le (by rw [hb']; omega)]
   · have hq : (b.length + k) / 64 = b.length / 64 := by omega
     have hr : (b.length + k) % 64 = b.length % 64 + k := by omega
     rw [hq,hr,hp,List.drop_append_of_le_length (by omega)]
     rw [List.take_append_of_le_length (by simp; omega),List.take_of_length_le (by simp; omega)]

theorem rep_addW {s : ShaS} {b c : List UInt8} (h : Rep s b) : Rep (addW s c) (b ++ c) := by
 induction hn : c.length using Nat.strongRecOn generalizing s b c with
 | _ n ih =>
  by_cases h0 : c.length = 0
  · rw [addW_nil _ _ h0,List.length_eq_zero_iff.1 h0,List.append_nil]; exact h
  · rw [addW_step _ _ h0]
    have hk := kS_pos s c (by omega)
    have := ih _ (by rw [← hn]; simp only [List.length_drop]; omega) (rep_step h h0) (c := c.drop (kS s c)) rfl
    rw [List.append_assoc,List.take_append_drop] at this
    exact this
theorem rep_addS {s : ShaS} {b c : List UInt8} (h : Rep s b) : Rep (addS s c) (b ++ c) := by
 unfold addS; rw [h.begun]; exact rep_addW h
theorem rep_padS {s : ShaS} {b : List UInt8} (h : Rep s b) (k : Nat) : Rep (padS k s) (b ++ List.replicate k 0) := by
 induction k generalizing s b with
 | zero => simpa [padS] using h
 | succ k ih =>
  have := ih (rep_addS (c := [0]) h)
  rw [List.append_assoc] at this
  simpa [padS,List.replicate_succ] using this
theorem end_r {s : ShaS} {b : List UInt8} (h : Rep s b) : endS s = sumR b := by
 have h1 : Rep (pad1 s) (b ++ [128]) := rep_addS h
 have hz : padN (pad1 s) = zR b := by
  unfold padN zR
  rw [h1.mS]
  simp only [List.length_append,List.length_singleton]
  omega
 have h2 : Rep (pad2 s) (b ++ [128] ++ List.replicate (zR b) 0) := by
  unfold pad2; rw [hz]; exact rep_padS h1 _
 have hn : s.n * 8 = bitsR b := by
  rw [h.n]; unfold bitsR
  congr 1
  apply UInt64.toNat_inj.1
  have := ofInt_u64 ((b.length : Nat) : Int)
  rw [UInt64.toNat_ofNat']
  omega
 have h3 : Rep (pad3 s) (textR b) := by
  unfold pad3 textR
  rw [long_tail8,hn]
  exact rep_addS h2
 unfold endS sumR
 rw [outB_r _ _ (Nat.le_refl _),h3.h,textR_pieces]
 congr 2
 omega
theorem rep_start_add (b : List UInt8) : Rep (addS ShaS.start b) b := by
 have := rep_addS (c := b) rep_start
 simpa using this
theorem sum_r (b : List UInt8) : sumS b = sumR b := end_r (rep_start_add b)
theorem twice_r (b : List UInt8) : twiceS b = twiceR b := by unfold twiceS twiceR; rw [sum_r,sum_r]
end Go.Sx

namespace Go.Sx

instance : Inhabited ShaS := ⟨ShaS.zero⟩
theorem get!_last {α : Type} [Inhabited α] {l : List α} {v : α} {i : Nat} (h : i = l.length) : (l ++ [v])[i]! = v := by subst h; simp
end Go.Sx
