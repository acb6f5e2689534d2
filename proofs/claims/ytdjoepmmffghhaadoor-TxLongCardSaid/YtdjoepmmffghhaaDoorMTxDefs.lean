/- Proved: what functions of the given program compute (used by the theorem of this claim). Conditions: none but those that each theorem states. -/
import Derived.Test.YtdjoepmmffghhaaDoorMTx2
import Derived.Test.YtdjoepmmffghhaaDoorMSxBldO
set_option linter.unusedVariables false
set_option linter.unusedSimpArgs false
set_option linter.unnecessarySimpa false

namespace Go.Sx
abbrev Hs := List UInt8

structure InS where
 tx : Hs
 n : UInt32
 script : List UInt8
 seq : UInt32
 wit : List (List UInt8)
 deriving Inhabited
structure OutS where
 value : UInt64
 script : List UInt8
 deriving Inhabited
structure TxS where
 ver : UInt32
 ins : List InS
 outs : List OutS
 lock : UInt32
 deriving Inhabited

def inD (x : InS) : D := .agg [.agg [hashD x.tx,.u32 x.n],bytesD x.script,.u32 x.seq,.sl none 1 (x.wit.map bytesD)]
def inN (x : InS) : D := .agg [.agg [hashD x.tx,.u32 x.n],bytesD x.script,.u32 x.seq,.nils]
def outD (o : OutS) : D := .agg [.u64 o.value,bytesD o.script]
def txD (t : TxS) : D := .agg [.u32 t.ver,.sl none 36 (t.ins.map inD),.sl none 2 (t.outs.map outD),.u32 t.lock]

def shN (x : UInt64) : Nat → UInt64
 | 0 => x
 | i + 1 => shr_u64 (shN x i) 8
def lowI (x : UInt64) : Nat → List UInt8
 | 0 => []
 | i + 1 => lowI x i ++ [(shN x i).toUInt8]
theorem lowI_len (x : UInt64) (i : Nat) : (lowI x i).length = i := by induction i with
 | zero => rfl
 | succ i ih => simp [lowI,ih]
def cU (n : Nat) : UInt64 := UInt64.ofInt ((n : Nat) : Int)
def countS (n : Nat) : List UInt8 :=
 if cU n < 253 then lowI (cU n) 1 else if cU n ≤ 65535 then lowI 253 1 ++ lowI (cU n) 2 else if cU n ≤ 4294967295 then lowI 254 1 ++ lowI (cU n) 4 else lowI 255 1 ++ lowI (cU n) 8
theorem countS_len (n : Nat) : (countS n).length ≤ 9 := by
 unfold countS
 split
 · simp [lowI_len]
 · split
   · simp [lowI_len]
   · split <;> simp [lowI_len]
def itemS (b : List UInt8) : List UInt8 := countS b.length ++ b
theorem itemS_len (b : List UInt8) : (itemS b).length ≤ 9 + b.length := by
 have := countS_len b.length
 simp [itemS]; omega
def inS (x : InS) : List UInt8 := x.tx ++ lowI x.n.toUInt64 4 ++ itemS x.script ++ lowI x.seq.toUInt64 4
def outS' (o : OutS) : List UInt8 := lowI o.value 8 ++ itemS o.script
def insS (l : List InS) : Nat → List UInt8
 | 0 => []
 | i + 1 => insS l i ++ inS l[i]!
def outsS (l : List OutS) : Nat → List UInt8
 | 0 => []
 | i + 1 => outsS l i ++ outS' l[i]!
def bodyS (t : TxS) : List UInt8 := countS t.ins.length ++ insS t.ins t.ins.length ++ countS t.outs.length ++ outsS t.outs t.outs.length
def bareS (t : TxS) : List UInt8 := lowI t.ver.toUInt64 4 ++ bodyS t ++ lowI t.lock.toUInt64 4
def witS (l : List (List UInt8)) : Nat → List UInt8
 | 0 => []
 | i + 1 => witS l i ++ itemS l[i]!
def witsS (l : List InS) : Nat → List UInt8
 | 0 => []
 | i + 1 => witsS l i ++ countS l[i]!.wit.length ++ witS l[i]!.wit l[i]!.wit.length
def seenS (t : TxS) : Bool := t.ins.any fun x => decide (0 < x.wit.length)
def putS (t : TxS) : List UInt8 := if seenS t then lowI t.ver.toUInt64 4 ++ [0,1] ++ bodyS t ++ witsS t.ins t.ins.length ++ lowI t.lock.toUInt64 4 else bareS t
structure TxS.wf (t : TxS) : Prop where
 ins : t.ins.length ≤ 1000000
 outs : t.outs.length ≤ 1000000
 hash : ∀ x ∈ t.ins,x.tx.length = 32
 scr : ∀ x ∈ t.ins,x.script.length ≤ 1000000
 oscr : ∀ x ∈ t.outs,x.script.length ≤ 1000000
 insb : ∀ i ≤ t.ins.length,(insS t.ins i).length ≤ 1500000
 outsb : ∀ i ≤ t.outs.length,(outsS t.outs i).length ≤ 1500000
 witsb : ∀ i ≤ t.ins.length,(witsS t.ins i).length ≤ 1500000
 witl : ∀ x ∈ t.ins,x.wit.length ≤ 1000000 ∧ ∀ i ≤ x.wit.length,(witS x.wit i).length ≤ 1500000
 witi : ∀ x ∈ t.ins,∀ b ∈ x.wit,b.length ≤ 1000000
theorem get_mem {α : Type} [Inhabited α] {l : List α} {i : Nat} (h : i < l.length) : l[i]! ∈ l := by
 rw [getElem!_pos l i h]; exact List.getElem_mem h
theorem TxS.wf.insScript {t : TxS} (h : t.wf) {i : Nat} (hi : i < t.ins.length) : t.ins[i]!.script.length ≤ 1000000 := h.scr _ (get_mem hi)
theorem TxS.wf.outScript {t : TxS} (h : t.wf) {i : Nat} (hi : i < t.outs.length) : t.outs[i]!.script.length ≤ 1000000 := h.oscr _ (get_mem hi)
theorem TxS.wf.body {t : TxS} (h : t.wf) : (bodyS t).length ≤ 3000018 := by
 have h1 := countS_len t.ins.length
 have h2 := countS_len t.outs.length
 have h3 := h.insb _ (Nat.le_refl _)
 have h4 := h.outsb _ (Nat.le_refl _)
 simp only [bodyS,List.length_append]
 omega
theorem TxS.wf.bareL {t : TxS} (h : t.wf) : (bareS t).length ≤ 4000000 := by
 have h1 := h.body
 simp only [bareS,List.length_append,lowI_len]
 omega
theorem seen_true {t : TxS} {i : Nat} (hi : i < t.ins.length) (h : 0 < t.ins[i]!.wit.length) : seenS t = true := by
 unfold seenS
 rw [List.any_eq_true]
 exact ⟨_,get_mem hi,by simpa using h⟩
theorem seen_false {t : TxS} (h : ∀ k < t.ins.length,¬ 0 < t.ins[k]!.wit.length) : seenS t = false := by
 unfold seenS
 rw [List.any_eq_false]
 intro x hx
 obtain ⟨k,hk,rfl⟩ := List.mem_iff_getElem.1 hx
 have := h k hk
 rw [getElem!_pos t.ins k hk] at this
 simpa using this
def idS (t : TxS) : Hs := twiceS (bareS t)
def takeO (b : List UInt8) (n : Nat) : Option (List UInt8 × List UInt8) := if n ≤ b.length then some (b.take n,b.drop n) else none
def numI (l : List UInt8) : Nat → UInt64
 | 0 => 0
 | i + 1 => numI l i ||| shl_u64 (l[i]!).toUInt64 (8 * i)
def numO (b : List UInt8) (n : Nat) : Option (UInt64 × List UInt8) := (takeO b n).map fun q => (numI q.1 q.1.length,q.2)
def n2 (x : UInt64) : Nat := if x = 253 then 2 else if x = 254 then 4 else 8
def cntO (b : List UInt8) : Option (Nat × List UInt8) :=
 (numO b 1).bind fun q => (if 253 ≤ q.1 then numO q.2 (n2 q.1) else some q).bind fun p => if UInt64.ofInt ((p.2.length : Nat) : Int) < p.1 then none else some (p.1.toNat,p.2)
def itemO (b : List UInt8) : Option (List UInt8 × List UInt8) := (cntO b).bind fun q => takeO q.2 q.1
theorem takeO_len {b x r : List UInt8} {n : Nat} (h : takeO b n = some (x,r)) : x.length = n ∧ r.length + n = b.length ∧ x = b.take n ∧ r = b.drop n := by
 unfold takeO at h
 split at h
 · cases h
   simp; omega
 · cases h
theorem numO_len {b r : List UInt8} {x : UInt64} {n : Nat} (h : numO b n = some (x,r)) : r.length + n = b.length := by
 unfold numO at h
 cases ht : takeO b n with
 | none => rw [ht] at h; cases h
 | some q =>
  obtain ⟨y,r'⟩ := q
  rw [ht] at h
  cases h
  exact (takeO_len ht).2.1
theorem numO_one {b r : List UInt8} {x : UInt64} (h : numO b 1 = some (x,r)) : x.toNat ≤ 255 := by
 unfold numO at h
 cases ht : takeO b 1 with
 | none => rw [ht] at h; cases h
 | some q =>
  obtain ⟨y,r'⟩ := q
  rw [ht] at h
  cases h
  have hl := (takeO_len ht).1
  match y,hl with
  | [a],_ =>
   have : numI [a] [a].length = a.toUInt64 := by
    show (0 : UInt64) ||| shl_u64 a.toUInt64 0 = _
    unfold shl_u64
    simp
   rw [this]
   simp only [UInt8.toNat_toUInt64]
   have := a.toNat_lt
   omega
theorem n2_le (x : UInt64) : n2 x ≤ 1000000 := by unfold n2; split; decide; split <;> decide
theorem n2_eq {x : UInt64} (h1 : 253 ≤ x) (h2 : x.toNat ≤ 255) : D.int (wr (((2 : Nat) : Int) * 2 ^ min (((x - 253).toNat : Nat) : Int).toNat 64)) = D.int ((n2 x : Nat) : Int) := by
 have h3 : x.toNat = 253 ∨ x.toNat = 254 ∨ x.toNat = 255 := by
  have : (253 : UInt64).toNat ≤ x.toNat := UInt64.le_iff_toNat_le.1 h1
  have e : (253 : UInt64).toNat = 253 := rfl
  omega
 rcases h3 with h | h | h
 · have : x = 253 := UInt64.toNat_inj.1 h
   subst this; rfl
 · have : x = 254 := UInt64.toNat_inj.1 h
   subst this; rfl
 · have : x = 255 := UInt64.toNat_inj.1 h
   subst this; rfl
theorem cntO_none1 {b : List UInt8} (h : numO b 1 = none) : cntO b = none := by unfold cntO; rw [h]; rfl
theorem cntO_none2 {b r : List UInt8} {x : UInt64} (h : numO b 1 = some (x,r)) (h7 : 253 ≤ x) (h2 : numO r (n2 x) = none) : cntO b = none := by
 unfold cntO; rw [h,Option.bind_some,if_pos h7,h2]; rfl
theorem cntO_big {b r r2 : List UInt8} {x y : UInt64} (h : numO b 1 = some (x,r)) (h7 : 253 ≤ x) (h2 : numO r (n2 x) = some (y,r2)) : cntO b = if UInt64.ofInt ((r2.length : Nat) : Int) < y then none else some (y.toNat,r2) := by
 unfold cntO; rw [h,Option.bind_some,if_pos h7,h2,Option.bind_some]
theorem cntO_small {b r : List UInt8} {x : UInt64} (h : numO b 1 = some (x,r)) (h7 : ¬ 253 ≤ x) : cntO b = if UInt64.ofInt ((r.length : Nat) : Int) < x then none else some (x.toNat,r) := by
 unfold cntO; rw [h,Option.bind_some,if_neg h7,Option.bind_some]
theorem ofInt_nat {n : Nat} (hn : n < 18446744073709551616) : (UInt64.ofInt ((n : Nat) : Int)).toNat = n := by
 have : UInt64.ofInt ((n : Nat) : Int) = UInt64.ofNat n := by
  unfold UInt64.ofInt
  congr 1
  omega
 rw [this]
 simp [UInt64.toNat_ofNat]
 omega
theorem lt_of_ofInt {y : UInt64} {n : Nat} (h : ¬ UInt64.ofInt ((n : Nat) : Int) < y) (hn : n < 18446744073709551616) : y.toNat ≤ n := by
 have := ofInt_nat hn
 rw [UInt64.lt_iff_toNat_lt,this] at h
 omega
theorem cv_le {y : UInt64} {n : Nat} (h : ¬ UInt64.ofInt ((n : Nat) : Int) < y) (hn : n ≤ 100000) : D.int (wr y.toNat) = D.int ((y.toNat : Nat) : Int) := by
 have := lt_of_ofInt h (by omega)
 exact wr_eq rfl (by omega) (by omega)
theorem cntO_le {b r : List UInt8} {n : Nat} (h : cntO b = some (n,r)) (hb : b.length ≤ 100000) : n ≤ r.length ∧ r.length + 1 ≤ b.length := by
 cases h1 : numO b 1 with
 | none => rw [cntO_none1 h1] at h; cases h
 | some q =>
  obtain ⟨x,r1⟩ := q
  have hl := numO_len h1
  by_cases h7 : 253 ≤ x
  · cases h2 : numO r1 (n2 x) with
    | none => rw [cntO_none2 h1 h7 h2] at h; cases h
    | some q =>
     obtain ⟨y,r2⟩ := q
     rw [cntO_big h1 h7 h2] at h
     split at h
     · cases h
     · rename_i hn
       cases h
       have := numO_len h2
       have := lt_of_ofInt hn (by omega)
       omega
  · rw [cntO_small h1 h7] at h
    split at h
    · cases h
    · rename_i hn
      cases h
      have := lt_of_ofInt hn (by omega)
      omega
theorem itemO_len {b x r : List UInt8} (h : itemO b = some (x,r)) (hb : b.length ≤ 100000) : x.length + r.length + 1 ≤ b.length := by
 unfold itemO at h
 cases h1 : cntO b with
 | none => rw [h1] at h; cases h
 | some q =>
  obtain ⟨n,r1⟩ := q
  rw [h1] at h
  have := cntO_le h1 hb
  have := takeO_len (show takeO r1 n = some (x,r) from h)
  omega
def inO (b : List UInt8) : Option (InS × List UInt8) :=
 (takeO b 32).bind fun q => (numO q.2 4).bind fun p => (itemO p.2).bind fun s => (numO s.2 4).bind fun r => some (⟨q.1,p.1.toUInt32,s.1,r.1.toUInt32,[]⟩,r.2)
def outO (b : List UInt8) : Option (OutS × List UInt8) := (numO b 8).bind fun p => (itemO p.2).bind fun s => some (⟨p.1,s.1⟩,s.2)
def insO (b : List UInt8) : Nat → Option (List InS × List UInt8)
 | 0 => some ([],b)
 | i + 1 => (insO b i).bind fun q => (inO q.2).bind fun p => some (q.1 ++ [p.1],p.2)
def outsO (b : List UInt8) : Nat → Option (List OutS × List UInt8)
 | 0 => some ([],b)
 | i + 1 => (outsO b i).bind fun q => (outO q.2).bind fun p => some (q.1 ++ [p.1],p.2)
def bodyO (b : List UInt8) : Option ((List InS × List OutS) × List UInt8) :=
 (cntO b).bind fun c => (insO c.2 c.1).bind fun p => (cntO p.2).bind fun d => (outsO d.2 d.1).bind fun q => some ((p.1,q.1),q.2)
section
variable {b r r0 r1 r2 r3 r4 r5 x s u : List UInt8} {p q : UInt64} {i j n m : Nat} {l : List InS} {o : List OutS}
theorem inO_n1 (h : takeO b 32 = none) : inO b = none := by unfold inO; rw [h]; rfl
theorem inO_n2 (h : takeO b 32 = some (x,r1)) (h2 : numO r1 4 = none) : inO b = none := by unfold inO; rw [h,Option.bind_some,h2]; rfl
theorem inO_n3 (h : takeO b 32 = some (x,r1)) (h2 : numO r1 4 = some (p,r2)) (h3 : itemO r2 = none) : inO b = none := by unfold inO; rw [h,Option.bind_some,h2,Option.bind_some,h3]; rfl
theorem inO_n4 (h : takeO b 32 = some (x,r1)) (h2 : numO r1 4 = some (p,r2)) (h3 : itemO r2 = some (s,r3)) (h4 : numO r3 4 = none) : inO b = none := by unfold inO; rw [h,Option.bind_some,h2,Option.bind_some,h3,Option.bind_some,h4]; rfl
theorem inO_s (h : takeO b 32 = some (x,r1)) (h2 : numO r1 4 = some (p,r2)) (h3 : itemO r2 = some (s,r3)) (h4 : numO r3 4 = some (q,r4)) : inO b = some (⟨x,p.toUInt32,s,q.toUInt32,[]⟩,r4) := by
 unfold inO; rw [h,Option.bind_some,h2,Option.bind_some,h3,Option.bind_some,h4]; rfl
theorem outO_n1 (h : numO b 8 = none) : outO b = none := by unfold outO; rw [h]; rfl
theorem outO_n2 (h : numO b 8 = some (p,r1)) (h2 : itemO r1 = none) : outO b = none := by unfold outO; rw [h,Option.bind_some,h2]; rfl
theorem outO_s (h : numO b 8 = some (p,r1)) (h2 : itemO r1 = some (s,r2)) : outO b = some (⟨p,s⟩,r2) := by unfold outO; rw [h,Option.bind_some,h2]; rfl
theorem insO_s {a : InS} (h : insO b i = some (l,r)) (h2 : inO r = some (a,r1)) : insO b (i + 1) = some (l ++ [a],r1) := by simp only [insO]; rw [h,Option.bind_some,h2]; rfl
theorem outsO_s {a : OutS} (h : outsO b i = some (o,r)) (h2 : outO r = some (a,r1)) : outsO b (i + 1) = some (o ++ [a],r1) := by simp only [outsO]; rw [h,Option.bind_some,h2]; rfl
theorem insO_none (h : insO b i = some (l,r)) (hi : i < n) (h2 : inO r = none) : insO b n = none := by
 induction n with
 | zero => omega
 | succ n ih =>
  simp only [insO]
  by_cases hn : i = n
  · subst hn; rw [h,Option.bind_some,h2]; rfl
  · rw [ih (by omega)]; rfl
theorem outsO_none (h : outsO b i = some (o,r)) (hi : i < n) (h2 : outO r = none) : outsO b n = none := by
 induction n with
 | zero => omega
 | succ n ih =>
  simp only [outsO]
  by_cases hn : i = n
  · subst hn; rw [h,Option.bind_some,h2]; rfl
  · rw [ih (by omega)]; rfl
theorem inO_len {a : InS} (h : inO b = some (a,r)) (hb : b.length ≤ 100000) : a.tx.length = 32 ∧ a.wit = [] ∧ 32 + a.script.length + r.length < b.length := by
 unfold inO at h
 cases h1 : takeO b 32 with
 | none => rw [h1] at h; cases h
 | some y =>
  obtain ⟨x,r1⟩ := y
  rw [h1,Option.bind_some] at h
  cases h2 : numO r1 4 with
  | none => rw [h2] at h; cases h
  | some y =>
   obtain ⟨p,r2⟩ := y
   rw [h2,Option.bind_some] at h
   cases h3 : itemO r2 with
   | none => rw [h3] at h; cases h
   | some y =>
    obtain ⟨s,r3⟩ := y
    rw [h3,Option.bind_some] at h
    cases h4 : numO r3 4 with
    | none => rw [h4] at h; cases h
    | some y =>
     obtain ⟨q,r4⟩ := y
     rw [h4,Option.bind_some] at h
     cases h
     have e1 := takeO_len h1
     have e2 := numO_len h2
     have e3 := itemO_len h3 (by omega)
     have e4 := numO_len h4
     exact ⟨e1.1,rfl,by show 32 + s.length + r4.length < b.length; omega⟩
theorem outO_len {a : OutS} (h : outO b = some (a,r)) (hb : b.length ≤ 100000) : 8 + a.script.length + r.length < b.length := by
 unfold outO at h
 cases h1 : numO b 8 with
 | none => rw [h1] at h; cases h
 | some y =>
  obtain ⟨p,r1⟩ := y
  rw [h1,Option.bind_some] at h
  cases h2 : itemO r1 with
  | none => rw [h2] at h; cases h
  | some y =>
   obtain ⟨s,r2⟩ := y
   rw [h2,Option.bind_some] at h
   cases h
   have e1 := numO_len h1
   have e2 := itemO_len h2 (by omega)
   show 8 + s.length + r2.length < b.length
   omega
theorem insO_len (h : insO b i = some (l,r)) (hb : b.length ≤ 100000) : l.length = i ∧ r.length + 32 * i ≤ b.length := by
 induction i generalizing l r with
 | zero => cases h; simp
 | succ i ih =>
  simp only [insO] at h
  cases h1 : insO b i with
  | none => rw [h1] at h; cases h
  | some y =>
   obtain ⟨l1,r1⟩ := y
   rw [h1,Option.bind_some] at h
   cases h2 : inO r1 with
   | none => rw [h2] at h; cases h
   | some y =>
    obtain ⟨a,r2⟩ := y
    rw [h2,Option.bind_some] at h
    cases h
    have e1 := ih h1
    have e2 := inO_len h2 (by omega)
    simp; omega
theorem outsO_len (h : outsO b i = some (o,r)) (hb : b.length ≤ 100000) : o.length = i ∧ r.length + 8 * i ≤ b.length := by
 induction i generalizing o r with
 | zero => cases h; simp
 | succ i ih =>
  simp only [outsO] at h
  cases h1 : outsO b i with
  | none => rw [h1] at h; cases h
  | some y =>
   obtain ⟨l1,r1⟩ := y
   rw [h1,Option.bind_some] at h
   cases h2 : outO r1 with
   | none => rw [h2] at h; cases h
   | some y =>
    obtain ⟨a,r2⟩ := y
    rw [h2,Option.bind_some] at h
    cases h
    have e1 := ih h1
    have e2 := outO_len h2 (by omega)
    simp; omega
theorem bodyO_n1 (h : cntO b = none) : bodyO b = none := by unfold bodyO; rw [h]; rfl
theorem bodyO_n2 (h : cntO b = some (n,r0)) (h2 : insO r0 n = none) : bodyO b = none := by unfold bodyO; rw [h,Option.bind_some,h2]; rfl
theorem bodyO_n3 (h : cntO b = some (n,r0)) (h2 : insO r0 n = some (l,r)) (h3 : cntO r = none) : bodyO b = none := by unfold bodyO; rw [h,Option.bind_some,h2,Option.bind_some,h3]; rfl
theorem bodyO_n4 (h : cntO b = some (n,r0)) (h2 : insO r0 n = some (l,r)) (h3 : cntO r = some (m,r5)) (h4 : outsO r5 m = none) : bodyO b = none := by unfold bodyO; rw [h,Option.bind_some,h2,Option.bind_some,h3,Option.bind_some,h4]; rfl
theorem bodyO_s (h : cntO b = some (n,r0)) (h2 : insO r0 n = some (l,r)) (h3 : cntO r = some (m,r5)) (h4 : outsO r5 m = some (o,u)) : bodyO b = some ((l,o),u) := by
 unfold bodyO; rw [h,Option.bind_some,h2,Option.bind_some,h3,Option.bind_some,h4]; rfl
end
theorem cp_all {x : List UInt8} {l : List D} (hx : x.length = 32) (hl : l.length = 32 := by rfl) : l.take 0 ++ (x.map D.u8).take 32 ++ l.drop (0 + 32) = x.map D.u8 := by
 have h1 : l.drop (0 + 32) = [] := List.drop_eq_nil_of_le (by omega)
 have h2 : (x.map D.u8).take 32 = x.map D.u8 := List.take_of_length_le (by simp [hx])
 rw [h1,h2]
 simp
end Go.Sx

namespace Go.Sx
open Go.Proofs
theorem wnumber_ok (b : List UInt8) (x : UInt64) (n : Nat) (hn : n ≤ 8) (hb : b.length ≤ 10000000) : FnB Tryd.prog gl 30 [.ptr 0 0 [],.u64 x,.int ((n : Nat) : Int)] [(0,.var (.agg [.sl (some 5) 1 (b.map D.u8)]))] (.tup []) [(0,.var (.agg [.sl (some 5) 1 ((b ++ lowI x n).map D.u8)]))] [] := by
 refine FnB.of (n := 23) (ids := [0]) Tryd.func30 rfl rfl rfl (nU rfl) fun C hC hD => ?_
 refine W.seq ?_
 refine W.l0 2 [.y 6 _,.y 7 _] [] [] [(0,_),(1,_),(6,_),(7,_)] [(0,.var _)] 23 ⟨mU 2 rfl rfl,aU fun _ _ H _ => R.mov (kI 0 rfl) rfl H,trivial⟩ rfl rfl rfl rfl (tU rfl ?_)
 refine W.block ?_
 refine W.loop (α := {q__ : Nat // q__ ≤ n}) (fun q__ => ⟨23,[(0,.ptr 0 0 []),(1,.u64 (shN x q__.1)),(6,.int ((n : Nat) : Int)),(7,.int ((q__.1 : Nat) : Int))],[(0,.var (.agg [.sl (some 5) 1 ((b ++ lowI x q__.1).map D.u8)]))]⟩) (fun q__ => n - q__.1) ⟨(0),bU⟩ (by simp only [lowI,List.append_nil]; rfl) ?_
 rintro ⟨i,hi⟩
 show W _ _ _ _ ⟨23,[(0,.ptr 0 0 []),(1,.u64 (shN x i)),(6,.int ((n : Nat) : Int)),(7,.int ((i : Nat) : Int))],[(0,.var (.agg [.sl (some 5) 1 ((b ++ lowI x i).map D.u8)]))]⟩
 have hi : i ≤ n := hi
 have hll := lowI_len x i
 refine W.seq ?_
 refine W.l0 1 [.y 8 _] [] [] [(0,_),(1,_),(6,_),(7,_),(8,_)] [(0,.var _)] 23 ⟨aU fun _ _ H K => R.lssN (i) (n) (eU K 7 rfl) (eU K 6 rfl) H,trivial⟩ rfl rfl rfl rfl (tU rfl ?_)
 refine W.seq ?_
 refine W.condD rfl (fun hc8 => ?_) (fun hc8 => ?_)
 · refine W.skip ?_
   refine W.seq ?_
   refine W.block ?_
   refine W.seq ?_
   refine W.l0 12 [.y 9 _,.y 10 _,.y 11 _,.y 12 _,.y 13 _,.y 14 _,.y 15 _,.y 16 _] [] [] [(0,_),(1,_),(6,_),(7,_),(9,_),(13,_),(16,_)] [(0,.var _)] 23 ⟨mU 0 rfl rfl,mU 0 rfl rfl,aU fun _ _ H K => R.nilcP (K 10 _ rfl) H,aU (fU 11 rfl rfl),aU fun _ B H K => R.ldO (K 12 _ rfl) (B 0 _ rfl) rfl H,mU 1 rfl rfl,aU fun _ _ H K => R.conv (eU K 14 rfl) rfl H,aU fun _ _ H K => R.bslE (z := 1) (.cons (eU K 15 rfl) .nil) ⟨⟨rfl,rfl,rfl⟩,trivial⟩ rfl H (by decide),trivial⟩ rfl rfl rfl rfl (⟨rfl,_,R.appBP (gU 13 rfl) (xU 0 rfl) rfl rfl rfl rfl (gU 13 rfl) (SrcO.sc (SC.sl (gU 16 rfl)) (pur_lit rfl)) (show _ = ((b ++ lowI x (i + 1)).map D.u8) from (by simp [lowI])) bU (nU rfl) (by decide) (by decide),⟨rfl,_,R.nilcP (gU 9 rfl) (nU rfl),⟨rfl,_,R.fdP (gU 18 rfl) (nU rfl),⟨rfl,_,R.stOZ (gU 19 rfl) (xU 0 rfl) rfl (gU 17 rfl) rfl rfl (by rfl) (by rfl) rfl rfl,tV [(0,_),(1,_),(6,_),(7,_)] [(0,.var _)] 23 rfl rfl rfl ?_⟩⟩⟩⟩)
   refine W.l0 3 [.y 20 _,.y 21 _,.y 1 _] [] [] [(0,_),(1,_),(6,_),(7,_)] [(0,.var _)] 23 ⟨mU 1 rfl rfl,aU fun _ _ H K => R.bin (eU K 20 rfl) (show ev _ _ (.const (.int .u64 8)) = some (.u64 8) from rfl) rfl bV H,aU fun _ _ H K => R.asg (eU K 21 rfl) rfl H,trivial⟩ rfl rfl rfl rfl (tU rfl ?_)
   refine W.l0 2 [.y 22 _,.y 7 _] [] [] [(0,_),(1,_),(6,_),(7,_)] [(0,.var _)] 23 ⟨aU fun _ _ H K => R.addN (i) (1) (eU K 7 rfl) (kI 1 rfl) bU H,mU 22 rfl rfl,trivial⟩ rfl rfl rfl rfl (tU rfl ?_)
   exact ⟨⟨(i + 1),bU⟩,rfl,(by simp only []; omega)⟩
 · obtain rfl : i = n := by omega
   refine W.exit ?_
   exact EndsB.none' (r := .dead) (.inl rfl) rfl (rfl) ⟨rfl,trivial⟩

theorem wcount_ok (b : List UInt8) (n : Nat) (hb : b.length ≤ 9000000) : FnB Tryd.prog gl 32 [.ptr 0 0 [],.int ((n : Nat) : Int)] [(0,.var (.agg [.sl (some 5) 1 (b.map D.u8)]))] (.tup []) [(0,.var (.agg [.sl (some 5) 1 ((b ++ countS n).map D.u8)]))] [] := by
 refine FnB.of (n := 34) (ids := [0]) Tryd.func32 rfl rfl rfl (nU rfl) fun C hC hD => ?_
 refine W.seq ?_
 refine W.l0 3 [.y 5 _,.y 6 _,.y 4 _] [] [] [(0,_),(4,_)] [(0,.var _)] 34 ⟨mU 1 rfl rfl,aU fun _ _ H K => R.convE (d := .u64 (cU n)) (eU K 5 rfl) rfl (rfl) H,aU fun _ _ H K => R.asg (eU K 6 rfl) rfl H,trivial⟩ rfl rfl rfl rfl (tU rfl ?_)
 refine W.block ?_
 refine W.seq ?_
 refine W.l0 3 [.y 13 _,.y 14 _,.y 12 _] [] [] [(0,_),(4,_),(12,_)] [(0,.var _)] 34 ⟨mU 4 rfl rfl,aU fun _ _ H K => R.bin (eU K 13 rfl) (show ev _ _ (.const (.int .u64 253)) = some (.u64 253) from rfl) rfl trivial H,aU fun _ _ H K => R.asg (eU K 14 rfl) rfl H,trivial⟩ rfl rfl rfl rfl (tU rfl ?_)
 refine W.cond rfl (fun hc12 => ?_) (fun hc12 => ?_)
 · refine W.l0 3 [.y 15 _,.y 16 _] [] [] [(15,_),(16,_)] [(0,.var _)] 34 ⟨mU 0 rfl rfl,mU 4 rfl rfl,trivial⟩ rfl rfl rfl rfl (⟨rfl,_,R.callB [(0,0)] hC (wnumber_ok b (cU n) 1 (by decide) (by first | omega | (simp only [List.length_append,lowI_len]; omega))) (EvB.cons (gV 15 rfl) rfl rfl rfl (EvB.cons (gV 16 rfl) rfl rfl rfl (EvB.cons (kI 1 rfl) rfl rfl rfl EvB.nil))) rfl ⟨rfl,trivial⟩ ⟨rfl,trivial⟩ rfl rfl rfl rfl rfl rfl (nU rfl),tV [] [(0,.var _)] 34 rfl rfl rfl ?_⟩)
   exact EndsB.none' (r := .dead) (.inl rfl) rfl (by simp only [countS,if_pos (of_decide_eq_true hc12)]; rfl) ⟨rfl,trivial⟩
 · refine W.seq ?_
   refine W.l0 3 [.y 19 _,.y 20 _,.y 18 _] [] [] [(0,_),(4,_),(18,_)] [(0,.var _)] 34 ⟨mU 4 rfl rfl,aU fun _ _ H K => R.bin (eU K 19 rfl) (show ev _ _ (.const (.int .u64 65535)) = some (.u64 65535) from rfl) rfl trivial H,aU fun _ _ H K => R.asg (eU K 20 rfl) rfl H,trivial⟩ rfl rfl rfl rfl (tU rfl ?_)
   refine W.cond rfl (fun hc18 => ?_) (fun hc18 => ?_)
   · refine W.seq ?_
     refine W.l0 2 [.y 21 _] [] [] [(0,_),(4,_),(21,_)] [(0,.var _)] 34 ⟨mU 0 rfl rfl,trivial⟩ rfl rfl rfl rfl (⟨rfl,_,R.callB [(0,0)] hC (wnumber_ok b 253 1 (by decide) (by first | omega | (simp only [List.length_append,lowI_len]; omega))) (EvB.cons (gV 21 rfl) rfl rfl rfl (EvB.cons (show ev _ _ (.const (.int .u64 253)) = some (.u64 253) from rfl) rfl rfl rfl (EvB.cons (kI 1 rfl) rfl rfl rfl EvB.nil))) rfl ⟨rfl,trivial⟩ ⟨rfl,trivial⟩ rfl rfl rfl rfl rfl rfl (nU rfl),tV [(0,_),(4,_)] [(0,.var _)] 34 rfl rfl rfl ?_⟩)
     refine W.l0 3 [.y 23 _,.y 24 _] [] [] [(23,_),(24,_)] [(0,.var _)] 34 ⟨mU 0 rfl rfl,mU 4 rfl rfl,trivial⟩ rfl rfl rfl rfl (⟨rfl,_,R.callB [(0,0)] hC (wnumber_ok (b ++ lowI 253 1) (cU n) 2 (by decide) (by first | omega | (simp only [List.length_append,lowI_len]; omega))) (EvB.cons (gV 23 rfl) rfl rfl rfl (EvB.cons (gV 24 rfl) rfl rfl rfl (EvB.cons (kI 2 rfl) rfl rfl rfl EvB.nil))) rfl ⟨rfl,trivial⟩ ⟨rfl,trivial⟩ rfl rfl rfl rfl rfl rfl (nU rfl),tV [] [(0,.var _)] 34 rfl rfl rfl ?_⟩)
     exact EndsB.none' (r := .dead) (.inl rfl) rfl (by simp only [countS,if_neg (of_decide_eq_false hc12),if_pos (of_decide_eq_true hc18),List.append_assoc]; rfl) ⟨rfl,trivial⟩
   · refine W.seq ?_
     refine W.l0 3 [.y 27 _,.y 28 _,.y 26 _] [] [] [(0,_),(4,_),(26,_)] [(0,.var _)] 34 ⟨mU 4 rfl rfl,aU fun _ _ H K => R.bin (eU K 27 rfl) (show ev _ _ (.const (.int .u64 4294967295)) = some (.u64 4294967295) from rfl) rfl trivial H,aU fun _ _ H K => R.asg (eU K 28 rfl) rfl H,trivial⟩ rfl rfl rfl rfl (tU rfl ?_)
     refine W.cond rfl (fun hc26 => ?_) (fun hc26 => ?_)
     · refine W.seq ?_
       refine W.l0 2 [.y 29 _] [] [] [(0,_),(4,_),(29,_)] [(0,.var _)] 34 ⟨mU 0 rfl rfl,trivial⟩ rfl rfl rfl rfl (⟨rfl,_,R.callB [(0,0)] hC (wnumber_ok b 254 1 (by decide) (by first | omega | (simp only [List.length_append,lowI_len]; omega))) (EvB.cons (gV 29 rfl) rfl rfl rfl (EvB.cons (show ev _ _ (.const (.int .u64 254)) = some (.u64 254) from rfl) rfl rfl rfl (EvB.cons (kI 1 rfl) rfl rfl rfl EvB.nil))) rfl ⟨rfl,trivial⟩ ⟨rfl,trivial⟩ rfl rfl rfl rfl rfl rfl (nU rfl),tV [(0,_),(4,_)] [(0,.var _)] 34 rfl rfl rfl ?_⟩)
       refine W.l0 3 [.y 31 _,.y 32 _] [] [] [(31,_),(32,_)] [(0,.var _)] 34 ⟨mU 0 rfl rfl,mU 4 rfl rfl,trivial⟩ rfl rfl rfl rfl (⟨rfl,_,R.callB [(0,0)] hC (wnumber_ok (b ++ lowI 254 1) (cU n) 4 (by decide) (by first | omega | (simp only [List.length_append,lowI_len]; omega))) (EvB.cons (gV 31 rfl) rfl rfl rfl (EvB.cons (gV 32 rfl) rfl rfl rfl (EvB.cons (kI 4 rfl) rfl rfl rfl EvB.nil))) rfl ⟨rfl,trivial⟩ ⟨rfl,trivial⟩ rfl rfl rfl rfl rfl rfl (nU rfl),tV [] [(0,.var _)] 34 rfl rfl rfl ?_⟩)
       exact EndsB.none' (r := .dead) (.inl rfl) rfl (by simp only [countS,if_neg (of_decide_eq_false hc12),if_neg (of_decide_eq_false hc18),if_pos (of_decide_eq_true hc26),List.append_assoc]; rfl) ⟨rfl,trivial⟩
     · refine W.seq ?_
       refine W.l0 2 [.y 7 _] [] [] [(0,_),(4,_),(7,_)] [(0,.var _)] 34 ⟨mU 0 rfl rfl,trivial⟩ rfl rfl rfl rfl (⟨rfl,_,R.callB [(0,0)] hC (wnumber_ok b 255 1 (by decide) (by first | omega | (simp only [List.length_append,lowI_len]; omega))) (EvB.cons (gV 7 rfl) rfl rfl rfl (EvB.cons (show ev _ _ (.const (.int .u64 255)) = some (.u64 255) from rfl) rfl rfl rfl (EvB.cons (kI 1 rfl) rfl rfl rfl EvB.nil))) rfl ⟨rfl,trivial⟩ ⟨rfl,trivial⟩ rfl rfl rfl rfl rfl rfl (nU rfl),tV [(0,_),(4,_)] [(0,.var _)] 34 rfl rfl rfl ?_⟩)
       refine W.l0 3 [.y 9 _,.y 10 _] [] [] [(9,_),(10,_)] [(0,.var _)] 34 ⟨mU 0 rfl rfl,mU 4 rfl rfl,trivial⟩ rfl rfl rfl rfl (⟨rfl,_,R.callB [(0,0)] hC (wnumber_ok (b ++ lowI 255 1) (cU n) 8 (by decide) (by first | omega | (simp only [List.length_append,lowI_len]; omega))) (EvB.cons (gV 9 rfl) rfl rfl rfl (EvB.cons (gV 10 rfl) rfl rfl rfl (EvB.cons (kI 8 rfl) rfl rfl rfl EvB.nil))) rfl ⟨rfl,trivial⟩ ⟨rfl,trivial⟩ rfl rfl rfl rfl rfl rfl (nU rfl),tV [] [(0,.var _)] 34 rfl rfl rfl ?_⟩)
       exact EndsB.none' (r := .dead) (.inl rfl) rfl (by simp only [countS,if_neg (of_decide_eq_false hc12),if_neg (of_decide_eq_false hc18),if_neg (of_decide_eq_false hc26),List.append_assoc]; rfl) ⟨rfl,trivial⟩

theorem witem_ok (b x : List UInt8) (hb : b.length ≤ 8000000) (hx : x.length ≤ 1000000) : FnB Tryd.prog gl 33 [.ptr 0 0 [],.sl none 1 (x.map D.u8)] [(0,.var (.agg [.sl (some 5) 1 (b.map D.u8)]))] (.tup []) [(0,.var (.agg [.sl (some 5) 1 ((b ++ itemS x).map D.u8)]))] [] := by
 refine FnB.of (n := 17) (ids := [0]) Tryd.func33 rfl rfl rfl (nU rfl) fun C hC hD => ?_
 refine W.seq ?_
 refine W.l0 4 [.y 4 _,.y 5 _,.y 6 _] [] [] [(0,_),(1,_),(4,_),(6,_)] [(0,.var _)] 17 ⟨mU 0 rfl rfl,mU 1 rfl rfl,aU fun _ _ H K => R.lenE (SC.sl (K 5 _ rfl)) (List.length_map _) H,trivial⟩ rfl rfl rfl rfl (⟨rfl,_,R.callB [(0,0)] hC (wcount_ok b x.length (by omega)) (EvB.cons (gV 4 rfl) rfl rfl rfl (EvB.cons (gV 6 rfl) rfl rfl rfl EvB.nil)) rfl ⟨rfl,trivial⟩ ⟨rfl,trivial⟩ rfl rfl rfl rfl rfl rfl (nU rfl),tV [(0,_),(1,_)] [(0,.var _)] 17 rfl rfl rfl ?_⟩)
 have hcl := countS_len x.length
 refine W.l0 10 [.y 8 _,.y 9 _,.y 10 _,.y 11 _,.y 12 _,.y 13 _] [] [] [(8,_),(12,_),(13,_)] [(0,.var _)] 17 ⟨mU 0 rfl rfl,mU 0 rfl rfl,aU fun _ _ H K => R.nilcP (K 9 _ rfl) H,aU (fU 10 rfl rfl),aU fun _ B H K => R.ldO (K 11 _ rfl) (B 0 _ rfl) rfl H,mU 1 rfl rfl,trivial⟩ rfl rfl rfl rfl (⟨rfl,_,R.appBP (gU 12 rfl) (xU 0 rfl) rfl rfl rfl rfl (gU 12 rfl) (SrcO.sc (SC.sl (gU 13 rfl)) (pur_map (fun _ => rfl))) (app_map) bU (nU rfl) (by decide) (by decide),⟨rfl,_,R.nilcP (gU 8 rfl) (nU rfl),⟨rfl,_,R.fdP (gU 15 rfl) (nU rfl),⟨rfl,_,R.stOZ (gU 16 rfl) (xU 0 rfl) rfl (gU 14 rfl) rfl rfl (by rfl) (by rfl) rfl rfl,tV [] [(0,.var _)] 17 rfl rfl rfl ?_⟩⟩⟩⟩)
 exact EndsB.none' (r := .dead) (.inl rfl) rfl (by simp only [itemS,List.append_assoc]; rfl) ⟨rfl,trivial⟩

end Go.Sx

namespace Go.Sx
open Go.Proofs
theorem wbody_ok (b : List UInt8) (t : TxS) (hwf : t.wf) (hb : b.length ≤ 100) : FnB Tryd.prog gl 31 [.ptr 0 0 [],txD t] [(0,.var (.agg [.sl (some 5) 1 (b.map D.u8)]))] (.tup []) [(0,.var (.agg [.sl (some 5) 1 ((b ++ bodyS t).map D.u8)]))] [] := by
 refine FnB.of (n := 68) (ids := [0]) Tryd.func31 rfl rfl rfl (nU rfl) fun C hC hD => ?_
 have hc1 := countS_len t.ins.length
 have hc2 := countS_len t.outs.length
 have h1 := hwf.ins
 have h2 := hwf.outs
 have h3 := hwf.insb _ (Nat.le_refl _)
 have h4 := hwf.outsb _ (Nat.le_refl _)
 refine W.seq ?_
 refine W.l0 1 [] [] [] [(0,_),(1,_)] [(0,.var _)] 68 trivial rfl rfl rfl rfl (⟨rfl,_,R.box (gV 1 rfl) rfl rfl (nU rfl),tV [(0,_),(3,_)] [(3,.var _),(0,.var _)] 68 rfl rfl rfl ?_⟩)
 refine W.seq ?_
 refine W.l0 5 [.y 8 _,.y 9 _,.y 10 _,.y 11 _] [] [] [(0,_),(3,_),(8,_),(11,_)] [(3,.var _),(0,.var _)] 68 ⟨mU 0 rfl rfl,aU (fU 3 rfl rfl),aU (lU 9 rfl rfl rfl rfl rfl rfl rfl),aU fun _ _ H K => R.lenE (SC.sl (K 10 _ rfl)) (List.length_map _) H,trivial⟩ rfl rfl rfl rfl (⟨rfl,_,R.callB [(0,0)] hC (wcount_ok b t.ins.length (by omega)) (EvB.cons (gV 8 rfl) rfl rfl rfl (EvB.cons (gV 11 rfl) rfl rfl rfl EvB.nil)) rfl ⟨rfl,trivial⟩ ⟨rfl,trivial⟩ rfl rfl rfl rfl rfl rfl (nU rfl),tV [(0,_),(3,_)] [(3,.var _),(0,.var _)] 68 rfl rfl rfl ?_⟩)
 refine W.seq ?_
 refine W.seq ?_
 refine W.l0 4 [.y 13 _,.y 14 _,.y 15 _,.y 16 _] [] [] [(0,_),(3,_),(14,_),(15,_),(16,_)] [(3,.var _),(0,.var _)] 68 ⟨aU (fU 3 rfl rfl),aU (lU 13 rfl rfl rfl rfl rfl rfl rfl),aU fun _ _ H K => R.lenE (SC.sl (K 14 _ rfl)) (List.length_map _) H,aU fun _ _ H _ => R.mov (kI 0 rfl) rfl H,trivial⟩ rfl rfl rfl rfl (tU rfl ?_)
 refine W.block ?_
 refine W.loop (α := {q__ : Nat // q__ ≤ t.ins.length}) (fun q__ => ⟨68,[(0,.ptr 0 0 []),(3,.ptr 3 0 []),(14,.sl none 36 (t.ins.map inD)),(15,.int ((t.ins.length : Nat) : Int)),(16,.int ((q__.1 : Nat) : Int))],[(3,.var (.agg [.u32 t.ver,.sl none 36 (t.ins.map inD),.sl none 2 (t.outs.map outD),.u32 t.lock])),(0,.var (.agg [.sl (some 5) 1 ((b ++ countS t.ins.length ++ insS t.ins q__.1).map D.u8)]))]⟩) (fun q__ => t.ins.length - q__.1) ⟨(0),bU⟩ (by simp only [insS,List.append_nil]; rfl) ?_
 rintro ⟨i,hi⟩
 show W _ _ _ _ ⟨68,[(0,.ptr 0 0 []),(3,.ptr 3 0 []),(14,.sl none 36 (t.ins.map inD)),(15,.int ((t.ins.length : Nat) : Int)),(16,.int ((i : Nat) : Int))],[(3,.var (.agg [.u32 t.ver,.sl none 36 (t.ins.map inD),.sl none 2 (t.outs.map outD),.u32 t.lock])),(0,.var (.agg [.sl (some 5) 1 ((b ++ countS t.ins.length ++ insS t.ins i).map D.u8)]))]⟩
 have hi : i ≤ t.ins.length := hi
 have hib := hwf.insb i hi
 have hx : i < t.ins.length → t.ins[i]!.tx.length = 32 ∧ t.ins[i]!.script.length ≤ 1000000 := fun h => ⟨hwf.hash _ (get_mem h),hwf.insScript h⟩
 have hil := itemS_len t.ins[i]!.script
 refine W.seq ?_
 refine W.l0 1 [.y 17 _] [] [] [(0,_),(3,_),(14,_),(15,_),(16,_),(17,_)] [(3,.var _),(0,.var _)] 68 ⟨aU fun _ _ H K => R.lssN (i) (t.ins.length) (eU K 16 rfl) (eU K 15 rfl) H,trivial⟩ rfl rfl rfl rfl (tU rfl ?_)
 refine W.seq ?_
 refine W.condD rfl (fun hc17 => ?_) (fun hc17 => ?_)
 · refine W.skip ?_
   refine W.seq ?_
   refine W.block ?_
   refine W.seq ?_
   refine W.l0 4 [.y 18 _,.y 19 _] [] [] [(0,_),(3,_),(14,_),(15,_),(16,_),(19,_)] [(3,.var _),(0,.var _)] 68 ⟨aU fun _ _ H K => R.idxN (i) (SC.sl (K 14 _ rfl)) (evoI (eU K 16 rfl)) rfl bU H (by decide),aU fun _ _ H K => R.ldE (K 18 _ rfl) (SC.sl (K 14 _ rfl)) (map_get! (l := t.ins) bU) rfl rfl rfl rfl H,trivial⟩ rfl rfl rfl rfl (⟨rfl,_,R.alloc rfl (nU rfl),⟨rfl,_,R.stZ (gU 5 rfl) (xU 5 rfl) rfl (gV 19 rfl) (by rfl) (by rfl) (by rfl) (by rfl) rfl,tV [(0,_),(3,_),(5,_),(14,_),(15,_),(16,_)] [(5,.var _),(3,.var _),(0,.var _)] 68 rfl rfl rfl ?_⟩⟩)
   refine W.seq ?_
   refine W.drawC (m := 9) (an := [0,0,2,6,14,0,32,96,254,511,1023,2047]) (its := [.y 20 _,.y 21 _,.y 22 _,.y 23 _,.y 24 _,.y 25 _,.y 26 _,.y 27 _,.y 28 _]) (ks := [(8,24)]) (kk := [(8,24)]) (live := [0,3,5,14,15,16,20,28]) (env' := [(0,_),(3,_),(5,_),(14,_),(15,_),(16,_),(20,_),(28,_)]) (bx1 := [(5,.var _),(3,.var _),(0,.var _)]) [(5,_),(3,_)] 8 [0] hP (by decide) rfl ⟨nU rfl,rfl,rfl,rfl⟩ ⟨rfl,⟨rfl,trivial⟩⟩ (        ⟨⟨rfl,rfl,fun _ τ hb ht hτ => R.mov (evt (hτ 0 _ rfl)) rfl ht⟩,⟨⟨rfl,rfl,fun _ τ hb ht hτ => R.mov (evt (hτ 0 _ rfl)) rfl ht⟩,⟨⟨rfl,rfl,fun _ τ hb ht hτ => R.nilcP (hτ 21 _ rfl) ht⟩,⟨⟨rfl,rfl,fun _ τ hb ht hτ => R.fdP (hτ 22 _ rfl) ht⟩,⟨⟨rfl,rfl,fun _ τ hb ht hτ => R.ldO (hτ 23 _ rfl) (hb 0 _ rfl) rfl ht⟩,⟨⟨rfl,rfl,fun _ τ hb ht hτ => R.fdP (hτ 5 _ rfl) ht⟩,⟨⟨rfl,rfl,fun _ τ hb ht hτ => R.fdP (hτ 25 _ rfl) ht⟩,⟨⟨rfl,rfl,fun _ τ hb ht hτ => R.slAN (0) (32) (32) (hτ 26 _ rfl) (hb 5 _ rfl) rfl rfl rfl rfl rfl bU bU rfl ht⟩,⟨⟨rfl,rfl,rfl,(SpC.appB (s := 24) rfl rfl rfl rfl rfl rfl (fun τ hb hτ => (SrcO.sc (SC.va (hτ 27 _ rfl rfl rfl) (hb 5 _ rfl) rfl bU) (pur_part (fun _ => rfl)))) (show _ = ((((b ++ countS t.ins.length ++ insS t.ins i) ++ t.ins[i]!.tx)).map D.u8) from (by rw [List.drop_zero,List.take_of_length_le (by rw [List.length_map,(hx hc17).1]; exact Nat.le_refl _)]; simp)) bU (by decide) (by decide) rfl)⟩,trivial⟩⟩⟩⟩⟩⟩⟩⟩⟩) rfl rfl rfl (nU rfl) ⟨rfl,⟨rfl,trivial⟩⟩ rfl (n' := 68) rfl (⟨rfl,_,R.nilcP (gU 20 rfl) (nU rfl),⟨rfl,_,R.fdP (gU 29 rfl) (nU rfl),⟨rfl,_,R.stOZ (gU 30 rfl) (xU 0 rfl) rfl (gU 28 rfl) rfl rfl (by rfl) (by rfl) rfl rfl,⟨[0,3,5,14,15,16],[(0,_),(3,_),(5,_),(14,_),(15,_),(16,_)],[(5,.var _),(3,.var _),(0,.var _)],68,rfl,rfl,rfl, ?_⟩⟩⟩⟩)
   refine W.seq ?_
   refine W.l0 6 [.y 31 _,.y 32 _,.y 33 _,.y 34 _,.y 35 _] [] [] [(0,_),(3,_),(5,_),(14,_),(15,_),(16,_),(31,_),(35,_)] [(5,.var _),(3,.var _),(0,.var _)] 68 ⟨mU 0 rfl rfl,aU (fU 5 rfl rfl),aU (fU 32 rfl rfl),aU (lU 33 rfl rfl rfl rfl rfl rfl rfl),aU fun _ _ H K => R.conv (eU K 34 rfl) rfl H,trivial⟩ rfl rfl rfl rfl (⟨rfl,_,R.callB [(0,0)] hC (wnumber_ok ((b ++ countS t.ins.length ++ insS t.ins i) ++ t.ins[i]!.tx) t.ins[i]!.n.toUInt64 4 (by decide) (by first | omega | (simp only [List.length_append,lowI_len,List.length_cons,List.length_nil]; omega) | simp)) (EvB.cons (gV 31 rfl) rfl rfl rfl (EvB.cons (gV 35 rfl) rfl rfl rfl (EvB.cons (kI 4 rfl) rfl rfl rfl EvB.nil))) rfl ⟨rfl,trivial⟩ ⟨rfl,trivial⟩ rfl rfl rfl rfl rfl rfl (nU rfl),tV [(0,_),(3,_),(5,_),(14,_),(15,_),(16,_)] [(5,.var _),(3,.var _),(0,.var _)] 68 rfl rfl rfl ?_⟩)
   refine W.seq ?_
   refine W.l0 4 [.y 37 _,.y 38 _,.y 39 _] [] [] [(0,_),(3,_),(5,_),(14,_),(15,_),(16,_),(37,_),(39,_)] [(5,.var _),(3,.var _),(0,.var _)] 68 ⟨mU 0 rfl rfl,aU (fU 5 rfl rfl),aU (lU 38 rfl rfl rfl rfl rfl rfl rfl),trivial⟩ rfl rfl rfl rfl (⟨rfl,_,R.callB [(0,0)] hC (witem_ok (((b ++ countS t.ins.length ++ insS t.ins i) ++ t.ins[i]!.tx) ++ lowI t.ins[i]!.n.toUInt64 4) t.ins[i]!.script (by first | omega | (simp only [List.length_append,lowI_len,List.length_cons,List.length_nil]; omega) | simp) (by omega)) (EvB.cons (gV 37 rfl) rfl rfl rfl (EvB.cons (gV 39 rfl) rfl rfl rfl EvB.nil)) rfl ⟨rfl,trivial⟩ ⟨rfl,trivial⟩ rfl rfl rfl rfl rfl rfl (nU rfl),tV [(0,_),(3,_),(5,_),(14,_),(15,_),(16,_)] [(5,.var _),(3,.var _),(0,.var _)] 68 rfl rfl rfl ?_⟩)
   refine W.l0 5 [.y 41 _,.y 42 _,.y 43 _,.y 44 _] [] [] [(0,_),(3,_),(14,_),(15,_),(16,_),(41,_),(44,_)] [(5,.var _),(3,.var _),(0,.var _)] 68 ⟨mU 0 rfl rfl,aU (fU 5 rfl rfl),aU (lU 42 rfl rfl rfl rfl rfl rfl rfl),aU fun _ _ H K => R.conv (eU K 43 rfl) rfl H,trivial⟩ rfl rfl rfl rfl (⟨rfl,_,R.callB [(0,0)] hC (wnumber_ok ((((b ++ countS t.ins.length ++ insS t.ins i) ++ t.ins[i]!.tx) ++ lowI t.ins[i]!.n.toUInt64 4) ++ itemS t.ins[i]!.script) t.ins[i]!.seq.toUInt64 4 (by decide) (by first | omega | (simp only [List.length_append,lowI_len,List.length_cons,List.length_nil]; omega) | simp)) (EvB.cons (gV 41 rfl) rfl rfl rfl (EvB.cons (gV 44 rfl) rfl rfl rfl (EvB.cons (kI 4 rfl) rfl rfl rfl EvB.nil))) rfl ⟨rfl,trivial⟩ ⟨rfl,trivial⟩ rfl rfl rfl rfl rfl rfl (nU rfl),tV [(0,_),(3,_),(14,_),(15,_),(16,_)] [(5,.var _),(3,.var _),(0,.var _)] 68 rfl rfl rfl ?_⟩)
   refine W.dropB [0,3] (bx' := [(3,.var _),(0,.var _)]) rfl rfl rfl (pin_sub hD rfl) ?_
   refine W.l0 2 [.y 46 _,.y 16 _] [] [] [(0,_),(3,_),(14,_),(15,_),(16,_)] [(3,.var _),(0,.var _)] 68 ⟨aU fun _ _ H K => R.addN (i) (1) (eU K 16 rfl) (kI 1 rfl) bU H,mU 46 rfl rfl,trivial⟩ rfl rfl rfl rfl (tU rfl ?_)
   exact ⟨⟨(i + 1),bU⟩,(by simp only [insS,inS,List.append_assoc]; rfl),(by simp only []; omega)⟩
 · obtain rfl : i = t.ins.length := by omega
   refine W.exit ?_
   refine W.seq ?_
   refine W.l0 5 [.y 47 _,.y 48 _,.y 49 _,.y 50 _] [] [] [(0,_),(3,_),(47,_),(50,_)] [(3,.var _),(0,.var _)] 68 ⟨mU 0 rfl rfl,aU (fU 3 rfl rfl),aU (lU 48 rfl rfl rfl rfl rfl rfl rfl),aU fun _ _ H K => R.lenE (SC.sl (K 49 _ rfl)) (List.length_map _) H,trivial⟩ rfl rfl rfl rfl (⟨rfl,_,R.callB [(0,0)] hC (wcount_ok (b ++ countS t.ins.length ++ insS t.ins t.ins.length) t.outs.length (by simp only [List.length_append]; omega)) (EvB.cons (gV 47 rfl) rfl rfl rfl (EvB.cons (gV 50 rfl) rfl rfl rfl EvB.nil)) rfl ⟨rfl,trivial⟩ ⟨rfl,trivial⟩ rfl rfl rfl rfl rfl rfl (nU rfl),tV [(0,_),(3,_)] [(3,.var _),(0,.var _)] 68 rfl rfl rfl ?_⟩)
   refine W.seq ?_
   refine W.l0 4 [.y 52 _,.y 53 _,.y 54 _,.y 55 _] [] [] [(0,_),(53,_),(54,_),(55,_)] [(3,.var _),(0,.var _)] 68 ⟨aU (fU 3 rfl rfl),aU (lU 52 rfl rfl rfl rfl rfl rfl rfl),aU fun _ _ H K => R.lenE (SC.sl (K 53 _ rfl)) (List.length_map _) H,aU fun _ _ H _ => R.mov (kI 0 rfl) rfl H,trivial⟩ rfl rfl rfl rfl (tU rfl ?_)
   refine W.block ?_
   refine W.loop (α := {q__ : Nat // q__ ≤ t.outs.length}) (fun q__ => ⟨68,[(0,.ptr 0 0 []),(53,.sl none 2 (t.outs.map outD)),(54,.int ((t.outs.length : Nat) : Int)),(55,.int ((q__.1 : Nat) : Int))],[(3,.var (.agg [.u32 t.ver,.sl none 36 (t.ins.map inD),.sl none 2 (t.outs.map outD),.u32 t.lock])),(0,.var (.agg [.sl (some 5) 1 (((b ++ countS t.ins.length ++ insS t.ins t.ins.length) ++ countS t.outs.length ++ outsS t.outs q__.1).map D.u8)]))]⟩) (fun q__ => t.outs.length - q__.1) ⟨(0),bU⟩ (by simp only [outsS,List.append_nil]; rfl) ?_
   rintro ⟨i,hi⟩
   show W _ _ _ _ ⟨68,[(0,.ptr 0 0 []),(53,.sl none 2 (t.outs.map outD)),(54,.int ((t.outs.length : Nat) : Int)),(55,.int ((i : Nat) : Int))],[(3,.var (.agg [.u32 t.ver,.sl none 36 (t.ins.map inD),.sl none 2 (t.outs.map outD),.u32 t.lock])),(0,.var (.agg [.sl (some 5) 1 (((b ++ countS t.ins.length ++ insS t.ins t.ins.length) ++ countS t.outs.length ++ outsS t.outs i).map D.u8)]))]⟩
   have hi : i ≤ t.outs.length := hi
   have hib := hwf.outsb i hi
   have hx : i < t.outs.length → t.outs[i]!.script.length ≤ 1000000 := fun h => hwf.outScript h
   have hil := itemS_len t.outs[i]!.script
   refine W.seq ?_
   refine W.l0 1 [.y 56 _] [] [] [(0,_),(53,_),(54,_),(55,_),(56,_)] [(3,.var _),(0,.var _)] 68 ⟨aU fun _ _ H K => R.lssN (i) (t.outs.length) (eU K 55 rfl) (eU K 54 rfl) H,trivial⟩ rfl rfl rfl rfl (tU rfl ?_)
   refine W.seq ?_
   refine W.condD rfl (fun hc56 => ?_) (fun hc56 => ?_)
   · refine W.skip ?_
     refine W.seq ?_
     refine W.block ?_
     refine W.seq ?_
     refine W.l0 4 [.y 57 _,.y 58 _] [] [] [(0,_),(53,_),(54,_),(55,_),(58,_)] [(3,.var _),(0,.var _)] 68 ⟨aU fun _ _ H K => R.idxN (i) (SC.sl (K 53 _ rfl)) (evoI (eU K 55 rfl)) rfl bU H (by decide),aU fun _ _ H K => R.ldE (K 57 _ rfl) (SC.sl (K 53 _ rfl)) (map_get! (l := t.outs) bU) rfl rfl rfl rfl H,trivial⟩ rfl rfl rfl rfl (⟨rfl,_,R.alloc rfl (nU rfl),⟨rfl,_,R.stZ (gU 7 rfl) (xU 7 rfl) rfl (gV 58 rfl) (by rfl) (by rfl) (by rfl) (by rfl) rfl,tV [(0,_),(7,_),(53,_),(54,_),(55,_)] [(7,.var _),(3,.var _),(0,.var _)] 68 rfl rfl rfl ?_⟩⟩)
     refine W.seq ?_
     refine W.l0 4 [.y 59 _,.y 60 _,.y 61 _] [] [] [(0,_),(7,_),(53,_),(54,_),(55,_),(59,_),(61,_)] [(7,.var _),(3,.var _),(0,.var _)] 68 ⟨mU 0 rfl rfl,aU (fU 7 rfl rfl),aU (lU 60 rfl rfl rfl rfl rfl rfl rfl),trivial⟩ rfl rfl rfl rfl (⟨rfl,_,R.callB [(0,0)] hC (wnumber_ok ((b ++ countS t.ins.length ++ insS t.ins t.ins.length) ++ countS t.outs.length ++ outsS t.outs i) t.outs[i]!.value 8 (by decide) (by first | omega | (simp only [List.length_append,lowI_len,List.length_cons,List.length_nil]; omega) | simp)) (EvB.cons (gV 59 rfl) rfl rfl rfl (EvB.cons (gV 61 rfl) rfl rfl rfl (EvB.cons (kI 8 rfl) rfl rfl rfl EvB.nil))) rfl ⟨rfl,trivial⟩ ⟨rfl,trivial⟩ rfl rfl rfl rfl rfl rfl (nU rfl),tV [(0,_),(7,_),(53,_),(54,_),(55,_)] [(7,.var _),(3,.var _),(0,.var _)] 68 rfl rfl rfl ?_⟩)
     refine W.l0 4 [.y 63 _,.y 64 _,.y 65 _] [] [] [(0,_),(53,_),(54,_),(55,_),(63,_),(65,_)] [(7,.var _),(3,.var _),(0,.var _)] 68 ⟨mU 0 rfl rfl,aU (fU 7 rfl rfl),aU (lU 64 rfl rfl rfl rfl rfl rfl rfl),trivial⟩ rfl rfl rfl rfl (⟨rfl,_,R.callB [(0,0)] hC (witem_ok (((b ++ countS t.ins.length ++ insS t.ins t.ins.length) ++ countS t.outs.length ++ outsS t.outs i) ++ lowI t.outs[i]!.value 8) t.outs[i]!.script (by first | omega | (simp only [List.length_append,lowI_len,List.length_cons,List.length_nil]; omega) | simp) (by omega)) (EvB.cons (gV 63 rfl) rfl rfl rfl (EvB.cons (gV 65 rfl) rfl rfl rfl EvB.nil)) rfl ⟨rfl,trivial⟩ ⟨rfl,trivial⟩ rfl rfl rfl rfl rfl rfl (nU rfl),tV [(0,_),(53,_),(54,_),(55,_)] [(7,.var _),(3,.var _),(0,.var _)] 68 rfl rfl rfl ?_⟩)
     refine W.dropB [0,3] (bx' := [(3,.var _),(0,.var _)]) rfl rfl rfl (pin_sub hD rfl) ?_
     refine W.l0 2 [.y 67 _,.y 55 _] [] [] [(0,_),(53,_),(54,_),(55,_)] [(3,.var _),(0,.var _)] 68 ⟨aU fun _ _ H K => R.addN (i) (1) (eU K 55 rfl) (kI 1 rfl) bU H,mU 67 rfl rfl,trivial⟩ rfl rfl rfl rfl (tU rfl ?_)
     exact ⟨⟨(i + 1),bU⟩,(by simp only [outsS,outS',List.append_assoc]; rfl),(by simp only []; omega)⟩
   · obtain rfl : i = t.outs.length := by omega
     refine W.exit ?_
     exact EndsB.none' (r := .dead) (.inl rfl) rfl (by simp only [bodyS,List.append_assoc]; rfl) ⟨rfl,trivial⟩

end Go.Sx

namespace Go.Sx
open Go.Proofs
theorem bare_ok (t : TxS) (hwf : t.wf) : Fn Tryd.prog gl 15 [txD t] (.sl (some 5) 1 ((bareS t).map D.u8)) := by
 refine Fn.of (n := 23) Tryd.func15 rfl rfl rfl (nU rfl) fun C hC hD => ?_
 refine W.seq ?_
 refine W.l0 2 [] [] [] [(0,_)] [] 23 trivial rfl rfl rfl rfl (⟨rfl,_,R.box (gV 0 rfl) rfl rfl (nU rfl),⟨rfl,_,R.asg (kN rfl) rfl (nU rfl),tV [(1,_)] [(1,.var _)] 23 rfl rfl rfl ?_⟩⟩)
 refine W.seq ?_
 refine W.l0 3 [.y 4 _] [] [] [(1,_),(4,_)] [(1,.var _)] 23 ⟨aU fun _ _ H _ => R.bldSE (l := [.nils]) (l' := [_]) (.nil rfl) trivial H,trivial⟩ rfl rfl rfl rfl (⟨rfl,_,R.box (gV 4 rfl) rfl rfl (nU rfl),⟨rfl,_,R.asg (gV 5 rfl) rfl (nU rfl),tV [(1,_),(3,_)] [(5,.var _),(1,.var _)] 23 rfl rfl rfl ?_⟩⟩)
 refine W.seq ?_
 refine W.asOwnP 5 [0] 5 1 (bx' := [(5,.var _),(1,.var _)]) rfl rfl rfl rfl rfl ?_
 have hbl := hwf.body
 refine W.l0 5 [.y 6 _,.y 7 _,.y 8 _,.y 9 _] [] [] [(1,_),(3,_),(6,_),(9,_)] [(5,.var _),(1,.var _)] 23 ⟨mU 3 rfl rfl,aU (fU 1 rfl rfl),aU (lU 7 rfl rfl rfl rfl rfl rfl rfl),aU fun _ _ H K => R.conv (eU K 8 rfl) rfl H,trivial⟩ rfl rfl rfl rfl (⟨rfl,_,R.callB [(0,5)] hC (wnumber_ok [] t.ver.toUInt64 4 (by decide) (by first | omega | (simp only [List.length_append,lowI_len,List.length_cons,List.length_nil]; omega) | simp)) (EvB.cons (gV 6 rfl) rfl rfl rfl (EvB.cons (gV 9 rfl) rfl rfl rfl (EvB.cons (kI 4 rfl) rfl rfl rfl EvB.nil))) rfl ⟨rfl,trivial⟩ ⟨rfl,trivial⟩ rfl rfl rfl rfl rfl rfl (nU rfl),tV [(1,_),(3,_)] [(5,.var _),(1,.var _)] 23 rfl rfl rfl ?_⟩)
 refine W.seq ?_
 refine W.l0 3 [.y 11 _,.y 12 _] [] [] [(1,_),(3,_),(11,_),(12,_)] [(5,.var _),(1,.var _)] 23 ⟨mU 3 rfl rfl,aU (lU 1 rfl rfl rfl rfl rfl rfl rfl),trivial⟩ rfl rfl rfl rfl (⟨rfl,_,R.callB [(0,5)] hC (wbody_ok ([] ++ lowI t.ver.toUInt64 4) t hwf (by first | omega | (simp only [List.length_append,lowI_len,List.length_cons,List.length_nil]; omega) | simp)) (EvB.cons (gV 11 rfl) rfl rfl rfl (EvB.cons (gV 12 rfl) rfl rfl rfl EvB.nil)) rfl ⟨rfl,trivial⟩ ⟨rfl,trivial⟩ rfl rfl rfl rfl rfl rfl (nU rfl),tV [(1,_),(3,_)] [(5,.var _),(1,.var _)] 23 rfl rfl rfl ?_⟩)
 refine W.seq ?_
 refine W.l0 5 [.y 14 _,.y 15 _,.y 16 _,.y 17 _] [] [] [(3,_),(14,_),(17,_)] [(5,.var _),(1,.var _)] 23 ⟨mU 3 rfl rfl,aU (fU 1 rfl rfl),aU (lU 15 rfl rfl rfl rfl rfl rfl rfl),aU fun _ _ H K => R.conv (eU K 16 rfl) rfl H,trivial⟩ rfl rfl rfl rfl (⟨rfl,_,R.callB [(0,5)] hC (wnumber_ok (([] ++ lowI t.ver.toUInt64 4) ++ bodyS t) t.lock.toUInt64 4 (by decide) (by first | omega | (simp only [List.length_append,lowI_len,List.length_cons,List.length_nil]; omega) | simp)) (EvB.cons (gV 14 rfl) rfl rfl rfl (EvB.cons (gV 17 rfl) rfl rfl rfl (EvB.cons (kI 4 rfl) rfl rfl rfl EvB.nil))) rfl ⟨rfl,trivial⟩ ⟨rfl,trivial⟩ rfl rfl rfl rfl rfl rfl (nU rfl),tV [(3,_)] [(5,.var _),(1,.var _)] 23 rfl rfl rfl ?_⟩)
 refine W.seq ?_
 refine W.l0 5 [.y 19 _,.y 20 _,.y 21 _,.y 22 _] [] [] [(22,_)] [(5,.var _),(1,.var _)] 23 ⟨mU 3 rfl rfl,aU fun _ _ H K => R.nilcP (K 19 _ rfl) H,aU (fU 20 rfl rfl),aU fun _ B H K => R.ldO (K 21 _ rfl) (B 5 _ rfl) rfl H,trivial⟩ rfl rfl rfl rfl (⟨rfl,_,R.asgBP (gU 22 rfl) (xU 5 rfl) rfl rfl rfl rfl (gU 22 rfl) (nU rfl) (by decide),tV [(2,_)] [(5,.var _),(1,.var _)] 23 rfl rfl rfl ?_⟩)
 refine W.ret ?_
 exact Ends.one' (.inr rfl) rfl (by simp only [bareS,List.nil_append]) rfl rfl trivial

theorem witnessed_ok (t : TxS) (hwf : t.wf) : Fn Tryd.prog gl 29 [txD t] (.bool (seenS t)) := by
 refine Fn.of (n := 17) Tryd.func29 rfl rfl rfl (nU rfl) fun C hC hD => ?_
 have h1 := hwf.ins
 refine W.seq ?_
 refine W.l0 2 [] [] [] [(0,_)] [] 17 trivial rfl rfl rfl rfl (⟨rfl,_,R.box (gV 0 rfl) rfl rfl (nU rfl),⟨rfl,_,R.asg (kB false rfl) rfl (nU rfl),tV [(1,_)] [(1,.var _)] 17 rfl rfl rfl ?_⟩⟩)
 refine W.seq ?_
 refine W.seq ?_
 refine W.l0 4 [.y 5 _,.y 6 _,.y 7 _,.y 8 _] [] [] [(6,_),(7,_),(8,_)] [(1,.var _)] 17 ⟨aU (fU 1 rfl rfl),aU (lU 5 rfl rfl rfl rfl rfl rfl rfl),aU fun _ _ H K => R.lenE (SC.sl (K 6 _ rfl)) (List.length_map _) H,aU fun _ _ H _ => R.mov (kI 0 rfl) rfl H,trivial⟩ rfl rfl rfl rfl (tU rfl ?_)
 refine W.block ?_
 refine W.loop (α := {q__ : Nat // q__ ≤ t.ins.length ∧ ∀ k < q__,¬ 0 < t.ins[k]!.wit.length}) (fun q__ => ⟨17,[(6,.sl none 36 (t.ins.map inD)),(7,.int ((t.ins.length : Nat) : Int)),(8,.int ((q__.1 : Nat) : Int))],[(1,.var (.agg [.u32 t.ver,.sl none 36 (t.ins.map inD),.sl none 2 (t.outs.map outD),.u32 t.lock]))]⟩) (fun q__ => t.ins.length - q__.1) ⟨(0),⟨Nat.zero_le _,fun k h => absurd h (Nat.not_lt_zero _)⟩⟩ rfl ?_
 rintro ⟨i,⟨hi,hno⟩⟩
 show W _ _ _ _ ⟨17,[(6,.sl none 36 (t.ins.map inD)),(7,.int ((t.ins.length : Nat) : Int)),(8,.int ((i : Nat) : Int))],[(1,.var (.agg [.u32 t.ver,.sl none 36 (t.ins.map inD),.sl none 2 (t.outs.map outD),.u32 t.lock]))]⟩
 have hi : i ≤ t.ins.length := hi
 have hno : ∀ k < i,¬ 0 < t.ins[k]!.wit.length := hno
 have hwl : i < t.ins.length → t.ins[i]!.wit.length ≤ 1000000 := fun h => (hwf.witl _ (get_mem h)).1
 refine W.seq ?_
 refine W.l0 1 [.y 9 _] [] [] [(6,_),(7,_),(8,_),(9,_)] [(1,.var _)] 17 ⟨aU fun _ _ H K => R.lssN (i) (t.ins.length) (eU K 8 rfl) (eU K 7 rfl) H,trivial⟩ rfl rfl rfl rfl (tU rfl ?_)
 refine W.seq ?_
 refine W.condD rfl (fun hc9 => ?_) (fun hc9 => ?_)
 · refine W.skip ?_
   refine W.seq ?_
   refine W.block ?_
   refine W.seq ?_
   refine W.l0 4 [.y 10 _,.y 11 _] [] [] [(6,_),(7,_),(8,_),(11,_)] [(1,.var _)] 17 ⟨aU fun _ _ H K => R.idxN (i) (SC.sl (K 6 _ rfl)) (evoI (eU K 8 rfl)) rfl bU H (by decide),aU fun _ _ H K => R.ldE (K 10 _ rfl) (SC.sl (K 6 _ rfl)) (map_get! (l := t.ins) bU) rfl rfl rfl rfl H,trivial⟩ rfl rfl rfl rfl (⟨rfl,_,R.alloc rfl (nU rfl),⟨rfl,_,R.stZ (gU 4 rfl) (xU 4 rfl) rfl (gV 11 rfl) (by rfl) (by rfl) (by rfl) (by rfl) rfl,tV [(4,_),(6,_),(7,_),(8,_)] [(4,.var _),(1,.var _)] 17 rfl rfl rfl ?_⟩⟩)
   refine W.seq ?_
   refine W.l0 4 [.y 12 _,.y 13 _,.y 14 _,.y 15 _] [] [] [(6,_),(7,_),(8,_),(15,_)] [(4,.var _),(1,.var _)] 17 ⟨aU (fU 4 rfl rfl),aU (lU 12 rfl rfl rfl rfl rfl rfl rfl),aU fun _ _ H K => R.lenE (SC.sl (K 13 _ rfl)) (List.length_map _) H,aU fun _ _ H K => R.gtrN (t.ins[i]!.wit.length) (0) (eU K 14 rfl) (kI 0 rfl) H,trivial⟩ rfl rfl rfl rfl (tU rfl ?_)
   refine W.condD rfl (fun hc15 => ?_) (fun hc15 => ?_)
   · refine W.seq ?_
     refine W.dropB [1] (bx' := [(1,.var _)]) rfl rfl rfl (pin_sub hD rfl) ?_
     refine W.l0 1 [.y 2 _] [] [] [(2,_)] [(1,.var _)] 17 ⟨aU fun _ _ H _ => R.asg (kB true rfl) rfl H,trivial⟩ rfl rfl rfl rfl (tU rfl ?_)
     refine W.ret ?_
     exact Ends.one' (.inr rfl) rfl ((congrArg D.bool (seen_true hc9 hc15)).symm) rfl rfl trivial
   · refine W.skip ?_
     refine W.dropB [1] (bx' := [(1,.var _)]) rfl rfl rfl (pin_sub hD rfl) ?_
     refine W.l0 2 [.y 16 _,.y 8 _] [] [] [(6,_),(7,_),(8,_)] [(1,.var _)] 17 ⟨aU fun _ _ H K => R.addN (i) (1) (eU K 8 rfl) (kI 1 rfl) bU H,mU 16 rfl rfl,trivial⟩ rfl rfl rfl rfl (tU rfl ?_)
     exact ⟨⟨(i + 1),⟨by omega,fun k hk => (Nat.lt_succ_iff_lt_or_eq.1 hk).elim (hno k) (fun e => e ▸ hc15)⟩⟩,rfl,(by simp only []; omega)⟩
 · obtain rfl : i = t.ins.length := by omega
   refine W.exit ?_
   refine W.seq ?_
   refine W.l0 1 [.y 2 _] [] [] [(2,_)] [(1,.var _)] 17 ⟨aU fun _ _ H _ => R.asg (kB false rfl) rfl H,trivial⟩ rfl rfl rfl rfl (tU rfl ?_)
   refine W.ret ?_
   exact Ends.one' (.inr rfl) rfl ((congrArg D.bool (seen_false hno)).symm) rfl rfl trivial

theorem put_ok (t : TxS) (hwf : t.wf) : Fn Tryd.prog gl 13 [txD t] (.sl (some 5) 1 ((putS t).map D.u8)) := by
 refine Fn.of (n := 65) Tryd.func13 rfl rfl rfl (nU rfl) fun C hC hD => ?_
 have h1 := hwf.ins
 have hbl := hwf.body
 have hw0 := hwf.witsb _ (Nat.le_refl _)
 refine W.seq ?_
 refine W.l0 2 [] [] [] [(0,_)] [] 65 trivial rfl rfl rfl rfl (⟨rfl,_,R.box (gV 0 rfl) rfl rfl (nU rfl),⟨rfl,_,R.asg (kN rfl) rfl (nU rfl),tV [(1,_)] [(1,.var _)] 65 rfl rfl rfl ?_⟩⟩)
 refine W.seq ?_
 refine W.seq ?_
 refine W.l0 3 [.y 8 _,.y 9 _,.y 10 _] [] [] [(1,_),(10,_)] [(1,.var _)] 65 ⟨aU (lU 1 rfl rfl rfl rfl rfl rfl rfl),aU fun _ _ H K => R.callG hC (witnessed_ok t hwf) (Bors.cons (Bor.pur (eU K 8 rfl) rfl rfl) Bors.nil) (FrsR.one (.bool _)) H,aU fun _ _ H K => R.un (eU K 9 rfl) rfl H,trivial⟩ rfl rfl rfl rfl (tU rfl ?_)
 refine W.cond rfl (fun hc10 => ?_) (fun hc10 => ?_)
 · refine W.seq ?_
   refine W.l0 3 [.y 11 _,.y 12 _,.y 2 _] [(2,12)] [(2,12)] [(2,_)] [(1,.var _)] 65 ⟨aU (lU 1 rfl rfl rfl rfl rfl rfl rfl),aU fun _ _ H K => R.callG hC (bare_ok t hwf) (Bors.cons (Bor.pur (eU K 11 rfl) rfl rfl) Bors.nil) (FrsR.one (.sl _ _ _ (frs_map fun _ => .u8 _))) H,aU fun _ _ H K => R.asgO (K 12 _ rfl) rfl H (by decide),trivial⟩ rfl rfl rfl rfl (tU rfl ?_)
   refine W.ret ?_
   exact Ends.one' (.inr rfl) rfl (by rw [putS,if_neg (by simpa using hc10)]) rfl rfl trivial
 · refine W.skip ?_
   refine W.seq ?_
   refine W.l0 3 [.y 13 _] [] [] [(1,_),(13,_)] [(1,.var _)] 65 ⟨aU fun _ _ H _ => R.bldSE (l := [.nils]) (l' := [_]) (.nil rfl) trivial H,trivial⟩ rfl rfl rfl rfl (⟨rfl,_,R.box (gV 13 rfl) rfl rfl (nU rfl),⟨rfl,_,R.asg (gV 14 rfl) rfl (nU rfl),tV [(1,_),(3,_)] [(14,.var _),(1,.var _)] 65 rfl rfl rfl ?_⟩⟩)
   refine W.seq ?_
   refine W.asOwnP 14 [0] 5 1 (bx' := [(14,.var _),(1,.var _)]) rfl rfl rfl rfl rfl ?_
   refine W.l0 5 [.y 15 _,.y 16 _,.y 17 _,.y 18 _] [] [] [(1,_),(3,_),(15,_),(18,_)] [(14,.var _),(1,.var _)] 65 ⟨mU 3 rfl rfl,aU (fU 1 rfl rfl),aU (lU 16 rfl rfl rfl rfl rfl rfl rfl),aU fun _ _ H K => R.conv (eU K 17 rfl) rfl H,trivial⟩ rfl rfl rfl rfl (⟨rfl,_,R.callB [(0,14)] hC (wnumber_ok [] t.ver.toUInt64 4 (by decide) (by first | omega | (simp only [List.length_append,lowI_len,List.length_cons,List.length_nil]; omega) | simp)) (EvB.cons (gV 15 rfl) rfl rfl rfl (EvB.cons (gV 18 rfl) rfl rfl rfl (EvB.cons (kI 4 rfl) rfl rfl rfl EvB.nil))) rfl ⟨rfl,trivial⟩ ⟨rfl,trivial⟩ rfl rfl rfl rfl rfl rfl (nU rfl),tV [(1,_),(3,_)] [(14,.var _),(1,.var _)] 65 rfl rfl rfl ?_⟩)
   refine W.seq ?_
   refine W.l0 10 [.y 20 _,.y 21 _,.y 22 _,.y 23 _,.y 24 _,.y 25 _] [] [] [(1,_),(3,_),(20,_),(24,_),(25,_)] [(14,.var _),(1,.var _)] 65 ⟨mU 3 rfl rfl,mU 3 rfl rfl,aU fun _ _ H K => R.nilcP (K 21 _ rfl) H,aU (fU 22 rfl rfl),aU fun _ B H K => R.ldO (K 23 _ rfl) (B 14 _ rfl) rfl H,aU fun _ _ H _ => R.bslE (z := 1) (.cons (show ev _ _ (.const (.int .u8 0)) = some (.u8 0) from rfl) (.cons (show ev _ _ (.const (.int .u8 1)) = some (.u8 1) from rfl) .nil)) ⟨⟨rfl,rfl,rfl⟩,⟨rfl,rfl,rfl⟩,trivial⟩ rfl H (by decide),trivial⟩ rfl rfl rfl rfl (⟨rfl,_,R.appBP (gU 24 rfl) (xU 14 rfl) rfl rfl rfl rfl (gU 24 rfl) (SrcO.sc (SC.sl (gU 25 rfl)) (pur_lit rfl)) (show _ = (((([] ++ lowI t.ver.toUInt64 4) ++ [0,1])).map D.u8) from (by simp)) (by simp [lowI_len]) (nU rfl) (by decide) (by decide),⟨rfl,_,R.nilcP (gU 20 rfl) (nU rfl),⟨rfl,_,R.fdP (gU 27 rfl) (nU rfl),⟨rfl,_,R.stOZ (gU 28 rfl) (xU 14 rfl) rfl (gU 26 rfl) rfl rfl (by rfl) (by rfl) rfl rfl,tV [(1,_),(3,_)] [(14,.var _),(1,.var _)] 65 rfl rfl rfl ?_⟩⟩⟩⟩)
   refine W.seq ?_
   refine W.l0 3 [.y 29 _,.y 30 _] [] [] [(1,_),(3,_),(29,_),(30,_)] [(14,.var _),(1,.var _)] 65 ⟨mU 3 rfl rfl,aU (lU 1 rfl rfl rfl rfl rfl rfl rfl),trivial⟩ rfl rfl rfl rfl (⟨rfl,_,R.callB [(0,14)] hC (wbody_ok (([] ++ lowI t.ver.toUInt64 4) ++ [0,1]) t hwf (by first | omega | (simp only [List.length_append,lowI_len,List.length_cons,List.length_nil]; omega) | simp)) (EvB.cons (gV 29 rfl) rfl rfl rfl (EvB.cons (gV 30 rfl) rfl rfl rfl EvB.nil)) rfl ⟨rfl,trivial⟩ ⟨rfl,trivial⟩ rfl rfl rfl rfl rfl rfl (nU rfl),tV [(1,_),(3,_)] [(14,.var _),(1,.var _)] 65 rfl rfl rfl ?_⟩)
   refine W.seq ?_
   refine W.seq ?_
   refine W.l0 4 [.y 32 _,.y 33 _,.y 34 _,.y 35 _] [] [] [(1,_),(3,_),(33,_),(34,_),(35,_)] [(14,.var _),(1,.var _)] 65 ⟨aU (fU 1 rfl rfl),aU (lU 32 rfl rfl rfl rfl rfl rfl rfl),aU fun _ _ H K => R.lenE (SC.sl (K 33 _ rfl)) (List.length_map _) H,aU fun _ _ H _ => R.mov (kI 0 rfl) rfl H,trivial⟩ rfl rfl rfl rfl (tU rfl ?_)
   refine W.block ?_
   refine W.loop (α := {q__ : Nat // q__ ≤ t.ins.length}) (fun q__ => ⟨65,[(1,.ptr 1 0 []),(3,.ptr 14 0 []),(33,.sl none 36 (t.ins.map inD)),(34,.int ((t.ins.length : Nat) : Int)),(35,.int ((q__.1 : Nat) : Int))],[(14,.var (.agg [.sl (some 5) 1 ((((([] ++ lowI t.ver.toUInt64 4) ++ [0,1]) ++ bodyS t) ++ witsS t.ins q__.1).map D.u8)])),(1,.var (.agg [.u32 t.ver,.sl none 36 (t.ins.map inD),.sl none 2 (t.outs.map outD),.u32 t.lock]))]⟩) (fun q__ => t.ins.length - q__.1) ⟨(0),bU⟩ (by simp only [witsS,List.append_nil]; rfl) ?_
   rintro ⟨i,hi⟩
   show W _ _ _ _ ⟨65,[(1,.ptr 1 0 []),(3,.ptr 14 0 []),(33,.sl none 36 (t.ins.map inD)),(34,.int ((t.ins.length : Nat) : Int)),(35,.int ((i : Nat) : Int))],[(14,.var (.agg [.sl (some 5) 1 ((((([] ++ lowI t.ver.toUInt64 4) ++ [0,1]) ++ bodyS t) ++ witsS t.ins i).map D.u8)])),(1,.var (.agg [.u32 t.ver,.sl none 36 (t.ins.map inD),.sl none 2 (t.outs.map outD),.u32 t.lock]))]⟩
   have hi : i ≤ t.ins.length := hi
   have hib := hwf.witsb i hi
   have hx : i < t.ins.length → t.ins[i]!.wit.length ≤ 1000000 ∧ ∀ j ≤ t.ins[i]!.wit.length,(witS t.ins[i]!.wit j).length ≤ 1500000 := fun h => hwf.witl _ (get_mem h)
   have hcl := countS_len t.ins[i]!.wit.length
   refine W.seq ?_
   refine W.l0 1 [.y 36 _] [] [] [(1,_),(3,_),(33,_),(34,_),(35,_),(36,_)] [(14,.var _),(1,.var _)] 65 ⟨aU fun _ _ H K => R.lssN (i) (t.ins.length) (eU K 35 rfl) (eU K 34 rfl) H,trivial⟩ rfl rfl rfl rfl (tU rfl ?_)
   refine W.seq ?_
   refine W.condD rfl (fun hc36 => ?_) (fun hc36 => ?_)
   · refine W.skip ?_
     refine W.seq ?_
     refine W.block ?_
     refine W.seq ?_
     refine W.l0 4 [.y 37 _,.y 38 _] [] [] [(1,_),(3,_),(33,_),(34,_),(35,_),(38,_)] [(14,.var _),(1,.var _)] 65 ⟨aU fun _ _ H K => R.idxN (i) (SC.sl (K 33 _ rfl)) (evoI (eU K 35 rfl)) rfl bU H (by decide),aU fun _ _ H K => R.ldE (K 37 _ rfl) (SC.sl (K 33 _ rfl)) (map_get! (l := t.ins) bU) rfl rfl rfl rfl H,trivial⟩ rfl rfl rfl rfl (⟨rfl,_,R.alloc rfl (nU rfl),⟨rfl,_,R.stZ (gU 5 rfl) (xU 5 rfl) rfl (gV 38 rfl) (by rfl) (by rfl) (by rfl) (by rfl) rfl,tV [(1,_),(3,_),(5,_),(33,_),(34,_),(35,_)] [(5,.var _),(14,.var _),(1,.var _)] 65 rfl rfl rfl ?_⟩⟩)
     refine W.seq ?_
     refine W.l0 5 [.y 39 _,.y 40 _,.y 41 _,.y 42 _] [] [] [(1,_),(3,_),(5,_),(33,_),(34,_),(35,_),(39,_),(42,_)] [(5,.var _),(14,.var _),(1,.var _)] 65 ⟨mU 3 rfl rfl,aU (fU 5 rfl rfl),aU (lU 40 rfl rfl rfl rfl rfl rfl rfl),aU fun _ _ H K => R.lenE (SC.sl (K 41 _ rfl)) (List.length_map _) H,trivial⟩ rfl rfl rfl rfl (⟨rfl,_,R.callB [(0,14)] hC (wcount_ok (((([] ++ lowI t.ver.toUInt64 4) ++ [0,1]) ++ bodyS t) ++ witsS t.ins i) t.ins[i]!.wit.length (by first | omega | (simp only [List.length_append,lowI_len,List.length_cons,List.length_nil]; omega) | simp)) (EvB.cons (gV 39 rfl) rfl rfl rfl (EvB.cons (gV 42 rfl) rfl rfl rfl EvB.nil)) rfl ⟨rfl,trivial⟩ ⟨rfl,trivial⟩ rfl rfl rfl rfl rfl rfl (nU rfl),tV [(1,_),(3,_),(5,_),(33,_),(34,_),(35,_)] [(5,.var _),(14,.var _),(1,.var _)] 65 rfl rfl rfl ?_⟩)
     refine W.seq ?_
     refine W.l0 4 [.y 44 _,.y 45 _,.y 46 _,.y 47 _] [] [] [(1,_),(3,_),(33,_),(34,_),(35,_),(45,_),(46,_),(47,_)] [(5,.var _),(14,.var _),(1,.var _)] 65 ⟨aU (fU 5 rfl rfl),aU (lU 44 rfl rfl rfl rfl rfl rfl rfl),aU fun _ _ H K => R.lenE (SC.sl (K 45 _ rfl)) (List.length_map _) H,aU fun _ _ H _ => R.mov (kI 0 rfl) rfl H,trivial⟩ rfl rfl rfl rfl (tU rfl ?_)
     refine W.block ?_
     refine W.loop (α := {q__ : Nat // q__ ≤ t.ins[i]!.wit.length}) (fun q__ => ⟨65,[(1,.ptr 1 0 []),(3,.ptr 14 0 []),(33,.sl none 36 (t.ins.map inD)),(34,.int ((t.ins.length : Nat) : Int)),(35,.int ((i : Nat) : Int)),(45,.sl none 1 (t.ins[i]!.wit.map bytesD)),(46,.int ((t.ins[i]!.wit.length : Nat) : Int)),(47,.int ((q__.1 : Nat) : Int))],[(5,.var (inD t.ins[i]!)),(14,.var (.agg [.sl (some 5) 1 ((((((([] ++ lowI t.ver.toUInt64 4) ++ [0,1]) ++ bodyS t) ++ witsS t.ins i) ++ countS t.ins[i]!.wit.length) ++ witS t.ins[i]!.wit q__.1).map D.u8)])),(1,.var (.agg [.u32 t.ver,.sl none 36 (t.ins.map inD),.sl none 2 (t.outs.map outD),.u32 t.lock]))]⟩) (fun q__ => t.ins[i]!.wit.length - q__.1) ⟨(0),bU⟩ (by simp only [witS,List.append_nil]; rfl) ?_
     rintro ⟨j,hj⟩
     show W _ _ _ _ ⟨65,[(1,.ptr 1 0 []),(3,.ptr 14 0 []),(33,.sl none 36 (t.ins.map inD)),(34,.int ((t.ins.length : Nat) : Int)),(35,.int ((i : Nat) : Int)),(45,.sl none 1 (t.ins[i]!.wit.map bytesD)),(46,.int ((t.ins[i]!.wit.length : Nat) : Int)),(47,.int ((j : Nat) : Int))],[(5,.var (inD t.ins[i]!)),(14,.var (.agg [.sl (some 5) 1 ((((((([] ++ lowI t.ver.toUInt64 4) ++ [0,1]) ++ bodyS t) ++ witsS t.ins i) ++ countS t.ins[i]!.wit.length) ++ witS t.ins[i]!.wit j).map D.u8)])),(1,.var (.agg [.u32 t.ver,.sl none 36 (t.ins.map inD),.sl none 2 (t.outs.map outD),.u32 t.lock]))]⟩
     have hj : j ≤ t.ins[i]!.wit.length := hj
     have hjb := (hx (by omega)).2 j hj
     have hil := itemS_len t.ins[i]!.wit[j]!
     have hwi : j < t.ins[i]!.wit.length → t.ins[i]!.wit[j]!.length ≤ 1000000 := fun h => hwf.witi _ (get_mem (show i < t.ins.length by omega)) _ (get_mem h)
     refine W.seq ?_
     refine W.l0 1 [.y 48 _] [] [] [(1,_),(3,_),(33,_),(34,_),(35,_),(45,_),(46,_),(47,_),(48,_)] [(5,.var _),(14,.var _),(1,.var _)] 65 ⟨aU fun _ _ H K => R.lssN (j) (t.ins[i]!.wit.length) (eU K 47 rfl) (eU K 46 rfl) H,trivial⟩ rfl rfl rfl rfl (tU rfl ?_)
     refine W.seq ?_
     refine W.condD rfl (fun hc48 => ?_) (fun hc48 => ?_)
     · refine W.skip ?_
       refine W.seq ?_
       refine W.block ?_
       refine W.seq ?_
       refine W.l0 3 [.y 49 _,.y 50 _,.y 7 _] [] [] [(1,_),(3,_),(7,_),(33,_),(34,_),(35,_),(45,_),(46,_),(47,_)] [(5,.var _),(14,.var _),(1,.var _)] 65 ⟨aU fun _ _ H K => R.idxN (j) (SC.sl (K 45 _ rfl)) (evoI (eU K 47 rfl)) rfl bU H (by decide),aU fun _ _ H K => R.ldE (K 49 _ rfl) (SC.sl (K 45 _ rfl)) (map_get! (l := t.ins[i]!.wit) bU) rfl rfl rfl rfl H,aU fun _ _ H K => R.asg (eU K 50 rfl) rfl H,trivial⟩ rfl rfl rfl rfl (tU rfl ?_)
       refine W.l0 3 [.y 51 _,.y 52 _] [] [] [(1,_),(3,_),(33,_),(34,_),(35,_),(45,_),(46,_),(47,_),(51,_),(52,_)] [(5,.var _),(14,.var _),(1,.var _)] 65 ⟨mU 3 rfl rfl,mU 7 rfl rfl,trivial⟩ rfl rfl rfl rfl (⟨rfl,_,R.callB [(0,14)] hC (witem_ok (((((([] ++ lowI t.ver.toUInt64 4) ++ [0,1]) ++ bodyS t) ++ witsS t.ins i) ++ countS t.ins[i]!.wit.length) ++ witS t.ins[i]!.wit j) t.ins[i]!.wit[j]! (by first | omega | (simp only [List.length_append,lowI_len,List.length_cons,List.length_nil]; omega) | simp) (by omega)) (EvB.cons (gV 51 rfl) rfl rfl rfl (EvB.cons (gV 52 rfl) rfl rfl rfl EvB.nil)) rfl ⟨rfl,trivial⟩ ⟨rfl,trivial⟩ rfl rfl rfl rfl rfl rfl (nU rfl),tV [(1,_),(3,_),(33,_),(34,_),(35,_),(45,_),(46,_),(47,_)] [(5,.var _),(14,.var _),(1,.var _)] 65 rfl rfl rfl ?_⟩)
       refine W.l0 2 [.y 54 _,.y 47 _] [] [] [(1,_),(3,_),(33,_),(34,_),(35,_),(45,_),(46,_),(47,_)] [(5,.var _),(14,.var _),(1,.var _)] 65 ⟨aU fun _ _ H K => R.addN (j) (1) (eU K 47 rfl) (kI 1 rfl) bU H,mU 54 rfl rfl,trivial⟩ rfl rfl rfl rfl (tU rfl ?_)
       exact ⟨⟨(j + 1),bU⟩,(by simp only [witS,List.append_assoc]; rfl),(by simp only []; omega)⟩
     · obtain rfl : j = t.ins[i]!.wit.length := by omega
       refine W.exit ?_
       refine W.dropB [1,14] (bx' := [(14,.var _),(1,.var _)]) rfl rfl rfl (pin_sub hD rfl) ?_
       refine W.l0 2 [.y 55 _,.y 35 _] [] [] [(1,_),(3,_),(33,_),(34,_),(35,_)] [(14,.var _),(1,.var _)] 65 ⟨aU fun _ _ H K => R.addN (i) (1) (eU K 35 rfl) (kI 1 rfl) bU H,mU 55 rfl rfl,trivial⟩ rfl rfl rfl rfl (tU rfl ?_)
       exact ⟨⟨(i + 1),bU⟩,(by simp only [witsS,List.append_assoc]),(by simp only []; omega)⟩
   · obtain rfl : i = t.ins.length := by omega
     refine W.exit ?_
     refine W.seq ?_
     refine W.l0 5 [.y 56 _,.y 57 _,.y 58 _,.y 59 _] [] [] [(3,_),(56,_),(59,_)] [(14,.var _),(1,.var _)] 65 ⟨mU 3 rfl rfl,aU (fU 1 rfl rfl),aU (lU 57 rfl rfl rfl rfl rfl rfl rfl),aU fun _ _ H K => R.conv (eU K 58 rfl) rfl H,trivial⟩ rfl rfl rfl rfl (⟨rfl,_,R.callB [(0,14)] hC (wnumber_ok (((([] ++ lowI t.ver.toUInt64 4) ++ [0,1]) ++ bodyS t) ++ witsS t.ins t.ins.length) t.lock.toUInt64 4 (by decide) (by first | omega | (simp only [List.length_append,lowI_len,List.length_cons,List.length_nil]; omega) | simp)) (EvB.cons (gV 56 rfl) rfl rfl rfl (EvB.cons (gV 59 rfl) rfl rfl rfl (EvB.cons (kI 4 rfl) rfl rfl rfl EvB.nil))) rfl ⟨rfl,trivial⟩ ⟨rfl,trivial⟩ rfl rfl rfl rfl rfl rfl (nU rfl),tV [(3,_)] [(14,.var _),(1,.var _)] 65 rfl rfl rfl ?_⟩)
     refine W.seq ?_
     refine W.l0 5 [.y 61 _,.y 62 _,.y 63 _,.y 64 _] [] [] [(64,_)] [(14,.var _),(1,.var _)] 65 ⟨mU 3 rfl rfl,aU fun _ _ H K => R.nilcP (K 61 _ rfl) H,aU (fU 62 rfl rfl),aU fun _ B H K => R.ldO (K 63 _ rfl) (B 14 _ rfl) rfl H,trivial⟩ rfl rfl rfl rfl (⟨rfl,_,R.asgBP (gU 64 rfl) (xU 14 rfl) rfl rfl rfl rfl (gU 64 rfl) (nU rfl) (by decide),tV [(2,_)] [(14,.var _),(1,.var _)] 65 rfl rfl rfl ?_⟩)
     refine W.ret ?_
     exact Ends.one' (.inr rfl) rfl (by rw [putS,if_pos (by simpa using hc10)]; rfl) rfl rfl trivial

theorem id_ok (t : TxS) (hwf : t.wf) : Fn Tryd.prog gl 17 [txD t] (hashD (idS t)) := by
 refine Fn.of (n := 6) Tryd.func17 rfl rfl rfl (nU rfl) fun C hC hD => ?_
 refine W.seq ?_
 refine W.l0 2 [] [] [] [(0,_)] [] 6 trivial rfl rfl rfl rfl (⟨rfl,_,R.box (gV 0 rfl) rfl rfl (nU rfl),⟨rfl,_,R.alloc rfl (nU rfl),tV [(1,_),(2,_)] [(2,.var _),(1,.var _)] 6 rfl rfl rfl ?_⟩⟩)
 refine W.seq ?_
 refine W.l0 4 [.y 3 _,.y 4 _,.y 5 _] [] [] [(2,_),(5,_)] [(2,.var _),(1,.var _)] 6 ⟨aU (lU 1 rfl rfl rfl rfl rfl rfl rfl),aU fun _ _ H K => R.callG hC (bare_ok t hwf) (Bors.cons (Bor.pur (eU K 3 rfl) rfl rfl) Bors.nil) (FrsR.one (.sl _ _ _ (frs_map fun _ => .u8 _))) H,aU fun _ _ H K => R.callG hC (twice_ok (bareS t) (Nat.le_trans hwf.bareL (by decide))) (Bors.cons (Bor.sc (SC.sl (K 4 _ rfl)) (brw_map (fun _ => rfl))) Bors.nil) (FrsR.one (frs_hash _)) H,trivial⟩ rfl rfl rfl rfl (⟨rfl,_,R.stZ (gU 2 rfl) (xU 2 rfl) rfl (gV 5 rfl) (by rfl) (by rfl) (by rfl) (by rfl) rfl,tV [(2,_)] [(2,.var _),(1,.var _)] 6 rfl rfl rfl ?_⟩)
 refine W.ret ?_
 exact Ends.one' (.inr rfl) rfl (rfl) rfl rfl (show LdT _ 32 32 true from inferInstance)

end Go.Sx

namespace Go.Sx
open Go.Proofs
theorem rtake_ok (b : List UInt8) (hb0 : b.length ≤ 100000) (n : Nat) (hn : n ≤ 1000000) : FnO Tryd.prog gl 43 [.ptr 0 0 [],.int ((n : Nat) : Int)] [(0,.var (.agg [.sl none 1 (b.map D.u8)]))] ((takeO b n).map fun q => (bytesD q.1,[(0,.var (.agg [bytesD q.2]))],[])) := by
 refine FnO.of (n := 30) (ids := [0]) Tryd.func43 rfl rfl rfl (nU rfl) fun C hC hD => ?_
 refine W.seq ?_
 refine W.l0 1 [.y 4 _] [] [] [(0,_),(1,_)] [(0,.var _)] 30 ⟨aU fun _ _ H _ => R.asg (kN rfl) rfl H,trivial⟩ rfl rfl rfl rfl (tU rfl ?_)
 refine W.seq ?_
 refine W.seq ?_
 refine W.l0 7 [.y 6 _,.y 7 _,.y 8 _,.y 9 _,.y 10 _,.y 11 _,.y 12 _] [] [] [(0,_),(1,_),(12,_)] [(0,.var _)] 30 ⟨mU 1 rfl rfl,mU 0 rfl rfl,aU fun _ _ H K => R.nilcP (K 7 _ rfl) H,aU (fU 8 rfl rfl),aU (lU 9 rfl rfl rfl rfl rfl rfl rfl),aU fun _ _ H K => R.lenE (SC.sl (K 10 _ rfl)) (List.length_map _) H,aU fun _ _ H K => R.gtrN (n) (b.length) (eU K 6 rfl) (eU K 11 rfl) H,trivial⟩ rfl rfl rfl rfl (tU rfl ?_)
 refine W.condD rfl (fun hc12 => ?_) (fun hc12 => ?_)
 · refine W.lineX (n := 2) (by decide) (its := [.y 13 _]) (ks := []) (kk := []) (live := [0,1,13]) (env' := [(0,_),(1,_),(13,_)]) (⟨nU rfl,rfl,⟨aU fun _ _ H _ => R.mkifc (kI 5 rfl) rfl rfl H,trivial⟩,rfl,rfl,rfl⟩) rfl (bx' := [(0,.var _)]) rfl (n' := 30) rfl (⟨rfl,.inr (R.panic (gU 13 rfl) (fun e he => ?_))⟩)
   obtain ⟨ch,rfl,hch⟩ := he
   exact EndsO.none' (by rw [takeO,if_neg (by omega)]; rfl) ⟨⟨ch,rfl,hch⟩,⟨⟨_,rfl,by first | rfl | simp [dds_sz,sz_ren,D.sz]⟩,trivial⟩⟩
 · refine W.skip ?_
   refine W.seq ?_
   refine W.l0 7 [.y 14 _,.y 15 _,.y 16 _,.y 17 _,.y 18 _,.y 19 _,.y 5 _] [] [] [(0,_),(1,_),(5,_)] [(0,.var _)] 30 ⟨mU 0 rfl rfl,aU fun _ _ H K => R.nilcP (K 14 _ rfl) H,aU (fU 15 rfl rfl),aU (lU 16 rfl rfl rfl rfl rfl rfl rfl),mU 1 rfl rfl,aU fun _ _ H K => R.slIN (0) (n) (n) (eU K 17 rfl) rfl (evoI (eU K 18 rfl)) rfl rfl bU bU rfl (show _ = (b.take n).map D.u8 from by simp) H,aU fun _ _ H K => R.asg (eU K 19 rfl) rfl H,trivial⟩ rfl rfl rfl rfl (tU rfl ?_)
   refine W.seq ?_
   refine W.l0 10 [.y 20 _,.y 21 _,.y 22 _,.y 23 _,.y 24 _,.y 25 _,.y 26 _,.y 27 _,.y 28 _] [] [] [(5,_),(26,_),(28,_)] [(0,.var _)] 30 ⟨mU 0 rfl rfl,mU 0 rfl rfl,aU fun _ _ H K => R.nilcP (K 21 _ rfl) H,aU (fU 22 rfl rfl),aU (lU 23 rfl rfl rfl rfl rfl rfl rfl),mU 1 rfl rfl,aU fun _ _ H K => R.slIN (n) (b.length) ((b.length - n)) (eU K 24 rfl) (evoI (eU K 25 rfl)) rfl rfl (by simp) bU bU rfl (show _ = (b.drop n).map D.u8 from by rw [List.take_of_length_le (by simp)]; simp) H,aU fun _ _ H K => R.nilcP (K 20 _ rfl) H,aU (fU 27 rfl rfl),trivial⟩ rfl rfl rfl rfl (⟨rfl,_,R.stZ (gU 28 rfl) (xU 0 rfl) rfl (gV 26 rfl) (by rfl) (by rfl) (by rfl) (by rfl) rfl,tV [(5,_)] [(0,.var _)] 30 rfl rfl rfl ?_⟩)
   refine W.seq ?_
   refine W.l0 2 [.y 29 _,.y 4 _] [] [] [(4,_)] [(0,.var _)] 30 ⟨mU 5 rfl rfl,aU fun _ _ H K => R.asg (eU K 29 rfl) rfl H,trivial⟩ rfl rfl rfl rfl (tU rfl ?_)
   refine W.ret ?_
   exact EndsO.some' (r := .sl none 1 ((b.take n).map D.u8)) (bx' := [(0,.var (.agg [.sl none 1 ((b.drop n).map D.u8)]))]) (nw := []) (by rw [takeO,if_pos (by omega)]; rfl) (EndsB.one' (.inr rfl) rfl (rfl) rfl trivial rfl rfl (rfl) ⟨rfl,trivial⟩ rfl)

theorem rnumber_ok (b : List UInt8) (hb0 : b.length ≤ 100000) (n : Nat) (hn : n ≤ 1000000) : FnO Tryd.prog gl 42 [.ptr 0 0 [],.int ((n : Nat) : Int)] [(0,.var (.agg [.sl none 1 (b.map D.u8)]))] ((numO b n).map fun q => (.u64 q.1,[(0,.var (.agg [bytesD q.2]))],[])) := by
 refine FnO.of (n := 25) (ids := [0]) Tryd.func42 rfl rfl rfl (nU rfl) fun C hC hD => ?_
 refine W.seq ?_
 refine W.l0 1 [.y 4 _] [] [] [(0,_),(1,_),(4,_)] [(0,.var _)] 25 ⟨aU fun _ _ H _ => R.asg (show ev _ _ (.const (.int .u64 0)) = some (.u64 0) from rfl) rfl H,trivial⟩ rfl rfl rfl rfl (tU rfl ?_)
 refine W.seq ?_
 refine W.seq ?_
 rcases hE : takeO b n with _ | ⟨x,r⟩
 · refine W.lineX (n := 5) (by decide) (its := [.y 7 _,.y 8 _]) (ks := []) (kk := []) (live := [4,7,8]) (env' := [(4,_),(7,_),(8,_)]) (⟨nU rfl,rfl,⟨mU 0 rfl rfl,mU 1 rfl rfl,trivial⟩,rfl,rfl,rfl⟩) rfl (bx' := [(0,.var _)]) rfl (n' := 25) rfl (⟨rfl,.inr (R.callX [(0,0)] hC (FnO.none' (rtake_ok b (by omega) n (by omega)) (by rw [hE]; rfl)) (EvB.cons (gV 7 rfl) rfl rfl rfl (EvB.cons (gV 8 rfl) rfl rfl rfl EvB.nil)) rfl ⟨rfl,trivial⟩ ⟨rfl,trivial⟩ rfl (fun e he => ?_))⟩)
   obtain ⟨ch,rfl,hch⟩ := he
   exact EndsO.none' (by simp only [numO,hE]; rfl) ⟨⟨ch,rfl,hch⟩,⟨⟨_,rfl,by first | rfl | simp [dds_sz,sz_ren,D.sz]⟩,trivial⟩⟩
 have hx := takeO_len hE
 refine W.l0 5 [.y 7 _,.y 8 _] [] [] [(4,_),(7,_),(8,_)] [(0,.var _)] 25 ⟨mU 0 rfl rfl,mU 1 rfl rfl,trivial⟩ rfl rfl rfl rfl (⟨rfl,_,R.callB [(0,0)] hC (FnO.some' (r := .sl none 1 (x.map D.u8)) (bx' := [(0,.var (.agg [.sl none 1 (r.map D.u8)]))]) (nw := []) (rtake_ok b (by omega) n (by omega)) (by rw [hE]; rfl)) (EvB.cons (gV 7 rfl) rfl rfl rfl (EvB.cons (gV 8 rfl) rfl rfl rfl EvB.nil)) rfl ⟨rfl,trivial⟩ ⟨rfl,trivial⟩ rfl rfl rfl rfl rfl rfl (nU rfl),⟨rfl,_,R.lenE (SC.sl (gU 9 rfl)) (List.length_map _) (nU rfl),⟨rfl,_,R.mov (kI 0 rfl) rfl (nU rfl),tV [(4,_),(9,_),(10,_),(11,_)] [(0,.var _)] 25 rfl rfl rfl ?_⟩⟩⟩)
 refine W.block ?_
 refine W.loop (α := {q__ : Nat // q__ ≤ x.length}) (fun q__ => ⟨25,[(4,.u64 (numI x q__.1)),(9,.sl none 1 (x.map D.u8)),(10,.int ((x.length : Nat) : Int)),(11,.int ((q__.1 : Nat) : Int))],[(0,.var (.agg [.sl none 1 (r.map D.u8)]))]⟩) (fun q__ => x.length - q__.1) ⟨(0),bU⟩ rfl ?_
 rintro ⟨i,hi⟩
 show W _ _ _ _ ⟨25,[(4,.u64 (numI x i)),(9,.sl none 1 (x.map D.u8)),(10,.int ((x.length : Nat) : Int)),(11,.int ((i : Nat) : Int))],[(0,.var (.agg [.sl none 1 (r.map D.u8)]))]⟩
 have hi : i ≤ x.length := hi
 refine W.seq ?_
 refine W.l0 1 [.y 12 _] [] [] [(4,_),(9,_),(10,_),(11,_),(12,_)] [(0,.var _)] 25 ⟨aU fun _ _ H K => R.lssN (i) (x.length) (eU K 11 rfl) (eU K 10 rfl) H,trivial⟩ rfl rfl rfl rfl (tU rfl ?_)
 refine W.seq ?_
 refine W.condD rfl (fun hc12 => ?_) (fun hc12 => ?_)
 · refine W.skip ?_
   refine W.seq ?_
   refine W.block ?_
   refine W.seq ?_
   refine W.l0 5 [.y 13 _,.y 14 _,.y 15 _,.y 5 _,.y 6 _] [] [] [(4,_),(5,_),(6,_),(9,_),(10,_),(11,_)] [(0,.var _)] 25 ⟨mU 11 rfl rfl,aU fun _ _ H K => R.idxN (i) (SC.sl (K 9 _ rfl)) (evoI (eU K 11 rfl)) rfl bU H (by decide),aU fun _ _ H K => R.ldE (K 14 _ rfl) (SC.sl (K 9 _ rfl)) (map_get! (l := x) bU) rfl rfl rfl rfl H,aU fun _ _ H K => R.asg (eU K 13 rfl) rfl H,aU fun _ _ H K => R.asg (eU K 15 rfl) rfl H,trivial⟩ rfl rfl rfl rfl (tU rfl ?_)
   refine W.l0 8 [.y 16 _,.y 17 _,.y 18 _,.y 19 _,.y 20 _,.y 21 _,.y 22 _,.y 4 _] [] [] [(4,_),(9,_),(10,_),(11,_)] [(0,.var _)] 25 ⟨mU 4 rfl rfl,mU 6 rfl rfl,aU fun _ _ H K => R.conv (eU K 17 rfl) rfl H,mU 5 rfl rfl,aU fun _ _ H K => R.mulN (8) (i) (kI 8 rfl) (eU K 19 rfl) bU H,aU fun _ _ H K => R.bin (eU K 18 rfl) (eU K 20 rfl) rfl bV H,aU fun _ _ H K => R.bin (eU K 16 rfl) (eU K 21 rfl) rfl trivial H,aU fun _ _ H K => R.asg (eU K 22 rfl) rfl H,trivial⟩ rfl rfl rfl rfl (tU rfl ?_)
   refine W.l0 2 [.y 23 _,.y 11 _] [] [] [(4,_),(9,_),(10,_),(11,_)] [(0,.var _)] 25 ⟨aU fun _ _ H K => R.addN (i) (1) (eU K 11 rfl) (kI 1 rfl) bU H,mU 23 rfl rfl,trivial⟩ rfl rfl rfl rfl (tU rfl ?_)
   exact ⟨⟨(i + 1),bU⟩,rfl,(by simp only []; omega)⟩
 · obtain rfl : i = x.length := by omega
   refine W.exit ?_
   refine W.seq ?_
   refine W.l0 2 [.y 24 _,.y 4 _] [] [] [(4,_)] [(0,.var _)] 25 ⟨mU 4 rfl rfl,aU fun _ _ H K => R.asg (eU K 24 rfl) rfl H,trivial⟩ rfl rfl rfl rfl (tU rfl ?_)
   refine W.ret ?_
   exact EndsO.some' (r := .u64 (numI x x.length)) (bx' := [(0,.var (.agg [.sl none 1 (r.map D.u8)]))]) (nw := []) (by simp only [numO,hE]; rfl) (EndsB.one' (.inr rfl) rfl (rfl) rfl trivial rfl rfl (rfl) ⟨rfl,trivial⟩ rfl)

theorem rcount_ok (b : List UInt8) (hb0 : b.length ≤ 100000) : FnO Tryd.prog gl 61 [.ptr 0 0 []] [(0,.var (.agg [.sl none 1 (b.map D.u8)]))] ((cntO b).map fun q => (.int ((q.1 : Nat) : Int),[(0,.var (.agg [bytesD q.2]))],[])) := by
 refine FnO.of (n := 24) (ids := [0]) Tryd.func61 rfl rfl rfl (nU rfl) fun C hC hD => ?_
 refine W.seq ?_
 refine W.l0 1 [.y 2 _] [] [] [(0,_)] [(0,.var _)] 24 ⟨aU fun _ _ H _ => R.asg (kI 0 rfl) rfl H,trivial⟩ rfl rfl rfl rfl (tU rfl ?_)
 refine W.seq ?_
 rcases hE : numO b 1 with _ | ⟨x,r⟩
 · refine W.lineX (n := 3) (by decide) (its := [.y 4 _]) (ks := []) (kk := []) (live := [0,4]) (env' := [(0,_),(4,_)]) (⟨nU rfl,rfl,⟨mU 0 rfl rfl,trivial⟩,rfl,rfl,rfl⟩) rfl (bx' := [(0,.var _)]) rfl (n' := 24) rfl (⟨rfl,.inr (R.callX [(0,0)] hC (FnO.none' (rnumber_ok b (by omega) 1 (by decide)) (by rw [hE]; rfl)) (EvB.cons (gV 4 rfl) rfl rfl rfl (EvB.cons (kI 1 rfl) rfl rfl rfl EvB.nil)) rfl ⟨rfl,trivial⟩ ⟨rfl,trivial⟩ rfl (fun e he => ?_))⟩)
   obtain ⟨ch,rfl,hch⟩ := he
   exact EndsO.none' (by rw [cntO_none1 hE]; rfl) ⟨⟨ch,rfl,hch⟩,⟨⟨_,rfl,by first | rfl | simp [dds_sz,sz_ren,D.sz]⟩,trivial⟩⟩
 have hr := numO_len hE
 have hx := numO_one hE
 refine W.l0 3 [.y 4 _] [] [] [(0,_),(4,_)] [(0,.var _)] 24 ⟨mU 0 rfl rfl,trivial⟩ rfl rfl rfl rfl (⟨rfl,_,R.callB [(0,0)] hC (FnO.some' (r := .u64 x) (bx' := [(0,.var (.agg [.sl none 1 (r.map D.u8)]))]) (nw := []) (rnumber_ok b (by omega) 1 (by decide)) (by rw [hE]; rfl)) (EvB.cons (gV 4 rfl) rfl rfl rfl (EvB.cons (kI 1 rfl) rfl rfl rfl EvB.nil)) rfl ⟨rfl,trivial⟩ ⟨rfl,trivial⟩ rfl rfl rfl rfl rfl rfl (nU rfl),⟨rfl,_,R.asg (gV 5 rfl) rfl (nU rfl),tV [(0,_),(3,_)] [(0,.var _)] 24 rfl rfl rfl ?_⟩⟩)
 refine W.seq ?_
 refine W.seq ?_
 refine W.l0 2 [.y 6 _,.y 7 _] [] [] [(0,_),(3,_),(7,_)] [(0,.var _)] 24 ⟨mU 3 rfl rfl,aU fun _ _ H K => R.bin (eU K 6 rfl) (show ev _ _ (.const (.int .u64 253)) = some (.u64 253) from rfl) rfl trivial H,trivial⟩ rfl rfl rfl rfl (tU rfl ?_)
 refine W.cond rfl (fun hc7 => ?_) (fun hc7 => ?_)
 · rcases hE2 : numO r (n2 x) with _ | ⟨y,r2⟩
   · refine W.lineX (n := 6) (by decide) (its := [.y 8 _,.y 9 _,.y 10 _,.y 11 _]) (ks := []) (kk := []) (live := [0,3,8,11]) (env' := [(0,_),(3,_),(8,_),(11,_)]) (⟨nU rfl,rfl,⟨mU 0 rfl rfl,mU 3 rfl rfl,aU fun _ _ H K => R.bin (eU K 9 rfl) (show ev _ _ (.const (.int .u64 253)) = some (.u64 253) from rfl) rfl trivial H,aU fun _ _ H K => R.binE (d := .int (((n2 x) : Nat) : Int)) (kI 2 rfl) (eU K 10 rfl) rfl bV (n2_eq (of_decide_eq_true hc7) hx) H,trivial⟩,rfl,rfl,rfl⟩) rfl (bx' := [(0,.var _)]) rfl (n' := 24) rfl (⟨rfl,.inr (R.callX [(0,0)] hC (FnO.none' (rnumber_ok r (by omega) (n2 x) (n2_le x)) (by rw [hE2]; rfl)) (EvB.cons (gV 8 rfl) rfl rfl rfl (EvB.cons (gV 11 rfl) rfl rfl rfl EvB.nil)) rfl ⟨rfl,trivial⟩ ⟨rfl,trivial⟩ rfl (fun e he => ?_))⟩)
     obtain ⟨ch,rfl,hch⟩ := he
     exact EndsO.none' (by rw [cntO_none2 hE (of_decide_eq_true hc7) hE2]; rfl) ⟨⟨ch,rfl,hch⟩,⟨⟨_,rfl,by first | rfl | simp [dds_sz,sz_ren,D.sz]⟩,trivial⟩⟩
   have hr2 := numO_len hE2
   refine W.l0 6 [.y 8 _,.y 9 _,.y 10 _,.y 11 _] [] [] [(0,_),(3,_),(8,_),(11,_)] [(0,.var _)] 24 ⟨mU 0 rfl rfl,mU 3 rfl rfl,aU fun _ _ H K => R.bin (eU K 9 rfl) (show ev _ _ (.const (.int .u64 253)) = some (.u64 253) from rfl) rfl trivial H,aU fun _ _ H K => R.binE (d := .int (((n2 x) : Nat) : Int)) (kI 2 rfl) (eU K 10 rfl) rfl bV (n2_eq (of_decide_eq_true hc7) hx) H,trivial⟩ rfl rfl rfl rfl (⟨rfl,_,R.callB [(0,0)] hC (FnO.some' (r := .u64 y) (bx' := [(0,.var (.agg [.sl none 1 (r2.map D.u8)]))]) (nw := []) (rnumber_ok r (by omega) (n2 x) (n2_le x)) (by rw [hE2]; rfl)) (EvB.cons (gV 8 rfl) rfl rfl rfl (EvB.cons (gV 11 rfl) rfl rfl rfl EvB.nil)) rfl ⟨rfl,trivial⟩ ⟨rfl,trivial⟩ rfl rfl rfl rfl rfl rfl (nU rfl),⟨rfl,_,R.asg (gV 12 rfl) rfl (nU rfl),tV [(0,_),(3,_)] [(0,.var _)] 24 rfl rfl rfl ?_⟩⟩)
   refine W.seq ?_
   refine W.seq ?_
   refine W.l0 8 [.y 13 _,.y 14 _,.y 15 _,.y 16 _,.y 17 _,.y 18 _,.y 19 _,.y 20 _] [] [] [(3,_),(20,_)] [(0,.var _)] 24 ⟨mU 3 rfl rfl,mU 0 rfl rfl,aU fun _ _ H K => R.nilcP (K 14 _ rfl) H,aU (fU 15 rfl rfl),aU (lU 16 rfl rfl rfl rfl rfl rfl rfl),aU fun _ _ H K => R.lenE (SC.sl (K 17 _ rfl)) (List.length_map _) H,aU fun _ _ H K => R.conv (eU K 18 rfl) rfl H,aU fun _ _ H K => R.bin (eU K 13 rfl) (eU K 19 rfl) rfl trivial H,trivial⟩ rfl rfl rfl rfl (tU rfl ?_)
   refine W.cond rfl (fun hc20 => ?_) (fun hc20 => ?_)
   · refine W.lineX (n := 2) (by decide) (its := [.y 21 _]) (ks := []) (kk := []) (live := [3,21]) (env' := [(3,_),(21,_)]) (⟨nU rfl,rfl,⟨aU fun _ _ H _ => R.mkifc (kI 5 rfl) rfl rfl H,trivial⟩,rfl,rfl,rfl⟩) rfl (bx' := [(0,.var _)]) rfl (n' := 24) rfl (⟨rfl,.inr (R.panic (gU 21 rfl) (fun e he => ?_))⟩)
     obtain ⟨ch,rfl,hch⟩ := he
     exact EndsO.none' (by first | (rw [cntO_big hE (of_decide_eq_true hc7) hE2,if_pos (of_decide_eq_true hc20)]; rfl) | (rw [cntO_small hE (of_decide_eq_false hc7),if_pos (of_decide_eq_true hc20)]; rfl)) ⟨⟨ch,rfl,hch⟩,⟨⟨_,rfl,by first | rfl | simp [dds_sz,sz_ren,D.sz]⟩,trivial⟩⟩
   · refine W.skip ?_
     refine W.seq ?_
     refine W.l0 3 [.y 22 _,.y 23 _,.y 2 _] [] [] [(2,_)] [(0,.var _)] 24 ⟨mU 3 rfl rfl,aU fun _ _ H K => R.convE (d := .int ((_ : Nat) : Int)) (eU K 22 rfl) rfl (cv_le (of_decide_eq_false hc20) (by omega)) H,aU fun _ _ H K => R.asg (eU K 23 rfl) rfl H,trivial⟩ rfl rfl rfl rfl (tU rfl ?_)
     refine W.ret ?_
     exact EndsO.some' (r := .int ((y.toNat : Nat) : Int)) (bx' := [(0,.var (.agg [.sl none 1 (r2.map D.u8)]))]) (nw := []) (by rw [cntO_big hE (of_decide_eq_true hc7) hE2,if_neg (of_decide_eq_false hc20)]; rfl) (EndsB.one' (.inr rfl) rfl (rfl) rfl trivial rfl rfl (rfl) ⟨rfl,trivial⟩ rfl)
 · refine W.skip ?_
   refine W.seq ?_
   refine W.seq ?_
   refine W.l0 8 [.y 13 _,.y 14 _,.y 15 _,.y 16 _,.y 17 _,.y 18 _,.y 19 _,.y 20 _] [] [] [(3,_),(20,_)] [(0,.var _)] 24 ⟨mU 3 rfl rfl,mU 0 rfl rfl,aU fun _ _ H K => R.nilcP (K 14 _ rfl) H,aU (fU 15 rfl rfl),aU (lU 16 rfl rfl rfl rfl rfl rfl rfl),aU fun _ _ H K => R.lenE (SC.sl (K 17 _ rfl)) (List.length_map _) H,aU fun _ _ H K => R.conv (eU K 18 rfl) rfl H,aU fun _ _ H K => R.bin (eU K 13 rfl) (eU K 19 rfl) rfl trivial H,trivial⟩ rfl rfl rfl rfl (tU rfl ?_)
   refine W.cond rfl (fun hc20 => ?_) (fun hc20 => ?_)
   · refine W.lineX (n := 2) (by decide) (its := [.y 21 _]) (ks := []) (kk := []) (live := [3,21]) (env' := [(3,_),(21,_)]) (⟨nU rfl,rfl,⟨aU fun _ _ H _ => R.mkifc (kI 5 rfl) rfl rfl H,trivial⟩,rfl,rfl,rfl⟩) rfl (bx' := [(0,.var _)]) rfl (n' := 24) rfl (⟨rfl,.inr (R.panic (gU 21 rfl) (fun e he => ?_))⟩)
     obtain ⟨ch,rfl,hch⟩ := he
     exact EndsO.none' (by first | (rw [cntO_big hE (of_decide_eq_true hc7) hE2,if_pos (of_decide_eq_true hc20)]; rfl) | (rw [cntO_small hE (of_decide_eq_false hc7),if_pos (of_decide_eq_true hc20)]; rfl)) ⟨⟨ch,rfl,hch⟩,⟨⟨_,rfl,by first | rfl | simp [dds_sz,sz_ren,D.sz]⟩,trivial⟩⟩
   · refine W.skip ?_
     refine W.seq ?_
     refine W.l0 3 [.y 22 _,.y 23 _,.y 2 _] [] [] [(2,_)] [(0,.var _)] 24 ⟨mU 3 rfl rfl,aU fun _ _ H K => R.convE (d := .int ((_ : Nat) : Int)) (eU K 22 rfl) rfl (cv_le (of_decide_eq_false hc20) (by omega)) H,aU fun _ _ H K => R.asg (eU K 23 rfl) rfl H,trivial⟩ rfl rfl rfl rfl (tU rfl ?_)
     refine W.ret ?_
     exact EndsO.some' (r := .int ((x.toNat : Nat) : Int)) (bx' := [(0,.var (.agg [.sl none 1 (r.map D.u8)]))]) (nw := []) (by rw [cntO_small hE (of_decide_eq_false hc7),if_neg (of_decide_eq_false hc20)]; rfl) (EndsB.one' (.inr rfl) rfl (rfl) rfl trivial rfl rfl (rfl) ⟨rfl,trivial⟩ rfl)

theorem ritem_ok (b : List UInt8) (hb0 : b.length ≤ 100000) : FnO Tryd.prog gl 62 [.ptr 0 0 []] [(0,.var (.agg [.sl none 1 (b.map D.u8)]))] ((itemO b).map fun q => (.sl (some 5) 1 (q.1.map D.u8),[(0,.var (.agg [bytesD q.2]))],[])) := by
 refine FnO.of (n := 8) (ids := [0]) Tryd.func62 rfl rfl rfl (nU rfl) fun C hC hD => ?_
 refine W.seq ?_
 refine W.l0 1 [.y 2 _] [] [] [(0,_)] [(0,.var _)] 8 ⟨aU fun _ _ H _ => R.asg (kN rfl) rfl H,trivial⟩ rfl rfl rfl rfl (tU rfl ?_)
 refine W.seq ?_
 rcases hE : cntO b with _ | ⟨n,r⟩
 · refine W.lineX (n := 6) (by decide) (its := [.y 3 _,.y 4 _]) (ks := []) (kk := []) (live := [4]) (env' := [(4,_)]) (⟨nU rfl,rfl,⟨mU 0 rfl rfl,mU 0 rfl rfl,trivial⟩,rfl,rfl,rfl⟩) rfl (bx' := [(0,.var _)]) rfl (n' := 8) rfl (⟨rfl,.inr (R.callX [(0,0)] hC (FnO.none' (rcount_ok b (by omega)) (by rw [hE]; rfl)) (EvB.cons (gV 4 rfl) rfl rfl rfl EvB.nil) rfl ⟨rfl,trivial⟩ ⟨rfl,trivial⟩ rfl (fun e he => ?_))⟩)
   obtain ⟨ch,rfl,hch⟩ := he
   exact EndsO.none' (by simp only [itemO,hE]; rfl) ⟨⟨ch,rfl,hch⟩,⟨⟨_,rfl,by first | rfl | simp [dds_sz,sz_ren,D.sz]⟩,trivial⟩⟩
 have hr := cntO_le hE hb0
 rcases hE2 : takeO r n with _ | ⟨x,r2⟩
 · refine W.lineX (n := 6) (by decide) (its := [.y 3 _,.y 4 _]) (ks := []) (kk := []) (live := [3,4]) (env' := [(3,_),(4,_)]) (⟨nU rfl,rfl,⟨mU 0 rfl rfl,mU 0 rfl rfl,trivial⟩,rfl,rfl,rfl⟩) rfl (bx' := [(0,.var _)]) rfl (n' := 8) rfl (⟨rfl,.inl ⟨_,R.callB [(0,0)] hC (FnO.some' (r := .int ((n : Nat) : Int)) (bx' := [(0,.var (.agg [.sl none 1 (r.map D.u8)]))]) (nw := []) (rcount_ok b (by omega)) (by rw [hE]; rfl)) (EvB.cons (gV 4 rfl) rfl rfl rfl EvB.nil) rfl ⟨rfl,trivial⟩ ⟨rfl,trivial⟩ rfl rfl rfl rfl rfl rfl (nU rfl),⟨rfl,.inr (R.callX [(0,0)] hC (FnO.none' (rtake_ok r (by omega) n (by omega)) (by rw [hE2]; rfl)) (EvB.cons (gV 3 rfl) rfl rfl rfl (EvB.cons (gV 5 rfl) rfl rfl rfl EvB.nil)) rfl ⟨rfl,trivial⟩ ⟨rfl,trivial⟩ rfl (fun e he => ?_))⟩⟩⟩)
   obtain ⟨ch,rfl,hch⟩ := he
   exact EndsO.none' (by simp only [itemO,hE,Option.bind_some,hE2]; rfl) ⟨⟨ch,rfl,hch⟩,⟨⟨_,rfl,by first | rfl | simp [dds_sz,sz_ren,D.sz]⟩,trivial⟩⟩
 have hx := takeO_len hE2
 refine W.l0 6 [.y 3 _,.y 4 _] [] [] [(3,_),(4,_)] [(0,.var _)] 8 ⟨mU 0 rfl rfl,mU 0 rfl rfl,trivial⟩ rfl rfl rfl rfl (⟨rfl,_,R.callB [(0,0)] hC (FnO.some' (r := .int ((n : Nat) : Int)) (bx' := [(0,.var (.agg [.sl none 1 (r.map D.u8)]))]) (nw := []) (rcount_ok b (by omega)) (by rw [hE]; rfl)) (EvB.cons (gV 4 rfl) rfl rfl rfl EvB.nil) rfl ⟨rfl,trivial⟩ ⟨rfl,trivial⟩ rfl rfl rfl rfl rfl rfl (nU rfl),⟨rfl,_,R.callB [(0,0)] hC (FnO.some' (r := .sl none 1 (x.map D.u8)) (bx' := [(0,.var (.agg [.sl none 1 (r2.map D.u8)]))]) (nw := []) (rtake_ok r (by omega) n (by omega)) (by rw [hE2]; rfl)) (EvB.cons (gV 3 rfl) rfl rfl rfl (EvB.cons (gV 5 rfl) rfl rfl rfl EvB.nil)) rfl ⟨rfl,trivial⟩ ⟨rfl,trivial⟩ rfl rfl rfl rfl rfl rfl (nU rfl),⟨rfl,_,R.appN (kN rfl) (SrcO.sc (SC.sl (gU 6 rfl)) (pur_map (fun _ => rfl))) bU (nU rfl) (by decide),⟨rfl,_,R.asgO (gU 7 rfl) rfl (nU rfl) (by decide),tV [(2,_)] [(0,.var _)] 8 rfl rfl rfl ?_⟩⟩⟩⟩)
 refine W.ret ?_
 exact EndsO.some' (r := .sl (some 5) 1 (x.map D.u8)) (bx' := [(0,.var (.agg [.sl none 1 (r2.map D.u8)]))]) (nw := []) (by simp only [itemO,hE,Option.bind_some,hE2]; rfl) (EndsB.one' (.inr rfl) rfl (rfl) rfl trivial rfl rfl (rfl) ⟨rfl,trivial⟩ rfl)

end Go.Sx

namespace Go.Sx
open Go.Proofs
theorem rbody_ok (b : List UInt8) (hb0 : b.length ≤ 100000) (v k : UInt32) : FnO Tryd.prog gl 44 [.ptr 0 0 [],.ptr 1 0 []] [(0,.var (.agg [.sl none 1 (b.map D.u8)])),(1,.var (.agg [.u32 v,.sl (some 56) 36 (([] : List InS).map inN),.sl (some 46) 2 (([] : List OutS).map outD),.u32 k]))] ((bodyO b).map fun q => (.tup [],[(0,.var (.agg [bytesD q.2])),(1,.var (.agg [.u32 v,.sl (some 56) 36 (q.1.1.map inN),.sl (some 46) 2 (q.1.2.map outD),.u32 k]))],[])) := by
 refine FnO.of (n := 60) (ids := [0,1]) Tryd.func44 rfl rfl rfl (nU rfl) fun C hC hD => ?_
 refine W.seq ?_
 refine W.seq ?_
 rcases hE : cntO b with _ | ⟨n,r0⟩
 · refine W.lineX (n := 3) (by decide) (its := [.y 6 _]) (ks := []) (kk := []) (live := [0,1,6]) (env' := [(0,_),(1,_),(6,_)]) (⟨nU rfl,rfl,⟨mU 0 rfl rfl,trivial⟩,rfl,rfl,rfl⟩) rfl (bx' := [(0,.var _),(1,.var _)]) rfl (n' := 60) rfl (⟨rfl,.inr (R.callX [(0,0)] hC (FnO.none' (rcount_ok b (by omega)) (by rw [hE]; rfl)) (EvB.cons (gV 6 rfl) rfl rfl rfl EvB.nil) rfl ⟨rfl,trivial⟩ ⟨rfl,trivial⟩ rfl (fun e he => ?_))⟩)
   obtain ⟨ch,rfl,hch⟩ := he
   exact EndsO.none' (by rw [bodyO_n1 hE]; rfl) ⟨⟨ch,rfl,hch⟩,⟨⟨_,rfl,by first | rfl | simp [dds_sz,sz_ren,D.sz]⟩,⟨⟨_,rfl,by first | rfl | simp [dds_sz,sz_ren,D.sz]⟩,trivial⟩⟩⟩
 have hr0 := cntO_le hE hb0
 refine W.l0 3 [.y 6 _] [] [] [(0,_),(1,_),(6,_)] [(0,.var _),(1,.var _)] 60 ⟨mU 0 rfl rfl,trivial⟩ rfl rfl rfl rfl (⟨rfl,_,R.callB [(0,0)] hC (FnO.some' (r := .int ((n : Nat) : Int)) (bx' := [(0,.var (.agg [.sl none 1 (r0.map D.u8)]))]) (nw := []) (rcount_ok b (by omega)) (by rw [hE]; rfl)) (EvB.cons (gV 6 rfl) rfl rfl rfl EvB.nil) rfl ⟨rfl,trivial⟩ ⟨rfl,trivial⟩ rfl rfl rfl rfl rfl rfl (nU rfl),⟨rfl,_,R.mov (kI 0 rfl) rfl (nU rfl),tV [(0,_),(1,_),(7,_),(8,_)] [(0,.var _),(1,.var _)] 60 rfl rfl rfl ?_⟩⟩)
 refine W.block ?_
 refine W.loop (α := {q__ : Nat × List InS × List UInt8 // q__.1 ≤ n ∧ insO r0 q__.1 = some (q__.2.1,q__.2.2)}) (fun q__ => ⟨60,[(0,.ptr 0 0 []),(1,.ptr 1 0 []),(7,.int ((n : Nat) : Int)),(8,.int ((q__.1.1 : Nat) : Int))],[(0,.var (.agg [.sl none 1 (q__.1.2.2.map D.u8)])),(1,.var (.agg [.u32 v,.sl (some 56) 36 (q__.1.2.1.map inN),.sl (some 46) 2 (([] : List OutS).map outD),.u32 k]))]⟩) (fun q__ => n - q__.1.1) ⟨(0,[],r0),⟨Nat.zero_le _,rfl⟩⟩ rfl ?_
 rintro ⟨⟨i,l,r⟩,⟨hi,hins⟩⟩
 show W _ _ _ _ ⟨60,[(0,.ptr 0 0 []),(1,.ptr 1 0 []),(7,.int ((n : Nat) : Int)),(8,.int ((i : Nat) : Int))],[(0,.var (.agg [.sl none 1 (r.map D.u8)])),(1,.var (.agg [.u32 v,.sl (some 56) 36 (l.map inN),.sl (some 46) 2 (([] : List OutS).map outD),.u32 k]))]⟩
 have hi : i ≤ n := hi
 have hins : insO r0 i = some (l,r) := hins
 have hll := insO_len hins (by omega)
 refine W.seq ?_
 refine W.l0 1 [.y 9 _] [] [] [(0,_),(1,_),(7,_),(8,_),(9,_)] [(0,.var _),(1,.var _)] 60 ⟨aU fun _ _ H K => R.lssN (i) (n) (eU K 8 rfl) (eU K 7 rfl) H,trivial⟩ rfl rfl rfl rfl (tU rfl ?_)
 refine W.seq ?_
 refine W.condD rfl (fun hc9 => ?_) (fun hc9 => ?_)
 · refine W.skip ?_
   refine W.seq ?_
   refine W.block ?_
   refine W.seq ?_
   refine W.l0 1 [] [] [] [(0,_),(1,_),(7,_),(8,_)] [(0,.var _),(1,.var _)] 60 trivial rfl rfl rfl rfl (⟨rfl,_,R.alloc rfl (nU rfl),tV [(0,_),(1,_),(4,_),(7,_),(8,_)] [(4,.var _),(0,.var _),(1,.var _)] 60 rfl rfl rfl ?_⟩)
   refine W.seq ?_
   rcases hE1 : takeO r 32 with _ | ⟨x,r1⟩
   · refine W.drawX (m := 5) (an := [0,1,3,0,8,31]) (its := [.y 10 _,.y 11 _,.y 12 _,.y 13 _,⟨14,.dead,true⟩]) (ks := []) (kk := []) 4 hP (by decide) rfl ⟨nU rfl,rfl,rfl,rfl⟩ (          ⟨⟨rfl,rfl,fun _ τ hb ht hτ => R.fdP (hτ 4 _ rfl) ht⟩,⟨⟨rfl,rfl,fun _ τ hb ht hτ => R.fdP (hτ 10 _ rfl) ht⟩,⟨⟨rfl,rfl,fun _ τ hb ht hτ => R.slAN (0) (32) (32) (hτ 11 _ rfl) (hb 4 _ rfl) rfl rfl rfl rfl rfl bU bU rfl ht⟩,⟨⟨rfl,rfl,fun _ τ hb ht hτ => R.mov (evt (hτ 0 _ rfl)) rfl ht⟩,⟨⟨rfl,rfl,SpX.callX [(0,0)] hC (FnO.none' (rtake_ok r (by omega) 32 (by omega)) (by rw [hE1]; rfl)) (fun τ hτ => (EvB.cons (evt (hτ 13 _ rfl)) rfl rfl rfl (EvB.cons (kI 32 rfl) rfl rfl rfl EvB.nil))) rfl ⟨rfl,trivial⟩ ⟨rfl,trivial⟩ rfl (fun e he => ?_)⟩,trivial⟩⟩⟩⟩⟩) rfl (nU rfl)
     obtain ⟨ch,rfl,hch⟩ := he
     exact EndsO.none' (by rw [bodyO_n2 hE (insO_none hins (by omega) (inO_n1 hE1))]; rfl) ⟨⟨ch,rfl,hch⟩,⟨⟨_,rfl,by first | rfl | simp [dds_sz,sz_ren,D.sz]⟩,⟨⟨_,rfl,by first | rfl | simp [dds_sz,sz_ren,D.sz]⟩,trivial⟩⟩⟩
   have hx := takeO_len hE1
   refine W.drawC (m := 5) (an := [0,1,3,0,8,31]) (its := [.y 10 _,.y 11 _,.y 12 _,.y 13 _,.y 14 _]) (ks := []) (kk := []) (live := [0,1,4,7,8,12,14]) (env' := [(0,_),(1,_),(4,_),(7,_),(8,_),(12,_),(14,_)]) (bx1 := [(4,.var _),(0,.var _),(1,.var _)]) [(4,_),(1,_)] 4 [0] hP (by decide) rfl ⟨nU rfl,rfl,rfl,rfl⟩ ⟨rfl,⟨rfl,trivial⟩⟩ (        ⟨⟨rfl,rfl,fun _ τ hb ht hτ => R.fdP (hτ 4 _ rfl) ht⟩,⟨⟨rfl,rfl,fun _ τ hb ht hτ => R.fdP (hτ 10 _ rfl) ht⟩,⟨⟨rfl,rfl,fun _ τ hb ht hτ => R.slAN (0) (32) (32) (hτ 11 _ rfl) (hb 4 _ rfl) rfl rfl rfl rfl rfl bU bU rfl ht⟩,⟨⟨rfl,rfl,fun _ τ hb ht hτ => R.mov (evt (hτ 0 _ rfl)) rfl ht⟩,⟨⟨rfl,rfl,rfl,(SpC.callB [(0,0)] hC (FnO.some' (r := .sl none 1 (x.map D.u8)) (bx' := [(0,.var (.agg [.sl none 1 (r1.map D.u8)]))]) (nw := []) (rtake_ok r (by omega) 32 (by omega)) (by rw [hE1]; rfl)) (fun τ hτ => (EvB.cons (evt (hτ 13 _ rfl)) rfl rfl rfl (EvB.cons (kI 32 rfl) rfl rfl rfl EvB.nil))) rfl ⟨rfl,trivial⟩ ⟨rfl,trivial⟩ rfl rfl rfl rfl rfl rfl rfl rfl)⟩,trivial⟩⟩⟩⟩⟩) rfl rfl rfl (nU rfl) ⟨rfl,⟨rfl,trivial⟩⟩ rfl (n' := 60) rfl (⟨rfl,_,R.cpAE (k := 32) (l2 := (x.map D.u8)) (gU 12 rfl) (xU 4 rfl) rfl (by decide) (SrcO.sc (SC.sl (gU 14 rfl)) (pur_map (fun _ => rfl))) (np_map (fun _ => rfl)) (nU rfl) (by rw [List.length_map,hx.1]; rfl) (cp_all hx.1) rfl,⟨[0,1,4,7,8],[(0,_),(1,_),(4,_),(7,_),(8,_)],[(4,.var _),(0,.var _),(1,.var _)],60,rfl,rfl,rfl, ?_⟩⟩)
   refine W.seq ?_
   rcases hE2 : numO r1 4 with _ | ⟨p,r2⟩
   · refine W.lineX (n := 6) (by decide) (its := [.y 16 _]) (ks := []) (kk := []) (live := [0,1,4,7,8,16]) (env' := [(0,_),(1,_),(4,_),(7,_),(8,_),(16,_)]) (⟨nU rfl,rfl,⟨mU 0 rfl rfl,trivial⟩,rfl,rfl,rfl⟩) rfl (bx' := [(4,.var _),(0,.var _),(1,.var _)]) rfl (n' := 60) rfl (⟨rfl,.inr (R.callX [(0,0)] hC (FnO.none' (rnumber_ok r1 (by omega) 4 (by decide)) (by rw [hE2]; rfl)) (EvB.cons (gV 16 rfl) rfl rfl rfl (EvB.cons (kI 4 rfl) rfl rfl rfl EvB.nil)) rfl ⟨rfl,trivial⟩ ⟨rfl,trivial⟩ rfl (fun e he => ?_))⟩)
     obtain ⟨ch,rfl,hch⟩ := he
     exact EndsO.none' (by rw [bodyO_n2 hE (insO_none hins (by omega) (inO_n2 hE1 hE2))]; rfl) ⟨⟨ch,rfl,hch⟩,⟨⟨_,rfl,by first | rfl | simp [dds_sz,sz_ren,D.sz]⟩,⟨⟨_,rfl,by first | rfl | simp [dds_sz,sz_ren,D.sz]⟩,trivial⟩⟩⟩
   have hr2 := numO_len hE2
   refine W.l0 6 [.y 16 _] [] [] [(0,_),(1,_),(4,_),(7,_),(8,_),(16,_)] [(4,.var _),(0,.var _),(1,.var _)] 60 ⟨mU 0 rfl rfl,trivial⟩ rfl rfl rfl rfl (⟨rfl,_,R.callB [(0,0)] hC (FnO.some' (r := .u64 p) (bx' := [(0,.var (.agg [.sl none 1 (r2.map D.u8)]))]) (nw := []) (rnumber_ok r1 (by omega) 4 (by decide)) (by rw [hE2]; rfl)) (EvB.cons (gV 16 rfl) rfl rfl rfl (EvB.cons (kI 4 rfl) rfl rfl rfl EvB.nil)) rfl ⟨rfl,trivial⟩ ⟨rfl,trivial⟩ rfl rfl rfl rfl rfl rfl (nU rfl),⟨rfl,_,R.conv (gV 17 rfl) rfl (nU rfl),⟨rfl,_,R.fdP (gU 4 rfl) (nU rfl),⟨rfl,_,R.fdP (gU 19 rfl) (nU rfl),⟨rfl,_,R.stZ (gU 20 rfl) (xU 4 rfl) rfl (gV 18 rfl) (by rfl) (by rfl) (by rfl) (by rfl) rfl,tV [(0,_),(1,_),(4,_),(7,_),(8,_)] [(4,.var _),(0,.var _),(1,.var _)] 60 rfl rfl rfl ?_⟩⟩⟩⟩⟩)
   refine W.seq ?_
   rcases hE3 : itemO r2 with _ | ⟨s,r3⟩
   · refine W.lineX (n := 4) (by decide) (its := [.y 21 _]) (ks := []) (kk := []) (live := [0,1,4,7,8,21]) (env' := [(0,_),(1,_),(4,_),(7,_),(8,_),(21,_)]) (⟨nU rfl,rfl,⟨mU 0 rfl rfl,trivial⟩,rfl,rfl,rfl⟩) rfl (bx' := [(4,.var _),(0,.var _),(1,.var _)]) rfl (n' := 60) rfl (⟨rfl,.inr (R.callX [(0,0)] hC (FnO.none' (ritem_ok r2 (by omega)) (by rw [hE3]; rfl)) (EvB.cons (gV 21 rfl) rfl rfl rfl EvB.nil) rfl ⟨rfl,trivial⟩ ⟨rfl,trivial⟩ rfl (fun e he => ?_))⟩)
     obtain ⟨ch,rfl,hch⟩ := he
     exact EndsO.none' (by rw [bodyO_n2 hE (insO_none hins (by omega) (inO_n3 hE1 hE2 hE3))]; rfl) ⟨⟨ch,rfl,hch⟩,⟨⟨_,rfl,by first | rfl | simp [dds_sz,sz_ren,D.sz]⟩,⟨⟨_,rfl,by first | rfl | simp [dds_sz,sz_ren,D.sz]⟩,trivial⟩⟩⟩
   have hr3 := itemO_len hE3 (by omega)
   refine W.l0 4 [.y 21 _] [] [] [(0,_),(1,_),(4,_),(7,_),(8,_),(21,_)] [(4,.var _),(0,.var _),(1,.var _)] 60 ⟨mU 0 rfl rfl,trivial⟩ rfl rfl rfl rfl (⟨rfl,_,R.frzT (r' := .sl none 1 (s.map D.u8)) (R.callB [(0,0)] hC (FnO.some' (r := .sl (some 5) 1 (s.map D.u8)) (bx' := [(0,.var (.agg [.sl none 1 (r3.map D.u8)]))]) (nw := []) (ritem_ok r2 (by omega)) (by rw [hE3]; rfl)) (EvB.cons (gV 21 rfl) rfl rfl rfl EvB.nil) rfl ⟨rfl,trivial⟩ ⟨rfl,trivial⟩ rfl rfl rfl rfl rfl rfl (nU rfl)) rfl (show (.sl (some 5) 1 (s.map D.u8) : D).brw = _ from by simp only [D.brw,brws_eq]; rw [brw_map (fun _ => rfl)]),⟨rfl,_,R.fdP (gU 4 rfl) (nU rfl),⟨rfl,_,R.stZ (gU 23 rfl) (xU 4 rfl) rfl (gV 22 rfl) (by rfl) (by rfl) (by rfl) (by rfl) rfl,tV [(0,_),(1,_),(4,_),(7,_),(8,_)] [(4,.var _),(0,.var _),(1,.var _)] 60 rfl rfl rfl ?_⟩⟩⟩)
   refine W.seq ?_
   rcases hE4 : numO r3 4 with _ | ⟨q,r4⟩
   · refine W.lineX (n := 5) (by decide) (its := [.y 24 _]) (ks := []) (kk := []) (live := [0,1,4,7,8,24]) (env' := [(0,_),(1,_),(4,_),(7,_),(8,_),(24,_)]) (⟨nU rfl,rfl,⟨mU 0 rfl rfl,trivial⟩,rfl,rfl,rfl⟩) rfl (bx' := [(4,.var _),(0,.var _),(1,.var _)]) rfl (n' := 60) rfl (⟨rfl,.inr (R.callX [(0,0)] hC (FnO.none' (rnumber_ok r3 (by omega) 4 (by decide)) (by rw [hE4]; rfl)) (EvB.cons (gV 24 rfl) rfl rfl rfl (EvB.cons (kI 4 rfl) rfl rfl rfl EvB.nil)) rfl ⟨rfl,trivial⟩ ⟨rfl,trivial⟩ rfl (fun e he => ?_))⟩)
     obtain ⟨ch,rfl,hch⟩ := he
     exact EndsO.none' (by rw [bodyO_n2 hE (insO_none hins (by omega) (inO_n4 hE1 hE2 hE3 hE4))]; rfl) ⟨⟨ch,rfl,hch⟩,⟨⟨_,rfl,by first | rfl | simp [dds_sz,sz_ren,D.sz]⟩,⟨⟨_,rfl,by first | rfl | simp [dds_sz,sz_ren,D.sz]⟩,trivial⟩⟩⟩
   have hr4 := numO_len hE4
   have hin := inO_s hE1 hE2 hE3 hE4
   refine W.l0 5 [.y 24 _] [] [] [(0,_),(1,_),(4,_),(7,_),(8,_),(24,_)] [(4,.var _),(0,.var _),(1,.var _)] 60 ⟨mU 0 rfl rfl,trivial⟩ rfl rfl rfl rfl (⟨rfl,_,R.callB [(0,0)] hC (FnO.some' (r := .u64 q) (bx' := [(0,.var (.agg [.sl none 1 (r4.map D.u8)]))]) (nw := []) (rnumber_ok r3 (by omega) 4 (by decide)) (by rw [hE4]; rfl)) (EvB.cons (gV 24 rfl) rfl rfl rfl (EvB.cons (kI 4 rfl) rfl rfl rfl EvB.nil)) rfl ⟨rfl,trivial⟩ ⟨rfl,trivial⟩ rfl rfl rfl rfl rfl rfl (nU rfl),⟨rfl,_,R.conv (gV 25 rfl) rfl (nU rfl),⟨rfl,_,R.fdP (gU 4 rfl) (nU rfl),⟨rfl,_,R.stZ (gU 27 rfl) (xU 4 rfl) rfl (gV 26 rfl) (by rfl) (by rfl) (by rfl) (by rfl) rfl,tV [(0,_),(1,_),(4,_),(7,_),(8,_)] [(4,.var _),(0,.var _),(1,.var _)] 60 rfl rfl rfl ?_⟩⟩⟩⟩)
   refine W.drawC (m := 8) (an := [0,0,2,6,14,0,32,126,255,511,1023]) (its := [.y 28 _,.y 29 _,.y 30 _,.y 31 _,.y 32 _,.y 33 _,.y 34 _,.y 35 _]) (ks := [(7,32)]) (kk := [(7,32)]) (live := [0,1,7,8,28,35]) (env' := [(0,_),(1,_),(7,_),(8,_),(28,_),(35,_)]) (bx1 := [(4,.var _),(0,.var _),(1,.var _)]) [(4,_),(0,_)] 7 [1] hP (by decide) rfl ⟨nU rfl,rfl,rfl,rfl⟩ ⟨rfl,⟨rfl,trivial⟩⟩ (        ⟨⟨rfl,rfl,fun _ τ hb ht hτ => R.mov (evt (hτ 1 _ rfl)) rfl ht⟩,⟨⟨rfl,rfl,fun _ τ hb ht hτ => R.mov (evt (hτ 1 _ rfl)) rfl ht⟩,⟨⟨rfl,rfl,fun _ τ hb ht hτ => R.nilcP (hτ 29 _ rfl) ht⟩,⟨⟨rfl,rfl,fun _ τ hb ht hτ => R.fdP (hτ 30 _ rfl) ht⟩,⟨⟨rfl,rfl,fun _ τ hb ht hτ => R.ldO (hτ 31 _ rfl) (hb 1 _ rfl) rfl ht⟩,⟨⟨rfl,rfl,fun _ τ hb ht hτ => R.ldP (hτ 4 _ rfl) (hb 4 _ rfl) rfl rfl rfl rfl ht⟩,⟨⟨rfl,rfl,fun _ τ hb ht hτ => R.bslE (z := 36) (.cons (evt (hτ 33 _ rfl)) .nil) ⟨⟨rfl,rfl,rfl⟩,trivial⟩ rfl ht (by decide)⟩,⟨⟨rfl,rfl,rfl,(SpC.appB (s := 32) rfl rfl rfl rfl rfl rfl (fun τ hb hτ => (SrcO.sc (SC.sl (hτ 34 _ rfl rfl rfl)) (pur_lit rfl))) (show _ = ((l ++ [(⟨x,p.toUInt32,s,q.toUInt32,[]⟩ : InS)]).map inN) from (by rw [List.map_append]; rfl)) bU (by decide) (by decide) rfl)⟩,trivial⟩⟩⟩⟩⟩⟩⟩⟩) rfl rfl rfl (nU rfl) ⟨rfl,⟨rfl,trivial⟩⟩ rfl (n' := 60) rfl (⟨rfl,_,R.nilcP (gU 28 rfl) (nU rfl),⟨rfl,_,R.fdP (gU 36 rfl) (nU rfl),⟨rfl,_,R.stOZ (gU 37 rfl) (xU 1 rfl) rfl (gU 35 rfl) rfl rfl (by rfl) (by rfl) rfl rfl,⟨[0,1,7,8],[(0,_),(1,_),(7,_),(8,_)],[(4,.var _),(0,.var _),(1,.var _)],60,rfl,rfl,rfl, ?_⟩⟩⟩⟩)
   refine W.dropB [0,1] (bx' := [(0,.var _),(1,.var _)]) rfl rfl rfl (pin_sub hD rfl) ?_
   refine W.l0 2 [.y 38 _,.y 8 _] [] [] [(0,_),(1,_),(7,_),(8,_)] [(0,.var _),(1,.var _)] 60 ⟨aU fun _ _ H K => R.addN (i) (1) (eU K 8 rfl) (kI 1 rfl) bU H,mU 38 rfl rfl,trivial⟩ rfl rfl rfl rfl (tU rfl ?_)
   exact ⟨⟨(i + 1,l ++ [(⟨x,p.toUInt32,s,q.toUInt32,[]⟩ : InS)],r4),⟨by omega,insO_s hins hin⟩⟩,rfl,(by simp only []; omega)⟩
 · obtain rfl : i = n := by omega
   have hI := hins
   refine W.exit ?_
   refine W.seq ?_
   rcases hE9 : cntO r with _ | ⟨n2,r5⟩
   · refine W.lineX (n := 3) (by decide) (its := [.y 39 _]) (ks := []) (kk := []) (live := [0,1,39]) (env' := [(0,_),(1,_),(39,_)]) (⟨nU rfl,rfl,⟨mU 0 rfl rfl,trivial⟩,rfl,rfl,rfl⟩) rfl (bx' := [(0,.var _),(1,.var _)]) rfl (n' := 60) rfl (⟨rfl,.inr (R.callX [(0,0)] hC (FnO.none' (rcount_ok r (by omega)) (by rw [hE9]; rfl)) (EvB.cons (gV 39 rfl) rfl rfl rfl EvB.nil) rfl ⟨rfl,trivial⟩ ⟨rfl,trivial⟩ rfl (fun e he => ?_))⟩)
     obtain ⟨ch,rfl,hch⟩ := he
     exact EndsO.none' (by rw [bodyO_n3 hE hI hE9]; rfl) ⟨⟨ch,rfl,hch⟩,⟨⟨_,rfl,by first | rfl | simp [dds_sz,sz_ren,D.sz]⟩,⟨⟨_,rfl,by first | rfl | simp [dds_sz,sz_ren,D.sz]⟩,trivial⟩⟩⟩
   have hr5 := cntO_le hE9 (by omega)
   refine W.l0 3 [.y 39 _] [] [] [(0,_),(1,_),(39,_)] [(0,.var _),(1,.var _)] 60 ⟨mU 0 rfl rfl,trivial⟩ rfl rfl rfl rfl (⟨rfl,_,R.callB [(0,0)] hC (FnO.some' (r := .int ((n2 : Nat) : Int)) (bx' := [(0,.var (.agg [.sl none 1 (r5.map D.u8)]))]) (nw := []) (rcount_ok r (by omega)) (by rw [hE9]; rfl)) (EvB.cons (gV 39 rfl) rfl rfl rfl EvB.nil) rfl ⟨rfl,trivial⟩ ⟨rfl,trivial⟩ rfl rfl rfl rfl rfl rfl (nU rfl),⟨rfl,_,R.mov (kI 0 rfl) rfl (nU rfl),tV [(0,_),(1,_),(40,_),(41,_)] [(0,.var _),(1,.var _)] 60 rfl rfl rfl ?_⟩⟩)
   refine W.block ?_
   refine W.loop (α := {q__ : Nat × List OutS × List UInt8 // q__.1 ≤ n2 ∧ outsO r5 q__.1 = some (q__.2.1,q__.2.2)}) (fun q__ => ⟨60,[(0,.ptr 0 0 []),(1,.ptr 1 0 []),(40,.int ((n2 : Nat) : Int)),(41,.int ((q__.1.1 : Nat) : Int))],[(0,.var (.agg [.sl none 1 (q__.1.2.2.map D.u8)])),(1,.var (.agg [.u32 v,.sl (some 56) 36 (l.map inN),.sl (some 46) 2 (q__.1.2.1.map outD),.u32 k]))]⟩) (fun q__ => n2 - q__.1.1) ⟨(0,[],r5),⟨Nat.zero_le _,rfl⟩⟩ rfl ?_
   rintro ⟨⟨j,m,u⟩,⟨hj,houts⟩⟩
   show W _ _ _ _ ⟨60,[(0,.ptr 0 0 []),(1,.ptr 1 0 []),(40,.int ((n2 : Nat) : Int)),(41,.int ((j : Nat) : Int))],[(0,.var (.agg [.sl none 1 (u.map D.u8)])),(1,.var (.agg [.u32 v,.sl (some 56) 36 (l.map inN),.sl (some 46) 2 (m.map outD),.u32 k]))]⟩
   have hj : j ≤ n2 := hj
   have houts : outsO r5 j = some (m,u) := houts
   have hml := outsO_len houts (by omega)
   refine W.seq ?_
   refine W.l0 1 [.y 42 _] [] [] [(0,_),(1,_),(40,_),(41,_),(42,_)] [(0,.var _),(1,.var _)] 60 ⟨aU fun _ _ H K => R.lssN (j) (n2) (eU K 41 rfl) (eU K 40 rfl) H,trivial⟩ rfl rfl rfl rfl (tU rfl ?_)
   refine W.seq ?_
   refine W.condD rfl (fun hc42 => ?_) (fun hc42 => ?_)
   · refine W.skip ?_
     refine W.seq ?_
     refine W.block ?_
     refine W.seq ?_
     refine W.l0 1 [] [] [] [(0,_),(1,_),(40,_),(41,_)] [(0,.var _),(1,.var _)] 60 trivial rfl rfl rfl rfl (⟨rfl,_,R.alloc rfl (nU rfl),tV [(0,_),(1,_),(5,_),(40,_),(41,_)] [(5,.var _),(0,.var _),(1,.var _)] 60 rfl rfl rfl ?_⟩)
     refine W.seq ?_
     rcases hE10 : numO u 8 with _ | ⟨p,u1⟩
     · refine W.lineX (n := 4) (by decide) (its := [.y 43 _]) (ks := []) (kk := []) (live := [0,1,5,40,41,43]) (env' := [(0,_),(1,_),(5,_),(40,_),(41,_),(43,_)]) (⟨nU rfl,rfl,⟨mU 0 rfl rfl,trivial⟩,rfl,rfl,rfl⟩) rfl (bx' := [(5,.var _),(0,.var _),(1,.var _)]) rfl (n' := 60) rfl (⟨rfl,.inr (R.callX [(0,0)] hC (FnO.none' (rnumber_ok u (by omega) 8 (by decide)) (by rw [hE10]; rfl)) (EvB.cons (gV 43 rfl) rfl rfl rfl (EvB.cons (kI 8 rfl) rfl rfl rfl EvB.nil)) rfl ⟨rfl,trivial⟩ ⟨rfl,trivial⟩ rfl (fun e he => ?_))⟩)
       obtain ⟨ch,rfl,hch⟩ := he
       exact EndsO.none' (by rw [bodyO_n4 hE hI hE9 (outsO_none houts (by omega) (outO_n1 hE10))]; rfl) ⟨⟨ch,rfl,hch⟩,⟨⟨_,rfl,by first | rfl | simp [dds_sz,sz_ren,D.sz]⟩,⟨⟨_,rfl,by first | rfl | simp [dds_sz,sz_ren,D.sz]⟩,trivial⟩⟩⟩
     have hu1 := numO_len hE10
     refine W.l0 4 [.y 43 _] [] [] [(0,_),(1,_),(5,_),(40,_),(41,_),(43,_)] [(5,.var _),(0,.var _),(1,.var _)] 60 ⟨mU 0 rfl rfl,trivial⟩ rfl rfl rfl rfl (⟨rfl,_,R.callB [(0,0)] hC (FnO.some' (r := .u64 p) (bx' := [(0,.var (.agg [.sl none 1 (u1.map D.u8)]))]) (nw := []) (rnumber_ok u (by omega) 8 (by decide)) (by rw [hE10]; rfl)) (EvB.cons (gV 43 rfl) rfl rfl rfl (EvB.cons (kI 8 rfl) rfl rfl rfl EvB.nil)) rfl ⟨rfl,trivial⟩ ⟨rfl,trivial⟩ rfl rfl rfl rfl rfl rfl (nU rfl),⟨rfl,_,R.fdP (gU 5 rfl) (nU rfl),⟨rfl,_,R.stZ (gU 45 rfl) (xU 5 rfl) rfl (gV 44 rfl) (by rfl) (by rfl) (by rfl) (by rfl) rfl,tV [(0,_),(1,_),(5,_),(40,_),(41,_)] [(5,.var _),(0,.var _),(1,.var _)] 60 rfl rfl rfl ?_⟩⟩⟩)
     refine W.seq ?_
     rcases hE11 : itemO u1 with _ | ⟨s,u2⟩
     · refine W.lineX (n := 4) (by decide) (its := [.y 46 _]) (ks := []) (kk := []) (live := [0,1,5,40,41,46]) (env' := [(0,_),(1,_),(5,_),(40,_),(41,_),(46,_)]) (⟨nU rfl,rfl,⟨mU 0 rfl rfl,trivial⟩,rfl,rfl,rfl⟩) rfl (bx' := [(5,.var _),(0,.var _),(1,.var _)]) rfl (n' := 60) rfl (⟨rfl,.inr (R.callX [(0,0)] hC (FnO.none' (ritem_ok u1 (by omega)) (by rw [hE11]; rfl)) (EvB.cons (gV 46 rfl) rfl rfl rfl EvB.nil) rfl ⟨rfl,trivial⟩ ⟨rfl,trivial⟩ rfl (fun e he => ?_))⟩)
       obtain ⟨ch,rfl,hch⟩ := he
       exact EndsO.none' (by rw [bodyO_n4 hE hI hE9 (outsO_none houts (by omega) (outO_n2 hE10 hE11))]; rfl) ⟨⟨ch,rfl,hch⟩,⟨⟨_,rfl,by first | rfl | simp [dds_sz,sz_ren,D.sz]⟩,⟨⟨_,rfl,by first | rfl | simp [dds_sz,sz_ren,D.sz]⟩,trivial⟩⟩⟩
     have hu2 := itemO_len hE11 (by omega)
     have hout := outO_s hE10 hE11
     refine W.l0 4 [.y 46 _] [] [] [(0,_),(1,_),(5,_),(40,_),(41,_),(46,_)] [(5,.var _),(0,.var _),(1,.var _)] 60 ⟨mU 0 rfl rfl,trivial⟩ rfl rfl rfl rfl (⟨rfl,_,R.frzT (r' := .sl none 1 (s.map D.u8)) (R.callB [(0,0)] hC (FnO.some' (r := .sl (some 5) 1 (s.map D.u8)) (bx' := [(0,.var (.agg [.sl none 1 (u2.map D.u8)]))]) (nw := []) (ritem_ok u1 (by omega)) (by rw [hE11]; rfl)) (EvB.cons (gV 46 rfl) rfl rfl rfl EvB.nil) rfl ⟨rfl,trivial⟩ ⟨rfl,trivial⟩ rfl rfl rfl rfl rfl rfl (nU rfl)) rfl (show (.sl (some 5) 1 (s.map D.u8) : D).brw = _ from by simp only [D.brw,brws_eq]; rw [brw_map (fun _ => rfl)]),⟨rfl,_,R.fdP (gU 5 rfl) (nU rfl),⟨rfl,_,R.stZ (gU 48 rfl) (xU 5 rfl) rfl (gV 47 rfl) (by rfl) (by rfl) (by rfl) (by rfl) rfl,tV [(0,_),(1,_),(5,_),(40,_),(41,_)] [(5,.var _),(0,.var _),(1,.var _)] 60 rfl rfl rfl ?_⟩⟩⟩)
     refine W.drawC (m := 8) (an := [0,0,2,6,14,0,32,126,255,511,1023]) (its := [.y 49 _,.y 50 _,.y 51 _,.y 52 _,.y 53 _,.y 54 _,.y 55 _,.y 56 _]) (ks := [(7,53)]) (kk := [(7,53)]) (live := [0,1,40,41,49,56]) (env' := [(0,_),(1,_),(40,_),(41,_),(49,_),(56,_)]) (bx1 := [(5,.var _),(0,.var _),(1,.var _)]) [(5,_),(0,_)] 7 [1] hP (by decide) rfl ⟨nU rfl,rfl,rfl,rfl⟩ ⟨rfl,⟨rfl,trivial⟩⟩ (          ⟨⟨rfl,rfl,fun _ τ hb ht hτ => R.mov (evt (hτ 1 _ rfl)) rfl ht⟩,⟨⟨rfl,rfl,fun _ τ hb ht hτ => R.mov (evt (hτ 1 _ rfl)) rfl ht⟩,⟨⟨rfl,rfl,fun _ τ hb ht hτ => R.nilcP (hτ 50 _ rfl) ht⟩,⟨⟨rfl,rfl,fun _ τ hb ht hτ => R.fdP (hτ 51 _ rfl) ht⟩,⟨⟨rfl,rfl,fun _ τ hb ht hτ => R.ldO (hτ 52 _ rfl) (hb 1 _ rfl) rfl ht⟩,⟨⟨rfl,rfl,fun _ τ hb ht hτ => R.ldP (hτ 5 _ rfl) (hb 5 _ rfl) rfl rfl rfl rfl ht⟩,⟨⟨rfl,rfl,fun _ τ hb ht hτ => R.bslE (z := 2) (.cons (evt (hτ 54 _ rfl)) .nil) ⟨⟨rfl,rfl,rfl⟩,trivial⟩ rfl ht (by decide)⟩,⟨⟨rfl,rfl,rfl,(SpC.appB (s := 53) rfl rfl rfl rfl rfl rfl (fun τ hb hτ => (SrcO.sc (SC.sl (hτ 55 _ rfl rfl rfl)) (pur_lit rfl))) (show _ = ((m ++ [(⟨p,s⟩ : OutS)]).map outD) from (by rw [List.map_append]; rfl)) bU (by decide) (by decide) rfl)⟩,trivial⟩⟩⟩⟩⟩⟩⟩⟩) rfl rfl rfl (nU rfl) ⟨rfl,⟨rfl,trivial⟩⟩ rfl (n' := 60) rfl (⟨rfl,_,R.nilcP (gU 49 rfl) (nU rfl),⟨rfl,_,R.fdP (gU 57 rfl) (nU rfl),⟨rfl,_,R.stOZ (gU 58 rfl) (xU 1 rfl) rfl (gU 56 rfl) rfl rfl (by rfl) (by rfl) rfl rfl,⟨[0,1,40,41],[(0,_),(1,_),(40,_),(41,_)],[(5,.var _),(0,.var _),(1,.var _)],60,rfl,rfl,rfl, ?_⟩⟩⟩⟩)
     refine W.dropB [0,1] (bx' := [(0,.var _),(1,.var _)]) rfl rfl rfl (pin_sub hD rfl) ?_
     refine W.l0 2 [.y 59 _,.y 41 _] [] [] [(0,_),(1,_),(40,_),(41,_)] [(0,.var _),(1,.var _)] 60 ⟨aU fun _ _ H K => R.addN (j) (1) (eU K 41 rfl) (kI 1 rfl) bU H,mU 59 rfl rfl,trivial⟩ rfl rfl rfl rfl (tU rfl ?_)
     exact ⟨⟨(j + 1,m ++ [(⟨p,s⟩ : OutS)],u2),⟨by omega,outsO_s houts hout⟩⟩,rfl,(by simp only []; omega)⟩
   · obtain rfl : j = n2 := by omega
     refine W.exit ?_
     exact EndsO.some' (r := .tup []) (bx' := [(0,.var (.agg [.sl none 1 (u.map D.u8)])),(1,.var (.agg [.u32 v,.sl (some 56) 36 (l.map inN),.sl (some 46) 2 (m.map outD),.u32 k]))]) (nw := []) (by rw [bodyO_s hE hI hE9 houts]; rfl) (EndsB.none' (r := .dead) (.inl rfl) rfl (rfl) ⟨rfl,⟨rfl,trivial⟩⟩)

end Go.Sx

namespace Go.Sx
open Go.Proofs
abbrev Plc := Hs × UInt32
def placeK (p : Plc) : D := .agg [hashD p.1,.u32 p.2]
def plc (x : InS) : Plc := (x.tx,x.n)
theorem EqV.up {P : Program} {k : Nat} {t : TypeId} {d1 d2 : D} {b : Bool} (h : EqV P k t d1 d2 b) (j : Nat) : EqV P (k + j) t d1 d2 b := by
 intro n w ρ1 ρ2 G1 G2 L1 L2 v1 v2 F1 F2 h1 h2
 have := h (n + j) w ρ1 ρ2 G1 G2 L1 L2 v1 v2 F1 F2 h1 h2
 rwa [show n + (k + j) = n + j + k by omega]
theorem eqv_place (a b : Plc) : EqV Tryd.prog 3 53 (placeK a) (placeK b) (a == b) := by
 have h32 : ∀ x y : UInt32,EqV Tryd.prog 2 22 (.u32 x) (.u32 y) (x == y) := fun x y => (EqV.u32 Tryd.underlying22 x y).up 1
 have hh : ∀ x y : Hs,EqV Tryd.prog 2 32 (hashD x) (hashD y) (x == y) := fun x y => EqV.arr x y
 have := EqV.struct (k := 2) Tryd.underlying53 (by kernel_rfl) (.cons rfl rfl inferInstance rfl rfl rfl rfl (hh a.1 b.1) (.cons rfl rfl inferInstance rfl rfl rfl rfl (h32 a.2 b.2) .nil))
 rw [Bool.and_true] at this
 exact this
theorem place_key : KeyC Tryd.prog 53 placeK 3 where
 s := ⟨_,Tryd.underlying53⟩
 eq := fun a b => by
  have h := eqv_place a b
  have e : (@BEq.beq Plc instBEqProd a b) = (@BEq.beq Plc instBEqOfDecidableEq a b) := by
   rw [Bool.eq_iff_iff,@beq_iff_eq Plc instBEqProd _ a b,@beq_iff_eq Plc instBEqOfDecidableEq _ a b]
  rw [← e]
  exact h
 ck := fun a => CkV.struct (k := 2) Tryd.underlying53 (.cons rfl rfl inferInstance rfl rfl (CkV.arr a.1) (.cons rfl rfl inferInstance rfl rfl (CkV.more (CkV.u32 Tryd.underlying22 a.2)) .nil))
 n := rfl
 p := fun _ => rfl

def seenM (l : List InS) : Nat → List (Plc × Int)
 | 0 => []
 | i + 1 => seenM l i ++ [(plc l[i]!,((i : Nat) : Int))]
def sumI (l : List OutS) : Nat → UInt64
 | 0 => 0
 | i + 1 => sumI l i + l[i]!.value
def mayP (t : TxS) : Prop :=
 t.ins.length ≠ 0 ∧ t.outs.length ≠ 0 ∧ (∀ i < t.ins.length,kHas (seenM t.ins i) (plc t.ins[i]!) = false) ∧ (∀ i < t.outs.length,¬ 2100000000000000 < t.outs[i]!.value ∧ ¬ 2100000000000000 < sumI t.outs (i + 1)) ∧ (putS t).length ≤ 16384
instance (t : TxS) : Decidable (mayP t) := by unfold mayP; infer_instance
def mayS (t : TxS) : Bool := decide (mayP t)
def mintS (t : TxS) : Bool := decide (t.ins.length = 1) && (plc t.ins[0]! == (List.replicate 32 0,4294967295))
theorem may_f1 {t : TxS} (h : t.ins.length = 0) : mayS t = false := decide_eq_false fun hm => hm.1 h
theorem may_f2 {t : TxS} (h : t.outs.length = 0) : mayS t = false := decide_eq_false fun hm => hm.2.1 h
theorem may_f3 {t : TxS} {i : Nat} (hi : i < t.ins.length) (h : kHas (seenM t.ins i) (plc t.ins[i]!) = true) : mayS t = false := decide_eq_false fun hm => by have := hm.2.2.1 i hi; rw [h] at this; cases this
theorem may_f4 {t : TxS} {i : Nat} (hi : i < t.outs.length) (h : 2100000000000000 < t.outs[i]!.value) : mayS t = false := decide_eq_false fun hm => (hm.2.2.2.1 i hi).1 h
theorem may_f5 {t : TxS} {i : Nat} (hi : i < t.outs.length) (h : 2100000000000000 < sumI t.outs (i + 1)) : mayS t = false := decide_eq_false fun hm => (hm.2.2.2.1 i hi).2 h
theorem may_fin {t : TxS} (h1 : ¬ t.ins.length = 0) (h2 : ¬ t.outs.length = 0) (h3 : ∀ i < t.ins.length,kHas (seenM t.ins i) (plc t.ins[i]!) = false)
 (h4 : ∀ i < t.outs.length,¬ 2100000000000000 < t.outs[i]!.value ∧ ¬ 2100000000000000 < sumI t.outs (i + 1)) : mayS t = decide ((putS t).length ≤ 16384) := by
 unfold mayS mayP
 simp only [ne_eq,h1,h2,not_false_eq_true,true_and,decide_eq_decide]
 exact ⟨fun h => h.2.2,fun h => ⟨h3,h4,h⟩⟩
end Go.Sx

namespace Go.Sx
open Go.Proofs
theorem may_ok (t : TxS) (hwf : t.wf) : Fn Tryd.prog gl 19 [txD t] (.bool (mayS t)) := by
 refine Fn.of (n := 64) Tryd.func19 rfl rfl rfl (nU rfl) fun C hC hD => ?_
 have h1 := hwf.ins
 have h2 := hwf.outs
 refine W.seq ?_
 refine W.l0 2 [] [] [] [(0,_)] [] 64 trivial rfl rfl rfl rfl (⟨rfl,_,R.box (gV 0 rfl) rfl rfl (nU rfl),⟨rfl,_,R.asg (kB false rfl) rfl (nU rfl),tV [(1,_)] [(1,.var _)] 64 rfl rfl rfl ?_⟩⟩)
 refine W.seq ?_
 refine W.seq ?_
 by_cases hz : t.ins.length = 0
 · refine W.l0 10 [.y 11 _,.y 12 _,.y 13 _,.y 14 _,.y 15 _,.x 16,.x 17,.x 18,.x 19,.y 20 _] [] [] [(1,_),(20,_)] [(1,.var _)] 64 ⟨aU (fU 1 rfl rfl),aU (lU 11 rfl rfl rfl rfl rfl rfl rfl),aU fun _ _ H K => R.lenE (SC.sl (K 12 _ rfl)) (List.length_map _) H,aU fun _ _ H K => R.eqlN (t.ins.length) (0) (eU K 13 rfl) (kI 0 rfl) H,mU 14 rfl rfl,aF rfl rfl (gT (decide_eq_true hz) rfl),aF rfl rfl (gT (decide_eq_true hz) rfl),aF rfl rfl (gT (decide_eq_true hz) rfl),aF rfl rfl (gT (decide_eq_true hz) rfl),aU fun _ _ H K => R.pickT (eU K 15 rfl) (decide_eq_true hz) (kB true rfl) rfl H,trivial⟩ rfl rfl rfl rfl (tU rfl ?_)
   refine W.condT rfl (rfl) ?_
   refine W.seq ?_
   refine W.l0 1 [.y 2 _] [] [] [(2,_)] [(1,.var _)] 64 ⟨aU fun _ _ H _ => R.asg (kB false rfl) rfl H,trivial⟩ rfl rfl rfl rfl (tU rfl ?_)
   refine W.ret ?_
   exact Ends.one' (.inr rfl) rfl (congrArg D.bool (may_f1 hz).symm) rfl rfl trivial
 · refine W.l0 10 [.y 11 _,.y 12 _,.y 13 _,.y 14 _,.y 15 _,.y 16 _,.y 17 _,.y 18 _,.y 19 _,.y 20 _] [] [] [(1,_),(20,_)] [(1,.var _)] 64 ⟨aU (fU 1 rfl rfl),aU (lU 11 rfl rfl rfl rfl rfl rfl rfl),aU fun _ _ H K => R.lenE (SC.sl (K 12 _ rfl)) (List.length_map _) H,aU fun _ _ H K => R.eqlN (t.ins.length) (0) (eU K 13 rfl) (kI 0 rfl) H,mU 14 rfl rfl,aW rfl rfl (gF (decide_eq_false hz) rfl) (fU 1 rfl rfl),aW rfl rfl (gF (decide_eq_false hz) rfl) (lU 16 rfl rfl rfl rfl rfl rfl rfl),aW rfl rfl (gF (decide_eq_false hz) rfl) fun _ _ H K => R.lenE (SC.sl (K 17 _ rfl)) (List.length_map _) H,aW rfl rfl (gF (decide_eq_false hz) rfl) fun _ _ H K => R.eqlN (t.outs.length) (0) (eU K 18 rfl) (kI 0 rfl) H,aU fun _ _ H K => R.pickF (eU K 15 rfl) (decide_eq_false hz) (eU K 19 rfl) rfl H,trivial⟩ rfl rfl rfl rfl (tU rfl ?_)
   refine W.condD rfl (fun hc20 => ?_) (fun hc20 => ?_)
   · refine W.seq ?_
     refine W.l0 1 [.y 2 _] [] [] [(2,_)] [(1,.var _)] 64 ⟨aU fun _ _ H _ => R.asg (kB false rfl) rfl H,trivial⟩ rfl rfl rfl rfl (tU rfl ?_)
     refine W.ret ?_
     exact Ends.one' (.inr rfl) rfl (congrArg D.bool (may_f2 hc20).symm) rfl rfl trivial
   · refine W.skip ?_
     refine W.seq ?_
     refine W.l0 2 [] [] [] [(1,_)] [(1,.var _)] 64 trivial rfl rfl rfl rfl (⟨rfl,_,R.mkmapK placeK D.int rfl (nU rfl),⟨rfl,_,R.asg (gV 21 rfl) rfl (nU rfl),tV [(1,_),(3,_)] [(21,mpK placeK D.int _),(1,.var _)] 64 rfl rfl rfl ?_⟩⟩)
     refine W.seq ?_
     refine W.seq ?_
     refine W.l0 4 [.y 22 _,.y 23 _,.y 24 _,.y 25 _] [] [] [(1,_),(3,_),(23,_),(24,_),(25,_)] [(21,mpK placeK D.int _),(1,.var _)] 64 ⟨aU (fU 1 rfl rfl),aU (lU 22 rfl rfl rfl rfl rfl rfl rfl),aU fun _ _ H K => R.lenE (SC.sl (K 23 _ rfl)) (List.length_map _) H,aU fun _ _ H _ => R.mov (kI 0 rfl) rfl H,trivial⟩ rfl rfl rfl rfl (tU rfl ?_)
     refine W.block ?_
     refine W.loop (α := {q__ : Nat // q__ ≤ t.ins.length ∧ ∀ j < q__,kHas (seenM t.ins j) (plc t.ins[j]!) = false}) (fun q__ => ⟨64,[(1,.ptr 1 0 []),(3,.map 21),(23,.sl none 36 (t.ins.map inD)),(24,.int ((t.ins.length : Nat) : Int)),(25,.int ((q__.1 : Nat) : Int))],[(21,mpK placeK D.int (seenM t.ins q__.1)),(1,.var (.agg [.u32 t.ver,.sl none 36 (t.ins.map inD),.sl none 2 (t.outs.map outD),.u32 t.lock]))]⟩) (fun q__ => t.ins.length - q__.1) ⟨(0),⟨Nat.zero_le _,fun j h => absurd h (Nat.not_lt_zero _)⟩⟩ rfl ?_
     rintro ⟨i,⟨hi,hno⟩⟩
     show W _ _ _ _ ⟨64,[(1,.ptr 1 0 []),(3,.map 21),(23,.sl none 36 (t.ins.map inD)),(24,.int ((t.ins.length : Nat) : Int)),(25,.int ((i : Nat) : Int))],[(21,mpK placeK D.int (seenM t.ins i)),(1,.var (.agg [.u32 t.ver,.sl none 36 (t.ins.map inD),.sl none 2 (t.outs.map outD),.u32 t.lock]))]⟩
     have hi : i ≤ t.ins.length := hi
     have hno : ∀ j < i,kHas (seenM t.ins j) (plc t.ins[j]!) = false := hno
     refine W.seq ?_
     refine W.l0 1 [.y 26 _] [] [] [(1,_),(3,_),(23,_),(24,_),(25,_),(26,_)] [(21,mpK placeK D.int _),(1,.var _)] 64 ⟨aU fun _ _ H K => R.lssN (i) (t.ins.length) (eU K 25 rfl) (eU K 24 rfl) H,trivial⟩ rfl rfl rfl rfl (tU rfl ?_)
     refine W.seq ?_
     refine W.condD rfl (fun hc26 => ?_) (fun hc26 => ?_)
     · refine W.skip ?_
       refine W.seq ?_
       refine W.block ?_
       refine W.seq ?_
       refine W.l0 6 [.y 27 _,.y 28 _,.y 29 _] [] [] [(1,_),(3,_),(23,_),(24,_),(25,_),(27,_),(29,_)] [(21,mpK placeK D.int _),(1,.var _)] 64 ⟨mU 25 rfl rfl,aU fun _ _ H K => R.idxN (i) (SC.sl (K 23 _ rfl)) (evoI (eU K 25 rfl)) rfl bU H (by decide),aU fun _ _ H K => R.ldE (K 28 _ rfl) (SC.sl (K 23 _ rfl)) (map_get! (l := t.ins) bU) rfl rfl rfl rfl H,trivial⟩ rfl rfl rfl rfl (⟨rfl,_,R.alloc rfl (nU rfl),⟨rfl,_,R.asg (gV 27 rfl) rfl (nU rfl),⟨rfl,_,R.stZ (gU 5 rfl) (xU 5 rfl) rfl (gV 29 rfl) (by rfl) (by rfl) (by rfl) (by rfl) rfl,tV [(1,_),(3,_),(4,_),(5,_),(23,_),(24,_),(25,_)] [(5,.var _),(21,mpK placeK D.int _),(1,.var _)] 64 rfl rfl rfl ?_⟩⟩⟩)
       refine W.seq ?_
       refine W.seq ?_
       refine W.l0 9 [.y 31 _,.y 32 _,.y 33 _,.y 34 _,.y 30 _,.y 35 _,.y 36 _,.y 6 _,.y 7 _] [] [] [(1,_),(3,_),(4,_),(5,_),(7,_),(23,_),(24,_),(25,_)] [(5,.var _),(21,mpK placeK D.int _),(1,.var _)] 64 ⟨mU 3 rfl rfl,aU (fU 5 rfl rfl),aU (lU 32 rfl rfl rfl rfl rfl rfl rfl),aU fun _ B H K => R.lookK (k := plc t.ins[i]!) (z := 0) place_key (K 31 _ rfl) (B 21 _ rfl) (eU K 33 rfl) rfl rfl (fun _ => rfl) H,aU fun _ _ H K => R.movT (K 34 _ rfl) rfl H,aU fun _ _ H K => R.ext (K 30 _ rfl) rfl rfl H,aU fun _ _ H K => R.ext (K 30 _ rfl) rfl rfl H,aU fun _ _ H K => R.asg (eU K 35 rfl) rfl H,aU fun _ _ H K => R.asg (eU K 36 rfl) rfl H,trivial⟩ rfl rfl rfl rfl (tU rfl ?_)
       refine W.seq ?_
       refine W.l0 1 [.y 37 _] [] [] [(1,_),(3,_),(4,_),(5,_),(23,_),(24,_),(25,_),(37,_)] [(5,.var _),(21,mpK placeK D.int _),(1,.var _)] 64 ⟨mU 7 rfl rfl,trivial⟩ rfl rfl rfl rfl (tU rfl ?_)
       refine W.cond rfl (fun hc37 => ?_) (fun hc37 => ?_)
       · refine W.seq ?_
         refine W.l0 1 [.y 2 _] [] [] [(2,_)] [(5,.var _),(21,mpK placeK D.int _),(1,.var _)] 64 ⟨aU fun _ _ H _ => R.asg (kB false rfl) rfl H,trivial⟩ rfl rfl rfl rfl (tU rfl ?_)
         refine W.ret ?_
         exact Ends.one' (.inr rfl) rfl (congrArg D.bool (may_f3 hc26 hc37).symm) rfl rfl trivial
       · refine W.skip ?_
         refine W.l0 5 [.y 38 _,.y 39 _,.y 40 _,.y 41 _] [] [] [(1,_),(3,_),(23,_),(24,_),(25,_),(38,_),(40,_),(41,_)] [(5,.var _),(21,mpK placeK D.int _),(1,.var _)] 64 ⟨mU 3 rfl rfl,aU (fU 5 rfl rfl),aU (lU 39 rfl rfl rfl rfl rfl rfl rfl),mU 4 rfl rfl,trivial⟩ rfl rfl rfl rfl (⟨rfl,_,R.mupdN (k := plc t.ins[i]!) (u := ((i : Nat) : Int)) place_key (gU 38 rfl) (xU 21 rfl) (gV 40 rfl) rfl (gV 41 rfl) rfl rfl (hc37),tV [(1,_),(3,_),(23,_),(24,_),(25,_)] [(5,.var _),(21,mpK placeK D.int _),(1,.var _)] 64 rfl rfl rfl ?_⟩)
         refine W.dropBP [1,21] (bx' := [(21,mpK placeK D.int _),(1,.var _)]) rfl rfl ⟨okMpK (fun _ => rfl) (fun _ => rfl),⟨rfl,trivial⟩⟩ (pin_sub hD rfl) ?_
         refine W.l0 2 [.y 42 _,.y 25 _] [] [] [(1,_),(3,_),(23,_),(24,_),(25,_)] [(21,mpK placeK D.int _),(1,.var _)] 64 ⟨aU fun _ _ H K => R.addN (i) (1) (eU K 25 rfl) (kI 1 rfl) bU H,mU 42 rfl rfl,trivial⟩ rfl rfl rfl rfl (tU rfl ?_)
         exact ⟨⟨(i + 1),⟨by omega,fun j hj => (Nat.lt_succ_iff_lt_or_eq.1 hj).elim (hno j) (fun e => e ▸ hc37)⟩⟩,rfl,(by simp only []; omega)⟩
     · obtain rfl : i = t.ins.length := by omega
       refine W.exit ?_
       refine W.seq ?_
       refine W.l0 1 [.y 8 _] [] [] [(1,_),(8,_)] [(21,mpK placeK D.int _),(1,.var _)] 64 ⟨aU fun _ _ H _ => R.asg (show ev _ _ (.const (.int .u64 0)) = some (.u64 0) from rfl) rfl H,trivial⟩ rfl rfl rfl rfl (tU rfl ?_)
       refine W.seq ?_
       refine W.seq ?_
       refine W.l0 4 [.y 43 _,.y 44 _,.y 45 _,.y 46 _] [] [] [(1,_),(8,_),(44,_),(45,_),(46,_)] [(21,mpK placeK D.int _),(1,.var _)] 64 ⟨aU (fU 1 rfl rfl),aU (lU 43 rfl rfl rfl rfl rfl rfl rfl),aU fun _ _ H K => R.lenE (SC.sl (K 44 _ rfl)) (List.length_map _) H,aU fun _ _ H _ => R.mov (kI 0 rfl) rfl H,trivial⟩ rfl rfl rfl rfl (tU rfl ?_)
       refine W.block ?_
       refine W.loop (α := {q__ : Nat // q__ ≤ t.outs.length ∧ ∀ j < q__,¬ 2100000000000000 < t.outs[j]!.value ∧ ¬ 2100000000000000 < sumI t.outs (j + 1)}) (fun q__ => ⟨64,[(1,.ptr 1 0 []),(8,.u64 (sumI t.outs q__.1)),(44,.sl none 2 (t.outs.map outD)),(45,.int ((t.outs.length : Nat) : Int)),(46,.int ((q__.1 : Nat) : Int))],[(21,mpK placeK D.int (seenM t.ins t.ins.length)),(1,.var (.agg [.u32 t.ver,.sl none 36 (t.ins.map inD),.sl none 2 (t.outs.map outD),.u32 t.lock]))]⟩) (fun q__ => t.outs.length - q__.1) ⟨(0),⟨Nat.zero_le _,fun j h => absurd h (Nat.not_lt_zero _)⟩⟩ rfl ?_
       rintro ⟨i,⟨hi,hmo⟩⟩
       show W _ _ _ _ ⟨64,[(1,.ptr 1 0 []),(8,.u64 (sumI t.outs i)),(44,.sl none 2 (t.outs.map outD)),(45,.int ((t.outs.length : Nat) : Int)),(46,.int ((i : Nat) : Int))],[(21,mpK placeK D.int (seenM t.ins t.ins.length)),(1,.var (.agg [.u32 t.ver,.sl none 36 (t.ins.map inD),.sl none 2 (t.outs.map outD),.u32 t.lock]))]⟩
       have hi : i ≤ t.outs.length := hi
       have hmo : ∀ j < i,¬ 2100000000000000 < t.outs[j]!.value ∧ ¬ 2100000000000000 < sumI t.outs (j + 1) := hmo
       refine W.seq ?_
       refine W.l0 1 [.y 47 _] [] [] [(1,_),(8,_),(44,_),(45,_),(46,_),(47,_)] [(21,mpK placeK D.int _),(1,.var _)] 64 ⟨aU fun _ _ H K => R.lssN (i) (t.outs.length) (eU K 46 rfl) (eU K 45 rfl) H,trivial⟩ rfl rfl rfl rfl (tU rfl ?_)
       refine W.seq ?_
       refine W.condD rfl (fun hc47 => ?_) (fun hc47 => ?_)
       · refine W.skip ?_
         refine W.seq ?_
         refine W.block ?_
         refine W.seq ?_
         refine W.l0 4 [.y 48 _,.y 49 _] [] [] [(1,_),(8,_),(44,_),(45,_),(46,_),(49,_)] [(21,mpK placeK D.int _),(1,.var _)] 64 ⟨aU fun _ _ H K => R.idxN (i) (SC.sl (K 44 _ rfl)) (evoI (eU K 46 rfl)) rfl bU H (by decide),aU fun _ _ H K => R.ldE (K 48 _ rfl) (SC.sl (K 44 _ rfl)) (map_get! (l := t.outs) bU) rfl rfl rfl rfl H,trivial⟩ rfl rfl rfl rfl (⟨rfl,_,R.alloc rfl (nU rfl),⟨rfl,_,R.stZ (gU 10 rfl) (xU 10 rfl) rfl (gV 49 rfl) (by rfl) (by rfl) (by rfl) (by rfl) rfl,tV [(1,_),(8,_),(10,_),(44,_),(45,_),(46,_)] [(10,.var _),(21,mpK placeK D.int _),(1,.var _)] 64 rfl rfl rfl ?_⟩⟩)
         refine W.seq ?_
         refine W.seq ?_
         refine W.l0 3 [.y 50 _,.y 51 _,.y 52 _] [] [] [(1,_),(8,_),(10,_),(44,_),(45,_),(46,_),(52,_)] [(10,.var _),(21,mpK placeK D.int _),(1,.var _)] 64 ⟨aU (fU 10 rfl rfl),aU (lU 50 rfl rfl rfl rfl rfl rfl rfl),aU fun _ _ H K => R.bin (eU K 51 rfl) (show ev _ _ (.const (.int .u64 2100000000000000)) = some (.u64 2100000000000000) from rfl) rfl trivial H,trivial⟩ rfl rfl rfl rfl (tU rfl ?_)
         refine W.cond rfl (fun hc52 => ?_) (fun hc52 => ?_)
         · refine W.seq ?_
           refine W.l0 1 [.y 2 _] [] [] [(2,_)] [(10,.var _),(21,mpK placeK D.int _),(1,.var _)] 64 ⟨aU fun _ _ H _ => R.asg (kB false rfl) rfl H,trivial⟩ rfl rfl rfl rfl (tU rfl ?_)
           refine W.ret ?_
           exact Ends.one' (.inr rfl) rfl (congrArg D.bool (may_f4 hc47 (of_decide_eq_true hc52)).symm) rfl rfl trivial
         · refine W.skip ?_
           refine W.seq ?_
           refine W.l0 5 [.y 53 _,.y 54 _,.y 55 _,.y 56 _,.y 8 _] [] [] [(1,_),(8,_),(44,_),(45,_),(46,_)] [(10,.var _),(21,mpK placeK D.int _),(1,.var _)] 64 ⟨mU 8 rfl rfl,aU (fU 10 rfl rfl),aU (lU 54 rfl rfl rfl rfl rfl rfl rfl),aU fun _ _ H K => R.bin (eU K 53 rfl) (eU K 55 rfl) rfl trivial H,aU fun _ _ H K => R.asg (eU K 56 rfl) rfl H,trivial⟩ rfl rfl rfl rfl (tU rfl ?_)
           refine W.seq ?_
           refine W.dropBP [1,21] (bx' := [(21,mpK placeK D.int _),(1,.var _)]) rfl rfl ⟨okMpK (fun _ => rfl) (fun _ => rfl),⟨rfl,trivial⟩⟩ (pin_sub hD rfl) ?_
           refine W.l0 2 [.y 57 _,.y 58 _] [] [] [(1,_),(8,_),(44,_),(45,_),(46,_),(58,_)] [(21,mpK placeK D.int _),(1,.var _)] 64 ⟨mU 8 rfl rfl,aU fun _ _ H K => R.bin (eU K 57 rfl) (show ev _ _ (.const (.int .u64 2100000000000000)) = some (.u64 2100000000000000) from rfl) rfl trivial H,trivial⟩ rfl rfl rfl rfl (tU rfl ?_)
           refine W.cond rfl (fun hc58 => ?_) (fun hc58 => ?_)
           · refine W.seq ?_
             refine W.l0 1 [.y 2 _] [] [] [(2,_)] [(21,mpK placeK D.int _),(1,.var _)] 64 ⟨aU fun _ _ H _ => R.asg (kB false rfl) rfl H,trivial⟩ rfl rfl rfl rfl (tU rfl ?_)
             refine W.ret ?_
             exact Ends.one' (.inr rfl) rfl (congrArg D.bool (may_f5 hc47 (of_decide_eq_true hc58)).symm) rfl rfl trivial
           · refine W.skip ?_
             refine W.l0 2 [.y 59 _,.y 46 _] [] [] [(1,_),(8,_),(44,_),(45,_),(46,_)] [(21,mpK placeK D.int _),(1,.var _)] 64 ⟨aU fun _ _ H K => R.addN (i) (1) (eU K 46 rfl) (kI 1 rfl) bU H,mU 59 rfl rfl,trivial⟩ rfl rfl rfl rfl (tU rfl ?_)
             exact ⟨⟨(i + 1),⟨by omega,fun j hj => (Nat.lt_succ_iff_lt_or_eq.1 hj).elim (hmo j) (fun e => e ▸ ⟨of_decide_eq_false hc52,of_decide_eq_false hc58⟩)⟩⟩,rfl,(by simp only []; omega)⟩
       · obtain rfl : i = t.outs.length := by omega
         refine W.exit ?_
         refine W.seq ?_
         refine W.l0 5 [.y 60 _,.y 61 _,.y 62 _,.y 63 _,.y 2 _] [] [] [(2,_)] [(21,mpK placeK D.int _),(1,.var _)] 64 ⟨aU (lU 1 rfl rfl rfl rfl rfl rfl rfl),aU fun _ _ H K => R.callG hC (put_ok t hwf) (Bors.cons (Bor.pur (eU K 60 rfl) rfl rfl) Bors.nil) (FrsR.one (.sl _ _ _ (frs_map fun _ => .u8 _))) H,aU fun _ _ H K => R.lenE (SC.sl (K 61 _ rfl)) (List.length_map _) H,aU fun _ _ H K => R.leqN ((putS t).length) (16384) (eU K 62 rfl) (kI 16384 rfl) H,aU fun _ _ H K => R.asg (eU K 63 rfl) rfl H,trivial⟩ rfl rfl rfl rfl (tU rfl ?_)
         refine W.ret ?_
         exact Ends.one' (.inr rfl) rfl (congrArg D.bool (may_fin hz hc20 hno hmo).symm) rfl rfl trivial

theorem mint_ok (t : TxS) (hwf : t.wf) : Fn Tryd.prog gl 21 [txD t] (.bool (mintS t)) := by
 refine Fn.of (n := 18) Tryd.func21 rfl rfl rfl (nU rfl) fun C hC hD => ?_
 have h1 := hwf.ins
 refine W.seq ?_
 refine W.l0 2 [] [] [] [(0,_)] [] 18 trivial rfl rfl rfl rfl (⟨rfl,_,R.box (gV 0 rfl) rfl rfl (nU rfl),⟨rfl,_,R.asg (kB false rfl) rfl (nU rfl),tV [(1,_)] [(1,.var _)] 18 rfl rfl rfl ?_⟩⟩)
 refine W.seq ?_
 refine W.l0 3 [.y 4 _] [] [] [(1,_),(4,_)] [(1,.var _)] 18 ⟨aU fun _ _ H _ => R.bldSE (l := [.arr 32 1 ((List.replicate 32 0).map D.u8),.u32 0]) (l' := [_,_]) (.cons (show ev _ _ (.const (.int .u32 4294967295)) = some (.u32 4294967295) from rfl) (.nil rfl)) ⟨⟨_,(show ev _ _ (.const (.int .u32 4294967295)) = some (.u32 4294967295) from rfl),rfl,rfl,rfl⟩,trivial⟩ H,trivial⟩ rfl rfl rfl rfl (⟨rfl,_,R.alloc rfl (nU rfl),⟨rfl,_,R.stZ (gU 3 rfl) (xU 3 rfl) rfl (gV 4 rfl) (by rfl) (by rfl) (by rfl) (by rfl) rfl,tV [(1,_),(3,_)] [(3,.var _),(1,.var _)] 18 rfl rfl rfl ?_⟩⟩)
 refine W.seq ?_
 by_cases hz : t.ins.length = 1
 · refine W.draw (m := 14) (an := [0,1,3,7,15,31,63,127,255,511,31,2047,4095,8191]) hP (by decide) rfl (its := [.y 5 _,.y 6 _,.y 7 _,.y 8 _,.y 9 _,.y 10 _,.y 11 _,.y 12 _,.y 13 _,.y 14 _,.y 15 _,.y 16 _,.y 17 _,.y 2 _]) (ks := []) (kk := []) (live := [2]) (env' := [(2,_)]) (⟨nU rfl,rfl,⟨aU (fU 1 rfl rfl),aU (lU 5 rfl rfl rfl rfl rfl rfl rfl),aU fun _ _ H K => R.lenE (SC.sl (K 6 _ rfl)) (List.length_map _) H,aU fun _ _ H K => R.eqlN (t.ins.length) (1) (eU K 7 rfl) (kI 1 rfl) H,mU 8 rfl rfl,aW rfl rfl (gT (decide_eq_true hz) rfl) (fU 1 rfl rfl),aW rfl rfl (gT (decide_eq_true hz) rfl) (lU 10 rfl rfl rfl rfl rfl rfl rfl),aW rfl rfl (gT (decide_eq_true hz) rfl) fun _ _ H K => R.idxN (0) (SC.sl (K 11 _ rfl)) (evoI (kI 0 rfl)) rfl bU H (by decide),aW rfl rfl (gT (decide_eq_true hz) rfl) fun _ _ H K => R.fdE (K 12 _ rfl) H (by decide),aW rfl rfl (gT (decide_eq_true hz) rfl) fun _ _ H K => R.ldE (K 13 _ rfl) (SC.sl (K 11 _ rfl)) (map_get! (l := t.ins) bU) rfl rfl rfl rfl H,aW rfl rfl (gT (decide_eq_true hz) rfl) (lU 3 rfl rfl rfl rfl rfl rfl rfl),aW rfl rfl (gT (decide_eq_true hz) rfl) fun _ _ H K => R.eqD (neg := false) (b' := (plc t.ins[0]! == (List.replicate 32 0,4294967295))) (eqv_place (plc t.ins[0]!) (List.replicate 32 0,4294967295)) rfl (eU K 14 rfl) (eU K 15 rfl) rfl rfl rfl rfl (rfl) H,aU fun _ _ H K => R.pickT (eU K 9 rfl) (decide_eq_true hz) (eU K 16 rfl) rfl H,aU fun _ _ H K => R.asg (eU K 17 rfl) rfl H,trivial⟩,rfl,rfl,rfl⟩) rfl (bx' := [(3,.var _),(1,.var _)]) rfl (n' := 18) rfl (tV [(2,_)] [(3,.var _),(1,.var _)] 18 rfl rfl rfl ?_)
   refine W.ret ?_
   exact Ends.one' (.inr rfl) rfl (by rw [mintS,decide_eq_true hz]; rfl) rfl rfl trivial
 · refine W.draw (m := 14) (an := [0,1,3,7,15,31,63,127,255,511,31,2047,4095,8191]) hP (by decide) rfl (its := [.y 5 _,.y 6 _,.y 7 _,.y 8 _,.y 9 _,.x 10,.x 11,.x 12,.x 13,.x 14,.x 15,.x 16,.y 17 _,.y 2 _]) (ks := []) (kk := []) (live := [2]) (env' := [(2,_)]) (⟨nU rfl,rfl,⟨aU (fU 1 rfl rfl),aU (lU 5 rfl rfl rfl rfl rfl rfl rfl),aU fun _ _ H K => R.lenE (SC.sl (K 6 _ rfl)) (List.length_map _) H,aU fun _ _ H K => R.eqlN (t.ins.length) (1) (eU K 7 rfl) (kI 1 rfl) H,mU 8 rfl rfl,aF rfl rfl (gF (decide_eq_false hz) rfl),aF rfl rfl (gF (decide_eq_false hz) rfl),aF rfl rfl (gF (decide_eq_false hz) rfl),aF rfl rfl (gF (decide_eq_false hz) rfl),aF rfl rfl (gF (decide_eq_false hz) rfl),aF rfl rfl (gF (decide_eq_false hz) rfl),aF rfl rfl (gF (decide_eq_false hz) rfl),aU fun _ _ H K => R.pickF (eU K 9 rfl) (decide_eq_false hz) (kB false rfl) rfl H,aU fun _ _ H K => R.asg (eU K 17 rfl) rfl H,trivial⟩,rfl,rfl,rfl⟩) rfl (bx' := [(3,.var _),(1,.var _)]) rfl (n' := 18) rfl (tV [(2,_)] [(3,.var _),(1,.var _)] 18 rfl rfl rfl ?_)
   refine W.ret ?_
   exact Ends.one' (.inr rfl) rfl (by rw [mintS,decide_eq_false hz]; rfl) rfl rfl trivial

end Go.Sx

namespace Go.Sx
open Go.Proofs
theorem shN_eq (x : UInt64) (i : Nat) (hi : i < 8) : shr_u64 x ((((cU (8 * i)).toNat : Nat) : Int)).toNat = shN x i := by
 have h1 : (cU (8 * i)).toNat = 8 * i := ofInt_nat (by omega)
 rw [h1]
 show shr_u64 x (8 * i) = shN x i
 induction i with
 | zero => simp [shN,shr_u64]
 | succ i ih =>
  rw [shN,← ih (by omega) (ofInt_nat (by omega))]
  apply UInt64.toNat_inj.1
  rw [shr_u64_toNat,shr_u64_toNat,shr_u64_toNat,Nat.div_div_eq_div_mul,← Nat.pow_add]
  congr 2
  omega
theorem le_of_lt16 {x : UInt64} (h : x < 65536) : x ≤ 65535 := by
 rw [UInt64.lt_iff_toNat_lt] at h
 rw [UInt64.le_iff_toNat_le]
 have e1 : (65536 : UInt64).toNat = 65536 := rfl
 have e2 : (65535 : UInt64).toNat = 65535 := rfl
 omega
theorem lt_of_le16 {x : UInt64} (h : x ≤ 65535) : x < 65536 := by
 rw [UInt64.le_iff_toNat_le] at h
 rw [UInt64.lt_iff_toNat_lt]
 have e1 : (65536 : UInt64).toNat = 65536 := rfl
 have e2 : (65535 : UInt64).toNat = 65535 := rfl
 omega
theorem le_of_lt32 {x : UInt64} (h : x < 4294967296) : x ≤ 4294967295 := by
 rw [UInt64.lt_iff_toNat_lt] at h
 rw [UInt64.le_iff_toNat_le]
 have e1 : (4294967296 : UInt64).toNat = 4294967296 := rfl
 have e2 : (4294967295 : UInt64).toNat = 4294967295 := rfl
 omega
theorem lt_of_le32 {x : UInt64} (h : x ≤ 4294967295) : x < 4294967296 := by
 rw [UInt64.le_iff_toNat_le] at h
 rw [UInt64.lt_iff_toNat_lt]
 have e1 : (4294967296 : UInt64).toNat = 4294967296 := rfl
 have e2 : (4294967295 : UInt64).toNat = 4294967295 := rfl
 omega
end Go.Sx
