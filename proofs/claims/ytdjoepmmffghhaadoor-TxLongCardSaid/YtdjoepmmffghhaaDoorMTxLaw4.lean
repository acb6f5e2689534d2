/- Proved: what functions of the given program compute (used by the theorem of this claim). Conditions: none but those that each theorem states. -/
import Derived.Test.YtdjoepmmffghhaaDoorMTxLaw1
set_option linter.unusedVariables false
set_option linter.unusedSimpArgs false
set_option linter.unnecessarySimpa false

namespace Go.Sx
theorem bk_get {t : TxS} (hw : t.wf) (h : mayS t = true) : getS (putS t) = (t,0) := by
 have hl : (putS t).length ≤ 16384 := (of_decide_eq_true h : mayP t).2.2.2.2
 exact gt_some (by omega) (by rw [get_put' hw (mayS_ins h),if_pos h])
def smK (s : List UInt8) : TxS := ⟨1,[smI],[⟨5,s⟩],0⟩
theorem smK_wf {s : List UInt8} (h : s.length ≤ 90000) : (smK s).wf := wf_of_sz (by simp only [smK,szT,szI,szO,szW,smI,List.length_nil]; omega) (by intro x hx; simp [smK] at hx; subst hx; rfl)
def pre55 : List UInt8 := lowI 1 4 ++ (lowI 1 1 ++ (inS smI ++ (lowI 1 1 ++ lowI 5 8)))
theorem pre55_len : pre55.length = 55 := by decide +kernel
theorem bare_smK (s : List UInt8) : bareS (smK s) = pre55 ++ (countS s.length ++ (s ++ [0,0,0,0])) := by
 have h1 : countS 1 = lowI 1 1 := by decide +kernel
 have h2 : lowI (0 : UInt32).toUInt64 4 = [0,0,0,0] := by decide +kernel
 show lowI (1 : UInt32).toUInt64 4 ++ (countS 1 ++ ([] ++ inS smI) ++ countS 1 ++ ([] ++ (lowI 5 8 ++ (countS s.length ++ s)))) ++ lowI (0 : UInt32).toUInt64 4 = _
 rw [h1,h2,pre55,show (1 : UInt32).toUInt64 = 1 from rfl]
 simp only [List.append_assoc,List.nil_append]
theorem put_smK (s : List UInt8) : putS (smK s) = bareS (smK s) := rfl
theorem put_smK_len (s : List UInt8) : (putS (smK s)).length = 59 + (countS s.length).length + s.length := by
 rw [put_smK,bare_smK]
 simp only [List.length_append,pre55_len,List.length_cons,List.length_nil]
 omega
theorem may_smK (s : List UInt8) : mayS (smK s) = decide ((putS (smK s)).length ≤ 16384) := by
 unfold mayS
 rw [decide_eq_decide]
 refine ⟨fun h => h.2.2.2.2,fun h => ⟨show (1 : Nat) ≠ 0 by decide,show (1 : Nat) ≠ 0 by decide, ?_, ?_,h⟩⟩
 · intro i hi
   obtain rfl : i = 0 := by have : i < 1 := hi; omega
   rfl
 · intro i hi
   obtain rfl : i = 0 := by have : i < 1 := hi; omega
   exact ⟨show ¬ (2100000000000000 : UInt64) < 5 by decide,show ¬ (2100000000000000 : UInt64) < 0 + 5 by decide⟩
theorem lt_cU {n m : Nat} (hn : n ≤ 1000000) {k : UInt64} (hk : k.toNat = m) : cU n < k ↔ n < m := by rw [UInt64.lt_iff_toNat_lt,cU_nat (by omega),hk]
theorem le_cU {n m : Nat} (hn : n ≤ 1000000) {k : UInt64} (hk : k.toNat = m) : cU n ≤ k ↔ n ≤ m := by rw [UInt64.le_iff_toNat_le,cU_nat (by omega),hk]
theorem count3 {n : Nat} (h : 252 < n) (h2 : n ≤ 65535) : countS n = lowI 253 1 ++ lowI (cU n) 2 := by
 unfold countS
 rw [if_neg (fun hc => by have := (lt_cU (m := 253) (by omega) rfl).1 hc; omega),if_pos ((le_cU (m := 65535) (by omega) rfl).2 h2)]
theorem lg_len {s : List UInt8} (h : 252 < s.length) (h2 : s.length ≤ 65535) : (putS (smK s)).length = 62 + s.length := by
 rw [put_smK_len,count3 h h2]
 simp [lowI_len]
theorem lg_may {s : List UInt8} (h : 252 < s.length) (h2 : s.length ≤ 65535) : mayS (smK s) = decide (s.length ≤ 16322) := by
 rw [may_smK,lg_len h h2,decide_eq_decide]; omega
theorem lg_get {s : List UInt8} (h : 252 < s.length) (h2 : s.length ≤ 16322) : getS (putS (smK s)) = (smK s,0) :=
 bk_get (smK_wf (by omega)) (by rw [lg_may h (by omega)]; simpa using h2)
theorem lg_big {s : List UInt8} (h : 16322 < s.length) (h2 : s.length ≤ 65535) : getS (putS (smK s)) = (zeroT,6) :=
 gt_big (by rw [lg_len (by omega) h2]; omega)
section
variable {s : List UInt8} {k : Nat}
end
end Go.Sx

namespace Go.Sx
section
variable {t : TxS}
end
theorem wk_smK (s : List UInt8) : Wk (.agg [.u32 1,.sl none 36 [smIr],.sl none 2 [.agg [.u64 5,.sl none 1 (s.map D.u8)]],.u32 0]) (txD (smK s)) :=
 .aggL (.cons (.refl _) (.cons (.slL (.cons wk_smI .nil)) (.cons (.refl _) (.cons (.refl _) .nil))))
end Go.Sx
