/-
  Own library, part 9: writing.
-/
import Derived.Test.YtlpacmknoknpoaaDoorSxMove
set_option linter.unusedVariables false
set_option linter.unusedSimpArgs false
set_option linter.unnecessarySimpa false
namespace Go.Sx

/-- another part at a path -/
def D.upd : D → List Nat → D → Option D
  | _, [], x => some x
  | .agg l, k :: p, x => match l[k]? with
    | some d => match D.upd d p x with
      | some d' => some (.agg (l.set k d'))
      | none => none
    | none => none
  | .arr n z l, k :: p, x => match l[k]? with
    | some d => match D.upd d p x with
      | some d' => some (.arr n z (l.set k d'))
      | none => none
    | none => none
  | _, _ :: _, _ => none

/-- a path through structs alone -/
def D.noArr : D → List Nat → Bool
  | _, [] => true
  | .agg l, k :: p => match l[k]? with
    | some d => D.noArr d p
    | none => false
  | _, _ :: _ => false

mutual
/-- no pointer, no map in it -/
def D.np : D → Bool
  | .ptr _ _ _ => false
  | .map _ => false
  | .agg l => D.nps l
  | .fn _ l => D.nps l
  | .ifc _ d => D.np d
  | _ => true
def D.nps : List D → Bool
  | [] => true
  | d :: r => D.np d && D.nps r
end
theorem nps_get (l : List D) (h : D.nps l = true) : ∀ k (hk : k < l.length), l[k].np = true := by
  induction l with
  | nil => intro k hk; simp at hk
  | cons d r ih =>
    simp only [D.nps, Bool.and_eq_true] at h
    intro k hk
    cases k with
    | zero => exact h.1
    | succ k => simpa using ih h.2 k (by simpa using hk)

variable {P : Program} {C : Ctx} {σ σ' : Sg} {a : Act} {w w' : World} {ρ : Nat → Nat} {Fe Fb : Nat → List Nat}

theorem Rc.unflag {G L : Nat → Prop} {p : Bool} {d : D} {cs : List Value} {F : List Nat} (h : Rc w ρ G L p d cs F) (hd : d.np = true) : Rc w ρ G L false d cs F := by
  induction h with
  | bool b => exact .bool b
  | int n => exact .int n
  | u8 x => exact .u8 x
  | u16 x => exact .u16 x
  | u32 x => exact .u32 x
  | u64 x => exact .u64 x
  | ik k n => exact .ik k n
  | str s => exact .str s
  | nils => exact .nils
  | slN o z => exact .slN o z
  | slE o z a => exact .slE o z a
  | slI b off cs e fz cap z l hb hG hc hs hr ih => exact .slI b off cs e fz cap z l hb hG hc hs hr
  | slO b cs e cap z l Fs hb hc hm hs hr ih => exact .slO b cs e cap z l Fs hb hc hm hs hr
  | agg l cs Fs hs hr ih => exact .agg l cs Fs hs (fun k hk => ih k hk (nps_get l (by simpa [D.np] using hd) k hk))
  | arr n z l cs hl hs hr ih => exact .arr n z l cs hl hs hr
  | ptr id off path hid => simp [D.np] at hd
  | nilp => exact .nilp
  | rp d b off cs e fz hb hG hs hr ih => exact .rp d b off cs e fz hb hG hs hr
  | map id hid => simp [D.np] at hd
  | nilmap => exact .nilmap
  | fn f caps vs hl ha hr ih => exact .fn f caps vs hl ha (fun k hk => ih k hk (nps_get caps (by simpa [D.np] using hd) k hk))
  | nilf => exact .nilf
  | yld l => exact .yld l
  | ifc t d v ha hr ih => exact .ifc t d v ha (ih (by simpa [D.np] using hd))
  | nili => exact .nili
  | dead v h => exact .dead v h

theorem find_part (l : List D) (j : Nat) (h : j < D.szs l) : ∃ k, ∃ hk : k < l.length, offk l k ≤ j ∧ j < offk l k + l[k].sz := by
  induction l generalizing j with
  | nil => simp at h
  | cons d r ih =>
    by_cases hd : j < d.sz
    · exact ⟨0, by simp, by simp [offk], by simpa [offk] using hd⟩
    · simp only [szs_cons] at h
      obtain ⟨k, hk, h1, h2⟩ := ih (j - d.sz) (by omega)
      refine ⟨k + 1, by simp; omega, ?_, ?_⟩
      · simp only [offk, List.take_succ_cons, szs_cons] at h1 ⊢; omega
      · simp only [offk, List.take_succ_cons, szs_cons, List.getElem_cons_succ] at h1 h2 ⊢; omega

/-- each cell holds one value -/
theorem Rc.one {G L : Nat → Prop} {p : Bool} {d : D} {cs : List Value} {F : List Nat} (h : Rc w ρ G L p d cs F) : ∀ u ∈ cs, u.oneCell' = true := by
  induction h with
  | agg l cs Fs hs hr ih =>
    intro u hu
    obtain ⟨j, hj, rfl⟩ := List.mem_iff_getElem.1 hu
    obtain ⟨k, hk, h1, h2⟩ := find_part l j (by omega)
    refine ih k hk _ (List.mem_iff_getElem.2 ⟨j - offk l k, ?_, ?_⟩)
    · have := (hr k hk).len; omega
    · simp only [List.getElem_take, List.getElem_drop]
      congr 1; omega
  | arr n z l cs hl hs hr ih =>
    intro u hu
    obtain ⟨j, hj, rfl⟩ := List.mem_iff_getElem.1 hu
    have hz : 0 < z := by
      rcases Nat.eq_zero_or_pos z with h0 | h0
      · subst h0; rw [Nat.mul_zero] at hs; omega
      · exact h0
    have hk : j / z < l.length := by rw [hl]; exact Nat.div_lt_of_lt_mul (by rw [Nat.mul_comm, ← hs]; exact hj)
    have hlen : ((cs.drop (j / z * z)).take z).length = z := by
      simp only [List.length_take, List.length_drop, hs]
      have h1 : (j / z + 1) * z ≤ n * z := Nat.mul_le_mul_right z (by omega)
      rw [Nat.add_mul] at h1
      omega
    have h1 := Nat.div_add_mod j z
    have h2 := Nat.mod_lt j hz
    have h3 : z * (j / z) = j / z * z := Nat.mul_comm _ _
    refine ih (j / z) hk _ (List.mem_iff_getElem.2 ⟨j % z, by omega, ?_⟩)
    simp only [List.getElem_take, List.getElem_drop]
    congr 1; omega
  | dead v h => intro u hu; simp at hu; subst hu; exact h
  | _ => intro u hu; simp at hu; subst hu; rfl

theorem offk_set (l : List D) (k j : Nat) (x : D) (hk : k < l.length) (hz : x.sz = l[k].sz) : offk (l.set k x) j = offk l j := by
  unfold offk
  induction l generalizing k j with
  | nil => simp at hk
  | cons d r ih =>
    cases j with
    | zero => simp
    | succ j =>
      cases k with
      | zero => simp at hz; simp [hz]
      | succ k =>
        simp only [List.set_cons_succ, List.take_succ_cons, szs_cons]
        rw [ih k j (by simpa using hk) (by simpa using hz)]

theorem szs_set (l : List D) (k : Nat) (x : D) (hk : k < l.length) (hz : x.sz = l[k].sz) : D.szs (l.set k x) = D.szs l := by
  have h1 := offk_set l k l.length x hk hz
  unfold offk at h1
  rw [List.take_length, List.take_of_length_le (by simp)] at h1
  exact h1

theorem flat_nodup {n : Nat} {Fs : Nat → List Nat} (h : ((List.range n).flatMap Fs).Nodup) : (∀ k, k < n → (Fs k).Nodup) ∧ ∀ j k, j < n → k < n → j ≠ k → ∀ b, b ∈ Fs j → b ∉ Fs k := by
  induction n with
  | zero => exact ⟨by simp, by simp⟩
  | succ n ih =>
    rw [List.range_succ, List.flatMap_append, List.flatMap_cons, List.flatMap_nil, List.append_nil, List.nodup_append] at h
    obtain ⟨h1, h2, h3⟩ := h
    obtain ⟨i1, i2⟩ := ih h1
    refine ⟨fun k hk => ?_, fun j k hj hk hjk b hb hb' => ?_⟩
    · by_cases hkn : k = n
      · subst hkn; exact h2
      · exact i1 k (by omega)
    · by_cases hkn : k = n
      · subst hkn
        exact h3 b (List.mem_flatMap.2 ⟨j, List.mem_range.2 (by omega), hb⟩) b hb' rfl
      · by_cases hjn : j = n
        · subst hjn
          exact h3 b (List.mem_flatMap.2 ⟨k, List.mem_range.2 (by omega), hb'⟩) b hb rfl
        · exact i2 j k (by omega) (by omega) hjk b hb hb'

theorem flat_nodup_mk {n : Nat} {Fs : Nat → List Nat} (h1 : ∀ k, k < n → (Fs k).Nodup) (h2 : ∀ j k, j < n → k < n → j ≠ k → ∀ b, b ∈ Fs j → b ∉ Fs k) : ((List.range n).flatMap Fs).Nodup := by
  induction n with
  | zero => simp
  | succ n ih =>
    rw [List.range_succ, List.flatMap_append, List.flatMap_cons, List.flatMap_nil, List.append_nil, List.nodup_append]
    refine ⟨ih (fun k hk => h1 k (by omega)) (fun j k hj hk => h2 j k (by omega) (by omega)), h1 n (by omega), ?_⟩
    intro b hb b' hb' e
    subst e
    obtain ⟨j, hj, hm⟩ := List.mem_flatMap.1 hb
    have := List.mem_range.1 hj
    exact h2 j n (by omega) (by omega) (by omega) b hm hb'

theorem splice_len (cs xs : List Value) (o : Nat) (h : o + xs.length ≤ cs.length) : (cs.take o ++ xs ++ cs.drop (o + xs.length)).length = cs.length := by
  simp; omega

/-- a window of a spliced list that does not meet the splice -/
theorem splice_out (cs xs : List Value) (o a n : Nat) (h : o + xs.length ≤ cs.length) (hd : a + n ≤ o ∨ o + xs.length ≤ a) :
    ((cs.take o ++ xs ++ cs.drop (o + xs.length)).drop a).take n = (cs.drop a).take n := by
  apply List.ext_getElem?
  intro j
  simp only [List.getElem?_take, List.getElem?_drop]
  split
  · rcases hd with hd | hd
    · rw [List.append_assoc, List.getElem?_append_left (by simp; omega), List.getElem?_take, if_pos (by omega)]
    · rw [List.getElem?_append_right (by simp; omega), List.getElem?_drop]
      congr 1
      simp; omega
  · rfl

/-- a window that holds the splice -/
theorem splice_in (cs xs : List Value) (o a n : Nat) (h : a + o + xs.length ≤ a + n) (hl : a + n ≤ cs.length) :
    ((cs.take (a + o) ++ xs ++ cs.drop (a + o + xs.length)).drop a).take n = ((cs.drop a).take n).take o ++ xs ++ ((cs.drop a).take n).drop (o + xs.length) := by
  apply List.ext_getElem?
  intro j
  simp only [List.getElem?_take, List.getElem?_drop, List.append_assoc]
  by_cases h1 : j < o
  · rw [if_pos (by omega), List.getElem?_append_left (by simp; omega), List.getElem?_append_left (by simp; omega)]
    simp only [List.getElem?_take, List.getElem?_drop]
    rw [if_pos (by omega), if_pos h1, if_pos (by omega)]
  · rw [List.getElem?_append_right (l₁ := ((cs.drop a).take n).take o) (by simp; omega)]
    by_cases h2 : j < o + xs.length
    · rw [if_pos (by omega), List.getElem?_append_right (by simp; omega), List.getElem?_append_left (by simp; omega), List.getElem?_append_left (by simp; omega)]
      congr 1
      simp; omega
    · rw [List.getElem?_append_right (l₁ := xs) (by simp; omega)]
      simp only [List.getElem?_drop, List.getElem?_take, List.length_take, List.length_drop]
      by_cases h3 : j < n
      · rw [if_pos h3, List.getElem?_append_right (by simp; omega), List.getElem?_append_right (by simp; omega)]
        rw [if_pos (by omega), List.getElem?_drop]
        congr 1
        simp; omega
      · rw [if_neg h3, if_neg (by omega)]

/-- a part is written -/
theorem Rc.upd {G L : Nat → Prop} {p : Bool} {d d1 d' x : D} {cs xs : List Value} {F Fx : List Nat} (h : Rc w ρ G L p d cs F) {path : List Nat} {off : Nat}
    (hl : d.loc path = some (off, d1)) (hu : d.upd path x = some d') (hz : x.sz = d1.sz) (hx : Rc w ρ G L false x xs Fx) (hF : F.Nodup) (hFx : Fx.Nodup) (hdis : ∀ b ∈ Fx, b ∉ F)
    (harr : Fx = [] ∨ d.noArr path = true) :
    ∃ F', Rc w ρ G L p d' (cs.take off ++ xs ++ cs.drop (off + xs.length)) F' ∧ (∀ b ∈ F', b ∈ F ∨ b ∈ Fx) ∧ F'.Nodup ∧ d'.sz = d.sz ∧ d'.isAgg = (if path = [] then x.isAgg else d.isAgg) := by
  induction path generalizing d cs F p off d1 d' with
  | nil =>
    simp only [D.loc, Option.some.injEq, Prod.mk.injEq] at hl
    simp only [D.upd, Option.some.injEq] at hu
    obtain ⟨rfl, rfl⟩ := hl
    subst hu
    have h1 := h.len
    have h2 := hx.len
    have e : cs.take 0 ++ xs ++ cs.drop (0 + xs.length) = xs := by simp; omega
    rw [e]
    refine ⟨Fx, ?_, fun _ h => .inr h, hFx, hz, by simp⟩
    cases p with
    | true => exact hx.flag
    | false => exact hx
  | cons k path ih =>
    cases h with
    | agg l cs Fs hs hr =>
      simp only [D.loc] at hl
      simp only [D.upd] at hu
      cases hk : l[k]? with
      | none => simp [hk] at hl
      | some d2 =>
        obtain ⟨hklt, rfl⟩ := List.getElem?_eq_some_iff.1 hk
        simp only [hk] at hl hu
        cases hd : D.loc l[k] path with
        | none => simp [hd] at hl
        | some od =>
          obtain ⟨o, d3⟩ := od
          simp only [hd, Option.some.injEq, Prod.mk.injEq] at hl
          obtain ⟨rfl, rfl⟩ := hl
          cases hud : D.upd l[k] path x with
          | none => simp [hud] at hu
          | some d4 =>
            simp only [hud, Option.some.injEq] at hu
            subst hu
            obtain ⟨hn1, hn2⟩ := flat_nodup hF
            have hkm : ∀ b ∈ Fs k, b ∈ (List.range l.length).flatMap Fs := fun b hb => List.mem_flatMap.2 ⟨k, List.mem_range.2 hklt, hb⟩
            obtain ⟨F', h1, h2, h3, h4, h5⟩ := ih (hr k hklt) hd hud hz (hn1 k hklt) (fun b hb hb' => hdis b hb (hkm b hb')) (by
              rcases harr with h0 | h0
              · exact .inl h0
              · simp only [D.noArr, hk] at h0; exact .inr h0)
            obtain ⟨_, _, _, hl3⟩ := (hr k hklt).loc hd
            have hlen := (hr k hklt).len
            have hxl := hx.len
            have hlo := offk_lt l k hklt
            have hxo : o + xs.length ≤ l[k].sz := by omega
            refine ⟨(List.range (l.set k d4).length).flatMap (fun j => if j = k then F' else Fs j), ?_, ?_, ?_, ?_, ?_⟩
            · refine .agg (l.set k d4) _ _ ?_ (fun j hj => ?_)
              · rw [splice_len _ _ _ (by omega), hs, szs_set l k d4 hklt h4]
              · have hj' : j < l.length := by simpa using hj
                rw [offk_set l k j d4 hklt h4]
                by_cases hjk : j = k
                · subst hjk
                  simp only [List.getElem_set_self, if_true, h4]
                  rw [splice_in _ _ _ _ _ (by omega) (by omega)]
                  exact h1
                · have hjj : (l.set k d4)[j] = l[j] := by rw [List.getElem_set_ne (fun e => hjk e.symm)]
                  simp only [hjj, hjk, if_false]
                  rw [splice_out _ _ _ _ _ (by omega) ?_]
                  · exact hr j hj'
                  · have h6 := offk_lt l j hj'
                    rcases Nat.lt_or_gt_of_ne hjk with hlt | hlt
                    · left
                      have : offk l j + l[j].sz ≤ offk l k := by
                        have := offk_lt (l.take k) j (by simp; omega)
                        simp only [List.getElem_take] at this
                        unfold offk at this ⊢
                        rw [List.take_take, Nat.min_eq_left (by omega)] at this
                        exact this
                      omega
                    · right
                      have : offk l k + l[k].sz ≤ offk l j := by
                        have := offk_lt (l.take j) k (by simp; omega)
                        simp only [List.getElem_take] at this
                        unfold offk at this ⊢
                        rw [List.take_take, Nat.min_eq_left (by omega)] at this
                        exact this
                      omega
            · intro b hb
              obtain ⟨j, hj, hm⟩ := List.mem_flatMap.1 hb
              have hj' : j < l.length := by simpa using List.mem_range.1 hj
              by_cases hjk : j = k
              · subst hjk; simp at hm; exact (h2 b hm).imp (hkm b) id
              · simp only [hjk, if_false] at hm
                exact .inl (List.mem_flatMap.2 ⟨j, List.mem_range.2 hj', hm⟩)
            · refine flat_nodup_mk (fun j hj => ?_) (fun i j hi hj hij b hb hb' => ?_)
              · have hj' : j < l.length := by simpa using hj
                by_cases hjk : j = k
                · simp [hjk, h3]
                · simp only [hjk, if_false]; exact hn1 j hj'
              · have hi' : i < l.length := by simpa using hi
                have hj' : j < l.length := by simpa using hj
                have key : ∀ m, m < l.length → m ≠ k → b ∈ Fs m → b ∈ F' → False := fun m hm hmk h6 h7 => by
                  rcases h2 b h7 with h8 | h8
                  · exact hn2 m k hm hklt hmk b h6 h8
                  · exact hdis b h8 (List.mem_flatMap.2 ⟨m, List.mem_range.2 hm, h6⟩)
                by_cases hik : i = k
                · subst hik
                  simp only [if_true] at hb
                  simp only [show ¬ j = i from fun e => hij e.symm, if_false] at hb'
                  exact key j hj' (fun e => hij e.symm) hb' hb
                · simp only [hik, if_false] at hb
                  by_cases hjk : j = k
                  · simp only [hjk, if_true] at hb'; exact key i hi' hik hb hb'
                  · simp only [hjk, if_false] at hb'; exact hn2 i j hi' hj' hij b hb hb'
            · simp only [sz_agg]; exact szs_set l k d4 hklt h4
            · simp [D.isAgg]
    | arr n z l cs hn hs hr =>
      simp only [D.loc] at hl
      simp only [D.upd] at hu
      cases hk : l[k]? with
      | none => simp [hk] at hl
      | some d2 =>
        obtain ⟨hklt, rfl⟩ := List.getElem?_eq_some_iff.1 hk
        simp only [hk] at hl hu
        cases hd : D.loc l[k] path with
        | none => simp [hd] at hl
        | some od =>
          obtain ⟨o, d3⟩ := od
          simp only [hd, Option.some.injEq, Prod.mk.injEq] at hl
          obtain ⟨rfl, rfl⟩ := hl
          cases hud : D.upd l[k] path x with
          | none => simp [hud] at hu
          | some d4 =>
            simp only [hud, Option.some.injEq] at hu
            subst hu
            have hFx0 : Fx = [] := by
              rcases harr with h0 | h0
              · exact h0
              · simp [D.noArr] at h0
            subst hFx0
            obtain ⟨F', h1, h2, h3, h4, h5⟩ := ih (hr k hklt) hd hud hz List.nodup_nil (by simp) (.inl rfl)
            have hF' : F' = [] := by
              cases F' with
              | nil => rfl
              | cons b r => have := h2 b (by simp); simp at this
            subst hF'
            obtain ⟨_, _, _, hl3⟩ := (hr k hklt).loc hd
            have hlen : ((cs.drop (k * z)).take z).length ≤ z := by simp; omega
            have hxl := hx.len
            have hkz : k * z + z ≤ n * z := by
              have := Nat.mul_le_mul_right z (show k + 1 ≤ n by omega)
              rw [Nat.add_mul] at this; omega
            have hxo : o + xs.length ≤ z := by omega
            refine ⟨[], ?_, by simp, List.nodup_nil, by simp, by simp [D.isAgg]⟩
            refine .arr n z (l.set k d4) _ (by simpa using hn) (by rw [splice_len _ _ _ (by omega), hs]) (fun j hj => ?_)
            have hj' : j < l.length := by simpa using hj
            by_cases hjk : j = k
            · subst hjk
              simp only [List.getElem_set_self]
              rw [splice_in _ _ _ _ _ (by omega) (by omega)]
              exact h1
            · have hjj : (l.set k d4)[j] = l[j] := by rw [List.getElem_set_ne (fun e => hjk e.symm)]
              simp only [hjj]
              rw [splice_out _ _ _ _ _ (by omega) ?_]
              · exact hr j hj'
              · rcases Nat.lt_or_gt_of_ne hjk with hlt | hlt
                · left
                  have : (j + 1) * z ≤ k * z := Nat.mul_le_mul_right z hlt
                  rw [Nat.add_mul] at this; omega
                · right
                  have : (k + 1) * z ≤ j * z := Nat.mul_le_mul_right z hlt
                  rw [Nat.add_mul] at this; omega
    | _ => simp [D.loc] at hl
end Go.Sx
