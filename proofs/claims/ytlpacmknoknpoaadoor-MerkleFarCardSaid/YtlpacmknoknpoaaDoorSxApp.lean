/-
  Own library, part 16: append, new slices.
-/
import Derived.Test.YtlpacmknoknpoaaDoorSxOwn
set_option linter.unusedVariables false
set_option linter.unusedSimpArgs false
set_option linter.unnecessarySimpa false
namespace Go.Sx

variable {P : Program} {C : Ctx} {σ σ' σ1 : Sg} {a : Act} {w w' : World} {ρ : Nat → Nat} {Fe Fe' Fb : Nat → List Nat}

theorem part_left (xs r : List Value) (i n z : Nat) (hx : xs.length = n * z) (hi : i < n) : ((xs ++ r).drop (i * z)).take z = (xs.drop (i * z)).take z := by
  have : (i + 1) * z ≤ n * z := Nat.mul_le_mul_right z hi
  rw [Nat.add_mul] at this
  rw [List.drop_append_of_le_length (by omega), List.take_append_of_le_length (by simp; omega)]
theorem part_right (xs news r : List Value) (j n m z : Nat) (hx : xs.length = n * z) (hn : news.length = m * z) (hj : j < m) :
    ((xs ++ (news ++ r)).drop ((n + j) * z)).take z = (news.drop (j * z)).take z := by
  rw [show (n + j) * z = n * z + j * z from Nat.add_mul _ _ _, ← List.drop_drop, List.drop_left' hx]
  exact part_left news r j m z hn hj

def fjoin (n : Nat) (Fs Fs2 : Nat → List Nat) (i : Nat) : List Nat := if i < n then Fs i else Fs2 (i - n)

theorem fjoin_mem {n m : Nat} {Fs Fs2 : Nat → List Nat} {b : Nat} (h : b ∈ (List.range (n + m)).flatMap (fjoin n Fs Fs2)) : b ∈ (List.range n).flatMap Fs ∨ b ∈ (List.range m).flatMap Fs2 := by
  obtain ⟨i, hi, hm⟩ := List.mem_flatMap.1 h
  have hi' := List.mem_range.1 hi
  unfold fjoin at hm
  split at hm
  · rename_i h1; exact .inl (List.mem_flatMap.2 ⟨i, List.mem_range.2 h1, hm⟩)
  · exact .inr (List.mem_flatMap.2 ⟨i - n, List.mem_range.2 (by omega), hm⟩)

theorem fjoin_nodup {n m : Nat} {Fs Fs2 : Nat → List Nat} (h1 : ((List.range n).flatMap Fs).Nodup) (h2 : ((List.range m).flatMap Fs2).Nodup) (hd : ∀ b ∈ (List.range m).flatMap Fs2, b ∉ (List.range n).flatMap Fs) :
    ((List.range (n + m)).flatMap (fjoin n Fs Fs2)).Nodup := by
  obtain ⟨a1, a2⟩ := flat_nodup h1
  obtain ⟨b1, b2⟩ := flat_nodup h2
  refine flat_nodup_mk (fun i hi => ?_) (fun i j hi hj hij b hb hb' => ?_)
  · unfold fjoin; split
    · rename_i h; exact a1 i h
    · exact b1 (i - n) (by omega)
  · unfold fjoin at hb hb'
    split at hb <;> split at hb'
    · rename_i h h'; exact a2 i j h h' hij b hb hb'
    · rename_i h h'; exact hd b (List.mem_flatMap.2 ⟨_, List.mem_range.2 (by omega), hb'⟩) (List.mem_flatMap.2 ⟨_, List.mem_range.2 h, hb⟩)
    · rename_i h h'; exact hd b (List.mem_flatMap.2 ⟨_, List.mem_range.2 (by omega), hb⟩) (List.mem_flatMap.2 ⟨_, List.mem_range.2 h', hb'⟩)
    · rename_i h h'; exact b2 (i - n) (j - n) (by omega) (by omega) (by omega) b hb hb'

theorem slO_app {G L : Nat → Prop} {p : Bool} {b e z cap : Nat} {cur : Array Value} {xs news rest : List Value} {l l' : List D} {Fs Fs2 : Nat → List Nat} (hb : w.heap[b]? = some (.cells cur e (0, 0)))
    (hcur : cur.toList = xs ++ (news ++ rest)) (hx : xs.length = l.length * z) (hn : news.length = l'.length * z) (hsz : cur.size = cap * z) (hc : l.length + l'.length ≤ cap) (hm : cap ≤ maxLen)
    (hr1 : ∀ i (h : i < l.length), Rc w ρ G L false l[i] ((xs.drop (i * z)).take z) (Fs i)) (hr2 : ∀ j (h : j < l'.length), Rc w ρ G L false l'[j] ((news.drop (j * z)).take z) (Fs2 j)) :
    Rc w ρ G L p (.sl (some e) z (l ++ l')) [.slice (some ⟨b, 0, none⟩) (l.length + l'.length : Nat) cap] (b :: (List.range (l.length + l'.length)).flatMap (fjoin l.length Fs Fs2)) := by
  have := Rc.slO (w := w) (ρ := ρ) (G := G) (L := L) (p := p) b cur e cap z (l ++ l') (fjoin l.length Fs Fs2) hb (by simpa using hc) hm hsz (fun i hi => by
    rw [hcur]
    by_cases hil : i < l.length
    · simp only [List.getElem_append_left hil, fjoin, hil, if_true]
      rw [part_left _ _ _ _ _ hx hil]
      exact hr1 i hil
    · have hi' : i < l.length + l'.length := by simpa using hi
      simp only [List.getElem_append_right (Nat.le_of_not_lt hil), fjoin, hil, if_false]
      have e1 := part_right xs news rest (i - l.length) l.length l'.length z hx hn (by omega)
      rw [show l.length + (i - l.length) = i by omega] at e1
      rw [e1]
      exact hr2 (i - l.length) (by omega))
  simpa using this

/-- the world after own blocks turned -/
structure Turn (F : List Nat) (w w' : World) : Prop where
  os : w'.os = w.os
  tape : w'.tape = w.tape
  output : w'.output = w.output
  size : w.heap.size ≤ w'.heap.size
  blk : ∀ b, b < w.heap.size → b ∉ F → w'.heap[b]? = w.heap[b]?

theorem Turn.refl (F : List Nat) (w : World) : Turn F w w := ⟨rfl, rfl, rfl, Nat.le_refl _, fun _ _ _ => rfl⟩
theorem Turn.ofExt {F : List Nat} (h : Ext w w') : Turn F w w' := ⟨h.os, h.tape, h.output, h.size, fun b hb _ => h.block b hb⟩

theorem app_run {G L : Nat → Prop} {t e z bytes ty : Nat} [hT : SlT P t e] [hE : ElT P e z bytes] {d : D} {l l' : List D} {v : Value} {F : List Nat} {base : Option Addr} {cap2 : Nat} {news : List Value} {Fs2 : Nat → List Nat}
    (hd : Rc w ρ G L true d [v] F) (hdd : (d = .nils ∧ l = []) ∨ d = .sl (some e) z l) (hFn : F.Nodup)
    (hs : (base = none ∧ l' = [] ∧ cap2 = 0) ∨ ∃ a, base = some a ∧ ∀ j u, news[j]? = some u → w.cell? (a.add j) = some u) (hnl : news.length = l'.length * z) (h1 : ∀ u ∈ news, u.oneCell' = true)
    (hr2 : ∀ j (h : j < l'.length), Rc w ρ G L false l'[j] ((news.drop (j * z)).take z) (Fs2 j)) (hF2 : ((List.range l'.length).flatMap Fs2).Nodup) (hdis : ∀ b ∈ (List.range l'.length).flatMap Fs2, b ∉ F) (hGF : ∀ b, G b → b ∉ F)
    (hbytes : (l.length + l'.length) * bytes ≤ 140737488355328) (hmax : l.length + l'.length ≤ maxLen) :
    ∃ v' w' F', (Builtin.append_ #[t, t] ty #[v, .slice base l'.length cap2]).run P w = .ok v' w' ∧ Turn F w w' ∧ F'.Nodup ∧ (∀ b ∈ F', b ∈ F ∨ b ∈ (List.range l'.length).flatMap Fs2 ∨ w.heap.size ≤ b) ∧
      ∀ G', (∀ b, G b → b < w.heap.size → G' b) → Rc w' ρ G' L true (.sl (some e) z (l ++ l')) [v'] F' := by
  obtain ⟨i, zv, hi, hsz, hby, hz, hzs, hpos⟩ := hE.i
  have h63 : l.length + l'.length ≤ 9223372036854775807 := by simp only [maxLen] at hmax; omega
  -- the new block, when one is made
  have grow : ∀ (old : Nat) (xs : List Value) (Fs : Nat → List Nat), xs.length = l.length * z → (∀ j (h : j < l.length), Rc w ρ G L false l[j] ((xs.drop (j * z)).take z) (Fs j)) →
      ((List.range l.length).flatMap Fs).Nodup → (∀ b ∈ (List.range l.length).flatMap Fs, b ∈ F) →
      ∃ F', Turn F w (w.drew.alloc (.cells (xs.toArray ++ news.toArray ++ Builtin.zeroCells zv.cells (grownCap w (l.length + l'.length) old e - (l.length + l'.length))) e)) ∧ F'.Nodup ∧
        (∀ b ∈ F', b ∈ F ∨ b ∈ (List.range l'.length).flatMap Fs2 ∨ w.heap.size ≤ b) ∧
        ∀ G', (∀ b, G b → b < w.heap.size → G' b) → Rc (w.drew.alloc (.cells (xs.toArray ++ news.toArray ++ Builtin.zeroCells zv.cells (grownCap w (l.length + l'.length) old e - (l.length + l'.length))) e)) ρ G' L true
          (.sl (some e) z (l ++ l')) [.slice (some ⟨w.heap.size, 0, none⟩) (l.length + l'.length : Nat) (grownCap w (l.length + l'.length) old e)] F' := by
    intro old xs Fs hx hr hnd hsub
    have hge := grownCap_ge w (l.length + l'.length) old e
    have hcm : grownCap w (l.length + l'.length) old e ≤ maxLen := grownCap_le_maxLen w (l.length + l'.length) old e hmax
    have hext : Ext w (w.drew.alloc (.cells (xs.toArray ++ news.toArray ++ Builtin.zeroCells zv.cells (grownCap w (l.length + l'.length) old e - (l.length + l'.length))) e)) := (Ext.drew w).trans (Ext.alloc _ _)
    have hnew : ∀ b ∈ (List.range (l.length + l'.length)).flatMap (fjoin l.length Fs Fs2), b < w.heap.size := by
      intro b hb
      rcases fjoin_mem hb with h2 | h2
      · obtain ⟨j, hj, hm⟩ := List.mem_flatMap.1 h2
        exact (hr j (List.mem_range.1 hj)).lt b hm
      · obtain ⟨j, hj, hm⟩ := List.mem_flatMap.1 h2
        exact (hr2 j (List.mem_range.1 hj)).lt b hm
    refine ⟨w.heap.size :: (List.range (l.length + l'.length)).flatMap (fjoin l.length Fs Fs2), Turn.ofExt hext, ?_, ?_, fun G' hG' => ?_⟩
    · refine List.nodup_cons.2 ⟨fun hm => ?_, fjoin_nodup hnd hF2 (fun b hb hb' => hdis b hb (hsub b hb'))⟩
      have := hnew _ hm; omega
    · intro b hb
      rcases List.mem_cons.1 hb with rfl | hb
      · exact .inr (.inr (Nat.le_refl _))
      · rcases fjoin_mem hb with h2 | h2
        · exact .inl (hsub b h2)
        · exact .inr (.inl h2)
    · refine slO_app (xs := xs) (news := news) (rest := (Builtin.zeroCells zv.cells (grownCap w (l.length + l'.length) old e - (l.length + l'.length))).toList) (heap_alloc_new w.drew _) ?_ hx hnl ?_ hge hcm ?_ ?_
      · simp
      · simp only [Array.size_append, List.size_toArray, size_zeroCells, hzs, hx, hnl, ← Nat.add_mul]
        congr 1
        omega
      · exact fun j hj => (hr j hj).mono (fun b _ hl => hext.block b hl) hG' (fun id hid => ⟨hid, rfl⟩)
      · exact fun j hj => (hr2 j hj).mono (fun b _ hl => hext.block b hl) hG' (fun id hid => ⟨hid, rfl⟩)
  -- nothing is added
  have stay : ∀ (b cap : Nat) (cs : Array Value) (Fs : Nat → List Nat), l' = [] → True := fun _ _ _ _ _ => trivial
  have nilcase : v = .slice none 0 0 → l = [] → F = [] →
      ∃ v' w' F', (Builtin.append_ #[t, t] ty #[v, .slice base l'.length cap2]).run P w = .ok v' w' ∧ Turn F w w' ∧ F'.Nodup ∧ (∀ b ∈ F', b ∈ F ∨ b ∈ (List.range l'.length).flatMap Fs2 ∨ w.heap.size ≤ b) ∧
      ∀ G', (∀ b, G b → b < w.heap.size → G' b) → Rc w' ρ G' L true (.sl (some e) z (l ++ l')) [v'] F' := by
    rintro rfl rfl rfl
    by_cases hm : l'.length = 0
    · have hl0 : l' = [] := List.length_eq_zero_iff.1 hm
      subst hl0
      have hn0 : news = [] := List.length_eq_zero_iff.1 (by simpa using hnl)
      subst hn0
      refine ⟨.slice none 0 0, w, [], ?_, Turn.refl _ _, List.nodup_nil, by simp, fun G' _ => ?_⟩
      · rcases hs with ⟨rfl, _, rfl⟩ | ⟨a, rfl, _⟩ <;>
          simp [Builtin.append_, run_underlying hT.u, sizeOf, typeInfo, hi, Builtin.lenOf, Builtin.firstCells, loadCells, loadCellsFrom]
      · exact .slN (some e) z
    · rcases hs with ⟨_, rfl, _⟩ | ⟨a, rfl, hnews⟩
      · simp at hm
      · have hr := run_append_nil (P := P) w t ty e i zv hT.u hi hz a l'.length cap2 news (by rw [hsz]; exact hnl) hnews (by omega) (by simp at h63; omega) (by rw [hby]; simp at hbytes; omega)
        obtain ⟨F', q1, q2, q3, q4⟩ := grow 0 [] (fun _ => []) (by simp) (fun j hj => by simp at hj) (by simp) (by simp)
        simp only [List.length_nil, Nat.zero_add, List.nil_append] at q1 q2 q3 q4 ⊢
        have e0 : (#[] : Array Value) ++ news.toArray = news.toArray := by simp
        simp only [e0] at q1 q4
        exact ⟨_, _, F', hr, q1, q2, q3, q4⟩
  have empcase : ∀ a0 : Addr, v = .slice (some a0) 0 0 → l = [] → F = [] →
      ∃ v' w' F', (Builtin.append_ #[t, t] ty #[v, .slice base l'.length cap2]).run P w = .ok v' w' ∧ Turn F w w' ∧ F'.Nodup ∧ (∀ b ∈ F', b ∈ F ∨ b ∈ (List.range l'.length).flatMap Fs2 ∨ w.heap.size ≤ b) ∧
      ∀ G', (∀ b, G b → b < w.heap.size → G' b) → Rc w' ρ G' L true (.sl (some e) z (l ++ l')) [v'] F' := by
    rintro a0 rfl rfl rfl
    by_cases hm : l'.length = 0
    · have hl0 : l' = [] := List.length_eq_zero_iff.1 hm
      subst hl0
      have hn0 : news = [] := List.length_eq_zero_iff.1 (by simpa using hnl)
      subst hn0
      refine ⟨.slice (some a0) 0 0, w, [], ?_, Turn.refl _ _, List.nodup_nil, by simp, fun G' _ => ?_⟩
      · rcases hs with ⟨rfl, _, rfl⟩ | ⟨a, rfl, _⟩ <;>
          simp [Builtin.append_, run_underlying hT.u, sizeOf, typeInfo, hi, Builtin.lenOf, Builtin.firstCells, loadCells, loadCellsFrom, storeCells]
      · exact .slE (some e) z a0
    · rcases hs with ⟨_, rfl, _⟩ | ⟨a, rfl, hnews⟩
      · simp at hm
      · have hgz : Builtin.nextslicecap (0 + l'.length) 0 * i.bytes ≤ 281474976710656 := by
          rw [Nat.zero_add, nextslicecap_zero (by omega)]; rw [hby]; simp at hbytes; omega
        have hr := run_append_grow (P := P) (w := w) t ty e i zv hT.u hi hz a0 0 0 [] (by simp) (by simp) a l'.length cap2 news (by rw [hsz]; exact hnl) hnews (by omega) (by simp at h63; omega) hgz
        obtain ⟨F', q1, q2, q3, q4⟩ := grow 0 [] (fun _ => []) (by simp) (fun j hj => by simp at hj) (by simp) (by simp)
        simp only [List.length_nil, Nat.zero_add, List.nil_append] at hr q1 q2 q3 q4 ⊢
        exact ⟨_, _, F', hr, q1, q2, q3, q4⟩
  rcases hdd with ⟨rfl, rfl⟩ | rfl
  · have hv := hd.nil_val
    subst hv
    have hF := hd.pur rfl
    exact nilcase rfl rfl hF
  · generalize hvv : [v] = cv at hd
    cases hd with
    | slN o z =>
      cases hvv
      exact nilcase rfl rfl rfl
    | slE o z a0 =>
      cases hvv
      exact empcase a0 rfl rfl rfl
    | slO b cs e cap z l Fs hb hc hcm hcs hr =>
      cases hvv
      obtain ⟨hn1, hn2⟩ := List.nodup_cons.1 hFn
      have hbl : b < w.heap.size := (Array.getElem?_eq_some_iff.1 hb).1
      have hxl : (cs.toList.take (l.length * z)).length = l.length * z := by
        have := Nat.mul_le_mul_right z hc
        simp; omega
      have hrx : ∀ j (h : j < l.length), Rc w ρ G L false l[j] (((cs.toList.take (l.length * z)).drop (j * z)).take z) (Fs j) := fun j hj => by
        have e1 := part_left (cs.toList.take (l.length * z)) (cs.toList.drop (l.length * z)) j l.length z hxl hj
        rw [List.take_append_drop] at e1
        rw [← e1]; exact hr j hj
      rcases hs with ⟨rfl, rfl, rfl⟩ | ⟨a, rfl, hnews⟩
      · refine ⟨_, w, b :: (List.range l.length).flatMap Fs, run_append_owned_none (P := P) (w := w) 0 t ty e i z hT.u hi _ l.length (cs.toList.take (l.length * z)) ⟨hxl, .inr ⟨b, cap, cs, rfl, Nat.zero_le _, hb, hc, hcm, hcs, rfl⟩⟩,
          Turn.refl _ _, hFn, fun b hb => .inl hb, fun G' hG' => ?_⟩
        rw [List.append_nil]
        exact (Rc.slO (w := w) (ρ := ρ) (G := G) (L := L) (p := true) b cs e cap z l Fs hb hc hcm hcs hr).mono (fun _ _ _ => rfl) hG' (fun id hid => ⟨hid, rfl⟩)
      · by_cases hroom : l.length + l'.length ≤ cap
        · have hfit : l.length * i.size + news.length ≤ cs.size := by rw [hnl, hcs, hsz, ← Nat.add_mul]; exact Nat.mul_le_mul_right _ hroom
          have hrun := run_append_room (P := P) w t ty e i hT.u hi b l.length cap cs hb a l'.length cap2 news (by rw [hsz]; exact hnl) hnews h1 hroom hfit
          rw [hsz] at hrun hfit
          have hdb : ∀ b', b' ∈ (List.range l'.length).flatMap Fs2 → b' ≠ b := fun b' hb' he => hdis b' hb' (by simp [he])
          refine ⟨_, _, b :: (List.range (l.length + l'.length)).flatMap (fjoin l.length Fs Fs2), hrun, ⟨rfl, rfl, rfl, by simp, fun b' _ hb' => setRow_other w b b' _ (fun e => hb' (by simp [e]))⟩, ?_, ?_, fun G' hG' => ?_⟩
          · refine List.nodup_cons.2 ⟨fun hm => ?_, fjoin_nodup hn2 hF2 (fun b hb hb' => hdis b hb (List.mem_cons_of_mem _ hb'))⟩
            rcases fjoin_mem hm with h2 | h2
            · exact hn1 h2
            · exact hdb _ h2 rfl
          · intro b' hb'
            rcases List.mem_cons.1 hb' with rfl | hb'
            · exact .inl (by simp)
            · rcases fjoin_mem hb' with h2 | h2
              · exact .inl (List.mem_cons_of_mem _ h2)
              · exact .inr (.inl h2)
          · refine slO_app (xs := cs.toList.take (l.length * z)) (news := news) (rest := cs.toList.drop (l.length * z + news.length)) (setRow_heap w b cs _ e (0, 0) hb) (by simp) hxl hnl ?_ hroom hcm ?_ ?_
            · simp only [List.size_toArray, List.length_append, List.length_take, List.length_drop, Array.length_toList]
              omega
            · exact fun j hj => (hrx j hj).mono (fun b' hb' _ => setRow_other w b b' _ (by
                rintro rfl
                rcases hb' with hb' | hb'
                · exact hGF _ hb' (by simp)
                · exact hn1 (List.mem_flatMap.2 ⟨j, List.mem_range.2 hj, hb'⟩))) hG' (fun id hid => ⟨hid, rfl⟩)
            · exact fun j hj => (hr2 j hj).mono (fun b' hb' _ => setRow_other w b b' _ (by
                rintro rfl
                rcases hb' with hb' | hb'
                · exact hGF _ hb' (by simp)
                · exact hdb _ (List.mem_flatMap.2 ⟨j, List.mem_range.2 hj, hb'⟩) rfl)) hG' (fun id hid => ⟨hid, rfl⟩)
        · have holds : ∀ j u, (cs.toList.take (l.length * z))[j]? = some u → w.cell? ((⟨b, 0, none⟩ : Addr).add j) = some u := by
            intro j u hu
            rw [add_lit, cell_of_row w b _ cs e (0, 0) hb]
            rw [List.getElem?_take] at hu
            split at hu
            · simpa using hu
            · cases hu
          have hrun := run_append_grow (P := P) w t ty e i zv hT.u hi hz ⟨b, 0, none⟩ l.length cap (cs.toList.take (l.length * z)) (by rw [hsz]; exact hxl) holds a l'.length cap2 news (by rw [hsz]; exact hnl) hnews (by omega) (by omega)
            (growslice_fits (by omega) (by rw [hby]; exact hbytes))
          obtain ⟨F', q1, q2, q3, q4⟩ := grow cap (cs.toList.take (l.length * z)) Fs hxl hrx hn2 (fun b' hb' => List.mem_cons_of_mem _ hb')
          exact ⟨_, _, F', hrun, q1, q2, q3, q4⟩
end Go.Sx
