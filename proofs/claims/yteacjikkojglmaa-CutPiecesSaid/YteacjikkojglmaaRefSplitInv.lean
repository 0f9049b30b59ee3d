/-
  What holds between two rounds of the document's own Split; and that both ways to split agree. Of memory and of lists alone, no walk.
-/
import Derived.Test.YteacjikkojglmaaRefRollInv
import Derived.Test.YteacjikkojglmaaPlace
namespace Go.Proofs.Yteacjikkojglmaa
open Go.RowKit Go.Shelf

def SplSt (w wr : World) (g n : Nat) (vs : List Value) (ps : List (List Cl)) : Prop :=
  Own wr w.heap.size 22 1 (some ⟨g, 0, none⟩) n n vs ∧ Lists wr w.heap.size vs ps ∧ Apart vs ∧ Below w.heap.size w wr

theorem Lists.apart_type {w : World} {base base' e' size' n' c' : Nat} {A' : Option Addr} {xs' : List Value} {vs : List Value} {ps : List (List Cl)} (h : Lists w base vs ps) (h' : Own w base' e' size' A' n' c' xs') (hne : 50 ≠ e') (i : Nat) (hi : i < vs.length) : vs[i].ownBlock = none ∨ vs[i].ownBlock ≠ blk A' := by
  obtain ⟨A, c, e, ho⟩ := h.2 i hi (by rw [← h.1]; exact hi)
  rw [e, ownBlock_slice]
  exact Own.type_ne ho h' hne

theorem SplSt.more {w wr : World} {g n : Nat} {vs : List Value} {ps : List (List Cl)} (h : SplSt w wr g n vs ps) {o : Obj} {q row : List Cl} {w1 : World} {Aq A4 : Option Addr} {j m cq c4 : Nat}
    (hj : j < vs.length) (hjp : j < ps.length) (hq : ps[j] = q) (hm : q.length = m) (hv : vs[j] = .slice Aq m cq)
    (ho1 : Own w1 w.heap.size 50 6 A4 (m + row.length) c4 (vals q ++ vals row)) (hg1 : (wr.alloc o).grownBy w1 (blk Aq)) (hat : blk A4 = blk Aq ∨ blk A4 = some (wr.alloc o).heap.size) :
    SplSt w (w1.setCell ⟨g, j, none⟩ (.slice A4 (m + row.length) c4)) g n (vs.set j (.slice A4 (m + row.length) c4)) (ps.set j (q ++ row)) := by
  subst hm
  subst hq
  obtain ⟨hown, hlist, hap, hB⟩ := h
  have hw := hB.size
  obtain ⟨Aq', cq', hv', hoq⟩ := hlist.2 j hj hjp
  rw [hv] at hv'
  injection hv' with e1 e2 e3
  subst e1
  subst e3
  have hgl : w.heap.size ≤ g ∧ g < wr.heap.size := hown.lt g rfl
  have hown0 := Own.alloc hown o
  have hoq0 := Own.alloc hoq o
  have hown1 := Own.grown hown0 hg1 (Own.type_ne hown0 hoq0 (by decide))
  have hst := World.ownsRow.stored hown1 j (.slice A4 (ps[j].length + row.length) c4)
  have hgne : blk A4 ≠ some g := fun e => by
    rcases Own.type_ne ho1 hown1 (by decide) with h1 | h1
    · rw [h1] at e; cases e
    · exact h1 e
  have hB1 : Below w.heap.size w w1 := Own.grow hoq0 (hB.alloc hw _) (by rw [World.size_alloc]; omega) (Nat.le_refl _) hg1
  have hz0 := World.size_alloc wr o
  refine ⟨hst.1, ?_, ?_, hB1.setCell (by show w.heap.size ≤ g; omega) _⟩
  · refine ⟨by simp [hlist.1], fun i hi hi' => ?_⟩
    rw [List.length_set] at hi hi'
    by_cases e : i = j
    · subst e
      refine ⟨A4, c4, ?_, ?_⟩
      · rw [List.getElem_set_self, List.getElem_set_self, List.length_append]
      · rw [List.getElem_set_self]
        refine Own.setCell ?_ hgne _
        rw [List.length_append, ← vals_append]
        exact ho1
    · obtain ⟨Ai, ci, ei, hoi⟩ := hlist.2 i hi hi'
      refine ⟨Ai, ci, ?_, ?_⟩
      · rw [List.getElem_set_ne (Ne.symm e), List.getElem_set_ne (Ne.symm e)]; exact ei
      · rw [List.getElem_set_ne (Ne.symm e)]
        have ha := hap i j hi hj e
        rw [ei, hv, ownBlock_slice, ownBlock_slice] at ha
        have h1 := Own.grown (Own.alloc hoi o) hg1 ha
        refine Own.setCell h1 (fun e2 => ?_) _
        rcases Own.type_ne hoi hown (by decide) with h3 | h3
        · rw [h3] at e2; cases e2
        · exact h3 e2
  · intro i k hi hk hik
    rw [List.length_set] at hi hk
    have key : ∀ i (hi : i < vs.length), i ≠ j → vs[i].ownBlock = none ∨ vs[i].ownBlock ≠ blk A4 := fun i hi hne => by
      rcases hat with h1 | h1
      · rw [h1]
        have := hap i j hi hj hne
        rwa [hv, ownBlock_slice] at this
      · rw [h1]
        cases e : vs[i].ownBlock with
        | none => exact .inl rfl
        | some m => exact .inr fun e2 => by have := (hlist.blk_lt i hi m e).2; injection e2; omega
    by_cases e1 : i = j
    · subst e1
      rw [List.getElem_set_self, List.getElem_set_ne hik, ownBlock_slice]
      cases e : blk A4 with
      | none => exact .inl rfl
      | some m =>
        refine .inr fun e2 => ?_
        rcases key k (by simpa using hk) (Ne.symm hik) with h1 | h1
        · rw [h1] at e2; cases e2
        · exact h1 (by rw [← e2, e])
    · rw [List.getElem_set_ne (Ne.symm e1)]
      by_cases e2 : k = j
      · subst e2
        rw [List.getElem_set_self, ownBlock_slice]
        exact key i (by simpa using hi) e1
      · rw [List.getElem_set_ne (Ne.symm e2)]
        exact hap i k (by simpa using hi) (by simpa using hk) hik

/-- cells by the place of their rows -/
def spread (ss : List ByteArray) (l : List Cl) : List (List Cl) := (List.range (ss.length + 1)).map fun k => l.filter fun c => place ss c.row == k
theorem spread_length (ss : List ByteArray) (l : List Cl) : (spread ss l).length = ss.length + 1 := by simp [spread]
theorem spread_get (ss : List ByteArray) (l : List Cl) (k : Nat) (hk : k < (spread ss l).length) : (spread ss l)[k] = l.filter fun c => place ss c.row == k := by simp [spread]
theorem spread_snoc (ss : List ByteArray) (l : List Cl) (c : Cl) (hk : place ss c.row < (spread ss l).length) : spread ss (l ++ [c]) = (spread ss l).set (place ss c.row) ((spread ss l)[place ss c.row] ++ [c]) := by
  apply List.ext_getElem
  · simp [spread]
  · intro i h1 h2
    rw [spread_get, List.filter_append]
    by_cases e : place ss c.row = i
    · subst e
      rw [List.getElem_set_self, spread_get]
      simp
    · rw [List.getElem_set_ne e, spread_get]
      simp [e]

theorem rising_filter {s : ByteArray} : ∀ {t : List Cl}, rising t = true → t.takeWhile (fun c => lt c.row s) = t.filter (fun c => lt c.row s) ∧ t.dropWhile (fun c => lt c.row s) = t.filter (fun c => !lt c.row s)
  | [], _ => ⟨rfl, rfl⟩
  | c :: t, h => by
    by_cases hc : lt c.row s = true
    · obtain ⟨h1, h2⟩ := rising_filter (s := s) (t := t) (rising_drop h 1)
      simp [List.takeWhile_cons, List.dropWhile_cons, hc, h1, h2]
    · have hc' : lt c.row s = false := by simpa using hc
      have hall : ∀ d ∈ t, lt d.row s = false := fun d hd => by
        obtain ⟨j, hj, rfl⟩ := List.mem_iff_getElem.1 hd
        exact rising_mono h s 0 (j + 1) (by simpa using hj) (Nat.zero_le _) hc'
      have e1 : t.filter (fun c => lt c.row s) = [] := List.filter_eq_nil_iff.2 fun d hd => by simp [hall d hd]
      have e2 : t.filter (fun c => !lt c.row s) = t := List.filter_eq_self.2 fun d hd => by simp [hall d hd]
      simp [List.takeWhile_cons, List.dropWhile_cons, hc', e1, e2]

theorem up_lt {s : ByteArray} : ∀ {ss : List ByteArray}, upTexts (s :: ss) = true → ∀ b ∈ ss, lt s b = true
  | [], _, b, hb => by cases hb
  | a :: ss, h, b, hb => by
    rw [upTexts, Bool.and_eq_true] at h
    rcases List.mem_cons.1 hb with rfl | hb
    · exact h.1
    · exact lt_trans h.1 (up_lt h.2 b hb)
theorem up_tail {s : ByteArray} : ∀ {ss : List ByteArray}, upTexts (s :: ss) = true → upTexts ss = true
  | [], _ => rfl
  | a :: ss, h => by
    rw [upTexts, Bool.and_eq_true] at h
    exact h.2
theorem place_low {s row : ByteArray} {ss : List ByteArray} (h : upTexts (s :: ss) = true) (hl : lt row s = true) : place (s :: ss) row = 0 := by
  unfold place
  rw [List.countP_eq_zero]
  intro b hb
  have h1 : lt row b = true := by
    rcases List.mem_cons.1 hb with rfl | hb
    · exact hl
    · exact lt_trans hl (up_lt h b hb)
  have h2 := lt_asymm h1
  have h3 : b ≠ row := fun e => by subst e; rw [lt_irrefl] at h1; cases h1
  simp [h2, h3]
theorem place_high {s row : ByteArray} {ss : List ByteArray} (hl : lt row s = false) : place (s :: ss) row = place ss row + 1 := by
  unfold place
  rw [List.countP_cons_of_pos]
  by_cases e : s = row
  · simp [e]
  · by_cases h : lt s row = true
    · simp [h]
    · exact absurd (lt_total (by simpa using h) hl) e

theorem splitAt_spread : ∀ (ss : List ByteArray) (l : List Cl), upTexts ss = true → rising l = true → splitAt l ss = spread ss l
  | [], l, _, _ => by
    have e : (l.filter fun c => place [] c.row == 0) = l := List.filter_eq_self.2 fun c _ => rfl
    simp only [splitAt, spread, List.length_nil, List.range_succ, List.range_zero, List.nil_append, List.map_cons, List.map_nil, Nat.zero_add, e]
  | s :: ss, l, hs, hr => by
    obtain ⟨h1, h2⟩ := rising_filter (s := s) hr
    rw [splitAt, splitAt_spread ss _ (up_tail hs) (rising_dropWhile hr), h1, h2]
    unfold spread
    rw [List.length_cons, List.range_succ_eq_map (n := ss.length + 1), List.map_cons, List.map_map]
    congr 1
    · apply List.filter_congr
      intro c _
      by_cases hc : lt c.row s = true
      · rw [hc, place_low hs hc]; rfl
      · have hc' : lt c.row s = false := by simpa using hc
        rw [hc', place_high hc']
        simp
    · apply List.map_congr_left
      intro k _
      rw [List.filter_filter]
      apply List.filter_congr
      intro c _
      by_cases hc : lt c.row s = true
      · rw [hc]
        simp only [Function.comp, place_low hs hc]
        simp
      · have hc' : lt c.row s = false := by simpa using hc
        rw [hc']
        simp only [Function.comp, place_high hc']
        simp
theorem splitAt_eq {ss : List ByteArray} {l : List Cl} (hs : borders ss = true) (hr : rising l = true) : splitAt l ss = spread ss l := by
  unfold borders at hs
  rw [Bool.and_eq_true] at hs
  exact splitAt_spread ss l hs.2 hr

theorem SplSt.zero {w w1 : World} (hb1 : Below w.heap.size w w1) (ss : List ByteArray) (hlen : ss.length ≤ 1000) :
    SplSt w (w1.alloc (.cells (madeCells #[.slice none 0 0] (ss.length + 1)) 22)) w1.heap.size (ss.length + 1) (madeCells #[.slice none 0 0] (ss.length + 1)).toList (spread ss []) := by
  have hz := hb1.size
  have hg : ∀ i (hi : i < (madeCells #[.slice none 0 0] (ss.length + 1)).toList.length), (madeCells #[.slice none 0 0] (ss.length + 1)).toList[i] = .slice none 0 0 := fun i hi => by
    simp [madeCells, Nat.mod_one]
  refine ⟨World.ownsRow_lit w1 _ _ hz (by unfold maxLen; omega) (by rw [size_madeCells, Nat.mul_one]), ⟨by rw [spread_length, Array.length_toList, size_madeCells], fun i hi hi' => ⟨none, 0, ?_, ?_⟩⟩, fun i j hi hj _ => .inl (by rw [hg]; rfl), hb1.alloc hz _⟩
  · rw [hg, spread_get]; rfl
  · rw [spread_get]; exact Own.nil

end Go.Proofs.Yteacjikkojglmaa
