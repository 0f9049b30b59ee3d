/-
  Plain laws on pieces: what the rows of cells are, what they are put together to, and that it is done once. No program, no memory.
  No conditions but that the cells rise, where a law says so.
-/
import Derived.Test.YteacjikkojglmaaLawPlaces
namespace Go.Proofs.Yteacjikkojglmaa
open Go.RowKit Go.Shelf

/-- no row in common -/
def ApartRows (g h : List Cl) : Prop := ∀ c ∈ g, ∀ d ∈ h, c.row ≠ d.row
/-- each row is ahead of each -/
def LtRows (g h : List Cl) : Prop := ∀ c ∈ g, ∀ d ∈ h, lt c.row d.row = true
theorem LtRows.apart {g h : List Cl} (k : LtRows g h) : ApartRows g h := fun c hc d hd e => by
  have := k c hc d hd
  rw [e, lt_irrefl] at this
  cases this
def OneRow (g : List Cl) : Prop := ∀ c ∈ g, ∀ d ∈ g, c.row = d.row

theorem rising_rows {l : List Cl} (h : rising l = true) : l.Pairwise (fun a b => lt b.row a.row = false) := by
  rw [List.pairwise_iff_getElem]
  intro i j hi hj hij
  exact rising_mono h l[i].row i j hj (by omega) (lt_irrefl _)

theorem rowsOf_flat : ∀ l : List Cl, (rowsOf l).flatten = l
  | [] => rfl
  | c :: l => by
    have ih := rowsOf_flat l
    rw [rowsOf]
    split
    · rename_i e
      rw [e] at ih
      simpa using ih
    · rename_i gs e
      rw [e] at ih
      simpa using ih
    · rename_i d g gs e
      rw [e] at ih
      split <;> simpa using ih
theorem rowsOf_one_row : ∀ l : List Cl, ∀ g ∈ rowsOf l, g ≠ [] ∧ OneRow g
  | [] => by simp [rowsOf]
  | c :: l => by
    have ih := rowsOf_one_row l
    have one : OneRow [c] := fun a ha b hb => by rw [List.mem_singleton.1 ha, List.mem_singleton.1 hb]
    rw [rowsOf]
    split
    · intro g hg
      rw [List.mem_singleton.1 hg]
      exact ⟨by simp, one⟩
    · rename_i gs e
      rw [e] at ih
      exact absurd rfl (ih [] (by simp)).1
    · rename_i d g gs e
      rw [e] at ih
      have h0 := (ih (d :: g) (by simp)).2
      split
      · rename_i hd
        intro q hq
        rcases List.mem_cons.1 hq with rfl | hq
        · refine ⟨by simp, ?_⟩
          have key : ∀ a ∈ c :: d :: g, a.row = d.row := fun a ha => by
            rcases List.mem_cons.1 ha with rfl | ha
            · exact hd.symm
            · exact h0 a ha d (by simp)
          exact fun a ha b hb => (key a ha).trans (key b hb).symm
        · exact ih q (by simp [hq])
      · intro q hq
        rcases List.mem_cons.1 hq with rfl | hq
        · exact ⟨by simp, one⟩
        · exact ih q hq
theorem rowsOf_lt : ∀ l : List Cl, l.Pairwise (fun a b => lt b.row a.row = false) → (rowsOf l).Pairwise LtRows
  | [], _ => by simp [rowsOf]
  | c :: l, h => by
    rw [List.pairwise_cons] at h
    have ih := rowsOf_lt l h.2
    have hf := rowsOf_flat l
    have ho := rowsOf_one_row l
    rw [rowsOf]
    split
    · simp
    · rename_i gs e
      rw [e] at ho
      exact absurd rfl (ho [] (by simp)).1
    · rename_i d g gs e
      rw [e] at ih hf ho
      rw [List.pairwise_cons] at ih
      have hd0 : d ∈ l := by rw [← hf]; simp
      split
      · rename_i hd
        rw [List.pairwise_cons]
        refine ⟨fun q hq a ha b hb => ?_, ih.2⟩
        rcases List.mem_cons.1 ha with rfl | ha
        · rw [← hd]; exact ih.1 q hq d (by simp) b hb
        · exact ih.1 q hq a ha b hb
      · rename_i hd
        rw [List.pairwise_cons, List.pairwise_cons]
        refine ⟨fun q hq a ha b hb => ?_, ih⟩
        rw [List.mem_singleton.1 ha]
        have hbl : b ∈ l := by
          rw [← hf]
          exact List.mem_flatten.2 ⟨q, hq, hb⟩
        cases k : lt c.row b.row with
        | true => rfl
        | false =>
          have e1 := lt_total k (h.1 b hbl)
          rcases List.mem_cons.1 hq with rfl | hq
          · exact absurd ((ho _ (by simp)).2 d (by simp) b hb) (fun e2 => hd (e2.trans e1.symm))
          · have := ih.1 q hq d (by simp) b hb
            rw [← e1, h.1 d hd0] at this
            cases this

/-- rows put together, list by list -/
def Seg (m : Nat) (gs : List (List (List Cl))) : Prop := ∀ g ∈ gs, g ≠ [] ∧ (g.flatten.length ≤ m ∨ g.length = 1)
theorem roll_seg (m : Nat) : ∀ (R : List (List Cl)) (gs : List (List (List Cl))), Seg m gs → ∃ gs', R.foldl (rollStep m) (gs.map List.flatten) = gs'.map List.flatten ∧ gs'.flatten = gs.flatten ++ R ∧ Seg m gs'
  | [], gs, h => ⟨gs, rfl, by simp, h⟩
  | r :: R, gs, h => by
    obtain ⟨g1, e1, e2, h1⟩ : ∃ g1, rollStep m (gs.map List.flatten) r = g1.map List.flatten ∧ g1.flatten = gs.flatten ++ [r] ∧ Seg m g1 := by
      rcases List.eq_nil_or_concat gs with rfl | ⟨L, g, rfl⟩
      · exact ⟨[[r]], by simp [rollStep], by simp, fun g hg => by rw [List.mem_singleton.1 hg]; exact ⟨by simp, .inr rfl⟩⟩
      · rw [List.concat_eq_append] at *
        unfold rollStep
        rw [List.map_append, List.map_singleton, List.getLast?_concat]
        simp only
        split
        · rename_i hle
          refine ⟨L ++ [g ++ [r]], by simp, by simp, fun q hq => ?_⟩
          rcases List.mem_append.1 hq with hq | hq
          · exact h q (by simp [hq])
          · rw [List.mem_singleton.1 hq]
            exact ⟨by simp, .inl (by simpa using hle)⟩
        · refine ⟨L ++ [g] ++ [[r]], by simp, by simp, fun q hq => ?_⟩
          rcases List.mem_append.1 hq with hq | hq
          · exact h q hq
          · rw [List.mem_singleton.1 hq]
            exact ⟨by simp, .inr rfl⟩
    obtain ⟨g2, e3, e4, h2⟩ := roll_seg m R g1 h1
    refine ⟨g2, ?_, ?_, h2⟩
    · rw [List.foldl_cons, e1, e3]
    · rw [e4, e2, List.append_assoc, List.singleton_append]

theorem roll_flat (l : List Cl) (m : Nat) : (roll l m).flatten = l := by
  obtain ⟨gs, e1, e2, _⟩ := roll_seg m (rowsOf l) [] (fun g hg => by cases hg)
  unfold roll
  simp only [List.map_nil, List.flatten_nil, List.nil_append] at e1 e2
  rw [e1, ← List.flatten_flatten, e2, rowsOf_flat]
theorem roll_each (l : List Cl) (m : Nat) : ∀ q ∈ roll l m, q ≠ [] ∧ (q.length ≤ m ∨ OneRow q) := by
  obtain ⟨gs, e1, e2, h⟩ := roll_seg m (rowsOf l) [] (fun g hg => by cases hg)
  unfold roll
  simp only [List.map_nil, List.flatten_nil, List.nil_append] at e1 e2
  rw [e1]
  intro q hq
  obtain ⟨g, hg, rfl⟩ := List.mem_map.1 hq
  have hin : ∀ r ∈ g, r ∈ rowsOf l := fun r hr => by rw [← e2]; exact List.mem_flatten.2 ⟨g, hg, hr⟩
  obtain ⟨h1, h2⟩ := h g hg
  refine ⟨?_, ?_⟩
  · cases g with
    | nil => exact absurd rfl h1
    | cons r g =>
      have := (rowsOf_one_row l r (hin r (by simp))).1
      cases r with
      | nil => exact absurd rfl this
      | cons c r => simp
  · rcases h2 with h2 | h2
    · exact .inl h2
    · right
      obtain ⟨r, rfl⟩ := List.length_eq_one_iff.1 h2
      simpa using (rowsOf_one_row l r (hin r (by simp))).2
theorem roll_lt {l : List Cl} (hr : rising l = true) (m : Nat) : (roll l m).Pairwise LtRows := by
  obtain ⟨gs, e1, e2, _⟩ := roll_seg m (rowsOf l) [] (fun g hg => by cases hg)
  unfold roll
  simp only [List.map_nil, List.flatten_nil, List.nil_append] at e1 e2
  rw [e1]
  have h := rowsOf_lt l (rising_rows hr)
  rw [← e2, List.pairwise_flatten] at h
  rw [List.pairwise_map]
  refine h.2.imp fun hab a ha b hb => ?_
  obtain ⟨r, hr, ha⟩ := List.mem_flatten.1 ha
  obtain ⟨s, hs, hb⟩ := List.mem_flatten.1 hb
  exact hab r hr s hs a ha b hb

theorem rising_take {t : List Cl} (h : rising t = true) (m : Nat) : rising (t.take m) = true := by
  rw [rising_iff] at *
  intro i hi
  simp only [List.getElem_take]
  exact h i (by rw [List.length_take] at hi; omega)
theorem rising_part {L : List (List Cl)} (h : rising L.flatten = true) : ∀ q ∈ L, rising q = true := by
  intro q hq
  obtain ⟨s, t, rfl⟩ := List.append_of_mem hq
  rw [List.flatten_append, List.flatten_cons] at h
  have h1 := rising_drop h s.flatten.length
  rw [List.drop_left] at h1
  have h2 := rising_take h1 q.length
  rwa [List.take_left] at h2
theorem roll_rising {l : List Cl} (hr : rising l = true) (m : Nat) : ∀ q ∈ roll l m, rising q = true := rising_part (by rw [roll_flat]; exact hr)

theorem roll_fits (m : Nat) : ∀ (R : List (List Cl)) (p : List Cl), (p ++ R.flatten).length ≤ m → R.foldl (rollStep m) [p] = [p ++ R.flatten]
  | [], p, _ => by simp
  | r :: R, p, h => by
    have e : rollStep m [p] r = [p ++ r] := by
      unfold rollStep
      simp only [List.getLast?_singleton]
      rw [if_pos (by simp at h; omega)]
      simp
    rw [List.foldl_cons, e, roll_fits m R (p ++ r) (by simpa using h)]
    simp
/-- what was put together is so once more -/
theorem roll_again {q : List Cl} {m : Nat} (hn : q ≠ []) (hr : rising q = true) (h : q.length ≤ m ∨ OneRow q) : roll q m = [q] := by
  have hf := rowsOf_flat q
  unfold roll
  cases e : rowsOf q with
  | nil => rw [e] at hf; exact absurd hf.symm hn
  | cons g R =>
    rw [e] at hf
    have e1 : rollStep m [] g = [g] := rfl
    rw [List.foldl_cons, e1]
    rcases h with h | h
    · rw [roll_fits m R g (by rw [List.flatten_cons] at hf; rw [hf]; exact h)]
      rw [List.flatten_cons] at hf
      rw [hf]
    · have h1 := rowsOf_lt q (rising_rows hr)
      have h2 := rowsOf_one_row q
      rw [e] at h1 h2
      cases R with
      | nil => simp at hf; rw [hf]; rfl
      | cons g2 R =>
        exfalso
        rw [List.pairwise_cons] at h1
        obtain ⟨c, hc⟩ := List.exists_mem_of_ne_nil g (h2 g (by simp)).1
        obtain ⟨d, hd⟩ := List.exists_mem_of_ne_nil g2 (h2 g2 (by simp)).1
        have h3 := h1.1 g2 (by simp) c hc d hd
        rw [h c (by rw [← hf]; simp [hc]) d (by rw [← hf]; simp [hd]), lt_irrefl] at h3
        cases h3

theorem rollStep_cases (m : Nat) (out : List (List Cl)) (r : List Cl) :
    (∃ q, out.getLast? = some q ∧ q.length + r.length ≤ m ∧ (rollStep m out r).length = out.length ∧ (rollStep m out r).getLast? = some (q ++ r)) ∨
    ((∀ q, out.getLast? = some q → ¬ q.length + r.length ≤ m) ∧ (rollStep m out r).length = out.length + 1 ∧ (rollStep m out r).getLast? = some r) := by
  unfold rollStep
  cases e : out.getLast? with
  | none =>
    rw [List.getLast?_eq_none_iff] at e
    subst e
    exact .inr ⟨by simp, rfl, rfl⟩
  | some q =>
    have hne : out ≠ [] := fun h => by rw [h] at e; cases e
    have := List.length_pos_iff.2 hne
    simp only
    split
    · rename_i hle
      exact .inl ⟨q, rfl, hle, by simp; omega, by simp⟩
    · rename_i hle
      exact .inr ⟨fun q' h' => by injection h' with h'; rw [← h']; exact hle, by simp, by simp⟩
def Ahead (a b : List (List Cl)) : Prop := b.length < a.length ∨ (b.length = a.length ∧ ∀ q q', a.getLast? = some q → b.getLast? = some q' → q'.length ≤ q.length)
theorem Ahead.step {m m' : Nat} (hm : m ≤ m') {a b : List (List Cl)} (h : Ahead a b) (r : List Cl) : Ahead (rollStep m a r) (rollStep m' b r) := by
  have last : ∀ {a : List (List Cl)} {n : Nat}, a.length = n → 0 < n → ∃ q, a.getLast? = some q := fun {a n} h1 h2 => by
    cases e : a.getLast? with
    | some q => exact ⟨q, rfl⟩
    | none => rw [List.getLast?_eq_none_iff] at e; subst e; simp at h1; omega
  rcases rollStep_cases m a r with ⟨q, a1, a2, a3, a4⟩ | ⟨a2, a3, a4⟩ <;> rcases rollStep_cases m' b r with ⟨q', b1, b2, b3, b4⟩ | ⟨b2, b3, b4⟩
  · rcases h with h | ⟨h1, h2⟩
    · exact .inl (by omega)
    · refine .inr ⟨by omega, fun x y hx hy => ?_⟩
      rw [a4] at hx
      rw [b4] at hy
      injection hx with hx
      injection hy with hy
      subst hx hy
      have := h2 q q' a1 b1
      simp; omega
  · rcases h with h | ⟨h1, h2⟩
    · by_cases e : b.length + 1 = a.length
      · refine .inr ⟨by omega, fun x y hx hy => ?_⟩
        rw [a4] at hx
        rw [b4] at hy
        injection hx with hx
        injection hy with hy
        subst hx hy
        simp
      · exact .inl (by omega)
    · exfalso
      have hpos : 0 < a.length := by
        cases a with
        | nil => cases a1
        | cons x a => simp
      obtain ⟨q', hq'⟩ := last h1 hpos
      have h3 := h2 q q' a1 hq'
      exact b2 q' hq' (by omega)
  · rcases h with h | ⟨h1, h2⟩
    · exact .inl (by omega)
    · exact .inl (by omega)
  · rcases h with h | ⟨h1, h2⟩
    · exact .inl (by omega)
    · refine .inr ⟨by omega, fun x y hx hy => ?_⟩
      rw [a4] at hx
      rw [b4] at hy
      injection hx with hx
      injection hy with hy
      subst hx hy
      exact Nat.le_refl _
theorem Ahead.fold {m m' : Nat} (hm : m ≤ m') : ∀ (R : List (List Cl)) (a b : List (List Cl)), Ahead a b → Ahead (R.foldl (rollStep m) a) (R.foldl (rollStep m') b)
  | [], _, _, h => h
  | r :: R, _, _, h => Ahead.fold hm R _ _ (h.step hm r)
/-- by a greater size there are no more pieces -/
theorem roll_mono (l : List Cl) {m m' : Nat} (hm : m ≤ m') : (roll l m').length ≤ (roll l m).length := by
  have := Ahead.fold hm (rowsOf l) [] [] (.inr ⟨rfl, fun q q' h => by cases h⟩)
  unfold Ahead at this
  unfold roll
  omega

theorem splitAt_flat : ∀ (ss : List ByteArray) (l : List Cl), (splitAt l ss).flatten = l
  | [], l => by simp [splitAt]
  | s :: ss, l => by rw [splitAt, List.flatten_cons, splitAt_flat ss, List.takeWhile_append_dropWhile]
theorem splitAt_place {ss : List ByteArray} {l : List Cl} (hs : borders ss = true) (hr : rising l = true) (k : Nat) (hk : k < (splitAt l ss).length) : ∀ c ∈ (splitAt l ss)[k], place ss c.row = k := by
  intro c hc
  have e := splitAt_eq hs hr
  have e1 : (splitAt l ss)[k] = (spread ss l)[k]'(by rw [← e]; exact hk) := by simp only [e]
  rw [e1, spread_get] at hc
  simpa using (List.mem_filter.1 hc).2

/-- what the law asks of pieces -/
structure GoodPieces (m : Nat) (ss : List ByteArray) (n : Nat) (P : List (Nat × List Cl)) : Prop where
  each : ∀ p ∈ P, p.1 < n ∧ p.2 ≠ [] ∧ (p.2.length ≤ m ∨ OneRow p.2) ∧ ∀ c ∈ p.2, place ss c.row = p.1
  pair : P.Pairwise fun p q => p.1 ≤ q.1 ∧ ApartRows p.2 q.2
theorem pieces_good (m : Nat) {ss : List ByteArray} {l : List Cl} (hs : borders ss = true) (hr : rising l = true) : ∀ n ≤ ss.length + 1,
    GoodPieces m ss n (pieces m (splitAt l ss) n) ∧ ((pieces m (splitAt l ss) n).map (·.2)).flatten = ((splitAt l ss).take n).flatten
  | 0, _ => ⟨⟨fun p hp => (by cases hp), .nil⟩, rfl⟩
  | n + 1, hn => by
    obtain ⟨⟨h1, h2⟩, h3⟩ := pieces_good m hs hr n (by omega)
    have hk : n < (splitAt l ss).length := by rw [splitAt_length]; omega
    have eg : (splitAt l ss).getD n [] = (splitAt l ss)[n] := by rw [List.getD_eq_getElem?_getD, List.getElem?_eq_getElem hk]; rfl
    have hpl := splitAt_place hs hr n hk
    have hrr := (splitAt_mem ss l hr _ (List.getElem_mem hk)).1
    rw [pieces, eg]
    have hin : ∀ q ∈ roll (splitAt l ss)[n] m, ∀ c ∈ q, c ∈ (splitAt l ss)[n] := fun q hq c hc => by
      have := roll_flat (splitAt l ss)[n] m
      rw [← this]
      exact List.mem_flatten.2 ⟨q, hq, hc⟩
    refine ⟨⟨?_, ?_⟩, ?_⟩
    · intro p hp
      rcases List.mem_append.1 hp with hp | hp
      · obtain ⟨a, b⟩ := h1 p hp
        exact ⟨by omega, b⟩
      · obtain ⟨q, hq, rfl⟩ := List.mem_map.1 hp
        obtain ⟨a, b⟩ := roll_each _ m q hq
        exact ⟨by simp, a, b, fun c hc => hpl c (hin q hq c hc)⟩
    · rw [List.pairwise_append]
      refine ⟨h2, ?_, ?_⟩
      · rw [List.pairwise_map]
        exact (roll_lt hrr m).imp fun h => ⟨Nat.le_refl _, h.apart⟩
      · intro p hp q2 hq2
        obtain ⟨q, hq, rfl⟩ := List.mem_map.1 hq2
        obtain ⟨a, _, _, b⟩ := h1 p hp
        refine ⟨by simp; omega, fun c hc d hd e => ?_⟩
        have x1 := b c hc
        have x2 := hpl d (hin q hq d hd)
        rw [e, x2] at x1
        omega
    · rw [List.map_append, List.flatten_append, h3, List.map_map, List.take_succ_eq_append_getElem hk, List.flatten_append]
      congr 1
      have : (Prod.snd ∘ fun q => (n, q)) = (id : List Cl → List Cl) := rfl
      rw [this, List.map_id, roll_flat]
      simp
theorem pieces_all (m : Nat) {ss : List ByteArray} {l : List Cl} (hs : borders ss = true) (hr : rising l = true) :
    GoodPieces m ss (ss.length + 1) (pieces m (splitAt l ss) (ss.length + 1)) ∧ ((pieces m (splitAt l ss) (ss.length + 1)).map (·.2)).flatten = l := by
  obtain ⟨h1, h2⟩ := pieces_good m hs hr (ss.length + 1) (Nat.le_refl _)
  refine ⟨h1, ?_⟩
  rw [h2, List.take_of_length_le (by rw [splitAt_length]; exact Nat.le_refl _), splitAt_flat]
end Go.Proofs.Yteacjikkojglmaa
