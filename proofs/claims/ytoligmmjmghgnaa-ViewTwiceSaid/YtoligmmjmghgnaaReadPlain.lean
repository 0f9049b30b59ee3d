/-
  What is read of one row and column, element by element, plain; and of all columns. No program in sight.
-/
import Derived.Test.YtoligmmjmghgnaaViewPlain
namespace Go.Proofs.Ytoligmmjmghgnaa
open Go.RowKit

/-- cells of one column, strictly in order -/
structure Grp (G : List Cl) : Prop where
  st : Strict G
  one : ∀ x ∈ G, ∀ y ∈ G, column x y = true
theorem Grp.lt_at {G : List Cl} (h : Grp G) {i j : Nat} (hij : i < j) (hj : j < G.length) : Cl.lt (G[i]'(by omega)) G[j] = true := List.pairwise_iff_getElem.1 h.st i j (by omega) hj hij
theorem Grp.ts_le {G : List Cl} (h : Grp G) {i j : Nat} (hij : i ≤ j) (hj : j < G.length) : G[j].ts ≤ (G[i]'(by omega)).ts := by
  rcases Nat.lt_or_ge i j with h1 | h1
  · have := lt_same (h.lt_at h1 hj) (h.one _ (List.getElem_mem _) _ (List.getElem_mem _))
    omega
  · have : i = j := by omega
    subst this
    exact Nat.le_refl _
/-- the time of the one ahead of i -/
def tsAt (G : List Cl) (i : Nat) : Option Nat := if i = 0 then none else (G[i - 1]?).map (·.ts)
theorem tsAt_zero (G : List Cl) : tsAt G 0 = none := rfl
theorem tsAt_succ {G : List Cl} {i : Nat} (h : i < G.length) : tsAt G (i + 1) = some G[i].ts := by
  unfold tsAt
  rw [if_neg (Nat.succ_ne_zero i), Nat.add_sub_cancel, List.getElem?_eq_getElem h]
  rfl
/-- at or above a time -/
def up (τ : Option Nat) (x : Cl) : Bool := match τ with | none => false | some t => decide (t ≤ x.ts)
/-- the greatest sequence of those that are gone, at or above a time -/
def GoneAt (G : List Cl) (τ : Option Nat) (gone : Nat) : Prop := ∀ s, gone ≤ s ↔ ∀ x ∈ G, x.del = true → up τ x = true → x.seq ≤ s
theorem GoneAt.zero (G : List Cl) : GoneAt G none 0 := fun s => ⟨fun _ x _ _ h => (by cases h), fun _ => Nat.zero_le _⟩
/-- while those of one time are looked at: j of them -/
structure InnSt (G : List Cl) (τ : Option Nat) (i j gone : Nat) : Prop where
  le : i + j ≤ G.length
  same : ∀ k (h : i + k < G.length), k < j → G[i + k].ts = (G[i]'(by omega)).ts
  gone : ∀ s, gone ≤ s ↔ (∀ x ∈ G, x.del = true → up τ x = true → x.seq ≤ s) ∧ ∀ k (h : i + k < G.length), k < j → G[i + k].del = true → G[i + k].seq ≤ s
theorem InnSt.start {G : List Cl} {τ : Option Nat} {i gone : Nat} (h : GoneAt G τ gone) (hi : i ≤ G.length) : InnSt G τ i 0 gone :=
  ⟨hi, fun k _ h => by omega, fun s => ⟨fun hs => ⟨(h s).1 hs, fun k _ h => by omega⟩, fun hs => (h s).2 hs.1⟩⟩
theorem InnSt.next {G : List Cl} {τ : Option Nat} {i j gone : Nat} (h : InnSt G τ i j gone) (hj : i + j < G.length) (ht : G[i + j].ts = (G[i]'(by omega)).ts) {g' : Nat} (hg : g' = if G[i + j].del then max gone G[i + j].seq else gone) : InnSt G τ i (j + 1) g' := by
  refine ⟨by omega, fun k hk hkj => ?_, fun s => ?_⟩
  · by_cases e : k = j
    · subst e; exact ht
    · exact h.same k hk (by omega)
  · have hs := h.gone s
    subst hg
    constructor
    · intro hle
      have h1 : gone ≤ s := by
        split at hle
        · exact Nat.le_trans (Nat.le_max_left _ _) hle
        · exact hle
      obtain ⟨h2, h3⟩ := hs.1 h1
      refine ⟨h2, fun k hk hkj hd => ?_⟩
      by_cases e : k = j
      · subst e
        rw [if_pos hd] at hle
        exact Nat.le_trans (Nat.le_max_right _ _) hle
      · exact h3 k hk (by omega) hd
    · rintro ⟨h2, h3⟩
      have h1 := hs.2 ⟨h2, fun k hk hkj => h3 k hk (by omega)⟩
      split
      · next hd => exact Nat.max_le.2 ⟨h1, h3 j hj (Nat.lt_succ_self _) hd⟩
      · exact h1
theorem InnSt.done {G : List Cl} {i j gone : Nat} (hG : Grp G) (h : InnSt G (tsAt G i) i j gone) (hi : i < G.length) (hj0 : 0 < j) (he : ∀ hj : i + j < G.length, G[i + j].ts ≠ (G[i]'hi).ts) : GoneAt G (tsAt G (i + 1)) gone := by
  intro s
  rw [h.gone s, tsAt_succ hi]
  constructor
  · rintro ⟨h1, h2⟩ x hx hd hu
    have hu := of_decide_eq_true hu
    obtain ⟨p, hp, rfl⟩ := List.getElem_of_mem hx
    rcases Nat.lt_or_ge p i with hpi | hpi
    · refine h1 _ hx hd ?_
      obtain ⟨i', rfl⟩ : ∃ i', i = i' + 1 := ⟨i - 1, by omega⟩
      rw [tsAt_succ (by omega)]
      exact decide_eq_true (hG.ts_le (by omega) (by omega))
    · obtain ⟨k, rfl⟩ : ∃ k, p = i + k := ⟨p - i, by omega⟩
      rcases Nat.lt_or_ge k j with hk | hk
      · exact h2 k hp hk hd
      · exfalso
        have hij : i + j < G.length := by omega
        have h3 := hG.ts_le (show i + j ≤ i + k by omega) hp
        have h4 := hG.ts_le (show i ≤ i + j by omega) hij
        exact he hij (by omega)
  · intro h1
    refine ⟨fun x hx hd hu => h1 x hx hd ?_, fun k hk hkj hd => h1 _ (List.getElem_mem hk) hd ?_⟩
    · rcases Nat.eq_zero_or_pos i with h0 | h0
      · subst h0; cases hu
      · obtain ⟨i', rfl⟩ : ∃ i', i = i' + 1 := ⟨i - 1, by omega⟩
        rw [tsAt_succ (by omega)] at hu
        have hu := of_decide_eq_true hu
        exact decide_eq_true (Nat.le_trans (hG.ts_le (show i' ≤ i' + 1 by omega) hi) hu)
    · exact decide_eq_true (Nat.le_of_eq (h.same k hk hkj).symm)
theorem GoneAt.still {G : List Cl} {i gone : Nat} (h : GoneAt G (tsAt G i) gone) (hi : i < G.length) (ht : tsAt G i = some G[i].ts) : GoneAt G (tsAt G (i + 1)) gone := by
  rw [tsAt_succ hi, ← ht]
  exact h
theorem seen_not {G : List Cl} (hG : Grp G) {i : Nat} (hi : i < G.length) (ht : tsAt G i = some G[i].ts) : seen G G[i] = false := by
  rcases Nat.eq_zero_or_pos i with h0 | h0
  · subst h0; cases ht
  · obtain ⟨i', rfl⟩ : ∃ i', i = i' + 1 := ⟨i - 1, by omega⟩
    rw [tsAt_succ (by omega)] at ht
    injection ht with ht
    have h1 := hides_of_same (hG.lt_at (Nat.lt_succ_self i') hi) (hG.one _ (List.getElem_mem _) _ (List.getElem_mem _)) ht
    have : hidIn G G[i' + 1] = true := List.any_eq_true.2 ⟨_, List.getElem_mem (show i' < G.length by omega), by rw [hG.one _ (List.getElem_mem _) _ (List.getElem_mem _), h1]; rfl⟩
    unfold seen
    rw [this, Bool.not_true, Bool.and_false]
theorem seen_first {G : List Cl} (hG : Grp G) {i gone : Nat} (hi : i < G.length) (hf : tsAt G i ≠ some G[i].ts) (hg : GoneAt G (tsAt G (i + 1)) gone) : seen G G[i] = (!G[i].del && decide (gone ≤ G[i].seq)) := by
  unfold seen
  congr 1
  have key : hidIn G G[i] = true ↔ ¬ gone ≤ G[i].seq := by
    rw [hg G[i].seq, tsAt_succ hi]
    unfold hidIn
    rw [List.any_eq_true]
    constructor
    · rintro ⟨x, hx, hp⟩ hall
      rw [Bool.and_eq_true] at hp
      have hh := hp.2
      unfold hides at hh
      simp only [Bool.and_eq_true, Bool.or_eq_true, decide_eq_true_eq] at hh
      obtain ⟨h1, h2⟩ := hh
      rcases h2 with h2 | ⟨h2, h3⟩
      · obtain ⟨p, hpl, rfl⟩ := List.getElem_of_mem hx
        rcases Nat.lt_trichotomy p i with hpi | hpi | hpi
        · obtain ⟨i', rfl⟩ : ∃ i', i = i' + 1 := ⟨i - 1, by omega⟩
          apply hf
          rw [tsAt_succ (by omega)]
          congr 1
          have a1 := hG.ts_le (show p ≤ i' by omega) (by omega)
          have a2 := hG.ts_le (show i' ≤ i' + 1 by omega) hi
          omega
        · subst hpi; omega
        · have := lt_same (hG.lt_at hpi hpl) (hG.one _ (List.getElem_mem _) _ (List.getElem_mem _))
          omega
      · have := hall x hx h2 (decide_eq_true h3)
        omega
    · intro hn
      rw [Classical.not_forall] at hn
      obtain ⟨x, hn⟩ := hn
      rw [Classical.not_forall] at hn
      obtain ⟨hx, hn⟩ := hn
      rw [Classical.not_forall] at hn
      obtain ⟨hd, hn⟩ := hn
      rw [Classical.not_forall] at hn
      obtain ⟨hu, hn⟩ := hn
      have hu := of_decide_eq_true hu
      refine ⟨x, hx, ?_⟩
      rw [hG.one _ hx _ (List.getElem_mem _)]
      unfold hides
      rw [decide_eq_true (show G[i].seq < x.seq by omega), hd, decide_eq_true hu]
      simp
  cases h1 : hidIn G G[i] with
  | true => rw [decide_eq_false (key.1 h1)]; rfl
  | false =>
    have : gone ≤ G[i].seq := Classical.not_not.1 fun h => by
      rw [key.2 h] at h1
      cases h1
    rw [decide_eq_true this]
    rfl
/-- how many are of one column, at the beginning -/
def colLen : List Cl → Nat
  | [] => 0
  | x :: r => 1 + (r.takeWhile (column x)).length
theorem colLen_cons (x : Cl) (r : List Cl) : colLen (x :: r) = 1 + (r.takeWhile (column x)).length := rfl
def colsFrom : Nat → List Cl → Nat → List (Nat × Nat)
  | 0, _, _ => []
  | fuel + 1, l, k => if l.length = 0 then [] else (k, colLen l) :: colsFrom fuel (l.drop (colLen l)) (k + colLen l)
def tot (xs : List (Nat × Nat)) : Nat := (xs.map (·.2)).sum
theorem tot_nil : tot [] = 0 := rfl
theorem tot_cons (x : Nat × Nat) (xs : List (Nat × Nat)) : tot (x :: xs) = x.2 + tot xs := by unfold tot; rw [List.map_cons, List.sum_cons]
theorem tot_snoc (xs : List (Nat × Nat)) (x : Nat × Nat) : tot (xs ++ [x]) = tot xs + x.2 := by unfold tot; rw [List.map_append, List.sum_append_nat]; rfl
theorem takeWhile_le {α : Type} (p : α → Bool) : ∀ l : List α, (l.takeWhile p).length ≤ l.length
  | [] => Nat.le_refl _
  | x :: l => by
    rw [List.takeWhile_cons]
    split
    · have := takeWhile_le p l; simp; omega
    · exact Nat.zero_le _
theorem colLen_pos {l : List Cl} (h : l.length ≠ 0) : 0 < colLen l ∧ colLen l ≤ l.length := by
  match l, h with
  | x :: r, _ =>
    have := takeWhile_le (column x) r
    rw [colLen_cons, List.length_cons]
    omega
theorem cols_at : ∀ (fuel : Nat) (l : List Cl) (k : Nat) (pre : List (Nat × Nat)) (x : Nat × Nat), pre ++ [x] <+: colsFrom fuel l k → x = (k + tot pre, colLen (l.drop (tot pre))) ∧ tot pre < l.length
  | 0, l, k, pre, x, h => by
    obtain ⟨z, hz⟩ := h
    unfold colsFrom at hz
    have := congrArg List.length hz
    simp at this
  | fuel + 1, l, k, pre, x, h => by
    unfold colsFrom at h
    by_cases h0 : l.length = 0
    · rw [if_pos h0] at h
      obtain ⟨z, hz⟩ := h
      have := congrArg List.length hz
      simp at this
    · rw [if_neg h0] at h
      match pre, h with
      | [], h =>
        obtain ⟨z, hz⟩ := h
        rw [List.nil_append, List.cons_append] at hz
        injection hz with h1 _
        exact ⟨by rw [h1, tot_nil]; rfl, by rw [tot_nil]; omega⟩
      | p :: pre, h =>
        obtain ⟨z, hz⟩ := h
        rw [List.cons_append, List.cons_append] at hz
        injection hz with h1 h2
        have ih := cols_at fuel (l.drop (colLen l)) (k + colLen l) pre x ⟨z, h2⟩
        have hc := colLen_pos h0
        rw [List.length_drop, List.drop_drop] at ih
        rw [tot_cons, h1]
        simp only
        refine ⟨?_, by omega⟩
        rw [ih.1, Nat.add_assoc]
theorem cols_all : ∀ (fuel : Nat) (l : List Cl) (k : Nat), l.length ≤ fuel → tot (colsFrom fuel l k) = l.length
  | 0, l, k, h => by unfold colsFrom; rw [tot_nil]; omega
  | fuel + 1, l, k, h => by
    unfold colsFrom
    by_cases h0 : l.length = 0
    · rw [if_pos h0, tot_nil, h0]
    · rw [if_neg h0, tot_cons]
      have hc := colLen_pos h0
      rw [cols_all fuel (l.drop (colLen l)) (k + colLen l) (by rw [List.length_drop]; omega), List.length_drop]
      simp only
      omega
def cols (l : List Cl) : List (Nat × Nat) := colsFrom l.length l 0
/-- the first of one column, m of them are seen -/
def InCol (l : List Cl) (m : Nat) : Prop := 0 < m ∧ m ≤ l.length ∧ ∀ h0 : 0 < l.length, ∀ j (hj : j < l.length), j < m → column (l[0]'h0) l[j] = true
theorem column_self (x : Cl) : column x x = true := column_eq.2 ⟨rfl, rfl⟩
theorem InCol.one {l : List Cl} (h : 0 < l.length) : InCol l 1 := ⟨Nat.one_pos, h, fun h0 j hj hj1 => by
  have : j = 0 := by omega
  subst this
  exact column_self _⟩
theorem InCol.next {l : List Cl} {m : Nat} (h : InCol l m) (h0 : 0 < l.length) (hm : m < l.length) (hc : column (l[0]'h0) l[m] = true) : InCol l (m + 1) := ⟨Nat.succ_pos _, hm, fun _ j hj hjm => by
  by_cases e : j = m
  · subst e; exact hc
  · exact h.2.2 h0 j hj (by omega)⟩
theorem takeWhile_len {α : Type} (p : α → Bool) : ∀ (l : List α) (m : Nat), m ≤ l.length → (∀ j (hj : j < l.length), j < m → p l[j] = true) → (∀ h : m < l.length, p l[m] = false) → (l.takeWhile p).length = m
  | [], m, hm, _, _ => by
    have : m = 0 := by simpa using hm
    rw [this]; rfl
  | x :: l, 0, _, _, h2 => by
    have := h2 (Nat.succ_pos _)
    rw [List.getElem_cons_zero] at this
    rw [List.takeWhile_cons, this]
    rfl
  | x :: l, m + 1, hm, h1, h2 => by
    have h0 := h1 0 (Nat.succ_pos _) (Nat.succ_pos _)
    rw [List.getElem_cons_zero] at h0
    rw [List.takeWhile_cons, h0, if_pos rfl, List.length_cons]
    congr 1
    refine takeWhile_len p l m (by simpa using hm) (fun j hj hjm => ?_) (fun h => ?_)
    · have := h1 (j + 1) (by simpa using hj) (by omega)
      rwa [List.getElem_cons_succ] at this
    · have := h2 (by simpa using h)
      rwa [List.getElem_cons_succ] at this
theorem InCol.done {l : List Cl} {m : Nat} (h : InCol l m) (he : ∀ (h0 : 0 < l.length) (hm : m < l.length), column (l[0]'h0) l[m] = false) : m = colLen l := by
  match l, h, he with
  | [], h, _ => have := h.1; have := h.2.1; simp at this; omega
  | x :: r, ⟨h1, h2, h3⟩, he =>
    obtain ⟨m', rfl⟩ : ∃ m', m = m' + 1 := ⟨m - 1, by omega⟩
    rw [colLen_cons, takeWhile_len (column x) r m' (by simpa using h2) (fun j hj hjm => ?_) (fun hm => ?_)]
    · omega
    · have := h3 (Nat.succ_pos _) (j + 1) (by simpa using hj) (by omega)
      rwa [List.getElem_cons_zero, List.getElem_cons_succ] at this
    · have := he (Nat.succ_pos _) (by simpa using hm)
      rwa [List.getElem_cons_zero, List.getElem_cons_succ] at this
/-- a place where a column begins: all ahead of it is below all behind it, by columns -/
def Cut (A : List Cl) (k : Nat) : Prop := ∀ x ∈ A.take k, ∀ y ∈ A.drop k, colCmp x y < 0
theorem Cut.zero (A : List Cl) : Cut A 0 := fun x hx => by cases hx
theorem takeWhile_get {α : Type} (p : α → Bool) : ∀ (l : List α) (j : Nat) (hj : j < (l.takeWhile p).length) , ∃ h : j < l.length, p l[j] = true
  | [], j, hj => by simp at hj
  | x :: l, j, hj => by
    rw [List.takeWhile_cons] at hj
    split at hj
    · next hx =>
      match j, hj with
      | 0, _ => exact ⟨Nat.succ_pos _, hx⟩
      | j + 1, hj =>
        obtain ⟨h1, h2⟩ := takeWhile_get p l j (by simpa using hj)
        exact ⟨by simpa using h1, by simpa using h2⟩
    · simp at hj
theorem takeWhile_stop {α : Type} (p : α → Bool) : ∀ (l : List α) (h : (l.takeWhile p).length < l.length), p l[(l.takeWhile p).length] = false
  | [], h => by simp at h
  | x :: l, h => by
    cases hx : p x with
    | false => simp [List.takeWhile_cons, hx]
    | true =>
      have ih := takeWhile_stop p l (by simpa [List.takeWhile_cons, hx] using h)
      simpa [List.takeWhile_cons, hx] using ih
theorem colLen_in {l : List Cl} (h0 : 0 < l.length) : ∀ j (hj : j < l.length), j < colLen l → column (l[0]'h0) l[j] = true := by
  match l, h0 with
  | x :: r, _ =>
    intro j hj hjm
    rw [colLen_cons] at hjm
    match j, hj, hjm with
    | 0, _, _ => exact column_self _
    | j + 1, hj, hjm =>
      obtain ⟨_, h2⟩ := takeWhile_get (column x) r j (by omega)
      simpa using h2
theorem colLen_out {l : List Cl} (h0 : 0 < l.length) (h : colLen l < l.length) : column (l[0]'h0) l[colLen l] = false := by
  match l, h0, h with
  | x :: r, _, h =>
    have h' : (r.takeWhile (column x)).length < r.length := by rw [colLen_cons] at h; simp at h; omega
    have := takeWhile_stop (column x) r h'
    have e : colLen (x :: r) = (r.takeWhile (column x)).length + 1 := by rw [colLen_cons]; omega
    simp only [e, List.getElem_cons_zero, List.getElem_cons_succ]
    exact this
/-- the group at a place, and what is behind it -/
theorem Cut.next {A : List Cl} (hA : Strict A) {k : Nat} (h : Cut A k) (hk : k < A.length) : Cut A (k + colLen (A.drop k)) := by
  obtain ⟨l, hl⟩ : ∃ l, A.drop k = l := ⟨_, rfl⟩
  have h0 : 0 < l.length := by rw [← hl, List.length_drop]; omega
  rw [hl]
  intro x hx y hy
  rw [← List.drop_drop, hl] at hy
  rw [List.take_add, hl] at hx
  have hls : Strict l := by rw [← hl]; exact hA.sublist (List.drop_sublist _ _)
  obtain ⟨q, hq, rfl⟩ := List.getElem_of_mem hy
  rw [List.length_drop] at hq
  have hlt : colLen l < l.length := by omega
  have hz := colLen_out h0 hlt
  have z1 : colCmp (l[0]'h0) l[colLen l] < 0 := by
    have a := lt_col (List.pairwise_iff_getElem.1 hls 0 (colLen l) h0 hlt (colLen_pos (by omega)).1)
    by_cases e : colCmp (l[0]'h0) l[colLen l] = 0
    · rw [colCmp_zero.1 e] at hz; cases hz
    · omega
  have z2 : colCmp l[colLen l] (l.drop (colLen l))[q] ≤ 0 := by
    rw [List.getElem_drop]
    rcases Nat.eq_zero_or_pos q with e | e
    · subst e
      exact Int.le_of_eq (colCmp_cmp.self _)
    · exact lt_col (List.pairwise_iff_getElem.1 hls _ _ hlt (by omega) (by omega))
  have z3 := colCmp_cmp.lt_le z1 z2
  rcases List.mem_append.1 hx with hx | hx
  · refine h x hx _ ?_
    rw [hl]
    exact List.mem_of_mem_drop (List.getElem_mem _)
  · obtain ⟨p, hp, rfl⟩ := List.getElem_of_mem hx
    rw [List.length_take] at hp
    rw [List.getElem_take]
    have h1 := colLen_in h0 p (by omega) (by omega)
    have h2 := colCmp_zero.2 h1
    have h3 := colCmp_cmp.anti (l[0]'h0) (l[p]'(by omega))
    exact colCmp_cmp.le_lt (by omega) z3
theorem grp_at {A : List Cl} (hA : Strict A) {k : Nat} : Grp ((A.drop k).take (colLen (A.drop k))) := by
  obtain ⟨l, hl⟩ : ∃ l, A.drop k = l := ⟨_, rfl⟩
  rw [hl]
  have hls : Strict l := by rw [← hl]; exact hA.sublist (List.drop_sublist _ _)
  refine ⟨hls.sublist (List.take_sublist _ _), fun x hx y hy => ?_⟩
  obtain ⟨p, hp, rfl⟩ := List.getElem_of_mem hx
  obtain ⟨q, hq, rfl⟩ := List.getElem_of_mem hy
  rw [List.length_take] at hp hq
  rw [List.getElem_take, List.getElem_take]
  have h0 : 0 < l.length := by omega
  have h1 := column_eq.1 (colLen_in h0 p (by omega) (by omega))
  have h2 := column_eq.1 (colLen_in h0 q (by omega) (by omega))
  exact column_eq.2 ⟨h1.1.symm.trans h2.1, h1.2.symm.trans h2.2⟩
/-- one that stands in the group is of a column with those of the group alone -/
theorem grp_any {A : List Cl} (hA : Strict A) {k : Nat} (h : Cut A k) (hk : k < A.length) {c : Cl} (hc : c ∈ (A.drop k).take (colLen (A.drop k))) (p : Cl → Bool) : (A.any fun x => column x c && p x) = (((A.drop k).take (colLen (A.drop k))).any fun x => column x c && p x) := by
  have h2 := h.next hA hk
  rw [Bool.eq_iff_iff, List.any_eq_true, List.any_eq_true]
  constructor
  · rintro ⟨x, hx, hp⟩
    refine ⟨x, ?_, hp⟩
    rw [Bool.and_eq_true] at hp
    have hz := colCmp_zero.2 hp.1
    have e1 : A = A.take k ++ ((A.drop k).take (colLen (A.drop k)) ++ A.drop (k + colLen (A.drop k))) := by
      rw [← List.drop_drop, List.take_append_drop, List.take_append_drop]
    rw [e1] at hx
    rcases List.mem_append.1 hx with hx | hx
    · have := h x hx c (List.mem_of_mem_take hc)
      omega
    · rcases List.mem_append.1 hx with hx | hx
      · exact hx
      · have := h2 c (by rw [List.take_add]; exact List.mem_append_right _ hc) x hx
        have h3 := colCmp_cmp.anti x c
        omega
  · rintro ⟨x, hx, hp⟩
    exact ⟨x, List.mem_of_mem_drop (List.mem_of_mem_take hx), hp⟩
/-- a filter by what is of one column, group by group -/
theorem filter_grp {A : List Cl} {k m : Nat} (P : Cl → Bool) : (A.take (k + m)).filter P = (A.take k).filter P ++ ((A.drop k).take m).filter P := by
  rw [List.take_add, List.filter_append]
theorem seen_grp {A : List Cl} (hA : Strict A) {k : Nat} (h : Cut A k) (hk : k < A.length) {c : Cl} (hc : c ∈ (A.drop k).take (colLen (A.drop k))) : seen A c = seen ((A.drop k).take (colLen (A.drop k))) c := by
  unfold seen hidIn
  rw [grp_any hA h hk hc fun x => hides x c]
end Go.Proofs.Ytoligmmjmghgnaa
