/-
  What a table of cells in order answers. Plain, no walk.
-/
import Derived.Test.YtijicefakfpdcaaTreePlain
namespace Go.Proofs.Ytijicefakfpdcaa
open Go.RowKit

theorem cmp_row {x y : Cl} (h : x.cmp y < 0) : lt y.row x.row = false := by
  rw [Cl.cmp_eq] at h
  split at h
  · next e => rw [txt_eq.1 e]; exact lt_irrefl _
  · unfold txt at h
    split at h
    · next e => exact lt_asymm e
    · split at h
      · omega
      · omega
theorem le_trans' {a b c : ByteArray} (h : lt b a = false) (k : lt c b = false) : lt c a = false := by
  cases e : lt c a with
  | false => rfl
  | true =>
    cases e2 : lt a b with
    | true => have := lt_trans e e2; rw [k] at this; cases this
    | false => have := lt_total e2 h; subst this; rw [k] at e; cases e

/-- the cells of a tree that are seen by a look at their rows: whether what is lower, the cell itself, what is higher is to be seen -/
def Tr.seen (lo he hi : ByteArray → Bool) : Tr → List Cl
  | .leaf => []
  | .node _ _ l c r => (if lo c.row then l.seen lo he hi else []) ++ ((if he c.row then [c] else []) ++ (if hi c.row then r.seen lo he hi else []))
theorem Tr.seen_eq {lo he hi : ByteArray → Bool} (h1 : ∀ s s', lo s = false → lt s s' = false → he s' = false) (h2 : ∀ s s', hi s = false → lt s' s = false → he s' = false) :
    ∀ t : Tr, Up t.cells → t.seen lo he hi = t.cells.filter fun c => he c.row
  | .leaf, _ => rfl
  | .node b lv l c r, hu => by
    have hp := List.pairwise_append.1 hu
    have hr := List.pairwise_cons.1 hp.2.1
    have il := seen_eq h1 h2 l hp.1
    have ir := seen_eq h1 h2 r hr.2
    have el : lo c.row = false → l.cells.filter (fun c => he c.row) = [] := fun h => by
      refine List.filter_eq_nil_iff.2 fun x hx => ?_
      rw [h1 c.row x.row h (cmp_row (hp.2.2 x hx c (by simp)))]; simp
    have er : hi c.row = false → r.cells.filter (fun c => he c.row) = [] := fun h => by
      refine List.filter_eq_nil_iff.2 fun x hx => ?_
      rw [h2 c.row x.row h (cmp_row (hr.1 x hx))]; simp
    show (if lo c.row then l.seen lo he hi else []) ++ ((if he c.row then [c] else []) ++ (if hi c.row then r.seen lo he hi else [])) = (l.cells ++ c :: r.cells).filter fun c => he c.row
    rw [List.filter_append, List.filter_cons, il, ir]
    cases hlo : lo c.row <;> cases hhi : hi c.row <;> cases hhe : he c.row <;> simp [*]

theorem filter_two {α : Type} (p q r : α → Bool) : ∀ l : List α, (∀ x ∈ l, q x = (p x || r x)) → (∀ x ∈ l, p x = true → r x = false) → l.Pairwise (fun x y => r x = true → p y = false) → l.filter q = l.filter p ++ l.filter r
  | [], _, _, _ => rfl
  | x :: l, h, hd, hs => by
    have ih := filter_two p q r l (fun y hy => h y (by simp [hy])) (fun y hy => hd y (by simp [hy])) (List.pairwise_cons.1 hs).2
    have hx := h x (by simp)
    cases hp : p x with
    | true =>
      have hr := hd x (by simp) hp
      simp [List.filter_cons, hx, hp, hr, ih]
    | false =>
      cases hr : r x with
      | false => simp [List.filter_cons, hx, hp, hr, ih]
      | true =>
        have e : l.filter p = [] := List.filter_eq_nil_iff.2 fun y hy => by rw [(List.pairwise_cons.1 hs).1 y hy hr]; simp
        simp [List.filter_cons, hx, hp, hr, ih, e]

/-- the cells from one row to ahead of another one; of a row -/
def spanned (f t : ByteArray) (s : ByteArray) : Bool := !lt s f && (decide (t.toList = []) || lt s t)
def span (l : List Cl) (f t : ByteArray) : List Cl := l.filter fun c => spanned f t c.row
def rowed (l : List Cl) (row : ByteArray) : List Cl := l.filter fun c => decide (c.row = row)

theorem lt_nil {s e : ByteArray} (h : e.toList = []) : lt s e = false := by
  unfold lt
  rw [h]
  cases s.toList <;> rfl
theorem less_snoc : ∀ a s : List UInt8, Op.bytesLess s a = false → Op.bytesLess s (a ++ [0]) = true → s = a
  | [], [], _, _ => rfl
  | [], x :: s, _, h => by
    simp only [List.nil_append, Op.bytesLess, Bool.or_eq_true, Bool.and_eq_true, decide_eq_true_eq] at h
    rcases h with h | ⟨_, h⟩
    · rw [UInt8.lt_iff_toNat_lt] at h; simp at h
    · cases s <;> simp [Op.bytesLess] at h
  | y :: a, [], h, _ => by simp [Op.bytesLess] at h
  | y :: a, x :: s, h, k => by
    simp only [List.cons_append, Op.bytesLess, Bool.or_eq_true, Bool.and_eq_true, decide_eq_true_eq, beq_iff_eq, Bool.or_eq_false_iff, decide_eq_false_iff_not, Bool.and_eq_false_iff, beq_eq_false_iff_ne] at h k
    rcases k with k | ⟨e, k⟩
    · exact absurd k h.1
    · subst e
      rw [less_snoc a s (h.2.resolve_left (by simp)) k]
theorem less_self_snoc : ∀ a : List UInt8, Op.bytesLess a (a ++ [0]) = true
  | [] => rfl
  | x :: a => by simp [Op.bytesLess, less_self_snoc a]
theorem span_row {at_ z : ByteArray} (hz : z.toList = at_.toList ++ [0]) (l : List Cl) : rowed l at_ = span l at_ z := by
  unfold rowed span
  congr 1
  funext c
  have hne : decide (z.toList = []) = false := decide_eq_false (by rw [hz]; simp)
  unfold spanned
  rw [hne, Bool.false_or]
  by_cases h : c.row = at_
  · rw [h, decide_eq_true rfl, lt_irrefl]
    unfold lt
    rw [hz, less_self_snoc]
    rfl
  · rw [decide_eq_false h]
    cases h1 : lt c.row at_ with
    | true => rfl
    | false =>
      cases h2 : lt c.row z with
      | false => rfl
      | true =>
        unfold lt at h1 h2
        rw [hz] at h2
        exact absurd (toList_inj (less_snoc _ _ h1 h2)) h
theorem up_rows {l : List Cl} (hu : Up l) : l.Pairwise fun a b => lt b.row a.row = false := hu.imp fun h => cmp_row h
theorem span_parts {at_ e : ByteArray} (he : e.toList = []) (ha : at_.toList ≠ []) {l : List Cl} (hu : Up l) : span l e at_ ++ span l at_ e = l := by
  unfold span
  have := filter_two (fun c : Cl => spanned e at_ c.row) (fun _ => true) (fun c => spanned at_ e c.row) l (fun x _ => by
      unfold spanned
      rw [lt_nil he, decide_eq_true he, decide_eq_false ha]
      cases lt x.row at_ <;> rfl) (fun x _ h => by
      unfold spanned at h ⊢
      rw [lt_nil he, decide_eq_false ha] at h
      rw [decide_eq_true he]
      cases k : lt x.row at_ with
      | true => rfl
      | false => rw [k] at h; cases h) ((up_rows hu).imp fun {a b} h k => by
      unfold spanned at k ⊢
      rw [decide_eq_true he] at k
      rw [lt_nil he, decide_eq_false ha]
      cases h1 : lt a.row at_ with
      | true => rw [h1] at k; cases k
      | false => rw [le_trans' h1 h]; rfl)
  rw [← this]
  exact List.filter_eq_self.2 fun _ _ => rfl
theorem span_all {e : ByteArray} (he : e.toList = []) (l : List Cl) : span l e e = l := by
  unfold span
  refine List.filter_eq_self.2 fun c _ => ?_
  unfold spanned
  rw [lt_nil he, decide_eq_true he]
  rfl

/-- the rows up to one of them -/
def upto (l : List Cl) (s : ByteArray) : List Cl := l.filter fun c => !lt s c.row
theorem upto_same (l : List Cl) {s s' : ByteArray} (h : s = s') : upto l s = upto l s' := by rw [h]
theorem upto_next {l : List Cl} (hu : Up l) {i : Nat} (hi : i + 1 < l.length) (hne : l[i].row ≠ l[i + 1].row) : upto l l[i + 1].row = upto l l[i].row ++ rowed l l[i + 1].row := by
  have hp := List.pairwise_iff_getElem.1 (up_rows hu)
  have hs : lt l[i].row l[i + 1].row = true := by
    cases h : lt l[i].row l[i + 1].row with
    | true => rfl
    | false => exact absurd (lt_total h (hp i (i + 1) (by omega) hi (by omega))) hne
  refine filter_two _ _ _ l (fun x hx => ?_) (fun x hx h => ?_) ?_
  · obtain ⟨j, hj, rfl⟩ := List.getElem_of_mem hx
    rcases Nat.lt_or_ge i j with h | h
    · have hge : lt l[j].row l[i + 1].row = false := by
        rcases Nat.lt_or_ge (i + 1) j with h2 | h2
        · exact hp (i + 1) j hi hj h2
        · have : j = i + 1 := by omega
          subst this
          exact lt_irrefl _
      have h1 : lt l[i].row l[j].row = true := by
        cases k : lt l[i].row l[j].row with
        | true => rfl
        | false =>
          have := le_trans' hge k
          rw [hs] at this; cases this
      rw [h1]
      show (!lt l[i + 1].row l[j].row) = decide (l[j].row = l[i + 1].row)
      cases k : lt l[i + 1].row l[j].row with
      | true => rw [decide_eq_false (fun e => by rw [e, lt_irrefl] at k; cases k)]; rfl
      | false => rw [decide_eq_true (lt_total hge k)]; rfl
    · have h1 : lt l[i].row l[j].row = false := by
        rcases Nat.lt_or_ge j i with h2 | h2
        · exact hp j i hj (by omega) h2
        · have : j = i := by omega
          subst this
          exact lt_irrefl _
      have h2 : lt l[i + 1].row l[j].row = false := by
        cases k : lt l[i + 1].row l[j].row with
        | false => rfl
        | true => have := lt_trans hs k; rw [h1] at this; cases this
      rw [h1, h2]
      rfl
  · refine decide_eq_false fun e => ?_
    rw [e, hs] at h
    cases h
  · refine (up_rows hu).imp fun {a b} h k => ?_
    have e := of_decide_eq_true k
    rw [e] at h
    cases k2 : lt l[i].row b.row with
    | true => rfl
    | false =>
      have := le_trans' h k2
      rw [hs] at this
      cases this
theorem upto_first {l : List Cl} (hu : Up l) (h : 0 < l.length) : upto l l[0].row = rowed l l[0].row := by
  have hp := List.pairwise_iff_getElem.1 (up_rows hu)
  unfold upto rowed
  refine List.filter_congr fun x hx => ?_
  obtain ⟨j, hj, rfl⟩ := List.getElem_of_mem hx
  have hge : lt l[j].row l[0].row = false := by
    rcases Nat.eq_zero_or_pos j with h2 | h2
    · subst h2; exact lt_irrefl _
    · exact hp 0 j h hj h2
  cases k : lt l[0].row l[j].row with
  | true => rw [decide_eq_false (fun e => by rw [e, lt_irrefl] at k; cases k)]; rfl
  | false => rw [decide_eq_true (lt_total hge k)]; rfl
theorem upto_last {l : List Cl} (hu : Up l) {i : Nat} (hi : i < l.length) (he : l.length ≤ i + 1) : upto l l[i].row = l := by
  have hp := List.pairwise_iff_getElem.1 (up_rows hu)
  unfold upto
  refine List.filter_eq_self.2 fun x hx => ?_
  obtain ⟨j, hj, rfl⟩ := List.getElem_of_mem hx
  have : lt l[i].row l[j].row = false := by
    rcases Nat.lt_or_ge j i with h2 | h2
    · exact hp j i hj hi h2
    · have : j = i := by omega
      subst this
      exact lt_irrefl _
  rw [this]
  rfl

/-- two lists in order with the same cells are one -/
theorem up_unique : ∀ {l m : List Cl}, Up l → Up m → (∀ x, x ∈ l ↔ x ∈ m) → l = m
  | [], [], _, _, _ => rfl
  | [], y :: m, _, _, h => by have := (h y).2 (by simp); cases this
  | x :: l, [], _, _, h => by have := (h x).1 (by simp); cases this
  | x :: l, y :: m, hl, hm, h => by
    have hl' := List.pairwise_cons.1 hl
    have hm' := List.pairwise_cons.1 hm
    have e : x = y := by
      rcases List.mem_cons.1 ((h x).1 (by simp)) with e | h1
      · exact e
      · rcases List.mem_cons.1 ((h y).2 (by simp)) with e | h2
        · exact e.symm
        · have a := hm'.1 x h1
          have b := hl'.1 y h2
          have := cmp_flip x y
          omega
    subst e
    rw [up_unique hl'.2 hm'.2 fun z => ?_]
    constructor
    · intro hz
      rcases List.mem_cons.1 ((h z).1 (by simp [hz])) with e | h1
      · subst e
        have := hl'.1 z hz
        rw [cl_cmp.self] at this
        omega
      · exact h1
    · intro hz
      rcases List.mem_cons.1 ((h z).2 (by simp [hz])) with e | h1
      · subst e
        have := hm'.1 z hz
        rw [cl_cmp.self] at this
        omega
      · exact h1
end Go.Proofs.Ytijicefakfpdcaa
