/-
  What is read of cells, plain: each coordinate once, in order; what is hidden; what is kept. No program in sight.
-/
import Derived.Test.YtoligmmjmghgnaaCompactPlainC
import Derived.Test.YtoligmmjmghgnaaInsertCell
namespace Go.Proofs.Ytoligmmjmghgnaa
open Go.RowKit

section
variable {α : Type} {lt : α → α → Bool}
/-- strictly rising, and of each class the first one -/
def Once (lt : α → α → Bool) (l A : List α) : Prop := A.Pairwise (fun a b => lt a b = true) ∧ ∀ c, A.filter (eqv lt c) = (l.filter (eqv lt c)).take 1
theorem strict_srt (hw : Weak lt) {A : List α} (h : A.Pairwise fun a b => lt a b = true) : Srt lt A := h.imp fun h => hw.asymm _ _ h
theorem Once.unique (hw : Weak lt) {l A B : List α} (h : Once lt l A) (k : Once lt l B) : A = B :=
  Srt.unique hw (strict_srt hw h.1) (strict_srt hw k.1) fun c => (k.2 c).trans (h.2 c).symm
/-- of a strictly rising list each class has one at most -/
theorem strict_class (hw : Weak lt) : ∀ {A : List α} (c : α), A.Pairwise (fun a b => lt a b = true) → (A.filter (eqv lt c)).length ≤ 1
  | [], _, _ => Nat.zero_le _
  | x :: A, c, h => by
    obtain ⟨h1, h2⟩ := List.pairwise_cons.1 h
    rw [List.filter_cons]
    split
    · next hx =>
      have : A.filter (eqv lt c) = [] := List.filter_eq_nil_iff.2 fun y hy => by rw [hw.eqv_lt hx (h1 y hy)]; exact Bool.false_ne_true
      rw [this]
      exact Nat.le_refl _
    · exact strict_class hw c h2
theorem Once.self (hw : Weak lt) {A : List α} (h : A.Pairwise fun a b => lt a b = true) : Once lt A A :=
  ⟨h, fun c => (List.take_of_length_le (strict_class hw c h)).symm⟩
theorem Once.mem (hw : Weak lt) {l A : List α} (h : Once lt l A) {x : α} (hx : x ∈ A) : x ∈ l := by
  have h1 : x ∈ A.filter (eqv lt x) := List.mem_filter.2 ⟨hx, hw.eqv_self x⟩
  rw [h.2 x] at h1
  exact (List.mem_filter.1 (List.mem_of_mem_take h1)).1
theorem Once.has (hw : Weak lt) {l A : List α} (h : Once lt l A) {x : α} (hx : x ∈ l) : ∃ y ∈ A, eqv lt x y = true := by
  have h1 : x ∈ l.filter (eqv lt x) := List.mem_filter.2 ⟨hx, hw.eqv_self x⟩
  cases hl : l.filter (eqv lt x) with
  | nil => rw [hl] at h1; cases h1
  | cons y r =>
    have h2 := h.2 x
    rw [hl] at h2
    have h3 : y ∈ A.filter (eqv lt x) := by rw [h2]; exact List.mem_cons_self
    exact ⟨y, (List.mem_filter.1 h3).1, (List.mem_filter.1 h3).2⟩
theorem eqv_trans (hw : Weak lt) {a b c : α} (h : eqv lt a b = true) (k : eqv lt b c = true) : eqv lt a c = true := by
  unfold eqv at *
  simp only [Bool.and_eq_true, Bool.not_eq_true'] at *
  exact ⟨hw.trans c b a k.1 h.1, hw.trans a b c h.2 k.2⟩
theorem eqv_symm {a b : α} (h : eqv lt a b = true) : eqv lt b a = true := by
  unfold eqv at *
  rw [Bool.and_comm]
  exact h
theorem eqv_iff (hw : Weak lt) {c x y : α} (h : eqv lt x y = true) : eqv lt c x = eqv lt c y := by
  cases h1 : eqv lt c x with
  | true => exact (eqv_trans hw h1 h).symm
  | false =>
    cases h2 : eqv lt c y with
    | false => rfl
    | true => rw [eqv_trans hw h2 (eqv_symm h)] at h1; cases h1
theorem compactGo_once (hw : Weak lt) : ∀ (r : List α) (p : α), Srt lt (p :: r) →
    (compactGo (eqv lt) p r).Pairwise (fun a b => lt a b = true) ∧ (∀ y ∈ compactGo (eqv lt) p r, lt p y = true) ∧ ∀ c, (compactGo (eqv lt) p r).filter (eqv lt c) = if eqv lt c p then [] else (r.filter (eqv lt c)).take 1
  | [], p, _ => ⟨List.Pairwise.nil, fun y hy => (by cases hy), fun c => by unfold compactGo; simp⟩
  | y :: r, p, h => by
    obtain ⟨h1, h2⟩ := List.pairwise_cons.1 h
    obtain ⟨i1, i2, i3⟩ := compactGo_once hw r y h2
    have hyp := h1 y List.mem_cons_self
    unfold compactGo
    cases he : eqv lt y p with
    | true =>
      rw [if_pos rfl]
      have hpy : lt p y = false := by
        unfold eqv at he
        simp only [Bool.and_eq_true, Bool.not_eq_true'] at he
        exact he.2
      refine ⟨i1, fun z hz => hw.le_lt hyp (i2 z hz), fun c => ?_⟩
      rw [i3 c, eqv_iff hw he]
      cases hc : eqv lt c p with
      | true => rfl
      | false =>
        rw [List.filter_cons, eqv_iff hw he, hc]
        rfl
    | false =>
      have hpy : lt p y = true := by
        unfold eqv at he
        rw [hyp] at he
        simpa using he
      rw [if_neg Bool.false_ne_true]
      refine ⟨List.pairwise_cons.2 ⟨i2, i1⟩, fun z hz => ?_, fun c => ?_⟩
      · rcases List.mem_cons.1 hz with rfl | hz
        · exact hpy
        · exact hw.lt_trans hpy (i2 z hz)
      · rw [List.filter_cons, i3 c]
        cases hc : eqv lt c p with
        | true =>
          have hcy := hw.eqv_lt hc hpy
          rw [hcy, if_neg Bool.false_ne_true, if_neg Bool.false_ne_true, if_pos rfl]
          have : r.filter (eqv lt c) = [] := List.filter_eq_nil_iff.2 fun z hz => by
            have hz2 := (List.pairwise_cons.1 h2).1 z hz
            rw [hw.eqv_lt hc (hw.lt_le hpy hz2)]
            exact Bool.false_ne_true
          rw [this]
          rfl
        | false =>
          rw [if_neg Bool.false_ne_true, List.filter_cons]
          cases hcy : eqv lt c y with
          | true => simp
          | false => simp
theorem compact_once (hw : Weak lt) {l m : List α} (h : SS lt l m) : Once lt l (compactF (eqv lt) m) := by
  obtain ⟨h1, h2, _⟩ := h
  cases m with
  | nil =>
    refine ⟨List.Pairwise.nil, fun c => ?_⟩
    rw [← h2 c]
    rfl
  | cons x m =>
    obtain ⟨i1, i2, i3⟩ := compactGo_once hw m x h1
    refine ⟨List.pairwise_cons.2 ⟨i2, i1⟩, fun c => ?_⟩
    rw [← h2 c]
    show (x :: compactGo (eqv lt) x m).filter (eqv lt c) = _
    rw [List.filter_cons, List.filter_cons, i3 c]
    cases hc : eqv lt c x with
    | true => simp
    | false => simp
theorem once_nil (lt : α → α → Bool) : Once lt [] [] := ⟨List.Pairwise.nil, fun _ => rfl⟩
end

theorem cl_weak : Weak Cl.lt := cl_cmp.weak
/-- of one row and column -/
def column (a b : Cl) : Bool := decide (a.row = b.row) && decide (a.col = b.col)
def hides (x c : Cl) : Bool := decide (c.seq < x.seq) && (decide (x.ts = c.ts) || x.del && decide (c.ts ≤ x.ts))
def covers (x c : Cl) : Bool := hides x c && (x.del || !c.del)
def hidIn (A : List Cl) (c : Cl) : Bool := A.any fun x => column x c && hides x c
def seen (A : List Cl) (c : Cl) : Bool := !c.del && !hidIn A c
def inR (fr to r : ByteArray) : Bool := !lt r fr && (decide (to.size = 0) || lt r to)
def scanP (A : List Cl) (fr to : ByteArray) : List Cl := A.filter fun c => inR fr to c.row && seen A c
def coveredIn (A : List Cl) (fl : Nat) (c : Cl) : Bool := A.any fun x => column x c && (decide (x.seq ≤ fl) && covers x c)
def keptP (A : List Cl) (fl : Nat) : List Cl := A.filter fun c => !coveredIn A fl c
def useless (K : List Cl) (fl : Nat) (c : Cl) : Bool := c.del && decide (c.seq ≤ fl) && !K.any fun x => column x c && hides c x
def keepP (A : List Cl) (fl : Nat) (last : Bool) : List Cl := (keptP A fl).filter fun c => !last || !useless (keptP A fl) fl c
abbrev Strict (A : List Cl) : Prop := A.Pairwise fun a b => Cl.lt a b = true
theorem column_eq {a b : Cl} : column a b = true ↔ a.row = b.row ∧ a.col = b.col := by unfold column; simp
theorem column_symm (a b : Cl) : column a b = column b a := by
  rw [Bool.eq_iff_iff, column_eq, column_eq]
  exact ⟨fun h => ⟨h.1.symm, h.2.symm⟩, fun h => ⟨h.1.symm, h.2.symm⟩⟩
/-- the order of columns -/
def colCmp (a b : Cl) : Int := if txt a.row b.row = 0 then txt a.col b.col else txt a.row b.row
theorem colCmp_cmp : IsCmp colCmp := (txt_cmp.comap Cl.row).lex (txt_cmp.comap Cl.col)
theorem colCmp_zero {a b : Cl} : colCmp a b = 0 ↔ column a b = true := by
  rw [column_eq]
  unfold colCmp
  by_cases h : txt a.row b.row = 0
  · rw [if_pos h]
    exact ⟨fun k => ⟨txt_eq.1 h, txt_eq.1 k⟩, fun k => txt_eq.2 k.2⟩
  · rw [if_neg h]
    exact ⟨fun k => absurd k h, fun k => absurd (txt_eq.2 k.1) h⟩
theorem Cl.cmp_col (a b : Cl) : a.cmp b = if colCmp a b = 0 then (if num b.ts a.ts = 0 then num b.seq a.seq else num b.ts a.ts) else colCmp a b := by
  rw [Cl.cmp_eq]
  unfold colCmp
  by_cases h : txt a.row b.row = 0
  · rw [if_pos h, if_pos h]
  · rw [if_neg h, if_neg h, if_neg h]
theorem lt_col {a b : Cl} (h : Cl.lt a b = true) : colCmp a b ≤ 0 := by
  have h := of_decide_eq_true h
  rw [Cl.cmp_col] at h
  split at h
  · omega
  · omega
theorem col_lt {a b : Cl} (h : colCmp a b < 0) : Cl.lt a b = true := by
  apply decide_eq_true
  rw [Cl.cmp_col, if_neg (by omega)]
  exact h
/-- of one column: later times stand ahead, and of one time greater sequences -/
theorem lt_same {a b : Cl} (h : Cl.lt a b = true) (hc : column a b = true) : b.ts < a.ts ∨ a.ts = b.ts ∧ b.seq < a.seq := by
  have h := of_decide_eq_true h
  rw [Cl.cmp_col, if_pos (colCmp_zero.2 hc)] at h
  by_cases h1 : b.ts < a.ts
  · exact .inl h1
  · by_cases h2 : a.ts < b.ts
    · have e : num b.ts a.ts = 1 := by unfold num; rw [if_neg h1, if_pos h2]
      rw [e] at h
      simp at h
    · have e : num b.ts a.ts = 0 := by unfold num; rw [if_neg h1, if_neg h2]
      rw [if_pos e] at h
      refine .inr ⟨by omega, ?_⟩
      by_cases h3 : b.seq < a.seq
      · exact h3
      · by_cases h4 : a.seq < b.seq
        · have e : num b.seq a.seq = 1 := by unfold num; rw [if_neg h3, if_pos h4]
          rw [e] at h
          simp at h
        · have e : num b.seq a.seq = 0 := by unfold num; rw [if_neg h3, if_neg h4]
          rw [e] at h
          simp at h
theorem hides_of_same {a b : Cl} (h : Cl.lt a b = true) (hc : column a b = true) (ht : a.ts = b.ts) : hides a b = true := by
  rcases lt_same h hc with h | h
  · omega
  · unfold hides
    rw [decide_eq_true h.2, decide_eq_true ht]
    rfl
theorem lt_eqv_same {a b : Cl} (h : eqv Cl.lt a b = true) : a.row = b.row ∧ a.col = b.col ∧ a.ts = b.ts ∧ a.seq = b.seq := by
  unfold eqv at h
  simp only [Bool.and_eq_true, Bool.not_eq_true'] at h
  have h1 := of_decide_eq_false h.1
  have h2 := of_decide_eq_false h.2
  have h3 := cl_cmp.anti a b
  exact Cl.cmp_same (by omega)
theorem eqv_of_same {a b : Cl} (h1 : a.row = b.row) (h2 : a.col = b.col) (h3 : a.ts = b.ts) (h4 : a.seq = b.seq) : eqv Cl.lt a b = true := by
  have e : a.cmp b = 0 := by rw [Cl.cmp_eq, h1, h2, h3, h4, txt_self, txt_self]; simp [num]
  have e2 := cl_cmp.anti a b
  unfold eqv Cl.lt
  rw [decide_eq_false (by omega), decide_eq_false (by omega)]
  rfl

/-- ViewOne's: what is read stands in order, each coordinate once -/
theorem scan_strict {A : List Cl} (h : Strict A) (fr to : ByteArray) : Strict (scanP A fr to) := h.sublist List.filter_sublist
theorem scan_mem {A : List Cl} {fr to : ByteArray} {c : Cl} : c ∈ scanP A fr to ↔ c ∈ A ∧ inR fr to c.row = true ∧ seen A c = true := by
  unfold scanP
  rw [List.mem_filter, Bool.and_eq_true]
theorem scan_apart {A : List Cl} (h : Strict A) {fr to : ByteArray} {a b : Cl} (ha : a ∈ scanP A fr to) (hb : b ∈ scanP A fr to) (hl : Cl.lt a b = true) : ¬ (a.row = b.row ∧ a.col = b.col ∧ a.ts = b.ts) := by
  rintro ⟨h1, h2, h3⟩
  have hc := column_eq.2 ⟨h1, h2⟩
  have hh := hides_of_same hl hc h3
  have hs := (scan_mem.1 hb).2.2
  unfold seen at hs
  rw [Bool.and_eq_true, Bool.not_eq_true', Bool.not_eq_true'] at hs
  have := List.any_eq_false.1 hs.2 a (scan_mem.1 ha).1
  rw [hc, hh] at this
  exact this rfl
/-- ViewSpans' -/
theorem inR_all (r : ByteArray) (he : ByteArray) (h : he.size = 0) : inR he he r = true := by
  unfold inR
  rw [decide_eq_true h]
  have : lt r he = false := by
    have e : he.toList = [] := by
      rw [ByteArray.toList_eq]
      exact Array.toList_eq_nil_iff.2 (Array.eq_empty_of_size_eq_zero h)
    unfold Go.Proofs.Ytoligmmjmghgnaa.lt
    rw [e]
    cases r.toList <;> rfl
  rw [this]
  rfl
theorem scan_span (A : List Cl) (fr to he : ByteArray) (h : he.size = 0) : scanP A fr to = (scanP A he he).filter fun c => inR fr to c.row := by
  unfold scanP
  rw [List.filter_filter]
  congr 1
  funext c
  rw [inR_all _ _ h, Bool.true_and]
/-- ViewGoes': a cell that is gone, of a greater sequence, put in -/
theorem goes_all {l A B : List Cl} {d : Cl} (hA : Once Cl.lt l A) (hB : Once Cl.lt (l ++ [d]) B) (hd : ∀ x ∈ l, eqv Cl.lt x d = false) : B.filter (fun c => !eqv Cl.lt d c) = A ∧ d ∈ B := by
  have hdl : l.filter (eqv Cl.lt d) = [] := List.filter_eq_nil_iff.2 fun x hx => by
    cases h : eqv Cl.lt d x with
    | false => exact Bool.false_ne_true
    | true => have := hd x hx; rw [eqv_symm h] at this; cases this
  constructor
  · refine Once.unique cl_weak ⟨hB.1.sublist List.filter_sublist, fun c => ?_⟩ hA
    rw [List.filter_filter]
    cases hc : eqv Cl.lt c d with
    | true =>
      have e1 : B.filter (fun a => eqv Cl.lt c a && !eqv Cl.lt d a) = [] := List.filter_eq_nil_iff.2 fun x _ => by
        cases h : eqv Cl.lt c x with
        | false => exact Bool.false_ne_true
        | true => rw [eqv_trans cl_weak (eqv_symm hc) h]; exact Bool.false_ne_true
      have e2 : l.filter (eqv Cl.lt c) = [] := List.filter_eq_nil_iff.2 fun x hx => by
        cases h : eqv Cl.lt c x with
        | false => exact Bool.false_ne_true
        | true =>
          have := hd x hx
          rw [eqv_trans cl_weak (eqv_symm h) hc] at this
          cases this
      rw [e1, e2]
      rfl
    | false =>
      have e1 : B.filter (fun a => eqv Cl.lt c a && !eqv Cl.lt d a) = B.filter (eqv Cl.lt c) := by
        apply List.filter_congr
        intro x _
        cases h : eqv Cl.lt c x with
        | false => rfl
        | true =>
          cases k : eqv Cl.lt d x with
          | false => rfl
          | true => rw [eqv_trans cl_weak h (eqv_symm k)] at hc; cases hc
      rw [e1, hB.2 c, List.filter_append]
      have : [d].filter (eqv Cl.lt c) = [] := by rw [List.filter_cons, hc]; rfl
      rw [this, List.append_nil]
  · have h1 := hB.2 d
    rw [List.filter_append, hdl, List.nil_append] at h1
    have : d ∈ B.filter (eqv Cl.lt d) := by
      rw [h1, List.filter_cons, cl_weak.eqv_self]
      exact List.mem_cons_self
    exact (List.mem_filter.1 this).1
theorem goes_scan {l A B : List Cl} {d : Cl} (he : ByteArray) (h0 : he.size = 0) (hA : Once Cl.lt l A) (hB : Once Cl.lt (l ++ [d]) B) (hs : ∀ x ∈ l, x.seq < d.seq) (hd : d.del = true) :
    scanP B he he = (scanP A he he).filter fun c => !(column d c && decide (c.ts ≤ d.ts)) := by
  have hne : ∀ x ∈ l, eqv Cl.lt x d = false := fun x hx => by
    cases h : eqv Cl.lt x d with
    | false => rfl
    | true => have := (lt_eqv_same h).2.2.2; have := hs x hx; omega
  obtain ⟨h1, h2⟩ := goes_all hA hB hne
  have hBA : ∀ x, x ∈ B ↔ x ∈ A ∨ x = d := fun x => by
    rw [← h1, List.mem_filter]
    constructor
    · intro hx
      cases hc : eqv Cl.lt d x with
      | false => exact .inl ⟨hx, by rfl⟩
      | true =>
        right
        -- both of d's class in B
        have hl := strict_class cl_weak d hB.1
        have m1 : x ∈ B.filter (eqv Cl.lt d) := List.mem_filter.2 ⟨hx, hc⟩
        have m2 : d ∈ B.filter (eqv Cl.lt d) := List.mem_filter.2 ⟨h2, cl_weak.eqv_self d⟩
        match hq : B.filter (eqv Cl.lt d), hl, m1, m2 with
        | [y], _, m1, m2 => rw [List.mem_singleton.1 m1, List.mem_singleton.1 m2]
    · rintro (⟨hx, _⟩ | rfl)
      · exact hx
      · exact h2
  have hAl : ∀ x ∈ A, x ∈ l := fun x hx => hA.mem cl_weak hx
  have key : ∀ c ∈ A, hidIn B c = (hidIn A c || (column d c && decide (c.ts ≤ d.ts))) := fun c hc => by
    have hcs := hs c (hAl c hc)
    have hh : hides d c = decide (c.ts ≤ d.ts) := by
      unfold hides
      rw [decide_eq_true hcs, hd]
      by_cases h : d.ts = c.ts
      · rw [decide_eq_true h, decide_eq_true (show c.ts ≤ d.ts by omega)]; rfl
      · rw [decide_eq_false h]; rfl
    rw [Bool.eq_iff_iff, Bool.or_eq_true]
    unfold hidIn
    rw [List.any_eq_true, List.any_eq_true]
    constructor
    · rintro ⟨x, hx, hp⟩
      rcases (hBA x).1 hx with hx | rfl
      · exact .inl ⟨x, hx, hp⟩
      · right; rw [← hh]; exact hp
    · rintro (⟨x, hx, hp⟩ | hp)
      · exact ⟨x, (hBA x).2 (.inl hx), hp⟩
      · exact ⟨d, h2, by rw [hh]; exact hp⟩
  unfold scanP
  rw [List.filter_filter]
  rw [← h1, List.filter_filter, h1]
  have hcongr : B.filter (fun c => inR he he c.row && seen B c) = B.filter (fun c => (!(column d c && decide (c.ts ≤ d.ts)) && (inR he he c.row && seen A c)) && !eqv Cl.lt d c) := by
    apply List.filter_congr
    intro c hc
    rw [inR_all _ _ h0, Bool.true_and, Bool.true_and]
    rcases (hBA c).1 hc with hcA | rfl
    · have hcd : eqv Cl.lt d c = false := by
        cases h : eqv Cl.lt d c with
        | false => rfl
        | true => have := hne c (hAl c hcA); rw [eqv_symm h] at this; cases this
      unfold seen
      rw [key c hcA, hcd]
      cases c.del <;> cases hidIn A c <;> cases (column d c && decide (c.ts ≤ d.ts)) <;> rfl
    · unfold seen
      rw [hd, cl_weak.eqv_self]
      simp
  exact hcongr
/-- ViewTwice's -/
theorem kept_strict {A : List Cl} (h : Strict A) (fl : Nat) (last : Bool) : Strict (keepP A fl last) := (h.sublist List.filter_sublist).sublist List.filter_sublist
theorem kept_no {A : List Cl} {fl : Nat} {x c : Cl} (hx : x ∈ A) (hc : c ∈ keptP A fl) (hcol : column x c = true) (hs : x.seq ≤ fl) : covers x c = false := by
  have h := (List.mem_filter.1 hc).2
  rw [Bool.not_eq_true'] at h
  have := List.any_eq_false.1 h x hx
  rw [hcol, decide_eq_true hs, Bool.true_and, Bool.true_and] at this
  simpa using this
theorem useless_eq {A K : List Cl} {fl : Nat} {c : Cl} (hK : ∀ x ∈ K, x ∈ keptP A fl) (hc : c ∈ A) : useless K fl c = (c.del && decide (c.seq ≤ fl)) := by
  unfold useless
  cases hd : c.del with
  | false => rfl
  | true =>
    by_cases hs : c.seq ≤ fl
    · rw [decide_eq_true hs]
      have : (K.any fun x => column x c && hides c x) = false := List.any_eq_false.2 fun x hx => by
        intro h
        rw [Bool.and_eq_true] at h
        have h2 := kept_no hc (hK x hx) (by rw [column_symm]; exact h.1) hs
        unfold covers at h2
        rw [h.2, hd] at h2
        cases h2
      rw [this]
      rfl
    · rw [decide_eq_false hs]
      rfl
theorem keep_twice {A : List Cl} (fl : Nat) (last : Bool) : keepP (keepP A fl last) fl last = keepP A fl last := by
  obtain ⟨K, hK⟩ : ∃ K, keepP A fl last = K := ⟨_, rfl⟩
  have hsub : ∀ x ∈ K, x ∈ keptP A fl := fun x hx => by rw [← hK] at hx; exact (List.mem_filter.1 hx).1
  have hA : ∀ x ∈ keptP A fl, x ∈ A := fun x hx => (List.mem_filter.1 hx).1
  have h1 : keptP K fl = K := by
    unfold keptP
    rw [List.filter_eq_self]
    intro c hc
    rw [Bool.not_eq_true']
    refine List.any_eq_false.2 fun x hx h => ?_
    rw [Bool.and_eq_true, Bool.and_eq_true] at h
    rw [kept_no (hA x (hsub x hx)) (hsub c hc) h.1 (of_decide_eq_true h.2.1)] at h
    exact Bool.false_ne_true h.2.2
  rw [hK]
  unfold keepP
  rw [h1, List.filter_eq_self]
  intro c hc
  have hcA := hA c (hsub c hc)
  rw [useless_eq (A := A) hsub hcA]
  have h2 : c ∈ keepP A fl last := by rw [hK]; exact hc
  have h3 := (List.mem_filter.1 h2).2
  rw [useless_eq (A := A) (fun x hx => hx) hcA] at h3
  exact h3
end Go.Proofs.Ytoligmmjmghgnaa
