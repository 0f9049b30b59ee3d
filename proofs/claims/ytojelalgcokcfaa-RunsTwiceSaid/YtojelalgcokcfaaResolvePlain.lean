/-
  What resolving items comes to: one of each coordinate, the last of its input. The stable sort, with what is alike taken out, and the document's way, one by one, come to the same. Plain, no walk.
-/
import Derived.Test.YtojelalgcokcfaaCompactItem
namespace Go.Proofs.Ytojelalgcokcfaa
open Go.RowKit

/-- how the coordinates of two items stand -/
def cc (a b : It) : Int := a.c.plain.cmp b.c.plain
theorem cc_cmp : IsCmp cc := cl_cmp.comap fun x : It => x.c.plain
theorem cc_same (a b : It) : a.c.same b.c = decide (cc a b = 0) := by
  rw [Bool.eq_iff_iff, decide_eq_true_iff]
  exact (plain_eq a.c b.c).symm
theorem it_cmp_eq (a b : It) : a.cmp b = if cc a b = 0 then numI b.pos a.pos else cc a b := icmp_eq a b
theorem cc_sym {a b : It} : cc a b = 0 ↔ cc b a = 0 := by have := cc_cmp.anti a b; omega
theorem eqv_it (a b : It) : eqv It.lt a b = true ↔ cc a b = 0 ∧ a.pos = b.pos := by
  have h := it_cmp.anti a b
  unfold eqv It.lt
  rw [Bool.and_eq_true, Bool.not_eq_true', Bool.not_eq_true', decide_eq_false_iff_not, decide_eq_false_iff_not]
  rw [it_cmp_eq a b] at h ⊢
  constructor
  · rintro ⟨h1, h2⟩
    by_cases e : cc a b = 0
    · rw [if_pos e] at h h1
      exact ⟨e, (numI_eq.1 (by omega)).symm⟩
    · rw [if_neg e] at h h1; omega
  · rintro ⟨e, p⟩
    rw [if_pos e, numI_eq.2 p.symm] at h ⊢
    omega
theorem lt_it_cc {a b : It} (h : It.lt b a = false) : cc a b ≤ 0 := by
  have h := of_decide_eq_false h
  have e := it_cmp.anti b a
  rw [it_cmp_eq a b] at e
  by_cases k : cc a b = 0
  · omega
  · rw [if_neg k] at e; omega

def Strict (R : List It) : Prop := R.Pairwise fun a b => cc a b < 0
theorem Strict.unique : ∀ {R R' : List It}, Strict R → Strict R' → (∀ x, x ∈ R ↔ x ∈ R') → R = R'
  | [], [], _, _, _ => rfl
  | [], y :: r, _, _, h => by have := (h y).2 (by simp); cases this
  | x :: r, [], _, _, h => by have := (h x).1 (by simp); cases this
  | x :: r, y :: r', h1, h2, h => by
    unfold Strict at h1 h2
    rw [List.pairwise_cons] at h1 h2
    have hs := cc_cmp.self
    have e : x = y := by
      rcases List.mem_cons.1 ((h x).1 (by simp)) with e | hx
      · exact e
      · rcases List.mem_cons.1 ((h y).2 (by simp)) with e | hy
        · exact e.symm
        · have a := h2.1 x hx
          have b := h1.1 y hy
          have := cc_cmp.anti x y
          omega
    subst e
    have : r = r' := Strict.unique h1.2 h2.2 fun z => by
      constructor
      · intro hz
        rcases List.mem_cons.1 ((h z).1 (by simp [hz])) with rfl | hz'
        · have := h1.1 z hz; rw [hs] at this; omega
        · exact hz'
      · intro hz
        rcases List.mem_cons.1 ((h z).2 (by simp [hz])) with rfl | hz'
        · have := h2.1 z hz; rw [hs] at this; omega
        · exact hz'
    rw [this]

/-- the last of its coordinate -/
def IsBest (l : List It) (x : It) : Prop := (∀ y ∈ l, cc y x = 0 → y.pos ≤ x.pos) ∧ (l.filter (eqv It.lt x)).head? = some x
theorem IsBest.mem {l : List It} {x : It} (h : IsBest l x) : x ∈ l := (List.mem_filter.1 (List.mem_of_mem_head? h.2)).1
theorem eqv_congr {x y : It} (h : eqv It.lt x y = true) : eqv It.lt x = eqv It.lt y := by
  funext z
  rw [Bool.eq_iff_iff, eqv_it, eqv_it]
  rw [eqv_it] at h
  have h2 := cc_sym.1 h.1
  exact ⟨fun k => ⟨cc_cmp.eq_eq h2 k.1, by omega⟩, fun k => ⟨cc_cmp.eq_eq h.1 k.1, by omega⟩⟩
theorem IsBest.unique {l : List It} {x y : It} (hx : IsBest l x) (hy : IsBest l y) (h : cc x y = 0) : x = y := by
  have h1 := hx.1 y hy.mem (cc_sym.1 h)
  have h2 := hy.1 x hx.mem h
  have e := eqv_congr ((eqv_it x y).2 ⟨h, by omega⟩)
  have := hx.2
  rw [e, hy.2] at this
  exact (Option.some.inj this).symm

theorem compactGo_gt : ∀ (r : List It) (p : It), Srt It.lt (p :: r) → ∀ z ∈ compactGo (fun a b : It => a.c.same b.c) p r, cc p z < 0
  | [], p, _, z, hz => by cases hz
  | y :: r, p, h, z, hz => by
    have h' := h
    unfold Srt at h
    rw [List.pairwise_cons] at h
    have hpy := lt_it_cc (h.1 y (by simp))
    have hs := cc_same y p
    unfold compactGo at hz
    split at hz
    · rename_i e
      have e : y.c.same p.c = true := e
      rw [hs, decide_eq_true_iff] at e
      exact cc_cmp.le_lt hpy (compactGo_gt r y h.2 z hz)
    · rename_i e
      have e : ¬ y.c.same p.c = true := e
      rw [hs, decide_eq_true_iff] at e
      have hlt : cc p y < 0 := by have := cc_cmp.anti p y; omega
      rcases List.mem_cons.1 hz with rfl | hz
      · exact hlt
      · exact cc_cmp.lt_le hlt (by have := compactGo_gt r y h.2 z hz; omega)
theorem compact_strict : ∀ (r : List It) (p : It), Srt It.lt (p :: r) → Strict (p :: compactGo (fun a b : It => a.c.same b.c) p r)
  | [], p, _ => by simp [Strict, compactGo]
  | y :: r, p, h => by
    have hg := compactGo_gt (y :: r) p h
    unfold Strict
    rw [List.pairwise_cons]
    refine ⟨hg, ?_⟩
    unfold Srt at h
    rw [List.pairwise_cons] at h
    have ih := compact_strict r y h.2
    unfold Strict at ih
    unfold compactGo
    split
    · rw [List.pairwise_cons] at ih; exact ih.2
    · exact ih
theorem compact_mem : ∀ (r : List It) (p : It), Srt It.lt (p :: r) → ∀ z, z ∈ p :: compactGo (fun a b : It => a.c.same b.c) p r ↔ ((p :: r).filter fun y => decide (cc z y = 0)).head? = some z
  | r, p, h, z => by
    by_cases hz : cc z p = 0
    · rw [List.filter_cons_of_pos (by simpa using hz)]
      simp only [List.head?_cons, Option.some.injEq, List.mem_cons]
      constructor
      · rintro (rfl | hm)
        · rfl
        · have := compactGo_gt r p h z hm
          have := cc_cmp.anti z p
          omega
      · intro e; exact .inl e.symm
    · rw [List.filter_cons_of_neg (by simpa using hz)]
      have hne : z ≠ p := fun e => hz (by rw [e]; exact cc_cmp.self p)
      rw [List.mem_cons, or_iff_right hne]
      match r, h with
      | [], _ => simp [compactGo]
      | y :: r, h =>
        unfold Srt at h
        rw [List.pairwise_cons] at h
        have ih := compact_mem r y h.2 z
        unfold compactGo
        split
        · rename_i e
          have e : y.c.same p.c = true := e
          rw [cc_same, decide_eq_true_iff] at e
          rw [← ih, List.mem_cons, or_iff_right]
          intro e2
          subst e2
          exact hz e
        · exact ih
theorem compact_best {l m : List It} (h : SS It.lt l m) (x : It) : x ∈ compactF (fun a b : It => a.c.same b.c) m ↔ IsBest l x := by
  have hm : x ∈ compactF (fun a b : It => a.c.same b.c) m ↔ (m.filter fun y => decide (cc x y = 0)).head? = some x := by
    cases m with
    | nil => simp [compactF]
    | cons p r => exact compact_mem r p h.1 x
  rw [hm]
  have hff : m.filter (eqv It.lt x) = (m.filter fun y => decide (cc x y = 0)).filter (eqv It.lt x) := by
    rw [List.filter_filter]
    apply List.filter_congr
    intro y _
    rw [Bool.eq_iff_iff, Bool.and_eq_true, decide_eq_true_iff]
    exact ⟨fun k => ⟨k, ((eqv_it x y).1 k).1⟩, fun k => k.1⟩
  have hs : Srt It.lt (m.filter fun y => decide (cc x y = 0)) := List.Pairwise.filter _ h.1
  constructor
  · intro hx
    obtain ⟨t, ht⟩ : ∃ t, (m.filter fun y => decide (cc x y = 0)) = x :: t := by
      cases e : (m.filter fun y => decide (cc x y = 0)) with
      | nil => rw [e] at hx; cases hx
      | cons a t => rw [e] at hx; injection hx with hx; rw [hx]; exact ⟨t, rfl⟩
    refine ⟨fun y hy hc => ?_, ?_⟩
    · have hy' : y ∈ x :: t := by
        rw [← ht, List.mem_filter]
        exact ⟨h.2.2.subset hy, decide_eq_true (cc_sym.1 hc)⟩
      rcases List.mem_cons.1 hy' with rfl | hy'
      · exact Int.le_refl _
      · rw [ht] at hs
        unfold Srt at hs
        rw [List.pairwise_cons] at hs
        have h1 := of_decide_eq_false (hs.1 y hy')
        rw [it_cmp_eq, if_pos hc] at h1
        unfold numI at h1
        split at h1
        · omega
        · omega
    · rw [← h.2.1 x, hff, ht, List.filter_cons_of_pos ((eqv_it x x).2 ⟨cc_cmp.self x, rfl⟩)]
      rfl
  · rintro hb
    have h2 := hb.2
    rw [← h.2.1 x, hff] at h2
    cases e : (m.filter fun y => decide (cc x y = 0)) with
    | nil => rw [e] at h2; cases h2
    | cons z t =>
      rw [e] at h2 hs
      have hz : z ∈ m ∧ cc x z = 0 := by
        have : z ∈ m.filter fun y => decide (cc x y = 0) := by rw [e]; simp
        rw [List.mem_filter] at this
        exact ⟨this.1, of_decide_eq_true this.2⟩
      have h3 := hb.1 z (h.2.2.symm.subset hz.1) (cc_sym.1 hz.2)
      have hx : x ∈ z :: t := by
        have : x ∈ (z :: t).filter (eqv It.lt x) := List.mem_of_mem_head? h2
        exact (List.mem_filter.1 this).1
      have h4 : x.pos ≤ z.pos := by
        rcases List.mem_cons.1 hx with rfl | hx
        · exact Int.le_refl _
        · unfold Srt at hs
          rw [List.pairwise_cons] at hs
          have h1 := of_decide_eq_false (hs.1 x hx)
          rw [it_cmp_eq, if_pos hz.2] at h1
          unfold numI at h1
          split at h1
          · omega
          · split at h1 <;> omega
      rw [List.filter_cons_of_pos ((eqv_it x z).2 ⟨hz.2, by omega⟩)] at h2
      exact h2

theorem dropWhile_head {α : Type} {p : α → Bool} : ∀ (l : List α) (y : α) (q : List α), l.dropWhile p = y :: q → p y = false
  | [], y, q, h => by cases h
  | x :: l, y, q, h => by
    rw [List.dropWhile_cons] at h
    split at h
    · exact dropWhile_head l y q h
    · rename_i hx
      injection h with h1 h2
      rw [← h1]
      simpa using hx
/-- the document's way: an item to its place -/
def rstep (out : List It) (x : It) : List It :=
  let p := out.takeWhile fun o => decide (o.cmp x < 0) && !o.c.same x.c
  match out.dropWhile fun o => decide (o.cmp x < 0) && !o.c.same x.c with
  | y :: q => if y.c.same x.c then (if y.pos < x.pos then p ++ x :: q else out) else p ++ x :: y :: q
  | [] => p ++ [x]
def resolve (l : List It) : List It := l.foldl rstep []
structure Good (l R : List It) : Prop where
  strict : Strict R
  best : ∀ x ∈ R, IsBest l x
  all : ∀ z ∈ l, ∃ x ∈ R, cc x z = 0
theorem Good.eq {l R R' : List It} (h : Good l R) (hs : Strict R') (hm : ∀ x, x ∈ R' ↔ IsBest l x) : R = R' := by
  refine h.strict.unique hs fun x => ?_
  rw [hm]
  refine ⟨h.best x, fun hb => ?_⟩
  obtain ⟨y, hy, hc⟩ := h.all x hb.mem
  rw [← (h.best y hy).unique hb hc]
  exact hy
theorem best_far {l : List It} {x y : It} (h : IsBest l x) (hc : cc x y ≠ 0) : IsBest (l ++ [y]) x := by
  refine ⟨fun z hz k => ?_, ?_⟩
  · rcases List.mem_append.1 hz with hz | hz
    · exact h.1 z hz k
    · rw [List.mem_singleton.1 hz] at k; exact absurd (cc_sym.1 k) hc
  · rw [List.filter_append, List.head?_append, h.2]; rfl
theorem Good.step {l R : List It} (h : Good l R) (y : It) : Good (l ++ [y]) (rstep R y) := by
  have hpred : (fun o : It => decide (o.cmp y < 0) && !o.c.same y.c) = fun o => decide (cc o y < 0) := by
    funext o
    rw [cc_same, it_cmp_eq]
    by_cases e : cc o y = 0
    · simp [e]
    · simp [e]
  unfold rstep
  rw [hpred]
  obtain ⟨p, hp⟩ : ∃ p, R.takeWhile (fun o => decide (cc o y < 0)) = p := ⟨_, rfl⟩
  obtain ⟨q, hq⟩ : ∃ q, R.dropWhile (fun o => decide (cc o y < 0)) = q := ⟨_, rfl⟩
  have hR : R = p ++ q := by rw [← hp, ← hq, List.takeWhile_append_dropWhile]
  have hp1 : ∀ a ∈ p, cc a y < 0 := by
    intro a ha
    rw [← hp] at ha
    have := List.all_takeWhile (p := fun o => decide (cc o y < 0)) (l := R)
    rw [List.all_eq_true] at this
    exact of_decide_eq_true (this a ha)
  simp only [hp, hq]
  have hst := h.strict
  rw [hR] at hst
  unfold Strict at hst
  rw [List.pairwise_append] at hst
  obtain ⟨s1, s2, s3⟩ := hst
  -- nothing of its coordinate: it is put in
  have put : (∀ a ∈ q, 0 < cc a y) → Good (l ++ [y]) (p ++ y :: q) := by
    intro hq0
    have hno : ∀ z ∈ l, cc z y ≠ 0 := by
      intro z hz k
      obtain ⟨x, hx, hc⟩ := h.all z hz
      have := cc_cmp.eq_eq hc k
      rw [hR] at hx
      rcases List.mem_append.1 hx with hx | hx
      · have := hp1 x hx; omega
      · have := hq0 x hx; omega
    refine ⟨?_, ?_, ?_⟩
    · unfold Strict
      rw [List.pairwise_append, List.pairwise_cons]
      refine ⟨s1, ⟨fun a ha => by have := hq0 a ha; have := cc_cmp.anti a y; omega, s2⟩, fun a ha b hb => ?_⟩
      rcases List.mem_cons.1 hb with rfl | hb
      · exact hp1 a ha
      · exact s3 a ha b hb
    · intro x hx
      rcases List.mem_append.1 hx with hx | hx
      · exact best_far (h.best x (by rw [hR]; simp [hx])) (by have := hp1 x hx; omega)
      · rcases List.mem_cons.1 hx with rfl | hx
        · refine ⟨fun z hz k => ?_, ?_⟩
          · rcases List.mem_append.1 hz with hz | hz
            · exact absurd k (hno z hz)
            · rw [List.mem_singleton.1 hz]; exact Int.le_refl _
          · have : l.filter (eqv It.lt x) = [] := List.filter_eq_nil_iff.2 fun z hz e => hno z hz (cc_sym.1 ((eqv_it x z).1 e).1)
            rw [List.filter_append, this, List.nil_append, List.filter_cons_of_pos ((eqv_it x x).2 ⟨cc_cmp.self x, rfl⟩)]
            rfl
        · exact best_far (h.best x (by rw [hR]; simp [hx])) (by have := hq0 x hx; omega)
    · intro z hz
      rcases List.mem_append.1 hz with hz | hz
      · obtain ⟨x, hx, hc⟩ := h.all z hz
        rw [hR] at hx
        refine ⟨x, ?_, hc⟩
        rcases List.mem_append.1 hx with hx | hx <;> simp [hx]
      · exact ⟨y, by simp, by rw [List.mem_singleton.1 hz]; exact cc_cmp.self y⟩
  cases q with
  | nil => exact put (fun a ha => by cases ha)
  | cons y0 q =>
    have hy0 : ¬ cc y0 y < 0 := by
      intro k
      have := dropWhile_head R y0 q hq
      rw [decide_eq_true k] at this
      cases this
    rw [List.pairwise_cons] at s2
    simp only [cc_same]
    by_cases e : cc y0 y = 0
    · rw [if_pos (decide_eq_true e)]
      have hb0 := h.best y0 (by rw [hR]; simp)
      have hq1 : ∀ a ∈ q, 0 < cc a y := by
        intro a ha
        have h1 := s2.1 a ha
        have h2 := cc_cmp.le_lt (show cc y y0 ≤ 0 by have := cc_sym.1 e; omega) h1
        have := cc_cmp.anti y a
        omega
      by_cases hpos : y0.pos < y.pos
      · rw [if_pos hpos]
        refine ⟨?_, ?_, ?_⟩
        · unfold Strict
          rw [List.pairwise_append, List.pairwise_cons]
          refine ⟨s1, ⟨fun a ha => by have := hq1 a ha; have := cc_cmp.anti a y; omega, s2.2⟩, fun a ha b hb => ?_⟩
          rcases List.mem_cons.1 hb with rfl | hb
          · exact hp1 a ha
          · exact s3 a ha b (by simp [hb])
        · intro x hx
          rcases List.mem_append.1 hx with hx | hx
          · exact best_far (h.best x (by rw [hR]; simp [hx])) (by have := hp1 x hx; omega)
          · rcases List.mem_cons.1 hx with rfl | hx
            · have hz0 : ∀ z ∈ l, cc z x = 0 → z.pos ≤ y0.pos := fun z hz k => hb0.1 z hz (cc_cmp.eq_eq k (cc_sym.1 e))
              refine ⟨fun z hz k => ?_, ?_⟩
              · rcases List.mem_append.1 hz with hz | hz
                · have := hz0 z hz k; omega
                · rw [List.mem_singleton.1 hz]; exact Int.le_refl _
              · have : l.filter (eqv It.lt x) = [] := List.filter_eq_nil_iff.2 fun z hz e2 => by
                  have e3 := (eqv_it x z).1 e2
                  have := hz0 z hz (cc_sym.1 e3.1)
                  omega
                rw [List.filter_append, this, List.nil_append, List.filter_cons_of_pos ((eqv_it x x).2 ⟨cc_cmp.self x, rfl⟩)]
                rfl
            · exact best_far (h.best x (by rw [hR]; simp [hx])) (by have := hq1 x hx; omega)
        · intro z hz
          rcases List.mem_append.1 hz with hz | hz
          · obtain ⟨x, hx, hc⟩ := h.all z hz
            rw [hR] at hx
            rcases List.mem_append.1 hx with hx | hx
            · exact ⟨x, by simp [hx], hc⟩
            · rcases List.mem_cons.1 hx with rfl | hx
              · exact ⟨y, by simp, cc_cmp.eq_eq (cc_sym.1 e) hc⟩
              · exact ⟨x, by simp [hx], hc⟩
          · exact ⟨y, by simp, by rw [List.mem_singleton.1 hz]; exact cc_cmp.self y⟩
      · rw [if_neg hpos]
        refine ⟨h.strict, ?_, ?_⟩
        · intro x hx
          by_cases k : cc x y = 0
          · have hxb := h.best x hx
            have e2 : x = y0 := hxb.unique hb0 (cc_cmp.eq_eq k (cc_sym.1 e))
            subst e2
            refine ⟨fun z hz k2 => ?_, ?_⟩
            · rcases List.mem_append.1 hz with hz | hz
              · exact hxb.1 z hz k2
              · rw [List.mem_singleton.1 hz]; omega
            · rw [List.filter_append, List.head?_append, hxb.2]; rfl
          · exact best_far (h.best x hx) k
        · intro z hz
          rcases List.mem_append.1 hz with hz | hz
          · exact h.all z hz
          · exact ⟨y0, by rw [hR]; simp, by rw [List.mem_singleton.1 hz]; exact e⟩
    · rw [if_neg (by simpa using e)]
      refine put fun a ha => ?_
      rcases List.mem_cons.1 ha with rfl | ha
      · omega
      · have h1 := s2.1 a ha
        have h3 := cc_cmp.anti y0 y
        have h2 := cc_cmp.lt_le (show cc y y0 < 0 by omega) (show cc y0 a ≤ 0 by omega)
        have := cc_cmp.anti y a
        omega
theorem resolve_good (l : List It) : Good l (resolve l) := by
  have key : ∀ (l pre R : List It), Good pre R → Good (pre ++ l) (l.foldl rstep R) := by
    intro l
    induction l with
    | nil => intro pre R h; simpa using h
    | cons y l ih =>
      intro pre R h
      have := ih (pre ++ [y]) (rstep R y) (h.step y)
      simpa using this
  have := key l [] [] ⟨by simp [Strict], fun x hx => (by cases hx), fun z hz => (by cases hz)⟩
  simpa [resolve] using this
/-- the sorted items, with what is alike taken out, are what the document says -/
theorem resolve_eq {l m : List It} (h : SS It.lt l m) : compactF (fun a b : It => a.c.same b.c) m = resolve l := by
  refine ((resolve_good l).eq ?_ (compact_best h)).symm
  cases m with
  | nil => simp [compactF, Strict]
  | cons p r => exact compact_strict r p h.1
end Go.Proofs.Ytojelalgcokcfaa
