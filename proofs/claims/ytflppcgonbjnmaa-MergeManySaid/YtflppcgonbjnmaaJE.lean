/-
  What resolving items comes to: one of each coordinate, the last of its input. The stable sort, with what is alike taken out, and the document's way, one by one, come to the same. Plain, no walk. The walk of runs.Resolve. The walks of the functions that collect items, or cells, one by one. The walk of runs.Items. The walks of the two functions that tell whether items are sorted. Plain laws of resolving: what is resolved stays; what lies behind may be resolved ahead. No walk, no conditions. No conditions.
-/
import Derived.Test.YtflppcgonbjnmaaCompactItem
import Derived.Test.YtflppcgonbjnmaaJC
namespace Go.Proofs.Ytflppcgonbjnmaa
open Go.RowKit

/-- how the coordinates of two items stand -/
def cc (a b : It) : Int := a.c.plain.cmp b.c.plain
theorem cc_cmp : IsCmp cc := cl_cmp.comap fun x : It => x.c.plain
theorem cc_same (a b : It) : a.c.same b.c = decide (cc a b = 0) := by
  rw [Bool.eq_iff_iff, decide_eq_true_iff]
  exact (plain_eq a.c b.c).symm
theorem it_cmp_eq (a b : It) : a.cmp b = if cc a b = 0 then numI b.pos a.pos else cc a b := icmp_eq a b
theorem cc_sym {a b : It} : cc a b = 0 ↔ cc b a = 0 := by have := cc_cmp.anti a b; omega
theorem eqv_it (a b : It) : eqv It.lt a b = true ↔ cc a b = 0 ∧ a.pos = b.pos := by
  have h := it_cmp.anti a b
  unfold eqv It.lt
  rw [Bool.and_eq_true, Bool.not_eq_true', Bool.not_eq_true', decide_eq_false_iff_not, decide_eq_false_iff_not]
  rw [it_cmp_eq a b] at h ⊢
  constructor
  · rintro ⟨h1, h2⟩
    by_cases e : cc a b = 0
    · rw [if_pos e] at h h1
      exact ⟨e, (numI_eq.1 (by omega)).symm⟩
    · rw [if_neg e] at h h1; omega
  · rintro ⟨e, p⟩
    rw [if_pos e, numI_eq.2 p.symm] at h ⊢
    omega
theorem lt_it_cc {a b : It} (h : It.lt b a = false) : cc a b ≤ 0 := by
  have h := of_decide_eq_false h
  have e := it_cmp.anti b a
  rw [it_cmp_eq a b] at e
  by_cases k : cc a b = 0
  · omega
  · rw [if_neg k] at e; omega

def Strict (R : List It) : Prop := R.Pairwise fun a b => cc a b < 0
theorem Strict.unique : ∀ {R R' : List It}, Strict R → Strict R' → (∀ x, x ∈ R ↔ x ∈ R') → R = R'
  | [], [], _, _, _ => rfl
  | [], y :: r, _, _, h => by have := (h y).2 (by simp); cases this
  | x :: r, [], _, _, h => by have := (h x).1 (by simp); cases this
  | x :: r, y :: r', h1, h2, h => by
    unfold Strict at h1 h2
    rw [List.pairwise_cons] at h1 h2
    have hs := cc_cmp.self
    have e : x = y := by
      rcases List.mem_cons.1 ((h x).1 (by simp)) with e | hx
      · exact e
      · rcases List.mem_cons.1 ((h y).2 (by simp)) with e | hy
        · exact e.symm
        · have a := h2.1 x hx
          have b := h1.1 y hy
          have := cc_cmp.anti x y
          omega
    subst e
    have : r = r' := Strict.unique h1.2 h2.2 fun z => by
      constructor
      · intro hz
        rcases List.mem_cons.1 ((h z).1 (by simp [hz])) with rfl | hz'
        · have := h1.1 z hz; rw [hs] at this; omega
        · exact hz'
      · intro hz
        rcases List.mem_cons.1 ((h z).2 (by simp [hz])) with rfl | hz'
        · have := h2.1 z hz; rw [hs] at this; omega
        · exact hz'
    rw [this]

/-- the last of its coordinate -/
def IsBest (l : List It) (x : It) : Prop := (∀ y ∈ l, cc y x = 0 → y.pos ≤ x.pos) ∧ (l.filter (eqv It.lt x)).head? = some x
theorem IsBest.mem {l : List It} {x : It} (h : IsBest l x) : x ∈ l := (List.mem_filter.1 (List.mem_of_mem_head? h.2)).1
theorem eqv_congr {x y : It} (h : eqv It.lt x y = true) : eqv It.lt x = eqv It.lt y := by
  funext z
  rw [Bool.eq_iff_iff, eqv_it, eqv_it]
  rw [eqv_it] at h
  have h2 := cc_sym.1 h.1
  exact ⟨fun k => ⟨cc_cmp.eq_eq h2 k.1, by omega⟩, fun k => ⟨cc_cmp.eq_eq h.1 k.1, by omega⟩⟩
theorem IsBest.unique {l : List It} {x y : It} (hx : IsBest l x) (hy : IsBest l y) (h : cc x y = 0) : x = y := by
  have h1 := hx.1 y hy.mem (cc_sym.1 h)
  have h2 := hy.1 x hx.mem h
  have e := eqv_congr ((eqv_it x y).2 ⟨h, by omega⟩)
  have := hx.2
  rw [e, hy.2] at this
  exact (Option.some.inj this).symm

theorem compactGo_gt : ∀ (r : List It) (p : It), Srt It.lt (p :: r) → ∀ z ∈ compactGo (fun a b : It => a.c.same b.c) p r, cc p z < 0
  | [], p, _, z, hz => by cases hz
  | y :: r, p, h, z, hz => by
    have h' := h
    unfold Srt at h
    rw [List.pairwise_cons] at h
    have hpy := lt_it_cc (h.1 y (by simp))
    have hs := cc_same y p
    unfold compactGo at hz
    split at hz
    · rename_i e
      have e : y.c.same p.c = true := e
      rw [hs, decide_eq_true_iff] at e
      exact cc_cmp.le_lt hpy (compactGo_gt r y h.2 z hz)
    · rename_i e
      have e : ¬ y.c.same p.c = true := e
      rw [hs, decide_eq_true_iff] at e
      have hlt : cc p y < 0 := by have := cc_cmp.anti p y; omega
      rcases List.mem_cons.1 hz with rfl | hz
      · exact hlt
      · exact cc_cmp.lt_le hlt (by have := compactGo_gt r y h.2 z hz; omega)
theorem compact_strict : ∀ (r : List It) (p : It), Srt It.lt (p :: r) → Strict (p :: compactGo (fun a b : It => a.c.same b.c) p r)
  | [], p, _ => by simp [Strict, compactGo]
  | y :: r, p, h => by
    have hg := compactGo_gt (y :: r) p h
    unfold Strict
    rw [List.pairwise_cons]
    refine ⟨hg, ?_⟩
    unfold Srt at h
    rw [List.pairwise_cons] at h
    have ih := compact_strict r y h.2
    unfold Strict at ih
    unfold compactGo
    split
    · rw [List.pairwise_cons] at ih; exact ih.2
    · exact ih
theorem compact_mem : ∀ (r : List It) (p : It), Srt It.lt (p :: r) → ∀ z, z ∈ p :: compactGo (fun a b : It => a.c.same b.c) p r ↔ ((p :: r).filter fun y => decide (cc z y = 0)).head? = some z
  | r, p, h, z => by
    by_cases hz : cc z p = 0
    · rw [List.filter_cons_of_pos (by simpa using hz)]
      simp only [List.head?_cons, Option.some.injEq, List.mem_cons]
      constructor
      · rintro (rfl | hm)
        · rfl
        · have := compactGo_gt r p h z hm
          have := cc_cmp.anti z p
          omega
      · intro e; exact .inl e.symm
    · rw [List.filter_cons_of_neg (by simpa using hz)]
      have hne : z ≠ p := fun e => hz (by rw [e]; exact cc_cmp.self p)
      rw [List.mem_cons, or_iff_right hne]
      match r, h with
      | [], _ => simp [compactGo]
      | y :: r, h =>
        unfold Srt at h
        rw [List.pairwise_cons] at h
        have ih := compact_mem r y h.2 z
        unfold compactGo
        split
        · rename_i e
          have e : y.c.same p.c = true := e
          rw [cc_same, decide_eq_true_iff] at e
          rw [← ih, List.mem_cons, or_iff_right]
          intro e2
          subst e2
          exact hz e
        · exact ih
theorem compact_best {l m : List It} (h : SS It.lt l m) (x : It) : x ∈ compactF (fun a b : It => a.c.same b.c) m ↔ IsBest l x := by
  have hm : x ∈ compactF (fun a b : It => a.c.same b.c) m ↔ (m.filter fun y => decide (cc x y = 0)).head? = some x := by
    cases m with
    | nil => simp [compactF]
    | cons p r => exact compact_mem r p h.1 x
  rw [hm]
  have hff : m.filter (eqv It.lt x) = (m.filter fun y => decide (cc x y = 0)).filter (eqv It.lt x) := by
    rw [List.filter_filter]
    apply List.filter_congr
    intro y _
    rw [Bool.eq_iff_iff, Bool.and_eq_true, decide_eq_true_iff]
    exact ⟨fun k => ⟨k, ((eqv_it x y).1 k).1⟩, fun k => k.1⟩
  have hs : Srt It.lt (m.filter fun y => decide (cc x y = 0)) := List.Pairwise.filter _ h.1
  constructor
  · intro hx
    obtain ⟨t, ht⟩ : ∃ t, (m.filter fun y => decide (cc x y = 0)) = x :: t := by
      cases e : (m.filter fun y => decide (cc x y = 0)) with
      | nil => rw [e] at hx; cases hx
      | cons a t => rw [e] at hx; injection hx with hx; rw [hx]; exact ⟨t, rfl⟩
    refine ⟨fun y hy hc => ?_, ?_⟩
    · have hy' : y ∈ x :: t := by
        rw [← ht, List.mem_filter]
        exact ⟨h.2.2.subset hy, decide_eq_true (cc_sym.1 hc)⟩
      rcases List.mem_cons.1 hy' with rfl | hy'
      · exact Int.le_refl _
      · rw [ht] at hs
        unfold Srt at hs
        rw [List.pairwise_cons] at hs
        have h1 := of_decide_eq_false (hs.1 y hy')
        rw [it_cmp_eq, if_pos hc] at h1
        unfold numI at h1
        split at h1
        · omega
        · omega
    · rw [← h.2.1 x, hff, ht, List.filter_cons_of_pos ((eqv_it x x).2 ⟨cc_cmp.self x, rfl⟩)]
      rfl
  · rintro hb
    have h2 := hb.2
    rw [← h.2.1 x, hff] at h2
    cases e : (m.filter fun y => decide (cc x y = 0)) with
    | nil => rw [e] at h2; cases h2
    | cons z t =>
      rw [e] at h2 hs
      have hz : z ∈ m ∧ cc x z = 0 := by
        have : z ∈ m.filter fun y => decide (cc x y = 0) := by rw [e]; simp
        rw [List.mem_filter] at this
        exact ⟨this.1, of_decide_eq_true this.2⟩
      have h3 := hb.1 z (h.2.2.symm.subset hz.1) (cc_sym.1 hz.2)
      have hx : x ∈ z :: t := by
        have : x ∈ (z :: t).filter (eqv It.lt x) := List.mem_of_mem_head? h2
        exact (List.mem_filter.1 this).1
      have h4 : x.pos ≤ z.pos := by
        rcases List.mem_cons.1 hx with rfl | hx
        · exact Int.le_refl _
        · unfold Srt at hs
          rw [List.pairwise_cons] at hs
          have h1 := of_decide_eq_false (hs.1 x hx)
          rw [it_cmp_eq, if_pos hz.2] at h1
          unfold numI at h1
          split at h1
          · omega
          · split at h1 <;> omega
      rw [List.filter_cons_of_pos ((eqv_it x z).2 ⟨hz.2, by omega⟩)] at h2
      exact h2

theorem dropWhile_head {α : Type} {p : α → Bool} : ∀ (l : List α) (y : α) (q : List α), l.dropWhile p = y :: q → p y = false
  | [], y, q, h => by cases h
  | x :: l, y, q, h => by
    rw [List.dropWhile_cons] at h
    split at h
    · exact dropWhile_head l y q h
    · rename_i hx
      injection h with h1 h2
      rw [← h1]
      simpa using hx
/-- the document's way: an item to its place -/
def rstep (out : List It) (x : It) : List It :=
  let p := out.takeWhile fun o => decide (o.cmp x < 0) && !o.c.same x.c
  match out.dropWhile fun o => decide (o.cmp x < 0) && !o.c.same x.c with
  | y :: q => if y.c.same x.c then (if y.pos < x.pos then p ++ x :: q else out) else p ++ x :: y :: q
  | [] => p ++ [x]
def resolve (l : List It) : List It := l.foldl rstep []
structure Good (l R : List It) : Prop where
  strict : Strict R
  best : ∀ x ∈ R, IsBest l x
  all : ∀ z ∈ l, ∃ x ∈ R, cc x z = 0
theorem Good.eq {l R R' : List It} (h : Good l R) (hs : Strict R') (hm : ∀ x, x ∈ R' ↔ IsBest l x) : R = R' := by
  refine h.strict.unique hs fun x => ?_
  rw [hm]
  refine ⟨h.best x, fun hb => ?_⟩
  obtain ⟨y, hy, hc⟩ := h.all x hb.mem
  rw [← (h.best y hy).unique hb hc]
  exact hy
theorem best_far {l : List It} {x y : It} (h : IsBest l x) (hc : cc x y ≠ 0) : IsBest (l ++ [y]) x := by
  refine ⟨fun z hz k => ?_, ?_⟩
  · rcases List.mem_append.1 hz with hz | hz
    · exact h.1 z hz k
    · rw [List.mem_singleton.1 hz] at k; exact absurd (cc_sym.1 k) hc
  · rw [List.filter_append, List.head?_append, h.2]; rfl
theorem Good.step {l R : List It} (h : Good l R) (y : It) : Good (l ++ [y]) (rstep R y) := by
  have hpred : (fun o : It => decide (o.cmp y < 0) && !o.c.same y.c) = fun o => decide (cc o y < 0) := by
    funext o
    rw [cc_same, it_cmp_eq]
    by_cases e : cc o y = 0
    · simp [e]
    · simp [e]
  unfold rstep
  rw [hpred]
  obtain ⟨p, hp⟩ : ∃ p, R.takeWhile (fun o => decide (cc o y < 0)) = p := ⟨_, rfl⟩
  obtain ⟨q, hq⟩ : ∃ q, R.dropWhile (fun o => decide (cc o y < 0)) = q := ⟨_, rfl⟩
  have hR : R = p ++ q := by rw [← hp, ← hq, List.takeWhile_append_dropWhile]
  have hp1 : ∀ a ∈ p, cc a y < 0 := by
    intro a ha
    rw [← hp] at ha
    have := List.all_takeWhile (p := fun o => decide (cc o y < 0)) (l := R)
    rw [List.all_eq_true] at this
    exact of_decide_eq_true (this a ha)
  simp only [hp, hq]
  have hst := h.strict
  rw [hR] at hst
  unfold Strict at hst
  rw [List.pairwise_append] at hst
  obtain ⟨s1, s2, s3⟩ := hst
  -- nothing of its coordinate: it is put in
  have put : (∀ a ∈ q, 0 < cc a y) → Good (l ++ [y]) (p ++ y :: q) := by
    intro hq0
    have hno : ∀ z ∈ l, cc z y ≠ 0 := by
      intro z hz k
      obtain ⟨x, hx, hc⟩ := h.all z hz
      have := cc_cmp.eq_eq hc k
      rw [hR] at hx
      rcases List.mem_append.1 hx with hx | hx
      · have := hp1 x hx; omega
      · have := hq0 x hx; omega
    refine ⟨?_, ?_, ?_⟩
    · unfold Strict
      rw [List.pairwise_append, List.pairwise_cons]
      refine ⟨s1, ⟨fun a ha => by have := hq0 a ha; have := cc_cmp.anti a y; omega, s2⟩, fun a ha b hb => ?_⟩
      rcases List.mem_cons.1 hb with rfl | hb
      · exact hp1 a ha
      · exact s3 a ha b hb
    · intro x hx
      rcases List.mem_append.1 hx with hx | hx
      · exact best_far (h.best x (by rw [hR]; simp [hx])) (by have := hp1 x hx; omega)
      · rcases List.mem_cons.1 hx with rfl | hx
        · refine ⟨fun z hz k => ?_, ?_⟩
          · rcases List.mem_append.1 hz with hz | hz
            · exact absurd k (hno z hz)
            · rw [List.mem_singleton.1 hz]; exact Int.le_refl _
          · have : l.filter (eqv It.lt x) = [] := List.filter_eq_nil_iff.2 fun z hz e => hno z hz (cc_sym.1 ((eqv_it x z).1 e).1)
            rw [List.filter_append, this, List.nil_append, List.filter_cons_of_pos ((eqv_it x x).2 ⟨cc_cmp.self x, rfl⟩)]
            rfl
        · exact best_far (h.best x (by rw [hR]; simp [hx])) (by have := hq0 x hx; omega)
    · intro z hz
      rcases List.mem_append.1 hz with hz | hz
      · obtain ⟨x, hx, hc⟩ := h.all z hz
        rw [hR] at hx
        refine ⟨x, ?_, hc⟩
        rcases List.mem_append.1 hx with hx | hx <;> simp [hx]
      · exact ⟨y, by simp, by rw [List.mem_singleton.1 hz]; exact cc_cmp.self y⟩
  cases q with
  | nil => exact put (fun a ha => by cases ha)
  | cons y0 q =>
    have hy0 : ¬ cc y0 y < 0 := by
      intro k
      have := dropWhile_head R y0 q hq
      rw [decide_eq_true k] at this
      cases this
    rw [List.pairwise_cons] at s2
    simp only [cc_same]
    by_cases e : cc y0 y = 0
    · rw [if_pos (decide_eq_true e)]
      have hb0 := h.best y0 (by rw [hR]; simp)
      have hq1 : ∀ a ∈ q, 0 < cc a y := by
        intro a ha
        have h1 := s2.1 a ha
        have h2 := cc_cmp.le_lt (show cc y y0 ≤ 0 by have := cc_sym.1 e; omega) h1
        have := cc_cmp.anti y a
        omega
      by_cases hpos : y0.pos < y.pos
      · rw [if_pos hpos]
        refine ⟨?_, ?_, ?_⟩
        · unfold Strict
          rw [List.pairwise_append, List.pairwise_cons]
          refine ⟨s1, ⟨fun a ha => by have := hq1 a ha; have := cc_cmp.anti a y; omega, s2.2⟩, fun a ha b hb => ?_⟩
          rcases List.mem_cons.1 hb with rfl | hb
          · exact hp1 a ha
          · exact s3 a ha b (by simp [hb])
        · intro x hx
          rcases List.mem_append.1 hx with hx | hx
          · exact best_far (h.best x (by rw [hR]; simp [hx])) (by have := hp1 x hx; omega)
          · rcases List.mem_cons.1 hx with rfl | hx
            · have hz0 : ∀ z ∈ l, cc z x = 0 → z.pos ≤ y0.pos := fun z hz k => hb0.1 z hz (cc_cmp.eq_eq k (cc_sym.1 e))
              refine ⟨fun z hz k => ?_, ?_⟩
              · rcases List.mem_append.1 hz with hz | hz
                · have := hz0 z hz k; omega
                · rw [List.mem_singleton.1 hz]; exact Int.le_refl _
              · have : l.filter (eqv It.lt x) = [] := List.filter_eq_nil_iff.2 fun z hz e2 => by
                  have e3 := (eqv_it x z).1 e2
                  have := hz0 z hz (cc_sym.1 e3.1)
                  omega
                rw [List.filter_append, this, List.nil_append, List.filter_cons_of_pos ((eqv_it x x).2 ⟨cc_cmp.self x, rfl⟩)]
                rfl
            · exact best_far (h.best x (by rw [hR]; simp [hx])) (by have := hq1 x hx; omega)
        · intro z hz
          rcases List.mem_append.1 hz with hz | hz
          · obtain ⟨x, hx, hc⟩ := h.all z hz
            rw [hR] at hx
            rcases List.mem_append.1 hx with hx | hx
            · exact ⟨x, by simp [hx], hc⟩
            · rcases List.mem_cons.1 hx with rfl | hx
              · exact ⟨y, by simp, cc_cmp.eq_eq (cc_sym.1 e) hc⟩
              · exact ⟨x, by simp [hx], hc⟩
          · exact ⟨y, by simp, by rw [List.mem_singleton.1 hz]; exact cc_cmp.self y⟩
      · rw [if_neg hpos]
        refine ⟨h.strict, ?_, ?_⟩
        · intro x hx
          by_cases k : cc x y = 0
          · have hxb := h.best x hx
            have e2 : x = y0 := hxb.unique hb0 (cc_cmp.eq_eq k (cc_sym.1 e))
            subst e2
            refine ⟨fun z hz k2 => ?_, ?_⟩
            · rcases List.mem_append.1 hz with hz | hz
              · exact hxb.1 z hz k2
              · rw [List.mem_singleton.1 hz]; omega
            · rw [List.filter_append, List.head?_append, hxb.2]; rfl
          · exact best_far (h.best x hx) k
        · intro z hz
          rcases List.mem_append.1 hz with hz | hz
          · exact h.all z hz
          · exact ⟨y0, by rw [hR]; simp, by rw [List.mem_singleton.1 hz]; exact e⟩
    · rw [if_neg (by simpa using e)]
      refine put fun a ha => ?_
      rcases List.mem_cons.1 ha with rfl | ha
      · omega
      · have h1 := s2.1 a ha
        have h3 := cc_cmp.anti y0 y
        have h2 := cc_cmp.lt_le (show cc y y0 < 0 by omega) (show cc y0 a ≤ 0 by omega)
        have := cc_cmp.anti y a
        omega
theorem resolve_good (l : List It) : Good l (resolve l) := by
  have key : ∀ (l pre R : List It), Good pre R → Good (pre ++ l) (l.foldl rstep R) := by
    intro l
    induction l with
    | nil => intro pre R h; simpa using h
    | cons y l ih =>
      intro pre R h
      have := ih (pre ++ [y]) (rstep R y) (h.step y)
      simpa using this
  have := key l [] [] ⟨by simp [Strict], fun x hx => (by cases hx), fun z hz => (by cases hz)⟩
  simpa [resolve] using this
/-- the sorted items, with what is alike taken out, are what the document says -/
theorem resolve_eq {l m : List It} (h : SS It.lt l m) : compactF (fun a b : It => a.c.same b.c) m = resolve l := by
  refine ((resolve_good l).eq ?_ (compact_best h)).symm
  cases m with
  | nil => simp [compactF, Strict]
  | cons p r => exact compact_strict r p h.1
end Go.Proofs.Ytflppcgonbjnmaa
namespace Go.Proofs.Ytflppcgonbjnmaa
open Go.RowKit
attribute [local go_sem ↓] Go.wp_at_zero Go.wp_at_succ

/-- items, as values -/
abbrev its (l : List It) : List Value := l.flatMap It.vals
theorem its_len (l : List It) : (its l).length = l.length * 7 := encs_length It.vals_len l
theorem its_one (l : List It) : ∀ u ∈ its l, u.oneCell' = true := by
  intro u hu
  obtain ⟨x, _, hx⟩ := List.mem_flatMap.1 hu
  exact x.one u hx

theorem compact_none (A : Option Addr) (c : Nat) (fv : Value) (w : World) :
    Calls Try.prog 54 #[.slice A 0 c, fv] w fun e w' => e = .returned (.slice A 0 c) ∧ w = w' := by
  go_enter Try.func54, Try.ntmps54
  go_wp2
  go_ret
  exact ⟨rfl, rfl⟩

theorem Strict.len {l R : List It} (h : Good l R) : R.length ≤ l.length := by
  have key : ∀ (R l : List It), Strict R → (∀ x ∈ R, x ∈ l) → R.length ≤ l.length := by
    intro R
    induction R with
    | nil => intro l _ _; simp
    | cons x R ih =>
      intro l hs hm
      unfold Strict at hs
      rw [List.pairwise_cons] at hs
      have hx := hm x (by simp)
      obtain ⟨s, t, rfl⟩ := List.append_of_mem hx
      have := ih (s ++ t) hs.2 fun y hy => by
        have h1 := hm y (by simp [hy])
        have h2 : y ≠ x := fun e => by have := hs.1 y hy; rw [e, cc_cmp.self] at this; omega
        simp only [List.mem_append, List.mem_cons] at h1 ⊢
        rcases h1 with h1 | h1 | h1
        · exact .inl h1
        · exact absurd h1 h2
        · exact .inr h1
      simp at this ⊢
      omega
  exact key R l h.strict fun x hx => (h.best x hx).mem
theorem resolve_len (l : List It) : (resolve l).length ≤ l.length := Strict.len (resolve_good l)

set_option maxHeartbeats 2000000 in
theorem resolve_any (A : Option Addr) (c : Nat) (l : List It) (w : World) (hl : Rd w w.heap.size A (its l)) (hlen : l.length ≤ 1000000) :
    Calls Try.prog 41 #[.slice A l.length c] w fun e w' => ∃ (A' : Option Addr) (c' : Nat), e = .returned (.slice A' (resolve l).length c') ∧ Own w' w.heap.size 59 7 A' (resolve l).length c' (its (resolve l)) ∧ Below w.heap.size w w' := by
  have hcl := cloneIt_any A c l w hl hlen
  by_cases h0 : l.length = 0
  · have hnil : l = [] := List.eq_nil_of_length_eq_zero h0
    subst hnil
    go_enter Try.func41, Try.ntmps41
    go_wp2_with (first
      | (go_at_call 31; refine hcl.mono ?_; rintro e w1 ⟨A1, c1, rfl, ho, hb⟩)
      | (go_at_call 52; refine (sortStable_none _ _ _ _).mono ?_; rintro e w2 ⟨rfl, rfl⟩)
      | (go_at_call 54; refine (compact_none _ _ _ _).mono ?_; rintro e w3 ⟨rfl, rfl⟩))
    go_ret
    exact ⟨A1, c1, rfl, ho, hb⟩
  · go_enter Try.func41, Try.ntmps41
    go_wp2_with (first
      | (go_at_call 31; refine hcl.mono ?_; rintro e w1 ⟨A1, c1, rfl, ho, hb⟩
         obtain ⟨g, S, rfl, hg, hS, hnc, hcm, _, harr⟩ := ho.arr It.vals_len (by omega) (by omega)
         have hst := sortStable_any it_weak g S c1 l.length l w1 harr rfl (by omega)
         clear ho harr)
      | (go_at_call 52; refine hst.mono ?_; rintro e w2 ⟨rfl, m, hss, hm, hg2⟩
         have hml : m.length = l.length := hss.2.2.length_eq.symm
         have hco := compactIt_any g S c1 l.length m w2 hm hml (by omega) hnc
         rw [resolve_eq hss] at hco
         clear hst hm)
      | (go_at_call 54; refine hco.mono ?_; rintro e w3 ⟨k, rfl, hk, hr, hg3⟩))
    go_ret
    subst hk
    subst hS
    refine ⟨_, c1, rfl, hr.own It.vals_len (by omega) hg (by have := resolve_len l; omega) hcm, ?_⟩
    have h1 := below_grown hb hb.size hg2 hg
    exact below_grown h1 h1.size hg3 hg
end Go.Proofs.Ytflppcgonbjnmaa
namespace Go.Proofs.Ytflppcgonbjnmaa
open Go.RowKit
attribute [local go_sem ↓] Go.wp_at_zero Go.wp_at_succ

theorem Rd.all (w : World) (e : TypeId) (vs : List Value) (cur : Array Value) (h : cur.toList = vs) : Rd (w.alloc (.cells cur e)) (w.heap.size + 1) (some ⟨w.heap.size, 0, none⟩) vs := fun _ =>
  ⟨w.heap.size, 0, rfl, by omega, fun j hj => by
    subst h
    rw [Nat.zero_add, cell_of_row _ w.heap.size j cur e (0, 0) (heap_alloc_new w _)]
    simp at hj
    rw [Array.getElem?_eq_getElem hj, Array.getElem_toList]⟩
theorem its_get (l : List It) (i j : Nat) (hi : i < l.length) (hj : j < 7) (h : i * 7 + j < (its l).length) : (its l)[i * 7 + j] = (l[i].vals)[j]'(by rw [It.vals_len]; exact hj) := by
  have h1 := encs_get It.vals_len l i j hi ((l[i].vals)[j]'(by rw [It.vals_len]; exact hj)) (List.getElem?_eq_getElem _)
  rw [List.getElem?_eq_getElem h] at h1
  exact Option.some.inj h1
theorem Rd.it_at {w : World} {b o : Nat} {l : List It} (hc : ∀ j (h : j < (its l).length), w.cell? ⟨b, o + j, none⟩ = some (its l)[j]) (k : Nat) (hk : k < l.length) : w.cell? ⟨b, o + k * 7, none⟩ = some (.string l[k].c.row) ∧ w.cell? ⟨b, o + k * 7 + 1, none⟩ = some (.string l[k].c.col) ∧ w.cell? ⟨b, o + k * 7 + 2, none⟩ = some (.int .u64 l[k].c.ts) ∧ w.cell? ⟨b, o + k * 7 + 3, none⟩ = some (.int .u64 l[k].c.seq) ∧ w.cell? ⟨b, o + k * 7 + 4, none⟩ = some (.bool l[k].c.del) ∧ w.cell? ⟨b, o + k * 7 + 5, none⟩ = some (.string l[k].c.val) ∧ w.cell? ⟨b, o + k * 7 + 6, none⟩ = some (.int .i64 l[k].pos) := by
  have hl := its_len l
  have f : ∀ j (hj : j < 7), w.cell? ⟨b, o + k * 7 + j, none⟩ = some ((l[k].vals)[j]'(by rw [It.vals_len]; exact hj)) := fun j hj => by
    have h1 : k * 7 + j < (its l).length := by omega
    have h2 := hc (k * 7 + j) h1
    rw [its_get l k j hk hj h1] at h2
    rw [← h2]
    congr 2
    omega
  exact ⟨f 0 (by omega), f 1 (by omega), f 2 (by omega), f 3 (by omega), f 4 (by omega), f 5 (by omega), f 6 (by omega)⟩
theorem its_ne {l : List It} {k : Nat} (h : k < l.length) : its l ≠ [] := fun e => by
  have := its_len l
  rw [e] at this
  simp at this
  omega
theorem its_take {l : List It} {k : Nat} (h : k < l.length) : its (l.take k) ++ (l[k]).vals = its (l.take (k + 1)) := by
  rw [List.take_succ_eq_append_getElem h]
  show _ = (l.take k ++ [l[k]]).flatMap It.vals
  rw [List.flatMap_append, List.flatMap_singleton]
theorem Own.new0' (w : World) (e size : Nat) : Own (w.alloc (.cells #[] e)) w.heap.size e size (some ⟨w.heap.size, 0, none⟩) 0 0 [] :=
  ⟨by simp, .inr ⟨w.heap.size, 0, #[], rfl, Nat.le_refl _, heap_alloc_new w _, Nat.le_refl _, by unfold maxLen; omega, by simp, by simp⟩⟩

set_option maxHeartbeats 4000000 in
theorem its_any (A : Option Addr) (c : Nat) (l : List It) (w : World) (hl : Rd w w.heap.size A (its l)) (hlen : l.length ≤ 1000000) :
    Calls Try.prog 18 #[.slice A l.length c] w fun e w' => ∃ (A' : Option Addr) (c' : Nat), e = .returned (.slice A' l.length c') ∧ Own w' w.heap.size 56 7 A' l.length c' (its l) ∧ Below w.heap.size w w' := by
  obtain ⟨i0, hi0, hz0, hz1, hz2⟩ := info_parts refItemInfo
  have HL := Lib.hid hl
  obtain ⟨N, hN⟩ : ∃ N, l.length = N := ⟨_, rfl⟩
  have HN := Lib.hid hN
  rw [hN] at hlen ⊢
  have HB0 := Lib.hid ((Below.refl w.heap.size w).alloc (Nat.le_refl _) (.cells #[] 56))
  have HO0 := Lib.hid (Own.new0' w 56 7)
  clear hl hN
  go_enter Try.func18, Try.ntmps18
  go_wp2
  go_loopw [3, 4] (fun vo vi wr => ∃ (k : Nat) (Ao : Option Addr) (co : Nat), k ≤ N ∧ vo = .slice Ao k co ∧ vi = .int .i64 (k : Int) ∧ Hid (Own wr w.heap.size 56 7 Ao k co (its (l.take k))) ∧ Hid (Below w.heap.size w wr)) (fun _ vi _ => N - (intOf vi).toNat)
  case atStart => exact ⟨0, _, 0, Nat.zero_le _, rfl, rfl, HO0, HB0⟩
  case round =>
    obtain ⟨k, Ao, co, hk, rfl, rfl, HO, HB⟩ := hrel
    by_cases hlt : k < N
    · have hkl : k < l.length := by rw [HN.out]; exact hlt
      obtain ⟨b, o, rfl, hb, hc⟩ := (HL.out.below HB.out).at_ (its_ne hkl)
      obtain ⟨z0, z1, z2, z3, z4, z5, z6⟩ := Rd.it_at hc k hkl
      have e1 : decide ((k : Int) < (N : Int)) = true := decide_eq_true (by omega)
      have k1 : (0 : Int) ≤ (k : Int) := by omega
      have k2 : (k : Int) < (N : Int) := by omega
      have hz := HB.out.size
      have HT := Lib.hid (its_take hkl)
      have hw3 : IntKind.i64.wrap ((k : Int) + 1) = ((k + 1 : Nat) : Int) := by rw [IntWalk.i64_in _ (by omega)]; omega
      clear hc
      go_wp2_with (first
        | (at_builtin; go_loud (refine wpList_app _ rfl _ _ _ rfl w.heap.size 56 i0 zeroItem 7 80 Try.underlying40 hi0 hz0 hz1 hz2 rfl (by decide) _ _ _ _ rfl (Own.alloc HO.out _) _ _ 1 _ (l[k]).vals rfl (Rd.all _ _ _ _ rfl) rfl (l[k]).one (by unfold maxLen; omega) (by omega) (by rw [World.size_alloc]; omega) ?_); intro A4 c4 w4 ho4 hg4 hat4
           rw [HT.out] at ho4
           have HO4 := Lib.hid ho4
           have HB4 := Lib.hid ((Own.alloc HO.out _).grow (HB.out.alloc hz _) (by rw [World.size_alloc]; omega) (Nat.le_refl _) hg4)
           clear ho4 hg4 hat4))
      exact ⟨⟨k + 1, A4, c4, by omega, rfl, rfl, HO4, HB4⟩, by simp [intOf]; omega⟩
    · have e1 : decide ((k : Int) < (N : Int)) = false := decide_eq_false (by omega)
      have hkN : k = N := by omega
      have HK := Lib.hid hkN
      clear hkN
      go_wp2
      go_ret
      have := HO.out
      rw [HK.out, ← HN.out, List.take_length] at this
      exact ⟨Ao, co, by rw [← HK.out]; rfl, by rwa [HN.out] at this, HB.out⟩

def itemsFrom : Nat → List Cl → List It
  | _, [] => []
  | k, c :: l => ⟨c, k⟩ :: itemsFrom (k + 1) l
/-- cells, each with its place -/
def items (l : List Cl) : List It := itemsFrom 0 l
theorem itemsFrom_snoc : ∀ (l : List Cl) (k : Nat) (c : Cl), itemsFrom k (l ++ [c]) = itemsFrom k l ++ [⟨c, ((k + l.length : Nat) : Int)⟩]
  | [], k, c => by simp [itemsFrom]
  | x :: l, k, c => by
    rw [List.cons_append, itemsFrom, itemsFrom_snoc l (k + 1) c]
    simp only [itemsFrom, List.cons_append, List.length_cons]
    rw [show k + 1 + l.length = k + (l.length + 1) by omega]
theorem items_take {l : List Cl} {k : Nat} (h : k < l.length) : its (items (l.take k)) ++ (⟨l[k], (k : Int)⟩ : It).vals = its (items (l.take (k + 1))) := by
  rw [List.take_succ_eq_append_getElem h]
  unfold items
  rw [itemsFrom_snoc, List.length_take, Nat.min_eq_left (Nat.le_of_lt h), Nat.zero_add]
  show _ = (itemsFrom 0 (l.take k) ++ [(⟨l[k], (k : Int)⟩ : It)]).flatMap It.vals
  rw [List.flatMap_append, List.flatMap_singleton]
theorem itemsFrom_length : ∀ (l : List Cl) (k : Nat), (itemsFrom k l).length = l.length
  | [], _ => rfl
  | x :: l, k => by rw [itemsFrom, List.length_cons, itemsFrom_length l, List.length_cons]
theorem items_length (l : List Cl) : (items l).length = l.length := itemsFrom_length l 0
theorem cells_take {l : List It} {k : Nat} (h : k < l.length) : vals ((l.take k).map (·.c)) ++ (l[k].c).vals = vals ((l.take (k + 1)).map (·.c)) := by
  rw [List.take_succ_eq_append_getElem h]
  unfold vals
  rw [List.map_append, List.flatMap_append, List.map_singleton, List.flatMap_singleton]
theorem cl_one (c : Cl) : ∀ u ∈ c.vals, u.oneCell' = true := by
  intro u hu
  simp only [Cl.vals, List.mem_cons, List.not_mem_nil, or_false] at hu
  rcases hu with rfl | rfl | rfl | rfl | rfl | rfl <;> rfl

set_option maxHeartbeats 4000000 in
theorem cells_any (A : Option Addr) (c : Nat) (l : List It) (w : World) (hl : Rd w w.heap.size A (its l)) (hlen : l.length ≤ 1759218604441) :
    Calls Try.prog 27 #[.slice A l.length c] w fun e w' => ∃ (A' : Option Addr) (c' : Nat), e = .returned (.slice A' l.length c') ∧ Own w' w.heap.size 53 6 A' l.length c' (vals (l.map (·.c))) ∧ Below w.heap.size w w' := by
  obtain ⟨i0, hi0, hz0, hz1, hz2⟩ := info_parts cellInfo
  have HL := Lib.hid hl
  obtain ⟨N, hN⟩ : ∃ N, l.length = N := ⟨_, rfl⟩
  have HN := Lib.hid hN
  rw [hN] at hlen ⊢
  have HB0 := Lib.hid ((Below.refl w.heap.size w).alloc (Nat.le_refl _) (.cells #[] 53))
  have HO0 := Lib.hid (Own.new0' w 53 6)
  clear hl hN
  go_enter Try.func27, Try.ntmps27
  go_wp2
  go_loopw [3, 4] (fun vo vi wr => ∃ (k : Nat) (Ao : Option Addr) (co : Nat), k ≤ N ∧ vo = .slice Ao k co ∧ vi = .int .i64 (k : Int) ∧ Hid (Own wr w.heap.size 53 6 Ao k co (vals ((l.take k).map (·.c)))) ∧ Hid (Below w.heap.size w wr)) (fun _ vi _ => N - (intOf vi).toNat)
  case atStart => exact ⟨0, _, 0, Nat.zero_le _, rfl, rfl, HO0, HB0⟩
  case round =>
    obtain ⟨k, Ao, co, hk, rfl, rfl, HO, HB⟩ := hrel
    by_cases hlt : k < N
    · have hkl : k < l.length := by rw [HN.out]; exact hlt
      obtain ⟨b, o, rfl, hb, hc⟩ := (HL.out.below HB.out).at_ (its_ne hkl)
      obtain ⟨z0, z1, z2, z3, z4, z5, z6⟩ := Rd.it_at hc k hkl
      have e1 : decide ((k : Int) < (N : Int)) = true := decide_eq_true (by omega)
      have k1 : (0 : Int) ≤ (k : Int) := by omega
      have k2 : (k : Int) < (N : Int) := by omega
      have hz := HB.out.size
      have HT := Lib.hid (cells_take hkl)
      have hw3 : IntKind.i64.wrap ((k : Int) + 1) = ((k + 1 : Nat) : Int) := by rw [IntWalk.i64_in _ (by omega)]; omega
      clear hc
      go_wp2_with (first
        | (at_builtin; go_loud (refine wpList_app _ rfl _ _ _ rfl w.heap.size 53 i0 zeroCell 6 72 Try.underlying22 hi0 hz0 hz1 hz2 rfl (by decide) _ _ _ _ rfl (Own.alloc HO.out _) _ _ 1 _ (l[k].c).vals rfl (Rd.all _ _ _ _ rfl) rfl (cl_one l[k].c) (by unfold maxLen; omega) (by omega) (by rw [World.size_alloc]; omega) ?_); intro A4 c4 w4 ho4 hg4 hat4
           rw [HT.out] at ho4
           have HO4 := Lib.hid ho4
           have HB4 := Lib.hid ((Own.alloc HO.out _).grow (HB.out.alloc hz _) (by rw [World.size_alloc]; omega) (Nat.le_refl _) hg4)
           clear ho4 hg4 hat4))
      exact ⟨⟨k + 1, A4, c4, by omega, rfl, rfl, HO4, HB4⟩, by simp [intOf]; omega⟩
    · have e1 : decide ((k : Int) < (N : Int)) = false := decide_eq_false (by omega)
      have hkN : k = N := by omega
      have HK := Lib.hid hkN
      clear hkN
      go_wp2
      go_ret
      have := HO.out
      rw [HK.out, ← HN.out, List.take_length] at this
      exact ⟨Ao, co, by rw [← HK.out]; rfl, by rwa [HN.out] at this, HB.out⟩

set_option maxHeartbeats 4000000 in
theorem refItems_any (A : Option Addr) (c : Nat) (l : List Cl) (w : World) (hl : Rd w w.heap.size A (vals l)) (hlen : l.length ≤ 1000000) :
    Calls Try.prog 42 #[.slice A l.length c] w fun e w' => ∃ (A' : Option Addr) (c' : Nat), e = .returned (.slice A' l.length c') ∧ Own w' w.heap.size 56 7 A' l.length c' (its (items l)) ∧ Below w.heap.size w w' := by
  obtain ⟨i0, hi0, hz0, hz1, hz2⟩ := info_parts refItemInfo
  have HL := Lib.hid hl
  obtain ⟨N, hN⟩ : ∃ N, l.length = N := ⟨_, rfl⟩
  have HN := Lib.hid hN
  rw [hN] at hlen ⊢
  have HB0 := Lib.hid ((Below.refl w.heap.size w).alloc (Nat.le_refl _) (.cells #[] 56))
  have HO0 := Lib.hid (Own.new0' w 56 7)
  clear hl hN
  go_enter Try.func42, Try.ntmps42
  go_wp2
  go_loopw [3, 4] (fun vo vi wr => ∃ (k : Nat) (Ao : Option Addr) (co : Nat), k ≤ N ∧ vo = .slice Ao k co ∧ vi = .int .i64 (k : Int) ∧ Hid (Own wr w.heap.size 56 7 Ao k co (its (items (l.take k)))) ∧ Hid (Below w.heap.size w wr)) (fun _ vi _ => N - (intOf vi).toNat)
  case atStart => exact ⟨0, _, 0, Nat.zero_le _, rfl, rfl, HO0, HB0⟩
  case round =>
    obtain ⟨k, Ao, co, hk, rfl, rfl, HO, HB⟩ := hrel
    by_cases hlt : k < N
    · have hkl : k < l.length := by rw [HN.out]; exact hlt
      obtain ⟨b, o, rfl, hb, hc⟩ := (HL.out.below HB.out).at_ (vals_ne hkl)
      obtain ⟨z0, z1, z2, z3, z4, z5⟩ := Rd.cell_at (_B := 0) hc k hkl
      have e1 : decide ((k : Int) < (N : Int)) = true := decide_eq_true (by omega)
      have k1 : (0 : Int) ≤ (k : Int) := by omega
      have k2 : (k : Int) < (N : Int) := by omega
      have hz := HB.out.size
      have HT := Lib.hid (items_take hkl)
      have hw3 : IntKind.i64.wrap ((k : Int) + 1) = ((k + 1 : Nat) : Int) := by rw [IntWalk.i64_in _ (by omega)]; omega
      clear hc
      go_wp2_with (first
        | (at_builtin; go_loud (refine wpList_app _ rfl _ _ _ rfl w.heap.size 56 i0 zeroItem 7 80 Try.underlying40 hi0 hz0 hz1 hz2 rfl (by decide) _ _ _ _ rfl (Own.alloc HO.out _) _ _ 1 _ (⟨l[k], (k : Int)⟩ : It).vals rfl (Rd.all _ _ _ _ rfl) rfl (It.one ⟨l[k], (k : Int)⟩) (by unfold maxLen; omega) (by omega) (by rw [World.size_alloc]; omega) ?_); intro A4 c4 w4 ho4 hg4 hat4
           rw [HT.out] at ho4
           have HO4 := Lib.hid ho4
           have HB4 := Lib.hid ((Own.alloc HO.out _).grow (HB.out.alloc hz _) (by rw [World.size_alloc]; omega) (Nat.le_refl _) hg4)
           clear ho4 hg4 hat4))
      exact ⟨⟨k + 1, A4, c4, by omega, rfl, rfl, HO4, HB4⟩, by simp [intOf]; omega⟩
    · have e1 : decide ((k : Int) < (N : Int)) = false := decide_eq_false (by omega)
      have hkN : k = N := by omega
      have HK := Lib.hid hkN
      clear hkN
      go_wp2
      go_ret
      have := HO.out
      rw [HK.out, ← HN.out, List.take_length] at this
      exact ⟨Ao, co, by rw [← HK.out]; rfl, by rwa [HN.out] at this, HB.out⟩
end Go.Proofs.Ytflppcgonbjnmaa
namespace Go.Proofs.Ytflppcgonbjnmaa
open Go.RowKit
attribute [local go_sem ↓] Go.wp_at_zero Go.wp_at_succ

theorem Rd.all' (w : World) (e : TypeId) (vs : List Value) (cur : Array Value) (n : Nat) (hn : w.heap.size = n) (h : cur.toList = vs) : Rd (w.alloc (.cells cur e)) (n + 1) (some ⟨n, 0, none⟩) vs := by
  subst hn
  exact Rd.all w e vs cur h

set_option maxHeartbeats 4000000 in
theorem items_any (A : Option Addr) (c : Nat) (l : List Cl) (w : World) (hl : Rd w w.heap.size A (vals l)) (hlen : l.length ≤ 1000000) :
    Calls Try.prog 40 #[.slice A l.length c] w fun e w' => ∃ (A' : Option Addr) (c' : Nat), e = .returned (.slice A' l.length c') ∧ Own w' w.heap.size 59 7 A' l.length c' (its (items l)) ∧ Below w.heap.size w w' := by
  obtain ⟨i0, hi0, hz0, hz1, hz2⟩ := info_parts itemInfo
  have HL := Lib.hid hl
  obtain ⟨N, hN⟩ : ∃ N, l.length = N := ⟨_, rfl⟩
  have HN := Lib.hid hN
  rw [hN] at hlen ⊢
  have HB0 := Lib.hid (Below.refl w.heap.size w)
  have HO0 : Hid (Own w w.heap.size 59 7 none 0 0 (its (items (l.take 0)))) := Own.nil
  clear hl hN
  go_enter Try.func40, Try.ntmps40
  go_wp2
  go_loopw [2, 7] (fun vo vi wr => ∃ (k : Nat) (Ao : Option Addr) (co : Nat), k ≤ N ∧ vo = .slice Ao k co ∧ vi = .int .i64 (k : Int) ∧ Hid (Own wr w.heap.size 59 7 Ao k co (its (items (l.take k)))) ∧ Hid (Below w.heap.size w wr)) (fun _ vi _ => N - (intOf vi).toNat)
  case atStart => exact ⟨0, _, 0, Nat.zero_le _, rfl, rfl, HO0, HB0⟩
  case round =>
    obtain ⟨k, Ao, co, hk, rfl, rfl, HO, HB⟩ := hrel
    by_cases hlt : k < N
    · have hkl : k < l.length := by rw [HN.out]; exact hlt
      obtain ⟨b, o, rfl, hb, hc⟩ := (HL.out.below HB.out).at_ (vals_ne hkl)
      obtain ⟨z0, z1, z2, z3, z4, z5⟩ := Rd.cell_at (_B := 0) hc k hkl
      have e1 : decide ((k : Int) < (N : Int)) = true := decide_eq_true (by omega)
      have k1 : (0 : Int) ≤ (k : Int) := by omega
      have k2 : (k : Int) < (N : Int) := by omega
      have hz := HB.out.size
      have HT := Lib.hid (items_take hkl)
      have hw3 : IntKind.i64.wrap ((k : Int) + 1) = ((k + 1 : Nat) : Int) := by rw [IntWalk.i64_in _ (by omega)]; omega
      clear hc
      go_wp2_with (first
        | (at_builtin; go_loud (refine wpList_app _ rfl _ _ _ rfl w.heap.size 59 i0 zeroItem 7 80 Try.underlying32 hi0 hz0 hz1 hz2 rfl (by decide) _ _ _ _ rfl (Own.alloc (Own.alloc HO.out _) _) _ _ 1 _ (⟨l[k], (k : Int)⟩ : It).vals rfl (Rd.all' _ _ _ _ (wr.heap.size + 1) (World.size_alloc _ _) rfl) rfl (It.one ⟨l[k], (k : Int)⟩) (by unfold maxLen; omega) (by omega) (by rw [World.size_alloc, World.size_alloc]; omega) ?_); intro A4 c4 w4 ho4 hg4 hat4
           rw [HT.out] at ho4
           have HO4 := Lib.hid ho4
           have HB4 := Lib.hid ((Own.alloc (Own.alloc HO.out _) _).grow ((HB.out.alloc hz _).alloc (by rw [World.size_alloc]; omega) _) (by rw [World.size_alloc, World.size_alloc]; omega) (Nat.le_refl _) hg4)
           clear ho4 hg4 hat4))
      exact ⟨⟨k + 1, A4, c4, by omega, rfl, rfl, HO4, HB4⟩, by simp [intOf]; omega⟩
    · have e1 : decide ((k : Int) < (N : Int)) = false := decide_eq_false (by omega)
      have hkN : k = N := by omega
      have HK := Lib.hid hkN
      clear hkN
      go_wp2
      go_ret
      have := HO.out
      rw [HK.out, ← HN.out, List.take_length] at this
      exact ⟨Ao, co, by rw [← HK.out]; rfl, by rwa [HN.out] at this, HB.out⟩
end Go.Proofs.Ytflppcgonbjnmaa
namespace Go.Proofs.Ytflppcgonbjnmaa
open Go.RowKit
attribute [local go_sem ↓] Go.wp_at_zero Go.wp_at_succ

theorem Rd.it_range {w : World} {b o : Nat} {l : List It} (hc : ∀ j (h : j < (its l).length), w.cell? ⟨b, o + j, none⟩ = some (its l)[j]) (k : Nat) (hk : k < l.length) : w.rangeAt b (o + k * 7) l[k].vals := fun j v hv => by
  have hj := (List.getElem?_eq_some_iff.1 hv).1
  have h1 := encs_get It.vals_len l k j hk v hv
  have h2 := (List.getElem?_eq_some_iff.1 h1).1
  rw [Nat.add_assoc, hc (k * 7 + j) h2]
  rw [List.getElem?_eq_getElem h2] at h1
  exact h1
/-- each coordinate is above the one ahead of it -/
def sortedB : List It → Bool
  | [] => true
  | [_] => true
  | a :: b :: l => decide (cc a b < 0) && sortedB (b :: l)
def sortTo (l : List It) (k : Nat) : Prop := ∀ i (h : i + 1 < l.length), i + 1 < k → cc l[i] l[i + 1] < 0
theorem sortedB_iff : ∀ l : List It, sortedB l = true ↔ ∀ i (h : i + 1 < l.length), cc l[i] l[i + 1] < 0
  | [] => by simp [sortedB]
  | [_] => by simp [sortedB]
  | a :: b :: l => by
    rw [sortedB, Bool.and_eq_true, sortedB_iff (b :: l), decide_eq_true_iff]
    constructor
    · rintro ⟨h0, h⟩ i hi
      cases i with
      | zero => exact h0
      | succ i => exact h i (by simpa using hi)
    · intro h
      exact ⟨h 0 (by simp), fun i hi => h (i + 1) (by simpa using hi)⟩
theorem sortTo_le {l : List It} {k : Nat} (hk : k ≤ 1) : sortTo l k := fun i h hi => by omega
theorem sortTo_succ {l : List It} {j k : Nat} (h : sortTo l k) (e : k = j + 1) (hj : j < l.length) (hk : k < l.length) (hc : cc l[j] l[k] < 0) : sortTo l (k + 1) := fun i hi hik => by
  subst e
  by_cases e : i = j
  · subst e; exact hc
  · exact h i hi (by omega)
theorem sortTo_end {l : List It} {k : Nat} (h : sortTo l k) (hk : l.length ≤ k) : true = sortedB l := by
  symm
  rw [sortedB_iff]
  exact fun i hi => h i hi (by omega)
theorem sortTo_not {l : List It} {j k : Nat} (e : k = j + 1) (hj : j < l.length) (hk : k < l.length) (hc : ¬ cc l[j] l[k] < 0) : false = sortedB l := by
  subst e
  symm
  rw [Bool.eq_false_iff]
  intro h
  exact hc ((sortedB_iff l).1 h j hk)
theorem strict_sorted {l : List It} (h : Strict l) : sortedB l = true := by
  rw [sortedB_iff]
  intro i hi
  exact List.pairwise_iff_getElem.1 h i (i + 1) (by omega) hi (by omega)
/-- how the two tests tell it -/
theorem cc_of_tests {x y : It} (h : x.cmp y < 0) (hs : x.c.same y.c = false) : cc x y < 0 := by
  rw [cc_same, decide_eq_false_iff_not] at hs
  rwa [it_cmp_eq, if_neg hs] at h
theorem cc_not_cmp {x y : It} (h : ¬ x.cmp y < 0) : ¬ cc x y < 0 := fun k => h (by rw [it_cmp_eq, if_neg (by omega)]; exact k)
theorem cc_not_same {x y : It} (h : x.c.same y.c = true) : ¬ cc x y < 0 := by
  rw [cc_same, decide_eq_true_iff] at h
  omega

set_option maxHeartbeats 4000000 in
theorem runsSorted_any (A : Option Addr) (c : Nat) (l : List It) (w : World) (hl : Rd w w.heap.size A (its l)) (hlen : l.length ≤ 1000000) :
    Calls Try.prog 45 #[.slice A l.length c] w fun e w' => e = .returned (.bool (sortedB l)) ∧ Below w.heap.size w w' := by
  have HL := Lib.hid hl
  obtain ⟨N, hN⟩ : ∃ N, l.length = N := ⟨_, rfl⟩
  have HN := Lib.hid hN
  rw [hN] at hlen ⊢
  clear hl hN
  go_enter Try.func45, Try.ntmps45
  go_wp2
  go_loopw [6] (fun vi wr => ∃ (k : Nat), k ≤ N ∧ vi = .int .i64 (k : Int) ∧ Hid (sortTo l k) ∧ Hid (Below w.heap.size w wr)) (fun vi _ => N - (intOf vi).toNat)
  case atStart => exact ⟨0, Nat.zero_le _, rfl, Lib.hid (sortTo_le (by omega)), Lib.hid (Below.refl _ _)⟩
  case round =>
    obtain ⟨k, hk, rfl, HS, HB⟩ := hrel
    by_cases hlt : k < N
    · have hkl : k < l.length := by rw [HN.out]; exact hlt
      have e1 : decide ((k : Int) < (N : Int)) = true := decide_eq_true (by omega)
      have k1 : (0 : Int) ≤ (k : Int) := by omega
      have k2 : (k : Int) < (N : Int) := by omega
      have hw3 : IntKind.i64.wrap ((k : Int) + 1) = ((k + 1 : Nat) : Int) := by rw [IntWalk.i64_in _ (by omega)]; omega
      obtain ⟨b, o, rfl, hb, hc⟩ := (HL.out.below HB.out).at_ (its_ne hkl)
      have hz := HB.out.size
      by_cases hk0 : k = 0
      · have hd : decide (0 < k) = false := by simp; omega
        have HF := Lib.hid (show sortTo l (k + 1) from sortTo_le (by omega))
        have HC : True := trivial
        clear hk0 hc
        go_wp2
        refine region_wz (fun W' => True) none (by kernel_rfl) ?_
        apply WZ.take (i := 0) (some 9) rfl rfl (by kernel_rfl) (by kernel_rfl) (by kernel_rfl) (calm_panic _) (by kernel_rfl)
        case hy => (refine .inl ⟨by kernel_rfl, fun W hC => ?_⟩; (try dsimp only at hC); go_simp; (try simp only [hd]); rfl)
        case hC => exact HC
        case ha => (simp only [Act.put, List.setIfInBounds_toArray, List.set_cons_zero, List.set_cons_succ]; rfl)
        apply WZ.take (i := 1) (some 10) rfl rfl (by kernel_rfl) (by kernel_rfl) (by kernel_rfl) (calm_panic _) (by kernel_rfl)
        case hy => (refine .inl ⟨by kernel_rfl, fun W hC => ?_⟩; (try dsimp only at hC); go_simp; (try simp only [hd]); rfl)
        case hC => exact HC
        case ha => (simp only [Act.put, List.setIfInBounds_toArray, List.set_cons_zero, List.set_cons_succ]; rfl)
        apply WZ.take (i := 2) (some 11) rfl rfl (by kernel_rfl) (by kernel_rfl) (by kernel_rfl) (calm_panic _) (by kernel_rfl)
        case hy => (refine .inl ⟨by kernel_rfl, fun W hC => ?_⟩; (try dsimp only at hC); go_simp; (try simp only [hd]); rfl)
        case hC => exact HC
        case ha => (simp only [Act.put, List.setIfInBounds_toArray, List.set_cons_zero, List.set_cons_succ]; rfl)
        apply WZ.take (i := 3) (some 12) rfl rfl (by kernel_rfl) (by kernel_rfl) (by kernel_rfl) (calm_panic _) (by kernel_rfl)
        case hy => exact .inr ⟨by kernel_rfl, rfl⟩
        case hC => exact HC
        case ha => (simp only [Act.put, List.setIfInBounds_toArray, List.set_cons_zero, List.set_cons_succ]; rfl)
        apply WZ.take (i := 4) (some 13) rfl rfl (by kernel_rfl) (by kernel_rfl) (by kernel_rfl) (calm_panic _) (by kernel_rfl)
        case hy => exact .inr ⟨by kernel_rfl, rfl⟩
        case hC => exact HC
        case ha => (simp only [Act.put, List.setIfInBounds_toArray, List.set_cons_zero, List.set_cons_succ]; rfl)
        apply WZ.take (i := 5) (some 14) rfl rfl (by kernel_rfl) (by kernel_rfl) (by kernel_rfl) (calm_panic _) (by kernel_rfl)
        case hy => exact .inr ⟨by kernel_rfl, rfl⟩
        case hC => exact HC
        case ha => (simp only [Act.put, List.setIfInBounds_toArray, List.set_cons_zero, List.set_cons_succ]; rfl)
        apply WZ.take (i := 6) (some 15) rfl rfl (by kernel_rfl) (by kernel_rfl) (by kernel_rfl) (calm_panic _) (by kernel_rfl)
        case hy => exact .inr ⟨by kernel_rfl, rfl⟩
        case hC => exact HC
        case ha => (simp only [Act.put, List.setIfInBounds_toArray, List.set_cons_zero, List.set_cons_succ]; rfl)
        apply WZ.take (i := 7) (some 16) rfl rfl (by kernel_rfl) (by kernel_rfl) (by kernel_rfl) (calm_panic _) (by kernel_rfl)
        case hy => exact .inr ⟨by kernel_rfl, rfl⟩
        case hC => exact HC
        case ha => (simp only [Act.put, List.setIfInBounds_toArray, List.set_cons_zero, List.set_cons_succ]; rfl)
        apply WZ.take (i := 8) (some 17) rfl rfl (by kernel_rfl) (by kernel_rfl) (by kernel_rfl) (calm_panic _) (by kernel_rfl)
        case hy => exact .inr ⟨by kernel_rfl, rfl⟩
        case hC => exact HC
        case ha => (simp only [Act.put, List.setIfInBounds_toArray, List.set_cons_zero, List.set_cons_succ]; rfl)
        apply WZ.take (i := 9) (some 18) rfl rfl (by kernel_rfl) (by kernel_rfl) (by kernel_rfl) (calm_panic _) (by kernel_rfl)
        case hy => exact .inr ⟨by kernel_rfl, rfl⟩
        case hC => exact HC
        case ha => (simp only [Act.put, List.setIfInBounds_toArray, List.set_cons_zero, List.set_cons_succ]; rfl)
        apply WZ.take (i := 10) (some 19) rfl rfl (by kernel_rfl) (by kernel_rfl) (by kernel_rfl) (calm_panic _) (by kernel_rfl)
        case hy => exact .inr ⟨by kernel_rfl, rfl⟩
        case hC => exact HC
        case ha => (simp only [Act.put, List.setIfInBounds_toArray, List.set_cons_zero, List.set_cons_succ]; rfl)
        apply WZ.take (i := 11) (some 20) rfl rfl (by kernel_rfl) (by kernel_rfl) (by kernel_rfl) (calm_panic _) (by kernel_rfl)
        case hy => exact .inr ⟨by kernel_rfl, rfl⟩
        case hC => exact HC
        case ha => (simp only [Act.put, List.setIfInBounds_toArray, List.set_cons_zero, List.set_cons_succ]; rfl)
        apply WZ.take (i := 12) (some 21) rfl rfl (by kernel_rfl) (by kernel_rfl) (by kernel_rfl) (calm_panic _) (by kernel_rfl)
        case hy => exact .inr ⟨by kernel_rfl, rfl⟩
        case hC => exact HC
        case ha => (simp only [Act.put, List.setIfInBounds_toArray, List.set_cons_zero, List.set_cons_succ]; rfl)
        apply WZ.take (i := 13) (some 22) rfl rfl (by kernel_rfl) (by kernel_rfl) (by kernel_rfl) (calm_panic _) (by kernel_rfl)
        case hy => exact .inr ⟨by kernel_rfl, rfl⟩
        case hC => exact HC
        case ha => (simp only [Act.put, List.setIfInBounds_toArray, List.set_cons_zero, List.set_cons_succ]; rfl)
        apply WZ.take (i := 14) (some 23) rfl rfl (by kernel_rfl) (by kernel_rfl) (by kernel_rfl) (calm_panic _) (by kernel_rfl)
        case hy => exact .inr ⟨by kernel_rfl, rfl⟩
        case hC => exact HC
        case ha => (simp only [Act.put, List.setIfInBounds_toArray, List.set_cons_zero, List.set_cons_succ]; rfl)
        apply WZ.take (i := 15) (some 24) rfl rfl (by kernel_rfl) (by kernel_rfl) (by kernel_rfl) (calm_panic _) (by kernel_rfl)
        case hy => exact .inr ⟨by kernel_rfl, rfl⟩
        case hC => exact HC
        case ha => (simp only [Act.put, List.setIfInBounds_toArray, List.set_cons_zero, List.set_cons_succ]; rfl)
        apply WZ.take (i := 16) (some 25) rfl rfl (by kernel_rfl) (by kernel_rfl) (by kernel_rfl) (calm_panic _) (by kernel_rfl)
        case hy => exact .inr ⟨by kernel_rfl, rfl⟩
        case hC => exact HC
        case ha => (simp only [Act.put, List.setIfInBounds_toArray, List.set_cons_zero, List.set_cons_succ]; rfl)
        apply WZ.take (i := 17) (some 26) rfl rfl (by kernel_rfl) (by kernel_rfl) (by kernel_rfl) (calm_panic _) (by kernel_rfl)
        case hy => exact .inr ⟨by kernel_rfl, rfl⟩
        case hC => exact HC
        case ha => (simp only [Act.put, List.setIfInBounds_toArray, List.set_cons_zero, List.set_cons_succ]; rfl)
        apply WZ.take (i := 18) (some 27) rfl rfl (by kernel_rfl) (by kernel_rfl) (by kernel_rfl) (calm_panic _) (by kernel_rfl)
        case hy => exact .inr ⟨by kernel_rfl, rfl⟩
        case hC => exact HC
        case ha => (simp only [Act.put, List.setIfInBounds_toArray, List.set_cons_zero, List.set_cons_succ]; rfl)
        apply WZ.take (i := 19) (some 28) rfl rfl (by kernel_rfl) (by kernel_rfl) (by kernel_rfl) (calm_panic _) (by kernel_rfl)
        case hy => exact .inr ⟨by kernel_rfl, rfl⟩
        case hC => exact HC
        case ha => (simp only [Act.put, List.setIfInBounds_toArray, List.set_cons_zero, List.set_cons_succ]; rfl)
        apply WZ.take (i := 20) (some 29) rfl rfl (by kernel_rfl) (by kernel_rfl) (by kernel_rfl) (calm_panic _) (by kernel_rfl)
        case hy => exact .inr ⟨by kernel_rfl, rfl⟩
        case hC => exact HC
        case ha => (simp only [Act.put, List.setIfInBounds_toArray, List.set_cons_zero, List.set_cons_succ]; rfl)
        apply WZ.take (i := 21) (some 30) rfl rfl (by kernel_rfl) (by kernel_rfl) (by kernel_rfl) (calm_panic _) (by kernel_rfl)
        case hy => exact .inr ⟨by kernel_rfl, rfl⟩
        case hC => exact HC
        case ha => (simp only [Act.put, List.setIfInBounds_toArray, List.set_cons_zero, List.set_cons_succ]; rfl)
        apply WZ.take (i := 22) (some 31) rfl rfl (by kernel_rfl) (by kernel_rfl) (by kernel_rfl) (calm_panic _) (by kernel_rfl)
        case hy => exact .inr ⟨by kernel_rfl, rfl⟩
        case hC => exact HC
        case ha => (simp only [Act.put, List.setIfInBounds_toArray, List.set_cons_zero, List.set_cons_succ]; rfl)
        apply WZ.take (i := 23) (some 32) rfl rfl (by kernel_rfl) (by kernel_rfl) (by kernel_rfl) (calm_panic _) (by kernel_rfl)
        case hy => exact .inr ⟨by kernel_rfl, rfl⟩
        case hC => exact HC
        case ha => (simp only [Act.put, List.setIfInBounds_toArray, List.set_cons_zero, List.set_cons_succ]; rfl)
        apply WZ.take (i := 24) (some 33) rfl rfl (by kernel_rfl) (by kernel_rfl) (by kernel_rfl) (calm_panic _) (by kernel_rfl)
        case hy => exact .inr ⟨by kernel_rfl, rfl⟩
        case hC => exact HC
        case ha => (simp only [Act.put, List.setIfInBounds_toArray, List.set_cons_zero, List.set_cons_succ]; rfl)
        apply WZ.take (i := 25) (some 34) rfl rfl (by kernel_rfl) (by kernel_rfl) (by kernel_rfl) (calm_panic _) (by kernel_rfl)
        case hy => exact .inr ⟨by kernel_rfl, rfl⟩
        case hC => exact HC
        case ha => (simp only [Act.put, List.setIfInBounds_toArray, List.set_cons_zero, List.set_cons_succ]; rfl)
        apply WZ.take (i := 26) (some 35) rfl rfl (by kernel_rfl) (by kernel_rfl) (by kernel_rfl) (calm_panic _) (by kernel_rfl)
        case hy => (refine .inl ⟨by kernel_rfl, fun W hC => ?_⟩; (try dsimp only at hC); go_simp; (try simp only [hd]); rfl)
        case hC => exact HC
        case ha => (simp only [Act.put, List.setIfInBounds_toArray, List.set_cons_zero, List.set_cons_succ]; rfl)
        refine WZ.done (by kernel_rfl) ?_ _
        simp only [Calm, Exit.then]
        go_wp2
        exact ⟨⟨k + 1, by omega, rfl, HF, Lib.hid (below_drewN' HB.out 1)⟩, by simp [intOf]; omega⟩
      · obtain ⟨j, hj⟩ : ∃ j, k = j + 1 := ⟨k - 1, by omega⟩
        have hjl : j < l.length := by omega
        have hd : decide (0 < k) = true := by simp; omega
        have hd1 : IntKind.i64.wrap ((k : Int) - 1) = (j : Int) := by rw [IntWalk.i64_in _ (by omega)]; omega
        have k3 : (0 : Int) ≤ (j : Int) := by omega
        have k4 : (j : Int) < (N : Int) := by omega
        have r1 := Rd.it_range hc j hjl
        have r2 := Rd.it_range hc k hkl
        have hstep := fun h => sortTo_succ HS.out hj hjl hkl h
        have hnot := fun h => sortTo_not hj hjl hkl h
        obtain ⟨x, hx⟩ : ∃ x, l[j] = x := ⟨_, rfl⟩
        obtain ⟨y, hy⟩ : ∃ y, l[k] = y := ⟨_, rfl⟩
        rw [hx] at r1 hstep hnot
        rw [hy] at r2 hstep hnot
        have HSTEP := Lib.hid hstep
        have HNOT := Lib.hid hnot
        have HC : wr.drew.rangeAt b (o + j * 7) x.vals ∧ wr.drew.rangeAt b (o + k * 7) y.vals := ⟨r1, r2⟩
        clear hc r1 r2 hstep hnot hx hy hk0 hj
        by_cases hcmp : x.cmp y < 0
        · have hcd : decide (0 ≤ x.cmp y) = false := decide_eq_false (by omega)
          have hcn : ¬ 0 ≤ x.cmp y := by omega
          have HCMP := Lib.hid hcmp
          cases hs : x.c.same y.c with
          | true =>
            have HF := Lib.hid (HNOT.out (cc_not_same hs))
            go_wp2
            refine region_wz (fun W' => W'.rangeAt b (o + j * 7) x.vals ∧ W'.rangeAt b (o + k * 7) y.vals) none (by kernel_rfl) ?_
            apply WZ.take (i := 0) (some 9) rfl rfl (by kernel_rfl) (by kernel_rfl) (by kernel_rfl) (calm_panic _) (by kernel_rfl)
            case hy => (refine .inl ⟨by kernel_rfl, fun W hC => ?_⟩; (try dsimp only at hC); go_simp; (try simp only [hd,hd1,hcd]); rfl)
            case hC => exact HC
            case ha => (simp only [Act.put, List.setIfInBounds_toArray, List.set_cons_zero, List.set_cons_succ]; rfl)
            apply WZ.take (i := 1) (some 10) rfl rfl (by kernel_rfl) (by kernel_rfl) (by kernel_rfl) (calm_panic _) (by kernel_rfl)
            case hy => (refine .inl ⟨by kernel_rfl, fun W hC => ?_⟩; (try dsimp only at hC); go_simp; (try simp only [hd,hd1,hcd]); rfl)
            case hC => exact HC
            case ha => (simp only [Act.put, List.setIfInBounds_toArray, List.set_cons_zero, List.set_cons_succ]; rfl)
            apply WZ.take (i := 2) (some 11) rfl rfl (by kernel_rfl) (by kernel_rfl) (by kernel_rfl) (calm_panic _) (by kernel_rfl)
            case hy => (refine .inl ⟨by kernel_rfl, fun W hC => ?_⟩; (try dsimp only at hC); go_simp; (try simp only [hd,hd1,hcd]); rfl)
            case hC => exact HC
            case ha => (simp only [Act.put, List.setIfInBounds_toArray, List.set_cons_zero, List.set_cons_succ]; rfl)
            apply WZ.take (i := 3) (some 12) rfl rfl (by kernel_rfl) (by kernel_rfl) (by kernel_rfl) (calm_panic _) (by kernel_rfl)
            case hy => (refine .inl ⟨by kernel_rfl, fun W hC => ?_⟩; (try dsimp only at hC); go_simp; (try simp only [hd,hd1,hcd]); rfl)
            case hC => exact HC
            case ha => (simp only [Act.put, List.setIfInBounds_toArray, List.set_cons_zero, List.set_cons_succ]; rfl)
            apply WZ.take (i := 4) (some 13) rfl rfl (by kernel_rfl) (by kernel_rfl) (by kernel_rfl) (calm_panic _) (by kernel_rfl)
            case hy => (refine .inl ⟨by kernel_rfl, fun W hC => ?_⟩; (try dsimp only at hC); go_simp; (try simp only [hd,hd1,hcd]); rfl)
            case hC => exact HC
            case ha => (simp only [Act.put, List.setIfInBounds_toArray, List.set_cons_zero, List.set_cons_succ]; rfl)
            apply WZ.take (i := 5) (some 14) rfl rfl (by kernel_rfl) (by kernel_rfl) (by kernel_rfl) (calm_panic _) (by kernel_rfl)
            case hy => (refine .inl ⟨by kernel_rfl, fun W hC => ?_⟩; (try dsimp only at hC); go_simp; (try simp only [hd,hd1,hcd]); rfl)
            case hC => exact HC
            case ha => (simp only [Act.put, List.setIfInBounds_toArray, List.set_cons_zero, List.set_cons_succ]; rfl)
            apply WZ.take (i := 6) (some 15) rfl rfl (by kernel_rfl) (by kernel_rfl) (by kernel_rfl) (calm_panic _) (by kernel_rfl)
            case hy => (refine .inl ⟨by kernel_rfl, fun W hC => ?_⟩; (try dsimp only at hC); go_simp; (try simp only [hd,hd1,hcd]); rfl)
            case hC => exact HC
            case ha => (simp only [Act.put, List.setIfInBounds_toArray, List.set_cons_zero, List.set_cons_succ]; rfl)
            apply WZ.take (i := 7) (some 16) rfl rfl (by kernel_rfl) (by kernel_rfl) (by kernel_rfl) (calm_panic _) (by kernel_rfl)
            case hy => first | (apply yieldsIf_load_mid (by kernel_rfl) _ _ rfl _ _ rfl; (case hS => (intro W hC; exact (show World.rangeAt _ _ _ (It.vals _) from hC.1))); (case hu => exact Try.underlying59); (case hd => rfl); (case hi => kernel_rfl)) | (apply yieldsIf_load_mid (by kernel_rfl) _ _ rfl _ _ rfl; (case hS => (intro W hC; exact (show World.rangeAt _ _ _ (It.vals _) from hC.2.1))); (case hu => exact Try.underlying59); (case hd => rfl); (case hi => kernel_rfl)) | (apply yieldsIf_load_mid (by kernel_rfl) _ _ rfl _ _ rfl; (case hS => (intro W hC; exact (show World.rangeAt _ _ _ (It.vals _) from hC.2.2.1))); (case hu => exact Try.underlying59); (case hd => rfl); (case hi => kernel_rfl)) | (apply yieldsIf_load_mid (by kernel_rfl) _ _ rfl _ _ rfl; (case hS => (intro W hC; exact (show World.rangeAt _ _ _ (It.vals _) from hC.2.2.2.1))); (case hu => exact Try.underlying59); (case hd => rfl); (case hi => kernel_rfl)) | (apply yieldsIf_load_mid (by kernel_rfl) _ _ rfl _ _ rfl; (case hS => (intro W hC; exact (show World.rangeAt _ _ _ (It.vals _) from hC.2.2.2))); (case hu => exact Try.underlying59); (case hd => rfl); (case hi => kernel_rfl)) | (apply yieldsIf_load_mid (by kernel_rfl) _ _ rfl _ _ rfl; (case hS => (intro W hC; exact (show World.rangeAt _ _ _ (It.vals _) from hC.2.2))); (case hu => exact Try.underlying59); (case hd => rfl); (case hi => kernel_rfl)) | (apply yieldsIf_load_mid (by kernel_rfl) _ _ rfl _ _ rfl; (case hS => (intro W hC; exact (show World.rangeAt _ _ _ (It.vals _) from hC.2))); (case hu => exact Try.underlying59); (case hd => rfl); (case hi => kernel_rfl)) | (apply yieldsIf_load_mid (by kernel_rfl) _ _ rfl _ _ rfl; (case hS => (intro W hC; exact (show World.rangeAt _ _ _ (It.vals _) from hC))); (case hu => exact Try.underlying59); (case hd => rfl); (case hi => kernel_rfl))
            case hC => exact HC
            case ha => (simp only [Act.put, List.setIfInBounds_toArray, List.set_cons_zero, List.set_cons_succ]; rfl)
            apply WZ.take (i := 8) (some 17) rfl rfl (by kernel_rfl) (by kernel_rfl) (by kernel_rfl) (calm_panic _) (by kernel_rfl)
            case hy => (refine .inl ⟨by kernel_rfl, fun W hC => ?_⟩; (try dsimp only at hC); go_simp; (try simp only [hd,hd1,hcd]); rfl)
            case hC => exact HC
            case ha => (simp only [Act.put, List.setIfInBounds_toArray, List.set_cons_zero, List.set_cons_succ]; rfl)
            apply WZ.take (i := 9) (some 18) rfl rfl (by kernel_rfl) (by kernel_rfl) (by kernel_rfl) (calm_panic _) (by kernel_rfl)
            case hy => (refine .inl ⟨by kernel_rfl, fun W hC => ?_⟩; (try dsimp only at hC); go_simp; (try simp only [hd,hd1,hcd]); rfl)
            case hC => exact HC
            case ha => (simp only [Act.put, List.setIfInBounds_toArray, List.set_cons_zero, List.set_cons_succ]; rfl)
            apply WZ.take (i := 10) (some 19) rfl rfl (by kernel_rfl) (by kernel_rfl) (by kernel_rfl) (calm_panic _) (by kernel_rfl)
            case hy => (refine .inl ⟨by kernel_rfl, fun W hC => ?_⟩; (try dsimp only at hC); go_simp; (try simp only [hd,hd1,hcd]); rfl)
            case hC => exact HC
            case ha => (simp only [Act.put, List.setIfInBounds_toArray, List.set_cons_zero, List.set_cons_succ]; rfl)
            apply WZ.take (i := 11) (some 20) rfl rfl (by kernel_rfl) (by kernel_rfl) (by kernel_rfl) (calm_panic _) (by kernel_rfl)
            case hy => first | (apply yieldsIf_load_mid (by kernel_rfl) _ _ rfl _ _ rfl; (case hS => (intro W hC; exact (show World.rangeAt _ _ _ (It.vals _) from hC.1))); (case hu => exact Try.underlying59); (case hd => rfl); (case hi => kernel_rfl)) | (apply yieldsIf_load_mid (by kernel_rfl) _ _ rfl _ _ rfl; (case hS => (intro W hC; exact (show World.rangeAt _ _ _ (It.vals _) from hC.2.1))); (case hu => exact Try.underlying59); (case hd => rfl); (case hi => kernel_rfl)) | (apply yieldsIf_load_mid (by kernel_rfl) _ _ rfl _ _ rfl; (case hS => (intro W hC; exact (show World.rangeAt _ _ _ (It.vals _) from hC.2.2.1))); (case hu => exact Try.underlying59); (case hd => rfl); (case hi => kernel_rfl)) | (apply yieldsIf_load_mid (by kernel_rfl) _ _ rfl _ _ rfl; (case hS => (intro W hC; exact (show World.rangeAt _ _ _ (It.vals _) from hC.2.2.2.1))); (case hu => exact Try.underlying59); (case hd => rfl); (case hi => kernel_rfl)) | (apply yieldsIf_load_mid (by kernel_rfl) _ _ rfl _ _ rfl; (case hS => (intro W hC; exact (show World.rangeAt _ _ _ (It.vals _) from hC.2.2.2))); (case hu => exact Try.underlying59); (case hd => rfl); (case hi => kernel_rfl)) | (apply yieldsIf_load_mid (by kernel_rfl) _ _ rfl _ _ rfl; (case hS => (intro W hC; exact (show World.rangeAt _ _ _ (It.vals _) from hC.2.2))); (case hu => exact Try.underlying59); (case hd => rfl); (case hi => kernel_rfl)) | (apply yieldsIf_load_mid (by kernel_rfl) _ _ rfl _ _ rfl; (case hS => (intro W hC; exact (show World.rangeAt _ _ _ (It.vals _) from hC.2))); (case hu => exact Try.underlying59); (case hd => rfl); (case hi => kernel_rfl)) | (apply yieldsIf_load_mid (by kernel_rfl) _ _ rfl _ _ rfl; (case hS => (intro W hC; exact (show World.rangeAt _ _ _ (It.vals _) from hC))); (case hu => exact Try.underlying59); (case hd => rfl); (case hi => kernel_rfl))
            case hC => exact HC
            case ha => (simp only [Act.put, List.setIfInBounds_toArray, List.set_cons_zero, List.set_cons_succ]; rfl)
            -- 12
            refine WZ.one (i := 12) rfl (by kernel_rfl) ?_
            conv => arg 4; arg 1; whnf
            go_wp2_with (go_at_call 53; refine (itemCompare_any x y _).mono ?_; rintro e w1 ⟨rfl, hb1⟩)
            have HB1 := Lib.hid (HB.out.trans (below_of_drew' (hb1.mono HB.out.size)))
            have HC : w1.rangeAt b (o + j * 7) x.vals ∧ w1.rangeAt b (o + k * 7) y.vals := ⟨rangeAt_below HC.1 hb1 (show b < wr.heap.size by omega), rangeAt_below HC.2 hb1 (show b < wr.heap.size by omega)⟩
            have hz1 : wr.heap.size ≤ w1.heap.size := hb1.size
            clear hb1
            refine ⟨HC, ?_⟩
            apply WZ.take (i := 13) (some 22) rfl rfl (by kernel_rfl) (by kernel_rfl) (by kernel_rfl) (calm_panic _) (by kernel_rfl)
            case hy => (refine .inl ⟨by kernel_rfl, fun W hC => ?_⟩; (try dsimp only at hC); go_simp; (try simp only [hd,hd1,hcd]); rfl)
            case hC => exact HC
            case ha => (simp only [Act.put, List.setIfInBounds_toArray, List.set_cons_zero, List.set_cons_succ]; rfl)
            apply WZ.take (i := 14) (some 23) rfl rfl (by kernel_rfl) (by kernel_rfl) (by kernel_rfl) (calm_panic _) (by kernel_rfl)
            case hy => (refine .inl ⟨by kernel_rfl, fun W hC => ?_⟩; (try dsimp only at hC); go_simp; (try simp only [hd,hd1,hcd]); rfl)
            case hC => exact HC
            case ha => (simp only [Act.put, List.setIfInBounds_toArray, List.set_cons_zero, List.set_cons_succ]; rfl)
            apply WZ.take (i := 15) (some 24) rfl rfl (by kernel_rfl) (by kernel_rfl) (by kernel_rfl) (calm_panic _) (by kernel_rfl)
            case hy => (refine .inl ⟨by kernel_rfl, fun W hC => ?_⟩; (try dsimp only at hC); go_simp; (try simp only [hd,hd1,hcd]); rfl)
            case hC => exact HC
            case ha => (simp only [Act.put, List.setIfInBounds_toArray, List.set_cons_zero, List.set_cons_succ]; rfl)
            apply WZ.take (i := 16) (some 25) rfl rfl (by kernel_rfl) (by kernel_rfl) (by kernel_rfl) (calm_panic _) (by kernel_rfl)
            case hy => (refine .inl ⟨by kernel_rfl, fun W hC => ?_⟩; (try dsimp only at hC); go_simp; (try simp only [hd,hd1,hcd]); rfl)
            case hC => exact HC
            case ha => (simp only [Act.put, List.setIfInBounds_toArray, List.set_cons_zero, List.set_cons_succ]; rfl)
            apply WZ.take (i := 17) (some 26) rfl rfl (by kernel_rfl) (by kernel_rfl) (by kernel_rfl) (calm_panic _) (by kernel_rfl)
            case hy => (refine .inl ⟨by kernel_rfl, fun W hC => ?_⟩; (try dsimp only at hC); go_simp; (try simp only [hd,hd1,hcd]); rfl)
            case hC => exact HC
            case ha => (simp only [Act.put, List.setIfInBounds_toArray, List.set_cons_zero, List.set_cons_succ]; rfl)
            apply WZ.take (i := 18) (some 27) rfl rfl (by kernel_rfl) (by kernel_rfl) (by kernel_rfl) (calm_panic _) (by kernel_rfl)
            case hy => (refine .inl ⟨by kernel_rfl, fun W hC => ?_⟩; (try dsimp only at hC); go_simp; (try simp only [hd,hd1,hcd]); rfl)
            case hC => exact HC
            case ha => (simp only [Act.put, List.setIfInBounds_toArray, List.set_cons_zero, List.set_cons_succ]; rfl)
            apply WZ.take (i := 19) (some 28) rfl rfl (by kernel_rfl) (by kernel_rfl) (by kernel_rfl) (calm_panic _) (by kernel_rfl)
            case hy => first | (apply yieldsIf_load_mid (by kernel_rfl) _ _ rfl _ _ rfl; (case hS => (intro W hC; exact (show World.rangeAt _ _ _ (It.vals _) from hC.1))); (case hu => exact Try.underlying59); (case hd => rfl); (case hi => kernel_rfl)) | (apply yieldsIf_load_mid (by kernel_rfl) _ _ rfl _ _ rfl; (case hS => (intro W hC; exact (show World.rangeAt _ _ _ (It.vals _) from hC.2.1))); (case hu => exact Try.underlying59); (case hd => rfl); (case hi => kernel_rfl)) | (apply yieldsIf_load_mid (by kernel_rfl) _ _ rfl _ _ rfl; (case hS => (intro W hC; exact (show World.rangeAt _ _ _ (It.vals _) from hC.2.2.1))); (case hu => exact Try.underlying59); (case hd => rfl); (case hi => kernel_rfl)) | (apply yieldsIf_load_mid (by kernel_rfl) _ _ rfl _ _ rfl; (case hS => (intro W hC; exact (show World.rangeAt _ _ _ (It.vals _) from hC.2.2.2.1))); (case hu => exact Try.underlying59); (case hd => rfl); (case hi => kernel_rfl)) | (apply yieldsIf_load_mid (by kernel_rfl) _ _ rfl _ _ rfl; (case hS => (intro W hC; exact (show World.rangeAt _ _ _ (It.vals _) from hC.2.2.2))); (case hu => exact Try.underlying59); (case hd => rfl); (case hi => kernel_rfl)) | (apply yieldsIf_load_mid (by kernel_rfl) _ _ rfl _ _ rfl; (case hS => (intro W hC; exact (show World.rangeAt _ _ _ (It.vals _) from hC.2.2))); (case hu => exact Try.underlying59); (case hd => rfl); (case hi => kernel_rfl)) | (apply yieldsIf_load_mid (by kernel_rfl) _ _ rfl _ _ rfl; (case hS => (intro W hC; exact (show World.rangeAt _ _ _ (It.vals _) from hC.2))); (case hu => exact Try.underlying59); (case hd => rfl); (case hi => kernel_rfl)) | (apply yieldsIf_load_mid (by kernel_rfl) _ _ rfl _ _ rfl; (case hS => (intro W hC; exact (show World.rangeAt _ _ _ (It.vals _) from hC))); (case hu => exact Try.underlying59); (case hd => rfl); (case hi => kernel_rfl))
            case hC => exact HC
            case ha => (simp only [Act.put, List.setIfInBounds_toArray, List.set_cons_zero, List.set_cons_succ]; rfl)
            apply WZ.take (i := 20) (some 29) rfl rfl (by kernel_rfl) (by kernel_rfl) (by kernel_rfl) (calm_panic _) (by kernel_rfl)
            case hy => (refine .inl ⟨by kernel_rfl, fun W hC => ?_⟩; (try dsimp only at hC); go_simp; (try simp only [hd,hd1,hcd]); rfl)
            case hC => exact HC
            case ha => (simp only [Act.put, List.setIfInBounds_toArray, List.set_cons_zero, List.set_cons_succ]; rfl)
            apply WZ.take (i := 21) (some 30) rfl rfl (by kernel_rfl) (by kernel_rfl) (by kernel_rfl) (calm_panic _) (by kernel_rfl)
            case hy => (refine .inl ⟨by kernel_rfl, fun W hC => ?_⟩; (try dsimp only at hC); go_simp; (try simp only [hd,hd1,hcd]); rfl)
            case hC => exact HC
            case ha => (simp only [Act.put, List.setIfInBounds_toArray, List.set_cons_zero, List.set_cons_succ]; rfl)
            apply WZ.take (i := 22) (some 31) rfl rfl (by kernel_rfl) (by kernel_rfl) (by kernel_rfl) (calm_panic _) (by kernel_rfl)
            case hy => (refine .inl ⟨by kernel_rfl, fun W hC => ?_⟩; (try dsimp only at hC); go_simp; (try simp only [hd,hd1,hcd]); rfl)
            case hC => exact HC
            case ha => (simp only [Act.put, List.setIfInBounds_toArray, List.set_cons_zero, List.set_cons_succ]; rfl)
            apply WZ.take (i := 23) (some 32) rfl rfl (by kernel_rfl) (by kernel_rfl) (by kernel_rfl) (calm_panic _) (by kernel_rfl)
            case hy => first | (apply yieldsIf_load_mid (by kernel_rfl) _ _ rfl _ _ rfl; (case hS => (intro W hC; exact (show World.rangeAt _ _ _ (It.vals _) from hC.1))); (case hu => exact Try.underlying59); (case hd => rfl); (case hi => kernel_rfl)) | (apply yieldsIf_load_mid (by kernel_rfl) _ _ rfl _ _ rfl; (case hS => (intro W hC; exact (show World.rangeAt _ _ _ (It.vals _) from hC.2.1))); (case hu => exact Try.underlying59); (case hd => rfl); (case hi => kernel_rfl)) | (apply yieldsIf_load_mid (by kernel_rfl) _ _ rfl _ _ rfl; (case hS => (intro W hC; exact (show World.rangeAt _ _ _ (It.vals _) from hC.2.2.1))); (case hu => exact Try.underlying59); (case hd => rfl); (case hi => kernel_rfl)) | (apply yieldsIf_load_mid (by kernel_rfl) _ _ rfl _ _ rfl; (case hS => (intro W hC; exact (show World.rangeAt _ _ _ (It.vals _) from hC.2.2.2.1))); (case hu => exact Try.underlying59); (case hd => rfl); (case hi => kernel_rfl)) | (apply yieldsIf_load_mid (by kernel_rfl) _ _ rfl _ _ rfl; (case hS => (intro W hC; exact (show World.rangeAt _ _ _ (It.vals _) from hC.2.2.2))); (case hu => exact Try.underlying59); (case hd => rfl); (case hi => kernel_rfl)) | (apply yieldsIf_load_mid (by kernel_rfl) _ _ rfl _ _ rfl; (case hS => (intro W hC; exact (show World.rangeAt _ _ _ (It.vals _) from hC.2.2))); (case hu => exact Try.underlying59); (case hd => rfl); (case hi => kernel_rfl)) | (apply yieldsIf_load_mid (by kernel_rfl) _ _ rfl _ _ rfl; (case hS => (intro W hC; exact (show World.rangeAt _ _ _ (It.vals _) from hC.2))); (case hu => exact Try.underlying59); (case hd => rfl); (case hi => kernel_rfl)) | (apply yieldsIf_load_mid (by kernel_rfl) _ _ rfl _ _ rfl; (case hS => (intro W hC; exact (show World.rangeAt _ _ _ (It.vals _) from hC))); (case hu => exact Try.underlying59); (case hd => rfl); (case hi => kernel_rfl))
            case hC => exact HC
            case ha => (simp only [Act.put, List.setIfInBounds_toArray, List.set_cons_zero, List.set_cons_succ]; rfl)
            -- 24
            refine WZ.one (i := 24) rfl (by kernel_rfl) ?_
            conv => arg 4; arg 1; whnf
            go_wp2_with (go_at_call 55; refine (itemSame_any x y _).mono ?_; rintro e w2 ⟨rfl, hb2⟩)
            have HB2 := Lib.hid (HB1.out.trans (hb2.mono HB1.out.size))
            have HC : w2.rangeAt b (o + j * 7) x.vals ∧ w2.rangeAt b (o + k * 7) y.vals := ⟨rangeAt_below HC.1 hb2 (show b < w1.heap.size by omega), rangeAt_below HC.2 hb2 (show b < w1.heap.size by omega)⟩
            clear hb2
            refine ⟨HC, ?_⟩
            apply WZ.take (i := 25) (some 34) rfl rfl (by kernel_rfl) (by kernel_rfl) (by kernel_rfl) (calm_panic _) (by kernel_rfl)
            case hy => (refine .inl ⟨by kernel_rfl, fun W hC => ?_⟩; (try dsimp only at hC); go_simp; (try simp only [hd,hd1,hcd]); rfl)
            case hC => exact HC
            case ha => (simp only [Act.put, List.setIfInBounds_toArray, List.set_cons_zero, List.set_cons_succ]; rfl)
            apply WZ.take (i := 26) (some 35) rfl rfl (by kernel_rfl) (by kernel_rfl) (by kernel_rfl) (calm_panic _) (by kernel_rfl)
            case hy => (refine .inl ⟨by kernel_rfl, fun W hC => ?_⟩; (try dsimp only at hC); go_simp; (try simp only [hd,hd1,hcd]); rfl)
            case hC => exact HC
            case ha => (simp only [Act.put, List.setIfInBounds_toArray, List.set_cons_zero, List.set_cons_succ]; rfl)
            refine WZ.done (by kernel_rfl) ?_ _
            simp only [Calm, Exit.then]
            go_wp2
            go_ret
            exact ⟨ret_bool HF.out, HB2.out⟩
          | false =>
            have HF := Lib.hid (HSTEP.out (cc_of_tests hcmp hs))
            go_wp2
            refine region_wz (fun W' => W'.rangeAt b (o + j * 7) x.vals ∧ W'.rangeAt b (o + k * 7) y.vals) none (by kernel_rfl) ?_
            apply WZ.take (i := 0) (some 9) rfl rfl (by kernel_rfl) (by kernel_rfl) (by kernel_rfl) (calm_panic _) (by kernel_rfl)
            case hy => (refine .inl ⟨by kernel_rfl, fun W hC => ?_⟩; (try dsimp only at hC); go_simp; (try simp only [hd,hd1,hcd]); rfl)
            case hC => exact HC
            case ha => (simp only [Act.put, List.setIfInBounds_toArray, List.set_cons_zero, List.set_cons_succ]; rfl)
            apply WZ.take (i := 1) (some 10) rfl rfl (by kernel_rfl) (by kernel_rfl) (by kernel_rfl) (calm_panic _) (by kernel_rfl)
            case hy => (refine .inl ⟨by kernel_rfl, fun W hC => ?_⟩; (try dsimp only at hC); go_simp; (try simp only [hd,hd1,hcd]); rfl)
            case hC => exact HC
            case ha => (simp only [Act.put, List.setIfInBounds_toArray, List.set_cons_zero, List.set_cons_succ]; rfl)
            apply WZ.take (i := 2) (some 11) rfl rfl (by kernel_rfl) (by kernel_rfl) (by kernel_rfl) (calm_panic _) (by kernel_rfl)
            case hy => (refine .inl ⟨by kernel_rfl, fun W hC => ?_⟩; (try dsimp only at hC); go_simp; (try simp only [hd,hd1,hcd]); rfl)
            case hC => exact HC
            case ha => (simp only [Act.put, List.setIfInBounds_toArray, List.set_cons_zero, List.set_cons_succ]; rfl)
            apply WZ.take (i := 3) (some 12) rfl rfl (by kernel_rfl) (by kernel_rfl) (by kernel_rfl) (calm_panic _) (by kernel_rfl)
            case hy => (refine .inl ⟨by kernel_rfl, fun W hC => ?_⟩; (try dsimp only at hC); go_simp; (try simp only [hd,hd1,hcd]); rfl)
            case hC => exact HC
            case ha => (simp only [Act.put, List.setIfInBounds_toArray, List.set_cons_zero, List.set_cons_succ]; rfl)
            apply WZ.take (i := 4) (some 13) rfl rfl (by kernel_rfl) (by kernel_rfl) (by kernel_rfl) (calm_panic _) (by kernel_rfl)
            case hy => (refine .inl ⟨by kernel_rfl, fun W hC => ?_⟩; (try dsimp only at hC); go_simp; (try simp only [hd,hd1,hcd]); rfl)
            case hC => exact HC
            case ha => (simp only [Act.put, List.setIfInBounds_toArray, List.set_cons_zero, List.set_cons_succ]; rfl)
            apply WZ.take (i := 5) (some 14) rfl rfl (by kernel_rfl) (by kernel_rfl) (by kernel_rfl) (calm_panic _) (by kernel_rfl)
            case hy => (refine .inl ⟨by kernel_rfl, fun W hC => ?_⟩; (try dsimp only at hC); go_simp; (try simp only [hd,hd1,hcd]); rfl)
            case hC => exact HC
            case ha => (simp only [Act.put, List.setIfInBounds_toArray, List.set_cons_zero, List.set_cons_succ]; rfl)
            apply WZ.take (i := 6) (some 15) rfl rfl (by kernel_rfl) (by kernel_rfl) (by kernel_rfl) (calm_panic _) (by kernel_rfl)
            case hy => (refine .inl ⟨by kernel_rfl, fun W hC => ?_⟩; (try dsimp only at hC); go_simp; (try simp only [hd,hd1,hcd]); rfl)
            case hC => exact HC
            case ha => (simp only [Act.put, List.setIfInBounds_toArray, List.set_cons_zero, List.set_cons_succ]; rfl)
            apply WZ.take (i := 7) (some 16) rfl rfl (by kernel_rfl) (by kernel_rfl) (by kernel_rfl) (calm_panic _) (by kernel_rfl)
            case hy => first | (apply yieldsIf_load_mid (by kernel_rfl) _ _ rfl _ _ rfl; (case hS => (intro W hC; exact (show World.rangeAt _ _ _ (It.vals _) from hC.1))); (case hu => exact Try.underlying59); (case hd => rfl); (case hi => kernel_rfl)) | (apply yieldsIf_load_mid (by kernel_rfl) _ _ rfl _ _ rfl; (case hS => (intro W hC; exact (show World.rangeAt _ _ _ (It.vals _) from hC.2.1))); (case hu => exact Try.underlying59); (case hd => rfl); (case hi => kernel_rfl)) | (apply yieldsIf_load_mid (by kernel_rfl) _ _ rfl _ _ rfl; (case hS => (intro W hC; exact (show World.rangeAt _ _ _ (It.vals _) from hC.2.2.1))); (case hu => exact Try.underlying59); (case hd => rfl); (case hi => kernel_rfl)) | (apply yieldsIf_load_mid (by kernel_rfl) _ _ rfl _ _ rfl; (case hS => (intro W hC; exact (show World.rangeAt _ _ _ (It.vals _) from hC.2.2.2.1))); (case hu => exact Try.underlying59); (case hd => rfl); (case hi => kernel_rfl)) | (apply yieldsIf_load_mid (by kernel_rfl) _ _ rfl _ _ rfl; (case hS => (intro W hC; exact (show World.rangeAt _ _ _ (It.vals _) from hC.2.2.2))); (case hu => exact Try.underlying59); (case hd => rfl); (case hi => kernel_rfl)) | (apply yieldsIf_load_mid (by kernel_rfl) _ _ rfl _ _ rfl; (case hS => (intro W hC; exact (show World.rangeAt _ _ _ (It.vals _) from hC.2.2))); (case hu => exact Try.underlying59); (case hd => rfl); (case hi => kernel_rfl)) | (apply yieldsIf_load_mid (by kernel_rfl) _ _ rfl _ _ rfl; (case hS => (intro W hC; exact (show World.rangeAt _ _ _ (It.vals _) from hC.2))); (case hu => exact Try.underlying59); (case hd => rfl); (case hi => kernel_rfl)) | (apply yieldsIf_load_mid (by kernel_rfl) _ _ rfl _ _ rfl; (case hS => (intro W hC; exact (show World.rangeAt _ _ _ (It.vals _) from hC))); (case hu => exact Try.underlying59); (case hd => rfl); (case hi => kernel_rfl))
            case hC => exact HC
            case ha => (simp only [Act.put, List.setIfInBounds_toArray, List.set_cons_zero, List.set_cons_succ]; rfl)
            apply WZ.take (i := 8) (some 17) rfl rfl (by kernel_rfl) (by kernel_rfl) (by kernel_rfl) (calm_panic _) (by kernel_rfl)
            case hy => (refine .inl ⟨by kernel_rfl, fun W hC => ?_⟩; (try dsimp only at hC); go_simp; (try simp only [hd,hd1,hcd]); rfl)
            case hC => exact HC
            case ha => (simp only [Act.put, List.setIfInBounds_toArray, List.set_cons_zero, List.set_cons_succ]; rfl)
            apply WZ.take (i := 9) (some 18) rfl rfl (by kernel_rfl) (by kernel_rfl) (by kernel_rfl) (calm_panic _) (by kernel_rfl)
            case hy => (refine .inl ⟨by kernel_rfl, fun W hC => ?_⟩; (try dsimp only at hC); go_simp; (try simp only [hd,hd1,hcd]); rfl)
            case hC => exact HC
            case ha => (simp only [Act.put, List.setIfInBounds_toArray, List.set_cons_zero, List.set_cons_succ]; rfl)
            apply WZ.take (i := 10) (some 19) rfl rfl (by kernel_rfl) (by kernel_rfl) (by kernel_rfl) (calm_panic _) (by kernel_rfl)
            case hy => (refine .inl ⟨by kernel_rfl, fun W hC => ?_⟩; (try dsimp only at hC); go_simp; (try simp only [hd,hd1,hcd]); rfl)
            case hC => exact HC
            case ha => (simp only [Act.put, List.setIfInBounds_toArray, List.set_cons_zero, List.set_cons_succ]; rfl)
            apply WZ.take (i := 11) (some 20) rfl rfl (by kernel_rfl) (by kernel_rfl) (by kernel_rfl) (calm_panic _) (by kernel_rfl)
            case hy => first | (apply yieldsIf_load_mid (by kernel_rfl) _ _ rfl _ _ rfl; (case hS => (intro W hC; exact (show World.rangeAt _ _ _ (It.vals _) from hC.1))); (case hu => exact Try.underlying59); (case hd => rfl); (case hi => kernel_rfl)) | (apply yieldsIf_load_mid (by kernel_rfl) _ _ rfl _ _ rfl; (case hS => (intro W hC; exact (show World.rangeAt _ _ _ (It.vals _) from hC.2.1))); (case hu => exact Try.underlying59); (case hd => rfl); (case hi => kernel_rfl)) | (apply yieldsIf_load_mid (by kernel_rfl) _ _ rfl _ _ rfl; (case hS => (intro W hC; exact (show World.rangeAt _ _ _ (It.vals _) from hC.2.2.1))); (case hu => exact Try.underlying59); (case hd => rfl); (case hi => kernel_rfl)) | (apply yieldsIf_load_mid (by kernel_rfl) _ _ rfl _ _ rfl; (case hS => (intro W hC; exact (show World.rangeAt _ _ _ (It.vals _) from hC.2.2.2.1))); (case hu => exact Try.underlying59); (case hd => rfl); (case hi => kernel_rfl)) | (apply yieldsIf_load_mid (by kernel_rfl) _ _ rfl _ _ rfl; (case hS => (intro W hC; exact (show World.rangeAt _ _ _ (It.vals _) from hC.2.2.2))); (case hu => exact Try.underlying59); (case hd => rfl); (case hi => kernel_rfl)) | (apply yieldsIf_load_mid (by kernel_rfl) _ _ rfl _ _ rfl; (case hS => (intro W hC; exact (show World.rangeAt _ _ _ (It.vals _) from hC.2.2))); (case hu => exact Try.underlying59); (case hd => rfl); (case hi => kernel_rfl)) | (apply yieldsIf_load_mid (by kernel_rfl) _ _ rfl _ _ rfl; (case hS => (intro W hC; exact (show World.rangeAt _ _ _ (It.vals _) from hC.2))); (case hu => exact Try.underlying59); (case hd => rfl); (case hi => kernel_rfl)) | (apply yieldsIf_load_mid (by kernel_rfl) _ _ rfl _ _ rfl; (case hS => (intro W hC; exact (show World.rangeAt _ _ _ (It.vals _) from hC))); (case hu => exact Try.underlying59); (case hd => rfl); (case hi => kernel_rfl))
            case hC => exact HC
            case ha => (simp only [Act.put, List.setIfInBounds_toArray, List.set_cons_zero, List.set_cons_succ]; rfl)
            -- 12
            refine WZ.one (i := 12) rfl (by kernel_rfl) ?_
            conv => arg 4; arg 1; whnf
            go_wp2_with (go_at_call 53; refine (itemCompare_any x y _).mono ?_; rintro e w1 ⟨rfl, hb1⟩)
            have HB1 := Lib.hid (HB.out.trans (below_of_drew' (hb1.mono HB.out.size)))
            have HC : w1.rangeAt b (o + j * 7) x.vals ∧ w1.rangeAt b (o + k * 7) y.vals := ⟨rangeAt_below HC.1 hb1 (show b < wr.heap.size by omega), rangeAt_below HC.2 hb1 (show b < wr.heap.size by omega)⟩
            have hz1 : wr.heap.size ≤ w1.heap.size := hb1.size
            clear hb1
            refine ⟨HC, ?_⟩
            apply WZ.take (i := 13) (some 22) rfl rfl (by kernel_rfl) (by kernel_rfl) (by kernel_rfl) (calm_panic _) (by kernel_rfl)
            case hy => (refine .inl ⟨by kernel_rfl, fun W hC => ?_⟩; (try dsimp only at hC); go_simp; (try simp only [hd,hd1,hcd]); rfl)
            case hC => exact HC
            case ha => (simp only [Act.put, List.setIfInBounds_toArray, List.set_cons_zero, List.set_cons_succ]; rfl)
            apply WZ.take (i := 14) (some 23) rfl rfl (by kernel_rfl) (by kernel_rfl) (by kernel_rfl) (calm_panic _) (by kernel_rfl)
            case hy => (refine .inl ⟨by kernel_rfl, fun W hC => ?_⟩; (try dsimp only at hC); go_simp; (try simp only [hd,hd1,hcd]); rfl)
            case hC => exact HC
            case ha => (simp only [Act.put, List.setIfInBounds_toArray, List.set_cons_zero, List.set_cons_succ]; rfl)
            apply WZ.take (i := 15) (some 24) rfl rfl (by kernel_rfl) (by kernel_rfl) (by kernel_rfl) (calm_panic _) (by kernel_rfl)
            case hy => (refine .inl ⟨by kernel_rfl, fun W hC => ?_⟩; (try dsimp only at hC); go_simp; (try simp only [hd,hd1,hcd]); rfl)
            case hC => exact HC
            case ha => (simp only [Act.put, List.setIfInBounds_toArray, List.set_cons_zero, List.set_cons_succ]; rfl)
            apply WZ.take (i := 16) (some 25) rfl rfl (by kernel_rfl) (by kernel_rfl) (by kernel_rfl) (calm_panic _) (by kernel_rfl)
            case hy => (refine .inl ⟨by kernel_rfl, fun W hC => ?_⟩; (try dsimp only at hC); go_simp; (try simp only [hd,hd1,hcd]); rfl)
            case hC => exact HC
            case ha => (simp only [Act.put, List.setIfInBounds_toArray, List.set_cons_zero, List.set_cons_succ]; rfl)
            apply WZ.take (i := 17) (some 26) rfl rfl (by kernel_rfl) (by kernel_rfl) (by kernel_rfl) (calm_panic _) (by kernel_rfl)
            case hy => (refine .inl ⟨by kernel_rfl, fun W hC => ?_⟩; (try dsimp only at hC); go_simp; (try simp only [hd,hd1,hcd]); rfl)
            case hC => exact HC
            case ha => (simp only [Act.put, List.setIfInBounds_toArray, List.set_cons_zero, List.set_cons_succ]; rfl)
            apply WZ.take (i := 18) (some 27) rfl rfl (by kernel_rfl) (by kernel_rfl) (by kernel_rfl) (calm_panic _) (by kernel_rfl)
            case hy => (refine .inl ⟨by kernel_rfl, fun W hC => ?_⟩; (try dsimp only at hC); go_simp; (try simp only [hd,hd1,hcd]); rfl)
            case hC => exact HC
            case ha => (simp only [Act.put, List.setIfInBounds_toArray, List.set_cons_zero, List.set_cons_succ]; rfl)
            apply WZ.take (i := 19) (some 28) rfl rfl (by kernel_rfl) (by kernel_rfl) (by kernel_rfl) (calm_panic _) (by kernel_rfl)
            case hy => first | (apply yieldsIf_load_mid (by kernel_rfl) _ _ rfl _ _ rfl; (case hS => (intro W hC; exact (show World.rangeAt _ _ _ (It.vals _) from hC.1))); (case hu => exact Try.underlying59); (case hd => rfl); (case hi => kernel_rfl)) | (apply yieldsIf_load_mid (by kernel_rfl) _ _ rfl _ _ rfl; (case hS => (intro W hC; exact (show World.rangeAt _ _ _ (It.vals _) from hC.2.1))); (case hu => exact Try.underlying59); (case hd => rfl); (case hi => kernel_rfl)) | (apply yieldsIf_load_mid (by kernel_rfl) _ _ rfl _ _ rfl; (case hS => (intro W hC; exact (show World.rangeAt _ _ _ (It.vals _) from hC.2.2.1))); (case hu => exact Try.underlying59); (case hd => rfl); (case hi => kernel_rfl)) | (apply yieldsIf_load_mid (by kernel_rfl) _ _ rfl _ _ rfl; (case hS => (intro W hC; exact (show World.rangeAt _ _ _ (It.vals _) from hC.2.2.2.1))); (case hu => exact Try.underlying59); (case hd => rfl); (case hi => kernel_rfl)) | (apply yieldsIf_load_mid (by kernel_rfl) _ _ rfl _ _ rfl; (case hS => (intro W hC; exact (show World.rangeAt _ _ _ (It.vals _) from hC.2.2.2))); (case hu => exact Try.underlying59); (case hd => rfl); (case hi => kernel_rfl)) | (apply yieldsIf_load_mid (by kernel_rfl) _ _ rfl _ _ rfl; (case hS => (intro W hC; exact (show World.rangeAt _ _ _ (It.vals _) from hC.2.2))); (case hu => exact Try.underlying59); (case hd => rfl); (case hi => kernel_rfl)) | (apply yieldsIf_load_mid (by kernel_rfl) _ _ rfl _ _ rfl; (case hS => (intro W hC; exact (show World.rangeAt _ _ _ (It.vals _) from hC.2))); (case hu => exact Try.underlying59); (case hd => rfl); (case hi => kernel_rfl)) | (apply yieldsIf_load_mid (by kernel_rfl) _ _ rfl _ _ rfl; (case hS => (intro W hC; exact (show World.rangeAt _ _ _ (It.vals _) from hC))); (case hu => exact Try.underlying59); (case hd => rfl); (case hi => kernel_rfl))
            case hC => exact HC
            case ha => (simp only [Act.put, List.setIfInBounds_toArray, List.set_cons_zero, List.set_cons_succ]; rfl)
            apply WZ.take (i := 20) (some 29) rfl rfl (by kernel_rfl) (by kernel_rfl) (by kernel_rfl) (calm_panic _) (by kernel_rfl)
            case hy => (refine .inl ⟨by kernel_rfl, fun W hC => ?_⟩; (try dsimp only at hC); go_simp; (try simp only [hd,hd1,hcd]); rfl)
            case hC => exact HC
            case ha => (simp only [Act.put, List.setIfInBounds_toArray, List.set_cons_zero, List.set_cons_succ]; rfl)
            apply WZ.take (i := 21) (some 30) rfl rfl (by kernel_rfl) (by kernel_rfl) (by kernel_rfl) (calm_panic _) (by kernel_rfl)
            case hy => (refine .inl ⟨by kernel_rfl, fun W hC => ?_⟩; (try dsimp only at hC); go_simp; (try simp only [hd,hd1,hcd]); rfl)
            case hC => exact HC
            case ha => (simp only [Act.put, List.setIfInBounds_toArray, List.set_cons_zero, List.set_cons_succ]; rfl)
            apply WZ.take (i := 22) (some 31) rfl rfl (by kernel_rfl) (by kernel_rfl) (by kernel_rfl) (calm_panic _) (by kernel_rfl)
            case hy => (refine .inl ⟨by kernel_rfl, fun W hC => ?_⟩; (try dsimp only at hC); go_simp; (try simp only [hd,hd1,hcd]); rfl)
            case hC => exact HC
            case ha => (simp only [Act.put, List.setIfInBounds_toArray, List.set_cons_zero, List.set_cons_succ]; rfl)
            apply WZ.take (i := 23) (some 32) rfl rfl (by kernel_rfl) (by kernel_rfl) (by kernel_rfl) (calm_panic _) (by kernel_rfl)
            case hy => first | (apply yieldsIf_load_mid (by kernel_rfl) _ _ rfl _ _ rfl; (case hS => (intro W hC; exact (show World.rangeAt _ _ _ (It.vals _) from hC.1))); (case hu => exact Try.underlying59); (case hd => rfl); (case hi => kernel_rfl)) | (apply yieldsIf_load_mid (by kernel_rfl) _ _ rfl _ _ rfl; (case hS => (intro W hC; exact (show World.rangeAt _ _ _ (It.vals _) from hC.2.1))); (case hu => exact Try.underlying59); (case hd => rfl); (case hi => kernel_rfl)) | (apply yieldsIf_load_mid (by kernel_rfl) _ _ rfl _ _ rfl; (case hS => (intro W hC; exact (show World.rangeAt _ _ _ (It.vals _) from hC.2.2.1))); (case hu => exact Try.underlying59); (case hd => rfl); (case hi => kernel_rfl)) | (apply yieldsIf_load_mid (by kernel_rfl) _ _ rfl _ _ rfl; (case hS => (intro W hC; exact (show World.rangeAt _ _ _ (It.vals _) from hC.2.2.2.1))); (case hu => exact Try.underlying59); (case hd => rfl); (case hi => kernel_rfl)) | (apply yieldsIf_load_mid (by kernel_rfl) _ _ rfl _ _ rfl; (case hS => (intro W hC; exact (show World.rangeAt _ _ _ (It.vals _) from hC.2.2.2))); (case hu => exact Try.underlying59); (case hd => rfl); (case hi => kernel_rfl)) | (apply yieldsIf_load_mid (by kernel_rfl) _ _ rfl _ _ rfl; (case hS => (intro W hC; exact (show World.rangeAt _ _ _ (It.vals _) from hC.2.2))); (case hu => exact Try.underlying59); (case hd => rfl); (case hi => kernel_rfl)) | (apply yieldsIf_load_mid (by kernel_rfl) _ _ rfl _ _ rfl; (case hS => (intro W hC; exact (show World.rangeAt _ _ _ (It.vals _) from hC.2))); (case hu => exact Try.underlying59); (case hd => rfl); (case hi => kernel_rfl)) | (apply yieldsIf_load_mid (by kernel_rfl) _ _ rfl _ _ rfl; (case hS => (intro W hC; exact (show World.rangeAt _ _ _ (It.vals _) from hC))); (case hu => exact Try.underlying59); (case hd => rfl); (case hi => kernel_rfl))
            case hC => exact HC
            case ha => (simp only [Act.put, List.setIfInBounds_toArray, List.set_cons_zero, List.set_cons_succ]; rfl)
            -- 24
            refine WZ.one (i := 24) rfl (by kernel_rfl) ?_
            conv => arg 4; arg 1; whnf
            go_wp2_with (go_at_call 55; refine (itemSame_any x y _).mono ?_; rintro e w2 ⟨rfl, hb2⟩)
            have HB2 := Lib.hid (HB1.out.trans (hb2.mono HB1.out.size))
            have HC : w2.rangeAt b (o + j * 7) x.vals ∧ w2.rangeAt b (o + k * 7) y.vals := ⟨rangeAt_below HC.1 hb2 (show b < w1.heap.size by omega), rangeAt_below HC.2 hb2 (show b < w1.heap.size by omega)⟩
            clear hb2
            refine ⟨HC, ?_⟩
            apply WZ.take (i := 25) (some 34) rfl rfl (by kernel_rfl) (by kernel_rfl) (by kernel_rfl) (calm_panic _) (by kernel_rfl)
            case hy => (refine .inl ⟨by kernel_rfl, fun W hC => ?_⟩; (try dsimp only at hC); go_simp; (try simp only [hd,hd1,hcd]); rfl)
            case hC => exact HC
            case ha => (simp only [Act.put, List.setIfInBounds_toArray, List.set_cons_zero, List.set_cons_succ]; rfl)
            apply WZ.take (i := 26) (some 35) rfl rfl (by kernel_rfl) (by kernel_rfl) (by kernel_rfl) (calm_panic _) (by kernel_rfl)
            case hy => (refine .inl ⟨by kernel_rfl, fun W hC => ?_⟩; (try dsimp only at hC); go_simp; (try simp only [hd,hd1,hcd]); rfl)
            case hC => exact HC
            case ha => (simp only [Act.put, List.setIfInBounds_toArray, List.set_cons_zero, List.set_cons_succ]; rfl)
            refine WZ.done (by kernel_rfl) ?_ _
            simp only [Calm, Exit.then]
            go_wp2
            exact ⟨⟨k + 1, by omega, rfl, HF, HB2⟩, by simp [intOf]; omega⟩
        · have hcd : decide (0 ≤ x.cmp y) = true := decide_eq_true (by omega)
          have HF := Lib.hid (HNOT.out (cc_not_cmp hcmp))
          have hcp : 0 ≤ x.cmp y := by omega
          go_wp2
          refine region_wz (fun W' => W'.rangeAt b (o + j * 7) x.vals ∧ W'.rangeAt b (o + k * 7) y.vals) none (by kernel_rfl) ?_
          apply WZ.take (i := 0) (some 9) rfl rfl (by kernel_rfl) (by kernel_rfl) (by kernel_rfl) (calm_panic _) (by kernel_rfl)
          case hy => (refine .inl ⟨by kernel_rfl, fun W hC => ?_⟩; (try dsimp only at hC); go_simp; (try simp only [hd,hd1,hcd]); rfl)
          case hC => exact HC
          case ha => (simp only [Act.put, List.setIfInBounds_toArray, List.set_cons_zero, List.set_cons_succ]; rfl)
          apply WZ.take (i := 1) (some 10) rfl rfl (by kernel_rfl) (by kernel_rfl) (by kernel_rfl) (calm_panic _) (by kernel_rfl)
          case hy => (refine .inl ⟨by kernel_rfl, fun W hC => ?_⟩; (try dsimp only at hC); go_simp; (try simp only [hd,hd1,hcd]); rfl)
          case hC => exact HC
          case ha => (simp only [Act.put, List.setIfInBounds_toArray, List.set_cons_zero, List.set_cons_succ]; rfl)
          apply WZ.take (i := 2) (some 11) rfl rfl (by kernel_rfl) (by kernel_rfl) (by kernel_rfl) (calm_panic _) (by kernel_rfl)
          case hy => (refine .inl ⟨by kernel_rfl, fun W hC => ?_⟩; (try dsimp only at hC); go_simp; (try simp only [hd,hd1,hcd]); rfl)
          case hC => exact HC
          case ha => (simp only [Act.put, List.setIfInBounds_toArray, List.set_cons_zero, List.set_cons_succ]; rfl)
          apply WZ.take (i := 3) (some 12) rfl rfl (by kernel_rfl) (by kernel_rfl) (by kernel_rfl) (calm_panic _) (by kernel_rfl)
          case hy => (refine .inl ⟨by kernel_rfl, fun W hC => ?_⟩; (try dsimp only at hC); go_simp; (try simp only [hd,hd1,hcd]); rfl)
          case hC => exact HC
          case ha => (simp only [Act.put, List.setIfInBounds_toArray, List.set_cons_zero, List.set_cons_succ]; rfl)
          apply WZ.take (i := 4) (some 13) rfl rfl (by kernel_rfl) (by kernel_rfl) (by kernel_rfl) (calm_panic _) (by kernel_rfl)
          case hy => (refine .inl ⟨by kernel_rfl, fun W hC => ?_⟩; (try dsimp only at hC); go_simp; (try simp only [hd,hd1,hcd]); rfl)
          case hC => exact HC
          case ha => (simp only [Act.put, List.setIfInBounds_toArray, List.set_cons_zero, List.set_cons_succ]; rfl)
          apply WZ.take (i := 5) (some 14) rfl rfl (by kernel_rfl) (by kernel_rfl) (by kernel_rfl) (calm_panic _) (by kernel_rfl)
          case hy => (refine .inl ⟨by kernel_rfl, fun W hC => ?_⟩; (try dsimp only at hC); go_simp; (try simp only [hd,hd1,hcd]); rfl)
          case hC => exact HC
          case ha => (simp only [Act.put, List.setIfInBounds_toArray, List.set_cons_zero, List.set_cons_succ]; rfl)
          apply WZ.take (i := 6) (some 15) rfl rfl (by kernel_rfl) (by kernel_rfl) (by kernel_rfl) (calm_panic _) (by kernel_rfl)
          case hy => (refine .inl ⟨by kernel_rfl, fun W hC => ?_⟩; (try dsimp only at hC); go_simp; (try simp only [hd,hd1,hcd]); rfl)
          case hC => exact HC
          case ha => (simp only [Act.put, List.setIfInBounds_toArray, List.set_cons_zero, List.set_cons_succ]; rfl)
          apply WZ.take (i := 7) (some 16) rfl rfl (by kernel_rfl) (by kernel_rfl) (by kernel_rfl) (calm_panic _) (by kernel_rfl)
          case hy => first | (apply yieldsIf_load_mid (by kernel_rfl) _ _ rfl _ _ rfl; (case hS => (intro W hC; exact (show World.rangeAt _ _ _ (It.vals _) from hC.1))); (case hu => exact Try.underlying59); (case hd => rfl); (case hi => kernel_rfl)) | (apply yieldsIf_load_mid (by kernel_rfl) _ _ rfl _ _ rfl; (case hS => (intro W hC; exact (show World.rangeAt _ _ _ (It.vals _) from hC.2.1))); (case hu => exact Try.underlying59); (case hd => rfl); (case hi => kernel_rfl)) | (apply yieldsIf_load_mid (by kernel_rfl) _ _ rfl _ _ rfl; (case hS => (intro W hC; exact (show World.rangeAt _ _ _ (It.vals _) from hC.2.2.1))); (case hu => exact Try.underlying59); (case hd => rfl); (case hi => kernel_rfl)) | (apply yieldsIf_load_mid (by kernel_rfl) _ _ rfl _ _ rfl; (case hS => (intro W hC; exact (show World.rangeAt _ _ _ (It.vals _) from hC.2.2.2.1))); (case hu => exact Try.underlying59); (case hd => rfl); (case hi => kernel_rfl)) | (apply yieldsIf_load_mid (by kernel_rfl) _ _ rfl _ _ rfl; (case hS => (intro W hC; exact (show World.rangeAt _ _ _ (It.vals _) from hC.2.2.2))); (case hu => exact Try.underlying59); (case hd => rfl); (case hi => kernel_rfl)) | (apply yieldsIf_load_mid (by kernel_rfl) _ _ rfl _ _ rfl; (case hS => (intro W hC; exact (show World.rangeAt _ _ _ (It.vals _) from hC.2.2))); (case hu => exact Try.underlying59); (case hd => rfl); (case hi => kernel_rfl)) | (apply yieldsIf_load_mid (by kernel_rfl) _ _ rfl _ _ rfl; (case hS => (intro W hC; exact (show World.rangeAt _ _ _ (It.vals _) from hC.2))); (case hu => exact Try.underlying59); (case hd => rfl); (case hi => kernel_rfl)) | (apply yieldsIf_load_mid (by kernel_rfl) _ _ rfl _ _ rfl; (case hS => (intro W hC; exact (show World.rangeAt _ _ _ (It.vals _) from hC))); (case hu => exact Try.underlying59); (case hd => rfl); (case hi => kernel_rfl))
          case hC => exact HC
          case ha => (simp only [Act.put, List.setIfInBounds_toArray, List.set_cons_zero, List.set_cons_succ]; rfl)
          apply WZ.take (i := 8) (some 17) rfl rfl (by kernel_rfl) (by kernel_rfl) (by kernel_rfl) (calm_panic _) (by kernel_rfl)
          case hy => (refine .inl ⟨by kernel_rfl, fun W hC => ?_⟩; (try dsimp only at hC); go_simp; (try simp only [hd,hd1,hcd]); rfl)
          case hC => exact HC
          case ha => (simp only [Act.put, List.setIfInBounds_toArray, List.set_cons_zero, List.set_cons_succ]; rfl)
          apply WZ.take (i := 9) (some 18) rfl rfl (by kernel_rfl) (by kernel_rfl) (by kernel_rfl) (calm_panic _) (by kernel_rfl)
          case hy => (refine .inl ⟨by kernel_rfl, fun W hC => ?_⟩; (try dsimp only at hC); go_simp; (try simp only [hd,hd1,hcd]); rfl)
          case hC => exact HC
          case ha => (simp only [Act.put, List.setIfInBounds_toArray, List.set_cons_zero, List.set_cons_succ]; rfl)
          apply WZ.take (i := 10) (some 19) rfl rfl (by kernel_rfl) (by kernel_rfl) (by kernel_rfl) (calm_panic _) (by kernel_rfl)
          case hy => (refine .inl ⟨by kernel_rfl, fun W hC => ?_⟩; (try dsimp only at hC); go_simp; (try simp only [hd,hd1,hcd]); rfl)
          case hC => exact HC
          case ha => (simp only [Act.put, List.setIfInBounds_toArray, List.set_cons_zero, List.set_cons_succ]; rfl)
          apply WZ.take (i := 11) (some 20) rfl rfl (by kernel_rfl) (by kernel_rfl) (by kernel_rfl) (calm_panic _) (by kernel_rfl)
          case hy => first | (apply yieldsIf_load_mid (by kernel_rfl) _ _ rfl _ _ rfl; (case hS => (intro W hC; exact (show World.rangeAt _ _ _ (It.vals _) from hC.1))); (case hu => exact Try.underlying59); (case hd => rfl); (case hi => kernel_rfl)) | (apply yieldsIf_load_mid (by kernel_rfl) _ _ rfl _ _ rfl; (case hS => (intro W hC; exact (show World.rangeAt _ _ _ (It.vals _) from hC.2.1))); (case hu => exact Try.underlying59); (case hd => rfl); (case hi => kernel_rfl)) | (apply yieldsIf_load_mid (by kernel_rfl) _ _ rfl _ _ rfl; (case hS => (intro W hC; exact (show World.rangeAt _ _ _ (It.vals _) from hC.2.2.1))); (case hu => exact Try.underlying59); (case hd => rfl); (case hi => kernel_rfl)) | (apply yieldsIf_load_mid (by kernel_rfl) _ _ rfl _ _ rfl; (case hS => (intro W hC; exact (show World.rangeAt _ _ _ (It.vals _) from hC.2.2.2.1))); (case hu => exact Try.underlying59); (case hd => rfl); (case hi => kernel_rfl)) | (apply yieldsIf_load_mid (by kernel_rfl) _ _ rfl _ _ rfl; (case hS => (intro W hC; exact (show World.rangeAt _ _ _ (It.vals _) from hC.2.2.2))); (case hu => exact Try.underlying59); (case hd => rfl); (case hi => kernel_rfl)) | (apply yieldsIf_load_mid (by kernel_rfl) _ _ rfl _ _ rfl; (case hS => (intro W hC; exact (show World.rangeAt _ _ _ (It.vals _) from hC.2.2))); (case hu => exact Try.underlying59); (case hd => rfl); (case hi => kernel_rfl)) | (apply yieldsIf_load_mid (by kernel_rfl) _ _ rfl _ _ rfl; (case hS => (intro W hC; exact (show World.rangeAt _ _ _ (It.vals _) from hC.2))); (case hu => exact Try.underlying59); (case hd => rfl); (case hi => kernel_rfl)) | (apply yieldsIf_load_mid (by kernel_rfl) _ _ rfl _ _ rfl; (case hS => (intro W hC; exact (show World.rangeAt _ _ _ (It.vals _) from hC))); (case hu => exact Try.underlying59); (case hd => rfl); (case hi => kernel_rfl))
          case hC => exact HC
          case ha => (simp only [Act.put, List.setIfInBounds_toArray, List.set_cons_zero, List.set_cons_succ]; rfl)
          -- 12
          refine WZ.one (i := 12) rfl (by kernel_rfl) ?_
          conv => arg 4; arg 1; whnf
          go_wp2_with (go_at_call 53; refine (itemCompare_any x y _).mono ?_; rintro e w1 ⟨rfl, hb1⟩)
          have HB1 := Lib.hid (HB.out.trans (below_of_drew' (hb1.mono HB.out.size)))
          have HC : w1.rangeAt b (o + j * 7) x.vals ∧ w1.rangeAt b (o + k * 7) y.vals := ⟨rangeAt_below HC.1 hb1 (show b < wr.heap.size by omega), rangeAt_below HC.2 hb1 (show b < wr.heap.size by omega)⟩
          have hz1 : wr.heap.size ≤ w1.heap.size := hb1.size
          clear hb1
          refine ⟨HC, ?_⟩
          apply WZ.take (i := 13) (some 22) rfl rfl (by kernel_rfl) (by kernel_rfl) (by kernel_rfl) (calm_panic _) (by kernel_rfl)
          case hy => (refine .inl ⟨by kernel_rfl, fun W hC => ?_⟩; (try dsimp only at hC); go_simp; (try simp only [hd,hd1,hcd]); rfl)
          case hC => exact HC
          case ha => (simp only [Act.put, List.setIfInBounds_toArray, List.set_cons_zero, List.set_cons_succ]; rfl)
          apply WZ.take (i := 14) (some 23) rfl rfl (by kernel_rfl) (by kernel_rfl) (by kernel_rfl) (calm_panic _) (by kernel_rfl)
          case hy => (refine .inl ⟨by kernel_rfl, fun W hC => ?_⟩; (try dsimp only at hC); go_simp; (try simp only [hd,hd1,hcd]); rfl)
          case hC => exact HC
          case ha => (simp only [Act.put, List.setIfInBounds_toArray, List.set_cons_zero, List.set_cons_succ]; rfl)
          apply WZ.take (i := 15) (some 24) rfl rfl (by kernel_rfl) (by kernel_rfl) (by kernel_rfl) (calm_panic _) (by kernel_rfl)
          case hy => exact .inr ⟨by kernel_rfl, rfl⟩
          case hC => exact HC
          case ha => (simp only [Act.put, List.setIfInBounds_toArray, List.set_cons_zero, List.set_cons_succ]; rfl)
          apply WZ.take (i := 16) (some 25) rfl rfl (by kernel_rfl) (by kernel_rfl) (by kernel_rfl) (calm_panic _) (by kernel_rfl)
          case hy => exact .inr ⟨by kernel_rfl, rfl⟩
          case hC => exact HC
          case ha => (simp only [Act.put, List.setIfInBounds_toArray, List.set_cons_zero, List.set_cons_succ]; rfl)
          apply WZ.take (i := 17) (some 26) rfl rfl (by kernel_rfl) (by kernel_rfl) (by kernel_rfl) (calm_panic _) (by kernel_rfl)
          case hy => exact .inr ⟨by kernel_rfl, rfl⟩
          case hC => exact HC
          case ha => (simp only [Act.put, List.setIfInBounds_toArray, List.set_cons_zero, List.set_cons_succ]; rfl)
          apply WZ.take (i := 18) (some 27) rfl rfl (by kernel_rfl) (by kernel_rfl) (by kernel_rfl) (calm_panic _) (by kernel_rfl)
          case hy => exact .inr ⟨by kernel_rfl, rfl⟩
          case hC => exact HC
          case ha => (simp only [Act.put, List.setIfInBounds_toArray, List.set_cons_zero, List.set_cons_succ]; rfl)
          apply WZ.take (i := 19) (some 28) rfl rfl (by kernel_rfl) (by kernel_rfl) (by kernel_rfl) (calm_panic _) (by kernel_rfl)
          case hy => exact .inr ⟨by kernel_rfl, rfl⟩
          case hC => exact HC
          case ha => (simp only [Act.put, List.setIfInBounds_toArray, List.set_cons_zero, List.set_cons_succ]; rfl)
          apply WZ.take (i := 20) (some 29) rfl rfl (by kernel_rfl) (by kernel_rfl) (by kernel_rfl) (calm_panic _) (by kernel_rfl)
          case hy => exact .inr ⟨by kernel_rfl, rfl⟩
          case hC => exact HC
          case ha => (simp only [Act.put, List.setIfInBounds_toArray, List.set_cons_zero, List.set_cons_succ]; rfl)
          apply WZ.take (i := 21) (some 30) rfl rfl (by kernel_rfl) (by kernel_rfl) (by kernel_rfl) (calm_panic _) (by kernel_rfl)
          case hy => exact .inr ⟨by kernel_rfl, rfl⟩
          case hC => exact HC
          case ha => (simp only [Act.put, List.setIfInBounds_toArray, List.set_cons_zero, List.set_cons_succ]; rfl)
          apply WZ.take (i := 22) (some 31) rfl rfl (by kernel_rfl) (by kernel_rfl) (by kernel_rfl) (calm_panic _) (by kernel_rfl)
          case hy => exact .inr ⟨by kernel_rfl, rfl⟩
          case hC => exact HC
          case ha => (simp only [Act.put, List.setIfInBounds_toArray, List.set_cons_zero, List.set_cons_succ]; rfl)
          apply WZ.take (i := 23) (some 32) rfl rfl (by kernel_rfl) (by kernel_rfl) (by kernel_rfl) (calm_panic _) (by kernel_rfl)
          case hy => exact .inr ⟨by kernel_rfl, rfl⟩
          case hC => exact HC
          case ha => (simp only [Act.put, List.setIfInBounds_toArray, List.set_cons_zero, List.set_cons_succ]; rfl)
          apply WZ.take (i := 24) (some 33) rfl rfl (by kernel_rfl) (by kernel_rfl) (by kernel_rfl) (calm_panic _) (by kernel_rfl)
          case hy => exact .inr ⟨by kernel_rfl, rfl⟩
          case hC => exact HC
          case ha => (simp only [Act.put, List.setIfInBounds_toArray, List.set_cons_zero, List.set_cons_succ]; rfl)
          apply WZ.take (i := 25) (some 34) rfl rfl (by kernel_rfl) (by kernel_rfl) (by kernel_rfl) (calm_panic _) (by kernel_rfl)
          case hy => (refine .inl ⟨by kernel_rfl, fun W hC => ?_⟩; (try dsimp only at hC); go_simp; (try simp only [hd,hd1,hcd]); rfl)
          case hC => exact HC
          case ha => (simp only [Act.put, List.setIfInBounds_toArray, List.set_cons_zero, List.set_cons_succ]; rfl)
          apply WZ.take (i := 26) (some 35) rfl rfl (by kernel_rfl) (by kernel_rfl) (by kernel_rfl) (calm_panic _) (by kernel_rfl)
          case hy => (refine .inl ⟨by kernel_rfl, fun W hC => ?_⟩; (try dsimp only at hC); go_simp; (try simp only [hd,hd1,hcd]); rfl)
          case hC => exact HC
          case ha => (simp only [Act.put, List.setIfInBounds_toArray, List.set_cons_zero, List.set_cons_succ]; rfl)
          refine WZ.done (by kernel_rfl) ?_ _
          simp only [Calm, Exit.then]
          go_wp2
          go_ret
          exact ⟨ret_bool HF.out, HB1.out⟩
    · have e1 : decide ((k : Int) < (N : Int)) = false := decide_eq_false (by omega)
      have HF := Lib.hid (sortTo_end HS.out (by rw [HN.out]; omega))
      go_wp2
      go_ret
      exact ⟨ret_bool HF.out, HB.out⟩
end Go.Proofs.Ytflppcgonbjnmaa
namespace Go.Proofs.Ytflppcgonbjnmaa
open Go.RowKit

theorem Good.mem_iff {l R : List It} (h : Good l R) (x : It) : x ∈ R ↔ IsBest l x := by
  refine ⟨h.best x, fun hb => ?_⟩
  obtain ⟨y, hy, hc⟩ := h.all x hb.mem
  rw [← (h.best y hy).unique hb hc]
  exact hy
theorem resolve_of_best {P Q : List It} (h : ∀ x, IsBest P x ↔ IsBest Q x) : resolve P = resolve Q :=
  (resolve_good P).strict.unique (resolve_good Q).strict fun x => by rw [(resolve_good P).mem_iff, (resolve_good Q).mem_iff, h]
theorem Strict.filter {S : List It} (h : Strict S) {b x : It} (hb : b ∈ S) (hx : cc b x = 0) (hp : b.pos = x.pos) : S.filter (eqv It.lt x) = [b] := by
  induction S with
  | nil => cases hb
  | cons a S ih =>
    unfold Strict at h
    rw [List.pairwise_cons] at h
    have hbx : eqv It.lt x b = true := (eqv_it x b).2 ⟨cc_sym.1 hx, hp.symm⟩
    rcases List.mem_cons.1 hb with rfl | hb'
    · rw [List.filter_cons_of_pos hbx]
      have : S.filter (eqv It.lt x) = [] := by
        rw [List.filter_eq_nil_iff]
        intro z hz hzx
        have h1 := h.1 z hz
        have h2 := ((eqv_it x z).1 hzx).1
        have := cc_cmp.eq_eq hx h2
        omega
      rw [this]
    · have hne : ¬ eqv It.lt x a = true := fun hax => by
        have h1 := h.1 b hb'
        have h2 := ((eqv_it x a).1 hax).1
        have h3 := cc_cmp.eq_eq (cc_sym.1 h2) (cc_sym.1 hx)
        omega
      rw [List.filter_cons_of_neg hne]
      exact ih h.2 hb'
theorem Strict.good {S : List It} (h : Strict S) : Good S S := by
  refine ⟨h, fun x hx => ⟨fun y hy hc => ?_, ?_⟩, fun z hz => ⟨z, hz, cc_cmp.self z⟩⟩
  · have h1 := h.filter hx (cc_cmp.self x) rfl
    by_cases e : y = x
    · subst e; exact Int.le_refl _
    · exfalso
      obtain ⟨i, hi, rfl⟩ := List.getElem_of_mem hx
      obtain ⟨j, hj, rfl⟩ := List.getElem_of_mem hy
      have hp := List.pairwise_iff_getElem.1 h
      rcases Nat.lt_trichotomy i j with hij | hij | hij
      · have := hp i j hi hj hij
        have := cc_sym.1 hc
        omega
      · subst hij; exact e rfl
      · have := hp j i hj hi hij
        omega
  · rw [h.filter hx (cc_cmp.self x) rfl]; rfl
theorem resolve_strict {S : List It} (h : Strict S) : resolve S = S :=
  (resolve_good S).strict.unique h fun x => by rw [(resolve_good S).mem_iff, h.good.mem_iff]
theorem resolve_resolve (l : List It) : resolve (resolve l) = resolve l := resolve_strict (resolve_good l).strict
theorem head_app {α : Type} (a b : List α) : (a ++ b).head? = a.head?.or b.head? := by cases a <;> simp
theorem best_behind (P Z : List It) (x : It) : IsBest (P ++ Z) x ↔ IsBest (P ++ resolve Z) x := by
  have hg := resolve_good Z
  have hpos : (∀ y ∈ Z, cc y x = 0 → y.pos ≤ x.pos) ↔ (∀ y ∈ resolve Z, cc y x = 0 → y.pos ≤ x.pos) := by
    constructor
    · intro h y hy hc
      exact h y (hg.best y hy).mem hc
    · intro h y hy hc
      obtain ⟨b, hb, hcb⟩ := hg.all y hy
      have h1 := (hg.best b hb).1 y hy (cc_sym.1 hcb)
      have h2 := h b hb (cc_cmp.eq_eq hcb hc)
      omega
  have hall : (∀ y ∈ P ++ Z, cc y x = 0 → y.pos ≤ x.pos) ↔ (∀ y ∈ P ++ resolve Z, cc y x = 0 → y.pos ≤ x.pos) := by
    simp only [List.mem_append, or_imp, forall_and]
    rw [hpos]
  unfold IsBest
  rw [hall]
  refine and_congr_right fun ha => ?_
  have haZ : ∀ y ∈ Z, cc y x = 0 → y.pos ≤ x.pos := hpos.2 fun y hy => ha y (List.mem_append.2 (.inr hy))
  rw [List.filter_append, List.filter_append, head_app, head_app]
  have hh : (Z.filter (eqv It.lt x)).head? = ((resolve Z).filter (eqv It.lt x)).head? := by
    by_cases hz : ∃ y ∈ Z, eqv It.lt x y = true
    · obtain ⟨y, hy, hxy⟩ := hz
      obtain ⟨hc, hp⟩ := (eqv_it x y).1 hxy
      obtain ⟨b, hb, hcb⟩ := hg.all y hy
      have hbx : cc b x = 0 := cc_cmp.eq_eq hcb (cc_sym.1 hc)
      have h1 := (hg.best b hb).1 y hy (cc_sym.1 hcb)
      have h2 := haZ b (hg.best b hb).mem hbx
      have hpb : b.pos = x.pos := by omega
      rw [hg.strict.filter hb hbx hpb, eqv_congr ((eqv_it x b).2 ⟨cc_sym.1 hbx, hpb.symm⟩), (hg.best b hb).2]
      rfl
    · have h1 : Z.filter (eqv It.lt x) = [] := List.filter_eq_nil_iff.2 fun y hy hxy => hz ⟨y, hy, hxy⟩
      have h2 : (resolve Z).filter (eqv It.lt x) = [] := List.filter_eq_nil_iff.2 fun y hy hxy => hz ⟨y, (hg.best y hy).mem, hxy⟩
      rw [h1, h2]
  rw [hh]
theorem resolve_behind (P Z : List It) : resolve (P ++ Z) = resolve (P ++ resolve Z) := resolve_of_best (best_behind P Z)
theorem resolve_ahead (P Z : List It) : resolve (P ++ Z) = resolve (resolve P ++ Z) := by
  have h : ∀ A B : List It, resolve (A ++ B) = B.foldl rstep (resolve A) := fun A B => by unfold resolve; rw [List.foldl_append]
  rw [h, h, resolve_resolve]
/-- twice the same: each is found the second time where it lies -/
theorem resolve_twice {S : List It} (h : Strict S) : resolve (S ++ S) = S := by
  rw [← resolve_strict h]
  refine (resolve_of_best fun x => ?_).trans ((congrArg resolve (resolve_strict h)).symm.trans (by rw [resolve_strict h, resolve_strict h]))
  rw [resolve_strict h]
  unfold IsBest
  rw [List.filter_append, head_app]
  constructor
  · rintro ⟨h1, h2⟩
    refine ⟨fun y hy => h1 y (List.mem_append.2 (.inl hy)), ?_⟩
    cases hs : (S.filter (eqv It.lt x)).head? with
    | none => rw [hs] at h2; simp at h2
    | some y => rw [hs] at h2; simpa using h2
  · rintro ⟨h1, h2⟩
    refine ⟨fun y hy => h1 y (by simpa using hy), ?_⟩
    rw [h2]; rfl
/-- lists, one behind the other: each may be resolved ahead -/
theorem resolve_flat : ∀ (ps : List (List It)) (P : List It), resolve (P ++ ps.flatten) = resolve (P ++ (ps.map resolve).flatten)
  | [], P => rfl
  | p :: ps, P => by
    rw [List.flatten_cons, List.map_cons, List.flatten_cons, ← List.append_assoc, ← List.append_assoc, resolve_flat ps (P ++ p), resolve_ahead (P ++ p), resolve_ahead (P ++ resolve p), ← resolve_behind P p]
end Go.Proofs.Ytflppcgonbjnmaa
