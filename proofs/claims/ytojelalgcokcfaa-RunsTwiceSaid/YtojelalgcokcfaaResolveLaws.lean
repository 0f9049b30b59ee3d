/-
  Plain laws of resolving: what is resolved stays; what lies behind may be resolved ahead. No walk, no conditions.
-/
import Derived.Test.YtojelalgcokcfaaSorted
namespace Go.Proofs.Ytojelalgcokcfaa
open Go.RowKit

theorem Good.mem_iff {l R : List It} (h : Good l R) (x : It) : x ∈ R ↔ IsBest l x := by
  refine ⟨h.best x, fun hb => ?_⟩
  obtain ⟨y, hy, hc⟩ := h.all x hb.mem
  rw [← (h.best y hy).unique hb hc]
  exact hy
theorem resolve_of_best {P Q : List It} (h : ∀ x, IsBest P x ↔ IsBest Q x) : resolve P = resolve Q :=
  (resolve_good P).strict.unique (resolve_good Q).strict fun x => by rw [(resolve_good P).mem_iff, (resolve_good Q).mem_iff, h]
theorem Strict.filter {S : List It} (h : Strict S) {b x : It} (hb : b ∈ S) (hx : cc b x = 0) (hp : b.pos = x.pos) : S.filter (eqv It.lt x) = [b] := by
  induction S with
  | nil => cases hb
  | cons a S ih =>
    unfold Strict at h
    rw [List.pairwise_cons] at h
    have hbx : eqv It.lt x b = true := (eqv_it x b).2 ⟨cc_sym.1 hx, hp.symm⟩
    rcases List.mem_cons.1 hb with rfl | hb'
    · rw [List.filter_cons_of_pos hbx]
      have : S.filter (eqv It.lt x) = [] := by
        rw [List.filter_eq_nil_iff]
        intro z hz hzx
        have h1 := h.1 z hz
        have h2 := ((eqv_it x z).1 hzx).1
        have := cc_cmp.eq_eq hx h2
        omega
      rw [this]
    · have hne : ¬ eqv It.lt x a = true := fun hax => by
        have h1 := h.1 b hb'
        have h2 := ((eqv_it x a).1 hax).1
        have h3 := cc_cmp.eq_eq (cc_sym.1 h2) (cc_sym.1 hx)
        omega
      rw [List.filter_cons_of_neg hne]
      exact ih h.2 hb'
theorem Strict.good {S : List It} (h : Strict S) : Good S S := by
  refine ⟨h, fun x hx => ⟨fun y hy hc => ?_, ?_⟩, fun z hz => ⟨z, hz, cc_cmp.self z⟩⟩
  · have h1 := h.filter hx (cc_cmp.self x) rfl
    by_cases e : y = x
    · subst e; exact Int.le_refl _
    · exfalso
      obtain ⟨i, hi, rfl⟩ := List.getElem_of_mem hx
      obtain ⟨j, hj, rfl⟩ := List.getElem_of_mem hy
      have hp := List.pairwise_iff_getElem.1 h
      rcases Nat.lt_trichotomy i j with hij | hij | hij
      · have := hp i j hi hj hij
        have := cc_sym.1 hc
        omega
      · subst hij; exact e rfl
      · have := hp j i hj hi hij
        omega
  · rw [h.filter hx (cc_cmp.self x) rfl]; rfl
theorem resolve_strict {S : List It} (h : Strict S) : resolve S = S :=
  (resolve_good S).strict.unique h fun x => by rw [(resolve_good S).mem_iff, h.good.mem_iff]
theorem resolve_resolve (l : List It) : resolve (resolve l) = resolve l := resolve_strict (resolve_good l).strict
theorem head_app {α : Type} (a b : List α) : (a ++ b).head? = a.head?.or b.head? := by cases a <;> simp
theorem best_behind (P Z : List It) (x : It) : IsBest (P ++ Z) x ↔ IsBest (P ++ resolve Z) x := by
  have hg := resolve_good Z
  have hpos : (∀ y ∈ Z, cc y x = 0 → y.pos ≤ x.pos) ↔ (∀ y ∈ resolve Z, cc y x = 0 → y.pos ≤ x.pos) := by
    constructor
    · intro h y hy hc
      exact h y (hg.best y hy).mem hc
    · intro h y hy hc
      obtain ⟨b, hb, hcb⟩ := hg.all y hy
      have h1 := (hg.best b hb).1 y hy (cc_sym.1 hcb)
      have h2 := h b hb (cc_cmp.eq_eq hcb hc)
      omega
  have hall : (∀ y ∈ P ++ Z, cc y x = 0 → y.pos ≤ x.pos) ↔ (∀ y ∈ P ++ resolve Z, cc y x = 0 → y.pos ≤ x.pos) := by
    simp only [List.mem_append, or_imp, forall_and]
    rw [hpos]
  unfold IsBest
  rw [hall]
  refine and_congr_right fun ha => ?_
  have haZ : ∀ y ∈ Z, cc y x = 0 → y.pos ≤ x.pos := hpos.2 fun y hy => ha y (List.mem_append.2 (.inr hy))
  rw [List.filter_append, List.filter_append, head_app, head_app]
  have hh : (Z.filter (eqv It.lt x)).head? = ((resolve Z).filter (eqv It.lt x)).head? := by
    by_cases hz : ∃ y ∈ Z, eqv It.lt x y = true
    · obtain ⟨y, hy, hxy⟩ := hz
      obtain ⟨hc, hp⟩ := (eqv_it x y).1 hxy
      obtain ⟨b, hb, hcb⟩ := hg.all y hy
      have hbx : cc b x = 0 := cc_cmp.eq_eq hcb (cc_sym.1 hc)
      have h1 := (hg.best b hb).1 y hy (cc_sym.1 hcb)
      have h2 := haZ b (hg.best b hb).mem hbx
      have hpb : b.pos = x.pos := by omega
      rw [hg.strict.filter hb hbx hpb, eqv_congr ((eqv_it x b).2 ⟨cc_sym.1 hbx, hpb.symm⟩), (hg.best b hb).2]
      rfl
    · have h1 : Z.filter (eqv It.lt x) = [] := List.filter_eq_nil_iff.2 fun y hy hxy => hz ⟨y, hy, hxy⟩
      have h2 : (resolve Z).filter (eqv It.lt x) = [] := List.filter_eq_nil_iff.2 fun y hy hxy => hz ⟨y, (hg.best y hy).mem, hxy⟩
      rw [h1, h2]
  rw [hh]
theorem resolve_behind (P Z : List It) : resolve (P ++ Z) = resolve (P ++ resolve Z) := resolve_of_best (best_behind P Z)
theorem resolve_ahead (P Z : List It) : resolve (P ++ Z) = resolve (resolve P ++ Z) := by
  have h : ∀ A B : List It, resolve (A ++ B) = B.foldl rstep (resolve A) := fun A B => by unfold resolve; rw [List.foldl_append]
  rw [h, h, resolve_resolve]
/-- twice the same: each is found the second time where it lies -/
theorem resolve_twice {S : List It} (h : Strict S) : resolve (S ++ S) = S := by
  rw [← resolve_strict h]
  refine (resolve_of_best fun x => ?_).trans ((congrArg resolve (resolve_strict h)).symm.trans (by rw [resolve_strict h, resolve_strict h]))
  rw [resolve_strict h]
  unfold IsBest
  rw [List.filter_append, head_app]
  constructor
  · rintro ⟨h1, h2⟩
    refine ⟨fun y hy => h1 y (List.mem_append.2 (.inl hy)), ?_⟩
    cases hs : (S.filter (eqv It.lt x)).head? with
    | none => rw [hs] at h2; simp at h2
    | some y => rw [hs] at h2; simpa using h2
  · rintro ⟨h1, h2⟩
    refine ⟨fun y hy => h1 y (by simpa using hy), ?_⟩
    rw [h2]; rfl
/-- lists, one behind the other: each may be resolved ahead -/
theorem resolve_flat : ∀ (ps : List (List It)) (P : List It), resolve (P ++ ps.flatten) = resolve (P ++ (ps.map resolve).flatten)
  | [], P => rfl
  | p :: ps, P => by
    rw [List.flatten_cons, List.map_cons, List.flatten_cons, ← List.append_assoc, ← List.append_assoc, resolve_flat ps (P ++ p), resolve_ahead (P ++ p), resolve_ahead (P ++ resolve p), ← resolve_behind P p]
end Go.Proofs.Ytojelalgcokcfaa
