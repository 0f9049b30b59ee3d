/-
  Plain laws on sorting that keeps what is alike in order: lists that rise, lists alike class by class, and what of the two determines a list. No program, no memory.
-/
import Derived.Test.YtaeemeoffnhgfaaPlain
namespace Go.Proofs.Ytaeemeoffnhgfaa
open Go.RowKit

section
variable {α : Type} (lt : α → α → Bool)

/-- an order of classes: never both ways, and 'not above' goes on -/
structure Weak : Prop where
  asymm : ∀ a b, lt a b = true → lt b a = false
  trans : ∀ a b c, lt b a = false → lt c b = false → lt c a = false
def eqv (c x : α) : Bool := !lt c x && !lt x c
def Srt (l : List α) : Prop := l.Pairwise fun a b => lt b a = false
/-- alike, class by class -/
def Stb (l l' : List α) : Prop := ∀ c, l'.filter (eqv lt c) = l.filter (eqv lt c)

variable {lt}
theorem Weak.irrefl (h : Weak lt) (a : α) : lt a a = false := by
  cases k : lt a a with
  | false => rfl
  | true => have := h.asymm a a k; rw [k] at this; cases this
theorem Weak.eqv_self (h : Weak lt) (a : α) : eqv lt a a = true := by simp [eqv, h.irrefl]
theorem Weak.lt_trans (h : Weak lt) {a b c : α} (h1 : lt a b = true) (h2 : lt b c = true) : lt a c = true := by
  cases k : lt a c with
  | true => rfl
  | false =>
    have := h.trans b c a (h.asymm _ _ h2) k
    rw [h1] at this
    cases this
theorem Weak.lt_le (h : Weak lt) {a b c : α} (h1 : lt a b = true) (h2 : lt c b = false) : lt a c = true := by
  cases k : lt a c with
  | true => rfl
  | false =>
    have := h.trans b c a h2 k
    rw [h1] at this
    cases this
theorem Weak.le_lt (h : Weak lt) {a b c : α} (h1 : lt b a = false) (h2 : lt b c = true) : lt a c = true := by
  cases k : lt a c with
  | true => rfl
  | false =>
    have := h.trans c a b k h1
    rw [h2] at this
    cases this
theorem Weak.eqv_lt (h : Weak lt) {c x y : α} (h1 : eqv lt c x = true) (h2 : lt x y = true) : eqv lt c y = false := by
  unfold eqv at *
  simp only [Bool.and_eq_true, Bool.not_eq_true'] at h1
  have : lt c y = true := h.le_lt h1.2 h2
  simp [this]

theorem Stb.refl (l : List α) : Stb lt l l := fun _ => rfl
theorem Stb.trans {a b c : List α} (h : Stb lt a b) (k : Stb lt b c) : Stb lt a c := fun x => (k x).trans (h x)
theorem Stb.symm {a b : List α} (h : Stb lt a b) : Stb lt b a := fun x => (h x).symm
theorem Stb.append {a b c d : List α} (h : Stb lt a b) (k : Stb lt c d) : Stb lt (a ++ c) (b ++ d) := fun x => by
  rw [List.filter_append, List.filter_append, h x, k x]
theorem Stb.mid {a b : List α} (h : Stb lt a b) (x y : List α) : Stb lt (x ++ a ++ y) (x ++ b ++ y) := ((Stb.refl x).append h).append (Stb.refl y)
/-- two parts change their places, where the later one is below -/
theorem Stb.swap (hw : Weak lt) {x y : List α} (h : ∀ a ∈ x, ∀ b ∈ y, lt b a = true) : Stb lt (x ++ y) (y ++ x) := fun c => by
  rw [List.filter_append, List.filter_append]
  by_cases hx : x.filter (eqv lt c) = []
  · rw [hx]; simp
  · have hy : y.filter (eqv lt c) = [] := by
      obtain ⟨a, ha⟩ := List.exists_mem_of_ne_nil _ hx
      rw [List.mem_filter] at ha
      rw [List.filter_eq_nil_iff]
      intro b hb e
      have := hw.eqv_lt e (h a ha.1 b hb)
      rw [ha.2] at this
      cases this
    rw [hy]; simp

theorem Srt.unique (hw : Weak lt) : ∀ {l m : List α}, Srt lt l → Srt lt m → Stb lt l m → l = m
  | [], [], _, _, _ => rfl
  | [], y :: m, _, _, h => by
    have := h y
    rw [List.filter_cons_of_pos (hw.eqv_self y)] at this
    cases this
  | x :: l, [], _, _, h => by
    have := h x
    rw [List.filter_cons_of_pos (hw.eqv_self x)] at this
    cases this
  | x :: l, y :: m, hl, hm, h => by
    unfold Srt at hl hm
    rw [List.pairwise_cons] at hl hm
    have hx := h x
    have hy := h y
    rw [List.filter_cons_of_pos (hw.eqv_self x)] at hx
    rw [List.filter_cons_of_pos (hw.eqv_self y)] at hy
    have h1 : x ∈ y :: m := by
      have : x ∈ (y :: m).filter (eqv lt x) := by rw [hx]; simp
      exact (List.mem_filter.1 this).1
    have h2 : y ∈ x :: l := by
      have : y ∈ (x :: l).filter (eqv lt y) := by rw [← hy]; simp
      exact (List.mem_filter.1 this).1
    have l1 : lt x y = false := by
      rcases List.mem_cons.1 h1 with rfl | h1
      · exact hw.irrefl _
      · exact hm.1 x h1
    have l2 : lt y x = false := by
      rcases List.mem_cons.1 h2 with rfl | h2
      · exact hw.irrefl _
      · exact hl.1 y h2
    have he : eqv lt x y = true := by simp [eqv, l1, l2]
    rw [List.filter_cons_of_pos he] at hx
    injection hx with e1 e2
    subst e1
    have : l = m := Srt.unique hw hl.2 hm.2 fun c => by
      have hc := h c
      by_cases hcy : eqv lt c y = true
      · rw [List.filter_cons_of_pos hcy, List.filter_cons_of_pos hcy] at hc
        injection hc
      · rw [List.filter_cons_of_neg hcy, List.filter_cons_of_neg hcy] at hc
        exact hc
    rw [this]

/-- sorted, and alike class by class -/
def SS (lt : α → α → Bool) (l m : List α) : Prop := Srt lt m ∧ Stb lt l m ∧ l.Perm m
theorem SS.unique (hw : Weak lt) {l m n : List α} (h : SS lt l m) (k : SS lt l n) : m = n := Srt.unique hw h.1 k.1 (h.2.1.symm.trans k.2.1)

theorem srt_append {a b : List α} : Srt lt (a ++ b) ↔ Srt lt a ∧ Srt lt b ∧ ∀ x ∈ a, ∀ y ∈ b, lt y x = false := List.pairwise_append

/-- what is to be put in goes ahead of all that is above it -/
theorem ins_done (hw : Weak lt) {s1 s2 : List α} {x : α} (h : Srt lt (s1 ++ s2)) (h2 : ∀ y ∈ s2, lt x y = true) (h1 : ∀ y, s1.getLast? = some y → lt x y = false) : Srt lt (s1 ++ [x] ++ s2) := by
  rw [srt_append] at h
  rw [srt_append, srt_append]
  have key : ∀ y ∈ s1, lt x y = false := by
    intro y hy
    rcases List.eq_nil_or_concat s1 with rfl | ⟨t, z, rfl⟩
    · cases hy
    · rw [List.concat_eq_append] at *
      have hz := h1 z (by simp)
      have hs := (srt_append.1 h.1).2.2
      rcases List.mem_append.1 hy with hy | hy
      · exact hw.trans _ _ _ (hs y hy z (by simp)) hz
      · rw [List.mem_singleton.1 hy]; exact hz
  refine ⟨⟨h.1, by simp [Srt], fun a ha b hb => by rw [List.mem_singleton.1 hb]; exact key a ha⟩, h.2.1, fun a ha b hb => ?_⟩
  rcases List.mem_append.1 ha with ha | ha
  · exact h.2.2 a ha b hb
  · rw [List.mem_singleton.1 ha]; exact hw.asymm _ _ (h2 b hb)

/-- two sorted parts, cut at one place each, so that what changes its place is below, and the rest is not -/
theorem merge_join (hw : Weak lt) {a1 a2 b1 b2 m1 m2 : List α} (ha : Srt lt (a1 ++ a2)) (hb : Srt lt (b1 ++ b2)) (h1 : ∀ x ∈ a2, ∀ y ∈ b1, lt y x = true) (h2 : ∀ x ∈ a1, ∀ y ∈ b2, lt y x = false)
    (k1 : SS lt (a1 ++ b1) m1) (k2 : SS lt (a2 ++ b2) m2) : SS lt ((a1 ++ a2) ++ (b1 ++ b2)) (m1 ++ m2) := by
  rw [srt_append] at ha hb
  have mem1 : ∀ x ∈ m1, x ∈ a1 ∨ x ∈ b1 := fun x hx => List.mem_append.1 (k1.2.2.symm.subset hx)
  have mem2 : ∀ x ∈ m2, x ∈ a2 ∨ x ∈ b2 := fun x hx => List.mem_append.1 (k2.2.2.symm.subset hx)
  refine ⟨srt_append.2 ⟨k1.1, k2.1, fun x hx y hy => ?_⟩, ?_, ?_⟩
  · rcases mem1 x hx with hx | hx <;> rcases mem2 y hy with hy | hy
    · exact ha.2.2 x hx y hy
    · exact h2 x hx y hy
    · exact hw.asymm _ _ (h1 y hy x hx)
    · exact hb.2.2 x hx y hy
  · have e1 : (a1 ++ a2) ++ (b1 ++ b2) = a1 ++ (a2 ++ b1) ++ b2 := by simp
    have e2 : a1 ++ (b1 ++ a2) ++ b2 = (a1 ++ b1) ++ (a2 ++ b2) := by simp
    rw [e1]
    refine ((Stb.swap hw (fun x hx y hy => h1 x hx y hy)).mid a1 b2).trans ?_
    rw [e2]
    exact k1.2.1.append k2.2.1
  · refine List.Perm.trans ?_ (k1.2.2.append k2.2.2)
    simp only [List.append_assoc]
    refine List.Perm.append_left a1 ?_
    rw [← List.append_assoc, ← List.append_assoc]
    exact List.Perm.append_right b2 List.perm_append_comm

theorem SS.refl {l : List α} (h : Srt lt l) : SS lt l l := ⟨h, Stb.refl l, List.Perm.refl l⟩
theorem SS.of_stb {l m n : List α} (h : Stb lt l m) (hp : l.Perm m) (k : SS lt m n) : SS lt l n := ⟨k.1, h.trans k.2.1, hp.trans k.2.2⟩
theorem SS.append2 {a b c d : List α} (h : Stb lt a b) (hp : a.Perm b) (k : Stb lt c d) (kp : c.Perm d) : Stb lt (a ++ c) (b ++ d) ∧ (a ++ c).Perm (b ++ d) := ⟨h.append k, hp.append kp⟩
end
end Go.Proofs.Ytaeemeoffnhgfaa
