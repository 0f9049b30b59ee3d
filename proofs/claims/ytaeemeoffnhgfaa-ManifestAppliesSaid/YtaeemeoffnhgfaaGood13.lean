/-
  What states have in common that Apply makes, plain. No program in sight.
-/
import Derived.Test.YtaeemeoffnhgfaaSmall13
namespace Go.Proofs.Ytaeemeoffnhgfaa
open Go.RowKit

theorem beq_name (s t : ByteArray) : (s.toList == t.toList) = decide (s = t) := by
  by_cases e : s = t
  · subst e; simp
  · rw [decide_eq_false e, beq_eq_false_iff_ne]
    exact fun k => e (toList_inj k)
/-- each list has a sorted one, alike class by class -/
theorem ss_exists {α : Type} {lt : α → α → Bool} (hw : Weak lt) (l : List α) : ∃ m, SS lt l m := by
  obtain ⟨r, hr⟩ : ∃ r, r = l.reverse := ⟨_, rfl⟩
  have hl : l = r.reverse := by rw [hr, List.reverse_reverse]
  subst hl
  clear hr
  induction r with
  | nil => exact ⟨[], SS.refl List.Pairwise.nil⟩
  | cons x r ih =>
    obtain ⟨m, hm⟩ := ih
    rw [List.reverse_cons]
    obtain ⟨s1, s2, e, h1, h2⟩ : ∃ s1 s2, m = s1 ++ s2 ∧ (∀ y ∈ s1, lt x y = false) ∧ ∀ y ∈ s2, lt x y = true := by
      have hs := hm.1
      clear hm
      induction m with
      | nil => exact ⟨[], [], rfl, fun y hy => (by cases hy), fun y hy => (by cases hy)⟩
      | cons z m ih2 =>
        obtain ⟨hz, hs'⟩ := List.pairwise_cons.1 hs
        cases hc : lt x z with
        | true =>
          refine ⟨[], z :: m, rfl, fun y hy => (by cases hy), fun y hy => ?_⟩
          rcases List.mem_cons.1 hy with rfl | hy
          · exact hc
          · exact hw.lt_le hc (hz y hy)
        | false =>
          obtain ⟨s1, s2, e, h1, h2⟩ := ih2 hs'
          refine ⟨z :: s1, s2, by rw [e]; rfl, fun y hy => ?_, h2⟩
          rcases List.mem_cons.1 hy with rfl | hy
          · exact hc
          · exact h1 y hy
    subst e
    refine ⟨s1 ++ [x] ++ s2, ins_done hw hm.1 h2 (fun y hy => h1 y (List.mem_of_getLast? hy)), fun c => ?_, ?_⟩
    · have hst := hm.2.1 c
      rw [List.filter_append] at hst
      rw [List.filter_append, List.filter_append, List.filter_append, ← hst]
      cases hc : eqv lt c x with
      | false =>
        have : [x].filter (eqv lt c) = [] := by rw [List.filter_cons, hc]; rfl
        rw [this, List.append_nil, List.append_nil]
      | true =>
        have h3 : s2.filter (eqv lt c) = [] := List.filter_eq_nil_iff.2 fun y hy => by rw [hw.eqv_lt hc (h2 y hy)]; exact Bool.false_ne_true
        rw [h3, List.append_nil, List.append_nil]
    · refine (hm.2.2.append_right [x]).trans ?_
      rw [List.append_assoc, List.append_assoc]
      exact List.Perm.append_left s1 List.perm_append_comm
theorem srt_ss (l : List Fi) : SS Fi.lt l (srt l) := by
  obtain ⟨m, hm⟩ := ss_exists fi_weak l
  rw [srt_eq hm]
  exact hm
theorem srt_mem {l : List Fi} {x : Fi} : x ∈ srt l ↔ x ∈ l := (srt_ss l).2.2.mem_iff.symm
theorem srt_len (l : List Fi) : (srt l).length = l.length := (srt_ss l).2.2.length_eq.symm
def ne2 (a b : Fi) : Prop := a.name ≠ b.name
theorem ne2_symm {a b : Fi} (h : ne2 a b) : ne2 b a := Ne.symm h
/-- a state that Apply has made -/
structure Good (S : List Fi) : Prop where
  may : ∀ x ∈ S, may x = true
  uniq : S.Pairwise ne2
  srt : Srt Fi.lt S
  ap : apart S = true
theorem Good.nil : Good [] := ⟨fun x hx => (by cases hx), List.Pairwise.nil, List.Pairwise.nil, decide_eq_true fun i hi => absurd hi (Nat.not_lt_zero i)⟩
theorem cnt_pos {s : ByteArray} {l : List Fi} {x : Fi} (h : x ∈ l) (e : x.name = s) : 0 < cnt s (nms l) := by
  unfold cnt nms
  apply List.length_pos_of_mem (a := s)
  rw [List.mem_filter]
  exact ⟨List.mem_map.2 ⟨x, h, e⟩, decide_eq_true rfl⟩
theorem nms_append (a b : List Fi) : nms (a ++ b) = nms a ++ nms b := List.map_append
theorem nms_cons (x : Fi) (l : List Fi) : nms (x :: l) = x.name :: nms l := rfl
theorem uniq_of_cnt : ∀ {l : List Fi}, (∀ f ∈ l, cnt f.name (nms l) ≤ 1) → l.Pairwise ne2
  | [], _ => List.Pairwise.nil
  | x :: l, h => by
    refine List.pairwise_cons.2 ⟨fun y hy e => ?_, uniq_of_cnt fun f hf => ?_⟩
    · have h1 := h x List.mem_cons_self
      rw [nms_cons, cnt_cons, if_pos rfl] at h1
      have := cnt_pos hy e.symm
      omega
    · have h1 := h f (List.mem_cons_of_mem _ hf)
      rw [nms_cons, cnt_cons] at h1
      omega
theorem applyM_inv {S add m : List Fi} {del : List ByteArray} (h : applyM S add del = (0, m)) : ∃ L, delAll (srt S) del = some L ∧ twice add (L ++ add) = false ∧ apart (srt (L ++ add)) = true ∧ m = srt (L ++ add) := by
  cases hd : delAll (srt S) del with
  | none => rw [applyM_none hd] at h; cases h
  | some L =>
    cases ht : twice add (L ++ add) with
    | true => rw [applyM_twice hd ht] at h; cases h
    | false =>
      cases ha : apart (srt (L ++ add)) with
      | false => rw [applyM_order hd ht ha] at h; cases h
      | true =>
        rw [applyM_ok hd ht ha] at h
        injection h with _ h
        exact ⟨L, rfl, ht, ha, h.symm⟩
theorem applyF_inv {nx fl nx' fl' : Int} {S add m : List Fi} {del : List ByteArray} (h : applyF nx fl nx' fl' S add del = (0, m)) : (∀ x ∈ add, may x = true) ∧ applyM S add del = (0, m) := by
  unfold applyF at h
  split at h
  · cases h
  · next hn =>
    refine ⟨fun x hx => ?_, h⟩
    cases hm : may x with
    | true => rfl
    | false => exact absurd (Or.inl (List.any_eq_true.2 ⟨x, hx, by rw [hm]; rfl⟩)) hn
theorem Good.apply {nx fl nx' fl' : Int} {S add m : List Fi} {del : List ByteArray} (hS : Good S) (h : applyF nx fl nx' fl' S add del = (0, m)) : Good m ∧ m.length ≤ S.length + add.length := by
  obtain ⟨ha, hm⟩ := applyF_inv h
  obtain ⟨L, h1, h2, h3, rfl⟩ := applyM_inv hm
  have hsub := delAll_sub h1
  have hLS : ∀ x ∈ L, x ∈ S := fun x hx => srt_mem.1 (hsub.subset hx)
  have hLu : L.Pairwise ne2 := List.Pairwise.sublist hsub ((List.Perm.pairwise_iff ne2_symm (srt_ss S).2.2).1 hS.uniq)
  have hc : ∀ f ∈ add, cnt f.name (nms (L ++ add)) ≤ 1 := fun f hf => by
    have := List.any_eq_false.1 h2 f hf
    simp only [decide_eq_true_eq] at this
    omega
  have hu : (L ++ add).Pairwise ne2 := by
    refine List.pairwise_append.2 ⟨hLu, uniq_of_cnt fun f hf => ?_, fun x hx y hy e => ?_⟩
    · have := hc f hf
      rw [nms_append, cnt_append] at this
      omega
    · have h4 := hc y hy
      rw [nms_append, cnt_append] at h4
      have h5 := cnt_pos hx e
      have h6 := cnt_pos hy rfl
      omega
  refine ⟨⟨fun x hx => ?_, (List.Perm.pairwise_iff ne2_symm (srt_ss _).2.2).1 hu, (srt_ss _).1, h3⟩, ?_⟩
  · rcases List.mem_append.1 (srt_mem.1 hx) with hx | hx
    · exact hS.may x (hLS x hx)
    · exact ha x hx
  · rw [srt_len, List.length_append]
    have h4 := hsub.length_le
    rw [srt_len] at h4
    omega
/-- a row is in one file of a level at most -/
theorem apart_pair {S : List Fi} (h : apart S = true) : S.Pairwise fun a b => clash b a = false :=
  List.pairwise_iff_getElem.2 fun i j hi hj hij => of_decide_eq_true h j hj i hij
theorem onRows_clash {z : Int} {row : ByteArray} {a b : Fi} (hz : 0 < z) (ha : onRows z row row a = true) (hb : onRows z row row b = true) : clash b a = true := by
  unfold onRows meets at ha hb
  simp only [Bool.and_eq_true, decide_eq_true_eq, Bool.not_eq_true'] at ha hb
  obtain ⟨a1, a2, a3⟩ := ha
  obtain ⟨b1, b2, b3⟩ := hb
  have h1 : lt a.high b.low = false := by
    cases h : lt a.high b.low with
    | false => rfl
    | true =>
      -- a.high < b.low ≤ row ≤ a.high
      have := txt_lt_le h b2
      rw [a3] at this
      cases this
  have h2 : lt b.high a.low = false := by
    cases h : lt b.high a.low with
    | false => rfl
    | true =>
      have := txt_lt_le h a2
      rw [b3] at this
      cases this
  show (decide (0 < b.level) && decide (b.level = a.level) && (!lt a.high b.low && !lt b.high a.low)) = true
  rw [decide_eq_true (by omega), decide_eq_true (by omega), h1, h2]
  rfl
where txt_lt_le {a b c : ByteArray} (h : lt a b = true) (h2 : lt c b = false) : lt a c = true := by
        cases h3 : lt a c with
        | true => rfl
        | false =>
          rcases Classical.em (a = c) with e | e
          · subst e; rw [h] at h2; cases h2
          · have h4 : lt c a = true := by
              cases h5 : lt c a with
              | true => rfl
              | false => exact absurd (lt_total h3 h5) e
            rw [lt_trans h4 h] at h2
            cases h2
theorem once_row {S : List Fi} (h : apart S = true) {z : Int} (hz : 0 < z) (row : ByteArray) : (S.filter (onRows z row row)).length ≤ 1 := by
  have hp := (apart_pair h).filter (onRows z row row)
  have hq : ∀ x ∈ S.filter (onRows z row row), onRows z row row x = true := fun x hx => (List.mem_filter.1 hx).2
  match hl : S.filter (onRows z row row), hp, hq with
  | [], _, _ => simp
  | [_], _, _ => simp
  | a :: b :: r, hp, hq =>
    have h1 := (List.pairwise_cons.1 hp).1 b List.mem_cons_self
    rw [onRows_clash hz (hq a List.mem_cons_self) (hq b (List.mem_cons_of_mem _ List.mem_cons_self))] at h1
    cases h1
theorem lt_level {a b : Fi} (h : Fi.lt b a = false) : a.level ≤ b.level := by
  rcases Int.lt_or_le b.level a.level with h1 | h1
  · exfalso
    have : Fi.lt b a = true := by
      unfold Fi.lt
      rw [Fi.cmp_eq]
      have e : numI b.level a.level = -1 := by unfold numI; rw [if_pos h1]
      rw [e]
      rfl
    rw [h] at this
    cases this
  · exact h1
theorem levels3 : ∀ {S : List Fi}, S.Pairwise (fun a b => a.level ≤ b.level) → (∀ x ∈ S, 0 ≤ x.level ∧ x.level < 3) →
    S = S.filter (fun x => decide (x.level = 0)) ++ S.filter (fun x => decide (x.level = 1)) ++ S.filter (fun x => decide (x.level = 2))
  | [], _, _ => rfl
  | x :: S, hp, hr => by
    obtain ⟨h1, h2⟩ := List.pairwise_cons.1 hp
    have ih := levels3 h2 fun y hy => hr y (List.mem_cons_of_mem _ hy)
    have hx := hr x List.mem_cons_self
    have hnone : ∀ z : Int, z < x.level → S.filter (fun y => decide (y.level = z)) = [] := fun z hz => List.filter_eq_nil_iff.2 fun y hy => by
      have := h1 y hy
      simp only [decide_eq_true_eq]
      omega
    rcases (show x.level = 0 ∨ x.level = 1 ∨ x.level = 2 by omega) with e | e | e
    · rw [List.filter_cons, List.filter_cons, List.filter_cons, decide_eq_true e, decide_eq_false (by omega : ¬ x.level = 1), decide_eq_false (by omega : ¬ x.level = 2), if_pos rfl, if_neg Bool.false_ne_true, if_neg Bool.false_ne_true, List.cons_append, List.cons_append, ← ih]
    · rw [hnone 0 (by omega)] at ih
      rw [List.filter_cons, List.filter_cons, List.filter_cons, decide_eq_true e, decide_eq_false (by omega : ¬ x.level = 0), decide_eq_false (by omega : ¬ x.level = 2), if_pos rfl, if_neg Bool.false_ne_true, if_neg Bool.false_ne_true, hnone 0 (by omega), List.nil_append, List.cons_append]
      rw [List.nil_append] at ih
      rw [← ih]
    · rw [hnone 0 (by omega), hnone 1 (by omega)] at ih
      rw [List.filter_cons, List.filter_cons, List.filter_cons, decide_eq_true e, decide_eq_false (by omega : ¬ x.level = 0), decide_eq_false (by omega : ¬ x.level = 1), if_pos rfl, if_neg Bool.false_ne_true, if_neg Bool.false_ne_true, hnone 0 (by omega), hnone 1 (by omega), List.nil_append, List.nil_append]
      rw [List.nil_append, List.nil_append] at ih
      rw [← ih]
theorem may_level {f : Fi} (h : may f = true) : 0 ≤ f.level ∧ f.level < 3 := by
  unfold may at h
  simp only [Bool.and_eq_true, decide_eq_true_eq] at h
  exact ⟨h.1.1.1.1.1.1.1, h.1.1.1.1.1.1.2⟩
theorem filter_onRows (S : List Fi) (z : Int) (lo hi : ByteArray) : (S.filter fun x => decide (x.level = z)).filter (fun f => meets f lo hi) = S.filter (onRows z lo hi) := by
  rw [List.filter_filter]
  congr 1
  funext x
  unfold onRows
  rw [Bool.and_comm]
theorem Good.finds {S : List Fi} (h : Good S) (row : ByteArray) : S.filter (onRow row) = S.filter (onRows 0 row row) ++ S.filter (onRows 1 row row) ++ S.filter (onRows 2 row row) := by
  have h1 := levels3 (h.srt.imp fun h => lt_level h) (fun x hx => may_level (h.may x hx))
  have h2 := congrArg (List.filter (fun f => meets f row row)) h1
  rw [List.filter_append, List.filter_append, filter_onRows, filter_onRows, filter_onRows] at h2
  exact h2
theorem Good.over3 {S : List Fi} (h : Good S) (row : ByteArray) : S.filter (onRows 3 row row) = [] := List.filter_eq_nil_iff.2 fun x hx => by
  have := may_level (h.may x hx)
  unfold onRows
  rw [decide_eq_false (by omega)]
  simp
end Go.Proofs.Ytaeemeoffnhgfaa
