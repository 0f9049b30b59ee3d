/-
  What the reference's Apply answers, plain; and that it is what manifest.Apply answers. No program in sight.
-/
import Derived.Test.YtaeemeoffnhgfaaRefBox13
namespace Go.Proofs.Ytaeemeoffnhgfaa
open Go.RowKit

def putAll (m fs : List Fi) : List Fi := fs.foldl putF m
def addAll : List Fi → List Fi → Option (List Fi)
  | l, [] => some l
  | l, f :: fs => if l.any (named f.name) then none else addAll (putF l f) fs
theorem addAll_nil (l : List Fi) : addAll l [] = some l := by rw [addAll]
theorem addAll_hit {l : List Fi} {f : Fi} (fs : List Fi) (h : l.any (named f.name) = true) : addAll l (f :: fs) = none := by rw [addAll, if_pos h]
theorem addAll_miss {l : List Fi} {f : Fi} (fs : List Fi) (h : l.any (named f.name) = false) : addAll l (f :: fs) = addAll (putF l f) fs := by rw [addAll, h]; rfl
def refM (S add : List Fi) (del : List ByteArray) : Int × List Fi :=
  match delAll (putAll [] S) del with
  | none => (3, [])
  | some l => match addAll l add with
    | none => (4, [])
    | some m => if apart m then (0, m) else (40, [])
theorem refM_none {S add : List Fi} {del : List ByteArray} (h : delAll (putAll [] S) del = none) : refM S add del = (3, []) := by unfold refM; rw [h]
theorem refM_twice {S add l : List Fi} {del : List ByteArray} (h : delAll (putAll [] S) del = some l) (h2 : addAll l add = none) : refM S add del = (4, []) := by unfold refM; simp only [h, h2]
theorem refM_order {S add l m : List Fi} {del : List ByteArray} (h : delAll (putAll [] S) del = some l) (h2 : addAll l add = some m) (h3 : apart m = false) : refM S add del = (40, []) := by unfold refM; simp only [h, h2, h3]; rfl
theorem refM_ok {S add l m : List Fi} {del : List ByteArray} (h : delAll (putAll [] S) del = some l) (h2 : addAll l add = some m) (h3 : apart m = true) : refM S add del = (0, m) := by unfold refM; simp only [h, h2, h3]; rfl
def refF (nx fl nx' fl' : Int) (S add : List Fi) (del : List ByteArray) : Int × List Fi :=
  if (add.any fun x => !may x) = true ∨ nx' < nx ∨ fl' < fl then (1, []) else refM S add del
theorem txt_lt (a b : ByteArray) : lt a b = decide (txt a b < 0) := by
  unfold txt
  cases h : lt a b <;> cases k : lt b a <;> simp
theorem lessF_lt (a b : Fi) : lessF a b = Fi.lt a b := by
  unfold lessF Fi.lt
  rw [Fi.cmp_eq]
  by_cases h1 : a.level = b.level
  · rw [if_pos h1, if_pos (numI_eq.2 h1)]
    by_cases h2 : a.low = b.low
    · rw [if_pos h2, if_pos (txt_eq.2 h2), txt_lt]
    · rw [if_neg h2, if_neg (fun h => h2 (txt_eq.1 h)), txt_lt]
  · rw [if_neg h1, if_neg (fun h => h1 (numI_eq.1 h))]
    unfold numI
    by_cases h3 : a.level < b.level
    · rw [if_pos h3, decide_eq_true h3]; rfl
    · rw [if_neg h3, if_pos (by omega), decide_eq_false h3]; rfl
theorem ne2_lt {a b : Fi} (h : ne2 a b) (h1 : Fi.lt a b = false) : Fi.lt b a = true := by
  cases h2 : Fi.lt b a with
  | true => rfl
  | false =>
    exfalso
    apply h
    unfold Fi.lt at h1 h2
    simp only [decide_eq_false_iff_not] at h1 h2
    have h3 := fi_cmp.anti a b
    have h4 : a.cmp b = 0 := by omega
    rw [Fi.cmp_eq] at h4
    split at h4
    · split at h4
      · exact txt_eq.1 h4
      · next h5 => exact absurd h4 h5
    · next h5 => exact absurd h4 h5
theorem mem_takeW {α : Type} {p : α → Bool} : ∀ {l : List α} {x : α}, x ∈ l.takeWhile p → p x = true
  | [], x, h => by cases h
  | y :: l, x, h => by
    rw [List.takeWhile_cons] at h
    split at h
    · next hy =>
      rcases List.mem_cons.1 h with rfl | h
      · exact hy
      · exact mem_takeW h
    · cases h
/-- a file of a name that is not there yet, put in its place: the sorted list with it -/
theorem putF_ss {l m : List Fi} {f : Fi} (h : SS Fi.lt l m) (hu : ∀ x ∈ m, ne2 x f) : SS Fi.lt (l ++ [f]) (putF m f) := by
  have hs := h.1
  obtain ⟨s1, hs1⟩ : ∃ s, m.takeWhile (fun x => lessF x f) = s := ⟨_, rfl⟩
  obtain ⟨s2, hs2⟩ : ∃ s, m.dropWhile (fun x => lessF x f) = s := ⟨_, rfl⟩
  have e : m = s1 ++ s2 := by rw [← hs1, ← hs2, List.takeWhile_append_dropWhile]
  have hp : putF m f = s1 ++ [f] ++ s2 := by unfold putF; rw [hs1, hs2, List.append_assoc]; rfl
  have h1 : ∀ y ∈ s1, Fi.lt y f = true := fun y hy => by
    rw [← hs1] at hy
    rw [← lessF_lt]
    exact mem_takeW (p := fun x => lessF x f) hy
  have h2 : ∀ y ∈ s2, Fi.lt f y = true := by
    rw [e] at hs
    have hsr := (srt_append.1 hs).2.1
    match s2, hs2, hsr, e with
    | [], _, _, _ => intro y hy; cases hy
    | z :: s2, hs2, hsr, e =>
      have hz : lessF z f = false := by
        have := List.head?_dropWhile_not (fun x => lessF x f) m
        rw [hs2] at this
        simpa using this
      have hzm : z ∈ m := by rw [e]; simp
      rw [lessF_lt] at hz
      have hz' := ne2_lt (hu z hzm) hz
      intro y hy
      rcases List.mem_cons.1 hy with rfl | hy
      · exact hz'
      · exact fi_weak.lt_le hz' ((List.pairwise_cons.1 hsr).1 y hy)
  subst e
  rw [hp]
  refine ⟨ins_done fi_weak hs h2 (fun y hy => ?_), fun c => ?_, ?_⟩
  · have := h1 y (List.mem_of_getLast? hy)
    cases hc : Fi.lt f y with
    | false => rfl
    | true =>
      have h3 := fi_weak.lt_trans this hc
      rw [fi_weak.irrefl] at h3
      cases h3
  · have hst := h.2.1 c
    rw [List.filter_append] at hst
    rw [List.filter_append, List.filter_append, List.filter_append, ← hst]
    cases hc : eqv Fi.lt c f with
    | false =>
      have : [f].filter (eqv Fi.lt c) = [] := by rw [List.filter_cons, hc]; rfl
      rw [this, List.append_nil, List.append_nil]
    | true =>
      have h3 : s2.filter (eqv Fi.lt c) = [] := List.filter_eq_nil_iff.2 fun y hy => by rw [fi_weak.eqv_lt hc (h2 y hy)]; exact Bool.false_ne_true
      rw [h3, List.append_nil, List.append_nil]
  · refine (h.2.2.append_right [f]).trans ?_
    rw [List.append_assoc, List.append_assoc]
    exact List.Perm.append_left s1 List.perm_append_comm
theorem putAll_ss : ∀ {fs l m : List Fi}, SS Fi.lt l m → (l ++ fs).Pairwise ne2 → SS Fi.lt (l ++ fs) (putAll m fs)
  | [], l, m, h, _ => by rw [List.append_nil]; exact h
  | f :: fs, l, m, h, hu => by
    have h1 : l ++ f :: fs = (l ++ [f]) ++ fs := by rw [List.append_assoc]; rfl
    rw [h1] at hu ⊢
    have h2 := (List.pairwise_append.1 (List.pairwise_append.1 hu).1).2.2
    exact putAll_ss (putF_ss h fun x hx => h2 x (h.2.2.mem_iff.2 hx) f (List.mem_singleton.2 rfl)) hu
theorem mem_putF {l : List Fi} {f x : Fi} : x ∈ putF l f ↔ x ∈ l ∨ x = f := by
  unfold putF
  rw [List.mem_append, List.mem_cons]
  have e : x ∈ l ↔ x ∈ l.takeWhile (fun x => lessF x f) ∨ x ∈ l.dropWhile (fun x => lessF x f) := by rw [← List.mem_append, List.takeWhile_append_dropWhile]
  rw [e]
  constructor
  · rintro (h | h | h)
    · exact .inl (.inl h)
    · exact .inr h
    · exact .inl (.inr h)
  · rintro ((h | h) | h)
    · exact .inl h
    · exact .inr (.inr h)
    · exact .inr (.inl h)
/-- adding goes through where all names are unlike, and only there -/
theorem addAll_some : ∀ {fs l m : List Fi}, addAll l fs = some m → m = putAll l fs ∧ (∀ x ∈ l, ∀ y ∈ fs, ne2 x y) ∧ fs.Pairwise ne2
  | [], l, m, h => by
    rw [addAll_nil] at h
    injection h with h
    exact ⟨h.symm, fun x _ y hy => (by cases hy), List.Pairwise.nil⟩
  | f :: fs, l, m, h => by
    cases hq : l.any (named f.name) with
    | true => rw [addAll_hit fs hq] at h; cases h
    | false =>
      rw [addAll_miss fs hq] at h
      obtain ⟨h1, h2, h3⟩ := addAll_some h
      refine ⟨h1, fun x hx y hy => ?_, List.pairwise_cons.2 ⟨fun y hy => h2 f (mem_putF.2 (.inr rfl)) y hy, h3⟩⟩
      rcases List.mem_cons.1 hy with rfl | hy
      · have := List.any_eq_false.1 hq x hx
        unfold named at this
        simp only [decide_eq_true_eq] at this
        exact this
      · exact h2 x (mem_putF.2 (.inl hx)) y hy
theorem addAll_none : ∀ {fs l : List Fi}, addAll l fs = none → ¬ ((∀ x ∈ l, ∀ y ∈ fs, ne2 x y) ∧ fs.Pairwise ne2)
  | [], l, h => by rw [addAll_nil] at h; cases h
  | f :: fs, l, h => by
    rintro ⟨h1, h2⟩
    cases hq : l.any (named f.name) with
    | true =>
      obtain ⟨x, hx, hn⟩ := List.any_eq_true.1 hq
      exact h1 x hx f List.mem_cons_self (of_decide_eq_true hn)
    | false =>
      rw [addAll_miss fs hq] at h
      refine addAll_none h ⟨fun x hx y hy => ?_, (List.pairwise_cons.1 h2).2⟩
      rcases mem_putF.1 hx with hx | rfl
      · exact h1 x hx y (List.mem_cons_of_mem _ hy)
      · exact (List.pairwise_cons.1 h2).1 y hy
theorem cnt_le_one {l : List Fi} (h : l.Pairwise ne2) (s : ByteArray) : cnt s (nms l) ≤ 1 := by
  induction l with
  | nil => exact Nat.zero_le _
  | cons x l ih =>
    obtain ⟨h1, h2⟩ := List.pairwise_cons.1 h
    rw [nms_cons, cnt_cons]
    by_cases e : x.name = s
    · rw [if_pos e]
      have h3 : cnt s (nms l) = 0 := by
        unfold cnt nms
        rw [List.length_eq_zero_iff, List.filter_eq_nil_iff]
        intro t ht
        obtain ⟨y, hy, rfl⟩ := List.mem_map.1 ht
        simp only [decide_eq_true_eq]
        intro h4
        exact h1 y hy (e.trans h4.symm)
      omega
    · rw [if_neg e]
      have := ih h2
      omega
theorem twice_of {L add : List Fi} (h : (L ++ add).Pairwise ne2) : twice add (L ++ add) = false := by
  unfold twice
  rw [List.any_eq_false]
  intro f _
  have := cnt_le_one h f.name
  rw [decide_eq_false (by omega)]
  exact Bool.false_ne_true
theorem of_twice {L add : List Fi} (hL : L.Pairwise ne2) (h2 : twice add (L ++ add) = false) : (L ++ add).Pairwise ne2 := by
  have hc : ∀ f ∈ add, cnt f.name (nms (L ++ add)) ≤ 1 := fun f hf => by
    have := List.any_eq_false.1 h2 f hf
    simp only [decide_eq_true_eq] at this
    omega
  refine List.pairwise_append.2 ⟨hL, uniq_of_cnt fun f hf => ?_, fun x hx y hy e => ?_⟩
  · have := hc f hf
    rw [nms_append, cnt_append] at this
    omega
  · have h4 := hc y hy
    rw [nms_append, cnt_append] at h4
    have h5 := cnt_pos hx e
    have h6 := cnt_pos hy rfl
    omega
theorem refM_eq {S add : List Fi} {del : List ByteArray} (hS : Good S) : refM S add del = applyM S add del := by
  have h0 : putAll [] S = srt S := by
    have := putAll_ss (fs := S) (SS.refl (lt := Fi.lt) List.Pairwise.nil) (by rw [List.nil_append]; exact hS.uniq)
    rw [List.nil_append] at this
    exact (srt_eq this).symm
  cases hd : delAll (srt S) del with
  | none => rw [applyM_none hd, refM_none (by rw [h0]; exact hd)]
  | some L =>
    have hd' : delAll (putAll [] S) del = some L := by rw [h0]; exact hd
    have hsub := delAll_sub hd
    have hLu : L.Pairwise ne2 := List.Pairwise.sublist hsub ((List.Perm.pairwise_iff ne2_symm (srt_ss S).2.2).1 hS.uniq)
    have hLs : SS Fi.lt L L := SS.refl (List.Pairwise.sublist hsub (srt_ss S).1)
    cases ha : addAll L add with
    | none =>
      rw [refM_twice hd' ha]
      cases ht : twice add (L ++ add) with
      | true => rw [applyM_twice hd ht]
      | false =>
        have h3 := List.pairwise_append.1 (of_twice hLu ht)
        exact absurd ⟨h3.2.2, h3.2.1⟩ (addAll_none ha)
    | some m =>
      obtain ⟨rfl, h1, h2⟩ := addAll_some ha
      have hu : (L ++ add).Pairwise ne2 := List.pairwise_append.2 ⟨hLu, h2, h1⟩
      have hm := srt_eq (putAll_ss hLs hu)
      cases hp : apart (putAll L add) with
      | false => rw [refM_order hd' ha hp, applyM_order hd (twice_of hu) (by rw [hm]; exact hp)]
      | true => rw [refM_ok hd' ha hp, applyM_ok hd (twice_of hu) (by rw [hm]; exact hp), hm]
theorem refF_eq {nx fl nx' fl' : Int} {S add : List Fi} {del : List ByteArray} (hS : Good S) : refF nx fl nx' fl' S add del = applyF nx fl nx' fl' S add del := by
  unfold refF applyF
  rw [refM_eq hS]
end Go.Proofs.Ytaeemeoffnhgfaa
