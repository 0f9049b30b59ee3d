/-
  manifest.Apply, both parts; what it answers for few files, plain.
-/
import Derived.Test.YtaeemeoffnhgfaaFind
namespace Go.Proofs.Ytaeemeoffnhgfaa
open Go.RowKit

/-- manifest.Apply, plain -/
noncomputable def applyF (nx fl nx' fl' : Int) (ls add : List Fi) (del : List ByteArray) : Int × List Fi :=
  if (add.any fun x => !may x) = true ∨ nx' < nx ∨ fl' < fl then (1, []) else applyM ls add del
theorem apply_any (A1 A2 A3 : Option Addr) (c1 c2 c3 n1 n2 n3 : Nat) (ls add : List Fi) (del : List ByteArray) (nx fl nx' fl' : Int) (w : World) (h1 : Rd w w.heap.size A1 (fis ls)) (h2 : Rd w w.heap.size A2 (fis add)) (h3 : Rd w w.heap.size A3 (del.map Value.string))
    (e1 : ls.length = n1) (e2 : add.length = n2) (e3 : del.length = n3) (l1 : n1 ≤ 100000) (l2 : n2 ≤ 100000) (l3 : n3 ≤ 100000) (hnm : ∀ x ∈ ls, x.name.size ≤ maxLen) :
    Calls Try.prog 12 #[stV A1 n1 c1 nx fl, edV A2 n2 c2 A3 n3 c3 nx' fl'] w (AppOut w nx' fl' (applyF nx fl nx' fl' ls add del)) := by
  subst e1 e2 e3
  unfold applyF
  by_cases h : (add.any fun x => !may x) = true ∨ nx' < nx ∨ fl' < fl
  · rw [if_pos h]
    refine (apply_bad A1 A2 A3 c1 c2 c3 _ _ add nx fl nx' fl' w h2 (by omega) h).mono ?_
    rintro e w' ⟨rfl, hb⟩
    exact AppOut.bad rfl (by decide) rfl hb
  · rw [if_neg h]
    have hq : (add.any fun x => !may x) = false := by
      cases hq : (add.any fun x => !may x) with
      | false => rfl
      | true => exact absurd (Or.inl hq) h
    exact apply_ok A1 A2 A3 c1 c2 c3 ls add del nx fl nx' fl' w h1 h2 h3 l1 l2 l3 hnm hq (by omega) (by omega)
theorem applyF_ok {nx fl nx' fl' : Int} {ls add : List Fi} {del : List ByteArray} (h : ∀ x ∈ add, may x = true) (h1 : nx ≤ nx') (h2 : fl ≤ fl') : applyF nx fl nx' fl' ls add del = applyM ls add del := by
  unfold applyF
  rw [if_neg]
  rintro (h3 | h3 | h3)
  · obtain ⟨x, hx, hm⟩ := List.any_eq_true.1 h3
    rw [h x hx] at hm
    cases hm
  · omega
  · omega
theorem applyF_bad {nx fl nx' fl' : Int} {ls add : List Fi} {del : List ByteArray} (h : (∃ x ∈ add, may x = false) ∨ nx' < nx ∨ fl' < fl) : applyF nx fl nx' fl' ls add del = (1, []) := by
  unfold applyF
  rw [if_pos]
  rcases h with ⟨x, hx, hm⟩ | h | h
  · exact .inl (List.any_eq_true.2 ⟨x, hx, by rw [hm]; rfl⟩)
  · exact .inr (.inl h)
  · exact .inr (.inr h)
theorem srt_nil : srt [] = [] := srt_eq (SS.refl List.Pairwise.nil)
theorem srt_one (f : Fi) : srt [f] = [f] := srt_eq (SS.refl (List.pairwise_singleton _ f))
theorem srt_two (f g : Fi) : srt [f, g] = [f, g] ∨ srt [f, g] = [g, f] := by
  cases h : Fi.lt g f with
  | false => exact .inl (srt_eq (SS.refl (List.pairwise_pair.2 h)))
  | true =>
    refine .inr (srt_eq ⟨List.pairwise_pair.2 (lt_asymm' h), fun c => ?_, List.Perm.swap g f []⟩)
    have := Stb.swap (lt := Fi.lt) fi_weak (x := [f]) (y := [g]) (fun a ha b hb => by rw [List.mem_singleton.1 ha, List.mem_singleton.1 hb]; exact h)
    exact this c
where lt_asymm' {f g : Fi} (h : Fi.lt g f = true) : Fi.lt f g = false := by
        cases k : Fi.lt f g with
        | false => rfl
        | true => have := fi_weak.lt_trans h k; rw [fi_weak.irrefl] at this; cases this
theorem apart_one (f : Fi) : apart [f] = true := decide_eq_true fun i hi j hj => by
  simp at hi
  omega
theorem clash_symm (f g : Fi) : clash f g = clash g f := by
  unfold clash meets
  by_cases h : f.level = g.level
  · rw [h, Bool.and_comm (!lt g.high f.low)]
  · rw [decide_eq_false h, decide_eq_false (Ne.symm h)]
    simp
theorem apart_two (f g : Fi) : apart [f, g] = !clash f g := by
  cases h : clash f g with
  | true =>
    exact (clash.out (l := [f, g]) (i := 1) (k := 0) (by simp) (by omega) (by show clash g f = true; rw [clash_symm]; exact h)).symm
  | false =>
    refine decide_eq_true fun i hi j hj => ?_
    have h1 : i = 1 := by simp at hi; omega
    have h2 : j = 0 := by omega
    subst h1 h2
    show clash g f = false
    rw [clash_symm]
    exact h
theorem apart_srt (f g : Fi) : apart (srt [f, g]) = !clash f g := by
  rcases srt_two f g with h | h
  · rw [h, apart_two]
  · rw [h, apart_two, clash_symm]
theorem cnt_cons (s t : ByteArray) (l : List ByteArray) : cnt s (t :: l) = (if t = s then 1 else 0) + cnt s l := by
  unfold cnt
  rw [List.filter_cons]
  by_cases h : t = s
  · rw [decide_eq_true h, if_pos rfl, if_pos h, List.length_cons]; omega
  · rw [decide_eq_false h, if_neg Bool.false_ne_true, if_neg h]; omega
theorem cnt_nil (s : ByteArray) : cnt s [] = 0 := rfl
theorem delAll_nil (l : List Fi) : delAll l [] = some l := rfl
theorem delAll_one (f : Fi) (d : ByteArray) : delAll [f] [d] = if f.name = d then some [] else none := by
  by_cases h : f.name = d
  · rw [if_pos h, delAll_hit (i := 0) _ (by simp [List.findIdx?_cons, named, h])]
    rfl
  · rw [if_neg h, delAll_miss _ (by simp [List.findIdx?_cons, named, h])]
theorem twice_self (f : Fi) : twice [f] [f] = false := by
  simp [twice, nms, cnt_cons, cnt_nil]
theorem twice_two (f g : Fi) : twice [g] [f, g] = decide (f.name = g.name) := by
  by_cases h : f.name = g.name
  · simp [twice, nms, cnt_cons, cnt_nil, h]
  · simp [twice, nms, cnt_cons, cnt_nil, h]
/-- a first file -/
theorem applyM_first (f : Fi) : applyM [] [f] [] = (0, [f]) := by
  have h := applyM_ok (ls := []) (add := [f]) (del := []) (l := []) (by rw [srt_nil]; rfl) (twice_self f) (by rw [List.nil_append, srt_one, apart_one])
  rw [h, List.nil_append, srt_one]
theorem applyM_swap (f g : Fi) (d : ByteArray) (h : f.name = d) : applyM [f] [g] [d] = (0, [g]) := by
  have h := applyM_ok (ls := [f]) (add := [g]) (del := [d]) (l := []) (by rw [srt_one, delAll_one, if_pos h]) (twice_self g) (by rw [List.nil_append, srt_one, apart_one])
  rw [h, List.nil_append, srt_one]
theorem applyM_gone (f g : Fi) (d : ByteArray) (h : f.name ≠ d) : applyM [f] [g] [d] = (3, []) := applyM_none (by rw [srt_one, delAll_one, if_neg h])
theorem applyM_same (f g : Fi) (h : f.name = g.name) : applyM [f] [g] [] = (4, []) := applyM_twice (l := [f]) (by rw [srt_one]; rfl) (by show twice [g] [f, g] = true; rw [twice_two, decide_eq_true h])
theorem applyM_meet (f g : Fi) (h : f.name ≠ g.name) (hc : clash f g = true) : applyM [f] [g] [] = (40, []) := applyM_order (l := [f]) (by rw [srt_one]; rfl) (by show twice [g] [f, g] = false; rw [twice_two, decide_eq_false h]) (by show apart (srt [f, g]) = false; rw [apart_srt, hc]; rfl)
theorem applyM_both (f g : Fi) (h : f.name ≠ g.name) (hc : clash f g = false) : applyM [f] [g] [] = (0, srt [f, g]) := applyM_ok (l := [f]) (by rw [srt_one]; rfl) (by show twice [g] [f, g] = false; rw [twice_two, decide_eq_false h]) (by show apart (srt [f, g]) = true; rw [apart_srt, hc]; rfl)
end Go.Proofs.Ytaeemeoffnhgfaa
