/-
  Of each coordinate the last one of an input is what it is resolved to: counted. Plain; no conditions.
-/
import Derived.Test.YtflppcgonbjnmaaJK
namespace Go.Proofs.Ytflppcgonbjnmaa

theorem itemsFrom_mem : ∀ (l : List Cl) (k : Nat) (x : It), x ∈ itemsFrom k l ↔ ∃ (i : Nat) (h : i < l.length), x = ⟨l[i], ((k + i : Nat) : Int)⟩
  | [], k, x => by simp [itemsFrom]
  | c :: l, k, x => by
    rw [itemsFrom, List.mem_cons, itemsFrom_mem l (k + 1) x]
    constructor
    · rintro (rfl | ⟨i, h, rfl⟩)
      · exact ⟨0, by simp, rfl⟩
      · exact ⟨i + 1, by simpa using h, by rw [List.getElem_cons_succ, show k + 1 + i = k + (i + 1) by omega]⟩
    · rintro ⟨i, h, rfl⟩
      cases i with
      | zero => exact .inl rfl
      | succ i => exact .inr ⟨i, by simpa using h, by rw [List.getElem_cons_succ, show k + 1 + i = k + (i + 1) by omega]⟩
theorem items_mem (l : List Cl) (x : It) : x ∈ items l ↔ ∃ (i : Nat) (h : i < l.length), x = ⟨l[i], (i : Int)⟩ := by
  unfold items
  rw [itemsFrom_mem]
  simp only [Nat.zero_add]
/-- what there is behind i, of its coordinate -/
def laterTo (l : List Cl) (x : Cl) (i k : Nat) : Bool := ((l.take k).drop (i + 1)).any fun y => x.same y
theorem laterTo_start (l : List Cl) (x : Cl) (i : Nat) : laterTo l x i (i + 1) = false := by
  unfold laterTo
  rw [List.drop_of_length_le (by rw [List.length_take]; omega)]
  rfl
theorem laterTo_succ {l : List Cl} {x : Cl} {i k : Nat} (hik : i + 1 ≤ k) (hk : k < l.length) : laterTo l x i (k + 1) = (laterTo l x i k || x.same l[k]) := by
  unfold laterTo
  rw [List.take_succ_eq_append_getElem hk, List.drop_append_of_le_length (by rw [List.length_take]; omega), List.any_append]
  simp
/-- is there one behind it, of its coordinate? -/
def lateB (l : List Cl) (i : Nat) : Bool := if h : i < l.length then laterTo l l[i] i l.length else false
theorem lateB_at {l : List Cl} {i : Nat} (h : i < l.length) : lateB l i = laterTo l l[i] i l.length := by unfold lateB; rw [dif_pos h]
theorem laterTo_iff {l : List Cl} {x : Cl} {i : Nat} : laterTo l x i l.length = true ↔ ∃ (j : Nat) (h : j < l.length), i < j ∧ x.same l[j] = true := by
  unfold laterTo
  rw [List.take_length, List.any_eq_true]
  constructor
  · rintro ⟨y, hy, hs⟩
    obtain ⟨j, hj, rfl⟩ := List.getElem_of_mem hy
    rw [List.length_drop] at hj
    rw [List.getElem_drop] at hs
    exact ⟨i + 1 + j, by omega, by omega, hs⟩
  · rintro ⟨j, hj, hij, hs⟩
    refine ⟨l[j], ?_, hs⟩
    rw [List.mem_iff_getElem]
    exact ⟨j - (i + 1), by rw [List.length_drop]; omega, by rw [List.getElem_drop]; congr 1; omega⟩
theorem same_cc (x y : Cl) (p q : Int) : x.same y = decide (cc ⟨x, p⟩ ⟨y, q⟩ = 0) := cc_same ⟨x, p⟩ ⟨y, q⟩
section
variable {l : List Cl} {R : List It}
theorem Good.at_ (h : Good (items l) R) {x : It} (hx : x ∈ R) : ∃ (p : Nat) (hp : p < l.length), x = ⟨l[p], (p : Int)⟩ := (items_mem l x).1 (h.best x hx).mem
/-- one that is there, and has a coordinate of the input: it is not ahead of it -/
theorem Good.behind (h : Good (items l) R) {i p : Nat} (hi : i < l.length) (hp : p < l.length) (hx : (⟨l[p], (p : Int)⟩ : It) ∈ R) (hs : l[i].same l[p] = true) : i ≤ p := by
  have h1 := (h.best _ hx).1 ⟨l[i], (i : Int)⟩ ((items_mem l _).2 ⟨i, hi, rfl⟩)
  rw [same_cc l[i] l[p] i p] at hs
  have := h1 (of_decide_eq_true hs)
  simp only at this
  omega
theorem Good.hit (h : Good (items l) R) {i : Nat} (hi : i < l.length) : ∃ (p : Nat) (hp : p < l.length), (⟨l[p], (p : Int)⟩ : It) ∈ R ∧ l[i].same l[p] = true := by
  obtain ⟨x, hx, hc⟩ := h.all ⟨l[i], (i : Int)⟩ ((items_mem l _).2 ⟨i, hi, rfl⟩)
  obtain ⟨p, hp, rfl⟩ := h.at_ hx
  exact ⟨p, hp, hx, by rw [same_cc l[i] l[p] i p]; exact decide_eq_true (cc_sym.1 hc)⟩
theorem Good.last_eq (h : Good (items l) R) {i p : Nat} (hi : i < l.length) (hp : p < l.length) (hx : (⟨l[p], (p : Int)⟩ : It) ∈ R) (hs : l[i].same l[p] = true) (hl : lateB l i = false) : p = i := by
  have h1 := h.behind hi hp hx hs
  by_cases e : p = i
  · exact e
  · exfalso
    rw [lateB_at hi] at hl
    have := (laterTo_iff (i := i)).2 ⟨p, hp, by omega, hs⟩
    rw [hl] at this
    cases this
theorem Good.mem_last (h : Good (items l) R) {i : Nat} (hi : i < l.length) : (⟨l[i], (i : Int)⟩ : It) ∈ R ↔ lateB l i = false := by
  constructor
  · intro hx
    rw [lateB_at hi, ← Bool.not_eq_true, laterTo_iff]
    rintro ⟨j, hj, hij, hs⟩
    have := (h.best _ hx).1 ⟨l[j], (j : Int)⟩ ((items_mem l _).2 ⟨j, hj, rfl⟩)
    rw [same_cc l[i] l[j] i j] at hs
    have := this (cc_sym.1 (of_decide_eq_true hs))
    simp only at this
    omega
  · intro hl
    obtain ⟨p, hp, hx, hs⟩ := h.hit hi
    have := h.last_eq hi hp hx hs hl
    subst this
    exact hx
/-- its last one is itself -/
theorem Good.is_last (h : Good (items l) R) {i k : Nat} (hi : i < l.length) (hk : k < R.length) (hs : l[i].same R[k].c = true) (hl : lateB l i = false) : R[k].c = l[i] := by
  obtain ⟨p, hp, e⟩ := h.at_ (List.getElem_mem hk)
  rw [e] at hs
  have hx : (⟨l[p], (p : Int)⟩ : It) ∈ R := by rw [← e]; exact List.getElem_mem hk
  have := h.last_eq hi hp hx hs hl
  subst this
  rw [e]
theorem strict_one : ∀ {R : List It} (_ : Strict R) {x w : It} (_ : x ∈ R) (_ : cc x w = 0), (R.filter fun y => decide (cc w y = 0)) = [x]
  | [], _, _, _, hx, _ => by cases hx
  | y :: R, h, x, w, hx, hc => by
    unfold Strict at h
    rw [List.pairwise_cons] at h
    rcases List.mem_cons.1 hx with rfl | hx
    · rw [List.filter_cons_of_pos (p := fun y => decide (cc w y = 0)) (decide_eq_true (cc_sym.1 hc))]
      congr 1
      rw [List.filter_eq_nil_iff]
      intro z hz e
      have h1 := h.1 z hz
      have h2 := cc_cmp.eq_eq hc (of_decide_eq_true e)
      omega
    · have h1 := h.1 x hx
      rw [List.filter_cons_of_neg, strict_one h.2 hx hc]
      intro e
      have h2 := cc_cmp.eq_eq hc (of_decide_eq_true e)
      have := cc_sym.1 h2
      omega
/-- how many there are of its coordinate, of the first k -/
def ofC (X : List Cl) (x : Cl) (k : Nat) : Nat := ((X.take k).filter fun y => x.same y).length
theorem ofC_zero (X : List Cl) (x : Cl) : ofC X x 0 = 0 := by simp [ofC]
theorem ofC_succ {X : List Cl} {x : Cl} {k : Nat} (hk : k < X.length) : ofC X x (k + 1) = ofC X x k + if x.same X[k] then 1 else 0 := by
  unfold ofC
  rw [List.take_succ_eq_append_getElem hk, List.filter_append, List.length_append]
  congr 1
  by_cases h : x.same X[k] = true
  · rw [List.filter_cons_of_pos h, h]; rfl
  · rw [List.filter_cons_of_neg h, if_neg h]; rfl
theorem ofC_le (X : List Cl) (x : Cl) (k : Nat) : ofC X x k ≤ k := by
  unfold ofC
  refine Nat.le_trans (List.length_filter_le _ _) ?_
  rw [List.length_take]
  omega
theorem Good.one (h : Good (items l) R) {i : Nat} (hi : i < l.length) : ofC (R.map (·.c)) l[i] (R.map (·.c)).length = 1 := by
  obtain ⟨p, hp, hx, hs⟩ := h.hit hi
  unfold ofC
  rw [List.take_length, List.filter_map, List.length_map]
  have e : ((fun y => l[i].same y) ∘ fun x : It => x.c) = fun y : It => decide (cc ⟨l[i], (i : Int)⟩ y = 0) := by
    funext y
    exact cc_same ⟨l[i], (i : Int)⟩ y
  rw [same_cc l[i] l[p] i p] at hs
  rw [e, strict_one h.strict hx (cc_sym.1 (of_decide_eq_true hs))]
  rfl
/-- how many of the first i are the last of their coordinates -/
def lastN (l : List Cl) (i : Nat) : Nat := ((List.range i).filter fun j => !lateB l j).length
theorem lastN_zero (l : List Cl) : lastN l 0 = 0 := rfl
theorem lastN_succ (l : List Cl) (i : Nat) : lastN l (i + 1) = lastN l i + if lateB l i then 0 else 1 := by
  unfold lastN
  rw [List.range_succ, List.filter_append, List.length_append]
  congr 1
  cases h : lateB l i <;> simp [h]
theorem lastN_le (l : List Cl) (i : Nat) : lastN l i ≤ i := by
  unfold lastN
  refine Nat.le_trans (List.length_filter_le _ _) ?_
  rw [List.length_range]
  exact Nat.le_refl _
theorem nodup_len : ∀ {a b : List Int}, a.Nodup → (∀ x ∈ a, x ∈ b) → a.length ≤ b.length
  | [], b, _, _ => Nat.zero_le _
  | x :: a, b, hn, h => by
    rw [List.nodup_cons] at hn
    have hx := h x (by simp)
    have ih := nodup_len (a := a) (b := b.erase x) hn.2 fun y hy => by
      rw [List.mem_erase_of_ne (fun e => hn.1 (by rw [← e]; exact hy))]
      exact h y (by simp [hy])
    rw [List.length_erase_of_mem hx] at ih
    have := List.length_pos_of_mem hx
    rw [List.length_cons]
    omega
theorem Good.pos_nodup (h : Good (items l) R) : (R.map (·.pos)).Nodup := by
  unfold List.Nodup
  rw [List.pairwise_map]
  have hs := h.strict
  unfold Strict at hs
  refine List.Pairwise.imp_of_mem (fun {a b} ha hb hab e => ?_) hs
  obtain ⟨p, hp, rfl⟩ := h.at_ ha
  obtain ⟨q, hq, rfl⟩ := h.at_ hb
  simp only at e
  have : p = q := by omega
  subst this
  rw [cc_cmp.self] at hab
  omega
theorem Good.count (h : Good (items l) R) : lastN l l.length = R.length := by
  have e : lastN l l.length = (((List.range l.length).filter fun j => !lateB l j).map fun (j : Nat) => (j : Int)).length := by rw [List.length_map]; rfl
  have hm : ∀ x : Int, x ∈ R.map (·.pos) ↔ x ∈ ((List.range l.length).filter fun j => !lateB l j).map fun (j : Nat) => (j : Int) := fun x => by
    rw [List.mem_map, List.mem_map]
    constructor
    · rintro ⟨y, hy, rfl⟩
      obtain ⟨p, hp, rfl⟩ := h.at_ hy
      refine ⟨p, ?_, rfl⟩
      rw [List.mem_filter, List.mem_range, (h.mem_last hp).1 hy]
      exact ⟨hp, rfl⟩
    · rintro ⟨p, hp, rfl⟩
      rw [List.mem_filter, List.mem_range, Bool.not_eq_true'] at hp
      exact ⟨_, (h.mem_last hp.1).2 hp.2, rfl⟩
  have hn : (((List.range l.length).filter fun j => !lateB l j).map fun (j : Nat) => (j : Int)).Nodup := by
    unfold List.Nodup
    rw [List.pairwise_map]
    have h0 : List.Pairwise (fun a b : Nat => a ≠ b) ((List.range l.length).filter fun j => !lateB l j) := (List.nodup_range (n := l.length)).filter _
    exact List.Pairwise.imp (S := fun a b : Nat => (a : Int) ≠ (b : Int)) (fun {a b} (hab : a ≠ b) => by omega) h0
  rw [e]
  have h1 := nodup_len hn fun x hx => (hm x).2 hx
  have h2 := nodup_len h.pos_nodup fun x hx => (hm x).1 hx
  simp only [List.length_map] at h1 h2 ⊢
  omega
/-- two that stand beside one another -/
theorem Good.beside (h : Good (items l) R) {i j : Nat} (hij : i < j) (hj : j < R.length) : (R[i]'(by omega)).c.same R[j].c = false ∧ (⟨(R[i]'(by omega)).c, 0⟩ : It).cmp ⟨R[j].c, 0⟩ < 0 := by
  have h1 := List.pairwise_iff_getElem.1 h.strict i j (by omega) hj hij
  have h2 : cc ⟨(R[i]'(by omega)).c, 0⟩ ⟨R[j].c, 0⟩ = cc (R[i]'(by omega)) R[j] := rfl
  refine ⟨?_, ?_⟩
  · rw [cc_same]
    exact decide_eq_false (by omega)
  · rw [it_cmp_eq, h2, if_neg (by omega)]
    exact h1
end
end Go.Proofs.Ytflppcgonbjnmaa
