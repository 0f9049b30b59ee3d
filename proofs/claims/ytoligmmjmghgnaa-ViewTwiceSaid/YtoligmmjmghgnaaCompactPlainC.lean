/-
  What compacting a list leaves: each that is not alike the one ahead of it. And: a row of structs cut short, with what is behind it stored anew. Plain and of memory, no walk.
-/
import Derived.Test.YtoligmmjmghgnaaSwapCell
import Derived.Lib.SliceRun
namespace Go.Proofs.Ytoligmmjmghgnaa
open Go.RowKit

section
variable {α : Type} (eq : α → α → Bool)
def compactGo : α → List α → List α
  | _, [] => []
  | p, y :: r => if eq y p then compactGo y r else y :: compactGo y r
def compactF : List α → List α
  | [] => []
  | x :: l => x :: compactGo eq x l
theorem compactGo_snoc : ∀ (r : List α) (p y z : α), (p :: r).getLast? = some z → compactGo eq p (r ++ [y]) = compactGo eq p r ++ (if eq y z then [] else [y])
  | [], p, y, z, h => by
    simp at h
    subst h
    simp [compactGo]
  | x :: r, p, y, z, h => by
    have ih := compactGo_snoc r x y z (by rw [← h]; simp [List.getLast?_cons_cons])
    simp only [List.cons_append, compactGo, ih]
    split <;> simp
theorem compactF_snoc (l : List α) (y z : α) (h : l.getLast? = some z) : compactF eq (l ++ [y]) = compactF eq l ++ (if eq y z then [] else [y]) := by
  cases l with
  | nil => simp at h
  | cons x l => simp only [List.cons_append, compactF, compactGo_snoc eq l x y z h]
theorem take_last {l : List α} {k : Nat} (h0 : 0 < k) (hk : k ≤ l.length) : (l.take k).getLast? = l[k - 1]? := by
  rw [List.getLast?_eq_getElem?, List.length_take, Nat.min_eq_left hk, List.getElem?_take_of_lt (by omega)]
theorem compactF_take {l : List α} {k : Nat} {y z : α} (h0 : 0 < k) (hy : l[k]? = some y) (hz : l[k - 1]? = some z) : compactF eq (l.take (k + 1)) = compactF eq (l.take k) ++ (if eq y z then [] else [y]) := by
  obtain ⟨hk, rfl⟩ := List.getElem?_eq_some_iff.1 hy
  rw [List.take_succ_eq_append_getElem hk]
  exact compactF_snoc eq _ _ z (by rw [take_last h0 (by omega)]; exact hz)
theorem compactF_length : ∀ l : List α, (compactF eq l).length ≤ l.length
  | [] => Nat.le_refl _
  | x :: l => by
    have key : ∀ (l : List α) (p : α), (compactGo eq p l).length ≤ l.length := by
      intro l
      induction l with
      | nil => intro p; exact Nat.le_refl _
      | cons y r ih =>
        intro p
        have := ih y
        unfold compactGo
        split <;> simp <;> omega
    have := key l x
    simp [compactF]; omega
theorem compactF_one (x : α) : compactF eq [x] = [x] := rfl
theorem compactF_short {l : List α} (h : l.length < 2) : compactF eq l = l := by
  match l, h with
  | [], _ => rfl
  | [x], _ => rfl
end

section
variable {α : Type} {enc : α → List Value} {k : Nat} {w w' : World} {g : Nat} {e : TypeId} {S : Nat} {l : List α}
theorem Arr.take (h : Arr enc k w g e S l) (n : Nat) : Arr enc k w g e S (l.take n) :=
  ⟨h.cur, Nat.le_trans (Nat.mul_le_mul_right k (show (l.take n).length ≤ l.length by rw [List.length_take]; omega)) h.len, fun i hi => by
    rw [List.length_take] at hi
    rw [List.getElem_take]
    exact h.at_ i (by omega)⟩
theorem Arr.above (h : Arr enc k w g e S l) (hk : ∀ x, (enc x).length = k) {o : Nat} (ho : l.length * k ≤ o) (vs : List Value) : Arr enc k (w.setCells g o vs) g e S l ∧ w.grownBy (w.setCells g o vs) (some g) := by
  obtain ⟨cur, hc, hs⟩ := h.cur
  obtain ⟨⟨cur', h1, h2⟩, h3⟩ := setCells_block g e vs o w cur hc
  refine ⟨⟨⟨cur', h1, h2.trans hs⟩, h.len, fun j hj => ?_⟩, h3⟩
  refine World.rangeAt_setCells_apart (h.at_ j hj) g _ _ (.inr (.inl ?_))
  rw [hk]
  exact Nat.le_trans (mul_le_of hj) ho
end

theorem mem_zeroCells {z : Array Value} {n : Nat} (h1 : ∀ v ∈ z, v.oneCell' = true) : ∀ v ∈ (Builtin.zeroCells z n).toList, v.oneCell' = true := by
  intro v hv
  unfold Builtin.zeroCells at hv
  simp at hv
  obtain ⟨i, hi, rfl⟩ := hv
  have hz : 0 < z.size := by
    rcases Nat.eq_zero_or_pos z.size with h | h
    · rw [h] at hi; simp at hi
    · exact h
  rw [getElem!_pos z (i % z.size) (Nat.mod_lt _ hz)]
  exact h1 _ (Array.getElem_mem _)
/-- clear of some elements of a row -/
theorem run_clear_mid {P : Program} (w : World) (t e ty : TypeId) (z : Value) (ht : P.underlying t = some (.slice e)) (hv : ∀ w, (zeroValue e).run P w = .ok z w) (h1 : ∀ v ∈ z.cells, v.oneCell' = true) (b o n c : Nat) (hn : 0 < n)
    (hth : w.there b o (Builtin.zeroCells z.cells n).size) :
    (Builtin.clear_ #[t] ty #[.slice (some ⟨b, o, none⟩) n c]).run P w = .ok (.tuple #[]) (w.setCells b o (Builtin.zeroCells z.cells n).toList) := by
  have hst := run_storeCells_cells (P := P) b o (Builtin.zeroCells z.cells n).toList 0 w (fun j hj => by simpa using (hth j (by simpa using hj)).1) (fun j hj => by simpa using (hth j (by simpa using hj)).2) (mem_zeroCells h1)
  simp only [Nat.add_zero] at hst
  obtain ⟨m, rfl⟩ : ∃ m, n = m + 1 := ⟨n - 1, by omega⟩
  simp [Builtin.clear_, run_underlying ht, hv, hst]
end Go.Proofs.Ytoligmmjmghgnaa

