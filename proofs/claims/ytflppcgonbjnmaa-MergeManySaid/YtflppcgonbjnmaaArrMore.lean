/-
  Words for memory: a row of structs cut short, with what is behind it stored anew; clear. No conditions.
-/
import Derived.Test.YtflppcgonbjnmaaJB
import Derived.Lib.SliceRun
namespace Go.Proofs.Ytflppcgonbjnmaa
open Go.RowKit
section
variable {α : Type} {enc : α → List Value} {k : Nat} {w w' : World} {g : Nat} {e : TypeId} {S : Nat} {l : List α}
theorem Arr.take (h : Arr enc k w g e S l) (n : Nat) : Arr enc k w g e S (l.take n) :=
  ⟨h.cur, Nat.le_trans (Nat.mul_le_mul_right k (show (l.take n).length ≤ l.length by rw [List.length_take]; omega)) h.len, fun i hi => by
    rw [List.length_take] at hi
    rw [List.getElem_take]
    exact h.at_ i (by omega)⟩
theorem Arr.above (h : Arr enc k w g e S l) (hk : ∀ x, (enc x).length = k) {o : Nat} (ho : l.length * k ≤ o) (vs : List Value) : Arr enc k (w.setCells g o vs) g e S l ∧ w.grownBy (w.setCells g o vs) (some g) := by
  obtain ⟨cur, hc, hs⟩ := h.cur
  obtain ⟨⟨cur', h1, h2⟩, h3⟩ := setCells_block g e vs o w cur hc
  refine ⟨⟨⟨cur', h1, h2.trans hs⟩, h.len, fun j hj => ?_⟩, h3⟩
  refine World.rangeAt_setCells_apart (h.at_ j hj) g _ _ (.inr (.inl ?_))
  rw [hk]
  exact Nat.le_trans (mul_le_of hj) ho
end

theorem mem_zeroCells {z : Array Value} {n : Nat} (h1 : ∀ v ∈ z, v.oneCell' = true) : ∀ v ∈ (Builtin.zeroCells z n).toList, v.oneCell' = true := by
  intro v hv
  unfold Builtin.zeroCells at hv
  simp at hv
  obtain ⟨i, hi, rfl⟩ := hv
  have hz : 0 < z.size := by
    rcases Nat.eq_zero_or_pos z.size with h | h
    · rw [h] at hi; simp at hi
    · exact h
  rw [getElem!_pos z (i % z.size) (Nat.mod_lt _ hz)]
  exact h1 _ (Array.getElem_mem _)
/-- clear of some elements of a row -/
theorem run_clear_mid {P : Program} (w : World) (t e ty : TypeId) (z : Value) (ht : P.underlying t = some (.slice e)) (hv : ∀ w, (zeroValue e).run P w = .ok z w) (h1 : ∀ v ∈ z.cells, v.oneCell' = true) (b o n c : Nat) (hn : 0 < n)
    (hth : w.there b o (Builtin.zeroCells z.cells n).size) :
    (Builtin.clear_ #[t] ty #[.slice (some ⟨b, o, none⟩) n c]).run P w = .ok (.tuple #[]) (w.setCells b o (Builtin.zeroCells z.cells n).toList) := by
  have hst := run_storeCells_cells (P := P) b o (Builtin.zeroCells z.cells n).toList 0 w (fun j hj => by simpa using (hth j (by simpa using hj)).1) (fun j hj => by simpa using (hth j (by simpa using hj)).2) (mem_zeroCells h1)
  simp only [Nat.add_zero] at hst
  obtain ⟨m, rfl⟩ : ∃ m, n = m + 1 := ⟨n - 1, by omega⟩
  simp [Builtin.clear_, run_underlying ht, hv, hst]
end Go.Proofs.Ytflppcgonbjnmaa
