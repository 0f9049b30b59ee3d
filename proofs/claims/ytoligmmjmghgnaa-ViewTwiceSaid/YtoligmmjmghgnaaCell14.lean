/-
  Cells as what is sorted. No conditions.
-/
import Derived.Test.YtoligmmjmghgnaaCmpOrd
import Derived.Test.YtoligmmjmghgnaaSortPlain
import Derived.Test.YtoligmmjmghgnaaAppG
import Derived.Test.YtoligmmjmghgnaaRegion
import Derived.Test.YtoligmmjmghgnaaArr
import Derived.RegionTactic
import Derived.ChangeAlike
import Derived.SliceStrings
namespace Go.Proofs.Ytoligmmjmghgnaa
open Go.RowKit

theorem Cl.vals_len (x : Cl) : x.vals.length = 6 := rfl
theorem Cl.one (x : Cl) : ∀ v ∈ x.vals, v.oneCell' = true := by
  intro v hv
  simp only [Cl.vals, List.mem_cons, List.not_mem_nil, or_false] at hv
  rcases hv with rfl | rfl | rfl | rfl | rfl | rfl <;> rfl
theorem IsCmp.weak {α : Type} {c : α → α → Int} (h : IsCmp c) : Weak fun a b => decide (c a b < 0) := by
  refine ⟨fun a b k => ?_, fun a b d k l => ?_⟩
  · have k := of_decide_eq_true k
    have := h.anti a b
    exact decide_eq_false (by omega)
  · have k := of_decide_eq_false k
    have l := of_decide_eq_false l
    have h1 := h.anti a b
    have h2 := h.anti b d
    have h3 := h.anti a d
    have := h.trans a b d (by omega) (by omega)
    exact decide_eq_false (by omega)
theorem rangeAt_below {w w' : World} {B b o : Nat} {cs : List Value} (h : w.rangeAt b o cs) (hb : Below B w w') (hB : b < B) : w'.rangeAt b o cs := fun j v hv => (hb.cell (p := ⟨b, o + j, none⟩) hB).trans (h j v hv)
theorem rangeAt_list {w : World} {b o : Nat} {cs : List Value} (h : ∀ j (hj : j < cs.length), w.cell? ⟨b, o + j, none⟩ = some cs[j]) : w.rangeAt b o cs := fun j v hv => by
  obtain ⟨hj, rfl⟩ := List.getElem?_eq_some_iff.1 hv
  exact h j hj
/-- the zero of a cell -/
def zeroCell : Value := .agg #[.string ⟨#[]⟩, .string ⟨#[]⟩, .int .u64 0, .int .u64 0, .bool false, .string ⟨#[]⟩]
theorem cellInfo : (Try.prog.info? 29).map (fun i => (i.zero, i.size, i.bytes)) = some (some zeroCell, 6, 72) := by kernel_rfl
theorem cellsInfo : (Try.prog.info? 26).map (fun i => (i.zero, i.size, i.bytes)) = some (some (.slice none 0 0), 1, 24) := by kernel_rfl
end Go.Proofs.Ytoligmmjmghgnaa
