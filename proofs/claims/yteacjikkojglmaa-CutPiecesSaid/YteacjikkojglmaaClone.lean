/-
  The walk of slices.Clone at cells.
-/
import Derived.Test.YteacjikkojglmaaPlace
import Derived.Test.YteacjikkojglmaaOwn
namespace Go.Proofs.Yteacjikkojglmaa
open Go.RowKit
attribute [local go_sem ↓] Go.wp_at_zero Go.wp_at_succ

/-- the zero of a cell -/
def zeroCell : Value := .agg #[.string ⟨#[]⟩, .string ⟨#[]⟩, .int .u64 0, .int .u64 0, .bool false, .string ⟨#[]⟩]
theorem cellInfo : (Try.prog.info? 50).map (fun i => (i.zero, i.size, i.bytes)) = some (some zeroCell, 6, 72) := by kernel_rfl
theorem sliceInfo : (Try.prog.info? 22).map (fun i => (i.zero, i.size, i.bytes)) = some (some (.slice none 0 0), 1, 24) := by kernel_rfl

/-- the slice owns a row with these cells -/
def OwnC (w : World) (base : Nat) (A : Option Addr) (c : Nat) (l : List Cl) : Prop := Own w base 50 6 A l.length c (vals l)

set_option maxHeartbeats 1000000 in
theorem clone_any (A : Option Addr) (c : Nat) (l : List Cl) (w : World) (hl : Rd w w.heap.size A (vals l)) (hlen : l.length ≤ 1000) :
    Calls Try.prog 27 #[.slice A l.length c] w fun e w' => ∃ (A' : Option Addr) (c' : Nat), e = .returned (.slice A' l.length c') ∧ OwnC w' w.heap.size A' c' l ∧ Below w.heap.size w w' := by
  obtain ⟨i0, hi0, hz0, hz1, hz2⟩ := info_parts cellInfo
  have hq := fun (W : World) (a : Option Addr) (n c n' c' : Nat) => Lib.run_eql_slice_nil W 22 50 a n c n' c' Try.underlying22
  by_cases hA : A = none
  · subst hA
    have h0 : l = [] := by
      cases l with
      | nil => rfl
      | cons x l => obtain ⟨b, o, h, _⟩ := hl.at_ (by simp [vals, Cl.vals]); cases h
    subst h0
    go_enter Try.func27, Try.ntmps27
    go_wp2
    go_ret
    exact ⟨none, 0, rfl, Own.nil, Below.refl _ _⟩
  · obtain ⟨a, rfl⟩ : ∃ a, A = some a := by cases A with
      | none => exact absurd rfl hA
      | some a => exact ⟨a, rfl⟩
    clear hA
    have c1 : Own (w.alloc (.cells #[] 50)) w.heap.size 50 6 (some ⟨w.heap.size, 0, none⟩) 0 0 [] := World.ownsRow_lit w #[] 0 (Nat.le_refl _) (by simp [maxLen]) rfl
    have c2 := hl.alloc (Nat.le_refl _) (.cells #[] 50)
    have c3 : Hid ((vals l).length = l.length * 6) := Lib.hid (by rw [length_vals]; omega)
    have c4 : 0 + l.length ≤ maxLen := by unfold maxLen; omega
    go_enter Try.func27, Try.ntmps27
    go_wp2_with (at_builtin; go_loud (refine wpList_app _ rfl (.tmp 5) (.tmp 6) _ rfl w.heap.size 50 i0 zeroCell 6 72 Try.underlying22 hi0 hz0 hz1 hz2 rfl (by decide) (some ⟨w.heap.size, 0, none⟩) 0 0 [] rfl c1 w.heap.size (some a) l.length c (vals l) rfl c2 c3.out (vals_one l) c4 (by omega) (by simp) ?_); intro A' c' w1 hown hg hat)
    go_ret
    exact ⟨A', c', by simp, by simpa [OwnC] using hown, c1.grow ((Below.refl _ _).alloc (Nat.le_refl _) _) (by simp) (Nat.le_refl _) hg⟩
theorem clone_at (A : Option Addr) (n c : Nat) (l : List Cl) (w : World) (hl : Rd w w.heap.size A (vals l)) (hn : l.length = n) (hlen : n ≤ 1000) :
    Calls Try.prog 27 #[.slice A n c] w fun e w' => ∃ (A' : Option Addr) (c' : Nat), e = .returned (.slice A' n c') ∧ OwnC w' w.heap.size A' c' l ∧ Below w.heap.size w w' := by
  subst hn
  exact clone_any A c l w hl hlen
end Go.Proofs.Yteacjikkojglmaa
