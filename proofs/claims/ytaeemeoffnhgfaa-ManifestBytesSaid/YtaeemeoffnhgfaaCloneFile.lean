/-
  The walk of slices.Clone at files.
-/
import Derived.Test.YtaeemeoffnhgfaaFileOrd
namespace Go.Proofs.Ytaeemeoffnhgfaa
open Go.RowKit
attribute [local go_sem ↓] Go.wp_at_zero Go.wp_at_succ

set_option maxHeartbeats 1000000 in
theorem cloneFi_any (A : Option Addr) (c : Nat) (l : List Fi) (w : World) (hl : Rd w w.heap.size A (l.flatMap Fi.vals)) (hlen : l.length ≤ 1000000) :
    Calls Try.prog 30 #[.slice A l.length c] w fun e w' => ∃ (A' : Option Addr) (c' : Nat), e = .returned (.slice A' l.length c') ∧ Own w' w.heap.size 23 5 A' l.length c' (l.flatMap Fi.vals) ∧ Below w.heap.size w w' := by
  obtain ⟨i0, hi0, hz0, hz1, hz2⟩ := info_parts fileInfo
  have hq := fun (W : World) (a : Option Addr) (n c n' c' : Nat) => Lib.run_eql_slice_nil W 25 23 a n c n' c' Try.underlying25
  have HVL := Lib.hid (encs_length (Fi.vals_len) l)
  have HONE := Lib.hid (show ∀ u ∈ l.flatMap Fi.vals, u.oneCell' = true from fun u hu => by
    obtain ⟨x, _, hx⟩ := List.mem_flatMap.1 hu
    exact Fi.one x u hx)
  by_cases hA : A = none
  · subst hA
    have h0 : l = [] := by
      cases l with
      | nil => rfl
      | cons x l => obtain ⟨b, o, h, _⟩ := hl.at_ (by intro e; have := HVL.out; rw [e] at this; simp at this); cases h
    subst h0
    go_enter Try.func30, Try.ntmps30
    go_wp2
    go_ret
    exact ⟨none, 0, rfl, Own.nil, Below.refl _ _⟩
  · obtain ⟨a, rfl⟩ : ∃ a, A = some a := by cases A with
      | none => exact absurd rfl hA
      | some a => exact ⟨a, rfl⟩
    clear hA
    have c1 : Own (w.alloc (.cells #[] 23)) w.heap.size 23 5 (some ⟨w.heap.size, 0, none⟩) 0 0 [] := World.ownsRow_lit w #[] 0 (Nat.le_refl _) (by simp [maxLen]) rfl
    have c2 := hl.alloc (Nat.le_refl _) (.cells #[] 23)
    have c4 : 0 + l.length ≤ maxLen := by unfold maxLen; omega
    go_enter Try.func30, Try.ntmps30
    go_wp2_with (at_builtin; go_loud (refine wpList_app _ rfl (.tmp 5) (.tmp 6) _ rfl w.heap.size 23 i0 zeroFile 5 64 Try.underlying25 hi0 hz0 hz1 hz2 rfl (by decide) (some ⟨w.heap.size, 0, none⟩) 0 0 [] rfl c1 w.heap.size (some a) l.length c (l.flatMap Fi.vals) rfl c2 HVL.out HONE.out c4 (by omega) (by simp) ?_); intro A' c' w1 hown hg hat)
    go_ret
    exact ⟨A', c', by simp, by simpa using hown, c1.grow ((Below.refl _ _).alloc (Nat.le_refl _) _) (by simp) (Nat.le_refl _) hg⟩
end Go.Proofs.Ytaeemeoffnhgfaa

