/-
  What is kept, group by group, plain. No program in sight.
-/
import Derived.Test.YtoligmmjmghgnaaReadPlain
import Derived.Test.YtoligmmjmghgnaaKeepIn14
namespace Go.Proofs.Ytoligmmjmghgnaa
open Go.RowKit

theorem any_mem {α : Type} {l : List α} {p q : α → Bool} (h : ∀ x ∈ l, p x = q x) : l.any p = l.any q := by
  rw [Bool.eq_iff_iff, List.any_eq_true, List.any_eq_true]
  exact ⟨fun ⟨x, hx, hp⟩ => ⟨x, hx, by rw [← h x hx]; exact hp⟩, fun ⟨x, hx, hp⟩ => ⟨x, hx, by rw [h x hx]; exact hp⟩⟩
/-- what stays of a group, at first -/
def keptG (G : List Cl) (fl : Nat) : List Cl := G.filter fun c => !covG G fl c
/-- and then, if nothing lies below -/
def keepQ (D : List Cl) (fl : Nat) (last : Bool) (c : Cl) : Bool := !last || !(c.del && decide (c.seq ≤ fl) && !D.any (hides c))
def keepG (G : List Cl) (fl : Nat) (last : Bool) : List Cl := (keptG G fl).filter (keepQ (keptG G fl) fl last)
def keepF (A : List Cl) (fl : Nat) (last : Bool) (k : Nat) : List Cl := (A.take k).filter fun c => !coveredIn A fl c && (!last || !useless (keptP A fl) fl c)
theorem keep_all (A : List Cl) (fl : Nat) (last : Bool) : keepF A fl last A.length = keepP A fl last := by
  unfold keepF keepP
  rw [List.take_length]
  conv => rhs; unfold keptP
  rw [List.filter_filter]
  apply List.filter_congr
  intro c _
  rw [Bool.and_comm]
  rfl
section
variable {A : List Cl} (hA : Strict A) {k : Nat} (h : Cut A k) (hk : k < A.length) {c : Cl} (fl : Nat)
include hA h hk
theorem cov_grp (hc : c ∈ (A.drop k).take (colLen (A.drop k))) : coveredIn A fl c = covG ((A.drop k).take (colLen (A.drop k))) fl c := by
  unfold coveredIn covG
  rw [grp_any hA h hk hc fun x => decide (x.seq ≤ fl) && covers x c]
  apply any_mem
  intro x hx
  rw [(grp_at hA).one x hx c hc, Bool.true_and]
  rfl
theorem useless_grp (hc : c ∈ (A.drop k).take (colLen (A.drop k))) : useless (keptP A fl) fl c = (c.del && decide (c.seq ≤ fl) && !(keptG ((A.drop k).take (colLen (A.drop k))) fl).any (hides c)) := by
  unfold useless
  congr 2
  have e1 : ((keptP A fl).any fun x => column x c && hides c x) = A.any fun x => column x c && (!coveredIn A fl x && hides c x) := by
    unfold keptP
    rw [List.any_filter]
    apply any_mem
    intro x _
    cases column x c <;> cases coveredIn A fl x <;> rfl
  rw [e1, grp_any hA h hk hc fun x => !coveredIn A fl x && hides c x]
  unfold keptG
  rw [List.any_filter]
  apply any_mem
  intro x hx
  rw [(grp_at hA).one x hx c hc, Bool.true_and, cov_grp hA h hk fl hx]
theorem keep_next (last : Bool) : keepF A fl last (k + colLen (A.drop k)) = keepF A fl last k ++ keepG ((A.drop k).take (colLen (A.drop k))) fl last := by
  unfold keepF
  rw [filter_grp]
  congr 1
  unfold keepG
  conv => rhs; rhs; unfold keptG
  rw [List.filter_filter]
  apply List.filter_congr
  intro c hc
  rw [cov_grp hA h hk fl hc, useless_grp hA h hk fl hc, Bool.and_comm]
  rfl
end
theorem keepG_len (G : List Cl) (fl : Nat) (last : Bool) : (keepG G fl last).length ≤ G.length := Nat.le_trans (List.length_filter_le _ _) (List.length_filter_le _ _)
end Go.Proofs.Ytoligmmjmghgnaa
