/-
  The order of cells is an order. Plain, no walk.
-/
import Derived.Test.YtoligmmjmghgnaaCmp
namespace Go.Proofs.Ytoligmmjmghgnaa
open Go.RowKit

/-- a comparison: turned about it changes its sign, and 'not above' goes on -/
structure IsCmp {α : Type} (c : α → α → Int) : Prop where
  anti : ∀ a b, c b a = - c a b
  trans : ∀ a b d, c a b ≤ 0 → c b d ≤ 0 → c a d ≤ 0
section
variable {α β : Type} {c d : α → α → Int}
theorem IsCmp.self (h : IsCmp c) (a : α) : c a a = 0 := by have := h.anti a a; omega
theorem IsCmp.lt_le (h : IsCmp c) {x y z : α} (h1 : c x y < 0) (h2 : c y z ≤ 0) : c x z < 0 := by
  have h3 := h.trans x y z (by omega) h2
  by_cases e : c x z = 0
  · have h4 := h.anti x z
    have h5 := h.trans y z x h2 (by omega)
    have h6 := h.anti x y
    omega
  · omega
theorem IsCmp.le_lt (h : IsCmp c) {x y z : α} (h1 : c x y ≤ 0) (h2 : c y z < 0) : c x z < 0 := by
  have h3 := h.trans x y z h1 (by omega)
  by_cases e : c x z = 0
  · have h4 := h.anti x z
    have h5 := h.trans z x y (by omega) h1
    have h6 := h.anti y z
    omega
  · omega
theorem IsCmp.eq_eq (h : IsCmp c) {x y z : α} (h1 : c x y = 0) (h2 : c y z = 0) : c x z = 0 := by
  have h3 := h.trans x y z (by omega) (by omega)
  have h4 := h.anti x y
  have h5 := h.anti y z
  have h6 := h.trans z y x (by omega) (by omega)
  have h7 := h.anti x z
  omega
theorem IsCmp.comap (h : IsCmp c) (f : β → α) : IsCmp fun a b => c (f a) (f b) := ⟨fun a b => h.anti _ _, fun a b d => h.trans _ _ _⟩
theorem IsCmp.flip (h : IsCmp c) : IsCmp fun a b => c b a := ⟨fun a b => h.anti b a, fun a b d h1 h2 => h.trans d b a h2 h1⟩
/-- first the one, then the other -/
theorem IsCmp.lex (h : IsCmp c) (k : IsCmp d) : IsCmp fun a b => if c a b = 0 then d a b else c a b := by
  refine ⟨fun a b => ?_, fun x y z h1 h2 => ?_⟩
  · have e := h.anti a b
    have e2 := k.anti a b
    by_cases hz : c a b = 0
    · rw [if_pos hz, if_pos (by omega)]; exact e2
    · rw [if_neg hz, if_neg (by omega)]; exact e
  · by_cases a1 : c x y = 0 <;> by_cases a2 : c y z = 0
    · rw [if_pos a1] at h1
      rw [if_pos a2] at h2
      rw [if_pos (h.eq_eq a1 a2)]
      exact k.trans _ _ _ h1 h2
    · rw [if_neg a2] at h2
      have := h.le_lt (show c x y ≤ 0 by omega) (show c y z < 0 by omega)
      rw [if_neg (by omega)]; omega
    · rw [if_neg a1] at h1
      have := h.lt_le (show c x y < 0 by omega) (show c y z ≤ 0 by omega)
      rw [if_neg (by omega)]; omega
    · rw [if_neg a1] at h1
      rw [if_neg a2] at h2
      have := h.lt_le (show c x y < 0 by omega) (show c y z ≤ 0 by omega)
      rw [if_neg (by omega)]; omega
end
theorem txt_cmp : IsCmp txt := by
  refine ⟨fun a b => ?_, fun a b d h1 h2 => ?_⟩
  · unfold txt
    cases h : lt a b with
    | true => have := lt_asymm h; simp [this]
    | false => cases k : lt b a <;> simp
  · have key : ∀ x y : ByteArray, txt x y ≤ 0 ↔ lt y x = false := fun x y => by
      unfold txt
      cases h : lt x y with
      | true => have := lt_asymm h; simp [this]
      | false => cases k : lt y x <;> simp
    rw [key] at *
    cases k : lt d a with
    | false => rfl
    | true =>
      cases l : lt a b with
      | true => have := lt_trans k l; rw [h2] at this; cases this
      | false => have := lt_total l h1; subst this; rw [h2] at k; cases k
theorem num_cmp : IsCmp num := by
  refine ⟨fun a b => ?_, fun a b d h1 h2 => ?_⟩
  · unfold num; split <;> split <;> (try split) <;> omega
  · unfold num at *; split at h1 <;> split at h2 <;> (try split at h1) <;> (try split at h2) <;> split <;> (try split) <;> omega
theorem Cl.cmp_eq (x y : Cl) : x.cmp y = if txt x.row y.row = 0 then (if txt x.col y.col = 0 then (if num y.ts x.ts = 0 then num y.seq x.seq else num y.ts x.ts) else txt x.col y.col) else txt x.row y.row := by
  unfold Cl.cmp
  rw [first4]
theorem cl_cmp : IsCmp Cl.cmp := by
  have h := (txt_cmp.comap Cl.row).lex ((txt_cmp.comap Cl.col).lex ((num_cmp.flip.comap Cl.ts).lex (num_cmp.flip.comap Cl.seq)))
  have e : (fun a b : Cl => if txt a.row b.row = 0 then (if txt a.col b.col = 0 then (if num b.ts a.ts = 0 then num b.seq a.seq else num b.ts a.ts) else txt a.col b.col) else txt a.row b.row) = Cl.cmp := by
    funext x y; rw [Cl.cmp_eq]
  rw [← e]
  exact h
theorem num_eq {a b : Nat} : num a b = 0 ↔ a = b := by unfold num; split <;> (try split) <;> omega

theorem Cl.cmp_same {x y : Cl} (h : x.cmp y = 0) : x.row = y.row ∧ x.col = y.col ∧ x.ts = y.ts ∧ x.seq = y.seq := by
  rw [Cl.cmp_eq] at h
  split at h
  · next h1 =>
    split at h
    · next h2 =>
      split at h
      · next h3 => exact ⟨txt_eq.1 h1, txt_eq.1 h2, (num_eq.1 h3).symm, (num_eq.1 h).symm⟩
      · next h3 => exact absurd h h3
    · next h2 => exact absurd h h2
  · next h1 => exact absurd h h1
theorem cmp_flip (x y : Cl) : y.cmp x = - x.cmp y := cl_cmp.anti x y
end Go.Proofs.Ytoligmmjmghgnaa
