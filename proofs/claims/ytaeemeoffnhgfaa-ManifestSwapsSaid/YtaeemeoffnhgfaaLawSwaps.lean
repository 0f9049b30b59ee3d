/-
  The walk of the law ManifestSwaps.
-/
import Derived.Test.YtaeemeoffnhgfaaLawErrorsB
import Derived.Test.YtaeemeoffnhgfaaFilesL
namespace Go.Proofs.Ytaeemeoffnhgfaa
open Go.RowKit
attribute [local go_sem ↓] Go.wp_at_zero Go.wp_at_succ

theorem first_any (f : Fi) (h : may f = true) : applyF 0 0 0 0 [] [f] [] = (0, [f]) := by rw [applyF_ok (may_list h) (by omega) (by omega), applyM_first]
theorem beq_text (s t : ByteArray) : (s.toList == t.toList) = decide (s = t) := by
  by_cases e : s = t
  · subst e; simp
  · rw [decide_eq_false e, beq_eq_false_iff_ne]
    exact fun k => e (toList_inj k)
set_option maxRecDepth 10000 in
set_option maxHeartbeats 4000000 in
theorem swaps_wide (f : Fi) (name : ByteArray) (w : World) (h : bndOne f = false ∨ 100 < name.size ∨ may f = false ∨ name = f.name) :
    Calls Try.prog 3 #[f.agg, .string name] w fun e w' => e = .returned (.bool true) ∧ Below w.heap.size w w' := by
  have hbn := boundedOne f
  have hmy := fun W => may_any f W
  unfold Fi.agg at hmy ⊢
  have e3 := beq_text name f.name
  cases hbq : bndOne f with
  | false =>
    rw [hbq] at hbn
    have HBN := Lib.hid hbn
    clear hbn hbq h hmy e3
    go_enter Try.func3, Try.ntmps3
    go_wp2_with (first
      | (go_at_call 9; refine (HBN.out _ _ ?_).mono ?_; (exact rd_made f rfl (by simp only [World.size_alloc])); rintro e w1 ⟨rfl, rfl⟩)
      | (go_at_call 11; refine (shown_any _).mono ?_; rintro e w2 ⟨rfl, hb2⟩; obtain ⟨-, hb3⟩ := made_two hb2; have HB3 := Lib.hid hb3))
    go_ret
    exact ⟨rfl, HB3.out⟩
  | true =>
    rw [hbq] at h hbn
    have HBN := Lib.hid hbn
    by_cases hsz : 100 < name.size
    · have e1 : decide ((100 : Int) < (name.size : Int)) = true := decide_eq_true (by omega)
      clear hbn hbq h hmy e3
      go_enter Try.func3, Try.ntmps3
      go_wp2_with (first
        | (go_at_call 9; refine (HBN.out _ _ ?_).mono ?_; (exact rd_made f rfl (by simp only [World.size_alloc])); rintro e w1 ⟨rfl, rfl⟩)
        | (go_at_call 11; refine (shown_any _).mono ?_; rintro e w2 ⟨rfl, hb2⟩; obtain ⟨-, hb3⟩ := made_two hb2; have HB3 := Lib.hid hb3))
      go_ret
      exact ⟨rfl, HB3.out⟩
    · have e1 : decide ((100 : Int) < (name.size : Int)) = false := decide_eq_false (by omega)
      cases hmq : may f with
      | false =>
        rw [hmq] at hmy
        have HMY := Lib.hid hmy
        clear hbn hbq h hmy hmq e3
        go_enter Try.func3, Try.ntmps3
        go_wp2_with (first
          | (go_at_call 9; refine (HBN.out _ _ ?_).mono ?_; (exact rd_made f rfl (by simp only [World.size_alloc])); rintro e w1 ⟨rfl, rfl⟩)
          | (go_at_call 10; refine (HMY.out _).mono ?_; rintro e w2 ⟨rfl, hb2⟩; obtain ⟨hf2, hb2'⟩ := made_two hb2; have HF2 := Lib.hid (show FBox 23 w2 w.heap.size f from hf2); have HB2 := Lib.hid hb2'; clear hb2 hb2' hf2 HMY; obtain ⟨m0, m1, m2, m3, m4⟩ := HF2.out.cells)
          | (go_at_call 11; refine (shown_any _).mono ?_; rintro e w3 ⟨rfl, hb3⟩; have HB3 := Lib.hid (HB2.out.trans (hb3.mono HB2.out.size))))
        go_ret
        exact ⟨rfl, HB3.out⟩
      | true =>
        rw [hmq] at hmy h
        have HMY := Lib.hid hmy
        have hne : name = f.name := by
          rcases h with h | h | h | h
          · cases h
          · exact absurd h hsz
          · cases h
          · exact h
        rw [decide_eq_true hne] at e3
        clear hbn hbq h hmy hmq hne
        go_enter Try.func3, Try.ntmps3
        go_wp2_with (first
          | (go_at_call 9; refine (HBN.out _ _ ?_).mono ?_; (exact rd_made f rfl (by simp only [World.size_alloc])); rintro e w1 ⟨rfl, rfl⟩)
          | (go_at_call 10; refine (HMY.out _).mono ?_; rintro e w2 ⟨rfl, hb2⟩; obtain ⟨hf2, hb2'⟩ := made_two hb2; have HF2 := Lib.hid (show FBox 23 w2 w.heap.size f from hf2); have HB2 := Lib.hid hb2'; clear hb2 hb2' hf2 HMY; obtain ⟨m0, m1, m2, m3, m4⟩ := HF2.out.cells)
          | (go_at_call 11; refine (shown_any _).mono ?_; rintro e w3 ⟨rfl, hb3⟩; have HB3 := Lib.hid (HB2.out.trans (hb3.mono HB2.out.size))))
        go_ret
        exact ⟨rfl, HB3.out⟩

/-- what is there when the law comes to its end -/
def SwapC (w W : World) (g5 g8 g10 : Nat) (A4 A7 A10 : Option Addr) (c4 c7 c10 : Nat) (f g : Fi) : Prop :=
  SBox W g10 A10 1 c10 0 0 ∧ SBox W g5 A4 1 c4 0 0 ∧ SBox W g8 A7 1 c7 0 0 ∧ Rd W W.heap.size A10 (fis [f]) ∧ Rd W W.heap.size A4 (fis [f]) ∧ Rd W W.heap.size A7 (fis [g]) ∧ Below w.heap.size w W
theorem SwapC.below {w W W' : World} {g5 g8 g10 c4 c7 c10 : Nat} {A4 A7 A10 : Option Addr} {f g : Fi} (h : SwapC w W g5 g8 g10 A4 A7 A10 c4 c7 c10 f g) (hb : Below W.heap.size W W') : SwapC w W' g5 g8 g10 A4 A7 A10 c4 c7 c10 f g := by
  obtain ⟨h1, h2, h3, h4, h5, h6, h7⟩ := h
  exact ⟨h1.below hb, h2.below hb, h3.below hb, (h4.below hb).more hb.size, (h5.below hb).more hb.size, (h6.below hb).more hb.size, h7.trans (hb.mono h7.size)⟩
theorem SwapC.full {w W : World} {g5 g8 g10 c4 c7 c10 b7 o7 : Nat} {A4 A10 : Option Addr} {f g : Fi} (h : SwapC w W g5 g8 g10 A4 (some ⟨b7, o7, none⟩) A10 c4 c7 c10 f g) :
    W.cell? ⟨g10, 0, none⟩ = some (.slice A10 1 c10) ∧ W.cell? ⟨g5, 0, none⟩ = some (.slice A4 1 c4) ∧ W.cell? ⟨g8, 0, none⟩ = some (.slice (some ⟨b7, o7, none⟩) 1 c7) ∧ W.cell? ⟨b7, o7 + 1, none⟩ = some (.string g.name) ∧ SwapC w W g5 g8 g10 A4 (some ⟨b7, o7, none⟩) A10 c4 c7 c10 f g := by
  obtain ⟨b, o, e, hr⟩ := rd_elem (l := [g]) (k := 0) h.2.2.2.2.2.1 (by simp)
  cases e
  rw [Nat.zero_mul, Nat.add_zero] at hr
  exact ⟨h.1.cells.1, h.2.1.cells.1, h.2.2.1.cells.1, hr 1 _ rfl, h⟩
end Go.Proofs.Ytaeemeoffnhgfaa
