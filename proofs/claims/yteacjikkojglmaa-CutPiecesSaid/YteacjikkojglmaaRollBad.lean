/-
  The walk of cut.Roll.
-/
import Derived.Test.YteacjikkojglmaaRollInv
namespace Go.Proofs.Yteacjikkojglmaa
open Go.RowKit Go.Shelf
attribute [local go_sem ↓] Go.wp_at_zero Go.wp_at_succ
attribute [local go_sem] Oper.semAt_some

set_option maxRecDepth 100000 in
set_option maxHeartbeats 1000000 in
theorem cutRoll_bad (A : Option Addr) (c : Nat) (l : List Cl) (most : Int) (w : World) (hl : Rd w w.heap.size A (vals l)) (hlen : l.length ≤ 1000) (hm : most < 1) :
    Calls Try.prog 18 #[.slice A l.length c, .int .i64 most] w fun e w' => e = .returned (.tuple #[.slice none 0 0, .int .i64 1]) ∧ Below w.heap.size w w' := by
  refine (callsIn_wide (n := 9)).1 ?_
  refine callsIn_of_wp_marks Try.func18 rfl trivial ?_ rfl
  simp only [Try.ntmps18, List.size_toArray, List.length_cons, List.length_nil, Nat.reduceAdd, Nat.reduceSub, Array.replicate_succ, Array.replicate_zero, List.push_toArray, List.append_toArray, List.nil_append, List.cons_append]
  have hmd : decide (most < 1) = true := decide_eq_true hm
  have hB0 : Below w.heap.size w ((w.alloc (.cells #[.int .i64 most] 3)).alloc (.cells #[.slice none 0 0] 26)) := ((Below.refl _ _).alloc (Nat.le_refl _) _).alloc (by simp) _
  have hx1 : Box ((w.alloc (.cells #[.int .i64 most] 3)).alloc (.cells #[.slice none 0 0] 26)) (w.heap.size + 1) 26 (.slice none 0 0) := by
    have h := Box.new (w.alloc (.cells #[.int .i64 most] 3)) 26 (.slice none 0 0)
    rw [World.size_alloc] at h
    exact h
  gi_wp2
  have hc := (hx1.set (.slice none 0 0)).cell
  refine ⟨_, by rw [results_cell_tmp rfl]; go_simp, rfl, ?_⟩
  first | exact hB0.setCell (by show w.heap.size ≤ w.heap.size + 1; omega) _ | exact hB0
set_option maxRecDepth 100000 in
set_option maxHeartbeats 1000000 in
theorem cutRoll_low (A : Option Addr) (c : Nat) (l : List Cl) (most : Int) (w : World) (hl : Rd w w.heap.size A (vals l)) (hlen : l.length ≤ 1000) (hm : 1 ≤ most) (hr : rising l = false) :
    Calls Try.prog 18 #[.slice A l.length c, .int .i64 most] w fun e w' => e = .returned (.tuple #[.slice none 0 0, .int .i64 40]) ∧ Below w.heap.size w w' := by
  refine (callsIn_wide (n := 9)).1 ?_
  refine callsIn_of_wp_marks Try.func18 rfl trivial ?_ rfl
  simp only [Try.ntmps18, List.size_toArray, List.length_cons, List.length_nil, Nat.reduceAdd, Nat.reduceSub, Array.replicate_succ, Array.replicate_zero, List.push_toArray, List.append_toArray, List.nil_append, List.cons_append]
  have hmd : decide (most < 1) = false := decide_eq_false (by omega)
  gi_wp2_with (refine ⟨trivial, ?_⟩; gi_at_call 24; refine (callsIn_wide.2 (cellRising_any A c l _ (((hl.alloc (Nat.le_refl _) _).alloc (by simp) _).more (by simp; omega)) (by unfold maxLen; omega))).mono ?_; rintro e w1 ⟨rfl, hb1⟩
               have hB0 : Below w.heap.size w w1 := ((((Below.refl _ _).alloc (Nat.le_refl _) _).alloc (by simp) _).trans (hb1.mono (by simp; omega)))
               have hx1 : Box w1 (w.heap.size + 1) 26 (.slice none 0 0) := by
                 have h := Box.new (w.alloc (.cells #[.int .i64 most] 3)) 26 (.slice none 0 0)
                 rw [World.size_alloc] at h
                 exact h.below hb1 (by simp)
               have hc1 := hx1.cell
               have hf1 := hx1.free)
  have hc := (hx1.set (.slice none 0 0)).cell
  refine ⟨_, by rw [results_cell_tmp rfl]; go_simp, rfl, ?_⟩
  exact hB0.setCell (by show w.heap.size ≤ w.heap.size + 1; omega) _

end Go.Proofs.Yteacjikkojglmaa
