/-
  Files of a table, and how they are compared: the walk of the comparison. No conditions.
-/
import Derived.Test.YtaeemeoffnhgfaaStrCmp
namespace Go.Proofs.Ytaeemeoffnhgfaa
open Go.RowKit
attribute [local go_sem ↓] Go.wp_at_zero Go.wp_at_succ

structure Fi where
  level : Int
  name : ByteArray
  low : ByteArray
  high : ByteArray
  many : Int
  deriving DecidableEq

def Fi.vals (x : Fi) : List Value := [.int .i64 x.level, .string x.name, .string x.low, .string x.high, .int .i64 x.many]
abbrev Fi.agg (x : Fi) : Value := .agg #[.int .i64 x.level, .string x.name, .string x.low, .string x.high, .int .i64 x.many]
theorem Fi.vals_len (x : Fi) : x.vals.length = 5 := rfl
theorem Fi.one (x : Fi) : ∀ v ∈ x.vals, v.oneCell' = true := by
  intro v hv
  simp only [Fi.vals, List.mem_cons, List.not_mem_nil, or_false] at hv
  rcases hv with rfl | rfl | rfl | rfl | rfl <;> rfl
def Fi.cmp (a b : Fi) : Int := first [numI a.level b.level, txt a.low b.low, txt a.name b.name]

theorem or3_any (b : Nat) (x y z : Int) (w : World) (h : w.cell? ⟨b, 0, none⟩ = some (.int .i64 x) ∧ w.cell? ⟨b, 1, none⟩ = some (.int .i64 y) ∧ w.cell? ⟨b, 2, none⟩ = some (.int .i64 z)) :
    Calls Try.prog 60 #[.slice (some ⟨b, 0, none⟩) 3 3] w fun e w' => e = .returned (.int .i64 (first [x, y, z])) ∧ w = w' :=
  or_any _ 3 [x, y, z] w (b + 1) (fun _ => ⟨b, 0, rfl, by omega, fun j hj => by
    obtain ⟨h0, h1, h2⟩ := h
    match j, hj with
    | 0, _ => exact h0
    | 1, _ => exact h1
    | 2, _ => exact h2⟩) (by simp [maxLen])

set_option maxHeartbeats 2000000 in
theorem fileCompare_any (x y : Fi) (w : World) :
    Calls Try.prog 32 #[x.agg, y.agg] w fun e w' => e = .returned (.int .i64 (x.cmp y)) ∧ Below w.heap.size w w' := by
  unfold Fi.agg
  go_enter Try.func32, Try.ntmps32
  go_wp2
  generalize hW : World.alloc _ _ = W0
  have hz : W0.heap.size = w.heap.size + 2 := by rw [← hW]; simp
  have HB0 : Below w.heap.size w W0 := by rw [← hW]; exact ((Below.refl _ _).alloc (Nat.le_refl _) _).alloc (by simp) _
  obtain ⟨q, hq⟩ : ∃ q, w.heap.size + 1 = q := ⟨_, rfl⟩
  obtain ⟨p, hp⟩ : ∃ p, w.heap.size = p := ⟨_, rfl⟩
  have HC : (fun W' => W'.cell? ⟨p, 0, none⟩ = some (.int .i64 x.level) ∧ W'.cell? ⟨p, 1, none⟩ = some (.string x.name) ∧ W'.cell? ⟨p, 2, none⟩ = some (.string x.low) ∧ W'.cell? ⟨q, 0, none⟩ = some (.int .i64 y.level) ∧ W'.cell? ⟨q, 1, none⟩ = some (.string y.name) ∧ W'.cell? ⟨q, 2, none⟩ = some (.string y.low)) W0.drew := by
    subst hq hp hW
    refine ⟨?_, ?_, ?_, ?_, ?_, ?_⟩ <;> go_simp
  rw [hq]
  rw [hp] at HB0 hq hz ⊢
  have hp2 : p < W0.heap.size := by omega
  have hq2 : q < W0.heap.size := by omega
  clear hW hz hq
  refine region_wz (fun W' => W'.cell? ⟨p, 0, none⟩ = some (.int .i64 x.level) ∧ W'.cell? ⟨p, 1, none⟩ = some (.string x.name) ∧ W'.cell? ⟨p, 2, none⟩ = some (.string x.low) ∧ W'.cell? ⟨q, 0, none⟩ = some (.int .i64 y.level) ∧ W'.cell? ⟨q, 1, none⟩ = some (.string y.name) ∧ W'.cell? ⟨q, 2, none⟩ = some (.string y.low)) none (by kernel_rfl) ?_
  apply WZ.take (i := 0) (some 5) rfl rfl (by kernel_rfl) (by kernel_rfl) (by kernel_rfl) (calm_panic _) (by kernel_rfl)
  case hy => (refine .inl ⟨by kernel_rfl, fun W hC => ?_⟩; (try dsimp only at hC); go_simp; rfl)
  case hC => exact HC
  case ha => (simp only [Act.put, List.setIfInBounds_toArray, List.set_cons_zero, List.set_cons_succ]; rfl)
  apply WZ.take (i := 1) (some 6) rfl rfl (by kernel_rfl) (by kernel_rfl) (by kernel_rfl) (calm_panic _) (by kernel_rfl)
  case hy => (refine .inl ⟨by kernel_rfl, fun W hC => ?_⟩; (try dsimp only at hC); go_simp; rfl)
  case hC => exact HC
  case ha => (simp only [Act.put, List.setIfInBounds_toArray, List.set_cons_zero, List.set_cons_succ]; rfl)
  apply WZ.take (i := 2) (some 7) rfl rfl (by kernel_rfl) (by kernel_rfl) (by kernel_rfl) (calm_panic _) (by kernel_rfl)
  case hy => (refine .inl ⟨by kernel_rfl, fun W hC => ?_⟩; (try dsimp only at hC); go_simp; rfl)
  case hC => exact HC
  case ha => (simp only [Act.put, List.setIfInBounds_toArray, List.set_cons_zero, List.set_cons_succ]; rfl)
  apply WZ.take (i := 3) (some 8) rfl rfl (by kernel_rfl) (by kernel_rfl) (by kernel_rfl) (calm_panic _) (by kernel_rfl)
  case hy => (refine .inl ⟨by kernel_rfl, fun W hC => ?_⟩; (try dsimp only at hC); go_simp; rfl)
  case hC => exact HC
  case ha => (simp only [Act.put, List.setIfInBounds_toArray, List.set_cons_zero, List.set_cons_succ]; rfl)
  apply WZ.take (i := 5) (some 10) rfl rfl (by kernel_rfl) (by kernel_rfl) (by kernel_rfl) (calm_panic _) (by kernel_rfl)
  case hy => (refine .inl ⟨by kernel_rfl, fun W hC => ?_⟩; (try dsimp only at hC); go_simp; rfl)
  case hC => exact HC
  case ha => (simp only [Act.put, List.setIfInBounds_toArray, List.set_cons_zero, List.set_cons_succ]; rfl)
  apply WZ.take (i := 6) (some 11) rfl rfl (by kernel_rfl) (by kernel_rfl) (by kernel_rfl) (calm_panic _) (by kernel_rfl)
  case hy => (refine .inl ⟨by kernel_rfl, fun W hC => ?_⟩; (try dsimp only at hC); go_simp; rfl)
  case hC => exact HC
  case ha => (simp only [Act.put, List.setIfInBounds_toArray, List.set_cons_zero, List.set_cons_succ]; rfl)
  apply WZ.take (i := 7) (some 12) rfl rfl (by kernel_rfl) (by kernel_rfl) (by kernel_rfl) (calm_panic _) (by kernel_rfl)
  case hy => (refine .inl ⟨by kernel_rfl, fun W hC => ?_⟩; (try dsimp only at hC); go_simp; rfl)
  case hC => exact HC
  case ha => (simp only [Act.put, List.setIfInBounds_toArray, List.set_cons_zero, List.set_cons_succ]; rfl)
  apply WZ.take (i := 8) (some 13) rfl rfl (by kernel_rfl) (by kernel_rfl) (by kernel_rfl) (calm_panic _) (by kernel_rfl)
  case hy => (refine .inl ⟨by kernel_rfl, fun W hC => ?_⟩; (try dsimp only at hC); go_simp; rfl)
  case hC => exact HC
  case ha => (simp only [Act.put, List.setIfInBounds_toArray, List.set_cons_zero, List.set_cons_succ]; rfl)
  apply WZ.take (i := 10) (some 15) rfl rfl (by kernel_rfl) (by kernel_rfl) (by kernel_rfl) (calm_panic _) (by kernel_rfl)
  case hy => (refine .inl ⟨by kernel_rfl, fun W hC => ?_⟩; (try dsimp only at hC); go_simp; rfl)
  case hC => exact HC
  case ha => (simp only [Act.put, List.setIfInBounds_toArray, List.set_cons_zero, List.set_cons_succ]; rfl)
  apply WZ.take (i := 11) (some 16) rfl rfl (by kernel_rfl) (by kernel_rfl) (by kernel_rfl) (calm_panic _) (by kernel_rfl)
  case hy => (refine .inl ⟨by kernel_rfl, fun W hC => ?_⟩; (try dsimp only at hC); go_simp; rfl)
  case hC => exact HC
  case ha => (simp only [Act.put, List.setIfInBounds_toArray, List.set_cons_zero, List.set_cons_succ]; rfl)
  apply WZ.take (i := 12) (some 17) rfl rfl (by kernel_rfl) (by kernel_rfl) (by kernel_rfl) (calm_panic _) (by kernel_rfl)
  case hy => (refine .inl ⟨by kernel_rfl, fun W hC => ?_⟩; (try dsimp only at hC); go_simp; rfl)
  case hC => exact HC
  case ha => (simp only [Act.put, List.setIfInBounds_toArray, List.set_cons_zero, List.set_cons_succ]; rfl)
  apply WZ.take (i := 13) (some 18) rfl rfl (by kernel_rfl) (by kernel_rfl) (by kernel_rfl) (calm_panic _) (by kernel_rfl)
  case hy => (refine .inl ⟨by kernel_rfl, fun W hC => ?_⟩; (try dsimp only at hC); go_simp; rfl)
  case hC => exact HC
  case ha => (simp only [Act.put, List.setIfInBounds_toArray, List.set_cons_zero, List.set_cons_succ]; rfl)
  -- 4
  refine WZ.one (i := 4) rfl (by kernel_rfl) ?_
  conv => arg 4; arg 1; whnf
  go_wp2_with (go_at_call 61; refine (compareInt_any _ _ _).mono ?_; rintro e w2 ⟨rfl, rfl⟩)
  refine ⟨HC, ?_⟩
  -- 9
  refine WZ.one (i := 9) rfl (by kernel_rfl) ?_
  conv => arg 4; arg 1; whnf
  go_wp2_with (go_at_call 62; refine (compare_any _ _ _).mono ?_; rintro e w2 ⟨rfl, rfl⟩)
  refine ⟨HC, ?_⟩
  -- 14
  refine WZ.one (i := 14) rfl (by kernel_rfl) ?_
  conv => arg 4; arg 1; whnf
  go_wp2_with (go_at_call 62; refine (compare_any _ _ _).mono ?_; rintro e w2 ⟨rfl, rfl⟩)
  refine ⟨HC, ?_⟩
  -- 15
  refine WZ.one (i := 15) rfl (by kernel_rfl) ?_
  conv => arg 4; arg 1; whnf
  go_wp2
  have HC2 : (fun W' => W'.cell? ⟨p, 0, none⟩ = some (.int .i64 x.level) ∧ W'.cell? ⟨p, 1, none⟩ = some (.string x.name) ∧ W'.cell? ⟨p, 2, none⟩ = some (.string x.low) ∧ W'.cell? ⟨q, 0, none⟩ = some (.int .i64 y.level) ∧ W'.cell? ⟨q, 1, none⟩ = some (.string y.name) ∧ W'.cell? ⟨q, 2, none⟩ = some (.string y.low)) (W0.drew.alloc (.cells #[.int .i64 (numI x.level y.level), .int .i64 (txt x.low y.low), .int .i64 (txt x.name y.name)] 3)) :=
    ⟨(World.cell?_alloc_lt _ _ ⟨_, _, none⟩ hp2).trans HC.1, (World.cell?_alloc_lt _ _ ⟨_, _, none⟩ hp2).trans HC.2.1, (World.cell?_alloc_lt _ _ ⟨_, _, none⟩ hp2).trans HC.2.2.1, (World.cell?_alloc_lt _ _ ⟨_, _, none⟩ hq2).trans HC.2.2.2.1, (World.cell?_alloc_lt _ _ ⟨_, _, none⟩ hq2).trans HC.2.2.2.2.1, (World.cell?_alloc_lt _ _ ⟨_, _, none⟩ hq2).trans HC.2.2.2.2.2⟩
  clear HC
  have HC := HC2
  clear HC2
  refine ⟨HC, ?_⟩
  -- 16
  refine WZ.one (i := 16) rfl (by kernel_rfl) ?_
  conv => arg 4; arg 1; whnf
  go_wp2_with (go_at_call 60; refine (or3_any _ (numI x.level y.level) (txt x.low y.low) (txt x.name y.name) _ ?_).mono ?_; (simp [World.cell?_alloc_at]); rintro e w3 ⟨rfl, rfl⟩)
  refine ⟨HC, ?_⟩
  apply WZ.take (i := 17) (some 4) rfl rfl (by kernel_rfl) (by kernel_rfl) (by kernel_rfl) (calm_panic _) (by kernel_rfl)
  case hy => (refine .inl ⟨by kernel_rfl, fun W hC => ?_⟩; (try dsimp only at hC); go_simp; rfl)
  case hC => exact HC
  case ha => (simp only [Act.put, List.setIfInBounds_toArray, List.set_cons_zero, List.set_cons_succ]; rfl)
  refine WZ.done (by kernel_rfl) ?_ _
  simp only [Calm, Exit.then]
  go_wp2
  go_ret
  exact ⟨rfl, by rw [hp]; exact HB0.drew.alloc (by show p ≤ W0.heap.size; omega) _⟩
end Go.Proofs.Ytaeemeoffnhgfaa
