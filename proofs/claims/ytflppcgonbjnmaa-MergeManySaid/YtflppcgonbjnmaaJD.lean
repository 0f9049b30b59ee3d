/-
  Items: a cell, and where it stands; how they are compared. The walks of the functions on one or two items. The walks of the functions that tell whether two cells, or two items, have one coordinate; and of the reference's comparison of two items. No conditions.
-/
import Derived.Test.YtflppcgonbjnmaaJC
import Derived.Test.YtflppcgonbjnmaaJA
import Derived.RegionTactic
import Derived.ChangeAlike
import Derived.Test.YtflppcgonbjnmaaJB
namespace Go.Proofs.Ytflppcgonbjnmaa
open Go.RowKit
attribute [local go_sem ↓] Go.wp_at_zero Go.wp_at_succ

structure It where
  c : Cl
  pos : Int
  deriving DecidableEq

def It.vals (x : It) : List Value := [.string x.c.row, .string x.c.col, .int .u64 x.c.ts, .int .u64 x.c.seq, .bool x.c.del, .string x.c.val, .int .i64 x.pos]
abbrev It.agg (x : It) : Value := .agg #[.string x.c.row, .string x.c.col, .int .u64 x.c.ts, .int .u64 x.c.seq, .bool x.c.del, .string x.c.val, .int .i64 x.pos]
theorem It.vals_len (x : It) : x.vals.length = 7 := rfl
theorem It.one (x : It) : ∀ v ∈ x.vals, v.oneCell' = true := by
  intro v hv
  simp only [It.vals, List.mem_cons, List.not_mem_nil, or_false] at hv
  rcases hv with rfl | rfl | rfl | rfl | rfl | rfl | rfl <;> rfl

def Cl.plain (c : Cl) : Cl := { c with seq := 0 }
def numI (a b : Int) : Int := if a < b then -1 else if b < a then 1 else 0
def It.cmp (a b : It) : Int := first [a.c.plain.cmp b.c.plain, numI b.pos a.pos]

set_option maxHeartbeats 400000 in
theorem compareInt_any (a b : Int) (w : World) :
    Calls Try.prog 60 #[.int .i64 a, .int .i64 b] w fun e w' => e = .returned (.int .i64 (numI a b)) ∧ w = w' := by
  go_enter Try.func60, Try.ntmps60
  go_wp2
  all_goals (go_ret; exact ⟨ret_int (by unfold numI; split <;> (try split) <;> omega), rfl⟩)

/-- cmp.Or of two numbers that lie in one new block -/
theorem or2_any (b : Nat) (x y : Int) (w : World) (h : w.cell? ⟨b, 0, none⟩ = some (.int .i64 x) ∧ w.cell? ⟨b, 1, none⟩ = some (.int .i64 y)) :
    Calls Try.prog 58 #[.slice (some ⟨b, 0, none⟩) 2 2] w fun e w' => e = .returned (.int .i64 (first [x, y])) ∧ w = w' :=
  or_any _ 2 [x, y] w (b + 1) (fun _ => ⟨b, 0, rfl, by omega, fun j hj => by
    obtain ⟨h0, h1⟩ := h
    match j, hj with
    | 0, _ => exact h0
    | 1, _ => exact h1⟩) (by simp [maxLen])

theorem rangeAt_below {w w' : World} {B b o : Nat} {cs : List Value} (h : w.rangeAt b o cs) (hb : Below B w w') (hB : b < B) : w'.rangeAt b o cs := fun j v hv => (hb.cell (p := ⟨b, o + j, none⟩) hB).trans (h j v hv)
theorem rangeAt_list {w : World} {b o : Nat} {cs : List Value} (h : ∀ j (hj : j < cs.length), w.cell? ⟨b, o + j, none⟩ = some cs[j]) : w.rangeAt b o cs := fun j v hv => by
  obtain ⟨hj, rfl⟩ := List.getElem?_eq_some_iff.1 hv
  exact h j hj

theorem range_cl {w : World} {b : Nat} {c : Cl} (h : w.cell? ⟨b, 0, none⟩ = some (.string c.row) ∧ w.cell? ⟨b, 0 + 1, none⟩ = some (.string c.col) ∧ w.cell? ⟨b, 0 + 2, none⟩ = some (.int .u64 c.ts) ∧ w.cell? ⟨b, 0 + 3, none⟩ = some (.int .u64 c.seq) ∧ w.cell? ⟨b, 0 + 4, none⟩ = some (.bool c.del) ∧ w.cell? ⟨b, 0 + 5, none⟩ = some (.string c.val)) : w.rangeAt b 0 c.vals := rangeAt_list fun j hj => by
  obtain ⟨h0, h1, h2, h3, h4, h5⟩ := h
  match j, hj with
  | 0, _ => exact h0
  | 1, _ => exact h1
  | 2, _ => exact h2
  | 3, _ => exact h3
  | 4, _ => exact h4
  | 5, _ => exact h5

set_option maxHeartbeats 2000000 in
theorem itemCompare_any (x y : It) (w : World) :
    Calls Try.prog 53 #[x.agg, y.agg] w fun e w' => e = .returned (.int .i64 (x.cmp y)) ∧ Below w.heap.size w w' := by
  unfold It.agg
  go_enter Try.func53, Try.ntmps53
  go_wp2
  go_region
  all_goals go_wp2
  · skip
    generalize hW : World.alloc _ _ = W0
    have hz : W0.heap.size = w.heap.size + 4 := by rw [← hW]; simp
    have HB0 : Below w.heap.size w W0 := by rw [← hW]; exact ((((Below.refl _ _).alloc (Nat.le_refl _) _).alloc (by simp) _).alloc (by simp; omega) _).alloc (by simp; omega) _
    have hz0 := HB0.size
    have f1 : W0.rangeAt (w.heap.size + 1 + 1) 0 x.c.plain.vals := by clear hz HB0 hz0; subst hW; refine range_cl ⟨?_, ?_, ?_, ?_, ?_, ?_⟩ <;> (go_simp; try rfl)
    have f2 : W0.rangeAt (w.heap.size + 1 + 1 + 1) 0 y.c.plain.vals := by clear hz HB0 hz0; subst hW; refine range_cl ⟨?_, ?_, ?_, ?_, ?_, ?_⟩ <;> (go_simp; try rfl)
    have f3 : W0.cell? ⟨w.heap.size, 6, none⟩ = some (.int .i64 x.pos) := by subst hW; go_simp
    have f4 : W0.cell? ⟨w.heap.size + 1, 6, none⟩ = some (.int .i64 y.pos) := by subst hW; go_simp
    clear hW
    obtain ⟨q, hq0⟩ : ∃ q, w.heap.size + 1 + 1 + 1 = q := ⟨_, rfl⟩
    rw [hq0] at f2 ⊢
    obtain ⟨p, hp0⟩ : ∃ p, w.heap.size + 1 + 1 = p := ⟨_, rfl⟩
    rw [hp0] at f1 ⊢
    have hp : p < W0.heap.size := by omega
    have hq : q < W0.heap.size := by omega
    clear hq0 hp0
    have HC : W0.drew.rangeAt p 0 x.c.plain.vals ∧ W0.drew.rangeAt q 0 y.c.plain.vals ∧ W0.drew.cell? ⟨w.heap.size, 6, none⟩ = some (.int .i64 x.pos) ∧ W0.drew.cell? ⟨w.heap.size + 1, 6, none⟩ = some (.int .i64 y.pos) := ⟨f1, f2, f3, f4⟩
    refine region_wz (fun W' => W'.rangeAt p 0 x.c.plain.vals ∧ W'.rangeAt q 0 y.c.plain.vals ∧ W'.cell? ⟨w.heap.size, 6, none⟩ = some (.int .i64 x.pos) ∧ W'.cell? ⟨w.heap.size + 1, 6, none⟩ = some (.int .i64 y.pos)) none (by kernel_rfl) ?_
    apply WZ.take (i := 0) (some 13) rfl rfl (by kernel_rfl) (by kernel_rfl) (by kernel_rfl) (calm_panic _) (by kernel_rfl)
    case hy => first | (apply yieldsIf_load_mid (by kernel_rfl) _ _ rfl _ _ rfl; (case hS => (intro W hC; exact (show World.rangeAt _ _ _ (Cl.vals _) from hC.1))); (case hu => exact Try.underlying53); (case hd => rfl); (case hi => kernel_rfl)) | (apply yieldsIf_load_mid (by kernel_rfl) _ _ rfl _ _ rfl; (case hS => (intro W hC; exact (show World.rangeAt _ _ _ (Cl.vals _) from hC.2.1))); (case hu => exact Try.underlying53); (case hd => rfl); (case hi => kernel_rfl)) | (apply yieldsIf_load_mid (by kernel_rfl) _ _ rfl _ _ rfl; (case hS => (intro W hC; exact (show World.rangeAt _ _ _ (Cl.vals _) from hC.2.2.1))); (case hu => exact Try.underlying53); (case hd => rfl); (case hi => kernel_rfl)) | (apply yieldsIf_load_mid (by kernel_rfl) _ _ rfl _ _ rfl; (case hS => (intro W hC; exact (show World.rangeAt _ _ _ (Cl.vals _) from hC.2.2.2.1))); (case hu => exact Try.underlying53); (case hd => rfl); (case hi => kernel_rfl)) | (apply yieldsIf_load_mid (by kernel_rfl) _ _ rfl _ _ rfl; (case hS => (intro W hC; exact (show World.rangeAt _ _ _ (Cl.vals _) from hC.2.2.2))); (case hu => exact Try.underlying53); (case hd => rfl); (case hi => kernel_rfl)) | (apply yieldsIf_load_mid (by kernel_rfl) _ _ rfl _ _ rfl; (case hS => (intro W hC; exact (show World.rangeAt _ _ _ (Cl.vals _) from hC.2.2))); (case hu => exact Try.underlying53); (case hd => rfl); (case hi => kernel_rfl)) | (apply yieldsIf_load_mid (by kernel_rfl) _ _ rfl _ _ rfl; (case hS => (intro W hC; exact (show World.rangeAt _ _ _ (Cl.vals _) from hC.2))); (case hu => exact Try.underlying53); (case hd => rfl); (case hi => kernel_rfl)) | (apply yieldsIf_load_mid (by kernel_rfl) _ _ rfl _ _ rfl; (case hS => (intro W hC; exact (show World.rangeAt _ _ _ (Cl.vals _) from hC))); (case hu => exact Try.underlying53); (case hd => rfl); (case hi => kernel_rfl))
    case hC => exact HC
    case ha => (simp only [Act.put, List.setIfInBounds_toArray, List.set_cons_zero, List.set_cons_succ]; rfl)
    apply WZ.take (i := 1) (some 14) rfl rfl (by kernel_rfl) (by kernel_rfl) (by kernel_rfl) (calm_panic _) (by kernel_rfl)
    case hy => first | (apply yieldsIf_load_mid (by kernel_rfl) _ _ rfl _ _ rfl; (case hS => (intro W hC; exact (show World.rangeAt _ _ _ (Cl.vals _) from hC.1))); (case hu => exact Try.underlying53); (case hd => rfl); (case hi => kernel_rfl)) | (apply yieldsIf_load_mid (by kernel_rfl) _ _ rfl _ _ rfl; (case hS => (intro W hC; exact (show World.rangeAt _ _ _ (Cl.vals _) from hC.2.1))); (case hu => exact Try.underlying53); (case hd => rfl); (case hi => kernel_rfl)) | (apply yieldsIf_load_mid (by kernel_rfl) _ _ rfl _ _ rfl; (case hS => (intro W hC; exact (show World.rangeAt _ _ _ (Cl.vals _) from hC.2.2.1))); (case hu => exact Try.underlying53); (case hd => rfl); (case hi => kernel_rfl)) | (apply yieldsIf_load_mid (by kernel_rfl) _ _ rfl _ _ rfl; (case hS => (intro W hC; exact (show World.rangeAt _ _ _ (Cl.vals _) from hC.2.2.2.1))); (case hu => exact Try.underlying53); (case hd => rfl); (case hi => kernel_rfl)) | (apply yieldsIf_load_mid (by kernel_rfl) _ _ rfl _ _ rfl; (case hS => (intro W hC; exact (show World.rangeAt _ _ _ (Cl.vals _) from hC.2.2.2))); (case hu => exact Try.underlying53); (case hd => rfl); (case hi => kernel_rfl)) | (apply yieldsIf_load_mid (by kernel_rfl) _ _ rfl _ _ rfl; (case hS => (intro W hC; exact (show World.rangeAt _ _ _ (Cl.vals _) from hC.2.2))); (case hu => exact Try.underlying53); (case hd => rfl); (case hi => kernel_rfl)) | (apply yieldsIf_load_mid (by kernel_rfl) _ _ rfl _ _ rfl; (case hS => (intro W hC; exact (show World.rangeAt _ _ _ (Cl.vals _) from hC.2))); (case hu => exact Try.underlying53); (case hd => rfl); (case hi => kernel_rfl)) | (apply yieldsIf_load_mid (by kernel_rfl) _ _ rfl _ _ rfl; (case hS => (intro W hC; exact (show World.rangeAt _ _ _ (Cl.vals _) from hC))); (case hu => exact Try.underlying53); (case hd => rfl); (case hi => kernel_rfl))
    case hC => exact HC
    case ha => (simp only [Act.put, List.setIfInBounds_toArray, List.set_cons_zero, List.set_cons_succ]; rfl)
    apply WZ.take (i := 3) (some 16) rfl rfl (by kernel_rfl) (by kernel_rfl) (by kernel_rfl) (calm_panic _) (by kernel_rfl)
    case hy => (refine .inl ⟨by kernel_rfl, fun W hC => ?_⟩; (try dsimp only at hC); go_simp; rfl)
    case hC => exact HC
    case ha => (simp only [Act.put, List.setIfInBounds_toArray, List.set_cons_zero, List.set_cons_succ]; rfl)
    apply WZ.take (i := 4) (some 17) rfl rfl (by kernel_rfl) (by kernel_rfl) (by kernel_rfl) (calm_panic _) (by kernel_rfl)
    case hy => (refine .inl ⟨by kernel_rfl, fun W hC => ?_⟩; (try dsimp only at hC); go_simp; rfl)
    case hC => exact HC
    case ha => (simp only [Act.put, List.setIfInBounds_toArray, List.set_cons_zero, List.set_cons_succ]; rfl)
    apply WZ.take (i := 5) (some 18) rfl rfl (by kernel_rfl) (by kernel_rfl) (by kernel_rfl) (calm_panic _) (by kernel_rfl)
    case hy => (refine .inl ⟨by kernel_rfl, fun W hC => ?_⟩; (try dsimp only at hC); go_simp; rfl)
    case hC => exact HC
    case ha => (simp only [Act.put, List.setIfInBounds_toArray, List.set_cons_zero, List.set_cons_succ]; rfl)
    apply WZ.take (i := 6) (some 19) rfl rfl (by kernel_rfl) (by kernel_rfl) (by kernel_rfl) (calm_panic _) (by kernel_rfl)
    case hy => (refine .inl ⟨by kernel_rfl, fun W hC => ?_⟩; (try dsimp only at hC); go_simp; rfl)
    case hC => exact HC
    case ha => (simp only [Act.put, List.setIfInBounds_toArray, List.set_cons_zero, List.set_cons_succ]; rfl)
    -- 2
    refine WZ.one (i := 2) rfl (by kernel_rfl) ?_
    conv => arg 4; arg 1; whnf
    go_wp2_with (go_at_call 59; refine (cmp_any x.c.plain y.c.plain _).mono ?_; rintro e w1 ⟨rfl, hb1⟩)
    have HB1 := HB0.trans ((below_of_drew' (below_of_drew' hb1)).mono hz0)
    have hz1 : W0.heap.size ≤ w1.heap.size := hb1.size
    have HC : w1.rangeAt p 0 x.c.plain.vals ∧ w1.rangeAt q 0 y.c.plain.vals ∧ w1.cell? ⟨w.heap.size, 6, none⟩ = some (.int .i64 x.pos) ∧ w1.cell? ⟨w.heap.size + 1, 6, none⟩ = some (.int .i64 y.pos) := ⟨rangeAt_below HC.1 (below_of_drew' hb1) hp, rangeAt_below HC.2.1 (below_of_drew' hb1) hq, (hb1.cell (p := ⟨_, _, none⟩) (show w.heap.size < W0.heap.size by omega)).trans HC.2.2.1, (hb1.cell (p := ⟨_, _, none⟩) (show w.heap.size + 1 < W0.heap.size by omega)).trans HC.2.2.2⟩
    refine ⟨HC, ?_⟩
    -- 7
    refine WZ.one (i := 7) rfl (by kernel_rfl) ?_
    conv => arg 4; arg 1; whnf
    go_wp2_with (go_at_call 60; refine (compareInt_any _ _ _).mono ?_; rintro e w2 ⟨rfl, rfl⟩)
    refine ⟨HC, ?_⟩
    -- 8
    refine WZ.one (i := 8) rfl (by kernel_rfl) ?_
    conv => arg 4; arg 1; whnf
    go_wp2
    have HC : (w1.alloc (.cells #[.int .i64 (x.c.plain.cmp y.c.plain), .int .i64 (numI y.pos x.pos)] 3)).rangeAt p 0 x.c.plain.vals ∧ (w1.alloc (.cells #[.int .i64 (x.c.plain.cmp y.c.plain), .int .i64 (numI y.pos x.pos)] 3)).rangeAt q 0 y.c.plain.vals ∧ (w1.alloc (.cells #[.int .i64 (x.c.plain.cmp y.c.plain), .int .i64 (numI y.pos x.pos)] 3)).cell? ⟨w.heap.size, 6, none⟩ = some (.int .i64 x.pos) ∧ (w1.alloc (.cells #[.int .i64 (x.c.plain.cmp y.c.plain), .int .i64 (numI y.pos x.pos)] 3)).cell? ⟨w.heap.size + 1, 6, none⟩ = some (.int .i64 y.pos) :=
      ⟨rangeAt_below HC.1 ((Below.refl _ _).alloc (Nat.le_refl _) _) (by omega), rangeAt_below HC.2.1 ((Below.refl _ _).alloc (Nat.le_refl _) _) (by omega), (World.cell?_alloc_lt w1 _ ⟨_, _, none⟩ (show w.heap.size < w1.heap.size by omega)).trans HC.2.2.1, (World.cell?_alloc_lt w1 _ ⟨_, _, none⟩ (show w.heap.size + 1 < w1.heap.size by omega)).trans HC.2.2.2⟩
    refine ⟨HC, ?_⟩
    -- 9
    refine WZ.one (i := 9) rfl (by kernel_rfl) ?_
    conv => arg 4; arg 1; whnf
    go_wp2_with (go_at_call 58; refine (or2_any _ (x.c.plain.cmp y.c.plain) (numI y.pos x.pos) _ ?_).mono ?_; (simp [World.cell?_alloc_at]); rintro e w3 ⟨rfl, rfl⟩)
    refine ⟨HC, ?_⟩
    apply WZ.take (i := 10) (some 4) rfl rfl (by kernel_rfl) (by kernel_rfl) (by kernel_rfl) (calm_panic _) (by kernel_rfl)
    case hy => (refine .inl ⟨by kernel_rfl, fun W hC => ?_⟩; (try dsimp only at hC); go_simp; rfl)
    case hC => exact HC
    case ha => (simp only [Act.put, List.setIfInBounds_toArray, List.set_cons_zero, List.set_cons_succ]; rfl)
    refine WZ.done (by kernel_rfl) ?_ _
    simp only [Calm, Exit.then]
    go_wp2
    go_ret
    exact ⟨rfl, HB1.alloc (by omega) _⟩
  · skip
    generalize hW : World.alloc _ _ = W0
    have hz : W0.heap.size = w.heap.size + 4 := by rw [← hW]; simp
    have HB0 : Below w.heap.size w W0 := by rw [← hW]; exact ((((Below.refl _ _).alloc (Nat.le_refl _) _).alloc (by simp) _).alloc (by simp; omega) _).alloc (by simp; omega) _
    have hz0 := HB0.size
    have f1 : W0.rangeAt (w.heap.size + 1 + 1) 0 y.c.plain.vals := by clear hz HB0 hz0; subst hW; refine range_cl ⟨?_, ?_, ?_, ?_, ?_, ?_⟩ <;> (go_simp; try rfl)
    have f2 : W0.rangeAt (w.heap.size + 1 + 1 + 1) 0 x.c.plain.vals := by clear hz HB0 hz0; subst hW; refine range_cl ⟨?_, ?_, ?_, ?_, ?_, ?_⟩ <;> (go_simp; try rfl)
    have f3 : W0.cell? ⟨w.heap.size, 6, none⟩ = some (.int .i64 x.pos) := by subst hW; go_simp
    have f4 : W0.cell? ⟨w.heap.size + 1, 6, none⟩ = some (.int .i64 y.pos) := by subst hW; go_simp
    clear hW
    obtain ⟨p, hp0⟩ : ∃ p, w.heap.size + 1 + 1 + 1 = p := ⟨_, rfl⟩
    rw [hp0] at f2 ⊢
    obtain ⟨q, hq0⟩ : ∃ q, w.heap.size + 1 + 1 = q := ⟨_, rfl⟩
    rw [hq0] at f1 ⊢
    have hp : p < W0.heap.size := by omega
    have hq : q < W0.heap.size := by omega
    clear hq0 hp0
    have HC : W0.drew.rangeAt p 0 x.c.plain.vals ∧ W0.drew.rangeAt q 0 y.c.plain.vals ∧ W0.drew.cell? ⟨w.heap.size, 6, none⟩ = some (.int .i64 x.pos) ∧ W0.drew.cell? ⟨w.heap.size + 1, 6, none⟩ = some (.int .i64 y.pos) := ⟨f2, f1, f3, f4⟩
    refine region_wz (fun W' => W'.rangeAt p 0 x.c.plain.vals ∧ W'.rangeAt q 0 y.c.plain.vals ∧ W'.cell? ⟨w.heap.size, 6, none⟩ = some (.int .i64 x.pos) ∧ W'.cell? ⟨w.heap.size + 1, 6, none⟩ = some (.int .i64 y.pos)) none (by kernel_rfl) ?_
    apply WZ.take (i := 0) (some 13) rfl rfl (by kernel_rfl) (by kernel_rfl) (by kernel_rfl) (calm_panic _) (by kernel_rfl)
    case hy => first | (apply yieldsIf_load_mid (by kernel_rfl) _ _ rfl _ _ rfl; (case hS => (intro W hC; exact (show World.rangeAt _ _ _ (Cl.vals _) from hC.1))); (case hu => exact Try.underlying53); (case hd => rfl); (case hi => kernel_rfl)) | (apply yieldsIf_load_mid (by kernel_rfl) _ _ rfl _ _ rfl; (case hS => (intro W hC; exact (show World.rangeAt _ _ _ (Cl.vals _) from hC.2.1))); (case hu => exact Try.underlying53); (case hd => rfl); (case hi => kernel_rfl)) | (apply yieldsIf_load_mid (by kernel_rfl) _ _ rfl _ _ rfl; (case hS => (intro W hC; exact (show World.rangeAt _ _ _ (Cl.vals _) from hC.2.2.1))); (case hu => exact Try.underlying53); (case hd => rfl); (case hi => kernel_rfl)) | (apply yieldsIf_load_mid (by kernel_rfl) _ _ rfl _ _ rfl; (case hS => (intro W hC; exact (show World.rangeAt _ _ _ (Cl.vals _) from hC.2.2.2.1))); (case hu => exact Try.underlying53); (case hd => rfl); (case hi => kernel_rfl)) | (apply yieldsIf_load_mid (by kernel_rfl) _ _ rfl _ _ rfl; (case hS => (intro W hC; exact (show World.rangeAt _ _ _ (Cl.vals _) from hC.2.2.2))); (case hu => exact Try.underlying53); (case hd => rfl); (case hi => kernel_rfl)) | (apply yieldsIf_load_mid (by kernel_rfl) _ _ rfl _ _ rfl; (case hS => (intro W hC; exact (show World.rangeAt _ _ _ (Cl.vals _) from hC.2.2))); (case hu => exact Try.underlying53); (case hd => rfl); (case hi => kernel_rfl)) | (apply yieldsIf_load_mid (by kernel_rfl) _ _ rfl _ _ rfl; (case hS => (intro W hC; exact (show World.rangeAt _ _ _ (Cl.vals _) from hC.2))); (case hu => exact Try.underlying53); (case hd => rfl); (case hi => kernel_rfl)) | (apply yieldsIf_load_mid (by kernel_rfl) _ _ rfl _ _ rfl; (case hS => (intro W hC; exact (show World.rangeAt _ _ _ (Cl.vals _) from hC))); (case hu => exact Try.underlying53); (case hd => rfl); (case hi => kernel_rfl))
    case hC => exact HC
    case ha => (simp only [Act.put, List.setIfInBounds_toArray, List.set_cons_zero, List.set_cons_succ]; rfl)
    apply WZ.take (i := 1) (some 14) rfl rfl (by kernel_rfl) (by kernel_rfl) (by kernel_rfl) (calm_panic _) (by kernel_rfl)
    case hy => first | (apply yieldsIf_load_mid (by kernel_rfl) _ _ rfl _ _ rfl; (case hS => (intro W hC; exact (show World.rangeAt _ _ _ (Cl.vals _) from hC.1))); (case hu => exact Try.underlying53); (case hd => rfl); (case hi => kernel_rfl)) | (apply yieldsIf_load_mid (by kernel_rfl) _ _ rfl _ _ rfl; (case hS => (intro W hC; exact (show World.rangeAt _ _ _ (Cl.vals _) from hC.2.1))); (case hu => exact Try.underlying53); (case hd => rfl); (case hi => kernel_rfl)) | (apply yieldsIf_load_mid (by kernel_rfl) _ _ rfl _ _ rfl; (case hS => (intro W hC; exact (show World.rangeAt _ _ _ (Cl.vals _) from hC.2.2.1))); (case hu => exact Try.underlying53); (case hd => rfl); (case hi => kernel_rfl)) | (apply yieldsIf_load_mid (by kernel_rfl) _ _ rfl _ _ rfl; (case hS => (intro W hC; exact (show World.rangeAt _ _ _ (Cl.vals _) from hC.2.2.2.1))); (case hu => exact Try.underlying53); (case hd => rfl); (case hi => kernel_rfl)) | (apply yieldsIf_load_mid (by kernel_rfl) _ _ rfl _ _ rfl; (case hS => (intro W hC; exact (show World.rangeAt _ _ _ (Cl.vals _) from hC.2.2.2))); (case hu => exact Try.underlying53); (case hd => rfl); (case hi => kernel_rfl)) | (apply yieldsIf_load_mid (by kernel_rfl) _ _ rfl _ _ rfl; (case hS => (intro W hC; exact (show World.rangeAt _ _ _ (Cl.vals _) from hC.2.2))); (case hu => exact Try.underlying53); (case hd => rfl); (case hi => kernel_rfl)) | (apply yieldsIf_load_mid (by kernel_rfl) _ _ rfl _ _ rfl; (case hS => (intro W hC; exact (show World.rangeAt _ _ _ (Cl.vals _) from hC.2))); (case hu => exact Try.underlying53); (case hd => rfl); (case hi => kernel_rfl)) | (apply yieldsIf_load_mid (by kernel_rfl) _ _ rfl _ _ rfl; (case hS => (intro W hC; exact (show World.rangeAt _ _ _ (Cl.vals _) from hC))); (case hu => exact Try.underlying53); (case hd => rfl); (case hi => kernel_rfl))
    case hC => exact HC
    case ha => (simp only [Act.put, List.setIfInBounds_toArray, List.set_cons_zero, List.set_cons_succ]; rfl)
    apply WZ.take (i := 3) (some 16) rfl rfl (by kernel_rfl) (by kernel_rfl) (by kernel_rfl) (calm_panic _) (by kernel_rfl)
    case hy => (refine .inl ⟨by kernel_rfl, fun W hC => ?_⟩; (try dsimp only at hC); go_simp; rfl)
    case hC => exact HC
    case ha => (simp only [Act.put, List.setIfInBounds_toArray, List.set_cons_zero, List.set_cons_succ]; rfl)
    apply WZ.take (i := 4) (some 17) rfl rfl (by kernel_rfl) (by kernel_rfl) (by kernel_rfl) (calm_panic _) (by kernel_rfl)
    case hy => (refine .inl ⟨by kernel_rfl, fun W hC => ?_⟩; (try dsimp only at hC); go_simp; rfl)
    case hC => exact HC
    case ha => (simp only [Act.put, List.setIfInBounds_toArray, List.set_cons_zero, List.set_cons_succ]; rfl)
    apply WZ.take (i := 5) (some 18) rfl rfl (by kernel_rfl) (by kernel_rfl) (by kernel_rfl) (calm_panic _) (by kernel_rfl)
    case hy => (refine .inl ⟨by kernel_rfl, fun W hC => ?_⟩; (try dsimp only at hC); go_simp; rfl)
    case hC => exact HC
    case ha => (simp only [Act.put, List.setIfInBounds_toArray, List.set_cons_zero, List.set_cons_succ]; rfl)
    apply WZ.take (i := 6) (some 19) rfl rfl (by kernel_rfl) (by kernel_rfl) (by kernel_rfl) (calm_panic _) (by kernel_rfl)
    case hy => (refine .inl ⟨by kernel_rfl, fun W hC => ?_⟩; (try dsimp only at hC); go_simp; rfl)
    case hC => exact HC
    case ha => (simp only [Act.put, List.setIfInBounds_toArray, List.set_cons_zero, List.set_cons_succ]; rfl)
    -- 2
    refine WZ.one (i := 2) rfl (by kernel_rfl) ?_
    conv => arg 4; arg 1; whnf
    go_wp2_with (go_at_call 59; refine (cmp_any x.c.plain y.c.plain _).mono ?_; rintro e w1 ⟨rfl, hb1⟩)
    have HB1 := HB0.trans ((below_of_drew' (below_of_drew' hb1)).mono hz0)
    have hz1 : W0.heap.size ≤ w1.heap.size := hb1.size
    have HC : w1.rangeAt p 0 x.c.plain.vals ∧ w1.rangeAt q 0 y.c.plain.vals ∧ w1.cell? ⟨w.heap.size, 6, none⟩ = some (.int .i64 x.pos) ∧ w1.cell? ⟨w.heap.size + 1, 6, none⟩ = some (.int .i64 y.pos) := ⟨rangeAt_below HC.1 (below_of_drew' hb1) hp, rangeAt_below HC.2.1 (below_of_drew' hb1) hq, (hb1.cell (p := ⟨_, _, none⟩) (show w.heap.size < W0.heap.size by omega)).trans HC.2.2.1, (hb1.cell (p := ⟨_, _, none⟩) (show w.heap.size + 1 < W0.heap.size by omega)).trans HC.2.2.2⟩
    refine ⟨HC, ?_⟩
    -- 7
    refine WZ.one (i := 7) rfl (by kernel_rfl) ?_
    conv => arg 4; arg 1; whnf
    go_wp2_with (go_at_call 60; refine (compareInt_any _ _ _).mono ?_; rintro e w2 ⟨rfl, rfl⟩)
    refine ⟨HC, ?_⟩
    -- 8
    refine WZ.one (i := 8) rfl (by kernel_rfl) ?_
    conv => arg 4; arg 1; whnf
    go_wp2
    have HC : (w1.alloc (.cells #[.int .i64 (x.c.plain.cmp y.c.plain), .int .i64 (numI y.pos x.pos)] 3)).rangeAt p 0 x.c.plain.vals ∧ (w1.alloc (.cells #[.int .i64 (x.c.plain.cmp y.c.plain), .int .i64 (numI y.pos x.pos)] 3)).rangeAt q 0 y.c.plain.vals ∧ (w1.alloc (.cells #[.int .i64 (x.c.plain.cmp y.c.plain), .int .i64 (numI y.pos x.pos)] 3)).cell? ⟨w.heap.size, 6, none⟩ = some (.int .i64 x.pos) ∧ (w1.alloc (.cells #[.int .i64 (x.c.plain.cmp y.c.plain), .int .i64 (numI y.pos x.pos)] 3)).cell? ⟨w.heap.size + 1, 6, none⟩ = some (.int .i64 y.pos) :=
      ⟨rangeAt_below HC.1 ((Below.refl _ _).alloc (Nat.le_refl _) _) (by omega), rangeAt_below HC.2.1 ((Below.refl _ _).alloc (Nat.le_refl _) _) (by omega), (World.cell?_alloc_lt w1 _ ⟨_, _, none⟩ (show w.heap.size < w1.heap.size by omega)).trans HC.2.2.1, (World.cell?_alloc_lt w1 _ ⟨_, _, none⟩ (show w.heap.size + 1 < w1.heap.size by omega)).trans HC.2.2.2⟩
    refine ⟨HC, ?_⟩
    -- 9
    refine WZ.one (i := 9) rfl (by kernel_rfl) ?_
    conv => arg 4; arg 1; whnf
    go_wp2_with (go_at_call 58; refine (or2_any _ (x.c.plain.cmp y.c.plain) (numI y.pos x.pos) _ ?_).mono ?_; (simp [World.cell?_alloc_at]); rintro e w3 ⟨rfl, rfl⟩)
    refine ⟨HC, ?_⟩
    apply WZ.take (i := 10) (some 4) rfl rfl (by kernel_rfl) (by kernel_rfl) (by kernel_rfl) (calm_panic _) (by kernel_rfl)
    case hy => (refine .inl ⟨by kernel_rfl, fun W hC => ?_⟩; (try dsimp only at hC); go_simp; rfl)
    case hC => exact HC
    case ha => (simp only [Act.put, List.setIfInBounds_toArray, List.set_cons_zero, List.set_cons_succ]; rfl)
    refine WZ.done (by kernel_rfl) ?_ _
    simp only [Calm, Exit.then]
    go_wp2
    go_ret
    exact ⟨rfl, HB1.alloc (by omega) _⟩
end Go.Proofs.Ytflppcgonbjnmaa
namespace Go.Proofs.Ytflppcgonbjnmaa
open Go.RowKit
attribute [local go_sem ↓] Go.wp_at_zero Go.wp_at_succ

/-- one row, one column, one time -/
def Cl.same (a b : Cl) : Bool := decide (a.row = b.row ∧ a.col = b.col ∧ a.ts = b.ts)
theorem same_move (a b : Cl) : decide ({ a with seq := b.seq, del := b.del, val := b.val } = b) = a.same b := by
  unfold Cl.same
  rw [Bool.eq_iff_iff, decide_eq_true_iff, decide_eq_true_iff]
  obtain ⟨r, c, t, s, d, v⟩ := a
  obtain ⟨r', c', t', s', d', v'⟩ := b
  simp

theorem same_1 {x y : Cl} (h : x.row.toList = y.row.toList) (k : x.col.toList = y.col.toList) : ((x.ts : Int) == (y.ts : Int)) = x.same y := by
  unfold Cl.same
  rw [Bool.eq_iff_iff, beq_iff_eq, decide_eq_true_iff]
  exact ⟨fun e => ⟨toList_inj h, toList_inj k, Int.ofNat.inj e⟩, fun e => congrArg _ e.2.2⟩
theorem same_2 {x y : Cl} (k : ¬ x.col.toList = y.col.toList) : false = x.same y := by
  symm
  unfold Cl.same
  rw [decide_eq_false_iff_not]
  exact fun e => k (by rw [e.2.1])
theorem same_3 {x y : Cl} (k : ¬ x.row.toList = y.row.toList) : false = x.same y := by
  symm
  unfold Cl.same
  rw [decide_eq_false_iff_not]
  exact fun e => k (by rw [e.1])
theorem below2' (w : World) (o p : Obj) : Below w.heap.size w ((w.alloc o).alloc p) := ((Below.refl _ _).alloc (Nat.le_refl _) _).alloc (by simp) _

set_option maxHeartbeats 2000000 in
theorem cellSame_any (x y : Cl) (w : World) :
    Calls Try.prog 36 #[x.agg, y.agg] w fun e w' => e = .returned (.bool (x.same y)) ∧ Below w.heap.size w w' := by
  have hq := eql_cell { x with seq := y.seq, del := y.del, val := y.val } y
  rw [same_move] at hq
  unfold Cl.agg at hq ⊢
  dsimp only at hq
  go_enter Try.func36, Try.ntmps36
  go_wp2
  go_region
  go_wp2
  go_ret
  exact ⟨rfl, (below2' w _ _).drew⟩

set_option maxHeartbeats 1000000 in
theorem refSame_any (x y : Cl) (w : World) :
    Calls Try.prog 23 #[x.agg, y.agg] w fun e w' => e = .returned (.bool (x.same y)) ∧ Below w.heap.size w w' := by
  unfold Cl.agg
  go_enter Try.func23, Try.ntmps23
  go_wp2
  · go_ret; exact ⟨ret_bool (same_1 ‹_› ‹_›), below2' w _ _⟩
  · go_ret; exact ⟨ret_bool (same_2 ‹_›), below2' w _ _⟩
  · go_ret; exact ⟨ret_bool (same_3 ‹_›), below2' w _ _⟩

set_option maxHeartbeats 1000000 in
theorem itemSame_any (x y : It) (w : World) :
    Calls Try.prog 55 #[x.agg, y.agg] w fun e w' => e = .returned (.bool (x.c.same y.c)) ∧ Below w.heap.size w w' := by
  unfold It.agg
  go_enter Try.func55, Try.ntmps55
  go_wp2_with (go_at_call 36; refine (cellSame_any x.c y.c _).mono ?_; rintro e w1 ⟨rfl, hb1⟩)
  go_ret
  exact ⟨rfl, (below2' w _ _).trans (hb1.mono (by simp; omega))⟩

set_option maxHeartbeats 1000000 in
theorem runsCmp_any (x y : It) (w : World) :
    Calls Try.prog 91 #[x.agg, y.agg] w fun e w' => e = .returned (.int .i64 (x.cmp y)) ∧ Below w.heap.size w w' := by
  unfold It.agg
  go_enter Try.func91, Try.ntmps91
  go_wp2_with (go_at_call 53; refine (itemCompare_any x y _).mono ?_; rintro e w1 ⟨rfl, hb1⟩)
  go_ret
  exact ⟨rfl, (below2' w _ _).trans (hb1.mono (by simp; omega))⟩

theorem icmp_eq (x y : It) : x.cmp y = if x.c.plain.cmp y.c.plain = 0 then numI y.pos x.pos else x.c.plain.cmp y.c.plain := by
  unfold It.cmp
  rw [first_cons, first_cons, first_nil]
  by_cases h : x.c.plain.cmp y.c.plain = 0
  · rw [if_pos h, if_pos h]
    split
    · rename_i h; exact h.symm
    · rfl
  · rw [if_neg h, if_neg h]
theorem icmp_1 {x y : It} (h : (x.c.plain.cmp y.c.plain != 0) = true) : x.c.plain.cmp y.c.plain = x.cmp y := by
  rw [icmp_eq, if_neg (by simpa using h)]
theorem icmp_2 {x y : It} (h : (x.c.plain.cmp y.c.plain != 0) = false) (k : y.pos < x.pos) : -1 = x.cmp y := by
  rw [icmp_eq, if_pos (by simpa using h), numI, if_pos k]
theorem icmp_3 {x y : It} (h : (x.c.plain.cmp y.c.plain != 0) = false) (k : x.pos < y.pos) : 1 = x.cmp y := by
  rw [icmp_eq, if_pos (by simpa using h), numI, if_neg (by omega), if_pos k]
theorem icmp_4 {x y : It} (h : (x.c.plain.cmp y.c.plain != 0) = false) (k : x.pos ≤ y.pos) (l : y.pos ≤ x.pos) : 0 = x.cmp y := by
  rw [icmp_eq, if_pos (by simpa using h), numI, if_neg (by omega), if_neg (by omega)]
theorem below4' (w : World) (o p q r : Obj) : Below w.heap.size w ((((w.alloc o).alloc p).alloc q).alloc r) := ((below2' w o p).alloc (by simp; omega) q).alloc (by simp; omega) r
set_option maxHeartbeats 2000000 in
theorem ref08Cmp_any (x y : It) (w : World) :
    Calls Try.prog 24 #[x.agg, y.agg] w fun e w' => e = .returned (.int .i64 (x.cmp y)) ∧ Below w.heap.size w w' := by
  unfold It.agg
  go_enter Try.func24, Try.ntmps24
  go_wp2_with fail
  go_at_call 38
  refine (refCmp_any x.c.plain y.c.plain _).mono ?_
  rintro e w1 ⟨rfl, hb1⟩
  have p1 : w1.cell? ⟨w.heap.size, 6, none⟩ = some (.int .i64 x.pos) := (hb1.cell (p := ⟨w.heap.size, 6, none⟩) (by simp <;> omega)).trans (by clear hb1; go_simp)
  have p2 : w1.cell? ⟨w.heap.size + 1, 6, none⟩ = some (.int .i64 y.pos) := (hb1.cell (p := ⟨w.heap.size + 1, 6, none⟩) (by simp <;> omega)).trans (by clear hb1 p1; go_simp)
  have hB : Below w.heap.size w w1 := (below4' w _ _ _ _).trans (hb1.mono (by simp; omega))
  clear hb1
  go_wp2
  · go_ret; exact ⟨ret_int (icmp_1 ‹_›), hB⟩
  · go_ret; exact ⟨ret_int (icmp_2 ‹_› ‹_›), hB⟩
  · go_ret; exact ⟨ret_int (icmp_3 ‹_› ‹_›), hB⟩
  · go_ret; exact ⟨ret_int (icmp_4 ‹_› ‹_› ‹_›), hB⟩
end Go.Proofs.Ytflppcgonbjnmaa
