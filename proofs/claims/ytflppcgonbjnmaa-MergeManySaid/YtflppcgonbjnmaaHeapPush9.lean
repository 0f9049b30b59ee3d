/-
  The walks of the sources' Push and Pop, and of the heap's. No conditions.
-/
import Derived.Test.YtflppcgonbjnmaaHeapDown9
import Derived.Test.YtflppcgonbjnmaaJB
namespace Go.Proofs.Ytflppcgonbjnmaa
open Go.RowKit
attribute [local go_sem ↓] Go.wp_at_zero Go.wp_at_succ

/-- what is not the heap's variable, nor its row, stays -/
structure Kp (w w' : World) (Hb g : Nat) : Prop where
  os : w'.os = w.os
  tape : w'.tape = w.tape
  output : w'.output = w.output
  size : w.heap.size ≤ w'.heap.size
  block : ∀ k, k < w.heap.size → k ≠ Hb → k ≠ g → w'.heap[k]? = w.heap[k]?
section
variable {w w' w'' : World} {Hb g g' : Nat}
theorem Kp.row (h : w.grownBy w' (some g)) : Kp w w' Hb g := ⟨h.os, h.tape, h.output, h.size, fun k hk _ hg => h.block k hk (fun e => hg (by injection e))⟩
theorem Kp.var (h : w.grownBy w' (some Hb)) : Kp w w' Hb g := ⟨h.os, h.tape, h.output, h.size, fun k hk hh _ => h.block k hk (fun e => hh (by injection e))⟩
theorem Kp.below (h : Below w.heap.size w w') : Kp w w' Hb g := ⟨h.os, h.tape, h.output, h.size, fun k hk _ _ => h.block k hk⟩
theorem Kp.trans (h : Kp w w' Hb g) (k : Kp w' w'' Hb g') (hg : g' = g ∨ w.heap.size ≤ g') : Kp w w'' Hb g :=
  ⟨k.os.trans h.os, k.tape.trans h.tape, k.output.trans h.output, Nat.le_trans h.size k.size, fun j hj h1 h2 => (k.block j (Nat.lt_of_lt_of_le hj h.size) h1 (by rcases hg with rfl | hg <;> omega)).trans (h.block j hj h1 h2)⟩
end
theorem sourceInfo : (Try.prog.info? 78).map (fun i => (i.zero, i.size, i.bytes)) = some (some (.agg #[.pointer none, .int .i64 0]), 2, 16) := by kernel_rfl
theorem qvs_one (l : List Qs) : ∀ u ∈ qvs l, u.oneCell' = true := by
  intro u hu
  obtain ⟨s, _, hs⟩ := List.mem_flatMap.1 hu
  exact Qs.one s u hs
/-- two rows of unlike types are two rows -/
theorem row_ne {w : World} {g q : Nat} {l : List Qs} {S : Nat} {v : Value} {e : TypeId} (h : Arr Qs.vals 2 w g 78 S l) (hb : Box w q e v) (he : e ≠ 78) : q ≠ g := by
  rintro rfl
  obtain ⟨cur, hc, _⟩ := h.cur
  unfold Box at hb
  rw [hb] at hc
  injection hc with hc
  injection hc with _ hc
  exact he hc
set_option maxRecDepth 20000 in
set_option maxHeartbeats 4000000 in
theorem srcPush_any (B Hb g n c : Nat) (l : List Qs) (s : Qs) (w : World) (h : HSt w B Hb g n c l) (hs : s.In w B) (hmx : n ≤ 1000000) :
    Calls Try.prog 89 #[.pointer (some ⟨Hb, 0, none⟩), .iface 78 (.agg s.vals.toArray)] w fun e w' => e = .returned (.tuple #[]) ∧ ∃ g' c', HSt w' B Hb g' (n + 1) c' (l ++ [s]) ∧ Kp w w' Hb g ∧ (g' = g ∨ w.heap.size ≤ g') := by
  have HH := Lib.hid h
  have HS := Lib.hid hs
  have c0 := h.box.cell
  have f0 := h.box.free
  have HC : w.drew.cell? ⟨Hb, 0, none⟩ = some (.slice (some ⟨g, 0, none⟩) n c) := c0
  have hta : ∀ W : World, (Instr.typeAssert (.iface 78 (.agg #[.pointer (some ⟨s.q, 0, none⟩), .int .i64 s.at_])) 20 78 false).run Try.prog W = .ok (.agg #[.pointer (some ⟨s.q, 0, none⟩), .int .i64 s.at_]) W := fun W => by kernel_rfl
  obtain ⟨i0, hi0, hz0, hz1, hz2⟩ := info_parts sourceInfo
  have HOW := Lib.hid (show Own w B 78 2 (some ⟨g, 0, none⟩) n c (qvs l) by have := Arr.own Qs.vals_len (by omega) h.arr h.gb (by rw [h.len]; exact h.cp) h.cm; rw [h.len] at this; exact this)
  have HNEW := Lib.hid (show ∀ j (hj : j < s.vals.length), (w.alloc (.cells #[.pointer (some ⟨s.q, 0, none⟩), .int .i64 s.at_] 78)).cell? ⟨w.heap.size, 0 + j, none⟩ = some s.vals[j] from fun j hj => by
    rw [Nat.zero_add, cell_of_row _ _ j _ _ (0, 0) (heap_alloc_new w _)]
    match j, hj with
    | 0, _ => rfl
    | 1, _ => rfl)
  clear h hs
  unfold Qs.vals
  go_enter Try.func89, Try.ntmps89
  refine region_wz (fun W => W.cell? ⟨Hb, 0, none⟩ = some (.slice (some ⟨g, 0, none⟩) n c)) (some 9) (by kernel_rfl) ?_
  apply WZ.take (i := 0) (some 4) rfl rfl (by kernel_rfl) (by kernel_rfl) (by kernel_rfl) (calm_panic _) (by kernel_rfl)
  case hy => (refine .inl ⟨by kernel_rfl, fun W hC => ?_⟩; (try dsimp only at hC); go_simp; rfl)
  case hC => exact HC
  case ha => (simp only [Act.put, List.setIfInBounds_toArray, List.set_cons_zero, List.set_cons_succ]; rfl)
  apply WZ.take (i := 1) (some 5) rfl rfl (by kernel_rfl) (by kernel_rfl) (by kernel_rfl) (calm_panic _) (by kernel_rfl)
  case hy => (refine .inl ⟨by kernel_rfl, fun W hC => ?_⟩; (try dsimp only at hC); go_simp; rfl)
  case hC => exact HC
  case ha => (simp only [Act.put, List.setIfInBounds_toArray, List.set_cons_zero, List.set_cons_succ]; rfl)
  apply WZ.take (i := 2) (some 6) rfl rfl (by kernel_rfl) (by kernel_rfl) (by kernel_rfl) (calm_panic _) (by kernel_rfl)
  case hy => (refine .inl ⟨by kernel_rfl, fun W hC => ?_⟩; (try dsimp only at hC); go_simp; rfl)
  case hC => exact HC
  case ha => (simp only [Act.put, List.setIfInBounds_toArray, List.set_cons_zero, List.set_cons_succ]; rfl)
  apply WZ.take (i := 3) (some 7) rfl rfl (by kernel_rfl) (by kernel_rfl) (by kernel_rfl) (calm_panic _) (by kernel_rfl)
  case hy => (refine .inl ⟨by kernel_rfl, fun W hC => ?_⟩; (try dsimp only at hC); go_simp; rfl)
  case hC => exact HC
  case ha => (simp only [Act.put, List.setIfInBounds_toArray, List.set_cons_zero, List.set_cons_succ]; rfl)
  apply WZ.take (i := 4) (some 8) rfl rfl (by kernel_rfl) (by kernel_rfl) (by kernel_rfl) (calm_panic _) (by kernel_rfl)
  case hy => (refine .inl ⟨by kernel_rfl, fun W hC => ?_⟩; (try dsimp only at hC); go_simp; rfl)
  case hC => exact HC
  case ha => (simp only [Act.put, List.setIfInBounds_toArray, List.set_cons_zero, List.set_cons_succ]; rfl)
  apply WZ.take (i := 5) (some 9) rfl rfl (by kernel_rfl) (by kernel_rfl) (by kernel_rfl) (calm_panic _) (by kernel_rfl)
  case hy => (refine .inl ⟨by kernel_rfl, fun W hC => ?_⟩; (try dsimp only at hC); go_simp; rfl)
  case hC => exact HC
  case ha => (simp only [Act.put, List.setIfInBounds_toArray, List.set_cons_zero, List.set_cons_succ]; rfl)
  -- 6
  refine WZ.one (i := 6) rfl (by kernel_rfl) ?_
  conv => arg 4; arg 1; whnf
  go_wp2_with fail
  have c1 : (w.alloc (.cells #[.pointer (some ⟨s.q, 0, none⟩), .int .i64 s.at_] 78)).cell? ⟨Hb, 0, none⟩ = some (.slice (some ⟨g, 0, none⟩) n c) := (HH.out.box.alloc _).cell
  clear HC
  have HC := c1
  refine ⟨HC, ?_⟩
  -- 7
  refine WZ.one (i := 7) rfl (by kernel_rfl) ?_
  conv => arg 4; arg 1; whnf
  go_wp2_with (at_builtin; go_loud (refine wpList_app_g rfl _ _ 72 rfl B 78 i0 (.agg #[.pointer none, .int .i64 0]) 2 16 Try.underlying72 hi0 hz0 hz1 hz2 rfl (by decide) (some ⟨g, 0, none⟩) n c (qvs l) rfl (Own.alloc HOW.out _) (w.heap.size + 1) (some ⟨w.heap.size, 0, none⟩) 1 1 s.vals rfl (fun _ => ⟨w.heap.size, 0, rfl, by omega, fun j hj => HNEW.out j hj⟩) rfl (Qs.one s) (by unfold maxLen; omega) (by omega) (by refine Nat.le_trans ?_ (show w.heap.size ≤ (w.alloc _).heap.size from by rw [World.size_alloc]; omega); have := HH.out.arr.lt; have := HH.out.gb; omega) ?_); intro A' c' w2 ho hg hw; have HO := Lib.hid (show Own w2 B 78 2 A' (n + 1) c' (qvs (l ++ [s])) by rw [show qvs (l ++ [s]) = qvs l ++ s.vals by simp [qvs]]; exact ho); have HG := Lib.hid (show (w.alloc (.cells #[.pointer (some ⟨s.q, 0, none⟩), .int .i64 s.at_] 78)).grownBy w2 (some g) from ⟨hg.os, hg.tape, hg.output, hg.size, hg.block⟩); have HW := Lib.hid hw; clear ho hg hw)
  have hbx : Box w2 Hb 72 (.slice (some ⟨g, 0, none⟩) n c) := (HH.out.box.alloc _).grown HG.out (fun e => by injection e with e; exact HH.out.nh e)
  have c2 := hbx.cell
  have f2 := hbx.free
  clear HC hbx
  have HC := c2
  refine ⟨HC, ?_⟩
  apply WZ.take (i := 8) (some 12) rfl rfl (by kernel_rfl) (by kernel_rfl) (by kernel_rfl) (calm_panic _) (by kernel_rfl)
  case hy => (refine .inl ⟨by kernel_rfl, fun W hC => ?_⟩; (try dsimp only at hC); go_simp; rfl)
  case hC => exact HC
  case ha => (simp only [Act.put, List.setIfInBounds_toArray, List.set_cons_zero, List.set_cons_succ]; rfl)
  -- 9
  refine WZ.last (i := 9) rfl (by kernel_rfl) (by kernel_rfl) ?_
  conv => arg 4; arg 1; whnf
  go_wp2
  refine WZ.done (by kernel_rfl) ?_ _
  simp only [Calm, Exit.then]
  go_end0
  obtain ⟨g', S', rfl, hb', hS', hnc', hcm', hl', ha'⟩ := Own.arr Qs.vals_len HO.out (by omega) (by omega)
  subst hS'
  have hbx : Box w2 Hb 72 (.slice (some ⟨g, 0, none⟩) n c) := (HH.out.box.alloc _).grown HG.out (fun e => by injection e with e; exact HH.out.nh e)
  have hbx2 := hbx.set (.slice (some ⟨g', 0, none⟩) (n + 1) c')
  have hne : Hb ≠ g' := row_ne ha' hbx (by decide)
  have hg2 : w2.grownBy (w2.setCell ⟨Hb, 0, none⟩ (.slice (some ⟨g', 0, none⟩) (n + 1) c')) (some Hb) := ⟨rfl, rfl, rfl, by simp [World.setCell], fun k _ hk => heap_setCell_other w2 ⟨Hb, 0, none⟩ k _ (fun e => hk (by simp [e]))⟩
  have ha2 : Arr Qs.vals 2 (w2.setCell ⟨Hb, 0, none⟩ (.slice (some ⟨g', 0, none⟩) (n + 1) c')) g' 78 (c' * 2) (l ++ [s]) := ha'.keep (hg2.block g' ha'.lt (fun e => by injection e with e; exact hne e.symm))
  have hin2 : ∀ x ∈ l ++ [s], x.In w2 B := fun x hx => by
    have hx0 : x.In w B := by
      rcases List.mem_append.1 hx with hx | hx
      · exact HH.out.ins x hx
      · rw [List.mem_singleton.1 hx]; exact HS.out
    have hxg : x.q ≠ g := by
      obtain ⟨A, cc, h1, _⟩ := hx0
      exact row_ne HH.out.arr h1 (by decide)
    exact (hx0.below ((Below.refl _ w).alloc (Nat.le_refl _) _)).grown HG.out hxg HH.out.gb
  have hin3 : ∀ x ∈ l ++ [s], x.In (w2.setCell ⟨Hb, 0, none⟩ (.slice (some ⟨g', 0, none⟩) (n + 1) c')) B := fun x hx => by
    refine (hin2 x hx).grown hg2 ?_ HH.out.hb
    obtain ⟨A, cc, h1, _⟩ := hin2 x hx
    rintro e
    rw [e] at h1
    unfold Box at h1 hbx
    rw [hbx] at h1
    injection h1 with h1
    injection h1 with _ h1
    exact absurd h1 (by decide)
  refine ⟨rfl, g', c', ⟨hbx2, ha2, hl', hin3, fun x hx => ?_, hne, hb', hnc', hcm', HH.out.hb⟩, ?_, ?_⟩
  · obtain ⟨A, cc, h1, _⟩ := hin2 x hx
    exact row_ne ha' h1 (by decide)
  · exact ((Kp.below ((Below.refl _ w).alloc (Nat.le_refl _) _)).trans (Kp.row HG.out) (.inl rfl)).trans (Kp.var hg2) (.inl rfl)
  · rcases HW.out with e | e
    · injection e with e
      exact .inl e
    · injection e with e
      exact .inr (Nat.le_trans (show w.heap.size ≤ (w.alloc _).heap.size by rw [World.size_alloc]; omega) (Nat.le_of_eq e.symm))
end Go.Proofs.Ytflppcgonbjnmaa
