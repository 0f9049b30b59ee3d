/-
  The walk of the document's own Split.
-/
import Derived.Test.YteacjikkojglmaaRefSplitInv
import Derived.Test.YteacjikkojglmaaRegion
namespace Go.Proofs.Yteacjikkojglmaa
open Go.RowKit Go.Shelf
attribute [local go_sem ↓] Go.wp_at_zero Go.wp_at_succ

theorem Rd.newAll (w : World) (e : TypeId) (cs : Array Value) : Rd (w.alloc (.cells cs e)) (w.heap.size + 1) (some ⟨w.heap.size, 0, none⟩) cs.toList := fun _ =>
  ⟨w.heap.size, 0, rfl, by omega, fun j hj => by
    rw [cell_of_row _ w.heap.size (0 + j) _ e (0, 0) (heap_alloc_new w _)]
    simp at hj
    simp [hj]⟩

set_option maxHeartbeats 1000000 in
theorem refSplit_bad (A S : Option Addr) (c d : Nat) (l : List Cl) (ss : List ByteArray) (w : World) (hs : Rd w w.heap.size S (strs ss)) (hlen' : ss.length ≤ 1000) (hb : borders ss = false) :
    Calls Try.prog 12 #[.slice A l.length c, .slice S ss.length d] w fun e w' => e = .returned (.tuple #[.slice none 0 0, .int .i64 1]) ∧ Below w.heap.size w w' := by
  go_enter Try.func12, Try.ntmps12
  go_wp2_with (go_at_call 15; refine (refBorders_any S d ss _ _ hs (by unfold maxLen; omega)).mono ?_; rintro e w' ⟨rfl, n0, rfl⟩)
  go_ret2
  exact ⟨rfl, below_drewN (Below.refl _ _) _⟩
set_option maxHeartbeats 1000000 in
theorem refSplit_low (A S : Option Addr) (c d : Nat) (l : List Cl) (ss : List ByteArray) (w : World) (hl : Rd w w.heap.size A (vals l)) (hs : Rd w w.heap.size S (strs ss)) (hlen : l.length ≤ 1000) (hlen' : ss.length ≤ 1000) (hb : borders ss = true) (hr : rising l = false) :
    Calls Try.prog 12 #[.slice A l.length c, .slice S ss.length d] w fun e w' => e = .returned (.tuple #[.slice none 0 0, .int .i64 40]) ∧ Below w.heap.size w w' := by
  go_enter Try.func12, Try.ntmps12
  go_wp2_with (first | (go_at_call 15; refine (refBorders_any S d ss _ _ hs (by unfold maxLen; omega)).mono ?_; rintro e w' ⟨rfl, n0, rfl⟩) |
    (go_at_call 23; refine (refRising_any A c l _ (hl.drewN n0) (by unfold maxLen; omega)).mono ?_; rintro e w1 ⟨rfl, hb1⟩))
  go_ret2
  exact ⟨rfl, (below_drewN (Below.refl _ _) _).trans hb1⟩

set_option maxHeartbeats 4000000 in
theorem refSplit_ok (A S : Option Addr) (c d : Nat) (l : List Cl) (ss : List ByteArray) (w : World) (hl : Rd w w.heap.size A (vals l)) (hs : Rd w w.heap.size S (strs ss)) (hlen : l.length ≤ 1000) (hlen' : ss.length ≤ 1000) (hb : borders ss = true) (hr : rising l = true) :
    Calls Try.prog 12 #[.slice A l.length c, .slice S ss.length d] w fun e w' => ∃ (A' : Option Addr) (n' c' : Nat) (vs : List Value), e = .returned (.tuple #[.slice A' n' c', .int .i64 0]) ∧
      Own w' w.heap.size 22 1 A' n' c' vs ∧ Lists w' w.heap.size vs (splitAt l ss) ∧ Below w.heap.size w w' := by
  obtain ⟨i0, hi0, hz0, hz1, hz2⟩ := info_parts sliceInfo
  obtain ⟨j0, hj0, jz0, jz1, jz2⟩ := info_parts cellInfo
  rw [splitAt_eq hb hr]
  go_enter Try.func12, Try.ntmps12
  have hmk : ∀ W : World, (Instr.makeSlice 26 (.int .i64 ((ss.length : Int) + 1)) (.int .i64 ((ss.length : Int) + 1))).run Try.prog W = .ok (.slice (some ⟨W.heap.size, 0, none⟩) (ss.length + 1) (ss.length + 1)) (W.alloc (.cells (madeCells #[.slice none 0 0] (ss.length + 1)) 22)) := fun W => by
    have h := run_makeSlice (P := Try.prog) W 26 22 i0 (.slice none 0 0) Try.underlying26 hi0 hz0 .i64 .i64 ((ss.length : Int) + 1) ((ss.length : Int) + 1) (by omega) (by omega) (by rw [hz1]; omega) (by rw [hz2]; omega) (by omega)
    have ht : ((ss.length : Int) + 1).toNat = ss.length + 1 := by omega
    rw [ht, hz1, Nat.mul_one] at h
    exact h
  go_wp2_with (first | (go_at_call 15; refine (refBorders_any S d ss _ _ hs (by unfold maxLen; omega)).mono ?_; rintro e w' ⟨rfl, n0, rfl⟩) |
    (go_at_call 23; refine (refRising_any A c l _ (hl.drewN n0) (by unfold maxLen; omega)).mono ?_; rintro e w1 ⟨rfl, hb1⟩))
  have hB0 : Below w.heap.size w w1 := (below_drewN (Below.refl _ _) _).trans hb1
  have HI0 := Lib.hid (SplSt.zero hB0 ss hlen')
  have hwz := hB0.size
  clear hb1 hmk
  go_loopw [7] (fun i wr => ∃ (k : Nat) (vs : List Value), k ≤ l.length ∧ i = .int .i64 k ∧ Hid (SplSt w wr w1.heap.size (ss.length + 1) vs (spread ss (l.take k)))) (fun i _ => l.length - (intOf i).toNat)
  case atStart => exact ⟨0, _, Nat.zero_le _, rfl, HI0⟩
  case round =>
    obtain ⟨k, vs, hk, rfl, HI⟩ := hrel
    have hB := HI.out.2.2.2
    by_cases hlt : k < l.length
    · obtain ⟨b, o, rfl, hb0, hc⟩ := (hl.below hB).at_ (vals_ne hlt)
      have hsz := hB.size
      have hbw : b < wr.heap.size := by omega
      obtain ⟨l0, l1, l2, l3, l4, l5⟩ := Rd.cell_at (B := 0) hc k hlt
      have i1 : (0 : Int) ≤ (k : Int) := by omega
      have i2 : (k : Int) < (l.length : Int) := by omega
      have i4 : decide ((k : Int) < (l.length : Int)) = true := decide_eq_true i2
      have hs' := hs.below hB
      clear hc hl hs
      have hplace := refPlace_any S d ss l[k].row wr _ hs' (by unfold maxLen; omega)
      have hple := place_le ss l[k].row
      obtain ⟨p, hp⟩ : ∃ p, place ss l[k].row = p := ⟨_, rfl⟩
      rw [hp] at hplace hple
      have HP := Lib.hid hp
      clear hp hs'
      have hpl : p < (spread ss (l.take k)).length := by rw [spread_length]; omega
      have hpv : p < vs.length := by rw [HI.out.2.1.1]; exact hpl
      obtain ⟨Aq, cq, hv, hoq⟩ := HI.out.2.1.2 p hpv hpl
      obtain ⟨g2, e2, _, hg2, hrow⟩ := HI.out.1.at_ (by omega)
      injection e2 with e2
      injection e2 with e2
      subst e2
      obtain ⟨hcp, hfp⟩ := hrow p hpv
      obtain ⟨m, hm⟩ : ∃ m, (spread ss (l.take k))[p].length = m := ⟨_, rfl⟩
      have hmb : m ≤ 1000 := by
        rw [← hm, spread_get]
        have h1 := List.length_filter_le (fun c => place ss c.row == p) (l.take k)
        rw [List.length_take] at h1
        omega
      rw [hv, hm] at hcp
      have HM := Lib.hid hm
      have HV := Lib.hid hv
      obtain ⟨q, hq⟩ : ∃ q, (spread ss (l.take k))[p] = q := ⟨_, rfl⟩
      rw [hq] at hoq hm
      have HQ := Lib.hid hq
      have HO := Lib.hid (show Own wr w.heap.size 50 6 Aq m cq (vals q) from by rw [← hm]; exact hoq)
      clear hm hv hoq hrow hq
      have p1 : (0 : Int) ≤ (p : Int) := by omega
      have p2 : (p : Int) < (ss.length : Int) + 1 := by omega
      go_wp2_with (go_at_call 17; refine hplace.mono ?_; rintro e w2 ⟨rfl, rfl⟩)
      have HC : wr.cell? ⟨w1.heap.size, p, none⟩ = some (.slice Aq m cq) ∧ wr.cell? ⟨b, o + k * 6, none⟩ = some (.string l[k].row) ∧ wr.cell? ⟨b, o + k * 6 + 1, none⟩ = some (.string l[k].col) ∧ wr.cell? ⟨b, o + k * 6 + 2, none⟩ = some (.int .u64 l[k].ts) ∧ wr.cell? ⟨b, o + k * 6 + 3, none⟩ = some (.int .u64 l[k].seq) ∧ wr.cell? ⟨b, o + k * 6 + 4, none⟩ = some (.bool l[k].del) ∧ wr.cell? ⟨b, o + k * 6 + 5, none⟩ = some (.string l[k].val) := ⟨hcp, l0, l1, l2, l3, l4, l5⟩
      refine region_wz (fun W' => W'.cell? ⟨w1.heap.size, p, none⟩ = some (.slice Aq m cq) ∧ W'.cell? ⟨b, o + k * 6, none⟩ = some (.string l[k].row) ∧ W'.cell? ⟨b, o + k * 6 + 1, none⟩ = some (.string l[k].col) ∧ W'.cell? ⟨b, o + k * 6 + 2, none⟩ = some (.int .u64 l[k].ts) ∧ W'.cell? ⟨b, o + k * 6 + 3, none⟩ = some (.int .u64 l[k].seq) ∧ W'.cell? ⟨b, o + k * 6 + 4, none⟩ = some (.bool l[k].del) ∧ W'.cell? ⟨b, o + k * 6 + 5, none⟩ = some (.string l[k].val)) (some 13) (by kernel_rfl) ?_
      apply WZ.take (i := 0) (some 32) rfl rfl (by kernel_rfl) (by kernel_rfl) (by kernel_rfl) (calm_panic _) (by kernel_rfl)
      case hy => (refine .inl ⟨by kernel_rfl, fun W hC => ?_⟩; (try dsimp only at hC); go_simp; rfl)
      case hC => exact HC
      case ha => (simp only [Act.put, List.setIfInBounds_toArray, List.set_cons_zero, List.set_cons_succ]; rfl)
      apply WZ.take (i := 1) (some 33) rfl rfl (by kernel_rfl) (by kernel_rfl) (by kernel_rfl) (calm_panic _) (by kernel_rfl)
      case hy => (refine .inl ⟨by kernel_rfl, fun W hC => ?_⟩; (try dsimp only at hC); go_simp; rfl)
      case hC => exact HC
      case ha => (simp only [Act.put, List.setIfInBounds_toArray, List.set_cons_zero, List.set_cons_succ]; rfl)
      apply WZ.take (i := 2) (some 34) rfl rfl (by kernel_rfl) (by kernel_rfl) (by kernel_rfl) (calm_panic _) (by kernel_rfl)
      case hy => (refine .inl ⟨by kernel_rfl, fun W hC => ?_⟩; (try dsimp only at hC); go_simp; rfl)
      case hC => exact HC
      case ha => (simp only [Act.put, List.setIfInBounds_toArray, List.set_cons_zero, List.set_cons_succ]; rfl)
      apply WZ.take (i := 3) (some 35) rfl rfl (by kernel_rfl) (by kernel_rfl) (by kernel_rfl) (calm_panic _) (by kernel_rfl)
      case hy => (refine .inl ⟨by kernel_rfl, fun W hC => ?_⟩; (try dsimp only at hC); go_simp; rfl)
      case hC => exact HC
      case ha => (simp only [Act.put, List.setIfInBounds_toArray, List.set_cons_zero, List.set_cons_succ]; rfl)
      apply WZ.take (i := 4) (some 36) rfl rfl (by kernel_rfl) (by kernel_rfl) (by kernel_rfl) (calm_panic _) (by kernel_rfl)
      case hy => (refine .inl ⟨by kernel_rfl, fun W hC => ?_⟩; (try dsimp only at hC); go_simp; rfl)
      case hC => exact HC
      case ha => (simp only [Act.put, List.setIfInBounds_toArray, List.set_cons_zero, List.set_cons_succ]; rfl)
      apply WZ.take (i := 5) (some 37) rfl rfl (by kernel_rfl) (by kernel_rfl) (by kernel_rfl) (calm_panic _) (by kernel_rfl)
      case hy => (refine .inl ⟨by kernel_rfl, fun W hC => ?_⟩; (try dsimp only at hC); go_simp; rfl)
      case hC => exact HC
      case ha => (simp only [Act.put, List.setIfInBounds_toArray, List.set_cons_zero, List.set_cons_succ]; rfl)
      apply WZ.take (i := 6) (some 38) rfl rfl (by kernel_rfl) (by kernel_rfl) (by kernel_rfl) (calm_panic _) (by kernel_rfl)
      case hy => (refine .inl ⟨by kernel_rfl, fun W hC => ?_⟩; (try dsimp only at hC); go_simp; rfl)
      case hC => exact HC
      case ha => (simp only [Act.put, List.setIfInBounds_toArray, List.set_cons_zero, List.set_cons_succ]; rfl)
      apply WZ.take (i := 7) (some 39) rfl rfl (by kernel_rfl) (by kernel_rfl) (by kernel_rfl) (calm_panic _) (by kernel_rfl)
      case hy => (refine .inl ⟨by kernel_rfl, fun W hC => ?_⟩; (try dsimp only at hC); go_simp; rfl)
      case hC => exact HC
      case ha => (simp only [Act.put, List.setIfInBounds_toArray, List.set_cons_zero, List.set_cons_succ]; rfl)
      apply WZ.take (i := 8) (some 40) rfl rfl (by kernel_rfl) (by kernel_rfl) (by kernel_rfl) (calm_panic _) (by kernel_rfl)
      case hy => (refine .inl ⟨by kernel_rfl, fun W hC => ?_⟩; (try dsimp only at hC); go_simp; rfl)
      case hC => exact HC
      case ha => (simp only [Act.put, List.setIfInBounds_toArray, List.set_cons_zero, List.set_cons_succ]; rfl)
      apply WZ.take (i := 9) (some 41) rfl rfl (by kernel_rfl) (by kernel_rfl) (by kernel_rfl) (calm_panic _) (by kernel_rfl)
      case hy => (refine .inl ⟨by kernel_rfl, fun W hC => ?_⟩; (try dsimp only at hC); go_simp; rfl)
      case hC => exact HC
      case ha => (simp only [Act.put, List.setIfInBounds_toArray, List.set_cons_zero, List.set_cons_succ]; rfl)
      -- 10
      refine WZ.one (i := 10) rfl (by kernel_rfl) ?_
      conv => arg 4; arg 1; whnf
      go_wp2_with (fail)
      have hk : ∀ a : Addr, a.block < wr.heap.size → (wr.alloc (.cells #[.string l[k].row, .string l[k].col, .int .u64 l[k].ts, .int .u64 l[k].seq, .bool l[k].del, .string l[k].val] 50)).cell? a = wr.cell? a := fun a ha => World.cell?_alloc_lt _ _ _ ha
      obtain ⟨x0, x1, x2, x3, x4, x5, x6⟩ := HC
      have HC := And.intro ((hk _ hg2).trans x0) (And.intro ((hk ⟨b, _, none⟩ hbw).trans x1) (And.intro ((hk ⟨b, _, none⟩ hbw).trans x2) (And.intro ((hk ⟨b, _, none⟩ hbw).trans x3) (And.intro ((hk ⟨b, _, none⟩ hbw).trans x4) (And.intro ((hk ⟨b, _, none⟩ hbw).trans x5) ((hk ⟨b, _, none⟩ hbw).trans x6))))))
      clear hk x0 x1 x2 x3 x4 x5 x6
      refine ⟨HC, ?_⟩
      -- 11
      refine WZ.one (i := 11) rfl (by kernel_rfl) ?_
      conv => arg 4; arg 1; whnf
      go_wp2_with (at_builtin; go_loud (refine wpList_app _ rfl _ _ _ rfl w.heap.size 50 j0 zeroCell 6 72 Try.underlying22 hj0 jz0 jz1 jz2 rfl (by decide) Aq m cq (vals q) rfl (Own.alloc HO.out _).drew (wr.heap.size + 1) (some ⟨wr.heap.size, 0, none⟩) 1 1 (vals [l[k]]) rfl (Rd.newAll _ _ _).drew rfl (vals_one _) (by unfold maxLen; omega) (by omega) (by simp; omega) ?_); intro A4 c4 w4 ho4 hg4 hat4)
      have hal := World.size_alloc wr (.cells #[.string l[k].row, .string l[k].col, .int .u64 l[k].ts, .int .u64 l[k].seq, .bool l[k].del, .string l[k].val] 50)
      have hne1 : some w1.heap.size ≠ blk Aq := fun e => (Own.type_ne HI.out.1 HO.out (by decide)).elim (fun h => by cases h) (fun h => h e)
      have hne2 : some b ≠ blk Aq := fun e => by have := (HO.out.lt _ e.symm).1; omega
      have hfp4 : w4.frozen? ⟨w1.heap.size, p, none⟩ = false := (hg4.frozen_far ⟨w1.heap.size, p, none⟩ (by simp; omega) hne1).trans ((World.frozen?_of_block (a := ⟨w1.heap.size, p, none⟩) (Below.heap_alloc wr _ _ hg2)).trans hfp)
      have hk : ∀ i, w4.cell? ⟨b, i, none⟩ = _ := fun i => hg4.cell_far ⟨b, i, none⟩ (by simp; omega) hne2
      obtain ⟨x0, x1, x2, x3, x4, x5, x6⟩ := HC
      have HC := And.intro ((hg4.cell_far ⟨w1.heap.size, p, none⟩ (by simp; omega) hne1).trans x0) (And.intro ((hk _).trans x1) (And.intro ((hk _).trans x2) (And.intro ((hk _).trans x3) (And.intro ((hk _).trans x4) (And.intro ((hk _).trans x5) ((hk _).trans x6))))))
      clear hk x0 x1 x2 x3 x4 x5 x6
      refine ⟨HC, ?_⟩
      apply WZ.take (i := 12) (some 44) rfl rfl (by kernel_rfl) (by kernel_rfl) (by kernel_rfl) (calm_panic _) (by kernel_rfl)
      case hy => (refine .inl ⟨by kernel_rfl, fun W hC => ?_⟩; (try dsimp only at hC); go_simp; rfl)
      case hC => exact HC
      case ha => (simp only [Act.put, List.setIfInBounds_toArray, List.set_cons_zero, List.set_cons_succ]; rfl)
      -- 13
      refine WZ.last (i := 13) rfl (by kernel_rfl) (by kernel_rfl) ?_
      conv => arg 4; arg 1; whnf
      go_wp2_with (fail)
      refine WZ.done (by kernel_rfl) ?_ _
      simp only [Calm, Exit.then]
      have hsn : spread ss (l.take (k + 1)) = (spread ss (l.take k)).set p (q ++ [l[k]]) := by
        rw [← List.take_append_getElem hlt, spread_snoc ss (l.take k) l[k] (by rw [HP.out]; exact hpl)]
        simp only [HP.out, HQ.out]
      have HF := Lib.hid (HI.out.more (row := [l[k]]) (m := m) hpv hpl HQ.out (by rw [← HQ.out]; exact HM.out) (by rw [← HM.out]; exact HV.out) ho4 ⟨hg4.os, hg4.tape, hg4.output, hg4.size, hg4.block⟩ hat4)
      rw [← hsn] at HF
      clear ho4 hg4 hat4 HC hcp l0 l1 l2 l3 l4 l5 hfp4 hsn
      go_wp2
      exact ⟨⟨k + 1, _, by omega, by go_num, HF⟩, by simp [intOf]; omega⟩
    · have hkl : l.take k = l := List.take_of_length_le (by omega)
      have HK := Lib.hid hkl
      have i4 : decide ((k : Int) < (l.length : Int)) = false := decide_eq_false (by omega)
      clear hkl
      go_wp2
      go_ret2
      have hf := HI.out
      rw [HK.out] at hf
      exact ⟨_, _, _, _, rfl, hf.1, hf.2.1, hf.2.2.2⟩
end Go.Proofs.Yteacjikkojglmaa
