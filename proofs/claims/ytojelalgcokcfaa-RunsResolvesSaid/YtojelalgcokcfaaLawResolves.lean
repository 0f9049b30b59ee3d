/-
  The walk of the law RunsResolves.
-/
import Derived.Test.YtojelalgcokcfaaLawTwice
import Derived.Test.YtojelalgcokcfaaRefResolve8
namespace Go.Proofs.Ytojelalgcokcfaa
open Go.RowKit
attribute [local go_sem ↓] Go.wp_at_zero Go.wp_at_succ

set_option maxHeartbeats 8000000 in
theorem runsResolves_any (A : Option Addr) (c : Nat) (l : List It) (i j : Nat) (w : World) (hl : Rd w w.heap.size A (its l)) (hlen : l.length ≤ 1759218604441) (hi : i ≤ 255) (hj : j ≤ 255) :
    Calls Try.prog 6 #[.slice A l.length c, .int .u8 i, .int .u8 j] w fun e w' => e = .returned (.bool true) ∧ Below w.heap.size w w' := by
  have hcells := cells_any A c l w hl hlen
  have hbnd := fun A1 c1 W h => bounded_any A1 c1 (l.map (·.c)) W W.heap.size h (by rw [List.length_map]; unfold maxLen; omega)
  rw [List.length_map] at hbnd
  have hl1 := fun (h : l.length ≤ 1000000) (W : World) (hr : Rd W W.heap.size A (its l)) => resolve_any A c l W hr h
  have hl2 := fun (h : l.length ≤ 1000000) (W : World) (hr : Rd W W.heap.size A (its l)) => its_any A c l W hr h
  have hl3 := fun (h : l.length ≤ 1000000) (W : World) (hr : Rd W W.heap.size A (its l)) => runsSorted_any A c l W hr h
  have hl4 := fun (h : l.length ≤ 1000000) (A : Option Addr) (c : Nat) (W : World) (hr : Rd W W.heap.size A (its l)) => refResolve8_any A c l W hr h
  have hl5 := fun (h : l.length ≤ 1000000) (A : Option Addr) (c : Nat) (W : World) (hr : Rd W W.heap.size A (its l)) => refSorted8_any A c l W hr h
  have hll : bnd (l.map (·.c)) = true → l.length ≤ 80 := fun h => by have := bnd_len h; rwa [List.length_map] at this
  obtain ⟨R, hR⟩ : ∃ R, resolve l = R := ⟨_, rfl⟩
  have hRs : Strict R := by rw [← hR]; exact (resolve_good l).strict
  have hRl : R.length ≤ l.length := by rw [← hR]; exact resolve_len l
  rw [hR] at hl1 hl4
  have hne := fun (h : 0 < l.length) => its_ne h
  obtain ⟨N, hN⟩ : ∃ N, l.length = N := ⟨_, rfl⟩
  have HN := Lib.hid hN
  rw [hN] at hcells hbnd hl1 hl2 hl3 hl4 hl5 hll hRl hne ⊢
  clear hlen hN
  go_enter Try.func6, Try.ntmps6
  go_wp2_with fail
  go_at_call 18
  refine hcells.mono ?_
  rintro e w1 ⟨A1, c1, rfl, ho1, hb1⟩
  go_wp2_with fail
  go_at_call 8
  refine (hbnd A1 c1 w1 (ho1.rd (by omega))).mono ?_
  rintro e w1' ⟨rfl, rfl⟩
  by_cases hbd : bnd (l.map (·.c)) = true
  · have hN80 := hll hbd
    rw [hbd]
    have hl1 := hl1 (by omega)
    have hl2 := hl2 (by omega)
    have hl3 := hl3 (by omega)
    have hl4 := hl4 (by omega)
    have hl5 := hl5 (by omega)
    have hRn : R.length ≤ 1000000 := by omega
    have hit := fun (W : World) (A : Option Addr) (c : Nat) (h : Rd W W.heap.size A (its R)) => its_any A c R W h hRn
    have hsm := fun (W : World) (A B : Option Addr) (c d : Nat) (h : Rd W W.heap.size A (its R)) (k : Rd W W.heap.size B (its R)) => sameItems_any A B c d R R W _ h k hRn hRn
    rw [decide_eq_true (show R = R from rfl)] at hsm
    have hsr := fun (W : World) (A : Option Addr) (c : Nat) (h : Rd W W.heap.size A (its R)) => runsSorted_any A c R W h hRn
    rw [strict_sorted hRs] at hsr
    clear hbnd hcells ho1 hll hbd hR hRs
    obtain ⟨n, hn⟩ : ∃ n, R.length = n := ⟨_, rfl⟩
    obtain ⟨sl, hsl⟩ : ∃ sl, sortedB l = sl := ⟨_, rfl⟩
    rw [hn] at hl1 hl4 hit hsm hsr hRl hRn
    rw [hsl] at hl3 hl5
    clear hn hsl
    go_wp2_with fail
    go_at_call 9
    refine (shown_any _).mono ?_
    rintro e w2 ⟨rfl, hb2⟩
    have HB := Lib.hid (hb1.trans (hb2.mono hb1.size))
    clear hb1 hb2
    go_wp2_with fail
    · rename_i hpos _ _
      obtain ⟨a1, ha1⟩ : ∃ a, i % N = a := ⟨_, rfl⟩
      obtain ⟨a2, ha2⟩ : ∃ a, j % N = a := ⟨_, rfl⟩
      have e1 : (i : Int) % (N : Int) = (a1 : Int) := by rw [← ha1]; rfl
      have e2 : (j : Int) % (N : Int) = (a2 : Int) := by rw [← ha2]; rfl
      have n1 : a1 < N := by rw [← ha1]; exact Nat.mod_lt _ hpos
      have n2 : a2 < N := by rw [← ha2]; exact Nat.mod_lt _ hpos
      have n1' : a1 < l.length := by rw [HN.out]; exact n1
      have n2' : a2 < l.length := by rw [HN.out]; exact n2
      rw [e1, e2]
      obtain ⟨b, o, rfl, hb, hc⟩ := hl.at_ (hne hpos)
      have r1 := Rd.it_range hc a1 n1'
      have r2 := Rd.it_range hc a2 n2'
      obtain ⟨x, hx⟩ : ∃ x, l[a1] = x := ⟨_, rfl⟩
      obtain ⟨y, hy⟩ : ∃ y, l[a2] = y := ⟨_, rfl⟩
      rw [hx] at r1
      rw [hy] at r2
      have i1 : (0 : Int) ≤ (a1 : Int) := by omega
      have i2 : (a1 : Int) < (N : Int) := by omega
      have i3 : (0 : Int) ≤ (a2 : Int) := by omega
      have i4 : (a2 : Int) < (N : Int) := by omega
      have hCC : ∀ W W', Below W.heap.size W W' → (fun W' => W'.rangeAt b (o + a1 * 7) x.vals ∧ W'.rangeAt b (o + a2 * 7) y.vals ∧ b < w.heap.size ∧ Below w.heap.size w W') W → (fun W' => W'.rangeAt b (o + a1 * 7) x.vals ∧ W'.rangeAt b (o + a2 * 7) y.vals ∧ b < w.heap.size ∧ Below w.heap.size w W') W' := by
        rintro W W' hbb ⟨h1, h2, h3, h4⟩
        have h5 := h4.size
        exact ⟨rangeAt_below h1 hbb (by omega), rangeAt_below h2 hbb (by omega), h3, h4.trans (hbb.mono h5)⟩
      have HC := hCC _ _ ((Below.refl w2.heap.size w2).drew) ⟨rangeAt_below r1 HB.out hb, rangeAt_below r2 HB.out hb, hb, HB.out⟩
      clear r1 r2 hx hy hc e1 e2 ha1 ha2 n1' n2' HB
      refine region_wz (fun W' => W'.rangeAt b (o + a1 * 7) x.vals ∧ W'.rangeAt b (o + a2 * 7) y.vals ∧ b < w.heap.size ∧ Below w.heap.size w W') none (by kernel_rfl) ?_
      apply WZ.take (i := 0) (some 32) rfl rfl (by kernel_rfl) (by kernel_rfl) (by kernel_rfl) (calm_panic _) (by kernel_rfl)
      case hy => (refine .inl ⟨by kernel_rfl, fun W hC => ?_⟩; (try dsimp only at hC); go_simp; (try simp only [bne_self_eq_false]); rfl)
      case hC => exact HC
      case ha => (simp only [Act.put, List.setIfInBounds_toArray, List.set_cons_zero, List.set_cons_succ]; rfl)
      apply WZ.take (i := 1) (some 33) rfl rfl (by kernel_rfl) (by kernel_rfl) (by kernel_rfl) (calm_panic _) (by kernel_rfl)
      case hy => (refine .inl ⟨by kernel_rfl, fun W hC => ?_⟩; (try dsimp only at hC); go_simp; (try simp only [bne_self_eq_false]); rfl)
      case hC => exact HC
      case ha => (simp only [Act.put, List.setIfInBounds_toArray, List.set_cons_zero, List.set_cons_succ]; rfl)
      apply WZ.take (i := 2) (some 34) rfl rfl (by kernel_rfl) (by kernel_rfl) (by kernel_rfl) (calm_panic _) (by kernel_rfl)
      case hy => (refine .inl ⟨by kernel_rfl, fun W hC => ?_⟩; (try dsimp only at hC); go_simp; (try simp only [bne_self_eq_false]); rfl)
      case hC => exact HC
      case ha => (simp only [Act.put, List.setIfInBounds_toArray, List.set_cons_zero, List.set_cons_succ]; rfl)
      apply WZ.take (i := 3) (some 35) rfl rfl (by kernel_rfl) (by kernel_rfl) (by kernel_rfl) (calm_panic _) (by kernel_rfl)
      case hy => first | (apply yieldsIf_load_mid (by kernel_rfl) _ _ rfl _ _ rfl; (case hS => (intro W hC; exact (show World.rangeAt _ _ _ (It.vals _) from hC.1))); (case hu => exact Try.underlying48); (case hd => rfl); (case hi => kernel_rfl)) | (apply yieldsIf_load_mid (by kernel_rfl) _ _ rfl _ _ rfl; (case hS => (intro W hC; exact (show World.rangeAt _ _ _ (It.vals _) from hC.2.1))); (case hu => exact Try.underlying48); (case hd => rfl); (case hi => kernel_rfl)) | (apply yieldsIf_load_mid (by kernel_rfl) _ _ rfl _ _ rfl; (case hS => (intro W hC; exact (show World.rangeAt _ _ _ (It.vals _) from hC.2.2.1))); (case hu => exact Try.underlying48); (case hd => rfl); (case hi => kernel_rfl)) | (apply yieldsIf_load_mid (by kernel_rfl) _ _ rfl _ _ rfl; (case hS => (intro W hC; exact (show World.rangeAt _ _ _ (It.vals _) from hC.2.2.2.1))); (case hu => exact Try.underlying48); (case hd => rfl); (case hi => kernel_rfl)) | (apply yieldsIf_load_mid (by kernel_rfl) _ _ rfl _ _ rfl; (case hS => (intro W hC; exact (show World.rangeAt _ _ _ (It.vals _) from hC.2.2.2))); (case hu => exact Try.underlying48); (case hd => rfl); (case hi => kernel_rfl)) | (apply yieldsIf_load_mid (by kernel_rfl) _ _ rfl _ _ rfl; (case hS => (intro W hC; exact (show World.rangeAt _ _ _ (It.vals _) from hC.2.2))); (case hu => exact Try.underlying48); (case hd => rfl); (case hi => kernel_rfl)) | (apply yieldsIf_load_mid (by kernel_rfl) _ _ rfl _ _ rfl; (case hS => (intro W hC; exact (show World.rangeAt _ _ _ (It.vals _) from hC.2))); (case hu => exact Try.underlying48); (case hd => rfl); (case hi => kernel_rfl)) | (apply yieldsIf_load_mid (by kernel_rfl) _ _ rfl _ _ rfl; (case hS => (intro W hC; exact (show World.rangeAt _ _ _ (It.vals _) from hC))); (case hu => exact Try.underlying48); (case hd => rfl); (case hi => kernel_rfl))
      case hC => exact HC
      case ha => (simp only [Act.put, List.setIfInBounds_toArray, List.set_cons_zero, List.set_cons_succ]; rfl)
      apply WZ.take (i := 4) (some 36) rfl rfl (by kernel_rfl) (by kernel_rfl) (by kernel_rfl) (calm_panic _) (by kernel_rfl)
      case hy => (refine .inl ⟨by kernel_rfl, fun W hC => ?_⟩; (try dsimp only at hC); go_simp; (try simp only [bne_self_eq_false]); rfl)
      case hC => exact HC
      case ha => (simp only [Act.put, List.setIfInBounds_toArray, List.set_cons_zero, List.set_cons_succ]; rfl)
      apply WZ.take (i := 5) (some 37) rfl rfl (by kernel_rfl) (by kernel_rfl) (by kernel_rfl) (calm_panic _) (by kernel_rfl)
      case hy => (refine .inl ⟨by kernel_rfl, fun W hC => ?_⟩; (try dsimp only at hC); go_simp; (try simp only [bne_self_eq_false]); rfl)
      case hC => exact HC
      case ha => (simp only [Act.put, List.setIfInBounds_toArray, List.set_cons_zero, List.set_cons_succ]; rfl)
      apply WZ.take (i := 6) (some 38) rfl rfl (by kernel_rfl) (by kernel_rfl) (by kernel_rfl) (calm_panic _) (by kernel_rfl)
      case hy => (refine .inl ⟨by kernel_rfl, fun W hC => ?_⟩; (try dsimp only at hC); go_simp; (try simp only [bne_self_eq_false]); rfl)
      case hC => exact HC
      case ha => (simp only [Act.put, List.setIfInBounds_toArray, List.set_cons_zero, List.set_cons_succ]; rfl)
      apply WZ.take (i := 7) (some 39) rfl rfl (by kernel_rfl) (by kernel_rfl) (by kernel_rfl) (calm_panic _) (by kernel_rfl)
      case hy => first | (apply yieldsIf_load_mid (by kernel_rfl) _ _ rfl _ _ rfl; (case hS => (intro W hC; exact (show World.rangeAt _ _ _ (It.vals _) from hC.1))); (case hu => exact Try.underlying48); (case hd => rfl); (case hi => kernel_rfl)) | (apply yieldsIf_load_mid (by kernel_rfl) _ _ rfl _ _ rfl; (case hS => (intro W hC; exact (show World.rangeAt _ _ _ (It.vals _) from hC.2.1))); (case hu => exact Try.underlying48); (case hd => rfl); (case hi => kernel_rfl)) | (apply yieldsIf_load_mid (by kernel_rfl) _ _ rfl _ _ rfl; (case hS => (intro W hC; exact (show World.rangeAt _ _ _ (It.vals _) from hC.2.2.1))); (case hu => exact Try.underlying48); (case hd => rfl); (case hi => kernel_rfl)) | (apply yieldsIf_load_mid (by kernel_rfl) _ _ rfl _ _ rfl; (case hS => (intro W hC; exact (show World.rangeAt _ _ _ (It.vals _) from hC.2.2.2.1))); (case hu => exact Try.underlying48); (case hd => rfl); (case hi => kernel_rfl)) | (apply yieldsIf_load_mid (by kernel_rfl) _ _ rfl _ _ rfl; (case hS => (intro W hC; exact (show World.rangeAt _ _ _ (It.vals _) from hC.2.2.2))); (case hu => exact Try.underlying48); (case hd => rfl); (case hi => kernel_rfl)) | (apply yieldsIf_load_mid (by kernel_rfl) _ _ rfl _ _ rfl; (case hS => (intro W hC; exact (show World.rangeAt _ _ _ (It.vals _) from hC.2.2))); (case hu => exact Try.underlying48); (case hd => rfl); (case hi => kernel_rfl)) | (apply yieldsIf_load_mid (by kernel_rfl) _ _ rfl _ _ rfl; (case hS => (intro W hC; exact (show World.rangeAt _ _ _ (It.vals _) from hC.2))); (case hu => exact Try.underlying48); (case hd => rfl); (case hi => kernel_rfl)) | (apply yieldsIf_load_mid (by kernel_rfl) _ _ rfl _ _ rfl; (case hS => (intro W hC; exact (show World.rangeAt _ _ _ (It.vals _) from hC))); (case hu => exact Try.underlying48); (case hd => rfl); (case hi => kernel_rfl))
      case hC => exact HC
      case ha => (simp only [Act.put, List.setIfInBounds_toArray, List.set_cons_zero, List.set_cons_succ]; rfl)
      apply WZ.take (i := 9) (some 41) rfl rfl (by kernel_rfl) (by kernel_rfl) (by kernel_rfl) (calm_panic _) (by kernel_rfl)
      case hy => (refine .inl ⟨by kernel_rfl, fun W hC => ?_⟩; (try dsimp only at hC); go_simp; (try simp only [bne_self_eq_false]); rfl)
      case hC => exact HC
      case ha => (simp only [Act.put, List.setIfInBounds_toArray, List.set_cons_zero, List.set_cons_succ]; rfl)
      apply WZ.take (i := 10) (some 42) rfl rfl (by kernel_rfl) (by kernel_rfl) (by kernel_rfl) (calm_panic _) (by kernel_rfl)
      case hy => (refine .inl ⟨by kernel_rfl, fun W hC => ?_⟩; (try dsimp only at hC); go_simp; (try simp only [bne_self_eq_false]); rfl)
      case hC => exact HC
      case ha => (simp only [Act.put, List.setIfInBounds_toArray, List.set_cons_zero, List.set_cons_succ]; rfl)
      apply WZ.take (i := 11) (some 43) rfl rfl (by kernel_rfl) (by kernel_rfl) (by kernel_rfl) (calm_panic _) (by kernel_rfl)
      case hy => (refine .inl ⟨by kernel_rfl, fun W hC => ?_⟩; (try dsimp only at hC); go_simp; (try simp only [bne_self_eq_false]); rfl)
      case hC => exact HC
      case ha => (simp only [Act.put, List.setIfInBounds_toArray, List.set_cons_zero, List.set_cons_succ]; rfl)
      apply WZ.take (i := 12) (some 44) rfl rfl (by kernel_rfl) (by kernel_rfl) (by kernel_rfl) (calm_panic _) (by kernel_rfl)
      case hy => first | (apply yieldsIf_load_mid (by kernel_rfl) _ _ rfl _ _ rfl; (case hS => (intro W hC; exact (show World.rangeAt _ _ _ (It.vals _) from hC.1))); (case hu => exact Try.underlying48); (case hd => rfl); (case hi => kernel_rfl)) | (apply yieldsIf_load_mid (by kernel_rfl) _ _ rfl _ _ rfl; (case hS => (intro W hC; exact (show World.rangeAt _ _ _ (It.vals _) from hC.2.1))); (case hu => exact Try.underlying48); (case hd => rfl); (case hi => kernel_rfl)) | (apply yieldsIf_load_mid (by kernel_rfl) _ _ rfl _ _ rfl; (case hS => (intro W hC; exact (show World.rangeAt _ _ _ (It.vals _) from hC.2.2.1))); (case hu => exact Try.underlying48); (case hd => rfl); (case hi => kernel_rfl)) | (apply yieldsIf_load_mid (by kernel_rfl) _ _ rfl _ _ rfl; (case hS => (intro W hC; exact (show World.rangeAt _ _ _ (It.vals _) from hC.2.2.2.1))); (case hu => exact Try.underlying48); (case hd => rfl); (case hi => kernel_rfl)) | (apply yieldsIf_load_mid (by kernel_rfl) _ _ rfl _ _ rfl; (case hS => (intro W hC; exact (show World.rangeAt _ _ _ (It.vals _) from hC.2.2.2))); (case hu => exact Try.underlying48); (case hd => rfl); (case hi => kernel_rfl)) | (apply yieldsIf_load_mid (by kernel_rfl) _ _ rfl _ _ rfl; (case hS => (intro W hC; exact (show World.rangeAt _ _ _ (It.vals _) from hC.2.2))); (case hu => exact Try.underlying48); (case hd => rfl); (case hi => kernel_rfl)) | (apply yieldsIf_load_mid (by kernel_rfl) _ _ rfl _ _ rfl; (case hS => (intro W hC; exact (show World.rangeAt _ _ _ (It.vals _) from hC.2))); (case hu => exact Try.underlying48); (case hd => rfl); (case hi => kernel_rfl)) | (apply yieldsIf_load_mid (by kernel_rfl) _ _ rfl _ _ rfl; (case hS => (intro W hC; exact (show World.rangeAt _ _ _ (It.vals _) from hC))); (case hu => exact Try.underlying48); (case hd => rfl); (case hi => kernel_rfl))
      case hC => exact HC
      case ha => (simp only [Act.put, List.setIfInBounds_toArray, List.set_cons_zero, List.set_cons_succ]; rfl)
      apply WZ.take (i := 13) (some 45) rfl rfl (by kernel_rfl) (by kernel_rfl) (by kernel_rfl) (calm_panic _) (by kernel_rfl)
      case hy => (refine .inl ⟨by kernel_rfl, fun W hC => ?_⟩; (try dsimp only at hC); go_simp; (try simp only [bne_self_eq_false]); rfl)
      case hC => exact HC
      case ha => (simp only [Act.put, List.setIfInBounds_toArray, List.set_cons_zero, List.set_cons_succ]; rfl)
      apply WZ.take (i := 14) (some 46) rfl rfl (by kernel_rfl) (by kernel_rfl) (by kernel_rfl) (calm_panic _) (by kernel_rfl)
      case hy => (refine .inl ⟨by kernel_rfl, fun W hC => ?_⟩; (try dsimp only at hC); go_simp; (try simp only [bne_self_eq_false]); rfl)
      case hC => exact HC
      case ha => (simp only [Act.put, List.setIfInBounds_toArray, List.set_cons_zero, List.set_cons_succ]; rfl)
      apply WZ.take (i := 15) (some 47) rfl rfl (by kernel_rfl) (by kernel_rfl) (by kernel_rfl) (calm_panic _) (by kernel_rfl)
      case hy => (refine .inl ⟨by kernel_rfl, fun W hC => ?_⟩; (try dsimp only at hC); go_simp; (try simp only [bne_self_eq_false]); rfl)
      case hC => exact HC
      case ha => (simp only [Act.put, List.setIfInBounds_toArray, List.set_cons_zero, List.set_cons_succ]; rfl)
      apply WZ.take (i := 16) (some 48) rfl rfl (by kernel_rfl) (by kernel_rfl) (by kernel_rfl) (calm_panic _) (by kernel_rfl)
      case hy => first | (apply yieldsIf_load_mid (by kernel_rfl) _ _ rfl _ _ rfl; (case hS => (intro W hC; exact (show World.rangeAt _ _ _ (It.vals _) from hC.1))); (case hu => exact Try.underlying48); (case hd => rfl); (case hi => kernel_rfl)) | (apply yieldsIf_load_mid (by kernel_rfl) _ _ rfl _ _ rfl; (case hS => (intro W hC; exact (show World.rangeAt _ _ _ (It.vals _) from hC.2.1))); (case hu => exact Try.underlying48); (case hd => rfl); (case hi => kernel_rfl)) | (apply yieldsIf_load_mid (by kernel_rfl) _ _ rfl _ _ rfl; (case hS => (intro W hC; exact (show World.rangeAt _ _ _ (It.vals _) from hC.2.2.1))); (case hu => exact Try.underlying48); (case hd => rfl); (case hi => kernel_rfl)) | (apply yieldsIf_load_mid (by kernel_rfl) _ _ rfl _ _ rfl; (case hS => (intro W hC; exact (show World.rangeAt _ _ _ (It.vals _) from hC.2.2.2.1))); (case hu => exact Try.underlying48); (case hd => rfl); (case hi => kernel_rfl)) | (apply yieldsIf_load_mid (by kernel_rfl) _ _ rfl _ _ rfl; (case hS => (intro W hC; exact (show World.rangeAt _ _ _ (It.vals _) from hC.2.2.2))); (case hu => exact Try.underlying48); (case hd => rfl); (case hi => kernel_rfl)) | (apply yieldsIf_load_mid (by kernel_rfl) _ _ rfl _ _ rfl; (case hS => (intro W hC; exact (show World.rangeAt _ _ _ (It.vals _) from hC.2.2))); (case hu => exact Try.underlying48); (case hd => rfl); (case hi => kernel_rfl)) | (apply yieldsIf_load_mid (by kernel_rfl) _ _ rfl _ _ rfl; (case hS => (intro W hC; exact (show World.rangeAt _ _ _ (It.vals _) from hC.2))); (case hu => exact Try.underlying48); (case hd => rfl); (case hi => kernel_rfl)) | (apply yieldsIf_load_mid (by kernel_rfl) _ _ rfl _ _ rfl; (case hS => (intro W hC; exact (show World.rangeAt _ _ _ (It.vals _) from hC))); (case hu => exact Try.underlying48); (case hd => rfl); (case hi => kernel_rfl))
      case hC => exact HC
      case ha => (simp only [Act.put, List.setIfInBounds_toArray, List.set_cons_zero, List.set_cons_succ]; rfl)
      -- 8
      refine WZ.one (i := 8) rfl (by kernel_rfl) ?_
      conv => arg 4; arg 1; whnf
      go_wp2_with (go_at_call 19; refine (runsCmp_any x y _).mono ?_; rintro e w1 ⟨rfl, hb1⟩; have HC' := hCC _ _ hb1 HC)
      clear HC
      have HC := HC'
      clear HC' hb1
      refine ⟨HC, ?_⟩
      -- 17
      refine WZ.one (i := 17) rfl (by kernel_rfl) ?_
      conv => arg 4; arg 1; whnf
      go_wp2_with (go_at_call 20; refine (ref08Cmp_any x y _).mono ?_; rintro e w1 ⟨rfl, hb1⟩; have HC' := hCC _ _ hb1 HC)
      clear HC
      have HC := HC'
      clear HC' hb1
      refine ⟨HC, ?_⟩
      apply WZ.take (i := 18) (some 50) rfl rfl (by kernel_rfl) (by kernel_rfl) (by kernel_rfl) (calm_panic _) (by kernel_rfl)
      case hy => (refine .inl ⟨by kernel_rfl, fun W hC => ?_⟩; (try dsimp only at hC); go_simp; (try simp only [bne_self_eq_false]); rfl)
      case hC => exact HC
      case ha => (simp only [Act.put, List.setIfInBounds_toArray, List.set_cons_zero, List.set_cons_succ]; rfl)
      refine WZ.done (by kernel_rfl) ?_ _
      simp only [Calm, Exit.then]
      have HB := Lib.hid HC.2.2.2
      clear HC hCC
      go_wp2_with fail
      go_at_call 17
      refine (hl1 _ ((hl.below HB.out).more HB.out.size)).mono ?_
      rintro e w3 ⟨A3, c3, rfl, ho3, hb3⟩
      have ho3 := ho3.lower HB.out.size
      have HB := Lib.hid (HB.out.trans (hb3.mono HB.out.size))
      go_wp2_with fail
      go_at_call 13
      refine (hit _ A3 c3 (ho3.rd (by omega))).mono ?_
      rintro e w4 ⟨A4, c4, rfl, ho4, hb4⟩
      have ho3 := Own.below ho3 hb4
      have HBo := HB
      have HB := Lib.hid (Below.trans HBo.out (hb4.mono (Below.size HBo.out)))
      go_wp2_with fail
      go_at_call 13
      refine (hl2 _ ((hl.below HB.out).more HB.out.size)).mono ?_
      rintro e w5 ⟨A5, c5, rfl, ho5, hb5⟩
      have ho4 := ho4.below hb5
      have ho3 := Own.below ho3 hb5
      have HBo := HB
      have HB := Lib.hid (Below.trans HBo.out (hb5.mono (Below.size HBo.out)))
      go_wp2_with fail
      go_at_call 21
      refine (hl4 A5 c5 _ (ho5.rd (by omega))).mono ?_
      rintro e w6 ⟨A6, c6, rfl, ho6, hb6⟩
      have ho4 := ho4.below hb6
      have ho3 := Own.below ho3 hb6
      have HBo := HB
      have HB := Lib.hid (Below.trans HBo.out (hb6.mono (Below.size HBo.out)))
      go_wp2_with fail
      go_at_call 12
      refine (hsm _ A4 A6 c4 c6 (ho4.rd (by omega)) (ho6.rd (by omega))).mono ?_
      rintro e w7 ⟨rfl, hb7⟩
      have ho3 := Own.below ho3 hb7
      have HBo := HB
      have HB := Lib.hid (Below.trans HBo.out (hb7.mono (Below.size HBo.out)))
      clear ho4 ho5 ho6
      go_wp2_with fail
      go_at_call 16
      refine (hl3 _ ((hl.below HB.out).more HB.out.size)).mono ?_
      rintro e w8 ⟨rfl, hb8⟩
      have ho3 := Own.below ho3 hb8
      have HBo := HB
      have HB := Lib.hid (Below.trans HBo.out (hb8.mono (Below.size HBo.out)))
      go_wp2_with fail
      go_at_call 13
      refine (hl2 _ ((hl.below HB.out).more HB.out.size)).mono ?_
      rintro e w9 ⟨A9, c9, rfl, ho9, hb9⟩
      have ho3 := Own.below ho3 hb9
      have HBo := HB
      have HB := Lib.hid (Below.trans HBo.out (hb9.mono (Below.size HBo.out)))
      go_wp2_with fail
      go_at_call 22
      refine (hl5 A9 c9 _ (ho9.rd (by omega))).mono ?_
      rintro e w10 ⟨rfl, hb10⟩
      have ho3 := Own.below ho3 hb10
      have HBo := HB
      have HB := Lib.hid (Below.trans HBo.out (hb10.mono (Below.size HBo.out)))
      have hbb : (sl == sl) = true := beq_self_eq_true _
      go_wp2_with fail
      go_at_call 16
      refine (hsr _ A3 c3 (ho3.rd (by omega))).mono ?_
      rintro e w11 ⟨rfl, hb11⟩
      have ho3 := Own.below ho3 hb11
      have HBo := HB
      have HB := Lib.hid (Below.trans HBo.out (hb11.mono (Below.size HBo.out)))
      go_wp2_with fail
      go_ret
      exact ⟨rfl, HB.out⟩
    · go_at_call 17
      refine (hl1 _ ((hl.below HB.out).more HB.out.size)).mono ?_
      rintro e w3 ⟨A3, c3, rfl, ho3, hb3⟩
      have ho3 := ho3.lower HB.out.size
      have HB := Lib.hid (HB.out.trans (hb3.mono HB.out.size))
      go_wp2_with fail
      go_at_call 13
      refine (hit _ A3 c3 (ho3.rd (by omega))).mono ?_
      rintro e w4 ⟨A4, c4, rfl, ho4, hb4⟩
      have ho3 := Own.below ho3 hb4
      have HBo := HB
      have HB := Lib.hid (Below.trans HBo.out (hb4.mono (Below.size HBo.out)))
      go_wp2_with fail
      go_at_call 13
      refine (hl2 _ ((hl.below HB.out).more HB.out.size)).mono ?_
      rintro e w5 ⟨A5, c5, rfl, ho5, hb5⟩
      have ho4 := ho4.below hb5
      have ho3 := Own.below ho3 hb5
      have HBo := HB
      have HB := Lib.hid (Below.trans HBo.out (hb5.mono (Below.size HBo.out)))
      go_wp2_with fail
      go_at_call 21
      refine (hl4 A5 c5 _ (ho5.rd (by omega))).mono ?_
      rintro e w6 ⟨A6, c6, rfl, ho6, hb6⟩
      have ho4 := ho4.below hb6
      have ho3 := Own.below ho3 hb6
      have HBo := HB
      have HB := Lib.hid (Below.trans HBo.out (hb6.mono (Below.size HBo.out)))
      go_wp2_with fail
      go_at_call 12
      refine (hsm _ A4 A6 c4 c6 (ho4.rd (by omega)) (ho6.rd (by omega))).mono ?_
      rintro e w7 ⟨rfl, hb7⟩
      have ho3 := Own.below ho3 hb7
      have HBo := HB
      have HB := Lib.hid (Below.trans HBo.out (hb7.mono (Below.size HBo.out)))
      clear ho4 ho5 ho6
      go_wp2_with fail
      go_at_call 16
      refine (hl3 _ ((hl.below HB.out).more HB.out.size)).mono ?_
      rintro e w8 ⟨rfl, hb8⟩
      have ho3 := Own.below ho3 hb8
      have HBo := HB
      have HB := Lib.hid (Below.trans HBo.out (hb8.mono (Below.size HBo.out)))
      go_wp2_with fail
      go_at_call 13
      refine (hl2 _ ((hl.below HB.out).more HB.out.size)).mono ?_
      rintro e w9 ⟨A9, c9, rfl, ho9, hb9⟩
      have ho3 := Own.below ho3 hb9
      have HBo := HB
      have HB := Lib.hid (Below.trans HBo.out (hb9.mono (Below.size HBo.out)))
      go_wp2_with fail
      go_at_call 22
      refine (hl5 A9 c9 _ (ho9.rd (by omega))).mono ?_
      rintro e w10 ⟨rfl, hb10⟩
      have ho3 := Own.below ho3 hb10
      have HBo := HB
      have HB := Lib.hid (Below.trans HBo.out (hb10.mono (Below.size HBo.out)))
      have hbb : (sl == sl) = true := beq_self_eq_true _
      go_wp2_with fail
      go_at_call 16
      refine (hsr _ A3 c3 (ho3.rd (by omega))).mono ?_
      rintro e w11 ⟨rfl, hb11⟩
      have ho3 := Own.below ho3 hb11
      have HBo := HB
      have HB := Lib.hid (Below.trans HBo.out (hb11.mono (Below.size HBo.out)))
      go_wp2_with fail
      go_ret
      exact ⟨rfl, HB.out⟩
  · have hbd' : bnd (l.map (·.c)) = false := by simpa using hbd
    rw [hbd']
    go_wp2_with fail
    go_at_call 9
    refine (shown_any _).mono ?_
    rintro e w2 ⟨rfl, hb2⟩
    go_wp2_with fail
    go_ret
    exact ⟨rfl, hb1.trans (hb2.mono hb1.size)⟩
end Go.Proofs.Ytojelalgcokcfaa
