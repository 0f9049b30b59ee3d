/-
  The walks of the two functions that tell whether items are sorted.
-/
import Derived.Test.YtojelalgcokcfaaItems
namespace Go.Proofs.Ytojelalgcokcfaa
open Go.RowKit
attribute [local go_sem ↓] Go.wp_at_zero Go.wp_at_succ

theorem Rd.it_range {w : World} {b o : Nat} {l : List It} (hc : ∀ j (h : j < (its l).length), w.cell? ⟨b, o + j, none⟩ = some (its l)[j]) (k : Nat) (hk : k < l.length) : w.rangeAt b (o + k * 7) l[k].vals := fun j v hv => by
  have hj := (List.getElem?_eq_some_iff.1 hv).1
  have h1 := encs_get It.vals_len l k j hk v hv
  have h2 := (List.getElem?_eq_some_iff.1 h1).1
  rw [Nat.add_assoc, hc (k * 7 + j) h2]
  rw [List.getElem?_eq_getElem h2] at h1
  exact h1
/-- each coordinate is above the one ahead of it -/
def sortedB : List It → Bool
  | [] => true
  | [_] => true
  | a :: b :: l => decide (cc a b < 0) && sortedB (b :: l)
def sortTo (l : List It) (k : Nat) : Prop := ∀ i (h : i + 1 < l.length), i + 1 < k → cc l[i] l[i + 1] < 0
theorem sortedB_iff : ∀ l : List It, sortedB l = true ↔ ∀ i (h : i + 1 < l.length), cc l[i] l[i + 1] < 0
  | [] => by simp [sortedB]
  | [_] => by simp [sortedB]
  | a :: b :: l => by
    rw [sortedB, Bool.and_eq_true, sortedB_iff (b :: l), decide_eq_true_iff]
    constructor
    · rintro ⟨h0, h⟩ i hi
      cases i with
      | zero => exact h0
      | succ i => exact h i (by simpa using hi)
    · intro h
      exact ⟨h 0 (by simp), fun i hi => h (i + 1) (by simpa using hi)⟩
theorem sortTo_le {l : List It} {k : Nat} (hk : k ≤ 1) : sortTo l k := fun i h hi => by omega
theorem sortTo_succ {l : List It} {j k : Nat} (h : sortTo l k) (e : k = j + 1) (hj : j < l.length) (hk : k < l.length) (hc : cc l[j] l[k] < 0) : sortTo l (k + 1) := fun i hi hik => by
  subst e
  by_cases e : i = j
  · subst e; exact hc
  · exact h i hi (by omega)
theorem sortTo_end {l : List It} {k : Nat} (h : sortTo l k) (hk : l.length ≤ k) : true = sortedB l := by
  symm
  rw [sortedB_iff]
  exact fun i hi => h i hi (by omega)
theorem sortTo_not {l : List It} {j k : Nat} (e : k = j + 1) (hj : j < l.length) (hk : k < l.length) (hc : ¬ cc l[j] l[k] < 0) : false = sortedB l := by
  subst e
  symm
  rw [Bool.eq_false_iff]
  intro h
  exact hc ((sortedB_iff l).1 h j hk)
theorem strict_sorted {l : List It} (h : Strict l) : sortedB l = true := by
  rw [sortedB_iff]
  intro i hi
  exact List.pairwise_iff_getElem.1 h i (i + 1) (by omega) hi (by omega)
/-- how the two tests tell it -/
theorem cc_of_tests {x y : It} (h : x.cmp y < 0) (hs : x.c.same y.c = false) : cc x y < 0 := by
  rw [cc_same, decide_eq_false_iff_not] at hs
  rwa [it_cmp_eq, if_neg hs] at h
theorem cc_not_cmp {x y : It} (h : ¬ x.cmp y < 0) : ¬ cc x y < 0 := fun k => h (by rw [it_cmp_eq, if_neg (by omega)]; exact k)
theorem cc_not_same {x y : It} (h : x.c.same y.c = true) : ¬ cc x y < 0 := by
  rw [cc_same, decide_eq_true_iff] at h
  omega

set_option maxHeartbeats 4000000 in
theorem runsSorted_any (A : Option Addr) (c : Nat) (l : List It) (w : World) (hl : Rd w w.heap.size A (its l)) (hlen : l.length ≤ 1000000) :
    Calls Try.prog 16 #[.slice A l.length c] w fun e w' => e = .returned (.bool (sortedB l)) ∧ Below w.heap.size w w' := by
  have HL := Lib.hid hl
  obtain ⟨N, hN⟩ : ∃ N, l.length = N := ⟨_, rfl⟩
  have HN := Lib.hid hN
  rw [hN] at hlen ⊢
  clear hl hN
  go_enter Try.func16, Try.ntmps16
  go_wp2
  go_loopw [6] (fun vi wr => ∃ (k : Nat), k ≤ N ∧ vi = .int .i64 (k : Int) ∧ Hid (sortTo l k) ∧ Hid (Below w.heap.size w wr)) (fun vi _ => N - (intOf vi).toNat)
  case atStart => exact ⟨0, Nat.zero_le _, rfl, Lib.hid (sortTo_le (by omega)), Lib.hid (Below.refl _ _)⟩
  case round =>
    obtain ⟨k, hk, rfl, HS, HB⟩ := hrel
    by_cases hlt : k < N
    · have hkl : k < l.length := by rw [HN.out]; exact hlt
      have e1 : decide ((k : Int) < (N : Int)) = true := decide_eq_true (by omega)
      have k1 : (0 : Int) ≤ (k : Int) := by omega
      have k2 : (k : Int) < (N : Int) := by omega
      have hw3 : IntKind.i64.wrap ((k : Int) + 1) = ((k + 1 : Nat) : Int) := by rw [IntWalk.i64_in _ (by omega)]; omega
      obtain ⟨b, o, rfl, hb, hc⟩ := (HL.out.below HB.out).at_ (its_ne hkl)
      have hz := HB.out.size
      by_cases hk0 : k = 0
      · have hd : decide (0 < k) = false := by simp; omega
        have HF := Lib.hid (show sortTo l (k + 1) from sortTo_le (by omega))
        have HC : True := trivial
        clear hk0 hc
        go_wp2
        refine region_wz (fun W' => True) none (by kernel_rfl) ?_
        apply WZ.take (i := 0) (some 9) rfl rfl (by kernel_rfl) (by kernel_rfl) (by kernel_rfl) (calm_panic _) (by kernel_rfl)
        case hy => (refine .inl ⟨by kernel_rfl, fun W hC => ?_⟩; (try dsimp only at hC); go_simp; (try simp only [hd]); rfl)
        case hC => exact HC
        case ha => (simp only [Act.put, List.setIfInBounds_toArray, List.set_cons_zero, List.set_cons_succ]; rfl)
        apply WZ.take (i := 1) (some 10) rfl rfl (by kernel_rfl) (by kernel_rfl) (by kernel_rfl) (calm_panic _) (by kernel_rfl)
        case hy => (refine .inl ⟨by kernel_rfl, fun W hC => ?_⟩; (try dsimp only at hC); go_simp; (try simp only [hd]); rfl)
        case hC => exact HC
        case ha => (simp only [Act.put, List.setIfInBounds_toArray, List.set_cons_zero, List.set_cons_succ]; rfl)
        apply WZ.take (i := 2) (some 11) rfl rfl (by kernel_rfl) (by kernel_rfl) (by kernel_rfl) (calm_panic _) (by kernel_rfl)
        case hy => (refine .inl ⟨by kernel_rfl, fun W hC => ?_⟩; (try dsimp only at hC); go_simp; (try simp only [hd]); rfl)
        case hC => exact HC
        case ha => (simp only [Act.put, List.setIfInBounds_toArray, List.set_cons_zero, List.set_cons_succ]; rfl)
        apply WZ.take (i := 3) (some 12) rfl rfl (by kernel_rfl) (by kernel_rfl) (by kernel_rfl) (calm_panic _) (by kernel_rfl)
        case hy => exact .inr ⟨by kernel_rfl, rfl⟩
        case hC => exact HC
        case ha => (simp only [Act.put, List.setIfInBounds_toArray, List.set_cons_zero, List.set_cons_succ]; rfl)
        apply WZ.take (i := 4) (some 13) rfl rfl (by kernel_rfl) (by kernel_rfl) (by kernel_rfl) (calm_panic _) (by kernel_rfl)
        case hy => exact .inr ⟨by kernel_rfl, rfl⟩
        case hC => exact HC
        case ha => (simp only [Act.put, List.setIfInBounds_toArray, List.set_cons_zero, List.set_cons_succ]; rfl)
        apply WZ.take (i := 5) (some 14) rfl rfl (by kernel_rfl) (by kernel_rfl) (by kernel_rfl) (calm_panic _) (by kernel_rfl)
        case hy => exact .inr ⟨by kernel_rfl, rfl⟩
        case hC => exact HC
        case ha => (simp only [Act.put, List.setIfInBounds_toArray, List.set_cons_zero, List.set_cons_succ]; rfl)
        apply WZ.take (i := 6) (some 15) rfl rfl (by kernel_rfl) (by kernel_rfl) (by kernel_rfl) (calm_panic _) (by kernel_rfl)
        case hy => exact .inr ⟨by kernel_rfl, rfl⟩
        case hC => exact HC
        case ha => (simp only [Act.put, List.setIfInBounds_toArray, List.set_cons_zero, List.set_cons_succ]; rfl)
        apply WZ.take (i := 7) (some 16) rfl rfl (by kernel_rfl) (by kernel_rfl) (by kernel_rfl) (calm_panic _) (by kernel_rfl)
        case hy => exact .inr ⟨by kernel_rfl, rfl⟩
        case hC => exact HC
        case ha => (simp only [Act.put, List.setIfInBounds_toArray, List.set_cons_zero, List.set_cons_succ]; rfl)
        apply WZ.take (i := 8) (some 17) rfl rfl (by kernel_rfl) (by kernel_rfl) (by kernel_rfl) (calm_panic _) (by kernel_rfl)
        case hy => exact .inr ⟨by kernel_rfl, rfl⟩
        case hC => exact HC
        case ha => (simp only [Act.put, List.setIfInBounds_toArray, List.set_cons_zero, List.set_cons_succ]; rfl)
        apply WZ.take (i := 9) (some 18) rfl rfl (by kernel_rfl) (by kernel_rfl) (by kernel_rfl) (calm_panic _) (by kernel_rfl)
        case hy => exact .inr ⟨by kernel_rfl, rfl⟩
        case hC => exact HC
        case ha => (simp only [Act.put, List.setIfInBounds_toArray, List.set_cons_zero, List.set_cons_succ]; rfl)
        apply WZ.take (i := 10) (some 19) rfl rfl (by kernel_rfl) (by kernel_rfl) (by kernel_rfl) (calm_panic _) (by kernel_rfl)
        case hy => exact .inr ⟨by kernel_rfl, rfl⟩
        case hC => exact HC
        case ha => (simp only [Act.put, List.setIfInBounds_toArray, List.set_cons_zero, List.set_cons_succ]; rfl)
        apply WZ.take (i := 11) (some 20) rfl rfl (by kernel_rfl) (by kernel_rfl) (by kernel_rfl) (calm_panic _) (by kernel_rfl)
        case hy => exact .inr ⟨by kernel_rfl, rfl⟩
        case hC => exact HC
        case ha => (simp only [Act.put, List.setIfInBounds_toArray, List.set_cons_zero, List.set_cons_succ]; rfl)
        apply WZ.take (i := 12) (some 21) rfl rfl (by kernel_rfl) (by kernel_rfl) (by kernel_rfl) (calm_panic _) (by kernel_rfl)
        case hy => exact .inr ⟨by kernel_rfl, rfl⟩
        case hC => exact HC
        case ha => (simp only [Act.put, List.setIfInBounds_toArray, List.set_cons_zero, List.set_cons_succ]; rfl)
        apply WZ.take (i := 13) (some 22) rfl rfl (by kernel_rfl) (by kernel_rfl) (by kernel_rfl) (calm_panic _) (by kernel_rfl)
        case hy => exact .inr ⟨by kernel_rfl, rfl⟩
        case hC => exact HC
        case ha => (simp only [Act.put, List.setIfInBounds_toArray, List.set_cons_zero, List.set_cons_succ]; rfl)
        apply WZ.take (i := 14) (some 23) rfl rfl (by kernel_rfl) (by kernel_rfl) (by kernel_rfl) (calm_panic _) (by kernel_rfl)
        case hy => exact .inr ⟨by kernel_rfl, rfl⟩
        case hC => exact HC
        case ha => (simp only [Act.put, List.setIfInBounds_toArray, List.set_cons_zero, List.set_cons_succ]; rfl)
        apply WZ.take (i := 15) (some 24) rfl rfl (by kernel_rfl) (by kernel_rfl) (by kernel_rfl) (calm_panic _) (by kernel_rfl)
        case hy => exact .inr ⟨by kernel_rfl, rfl⟩
        case hC => exact HC
        case ha => (simp only [Act.put, List.setIfInBounds_toArray, List.set_cons_zero, List.set_cons_succ]; rfl)
        apply WZ.take (i := 16) (some 25) rfl rfl (by kernel_rfl) (by kernel_rfl) (by kernel_rfl) (calm_panic _) (by kernel_rfl)
        case hy => exact .inr ⟨by kernel_rfl, rfl⟩
        case hC => exact HC
        case ha => (simp only [Act.put, List.setIfInBounds_toArray, List.set_cons_zero, List.set_cons_succ]; rfl)
        apply WZ.take (i := 17) (some 26) rfl rfl (by kernel_rfl) (by kernel_rfl) (by kernel_rfl) (calm_panic _) (by kernel_rfl)
        case hy => exact .inr ⟨by kernel_rfl, rfl⟩
        case hC => exact HC
        case ha => (simp only [Act.put, List.setIfInBounds_toArray, List.set_cons_zero, List.set_cons_succ]; rfl)
        apply WZ.take (i := 18) (some 27) rfl rfl (by kernel_rfl) (by kernel_rfl) (by kernel_rfl) (calm_panic _) (by kernel_rfl)
        case hy => exact .inr ⟨by kernel_rfl, rfl⟩
        case hC => exact HC
        case ha => (simp only [Act.put, List.setIfInBounds_toArray, List.set_cons_zero, List.set_cons_succ]; rfl)
        apply WZ.take (i := 19) (some 28) rfl rfl (by kernel_rfl) (by kernel_rfl) (by kernel_rfl) (calm_panic _) (by kernel_rfl)
        case hy => exact .inr ⟨by kernel_rfl, rfl⟩
        case hC => exact HC
        case ha => (simp only [Act.put, List.setIfInBounds_toArray, List.set_cons_zero, List.set_cons_succ]; rfl)
        apply WZ.take (i := 20) (some 29) rfl rfl (by kernel_rfl) (by kernel_rfl) (by kernel_rfl) (calm_panic _) (by kernel_rfl)
        case hy => exact .inr ⟨by kernel_rfl, rfl⟩
        case hC => exact HC
        case ha => (simp only [Act.put, List.setIfInBounds_toArray, List.set_cons_zero, List.set_cons_succ]; rfl)
        apply WZ.take (i := 21) (some 30) rfl rfl (by kernel_rfl) (by kernel_rfl) (by kernel_rfl) (calm_panic _) (by kernel_rfl)
        case hy => exact .inr ⟨by kernel_rfl, rfl⟩
        case hC => exact HC
        case ha => (simp only [Act.put, List.setIfInBounds_toArray, List.set_cons_zero, List.set_cons_succ]; rfl)
        apply WZ.take (i := 22) (some 31) rfl rfl (by kernel_rfl) (by kernel_rfl) (by kernel_rfl) (calm_panic _) (by kernel_rfl)
        case hy => exact .inr ⟨by kernel_rfl, rfl⟩
        case hC => exact HC
        case ha => (simp only [Act.put, List.setIfInBounds_toArray, List.set_cons_zero, List.set_cons_succ]; rfl)
        apply WZ.take (i := 23) (some 32) rfl rfl (by kernel_rfl) (by kernel_rfl) (by kernel_rfl) (calm_panic _) (by kernel_rfl)
        case hy => exact .inr ⟨by kernel_rfl, rfl⟩
        case hC => exact HC
        case ha => (simp only [Act.put, List.setIfInBounds_toArray, List.set_cons_zero, List.set_cons_succ]; rfl)
        apply WZ.take (i := 24) (some 33) rfl rfl (by kernel_rfl) (by kernel_rfl) (by kernel_rfl) (calm_panic _) (by kernel_rfl)
        case hy => exact .inr ⟨by kernel_rfl, rfl⟩
        case hC => exact HC
        case ha => (simp only [Act.put, List.setIfInBounds_toArray, List.set_cons_zero, List.set_cons_succ]; rfl)
        apply WZ.take (i := 25) (some 34) rfl rfl (by kernel_rfl) (by kernel_rfl) (by kernel_rfl) (calm_panic _) (by kernel_rfl)
        case hy => exact .inr ⟨by kernel_rfl, rfl⟩
        case hC => exact HC
        case ha => (simp only [Act.put, List.setIfInBounds_toArray, List.set_cons_zero, List.set_cons_succ]; rfl)
        apply WZ.take (i := 26) (some 35) rfl rfl (by kernel_rfl) (by kernel_rfl) (by kernel_rfl) (calm_panic _) (by kernel_rfl)
        case hy => (refine .inl ⟨by kernel_rfl, fun W hC => ?_⟩; (try dsimp only at hC); go_simp; (try simp only [hd]); rfl)
        case hC => exact HC
        case ha => (simp only [Act.put, List.setIfInBounds_toArray, List.set_cons_zero, List.set_cons_succ]; rfl)
        refine WZ.done (by kernel_rfl) ?_ _
        simp only [Calm, Exit.then]
        go_wp2
        exact ⟨⟨k + 1, by omega, rfl, HF, Lib.hid (below_drewN' HB.out 1)⟩, by simp [intOf]; omega⟩
      · obtain ⟨j, hj⟩ : ∃ j, k = j + 1 := ⟨k - 1, by omega⟩
        have hjl : j < l.length := by omega
        have hd : decide (0 < k) = true := by simp; omega
        have hd1 : IntKind.i64.wrap ((k : Int) - 1) = (j : Int) := by rw [IntWalk.i64_in _ (by omega)]; omega
        have k3 : (0 : Int) ≤ (j : Int) := by omega
        have k4 : (j : Int) < (N : Int) := by omega
        have r1 := Rd.it_range hc j hjl
        have r2 := Rd.it_range hc k hkl
        have hstep := fun h => sortTo_succ HS.out hj hjl hkl h
        have hnot := fun h => sortTo_not hj hjl hkl h
        obtain ⟨x, hx⟩ : ∃ x, l[j] = x := ⟨_, rfl⟩
        obtain ⟨y, hy⟩ : ∃ y, l[k] = y := ⟨_, rfl⟩
        rw [hx] at r1 hstep hnot
        rw [hy] at r2 hstep hnot
        have HSTEP := Lib.hid hstep
        have HNOT := Lib.hid hnot
        have HC : wr.drew.rangeAt b (o + j * 7) x.vals ∧ wr.drew.rangeAt b (o + k * 7) y.vals := ⟨r1, r2⟩
        clear hc r1 r2 hstep hnot hx hy hk0 hj
        by_cases hcmp : x.cmp y < 0
        · have hcd : decide (0 ≤ x.cmp y) = false := decide_eq_false (by omega)
          have hcn : ¬ 0 ≤ x.cmp y := by omega
          have HCMP := Lib.hid hcmp
          cases hs : x.c.same y.c with
          | true =>
            have HF := Lib.hid (HNOT.out (cc_not_same hs))
            go_wp2
            refine region_wz (fun W' => W'.rangeAt b (o + j * 7) x.vals ∧ W'.rangeAt b (o + k * 7) y.vals) none (by kernel_rfl) ?_
            apply WZ.take (i := 0) (some 9) rfl rfl (by kernel_rfl) (by kernel_rfl) (by kernel_rfl) (calm_panic _) (by kernel_rfl)
            case hy => (refine .inl ⟨by kernel_rfl, fun W hC => ?_⟩; (try dsimp only at hC); go_simp; (try simp only [hd,hd1,hcd]); rfl)
            case hC => exact HC
            case ha => (simp only [Act.put, List.setIfInBounds_toArray, List.set_cons_zero, List.set_cons_succ]; rfl)
            apply WZ.take (i := 1) (some 10) rfl rfl (by kernel_rfl) (by kernel_rfl) (by kernel_rfl) (calm_panic _) (by kernel_rfl)
            case hy => (refine .inl ⟨by kernel_rfl, fun W hC => ?_⟩; (try dsimp only at hC); go_simp; (try simp only [hd,hd1,hcd]); rfl)
            case hC => exact HC
            case ha => (simp only [Act.put, List.setIfInBounds_toArray, List.set_cons_zero, List.set_cons_succ]; rfl)
            apply WZ.take (i := 2) (some 11) rfl rfl (by kernel_rfl) (by kernel_rfl) (by kernel_rfl) (calm_panic _) (by kernel_rfl)
            case hy => (refine .inl ⟨by kernel_rfl, fun W hC => ?_⟩; (try dsimp only at hC); go_simp; (try simp only [hd,hd1,hcd]); rfl)
            case hC => exact HC
            case ha => (simp only [Act.put, List.setIfInBounds_toArray, List.set_cons_zero, List.set_cons_succ]; rfl)
            apply WZ.take (i := 3) (some 12) rfl rfl (by kernel_rfl) (by kernel_rfl) (by kernel_rfl) (calm_panic _) (by kernel_rfl)
            case hy => (refine .inl ⟨by kernel_rfl, fun W hC => ?_⟩; (try dsimp only at hC); go_simp; (try simp only [hd,hd1,hcd]); rfl)
            case hC => exact HC
            case ha => (simp only [Act.put, List.setIfInBounds_toArray, List.set_cons_zero, List.set_cons_succ]; rfl)
            apply WZ.take (i := 4) (some 13) rfl rfl (by kernel_rfl) (by kernel_rfl) (by kernel_rfl) (calm_panic _) (by kernel_rfl)
            case hy => (refine .inl ⟨by kernel_rfl, fun W hC => ?_⟩; (try dsimp only at hC); go_simp; (try simp only [hd,hd1,hcd]); rfl)
            case hC => exact HC
            case ha => (simp only [Act.put, List.setIfInBounds_toArray, List.set_cons_zero, List.set_cons_succ]; rfl)
            apply WZ.take (i := 5) (some 14) rfl rfl (by kernel_rfl) (by kernel_rfl) (by kernel_rfl) (calm_panic _) (by kernel_rfl)
            case hy => (refine .inl ⟨by kernel_rfl, fun W hC => ?_⟩; (try dsimp only at hC); go_simp; (try simp only [hd,hd1,hcd]); rfl)
            case hC => exact HC
            case ha => (simp only [Act.put, List.setIfInBounds_toArray, List.set_cons_zero, List.set_cons_succ]; rfl)
            apply WZ.take (i := 6) (some 15) rfl rfl (by kernel_rfl) (by kernel_rfl) (by kernel_rfl) (calm_panic _) (by kernel_rfl)
            case hy => (refine .inl ⟨by kernel_rfl, fun W hC => ?_⟩; (try dsimp only at hC); go_simp; (try simp only [hd,hd1,hcd]); rfl)
            case hC => exact HC
            case ha => (simp only [Act.put, List.setIfInBounds_toArray, List.set_cons_zero, List.set_cons_succ]; rfl)
            apply WZ.take (i := 7) (some 16) rfl rfl (by kernel_rfl) (by kernel_rfl) (by kernel_rfl) (calm_panic _) (by kernel_rfl)
            case hy => first | (apply yieldsIf_load_mid (by kernel_rfl) _ _ rfl _ _ rfl; (case hS => (intro W hC; exact (show World.rangeAt _ _ _ (It.vals _) from hC.1))); (case hu => exact Try.underlying48); (case hd => rfl); (case hi => kernel_rfl)) | (apply yieldsIf_load_mid (by kernel_rfl) _ _ rfl _ _ rfl; (case hS => (intro W hC; exact (show World.rangeAt _ _ _ (It.vals _) from hC.2.1))); (case hu => exact Try.underlying48); (case hd => rfl); (case hi => kernel_rfl)) | (apply yieldsIf_load_mid (by kernel_rfl) _ _ rfl _ _ rfl; (case hS => (intro W hC; exact (show World.rangeAt _ _ _ (It.vals _) from hC.2.2.1))); (case hu => exact Try.underlying48); (case hd => rfl); (case hi => kernel_rfl)) | (apply yieldsIf_load_mid (by kernel_rfl) _ _ rfl _ _ rfl; (case hS => (intro W hC; exact (show World.rangeAt _ _ _ (It.vals _) from hC.2.2.2.1))); (case hu => exact Try.underlying48); (case hd => rfl); (case hi => kernel_rfl)) | (apply yieldsIf_load_mid (by kernel_rfl) _ _ rfl _ _ rfl; (case hS => (intro W hC; exact (show World.rangeAt _ _ _ (It.vals _) from hC.2.2.2))); (case hu => exact Try.underlying48); (case hd => rfl); (case hi => kernel_rfl)) | (apply yieldsIf_load_mid (by kernel_rfl) _ _ rfl _ _ rfl; (case hS => (intro W hC; exact (show World.rangeAt _ _ _ (It.vals _) from hC.2.2))); (case hu => exact Try.underlying48); (case hd => rfl); (case hi => kernel_rfl)) | (apply yieldsIf_load_mid (by kernel_rfl) _ _ rfl _ _ rfl; (case hS => (intro W hC; exact (show World.rangeAt _ _ _ (It.vals _) from hC.2))); (case hu => exact Try.underlying48); (case hd => rfl); (case hi => kernel_rfl)) | (apply yieldsIf_load_mid (by kernel_rfl) _ _ rfl _ _ rfl; (case hS => (intro W hC; exact (show World.rangeAt _ _ _ (It.vals _) from hC))); (case hu => exact Try.underlying48); (case hd => rfl); (case hi => kernel_rfl))
            case hC => exact HC
            case ha => (simp only [Act.put, List.setIfInBounds_toArray, List.set_cons_zero, List.set_cons_succ]; rfl)
            apply WZ.take (i := 8) (some 17) rfl rfl (by kernel_rfl) (by kernel_rfl) (by kernel_rfl) (calm_panic _) (by kernel_rfl)
            case hy => (refine .inl ⟨by kernel_rfl, fun W hC => ?_⟩; (try dsimp only at hC); go_simp; (try simp only [hd,hd1,hcd]); rfl)
            case hC => exact HC
            case ha => (simp only [Act.put, List.setIfInBounds_toArray, List.set_cons_zero, List.set_cons_succ]; rfl)
            apply WZ.take (i := 9) (some 18) rfl rfl (by kernel_rfl) (by kernel_rfl) (by kernel_rfl) (calm_panic _) (by kernel_rfl)
            case hy => (refine .inl ⟨by kernel_rfl, fun W hC => ?_⟩; (try dsimp only at hC); go_simp; (try simp only [hd,hd1,hcd]); rfl)
            case hC => exact HC
            case ha => (simp only [Act.put, List.setIfInBounds_toArray, List.set_cons_zero, List.set_cons_succ]; rfl)
            apply WZ.take (i := 10) (some 19) rfl rfl (by kernel_rfl) (by kernel_rfl) (by kernel_rfl) (calm_panic _) (by kernel_rfl)
            case hy => (refine .inl ⟨by kernel_rfl, fun W hC => ?_⟩; (try dsimp only at hC); go_simp; (try simp only [hd,hd1,hcd]); rfl)
            case hC => exact HC
            case ha => (simp only [Act.put, List.setIfInBounds_toArray, List.set_cons_zero, List.set_cons_succ]; rfl)
            apply WZ.take (i := 11) (some 20) rfl rfl (by kernel_rfl) (by kernel_rfl) (by kernel_rfl) (calm_panic _) (by kernel_rfl)
            case hy => first | (apply yieldsIf_load_mid (by kernel_rfl) _ _ rfl _ _ rfl; (case hS => (intro W hC; exact (show World.rangeAt _ _ _ (It.vals _) from hC.1))); (case hu => exact Try.underlying48); (case hd => rfl); (case hi => kernel_rfl)) | (apply yieldsIf_load_mid (by kernel_rfl) _ _ rfl _ _ rfl; (case hS => (intro W hC; exact (show World.rangeAt _ _ _ (It.vals _) from hC.2.1))); (case hu => exact Try.underlying48); (case hd => rfl); (case hi => kernel_rfl)) | (apply yieldsIf_load_mid (by kernel_rfl) _ _ rfl _ _ rfl; (case hS => (intro W hC; exact (show World.rangeAt _ _ _ (It.vals _) from hC.2.2.1))); (case hu => exact Try.underlying48); (case hd => rfl); (case hi => kernel_rfl)) | (apply yieldsIf_load_mid (by kernel_rfl) _ _ rfl _ _ rfl; (case hS => (intro W hC; exact (show World.rangeAt _ _ _ (It.vals _) from hC.2.2.2.1))); (case hu => exact Try.underlying48); (case hd => rfl); (case hi => kernel_rfl)) | (apply yieldsIf_load_mid (by kernel_rfl) _ _ rfl _ _ rfl; (case hS => (intro W hC; exact (show World.rangeAt _ _ _ (It.vals _) from hC.2.2.2))); (case hu => exact Try.underlying48); (case hd => rfl); (case hi => kernel_rfl)) | (apply yieldsIf_load_mid (by kernel_rfl) _ _ rfl _ _ rfl; (case hS => (intro W hC; exact (show World.rangeAt _ _ _ (It.vals _) from hC.2.2))); (case hu => exact Try.underlying48); (case hd => rfl); (case hi => kernel_rfl)) | (apply yieldsIf_load_mid (by kernel_rfl) _ _ rfl _ _ rfl; (case hS => (intro W hC; exact (show World.rangeAt _ _ _ (It.vals _) from hC.2))); (case hu => exact Try.underlying48); (case hd => rfl); (case hi => kernel_rfl)) | (apply yieldsIf_load_mid (by kernel_rfl) _ _ rfl _ _ rfl; (case hS => (intro W hC; exact (show World.rangeAt _ _ _ (It.vals _) from hC))); (case hu => exact Try.underlying48); (case hd => rfl); (case hi => kernel_rfl))
            case hC => exact HC
            case ha => (simp only [Act.put, List.setIfInBounds_toArray, List.set_cons_zero, List.set_cons_succ]; rfl)
            -- 12
            refine WZ.one (i := 12) rfl (by kernel_rfl) ?_
            conv => arg 4; arg 1; whnf
            go_wp2_with (go_at_call 24; refine (itemCompare_any x y _).mono ?_; rintro e w1 ⟨rfl, hb1⟩)
            have HB1 := Lib.hid (HB.out.trans (below_of_drew' (hb1.mono HB.out.size)))
            have HC : w1.rangeAt b (o + j * 7) x.vals ∧ w1.rangeAt b (o + k * 7) y.vals := ⟨rangeAt_below HC.1 hb1 (show b < wr.heap.size by omega), rangeAt_below HC.2 hb1 (show b < wr.heap.size by omega)⟩
            have hz1 : wr.heap.size ≤ w1.heap.size := hb1.size
            clear hb1
            refine ⟨HC, ?_⟩
            apply WZ.take (i := 13) (some 22) rfl rfl (by kernel_rfl) (by kernel_rfl) (by kernel_rfl) (calm_panic _) (by kernel_rfl)
            case hy => (refine .inl ⟨by kernel_rfl, fun W hC => ?_⟩; (try dsimp only at hC); go_simp; (try simp only [hd,hd1,hcd]); rfl)
            case hC => exact HC
            case ha => (simp only [Act.put, List.setIfInBounds_toArray, List.set_cons_zero, List.set_cons_succ]; rfl)
            apply WZ.take (i := 14) (some 23) rfl rfl (by kernel_rfl) (by kernel_rfl) (by kernel_rfl) (calm_panic _) (by kernel_rfl)
            case hy => (refine .inl ⟨by kernel_rfl, fun W hC => ?_⟩; (try dsimp only at hC); go_simp; (try simp only [hd,hd1,hcd]); rfl)
            case hC => exact HC
            case ha => (simp only [Act.put, List.setIfInBounds_toArray, List.set_cons_zero, List.set_cons_succ]; rfl)
            apply WZ.take (i := 15) (some 24) rfl rfl (by kernel_rfl) (by kernel_rfl) (by kernel_rfl) (calm_panic _) (by kernel_rfl)
            case hy => (refine .inl ⟨by kernel_rfl, fun W hC => ?_⟩; (try dsimp only at hC); go_simp; (try simp only [hd,hd1,hcd]); rfl)
            case hC => exact HC
            case ha => (simp only [Act.put, List.setIfInBounds_toArray, List.set_cons_zero, List.set_cons_succ]; rfl)
            apply WZ.take (i := 16) (some 25) rfl rfl (by kernel_rfl) (by kernel_rfl) (by kernel_rfl) (calm_panic _) (by kernel_rfl)
            case hy => (refine .inl ⟨by kernel_rfl, fun W hC => ?_⟩; (try dsimp only at hC); go_simp; (try simp only [hd,hd1,hcd]); rfl)
            case hC => exact HC
            case ha => (simp only [Act.put, List.setIfInBounds_toArray, List.set_cons_zero, List.set_cons_succ]; rfl)
            apply WZ.take (i := 17) (some 26) rfl rfl (by kernel_rfl) (by kernel_rfl) (by kernel_rfl) (calm_panic _) (by kernel_rfl)
            case hy => (refine .inl ⟨by kernel_rfl, fun W hC => ?_⟩; (try dsimp only at hC); go_simp; (try simp only [hd,hd1,hcd]); rfl)
            case hC => exact HC
            case ha => (simp only [Act.put, List.setIfInBounds_toArray, List.set_cons_zero, List.set_cons_succ]; rfl)
            apply WZ.take (i := 18) (some 27) rfl rfl (by kernel_rfl) (by kernel_rfl) (by kernel_rfl) (calm_panic _) (by kernel_rfl)
            case hy => (refine .inl ⟨by kernel_rfl, fun W hC => ?_⟩; (try dsimp only at hC); go_simp; (try simp only [hd,hd1,hcd]); rfl)
            case hC => exact HC
            case ha => (simp only [Act.put, List.setIfInBounds_toArray, List.set_cons_zero, List.set_cons_succ]; rfl)
            apply WZ.take (i := 19) (some 28) rfl rfl (by kernel_rfl) (by kernel_rfl) (by kernel_rfl) (calm_panic _) (by kernel_rfl)
            case hy => first | (apply yieldsIf_load_mid (by kernel_rfl) _ _ rfl _ _ rfl; (case hS => (intro W hC; exact (show World.rangeAt _ _ _ (It.vals _) from hC.1))); (case hu => exact Try.underlying48); (case hd => rfl); (case hi => kernel_rfl)) | (apply yieldsIf_load_mid (by kernel_rfl) _ _ rfl _ _ rfl; (case hS => (intro W hC; exact (show World.rangeAt _ _ _ (It.vals _) from hC.2.1))); (case hu => exact Try.underlying48); (case hd => rfl); (case hi => kernel_rfl)) | (apply yieldsIf_load_mid (by kernel_rfl) _ _ rfl _ _ rfl; (case hS => (intro W hC; exact (show World.rangeAt _ _ _ (It.vals _) from hC.2.2.1))); (case hu => exact Try.underlying48); (case hd => rfl); (case hi => kernel_rfl)) | (apply yieldsIf_load_mid (by kernel_rfl) _ _ rfl _ _ rfl; (case hS => (intro W hC; exact (show World.rangeAt _ _ _ (It.vals _) from hC.2.2.2.1))); (case hu => exact Try.underlying48); (case hd => rfl); (case hi => kernel_rfl)) | (apply yieldsIf_load_mid (by kernel_rfl) _ _ rfl _ _ rfl; (case hS => (intro W hC; exact (show World.rangeAt _ _ _ (It.vals _) from hC.2.2.2))); (case hu => exact Try.underlying48); (case hd => rfl); (case hi => kernel_rfl)) | (apply yieldsIf_load_mid (by kernel_rfl) _ _ rfl _ _ rfl; (case hS => (intro W hC; exact (show World.rangeAt _ _ _ (It.vals _) from hC.2.2))); (case hu => exact Try.underlying48); (case hd => rfl); (case hi => kernel_rfl)) | (apply yieldsIf_load_mid (by kernel_rfl) _ _ rfl _ _ rfl; (case hS => (intro W hC; exact (show World.rangeAt _ _ _ (It.vals _) from hC.2))); (case hu => exact Try.underlying48); (case hd => rfl); (case hi => kernel_rfl)) | (apply yieldsIf_load_mid (by kernel_rfl) _ _ rfl _ _ rfl; (case hS => (intro W hC; exact (show World.rangeAt _ _ _ (It.vals _) from hC))); (case hu => exact Try.underlying48); (case hd => rfl); (case hi => kernel_rfl))
            case hC => exact HC
            case ha => (simp only [Act.put, List.setIfInBounds_toArray, List.set_cons_zero, List.set_cons_succ]; rfl)
            apply WZ.take (i := 20) (some 29) rfl rfl (by kernel_rfl) (by kernel_rfl) (by kernel_rfl) (calm_panic _) (by kernel_rfl)
            case hy => (refine .inl ⟨by kernel_rfl, fun W hC => ?_⟩; (try dsimp only at hC); go_simp; (try simp only [hd,hd1,hcd]); rfl)
            case hC => exact HC
            case ha => (simp only [Act.put, List.setIfInBounds_toArray, List.set_cons_zero, List.set_cons_succ]; rfl)
            apply WZ.take (i := 21) (some 30) rfl rfl (by kernel_rfl) (by kernel_rfl) (by kernel_rfl) (calm_panic _) (by kernel_rfl)
            case hy => (refine .inl ⟨by kernel_rfl, fun W hC => ?_⟩; (try dsimp only at hC); go_simp; (try simp only [hd,hd1,hcd]); rfl)
            case hC => exact HC
            case ha => (simp only [Act.put, List.setIfInBounds_toArray, List.set_cons_zero, List.set_cons_succ]; rfl)
            apply WZ.take (i := 22) (some 31) rfl rfl (by kernel_rfl) (by kernel_rfl) (by kernel_rfl) (calm_panic _) (by kernel_rfl)
            case hy => (refine .inl ⟨by kernel_rfl, fun W hC => ?_⟩; (try dsimp only at hC); go_simp; (try simp only [hd,hd1,hcd]); rfl)
            case hC => exact HC
            case ha => (simp only [Act.put, List.setIfInBounds_toArray, List.set_cons_zero, List.set_cons_succ]; rfl)
            apply WZ.take (i := 23) (some 32) rfl rfl (by kernel_rfl) (by kernel_rfl) (by kernel_rfl) (calm_panic _) (by kernel_rfl)
            case hy => first | (apply yieldsIf_load_mid (by kernel_rfl) _ _ rfl _ _ rfl; (case hS => (intro W hC; exact (show World.rangeAt _ _ _ (It.vals _) from hC.1))); (case hu => exact Try.underlying48); (case hd => rfl); (case hi => kernel_rfl)) | (apply yieldsIf_load_mid (by kernel_rfl) _ _ rfl _ _ rfl; (case hS => (intro W hC; exact (show World.rangeAt _ _ _ (It.vals _) from hC.2.1))); (case hu => exact Try.underlying48); (case hd => rfl); (case hi => kernel_rfl)) | (apply yieldsIf_load_mid (by kernel_rfl) _ _ rfl _ _ rfl; (case hS => (intro W hC; exact (show World.rangeAt _ _ _ (It.vals _) from hC.2.2.1))); (case hu => exact Try.underlying48); (case hd => rfl); (case hi => kernel_rfl)) | (apply yieldsIf_load_mid (by kernel_rfl) _ _ rfl _ _ rfl; (case hS => (intro W hC; exact (show World.rangeAt _ _ _ (It.vals _) from hC.2.2.2.1))); (case hu => exact Try.underlying48); (case hd => rfl); (case hi => kernel_rfl)) | (apply yieldsIf_load_mid (by kernel_rfl) _ _ rfl _ _ rfl; (case hS => (intro W hC; exact (show World.rangeAt _ _ _ (It.vals _) from hC.2.2.2))); (case hu => exact Try.underlying48); (case hd => rfl); (case hi => kernel_rfl)) | (apply yieldsIf_load_mid (by kernel_rfl) _ _ rfl _ _ rfl; (case hS => (intro W hC; exact (show World.rangeAt _ _ _ (It.vals _) from hC.2.2))); (case hu => exact Try.underlying48); (case hd => rfl); (case hi => kernel_rfl)) | (apply yieldsIf_load_mid (by kernel_rfl) _ _ rfl _ _ rfl; (case hS => (intro W hC; exact (show World.rangeAt _ _ _ (It.vals _) from hC.2))); (case hu => exact Try.underlying48); (case hd => rfl); (case hi => kernel_rfl)) | (apply yieldsIf_load_mid (by kernel_rfl) _ _ rfl _ _ rfl; (case hS => (intro W hC; exact (show World.rangeAt _ _ _ (It.vals _) from hC))); (case hu => exact Try.underlying48); (case hd => rfl); (case hi => kernel_rfl))
            case hC => exact HC
            case ha => (simp only [Act.put, List.setIfInBounds_toArray, List.set_cons_zero, List.set_cons_succ]; rfl)
            -- 24
            refine WZ.one (i := 24) rfl (by kernel_rfl) ?_
            conv => arg 4; arg 1; whnf
            go_wp2_with (go_at_call 25; refine (itemSame_any x y _).mono ?_; rintro e w2 ⟨rfl, hb2⟩)
            have HB2 := Lib.hid (HB1.out.trans (hb2.mono HB1.out.size))
            have HC : w2.rangeAt b (o + j * 7) x.vals ∧ w2.rangeAt b (o + k * 7) y.vals := ⟨rangeAt_below HC.1 hb2 (show b < w1.heap.size by omega), rangeAt_below HC.2 hb2 (show b < w1.heap.size by omega)⟩
            clear hb2
            refine ⟨HC, ?_⟩
            apply WZ.take (i := 25) (some 34) rfl rfl (by kernel_rfl) (by kernel_rfl) (by kernel_rfl) (calm_panic _) (by kernel_rfl)
            case hy => (refine .inl ⟨by kernel_rfl, fun W hC => ?_⟩; (try dsimp only at hC); go_simp; (try simp only [hd,hd1,hcd]); rfl)
            case hC => exact HC
            case ha => (simp only [Act.put, List.setIfInBounds_toArray, List.set_cons_zero, List.set_cons_succ]; rfl)
            apply WZ.take (i := 26) (some 35) rfl rfl (by kernel_rfl) (by kernel_rfl) (by kernel_rfl) (calm_panic _) (by kernel_rfl)
            case hy => (refine .inl ⟨by kernel_rfl, fun W hC => ?_⟩; (try dsimp only at hC); go_simp; (try simp only [hd,hd1,hcd]); rfl)
            case hC => exact HC
            case ha => (simp only [Act.put, List.setIfInBounds_toArray, List.set_cons_zero, List.set_cons_succ]; rfl)
            refine WZ.done (by kernel_rfl) ?_ _
            simp only [Calm, Exit.then]
            go_wp2
            go_ret
            exact ⟨ret_bool HF.out, HB2.out⟩
          | false =>
            have HF := Lib.hid (HSTEP.out (cc_of_tests hcmp hs))
            go_wp2
            refine region_wz (fun W' => W'.rangeAt b (o + j * 7) x.vals ∧ W'.rangeAt b (o + k * 7) y.vals) none (by kernel_rfl) ?_
            apply WZ.take (i := 0) (some 9) rfl rfl (by kernel_rfl) (by kernel_rfl) (by kernel_rfl) (calm_panic _) (by kernel_rfl)
            case hy => (refine .inl ⟨by kernel_rfl, fun W hC => ?_⟩; (try dsimp only at hC); go_simp; (try simp only [hd,hd1,hcd]); rfl)
            case hC => exact HC
            case ha => (simp only [Act.put, List.setIfInBounds_toArray, List.set_cons_zero, List.set_cons_succ]; rfl)
            apply WZ.take (i := 1) (some 10) rfl rfl (by kernel_rfl) (by kernel_rfl) (by kernel_rfl) (calm_panic _) (by kernel_rfl)
            case hy => (refine .inl ⟨by kernel_rfl, fun W hC => ?_⟩; (try dsimp only at hC); go_simp; (try simp only [hd,hd1,hcd]); rfl)
            case hC => exact HC
            case ha => (simp only [Act.put, List.setIfInBounds_toArray, List.set_cons_zero, List.set_cons_succ]; rfl)
            apply WZ.take (i := 2) (some 11) rfl rfl (by kernel_rfl) (by kernel_rfl) (by kernel_rfl) (calm_panic _) (by kernel_rfl)
            case hy => (refine .inl ⟨by kernel_rfl, fun W hC => ?_⟩; (try dsimp only at hC); go_simp; (try simp only [hd,hd1,hcd]); rfl)
            case hC => exact HC
            case ha => (simp only [Act.put, List.setIfInBounds_toArray, List.set_cons_zero, List.set_cons_succ]; rfl)
            apply WZ.take (i := 3) (some 12) rfl rfl (by kernel_rfl) (by kernel_rfl) (by kernel_rfl) (calm_panic _) (by kernel_rfl)
            case hy => (refine .inl ⟨by kernel_rfl, fun W hC => ?_⟩; (try dsimp only at hC); go_simp; (try simp only [hd,hd1,hcd]); rfl)
            case hC => exact HC
            case ha => (simp only [Act.put, List.setIfInBounds_toArray, List.set_cons_zero, List.set_cons_succ]; rfl)
            apply WZ.take (i := 4) (some 13) rfl rfl (by kernel_rfl) (by kernel_rfl) (by kernel_rfl) (calm_panic _) (by kernel_rfl)
            case hy => (refine .inl ⟨by kernel_rfl, fun W hC => ?_⟩; (try dsimp only at hC); go_simp; (try simp only [hd,hd1,hcd]); rfl)
            case hC => exact HC
            case ha => (simp only [Act.put, List.setIfInBounds_toArray, List.set_cons_zero, List.set_cons_succ]; rfl)
            apply WZ.take (i := 5) (some 14) rfl rfl (by kernel_rfl) (by kernel_rfl) (by kernel_rfl) (calm_panic _) (by kernel_rfl)
            case hy => (refine .inl ⟨by kernel_rfl, fun W hC => ?_⟩; (try dsimp only at hC); go_simp; (try simp only [hd,hd1,hcd]); rfl)
            case hC => exact HC
            case ha => (simp only [Act.put, List.setIfInBounds_toArray, List.set_cons_zero, List.set_cons_succ]; rfl)
            apply WZ.take (i := 6) (some 15) rfl rfl (by kernel_rfl) (by kernel_rfl) (by kernel_rfl) (calm_panic _) (by kernel_rfl)
            case hy => (refine .inl ⟨by kernel_rfl, fun W hC => ?_⟩; (try dsimp only at hC); go_simp; (try simp only [hd,hd1,hcd]); rfl)
            case hC => exact HC
            case ha => (simp only [Act.put, List.setIfInBounds_toArray, List.set_cons_zero, List.set_cons_succ]; rfl)
            apply WZ.take (i := 7) (some 16) rfl rfl (by kernel_rfl) (by kernel_rfl) (by kernel_rfl) (calm_panic _) (by kernel_rfl)
            case hy => first | (apply yieldsIf_load_mid (by kernel_rfl) _ _ rfl _ _ rfl; (case hS => (intro W hC; exact (show World.rangeAt _ _ _ (It.vals _) from hC.1))); (case hu => exact Try.underlying48); (case hd => rfl); (case hi => kernel_rfl)) | (apply yieldsIf_load_mid (by kernel_rfl) _ _ rfl _ _ rfl; (case hS => (intro W hC; exact (show World.rangeAt _ _ _ (It.vals _) from hC.2.1))); (case hu => exact Try.underlying48); (case hd => rfl); (case hi => kernel_rfl)) | (apply yieldsIf_load_mid (by kernel_rfl) _ _ rfl _ _ rfl; (case hS => (intro W hC; exact (show World.rangeAt _ _ _ (It.vals _) from hC.2.2.1))); (case hu => exact Try.underlying48); (case hd => rfl); (case hi => kernel_rfl)) | (apply yieldsIf_load_mid (by kernel_rfl) _ _ rfl _ _ rfl; (case hS => (intro W hC; exact (show World.rangeAt _ _ _ (It.vals _) from hC.2.2.2.1))); (case hu => exact Try.underlying48); (case hd => rfl); (case hi => kernel_rfl)) | (apply yieldsIf_load_mid (by kernel_rfl) _ _ rfl _ _ rfl; (case hS => (intro W hC; exact (show World.rangeAt _ _ _ (It.vals _) from hC.2.2.2))); (case hu => exact Try.underlying48); (case hd => rfl); (case hi => kernel_rfl)) | (apply yieldsIf_load_mid (by kernel_rfl) _ _ rfl _ _ rfl; (case hS => (intro W hC; exact (show World.rangeAt _ _ _ (It.vals _) from hC.2.2))); (case hu => exact Try.underlying48); (case hd => rfl); (case hi => kernel_rfl)) | (apply yieldsIf_load_mid (by kernel_rfl) _ _ rfl _ _ rfl; (case hS => (intro W hC; exact (show World.rangeAt _ _ _ (It.vals _) from hC.2))); (case hu => exact Try.underlying48); (case hd => rfl); (case hi => kernel_rfl)) | (apply yieldsIf_load_mid (by kernel_rfl) _ _ rfl _ _ rfl; (case hS => (intro W hC; exact (show World.rangeAt _ _ _ (It.vals _) from hC))); (case hu => exact Try.underlying48); (case hd => rfl); (case hi => kernel_rfl))
            case hC => exact HC
            case ha => (simp only [Act.put, List.setIfInBounds_toArray, List.set_cons_zero, List.set_cons_succ]; rfl)
            apply WZ.take (i := 8) (some 17) rfl rfl (by kernel_rfl) (by kernel_rfl) (by kernel_rfl) (calm_panic _) (by kernel_rfl)
            case hy => (refine .inl ⟨by kernel_rfl, fun W hC => ?_⟩; (try dsimp only at hC); go_simp; (try simp only [hd,hd1,hcd]); rfl)
            case hC => exact HC
            case ha => (simp only [Act.put, List.setIfInBounds_toArray, List.set_cons_zero, List.set_cons_succ]; rfl)
            apply WZ.take (i := 9) (some 18) rfl rfl (by kernel_rfl) (by kernel_rfl) (by kernel_rfl) (calm_panic _) (by kernel_rfl)
            case hy => (refine .inl ⟨by kernel_rfl, fun W hC => ?_⟩; (try dsimp only at hC); go_simp; (try simp only [hd,hd1,hcd]); rfl)
            case hC => exact HC
            case ha => (simp only [Act.put, List.setIfInBounds_toArray, List.set_cons_zero, List.set_cons_succ]; rfl)
            apply WZ.take (i := 10) (some 19) rfl rfl (by kernel_rfl) (by kernel_rfl) (by kernel_rfl) (calm_panic _) (by kernel_rfl)
            case hy => (refine .inl ⟨by kernel_rfl, fun W hC => ?_⟩; (try dsimp only at hC); go_simp; (try simp only [hd,hd1,hcd]); rfl)
            case hC => exact HC
            case ha => (simp only [Act.put, List.setIfInBounds_toArray, List.set_cons_zero, List.set_cons_succ]; rfl)
            apply WZ.take (i := 11) (some 20) rfl rfl (by kernel_rfl) (by kernel_rfl) (by kernel_rfl) (calm_panic _) (by kernel_rfl)
            case hy => first | (apply yieldsIf_load_mid (by kernel_rfl) _ _ rfl _ _ rfl; (case hS => (intro W hC; exact (show World.rangeAt _ _ _ (It.vals _) from hC.1))); (case hu => exact Try.underlying48); (case hd => rfl); (case hi => kernel_rfl)) | (apply yieldsIf_load_mid (by kernel_rfl) _ _ rfl _ _ rfl; (case hS => (intro W hC; exact (show World.rangeAt _ _ _ (It.vals _) from hC.2.1))); (case hu => exact Try.underlying48); (case hd => rfl); (case hi => kernel_rfl)) | (apply yieldsIf_load_mid (by kernel_rfl) _ _ rfl _ _ rfl; (case hS => (intro W hC; exact (show World.rangeAt _ _ _ (It.vals _) from hC.2.2.1))); (case hu => exact Try.underlying48); (case hd => rfl); (case hi => kernel_rfl)) | (apply yieldsIf_load_mid (by kernel_rfl) _ _ rfl _ _ rfl; (case hS => (intro W hC; exact (show World.rangeAt _ _ _ (It.vals _) from hC.2.2.2.1))); (case hu => exact Try.underlying48); (case hd => rfl); (case hi => kernel_rfl)) | (apply yieldsIf_load_mid (by kernel_rfl) _ _ rfl _ _ rfl; (case hS => (intro W hC; exact (show World.rangeAt _ _ _ (It.vals _) from hC.2.2.2))); (case hu => exact Try.underlying48); (case hd => rfl); (case hi => kernel_rfl)) | (apply yieldsIf_load_mid (by kernel_rfl) _ _ rfl _ _ rfl; (case hS => (intro W hC; exact (show World.rangeAt _ _ _ (It.vals _) from hC.2.2))); (case hu => exact Try.underlying48); (case hd => rfl); (case hi => kernel_rfl)) | (apply yieldsIf_load_mid (by kernel_rfl) _ _ rfl _ _ rfl; (case hS => (intro W hC; exact (show World.rangeAt _ _ _ (It.vals _) from hC.2))); (case hu => exact Try.underlying48); (case hd => rfl); (case hi => kernel_rfl)) | (apply yieldsIf_load_mid (by kernel_rfl) _ _ rfl _ _ rfl; (case hS => (intro W hC; exact (show World.rangeAt _ _ _ (It.vals _) from hC))); (case hu => exact Try.underlying48); (case hd => rfl); (case hi => kernel_rfl))
            case hC => exact HC
            case ha => (simp only [Act.put, List.setIfInBounds_toArray, List.set_cons_zero, List.set_cons_succ]; rfl)
            -- 12
            refine WZ.one (i := 12) rfl (by kernel_rfl) ?_
            conv => arg 4; arg 1; whnf
            go_wp2_with (go_at_call 24; refine (itemCompare_any x y _).mono ?_; rintro e w1 ⟨rfl, hb1⟩)
            have HB1 := Lib.hid (HB.out.trans (below_of_drew' (hb1.mono HB.out.size)))
            have HC : w1.rangeAt b (o + j * 7) x.vals ∧ w1.rangeAt b (o + k * 7) y.vals := ⟨rangeAt_below HC.1 hb1 (show b < wr.heap.size by omega), rangeAt_below HC.2 hb1 (show b < wr.heap.size by omega)⟩
            have hz1 : wr.heap.size ≤ w1.heap.size := hb1.size
            clear hb1
            refine ⟨HC, ?_⟩
            apply WZ.take (i := 13) (some 22) rfl rfl (by kernel_rfl) (by kernel_rfl) (by kernel_rfl) (calm_panic _) (by kernel_rfl)
            case hy => (refine .inl ⟨by kernel_rfl, fun W hC => ?_⟩; (try dsimp only at hC); go_simp; (try simp only [hd,hd1,hcd]); rfl)
            case hC => exact HC
            case ha => (simp only [Act.put, List.setIfInBounds_toArray, List.set_cons_zero, List.set_cons_succ]; rfl)
            apply WZ.take (i := 14) (some 23) rfl rfl (by kernel_rfl) (by kernel_rfl) (by kernel_rfl) (calm_panic _) (by kernel_rfl)
            case hy => (refine .inl ⟨by kernel_rfl, fun W hC => ?_⟩; (try dsimp only at hC); go_simp; (try simp only [hd,hd1,hcd]); rfl)
            case hC => exact HC
            case ha => (simp only [Act.put, List.setIfInBounds_toArray, List.set_cons_zero, List.set_cons_succ]; rfl)
            apply WZ.take (i := 15) (some 24) rfl rfl (by kernel_rfl) (by kernel_rfl) (by kernel_rfl) (calm_panic _) (by kernel_rfl)
            case hy => (refine .inl ⟨by kernel_rfl, fun W hC => ?_⟩; (try dsimp only at hC); go_simp; (try simp only [hd,hd1,hcd]); rfl)
            case hC => exact HC
            case ha => (simp only [Act.put, List.setIfInBounds_toArray, List.set_cons_zero, List.set_cons_succ]; rfl)
            apply WZ.take (i := 16) (some 25) rfl rfl (by kernel_rfl) (by kernel_rfl) (by kernel_rfl) (calm_panic _) (by kernel_rfl)
            case hy => (refine .inl ⟨by kernel_rfl, fun W hC => ?_⟩; (try dsimp only at hC); go_simp; (try simp only [hd,hd1,hcd]); rfl)
            case hC => exact HC
            case ha => (simp only [Act.put, List.setIfInBounds_toArray, List.set_cons_zero, List.set_cons_succ]; rfl)
            apply WZ.take (i := 17) (some 26) rfl rfl (by kernel_rfl) (by kernel_rfl) (by kernel_rfl) (calm_panic _) (by kernel_rfl)
            case hy => (refine .inl ⟨by kernel_rfl, fun W hC => ?_⟩; (try dsimp only at hC); go_simp; (try simp only [hd,hd1,hcd]); rfl)
            case hC => exact HC
            case ha => (simp only [Act.put, List.setIfInBounds_toArray, List.set_cons_zero, List.set_cons_succ]; rfl)
            apply WZ.take (i := 18) (some 27) rfl rfl (by kernel_rfl) (by kernel_rfl) (by kernel_rfl) (calm_panic _) (by kernel_rfl)
            case hy => (refine .inl ⟨by kernel_rfl, fun W hC => ?_⟩; (try dsimp only at hC); go_simp; (try simp only [hd,hd1,hcd]); rfl)
            case hC => exact HC
            case ha => (simp only [Act.put, List.setIfInBounds_toArray, List.set_cons_zero, List.set_cons_succ]; rfl)
            apply WZ.take (i := 19) (some 28) rfl rfl (by kernel_rfl) (by kernel_rfl) (by kernel_rfl) (calm_panic _) (by kernel_rfl)
            case hy => first | (apply yieldsIf_load_mid (by kernel_rfl) _ _ rfl _ _ rfl; (case hS => (intro W hC; exact (show World.rangeAt _ _ _ (It.vals _) from hC.1))); (case hu => exact Try.underlying48); (case hd => rfl); (case hi => kernel_rfl)) | (apply yieldsIf_load_mid (by kernel_rfl) _ _ rfl _ _ rfl; (case hS => (intro W hC; exact (show World.rangeAt _ _ _ (It.vals _) from hC.2.1))); (case hu => exact Try.underlying48); (case hd => rfl); (case hi => kernel_rfl)) | (apply yieldsIf_load_mid (by kernel_rfl) _ _ rfl _ _ rfl; (case hS => (intro W hC; exact (show World.rangeAt _ _ _ (It.vals _) from hC.2.2.1))); (case hu => exact Try.underlying48); (case hd => rfl); (case hi => kernel_rfl)) | (apply yieldsIf_load_mid (by kernel_rfl) _ _ rfl _ _ rfl; (case hS => (intro W hC; exact (show World.rangeAt _ _ _ (It.vals _) from hC.2.2.2.1))); (case hu => exact Try.underlying48); (case hd => rfl); (case hi => kernel_rfl)) | (apply yieldsIf_load_mid (by kernel_rfl) _ _ rfl _ _ rfl; (case hS => (intro W hC; exact (show World.rangeAt _ _ _ (It.vals _) from hC.2.2.2))); (case hu => exact Try.underlying48); (case hd => rfl); (case hi => kernel_rfl)) | (apply yieldsIf_load_mid (by kernel_rfl) _ _ rfl _ _ rfl; (case hS => (intro W hC; exact (show World.rangeAt _ _ _ (It.vals _) from hC.2.2))); (case hu => exact Try.underlying48); (case hd => rfl); (case hi => kernel_rfl)) | (apply yieldsIf_load_mid (by kernel_rfl) _ _ rfl _ _ rfl; (case hS => (intro W hC; exact (show World.rangeAt _ _ _ (It.vals _) from hC.2))); (case hu => exact Try.underlying48); (case hd => rfl); (case hi => kernel_rfl)) | (apply yieldsIf_load_mid (by kernel_rfl) _ _ rfl _ _ rfl; (case hS => (intro W hC; exact (show World.rangeAt _ _ _ (It.vals _) from hC))); (case hu => exact Try.underlying48); (case hd => rfl); (case hi => kernel_rfl))
            case hC => exact HC
            case ha => (simp only [Act.put, List.setIfInBounds_toArray, List.set_cons_zero, List.set_cons_succ]; rfl)
            apply WZ.take (i := 20) (some 29) rfl rfl (by kernel_rfl) (by kernel_rfl) (by kernel_rfl) (calm_panic _) (by kernel_rfl)
            case hy => (refine .inl ⟨by kernel_rfl, fun W hC => ?_⟩; (try dsimp only at hC); go_simp; (try simp only [hd,hd1,hcd]); rfl)
            case hC => exact HC
            case ha => (simp only [Act.put, List.setIfInBounds_toArray, List.set_cons_zero, List.set_cons_succ]; rfl)
            apply WZ.take (i := 21) (some 30) rfl rfl (by kernel_rfl) (by kernel_rfl) (by kernel_rfl) (calm_panic _) (by kernel_rfl)
            case hy => (refine .inl ⟨by kernel_rfl, fun W hC => ?_⟩; (try dsimp only at hC); go_simp; (try simp only [hd,hd1,hcd]); rfl)
            case hC => exact HC
            case ha => (simp only [Act.put, List.setIfInBounds_toArray, List.set_cons_zero, List.set_cons_succ]; rfl)
            apply WZ.take (i := 22) (some 31) rfl rfl (by kernel_rfl) (by kernel_rfl) (by kernel_rfl) (calm_panic _) (by kernel_rfl)
            case hy => (refine .inl ⟨by kernel_rfl, fun W hC => ?_⟩; (try dsimp only at hC); go_simp; (try simp only [hd,hd1,hcd]); rfl)
            case hC => exact HC
            case ha => (simp only [Act.put, List.setIfInBounds_toArray, List.set_cons_zero, List.set_cons_succ]; rfl)
            apply WZ.take (i := 23) (some 32) rfl rfl (by kernel_rfl) (by kernel_rfl) (by kernel_rfl) (calm_panic _) (by kernel_rfl)
            case hy => first | (apply yieldsIf_load_mid (by kernel_rfl) _ _ rfl _ _ rfl; (case hS => (intro W hC; exact (show World.rangeAt _ _ _ (It.vals _) from hC.1))); (case hu => exact Try.underlying48); (case hd => rfl); (case hi => kernel_rfl)) | (apply yieldsIf_load_mid (by kernel_rfl) _ _ rfl _ _ rfl; (case hS => (intro W hC; exact (show World.rangeAt _ _ _ (It.vals _) from hC.2.1))); (case hu => exact Try.underlying48); (case hd => rfl); (case hi => kernel_rfl)) | (apply yieldsIf_load_mid (by kernel_rfl) _ _ rfl _ _ rfl; (case hS => (intro W hC; exact (show World.rangeAt _ _ _ (It.vals _) from hC.2.2.1))); (case hu => exact Try.underlying48); (case hd => rfl); (case hi => kernel_rfl)) | (apply yieldsIf_load_mid (by kernel_rfl) _ _ rfl _ _ rfl; (case hS => (intro W hC; exact (show World.rangeAt _ _ _ (It.vals _) from hC.2.2.2.1))); (case hu => exact Try.underlying48); (case hd => rfl); (case hi => kernel_rfl)) | (apply yieldsIf_load_mid (by kernel_rfl) _ _ rfl _ _ rfl; (case hS => (intro W hC; exact (show World.rangeAt _ _ _ (It.vals _) from hC.2.2.2))); (case hu => exact Try.underlying48); (case hd => rfl); (case hi => kernel_rfl)) | (apply yieldsIf_load_mid (by kernel_rfl) _ _ rfl _ _ rfl; (case hS => (intro W hC; exact (show World.rangeAt _ _ _ (It.vals _) from hC.2.2))); (case hu => exact Try.underlying48); (case hd => rfl); (case hi => kernel_rfl)) | (apply yieldsIf_load_mid (by kernel_rfl) _ _ rfl _ _ rfl; (case hS => (intro W hC; exact (show World.rangeAt _ _ _ (It.vals _) from hC.2))); (case hu => exact Try.underlying48); (case hd => rfl); (case hi => kernel_rfl)) | (apply yieldsIf_load_mid (by kernel_rfl) _ _ rfl _ _ rfl; (case hS => (intro W hC; exact (show World.rangeAt _ _ _ (It.vals _) from hC))); (case hu => exact Try.underlying48); (case hd => rfl); (case hi => kernel_rfl))
            case hC => exact HC
            case ha => (simp only [Act.put, List.setIfInBounds_toArray, List.set_cons_zero, List.set_cons_succ]; rfl)
            -- 24
            refine WZ.one (i := 24) rfl (by kernel_rfl) ?_
            conv => arg 4; arg 1; whnf
            go_wp2_with (go_at_call 25; refine (itemSame_any x y _).mono ?_; rintro e w2 ⟨rfl, hb2⟩)
            have HB2 := Lib.hid (HB1.out.trans (hb2.mono HB1.out.size))
            have HC : w2.rangeAt b (o + j * 7) x.vals ∧ w2.rangeAt b (o + k * 7) y.vals := ⟨rangeAt_below HC.1 hb2 (show b < w1.heap.size by omega), rangeAt_below HC.2 hb2 (show b < w1.heap.size by omega)⟩
            clear hb2
            refine ⟨HC, ?_⟩
            apply WZ.take (i := 25) (some 34) rfl rfl (by kernel_rfl) (by kernel_rfl) (by kernel_rfl) (calm_panic _) (by kernel_rfl)
            case hy => (refine .inl ⟨by kernel_rfl, fun W hC => ?_⟩; (try dsimp only at hC); go_simp; (try simp only [hd,hd1,hcd]); rfl)
            case hC => exact HC
            case ha => (simp only [Act.put, List.setIfInBounds_toArray, List.set_cons_zero, List.set_cons_succ]; rfl)
            apply WZ.take (i := 26) (some 35) rfl rfl (by kernel_rfl) (by kernel_rfl) (by kernel_rfl) (calm_panic _) (by kernel_rfl)
            case hy => (refine .inl ⟨by kernel_rfl, fun W hC => ?_⟩; (try dsimp only at hC); go_simp; (try simp only [hd,hd1,hcd]); rfl)
            case hC => exact HC
            case ha => (simp only [Act.put, List.setIfInBounds_toArray, List.set_cons_zero, List.set_cons_succ]; rfl)
            refine WZ.done (by kernel_rfl) ?_ _
            simp only [Calm, Exit.then]
            go_wp2
            exact ⟨⟨k + 1, by omega, rfl, HF, HB2⟩, by simp [intOf]; omega⟩
        · have hcd : decide (0 ≤ x.cmp y) = true := decide_eq_true (by omega)
          have HF := Lib.hid (HNOT.out (cc_not_cmp hcmp))
          have hcp : 0 ≤ x.cmp y := by omega
          go_wp2
          refine region_wz (fun W' => W'.rangeAt b (o + j * 7) x.vals ∧ W'.rangeAt b (o + k * 7) y.vals) none (by kernel_rfl) ?_
          apply WZ.take (i := 0) (some 9) rfl rfl (by kernel_rfl) (by kernel_rfl) (by kernel_rfl) (calm_panic _) (by kernel_rfl)
          case hy => (refine .inl ⟨by kernel_rfl, fun W hC => ?_⟩; (try dsimp only at hC); go_simp; (try simp only [hd,hd1,hcd]); rfl)
          case hC => exact HC
          case ha => (simp only [Act.put, List.setIfInBounds_toArray, List.set_cons_zero, List.set_cons_succ]; rfl)
          apply WZ.take (i := 1) (some 10) rfl rfl (by kernel_rfl) (by kernel_rfl) (by kernel_rfl) (calm_panic _) (by kernel_rfl)
          case hy => (refine .inl ⟨by kernel_rfl, fun W hC => ?_⟩; (try dsimp only at hC); go_simp; (try simp only [hd,hd1,hcd]); rfl)
          case hC => exact HC
          case ha => (simp only [Act.put, List.setIfInBounds_toArray, List.set_cons_zero, List.set_cons_succ]; rfl)
          apply WZ.take (i := 2) (some 11) rfl rfl (by kernel_rfl) (by kernel_rfl) (by kernel_rfl) (calm_panic _) (by kernel_rfl)
          case hy => (refine .inl ⟨by kernel_rfl, fun W hC => ?_⟩; (try dsimp only at hC); go_simp; (try simp only [hd,hd1,hcd]); rfl)
          case hC => exact HC
          case ha => (simp only [Act.put, List.setIfInBounds_toArray, List.set_cons_zero, List.set_cons_succ]; rfl)
          apply WZ.take (i := 3) (some 12) rfl rfl (by kernel_rfl) (by kernel_rfl) (by kernel_rfl) (calm_panic _) (by kernel_rfl)
          case hy => (refine .inl ⟨by kernel_rfl, fun W hC => ?_⟩; (try dsimp only at hC); go_simp; (try simp only [hd,hd1,hcd]); rfl)
          case hC => exact HC
          case ha => (simp only [Act.put, List.setIfInBounds_toArray, List.set_cons_zero, List.set_cons_succ]; rfl)
          apply WZ.take (i := 4) (some 13) rfl rfl (by kernel_rfl) (by kernel_rfl) (by kernel_rfl) (calm_panic _) (by kernel_rfl)
          case hy => (refine .inl ⟨by kernel_rfl, fun W hC => ?_⟩; (try dsimp only at hC); go_simp; (try simp only [hd,hd1,hcd]); rfl)
          case hC => exact HC
          case ha => (simp only [Act.put, List.setIfInBounds_toArray, List.set_cons_zero, List.set_cons_succ]; rfl)
          apply WZ.take (i := 5) (some 14) rfl rfl (by kernel_rfl) (by kernel_rfl) (by kernel_rfl) (calm_panic _) (by kernel_rfl)
          case hy => (refine .inl ⟨by kernel_rfl, fun W hC => ?_⟩; (try dsimp only at hC); go_simp; (try simp only [hd,hd1,hcd]); rfl)
          case hC => exact HC
          case ha => (simp only [Act.put, List.setIfInBounds_toArray, List.set_cons_zero, List.set_cons_succ]; rfl)
          apply WZ.take (i := 6) (some 15) rfl rfl (by kernel_rfl) (by kernel_rfl) (by kernel_rfl) (calm_panic _) (by kernel_rfl)
          case hy => (refine .inl ⟨by kernel_rfl, fun W hC => ?_⟩; (try dsimp only at hC); go_simp; (try simp only [hd,hd1,hcd]); rfl)
          case hC => exact HC
          case ha => (simp only [Act.put, List.setIfInBounds_toArray, List.set_cons_zero, List.set_cons_succ]; rfl)
          apply WZ.take (i := 7) (some 16) rfl rfl (by kernel_rfl) (by kernel_rfl) (by kernel_rfl) (calm_panic _) (by kernel_rfl)
          case hy => first | (apply yieldsIf_load_mid (by kernel_rfl) _ _ rfl _ _ rfl; (case hS => (intro W hC; exact (show World.rangeAt _ _ _ (It.vals _) from hC.1))); (case hu => exact Try.underlying48); (case hd => rfl); (case hi => kernel_rfl)) | (apply yieldsIf_load_mid (by kernel_rfl) _ _ rfl _ _ rfl; (case hS => (intro W hC; exact (show World.rangeAt _ _ _ (It.vals _) from hC.2.1))); (case hu => exact Try.underlying48); (case hd => rfl); (case hi => kernel_rfl)) | (apply yieldsIf_load_mid (by kernel_rfl) _ _ rfl _ _ rfl; (case hS => (intro W hC; exact (show World.rangeAt _ _ _ (It.vals _) from hC.2.2.1))); (case hu => exact Try.underlying48); (case hd => rfl); (case hi => kernel_rfl)) | (apply yieldsIf_load_mid (by kernel_rfl) _ _ rfl _ _ rfl; (case hS => (intro W hC; exact (show World.rangeAt _ _ _ (It.vals _) from hC.2.2.2.1))); (case hu => exact Try.underlying48); (case hd => rfl); (case hi => kernel_rfl)) | (apply yieldsIf_load_mid (by kernel_rfl) _ _ rfl _ _ rfl; (case hS => (intro W hC; exact (show World.rangeAt _ _ _ (It.vals _) from hC.2.2.2))); (case hu => exact Try.underlying48); (case hd => rfl); (case hi => kernel_rfl)) | (apply yieldsIf_load_mid (by kernel_rfl) _ _ rfl _ _ rfl; (case hS => (intro W hC; exact (show World.rangeAt _ _ _ (It.vals _) from hC.2.2))); (case hu => exact Try.underlying48); (case hd => rfl); (case hi => kernel_rfl)) | (apply yieldsIf_load_mid (by kernel_rfl) _ _ rfl _ _ rfl; (case hS => (intro W hC; exact (show World.rangeAt _ _ _ (It.vals _) from hC.2))); (case hu => exact Try.underlying48); (case hd => rfl); (case hi => kernel_rfl)) | (apply yieldsIf_load_mid (by kernel_rfl) _ _ rfl _ _ rfl; (case hS => (intro W hC; exact (show World.rangeAt _ _ _ (It.vals _) from hC))); (case hu => exact Try.underlying48); (case hd => rfl); (case hi => kernel_rfl))
          case hC => exact HC
          case ha => (simp only [Act.put, List.setIfInBounds_toArray, List.set_cons_zero, List.set_cons_succ]; rfl)
          apply WZ.take (i := 8) (some 17) rfl rfl (by kernel_rfl) (by kernel_rfl) (by kernel_rfl) (calm_panic _) (by kernel_rfl)
          case hy => (refine .inl ⟨by kernel_rfl, fun W hC => ?_⟩; (try dsimp only at hC); go_simp; (try simp only [hd,hd1,hcd]); rfl)
          case hC => exact HC
          case ha => (simp only [Act.put, List.setIfInBounds_toArray, List.set_cons_zero, List.set_cons_succ]; rfl)
          apply WZ.take (i := 9) (some 18) rfl rfl (by kernel_rfl) (by kernel_rfl) (by kernel_rfl) (calm_panic _) (by kernel_rfl)
          case hy => (refine .inl ⟨by kernel_rfl, fun W hC => ?_⟩; (try dsimp only at hC); go_simp; (try simp only [hd,hd1,hcd]); rfl)
          case hC => exact HC
          case ha => (simp only [Act.put, List.setIfInBounds_toArray, List.set_cons_zero, List.set_cons_succ]; rfl)
          apply WZ.take (i := 10) (some 19) rfl rfl (by kernel_rfl) (by kernel_rfl) (by kernel_rfl) (calm_panic _) (by kernel_rfl)
          case hy => (refine .inl ⟨by kernel_rfl, fun W hC => ?_⟩; (try dsimp only at hC); go_simp; (try simp only [hd,hd1,hcd]); rfl)
          case hC => exact HC
          case ha => (simp only [Act.put, List.setIfInBounds_toArray, List.set_cons_zero, List.set_cons_succ]; rfl)
          apply WZ.take (i := 11) (some 20) rfl rfl (by kernel_rfl) (by kernel_rfl) (by kernel_rfl) (calm_panic _) (by kernel_rfl)
          case hy => first | (apply yieldsIf_load_mid (by kernel_rfl) _ _ rfl _ _ rfl; (case hS => (intro W hC; exact (show World.rangeAt _ _ _ (It.vals _) from hC.1))); (case hu => exact Try.underlying48); (case hd => rfl); (case hi => kernel_rfl)) | (apply yieldsIf_load_mid (by kernel_rfl) _ _ rfl _ _ rfl; (case hS => (intro W hC; exact (show World.rangeAt _ _ _ (It.vals _) from hC.2.1))); (case hu => exact Try.underlying48); (case hd => rfl); (case hi => kernel_rfl)) | (apply yieldsIf_load_mid (by kernel_rfl) _ _ rfl _ _ rfl; (case hS => (intro W hC; exact (show World.rangeAt _ _ _ (It.vals _) from hC.2.2.1))); (case hu => exact Try.underlying48); (case hd => rfl); (case hi => kernel_rfl)) | (apply yieldsIf_load_mid (by kernel_rfl) _ _ rfl _ _ rfl; (case hS => (intro W hC; exact (show World.rangeAt _ _ _ (It.vals _) from hC.2.2.2.1))); (case hu => exact Try.underlying48); (case hd => rfl); (case hi => kernel_rfl)) | (apply yieldsIf_load_mid (by kernel_rfl) _ _ rfl _ _ rfl; (case hS => (intro W hC; exact (show World.rangeAt _ _ _ (It.vals _) from hC.2.2.2))); (case hu => exact Try.underlying48); (case hd => rfl); (case hi => kernel_rfl)) | (apply yieldsIf_load_mid (by kernel_rfl) _ _ rfl _ _ rfl; (case hS => (intro W hC; exact (show World.rangeAt _ _ _ (It.vals _) from hC.2.2))); (case hu => exact Try.underlying48); (case hd => rfl); (case hi => kernel_rfl)) | (apply yieldsIf_load_mid (by kernel_rfl) _ _ rfl _ _ rfl; (case hS => (intro W hC; exact (show World.rangeAt _ _ _ (It.vals _) from hC.2))); (case hu => exact Try.underlying48); (case hd => rfl); (case hi => kernel_rfl)) | (apply yieldsIf_load_mid (by kernel_rfl) _ _ rfl _ _ rfl; (case hS => (intro W hC; exact (show World.rangeAt _ _ _ (It.vals _) from hC))); (case hu => exact Try.underlying48); (case hd => rfl); (case hi => kernel_rfl))
          case hC => exact HC
          case ha => (simp only [Act.put, List.setIfInBounds_toArray, List.set_cons_zero, List.set_cons_succ]; rfl)
          -- 12
          refine WZ.one (i := 12) rfl (by kernel_rfl) ?_
          conv => arg 4; arg 1; whnf
          go_wp2_with (go_at_call 24; refine (itemCompare_any x y _).mono ?_; rintro e w1 ⟨rfl, hb1⟩)
          have HB1 := Lib.hid (HB.out.trans (below_of_drew' (hb1.mono HB.out.size)))
          have HC : w1.rangeAt b (o + j * 7) x.vals ∧ w1.rangeAt b (o + k * 7) y.vals := ⟨rangeAt_below HC.1 hb1 (show b < wr.heap.size by omega), rangeAt_below HC.2 hb1 (show b < wr.heap.size by omega)⟩
          have hz1 : wr.heap.size ≤ w1.heap.size := hb1.size
          clear hb1
          refine ⟨HC, ?_⟩
          apply WZ.take (i := 13) (some 22) rfl rfl (by kernel_rfl) (by kernel_rfl) (by kernel_rfl) (calm_panic _) (by kernel_rfl)
          case hy => (refine .inl ⟨by kernel_rfl, fun W hC => ?_⟩; (try dsimp only at hC); go_simp; (try simp only [hd,hd1,hcd]); rfl)
          case hC => exact HC
          case ha => (simp only [Act.put, List.setIfInBounds_toArray, List.set_cons_zero, List.set_cons_succ]; rfl)
          apply WZ.take (i := 14) (some 23) rfl rfl (by kernel_rfl) (by kernel_rfl) (by kernel_rfl) (calm_panic _) (by kernel_rfl)
          case hy => (refine .inl ⟨by kernel_rfl, fun W hC => ?_⟩; (try dsimp only at hC); go_simp; (try simp only [hd,hd1,hcd]); rfl)
          case hC => exact HC
          case ha => (simp only [Act.put, List.setIfInBounds_toArray, List.set_cons_zero, List.set_cons_succ]; rfl)
          apply WZ.take (i := 15) (some 24) rfl rfl (by kernel_rfl) (by kernel_rfl) (by kernel_rfl) (calm_panic _) (by kernel_rfl)
          case hy => exact .inr ⟨by kernel_rfl, rfl⟩
          case hC => exact HC
          case ha => (simp only [Act.put, List.setIfInBounds_toArray, List.set_cons_zero, List.set_cons_succ]; rfl)
          apply WZ.take (i := 16) (some 25) rfl rfl (by kernel_rfl) (by kernel_rfl) (by kernel_rfl) (calm_panic _) (by kernel_rfl)
          case hy => exact .inr ⟨by kernel_rfl, rfl⟩
          case hC => exact HC
          case ha => (simp only [Act.put, List.setIfInBounds_toArray, List.set_cons_zero, List.set_cons_succ]; rfl)
          apply WZ.take (i := 17) (some 26) rfl rfl (by kernel_rfl) (by kernel_rfl) (by kernel_rfl) (calm_panic _) (by kernel_rfl)
          case hy => exact .inr ⟨by kernel_rfl, rfl⟩
          case hC => exact HC
          case ha => (simp only [Act.put, List.setIfInBounds_toArray, List.set_cons_zero, List.set_cons_succ]; rfl)
          apply WZ.take (i := 18) (some 27) rfl rfl (by kernel_rfl) (by kernel_rfl) (by kernel_rfl) (calm_panic _) (by kernel_rfl)
          case hy => exact .inr ⟨by kernel_rfl, rfl⟩
          case hC => exact HC
          case ha => (simp only [Act.put, List.setIfInBounds_toArray, List.set_cons_zero, List.set_cons_succ]; rfl)
          apply WZ.take (i := 19) (some 28) rfl rfl (by kernel_rfl) (by kernel_rfl) (by kernel_rfl) (calm_panic _) (by kernel_rfl)
          case hy => exact .inr ⟨by kernel_rfl, rfl⟩
          case hC => exact HC
          case ha => (simp only [Act.put, List.setIfInBounds_toArray, List.set_cons_zero, List.set_cons_succ]; rfl)
          apply WZ.take (i := 20) (some 29) rfl rfl (by kernel_rfl) (by kernel_rfl) (by kernel_rfl) (calm_panic _) (by kernel_rfl)
          case hy => exact .inr ⟨by kernel_rfl, rfl⟩
          case hC => exact HC
          case ha => (simp only [Act.put, List.setIfInBounds_toArray, List.set_cons_zero, List.set_cons_succ]; rfl)
          apply WZ.take (i := 21) (some 30) rfl rfl (by kernel_rfl) (by kernel_rfl) (by kernel_rfl) (calm_panic _) (by kernel_rfl)
          case hy => exact .inr ⟨by kernel_rfl, rfl⟩
          case hC => exact HC
          case ha => (simp only [Act.put, List.setIfInBounds_toArray, List.set_cons_zero, List.set_cons_succ]; rfl)
          apply WZ.take (i := 22) (some 31) rfl rfl (by kernel_rfl) (by kernel_rfl) (by kernel_rfl) (calm_panic _) (by kernel_rfl)
          case hy => exact .inr ⟨by kernel_rfl, rfl⟩
          case hC => exact HC
          case ha => (simp only [Act.put, List.setIfInBounds_toArray, List.set_cons_zero, List.set_cons_succ]; rfl)
          apply WZ.take (i := 23) (some 32) rfl rfl (by kernel_rfl) (by kernel_rfl) (by kernel_rfl) (calm_panic _) (by kernel_rfl)
          case hy => exact .inr ⟨by kernel_rfl, rfl⟩
          case hC => exact HC
          case ha => (simp only [Act.put, List.setIfInBounds_toArray, List.set_cons_zero, List.set_cons_succ]; rfl)
          apply WZ.take (i := 24) (some 33) rfl rfl (by kernel_rfl) (by kernel_rfl) (by kernel_rfl) (calm_panic _) (by kernel_rfl)
          case hy => exact .inr ⟨by kernel_rfl, rfl⟩
          case hC => exact HC
          case ha => (simp only [Act.put, List.setIfInBounds_toArray, List.set_cons_zero, List.set_cons_succ]; rfl)
          apply WZ.take (i := 25) (some 34) rfl rfl (by kernel_rfl) (by kernel_rfl) (by kernel_rfl) (calm_panic _) (by kernel_rfl)
          case hy => (refine .inl ⟨by kernel_rfl, fun W hC => ?_⟩; (try dsimp only at hC); go_simp; (try simp only [hd,hd1,hcd]); rfl)
          case hC => exact HC
          case ha => (simp only [Act.put, List.setIfInBounds_toArray, List.set_cons_zero, List.set_cons_succ]; rfl)
          apply WZ.take (i := 26) (some 35) rfl rfl (by kernel_rfl) (by kernel_rfl) (by kernel_rfl) (calm_panic _) (by kernel_rfl)
          case hy => (refine .inl ⟨by kernel_rfl, fun W hC => ?_⟩; (try dsimp only at hC); go_simp; (try simp only [hd,hd1,hcd]); rfl)
          case hC => exact HC
          case ha => (simp only [Act.put, List.setIfInBounds_toArray, List.set_cons_zero, List.set_cons_succ]; rfl)
          refine WZ.done (by kernel_rfl) ?_ _
          simp only [Calm, Exit.then]
          go_wp2
          go_ret
          exact ⟨ret_bool HF.out, HB1.out⟩
    · have e1 : decide ((k : Int) < (N : Int)) = false := decide_eq_false (by omega)
      have HF := Lib.hid (sortTo_end HS.out (by rw [HN.out]; omega))
      go_wp2
      go_ret
      exact ⟨ret_bool HF.out, HB.out⟩
end Go.Proofs.Ytojelalgcokcfaa
