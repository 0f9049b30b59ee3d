/-
  The walk of CompactFunc at items.
-/
import Derived.Test.YtflppcgonbjnmaaJM
import Derived.Test.YtflppcgonbjnmaaJN
namespace Go.Proofs.Ytflppcgonbjnmaa
open Go.RowKit
attribute [local go_sem ↓] Go.wp_at_zero Go.wp_at_succ

/-- while items are taken out: k are kept of the first p; from the last of these on all is as it was -/
def CmpSt {α : Type} (eq : α → α → Bool) (l m : List α) (k p : Nat) : Prop := m.length = l.length ∧ k < p ∧ p ≤ l.length ∧ m.take k = compactF eq (l.take p) ∧ m.drop (p - 1) = l.drop (p - 1)
theorem CmpSt.get {α : Type} {eq : α → α → Bool} {l m : List α} {k p : Nat} (h : CmpSt eq l m k p) {i : Nat} (hi : p - 1 ≤ i) : m[i]? = l[i]? := by
  have := congrArg (fun q => q[i - (p - 1)]?) h.2.2.2.2
  simp only [List.getElem?_drop] at this
  rwa [show p - 1 + (i - (p - 1)) = i by omega] at this
theorem CmpSt.skip {α : Type} {eq : α → α → Bool} {l m : List α} {k p : Nat} (h : CmpSt eq l m k p) {y z : α} (hy : l[p]? = some y) (hz : l[p - 1]? = some z) (he : eq y z = true) : CmpSt eq l m k (p + 1) := by
  obtain ⟨h1, h2, h3, h4, h5⟩ := h
  have hp := (List.getElem?_eq_some_iff.1 hy).1
  refine ⟨h1, by omega, hp, ?_, ?_⟩
  · rw [compactF_take eq (by omega) hy hz, he, h4]; simp
  · have := congrArg (fun q => q.drop 1) h5
    simp only [List.drop_drop] at this
    rwa [show p - 1 + 1 = p + 1 - 1 by omega] at this
theorem CmpSt.put {α : Type} {eq : α → α → Bool} {l m : List α} {k p : Nat} (h : CmpSt eq l m k p) {y z : α} (hy : l[p]? = some y) (hz : l[p - 1]? = some z) (he : eq y z = false) : CmpSt eq l (m.set k y) (k + 1) (p + 1) := by
  obtain ⟨h1, h2, h3, h4, h5⟩ := h
  have hp := (List.getElem?_eq_some_iff.1 hy).1
  refine ⟨by simp [h1], by omega, hp, ?_, ?_⟩
  · have hkm : k < m.length := by omega
    have e1 : (m.set k y).take (k + 1) = (m.set k y).take k ++ [y] := by rw [List.take_succ_eq_append_getElem (by rw [List.length_set]; exact hkm), List.getElem_set_self]
    have e2 : (m.set k y).take k = m.take k := by rw [List.take_set_of_le (Nat.le_refl k)]
    rw [compactF_take eq (by omega) hy hz, he, ← h4, e1, e2]
    rfl
  · have := congrArg (fun q => q.drop 1) h5
    simp only [List.drop_drop] at this
    rw [show p - 1 + 1 = p + 1 - 1 by omega] at this
    rw [← this, List.drop_set_of_lt (by omega)]
theorem CmpSt.start {α : Type} {eq : α → α → Bool} {l : List α} {k : Nat} {y z : α} (h0 : 0 < k) (hc : compactF eq (l.take k) = l.take k) (hy : l[k]? = some y) (hz : l[k - 1]? = some z) (he : eq y z = true) : CmpSt eq l l k (k + 1) := by
  have hp := (List.getElem?_eq_some_iff.1 hy).1
  refine ⟨rfl, by omega, hp, ?_, rfl⟩
  rw [compactF_take eq h0 hy hz, he, hc]
  simp

set_option maxRecDepth 10000 in
set_option maxHeartbeats 2000000 in
theorem compactIt_any (g S cap N : Nat) (l : List It) (w : World) (h : Arr It.vals 7 w g 59 S l) (hN : l.length = N) (hmax : N ≤ 100000000) (hcap : N ≤ cap) :
    Calls Try.prog 54 #[.slice (some ⟨g, 0, none⟩) N cap, .func (.func 55) #[] #[]] w fun e w' =>
      ∃ k, e = .returned (.slice (some ⟨g, 0, none⟩) k cap) ∧ (compactF (fun a b : It => a.c.same b.c) l).length = k ∧ Arr It.vals 7 w' g 59 S (compactF (fun a b : It => a.c.same b.c) l) ∧ w.grownBy w' (some g) := by
  obtain ⟨i0, hi0, hz0, hz1, hz2⟩ := info_parts itemInfo
  have H := Lib.hid h
  have HN := Lib.hid hN
  have HCAP := Lib.hid hcap
  clear h hN hcap
  go_enter Try.func54, Try.ntmps54
  by_cases h2 : N < 2
  · have e1 : decide ((N : Int) < 2) = true := decide_eq_true (by omega)
    have HS := Lib.hid (compactF_short (l := l) (fun a b : It => a.c.same b.c) (by rw [HN.out]; exact h2))
    go_wp2
    go_ret
    exact ⟨N, rfl, by rw [HS.out, HN.out], by rw [HS.out]; exact H.out, grownBy_refl _ _⟩
  · have e1 : decide ((N : Int) < 2) = false := decide_eq_false (by omega)
    have h2' : 2 ≤ N := by omega
    go_wp2
    go_loopw [5] (fun vk wr => ∃ k : Nat, vk = .int .i64 (k : Int) ∧ 1 ≤ k ∧ k ≤ N ∧ Hid (compactF (fun a b : It => a.c.same b.c) (l.take k) = l.take k) ∧ Hid (Arr It.vals 7 wr g 59 S l) ∧ Hid (w.grownBy wr (some g))) (fun vk _ => N - (intOf vk).toNat)
    case atStart =>
      refine ⟨1, rfl, Nat.le_refl _, by omega, Lib.hid (compactF_short _ ?_), H, Lib.hid (grownBy_refl _ _)⟩
      rw [List.length_take]; omega
    case round =>
      obtain ⟨k, rfl, hk1, hkN, HCO, HA, HG⟩ := hrel
      by_cases hlt : k < N
      · have e2 : decide ((k : Int) < (N : Int)) = true := decide_eq_true (by omega)
        obtain ⟨k1, hkk⟩ : ∃ k1, k - 1 = k1 := ⟨_, rfl⟩
        have hd1 : IntKind.i64.wrap ((k : Int) - 1) = (k1 : Int) := by rw [IntWalk.i64_in _ (by omega)]; omega
        obtain ⟨y, hy⟩ : ∃ y, l[k]? = some y := ⟨_, List.getElem?_eq_getElem (by rw [HN.out]; exact hlt)⟩
        obtain ⟨z, hz⟩ : ∃ z, l[k - 1]? = some z := ⟨_, List.getElem?_eq_getElem (by rw [HN.out]; omega)⟩
        have HX1 := Lib.hid hy
        have HX2 := Lib.hid (show l[k1]? = some z by rw [← hkk]; exact hz)
        have HXZ := Lib.hid hz
        have HC : wr.drew.rangeAt g (k * 7) (It.vals y) ∧ wr.drew.rangeAt g (k1 * 7) (It.vals z) := ⟨HA.out.drew.get HX1.out, HA.out.drew.get HX2.out⟩
        have q1 : (0 : Int) ≤ (k : Int) := by omega
        have q2 : (k : Int) < (N : Int) := by omega
        have q3 : (0 : Int) ≤ (k1 : Int) := by omega
        have q4 : (k1 : Int) < (N : Int) := by omega
        clear hy hz hkk
        cases hs : y.c.same z.c with
        | false =>
          have HF := Lib.hid (show compactF (fun a b : It => a.c.same b.c) (l.take (k + 1)) = l.take (k + 1) by
            rw [compactF_take _ hk1 HX1.out HXZ.out, HCO.out]
            show l.take k ++ (if y.c.same z.c = true then [] else [y]) = _
            rw [hs]
            obtain ⟨hp, e⟩ := List.getElem?_eq_some_iff.1 HX1.out
            rw [List.take_succ_eq_append_getElem hp, e]
            simp)
          have hw3 : IntKind.i64.wrap ((k : Int) + 1) = ((k + 1 : Nat) : Int) := by rw [IntWalk.i64_in _ (by omega)]; omega
          go_wp2
          refine region_wz (fun W' => W'.rangeAt g (k * 7) (It.vals y) ∧ W'.rangeAt g (k1 * 7) (It.vals z)) none (by kernel_rfl) ?_
          apply WZ.take (i := 0) (some 18) rfl rfl (by kernel_rfl) (by kernel_rfl) (by kernel_rfl) (calm_panic _) (by kernel_rfl)
          case hy => (refine .inl ⟨by kernel_rfl, fun W hC => ?_⟩; (try dsimp only at hC); go_simp; (try simp only [hd1]); rfl)
          case hC => exact HC
          case ha => (simp only [Act.put, List.setIfInBounds_toArray, List.set_cons_zero, List.set_cons_succ]; rfl)
          apply WZ.take (i := 1) (some 19) rfl rfl (by kernel_rfl) (by kernel_rfl) (by kernel_rfl) (calm_panic _) (by kernel_rfl)
          case hy => (refine .inl ⟨by kernel_rfl, fun W hC => ?_⟩; (try dsimp only at hC); go_simp; (try simp only [hd1]); rfl)
          case hC => exact HC
          case ha => (simp only [Act.put, List.setIfInBounds_toArray, List.set_cons_zero, List.set_cons_succ]; rfl)
          apply WZ.take (i := 2) (some 20) rfl rfl (by kernel_rfl) (by kernel_rfl) (by kernel_rfl) (calm_panic _) (by kernel_rfl)
          case hy => (refine .inl ⟨by kernel_rfl, fun W hC => ?_⟩; (try dsimp only at hC); go_simp; (try simp only [hd1]); rfl)
          case hC => exact HC
          case ha => (simp only [Act.put, List.setIfInBounds_toArray, List.set_cons_zero, List.set_cons_succ]; rfl)
          apply WZ.take (i := 3) (some 21) rfl rfl (by kernel_rfl) (by kernel_rfl) (by kernel_rfl) (calm_panic _) (by kernel_rfl)
          case hy => (refine .inl ⟨by kernel_rfl, fun W hC => ?_⟩; (try dsimp only at hC); go_simp; (try simp only [hd1]); rfl)
          case hC => exact HC
          case ha => (simp only [Act.put, List.setIfInBounds_toArray, List.set_cons_zero, List.set_cons_succ]; rfl)
          apply WZ.take (i := 4) (some 22) rfl rfl (by kernel_rfl) (by kernel_rfl) (by kernel_rfl) (calm_panic _) (by kernel_rfl)
          case hy => first | (apply yieldsIf_load_mid (by kernel_rfl) _ _ rfl _ _ rfl; (case hS => (intro W hC; exact (show World.rangeAt _ _ _ (It.vals _) from hC.1))); (case hu => exact Try.underlying59); (case hd => rfl); (case hi => kernel_rfl)) | (apply yieldsIf_load_mid (by kernel_rfl) _ _ rfl _ _ rfl; (case hS => (intro W hC; exact (show World.rangeAt _ _ _ (It.vals _) from hC.2.1))); (case hu => exact Try.underlying59); (case hd => rfl); (case hi => kernel_rfl)) | (apply yieldsIf_load_mid (by kernel_rfl) _ _ rfl _ _ rfl; (case hS => (intro W hC; exact (show World.rangeAt _ _ _ (It.vals _) from hC.2.2.1))); (case hu => exact Try.underlying59); (case hd => rfl); (case hi => kernel_rfl)) | (apply yieldsIf_load_mid (by kernel_rfl) _ _ rfl _ _ rfl; (case hS => (intro W hC; exact (show World.rangeAt _ _ _ (It.vals _) from hC.2.2.2.1))); (case hu => exact Try.underlying59); (case hd => rfl); (case hi => kernel_rfl)) | (apply yieldsIf_load_mid (by kernel_rfl) _ _ rfl _ _ rfl; (case hS => (intro W hC; exact (show World.rangeAt _ _ _ (It.vals _) from hC.2.2.2))); (case hu => exact Try.underlying59); (case hd => rfl); (case hi => kernel_rfl)) | (apply yieldsIf_load_mid (by kernel_rfl) _ _ rfl _ _ rfl; (case hS => (intro W hC; exact (show World.rangeAt _ _ _ (It.vals _) from hC.2.2))); (case hu => exact Try.underlying59); (case hd => rfl); (case hi => kernel_rfl)) | (apply yieldsIf_load_mid (by kernel_rfl) _ _ rfl _ _ rfl; (case hS => (intro W hC; exact (show World.rangeAt _ _ _ (It.vals _) from hC.2))); (case hu => exact Try.underlying59); (case hd => rfl); (case hi => kernel_rfl)) | (apply yieldsIf_load_mid (by kernel_rfl) _ _ rfl _ _ rfl; (case hS => (intro W hC; exact (show World.rangeAt _ _ _ (It.vals _) from hC))); (case hu => exact Try.underlying59); (case hd => rfl); (case hi => kernel_rfl))
          case hC => exact HC
          case ha => (simp only [Act.put, List.setIfInBounds_toArray, List.set_cons_zero, List.set_cons_succ]; rfl)
          apply WZ.take (i := 5) (some 23) rfl rfl (by kernel_rfl) (by kernel_rfl) (by kernel_rfl) (calm_panic _) (by kernel_rfl)
          case hy => (refine .inl ⟨by kernel_rfl, fun W hC => ?_⟩; (try dsimp only at hC); go_simp; (try simp only [hd1]); rfl)
          case hC => exact HC
          case ha => (simp only [Act.put, List.setIfInBounds_toArray, List.set_cons_zero, List.set_cons_succ]; rfl)
          apply WZ.take (i := 6) (some 24) rfl rfl (by kernel_rfl) (by kernel_rfl) (by kernel_rfl) (calm_panic _) (by kernel_rfl)
          case hy => (refine .inl ⟨by kernel_rfl, fun W hC => ?_⟩; (try dsimp only at hC); go_simp; (try simp only [hd1]); rfl)
          case hC => exact HC
          case ha => (simp only [Act.put, List.setIfInBounds_toArray, List.set_cons_zero, List.set_cons_succ]; rfl)
          apply WZ.take (i := 7) (some 25) rfl rfl (by kernel_rfl) (by kernel_rfl) (by kernel_rfl) (calm_panic _) (by kernel_rfl)
          case hy => (refine .inl ⟨by kernel_rfl, fun W hC => ?_⟩; (try dsimp only at hC); go_simp; (try simp only [hd1]); rfl)
          case hC => exact HC
          case ha => (simp only [Act.put, List.setIfInBounds_toArray, List.set_cons_zero, List.set_cons_succ]; rfl)
          apply WZ.take (i := 8) (some 26) rfl rfl (by kernel_rfl) (by kernel_rfl) (by kernel_rfl) (calm_panic _) (by kernel_rfl)
          case hy => (refine .inl ⟨by kernel_rfl, fun W hC => ?_⟩; (try dsimp only at hC); go_simp; (try simp only [hd1]); rfl)
          case hC => exact HC
          case ha => (simp only [Act.put, List.setIfInBounds_toArray, List.set_cons_zero, List.set_cons_succ]; rfl)
          apply WZ.take (i := 9) (some 27) rfl rfl (by kernel_rfl) (by kernel_rfl) (by kernel_rfl) (calm_panic _) (by kernel_rfl)
          case hy => first | (apply yieldsIf_load_mid (by kernel_rfl) _ _ rfl _ _ rfl; (case hS => (intro W hC; exact (show World.rangeAt _ _ _ (It.vals _) from hC.1))); (case hu => exact Try.underlying59); (case hd => rfl); (case hi => kernel_rfl)) | (apply yieldsIf_load_mid (by kernel_rfl) _ _ rfl _ _ rfl; (case hS => (intro W hC; exact (show World.rangeAt _ _ _ (It.vals _) from hC.2.1))); (case hu => exact Try.underlying59); (case hd => rfl); (case hi => kernel_rfl)) | (apply yieldsIf_load_mid (by kernel_rfl) _ _ rfl _ _ rfl; (case hS => (intro W hC; exact (show World.rangeAt _ _ _ (It.vals _) from hC.2.2.1))); (case hu => exact Try.underlying59); (case hd => rfl); (case hi => kernel_rfl)) | (apply yieldsIf_load_mid (by kernel_rfl) _ _ rfl _ _ rfl; (case hS => (intro W hC; exact (show World.rangeAt _ _ _ (It.vals _) from hC.2.2.2.1))); (case hu => exact Try.underlying59); (case hd => rfl); (case hi => kernel_rfl)) | (apply yieldsIf_load_mid (by kernel_rfl) _ _ rfl _ _ rfl; (case hS => (intro W hC; exact (show World.rangeAt _ _ _ (It.vals _) from hC.2.2.2))); (case hu => exact Try.underlying59); (case hd => rfl); (case hi => kernel_rfl)) | (apply yieldsIf_load_mid (by kernel_rfl) _ _ rfl _ _ rfl; (case hS => (intro W hC; exact (show World.rangeAt _ _ _ (It.vals _) from hC.2.2))); (case hu => exact Try.underlying59); (case hd => rfl); (case hi => kernel_rfl)) | (apply yieldsIf_load_mid (by kernel_rfl) _ _ rfl _ _ rfl; (case hS => (intro W hC; exact (show World.rangeAt _ _ _ (It.vals _) from hC.2))); (case hu => exact Try.underlying59); (case hd => rfl); (case hi => kernel_rfl)) | (apply yieldsIf_load_mid (by kernel_rfl) _ _ rfl _ _ rfl; (case hS => (intro W hC; exact (show World.rangeAt _ _ _ (It.vals _) from hC))); (case hu => exact Try.underlying59); (case hd => rfl); (case hi => kernel_rfl))
          case hC => exact HC
          case ha => (simp only [Act.put, List.setIfInBounds_toArray, List.set_cons_zero, List.set_cons_succ]; rfl)
          -- 10
          refine WZ.one (i := 10) rfl (by kernel_rfl) ?_
          conv => arg 4; arg 1; whnf
          go_wp2_with (go_at_call 55; refine (itemSame_any y z _).mono ?_; rintro e w1 ⟨rfl, hb1⟩)
          have HG1 := Lib.hid (grownBy_trans (grownBy_drew1 HG.out) (grownBy_below hb1 (some g)))
          have HA1 := Lib.hid (HA.out.drew.below hb1 (HA.out.drew.lt))
          have HC : w1.rangeAt g (k * 7) (It.vals y) ∧ w1.rangeAt g (k1 * 7) (It.vals z) := ⟨HA1.out.get HX1.out, HA1.out.get HX2.out⟩
          clear hb1
          refine ⟨HC, ?_⟩
          refine WZ.done (by kernel_rfl) ?_ _
          simp only [Calm, Exit.then]
          go_wp2
          exact ⟨⟨k + 1, rfl, by omega, by omega, HF, HA1, HG1⟩, by simp [intOf]; omega⟩
        | true =>
          have HS0 := Lib.hid (CmpSt.start (eq := (fun a b : It => a.c.same b.c)) hk1 HCO.out HX1.out HXZ.out hs)
          have hkc : k < cap := by have := HCAP.out; omega
          have hsl := fun W => run_tail (P := Try.prog) (t := 32) (e := 59) (size := 7) Try.underlying32 hi0 hz1 (some ⟨g, 0, none⟩) N cap k (by omega) W
          have htl : tailA (some ⟨g, 0, none⟩) cap k 7 = some ⟨g, k * 7, none⟩ := by
            unfold tailA
            rw [if_neg (by omega), Option.map_some, add_at, Nat.zero_add]
          rw [htl] at hsl
          have kq : (k : Int) ≤ (N : Int) := by omega
          have kq2 : (N : Int) ≤ (cap : Int) := by have := HCAP.out; omega
          have kq3 : (k : Int) ≤ (cap : Int) := by omega
          obtain ⟨nk, hnk⟩ : ∃ nk, N - k = nk := ⟨_, rfl⟩
          obtain ⟨ck, hck⟩ : ∃ ck, cap - k = ck := ⟨_, rfl⟩
          rw [hnk, hck] at hsl
          have HNK := Lib.hid hnk
          clear htl hnk hck
          go_wp2
          refine region_wz (fun W' => W'.rangeAt g (k * 7) (It.vals y) ∧ W'.rangeAt g (k1 * 7) (It.vals z)) none (by kernel_rfl) ?_
          apply WZ.take (i := 0) (some 18) rfl rfl (by kernel_rfl) (by kernel_rfl) (by kernel_rfl) (calm_panic _) (by kernel_rfl)
          case hy => (refine .inl ⟨by kernel_rfl, fun W hC => ?_⟩; (try dsimp only at hC); go_simp; (try simp only [hd1]); rfl)
          case hC => exact HC
          case ha => (simp only [Act.put, List.setIfInBounds_toArray, List.set_cons_zero, List.set_cons_succ]; rfl)
          apply WZ.take (i := 1) (some 19) rfl rfl (by kernel_rfl) (by kernel_rfl) (by kernel_rfl) (calm_panic _) (by kernel_rfl)
          case hy => (refine .inl ⟨by kernel_rfl, fun W hC => ?_⟩; (try dsimp only at hC); go_simp; (try simp only [hd1]); rfl)
          case hC => exact HC
          case ha => (simp only [Act.put, List.setIfInBounds_toArray, List.set_cons_zero, List.set_cons_succ]; rfl)
          apply WZ.take (i := 2) (some 20) rfl rfl (by kernel_rfl) (by kernel_rfl) (by kernel_rfl) (calm_panic _) (by kernel_rfl)
          case hy => (refine .inl ⟨by kernel_rfl, fun W hC => ?_⟩; (try dsimp only at hC); go_simp; (try simp only [hd1]); rfl)
          case hC => exact HC
          case ha => (simp only [Act.put, List.setIfInBounds_toArray, List.set_cons_zero, List.set_cons_succ]; rfl)
          apply WZ.take (i := 3) (some 21) rfl rfl (by kernel_rfl) (by kernel_rfl) (by kernel_rfl) (calm_panic _) (by kernel_rfl)
          case hy => (refine .inl ⟨by kernel_rfl, fun W hC => ?_⟩; (try dsimp only at hC); go_simp; (try simp only [hd1]); rfl)
          case hC => exact HC
          case ha => (simp only [Act.put, List.setIfInBounds_toArray, List.set_cons_zero, List.set_cons_succ]; rfl)
          apply WZ.take (i := 4) (some 22) rfl rfl (by kernel_rfl) (by kernel_rfl) (by kernel_rfl) (calm_panic _) (by kernel_rfl)
          case hy => first | (apply yieldsIf_load_mid (by kernel_rfl) _ _ rfl _ _ rfl; (case hS => (intro W hC; exact (show World.rangeAt _ _ _ (It.vals _) from hC.1))); (case hu => exact Try.underlying59); (case hd => rfl); (case hi => kernel_rfl)) | (apply yieldsIf_load_mid (by kernel_rfl) _ _ rfl _ _ rfl; (case hS => (intro W hC; exact (show World.rangeAt _ _ _ (It.vals _) from hC.2.1))); (case hu => exact Try.underlying59); (case hd => rfl); (case hi => kernel_rfl)) | (apply yieldsIf_load_mid (by kernel_rfl) _ _ rfl _ _ rfl; (case hS => (intro W hC; exact (show World.rangeAt _ _ _ (It.vals _) from hC.2.2.1))); (case hu => exact Try.underlying59); (case hd => rfl); (case hi => kernel_rfl)) | (apply yieldsIf_load_mid (by kernel_rfl) _ _ rfl _ _ rfl; (case hS => (intro W hC; exact (show World.rangeAt _ _ _ (It.vals _) from hC.2.2.2.1))); (case hu => exact Try.underlying59); (case hd => rfl); (case hi => kernel_rfl)) | (apply yieldsIf_load_mid (by kernel_rfl) _ _ rfl _ _ rfl; (case hS => (intro W hC; exact (show World.rangeAt _ _ _ (It.vals _) from hC.2.2.2))); (case hu => exact Try.underlying59); (case hd => rfl); (case hi => kernel_rfl)) | (apply yieldsIf_load_mid (by kernel_rfl) _ _ rfl _ _ rfl; (case hS => (intro W hC; exact (show World.rangeAt _ _ _ (It.vals _) from hC.2.2))); (case hu => exact Try.underlying59); (case hd => rfl); (case hi => kernel_rfl)) | (apply yieldsIf_load_mid (by kernel_rfl) _ _ rfl _ _ rfl; (case hS => (intro W hC; exact (show World.rangeAt _ _ _ (It.vals _) from hC.2))); (case hu => exact Try.underlying59); (case hd => rfl); (case hi => kernel_rfl)) | (apply yieldsIf_load_mid (by kernel_rfl) _ _ rfl _ _ rfl; (case hS => (intro W hC; exact (show World.rangeAt _ _ _ (It.vals _) from hC))); (case hu => exact Try.underlying59); (case hd => rfl); (case hi => kernel_rfl))
          case hC => exact HC
          case ha => (simp only [Act.put, List.setIfInBounds_toArray, List.set_cons_zero, List.set_cons_succ]; rfl)
          apply WZ.take (i := 5) (some 23) rfl rfl (by kernel_rfl) (by kernel_rfl) (by kernel_rfl) (calm_panic _) (by kernel_rfl)
          case hy => (refine .inl ⟨by kernel_rfl, fun W hC => ?_⟩; (try dsimp only at hC); go_simp; (try simp only [hd1]); rfl)
          case hC => exact HC
          case ha => (simp only [Act.put, List.setIfInBounds_toArray, List.set_cons_zero, List.set_cons_succ]; rfl)
          apply WZ.take (i := 6) (some 24) rfl rfl (by kernel_rfl) (by kernel_rfl) (by kernel_rfl) (calm_panic _) (by kernel_rfl)
          case hy => (refine .inl ⟨by kernel_rfl, fun W hC => ?_⟩; (try dsimp only at hC); go_simp; (try simp only [hd1]); rfl)
          case hC => exact HC
          case ha => (simp only [Act.put, List.setIfInBounds_toArray, List.set_cons_zero, List.set_cons_succ]; rfl)
          apply WZ.take (i := 7) (some 25) rfl rfl (by kernel_rfl) (by kernel_rfl) (by kernel_rfl) (calm_panic _) (by kernel_rfl)
          case hy => (refine .inl ⟨by kernel_rfl, fun W hC => ?_⟩; (try dsimp only at hC); go_simp; (try simp only [hd1]); rfl)
          case hC => exact HC
          case ha => (simp only [Act.put, List.setIfInBounds_toArray, List.set_cons_zero, List.set_cons_succ]; rfl)
          apply WZ.take (i := 8) (some 26) rfl rfl (by kernel_rfl) (by kernel_rfl) (by kernel_rfl) (calm_panic _) (by kernel_rfl)
          case hy => (refine .inl ⟨by kernel_rfl, fun W hC => ?_⟩; (try dsimp only at hC); go_simp; (try simp only [hd1]); rfl)
          case hC => exact HC
          case ha => (simp only [Act.put, List.setIfInBounds_toArray, List.set_cons_zero, List.set_cons_succ]; rfl)
          apply WZ.take (i := 9) (some 27) rfl rfl (by kernel_rfl) (by kernel_rfl) (by kernel_rfl) (calm_panic _) (by kernel_rfl)
          case hy => first | (apply yieldsIf_load_mid (by kernel_rfl) _ _ rfl _ _ rfl; (case hS => (intro W hC; exact (show World.rangeAt _ _ _ (It.vals _) from hC.1))); (case hu => exact Try.underlying59); (case hd => rfl); (case hi => kernel_rfl)) | (apply yieldsIf_load_mid (by kernel_rfl) _ _ rfl _ _ rfl; (case hS => (intro W hC; exact (show World.rangeAt _ _ _ (It.vals _) from hC.2.1))); (case hu => exact Try.underlying59); (case hd => rfl); (case hi => kernel_rfl)) | (apply yieldsIf_load_mid (by kernel_rfl) _ _ rfl _ _ rfl; (case hS => (intro W hC; exact (show World.rangeAt _ _ _ (It.vals _) from hC.2.2.1))); (case hu => exact Try.underlying59); (case hd => rfl); (case hi => kernel_rfl)) | (apply yieldsIf_load_mid (by kernel_rfl) _ _ rfl _ _ rfl; (case hS => (intro W hC; exact (show World.rangeAt _ _ _ (It.vals _) from hC.2.2.2.1))); (case hu => exact Try.underlying59); (case hd => rfl); (case hi => kernel_rfl)) | (apply yieldsIf_load_mid (by kernel_rfl) _ _ rfl _ _ rfl; (case hS => (intro W hC; exact (show World.rangeAt _ _ _ (It.vals _) from hC.2.2.2))); (case hu => exact Try.underlying59); (case hd => rfl); (case hi => kernel_rfl)) | (apply yieldsIf_load_mid (by kernel_rfl) _ _ rfl _ _ rfl; (case hS => (intro W hC; exact (show World.rangeAt _ _ _ (It.vals _) from hC.2.2))); (case hu => exact Try.underlying59); (case hd => rfl); (case hi => kernel_rfl)) | (apply yieldsIf_load_mid (by kernel_rfl) _ _ rfl _ _ rfl; (case hS => (intro W hC; exact (show World.rangeAt _ _ _ (It.vals _) from hC.2))); (case hu => exact Try.underlying59); (case hd => rfl); (case hi => kernel_rfl)) | (apply yieldsIf_load_mid (by kernel_rfl) _ _ rfl _ _ rfl; (case hS => (intro W hC; exact (show World.rangeAt _ _ _ (It.vals _) from hC))); (case hu => exact Try.underlying59); (case hd => rfl); (case hi => kernel_rfl))
          case hC => exact HC
          case ha => (simp only [Act.put, List.setIfInBounds_toArray, List.set_cons_zero, List.set_cons_succ]; rfl)
          -- 10
          refine WZ.one (i := 10) rfl (by kernel_rfl) ?_
          conv => arg 4; arg 1; whnf
          go_wp2_with (go_at_call 55; refine (itemSame_any y z _).mono ?_; rintro e w1 ⟨rfl, hb1⟩)
          have HG1 := Lib.hid (grownBy_trans (grownBy_drew1 HG.out) (grownBy_below hb1 (some g)))
          have HA1 := Lib.hid (HA.out.drew.below hb1 (HA.out.drew.lt))
          have HC : w1.rangeAt g (k * 7) (It.vals y) ∧ w1.rangeAt g (k1 * 7) (It.vals z) := ⟨HA1.out.get HX1.out, HA1.out.get HX2.out⟩
          clear hb1
          refine ⟨HC, ?_⟩
          refine WZ.done (by kernel_rfl) ?_ _
          simp only [Calm, Exit.then]
          go_wp2
          clear HC
          have HK0 := Lib.hid (And.intro hk1 (And.intro hlt (And.intro hkN hkc)))
          clear hk1 hkN hlt hkc e2 q1 q2 q3 q4 hd1 hsl kq kq3 HA HG HX1 HX2 HXZ HCO
          go_loopw [5, 7] (fun vk v2 wr' => ∃ (kk k2 : Nat) (m : List It), vk = .int .i64 (kk : Int) ∧ v2 = .int .i64 (k2 : Int) ∧ 1 ≤ k2 ∧ k2 ≤ nk ∧ Hid (CmpSt (fun a b : It => a.c.same b.c) l m kk (k + k2)) ∧ Hid (Arr It.vals 7 wr' g 59 S m) ∧ Hid (w.grownBy wr' (some g))) (fun vk v2 _ => nk - (intOf v2).toNat)
          case atStart => exact ⟨k, 1, l, rfl, rfl, Nat.le_refl _, by have := HK0.out; have := HNK.out; omega, HS0, HA1, HG1⟩
          case round =>
            clear HA1 HG1 HS0
            rename_i wr0 w10
            obtain ⟨kk, k2, m, rfl, rfl, hk2, hk2n, HST, HA, HG⟩ := hrel
            obtain ⟨g1, g2, g3, g4⟩ := HK0.out
            have g5 := HNK.out
            obtain ⟨s1, s2, s3, s4, s5⟩ := HST.out
            rw [HN.out] at s1 s3
            by_cases hlt : k2 < nk
            · obtain ⟨j2, hj2⟩ : ∃ j2, k2 - 1 = j2 := ⟨_, rfl⟩
              have hd1 : IntKind.i64.wrap ((k2 : Int) - 1) = (j2 : Int) := by rw [IntWalk.i64_in _ (by omega)]; omega
              obtain ⟨y, hy⟩ : ∃ y, l[k + k2]? = some y := ⟨_, List.getElem?_eq_getElem (by rw [HN.out]; omega)⟩
              obtain ⟨z, hz⟩ : ∃ z, l[k + k2 - 1]? = some z := ⟨_, List.getElem?_eq_getElem (by rw [HN.out]; omega)⟩
              have HX1 := Lib.hid (show m[k + k2]? = some y by rw [HST.out.get (by omega)]; exact hy)
              have HX2 := Lib.hid (show m[k + j2]? = some z by rw [HST.out.get (by omega), ← hj2, show k + (k2 - 1) = k + k2 - 1 by omega]; exact hz)
              have HP1 := Lib.hid (show (k + k2) * 7 = k * 7 + k2 * 7 from Nat.add_mul _ _ _)
              have HP2 := Lib.hid (show (k + j2) * 7 = k * 7 + j2 * 7 from Nat.add_mul _ _ _)
              have HC : wr.drew.rangeAt g (k * 7 + k2 * 7) (It.vals y) ∧ wr.drew.rangeAt g (k * 7 + j2 * 7) (It.vals z) := ⟨HP1.out ▸ HA.out.drew.get HX1.out, HP2.out ▸ HA.out.drew.get HX2.out⟩
              have e2 : decide ((k2 : Int) < (nk : Int)) = true := decide_eq_true (by omega)
              have q1 : (0 : Int) ≤ (k2 : Int) := by omega
              have q2 : (k2 : Int) < (nk : Int) := by omega
              have q3 : (0 : Int) ≤ (j2 : Int) := by omega
              have q4 : (j2 : Int) < (nk : Int) := by omega
              have q5 : (0 : Int) ≤ (kk : Int) := by omega
              have q6 : (kk : Int) < (N : Int) := by omega
              have hkl : kk < m.length := by omega
              have HKL := Lib.hid hkl
              have hw3 : IntKind.i64.wrap ((kk : Int) + 1) = ((kk + 1 : Nat) : Int) := by rw [IntWalk.i64_in _ (by omega)]; omega
              have hw4 : IntKind.i64.wrap ((k2 : Int) + 1) = ((k2 + 1 : Nat) : Int) := by rw [IntWalk.i64_in _ (by omega)]; omega
              cases hs : y.c.same z.c with
              | true =>
                have HF := Lib.hid (HST.out.skip hy hz hs)
                clear g1 g2 g3 g4 g5 s1 s2 s3 s4 s5 hy hz hj2 hkl
                go_wp2
                refine region_wz (fun W' => W'.rangeAt g (k * 7 + k2 * 7) (It.vals y) ∧ W'.rangeAt g (k * 7 + j2 * 7) (It.vals z)) none (by kernel_rfl) ?_
                apply WZ.take (i := 0) (some 38) rfl rfl (by kernel_rfl) (by kernel_rfl) (by kernel_rfl) (calm_panic _) (by kernel_rfl)
                case hy => (refine .inl ⟨by kernel_rfl, fun W hC => ?_⟩; (try dsimp only at hC); go_simp; (try simp only [hd1]); rfl)
                case hC => exact HC
                case ha => (simp only [Act.put, List.setIfInBounds_toArray, List.set_cons_zero, List.set_cons_succ]; rfl)
                apply WZ.take (i := 1) (some 39) rfl rfl (by kernel_rfl) (by kernel_rfl) (by kernel_rfl) (calm_panic _) (by kernel_rfl)
                case hy => (refine .inl ⟨by kernel_rfl, fun W hC => ?_⟩; (try dsimp only at hC); go_simp; (try simp only [hd1]); rfl)
                case hC => exact HC
                case ha => (simp only [Act.put, List.setIfInBounds_toArray, List.set_cons_zero, List.set_cons_succ]; rfl)
                apply WZ.take (i := 2) (some 40) rfl rfl (by kernel_rfl) (by kernel_rfl) (by kernel_rfl) (calm_panic _) (by kernel_rfl)
                case hy => (refine .inl ⟨by kernel_rfl, fun W hC => ?_⟩; (try dsimp only at hC); go_simp; (try simp only [hd1]); rfl)
                case hC => exact HC
                case ha => (simp only [Act.put, List.setIfInBounds_toArray, List.set_cons_zero, List.set_cons_succ]; rfl)
                apply WZ.take (i := 3) (some 41) rfl rfl (by kernel_rfl) (by kernel_rfl) (by kernel_rfl) (calm_panic _) (by kernel_rfl)
                case hy => (refine .inl ⟨by kernel_rfl, fun W hC => ?_⟩; (try dsimp only at hC); go_simp; (try simp only [hd1]); rfl)
                case hC => exact HC
                case ha => (simp only [Act.put, List.setIfInBounds_toArray, List.set_cons_zero, List.set_cons_succ]; rfl)
                apply WZ.take (i := 4) (some 42) rfl rfl (by kernel_rfl) (by kernel_rfl) (by kernel_rfl) (calm_panic _) (by kernel_rfl)
                case hy => first | (apply yieldsIf_load_mid (by kernel_rfl) _ _ rfl _ _ rfl; (case hS => (intro W hC; exact (show World.rangeAt _ _ _ (It.vals _) from hC.1))); (case hu => exact Try.underlying59); (case hd => rfl); (case hi => kernel_rfl)) | (apply yieldsIf_load_mid (by kernel_rfl) _ _ rfl _ _ rfl; (case hS => (intro W hC; exact (show World.rangeAt _ _ _ (It.vals _) from hC.2.1))); (case hu => exact Try.underlying59); (case hd => rfl); (case hi => kernel_rfl)) | (apply yieldsIf_load_mid (by kernel_rfl) _ _ rfl _ _ rfl; (case hS => (intro W hC; exact (show World.rangeAt _ _ _ (It.vals _) from hC.2.2.1))); (case hu => exact Try.underlying59); (case hd => rfl); (case hi => kernel_rfl)) | (apply yieldsIf_load_mid (by kernel_rfl) _ _ rfl _ _ rfl; (case hS => (intro W hC; exact (show World.rangeAt _ _ _ (It.vals _) from hC.2.2.2.1))); (case hu => exact Try.underlying59); (case hd => rfl); (case hi => kernel_rfl)) | (apply yieldsIf_load_mid (by kernel_rfl) _ _ rfl _ _ rfl; (case hS => (intro W hC; exact (show World.rangeAt _ _ _ (It.vals _) from hC.2.2.2))); (case hu => exact Try.underlying59); (case hd => rfl); (case hi => kernel_rfl)) | (apply yieldsIf_load_mid (by kernel_rfl) _ _ rfl _ _ rfl; (case hS => (intro W hC; exact (show World.rangeAt _ _ _ (It.vals _) from hC.2.2))); (case hu => exact Try.underlying59); (case hd => rfl); (case hi => kernel_rfl)) | (apply yieldsIf_load_mid (by kernel_rfl) _ _ rfl _ _ rfl; (case hS => (intro W hC; exact (show World.rangeAt _ _ _ (It.vals _) from hC.2))); (case hu => exact Try.underlying59); (case hd => rfl); (case hi => kernel_rfl)) | (apply yieldsIf_load_mid (by kernel_rfl) _ _ rfl _ _ rfl; (case hS => (intro W hC; exact (show World.rangeAt _ _ _ (It.vals _) from hC))); (case hu => exact Try.underlying59); (case hd => rfl); (case hi => kernel_rfl))
                case hC => exact HC
                case ha => (simp only [Act.put, List.setIfInBounds_toArray, List.set_cons_zero, List.set_cons_succ]; rfl)
                apply WZ.take (i := 5) (some 43) rfl rfl (by kernel_rfl) (by kernel_rfl) (by kernel_rfl) (calm_panic _) (by kernel_rfl)
                case hy => (refine .inl ⟨by kernel_rfl, fun W hC => ?_⟩; (try dsimp only at hC); go_simp; (try simp only [hd1]); rfl)
                case hC => exact HC
                case ha => (simp only [Act.put, List.setIfInBounds_toArray, List.set_cons_zero, List.set_cons_succ]; rfl)
                apply WZ.take (i := 6) (some 44) rfl rfl (by kernel_rfl) (by kernel_rfl) (by kernel_rfl) (calm_panic _) (by kernel_rfl)
                case hy => (refine .inl ⟨by kernel_rfl, fun W hC => ?_⟩; (try dsimp only at hC); go_simp; (try simp only [hd1]); rfl)
                case hC => exact HC
                case ha => (simp only [Act.put, List.setIfInBounds_toArray, List.set_cons_zero, List.set_cons_succ]; rfl)
                apply WZ.take (i := 7) (some 45) rfl rfl (by kernel_rfl) (by kernel_rfl) (by kernel_rfl) (calm_panic _) (by kernel_rfl)
                case hy => (refine .inl ⟨by kernel_rfl, fun W hC => ?_⟩; (try dsimp only at hC); go_simp; (try simp only [hd1]); rfl)
                case hC => exact HC
                case ha => (simp only [Act.put, List.setIfInBounds_toArray, List.set_cons_zero, List.set_cons_succ]; rfl)
                apply WZ.take (i := 8) (some 46) rfl rfl (by kernel_rfl) (by kernel_rfl) (by kernel_rfl) (calm_panic _) (by kernel_rfl)
                case hy => (refine .inl ⟨by kernel_rfl, fun W hC => ?_⟩; (try dsimp only at hC); go_simp; (try simp only [hd1]); rfl)
                case hC => exact HC
                case ha => (simp only [Act.put, List.setIfInBounds_toArray, List.set_cons_zero, List.set_cons_succ]; rfl)
                apply WZ.take (i := 9) (some 47) rfl rfl (by kernel_rfl) (by kernel_rfl) (by kernel_rfl) (calm_panic _) (by kernel_rfl)
                case hy => first | (apply yieldsIf_load_mid (by kernel_rfl) _ _ rfl _ _ rfl; (case hS => (intro W hC; exact (show World.rangeAt _ _ _ (It.vals _) from hC.1))); (case hu => exact Try.underlying59); (case hd => rfl); (case hi => kernel_rfl)) | (apply yieldsIf_load_mid (by kernel_rfl) _ _ rfl _ _ rfl; (case hS => (intro W hC; exact (show World.rangeAt _ _ _ (It.vals _) from hC.2.1))); (case hu => exact Try.underlying59); (case hd => rfl); (case hi => kernel_rfl)) | (apply yieldsIf_load_mid (by kernel_rfl) _ _ rfl _ _ rfl; (case hS => (intro W hC; exact (show World.rangeAt _ _ _ (It.vals _) from hC.2.2.1))); (case hu => exact Try.underlying59); (case hd => rfl); (case hi => kernel_rfl)) | (apply yieldsIf_load_mid (by kernel_rfl) _ _ rfl _ _ rfl; (case hS => (intro W hC; exact (show World.rangeAt _ _ _ (It.vals _) from hC.2.2.2.1))); (case hu => exact Try.underlying59); (case hd => rfl); (case hi => kernel_rfl)) | (apply yieldsIf_load_mid (by kernel_rfl) _ _ rfl _ _ rfl; (case hS => (intro W hC; exact (show World.rangeAt _ _ _ (It.vals _) from hC.2.2.2))); (case hu => exact Try.underlying59); (case hd => rfl); (case hi => kernel_rfl)) | (apply yieldsIf_load_mid (by kernel_rfl) _ _ rfl _ _ rfl; (case hS => (intro W hC; exact (show World.rangeAt _ _ _ (It.vals _) from hC.2.2))); (case hu => exact Try.underlying59); (case hd => rfl); (case hi => kernel_rfl)) | (apply yieldsIf_load_mid (by kernel_rfl) _ _ rfl _ _ rfl; (case hS => (intro W hC; exact (show World.rangeAt _ _ _ (It.vals _) from hC.2))); (case hu => exact Try.underlying59); (case hd => rfl); (case hi => kernel_rfl)) | (apply yieldsIf_load_mid (by kernel_rfl) _ _ rfl _ _ rfl; (case hS => (intro W hC; exact (show World.rangeAt _ _ _ (It.vals _) from hC))); (case hu => exact Try.underlying59); (case hd => rfl); (case hi => kernel_rfl))
                case hC => exact HC
                case ha => (simp only [Act.put, List.setIfInBounds_toArray, List.set_cons_zero, List.set_cons_succ]; rfl)
                -- 10
                refine WZ.one (i := 10) rfl (by kernel_rfl) ?_
                conv => arg 4; arg 1; whnf
                go_wp2_with (go_at_call 55; refine (itemSame_any y z _).mono ?_; rintro e w1 ⟨rfl, hb1⟩)
                have HG1 := Lib.hid (grownBy_trans (grownBy_drew1 HG.out) (grownBy_below hb1 (some g)))
                have HA1 := Lib.hid (HA.out.drew.below hb1 (HA.out.drew.lt))
                have HC : w1.rangeAt g (k * 7 + k2 * 7) (It.vals y) ∧ w1.rangeAt g (k * 7 + j2 * 7) (It.vals z) := ⟨HP1.out ▸ HA1.out.get HX1.out, HP2.out ▸ HA1.out.get HX2.out⟩
                clear hb1
                refine ⟨HC, ?_⟩
                apply WZ.take (i := 11) (some 49) rfl rfl (by kernel_rfl) (by kernel_rfl) (by kernel_rfl) (calm_panic _) (by kernel_rfl)
                case hy => (refine .inl ⟨by kernel_rfl, fun W hC => ?_⟩; (try dsimp only at hC); go_simp; (try simp only [hd1]); rfl)
                case hC => exact HC
                case ha => (simp only [Act.put, List.setIfInBounds_toArray, List.set_cons_zero, List.set_cons_succ]; rfl)
                refine WZ.done (by kernel_rfl) ?_ _
                simp only [Calm, Exit.then]
                go_wp2
                exact ⟨⟨kk, k2 + 1, m, rfl, rfl, by omega, by omega, HF, HA1, HG1⟩, by simp [intOf]; omega⟩
              | false =>
                have HF := Lib.hid (HST.out.put hy hz hs)
                clear g1 g2 g3 g4 g5 s1 s2 s3 s4 s5 hy hz hj2 hkl
                go_wp2
                refine region_wz (fun W' => W'.rangeAt g (k * 7 + k2 * 7) (It.vals y) ∧ W'.rangeAt g (k * 7 + j2 * 7) (It.vals z)) none (by kernel_rfl) ?_
                apply WZ.take (i := 0) (some 38) rfl rfl (by kernel_rfl) (by kernel_rfl) (by kernel_rfl) (calm_panic _) (by kernel_rfl)
                case hy => (refine .inl ⟨by kernel_rfl, fun W hC => ?_⟩; (try dsimp only at hC); go_simp; (try simp only [hd1]); rfl)
                case hC => exact HC
                case ha => (simp only [Act.put, List.setIfInBounds_toArray, List.set_cons_zero, List.set_cons_succ]; rfl)
                apply WZ.take (i := 1) (some 39) rfl rfl (by kernel_rfl) (by kernel_rfl) (by kernel_rfl) (calm_panic _) (by kernel_rfl)
                case hy => (refine .inl ⟨by kernel_rfl, fun W hC => ?_⟩; (try dsimp only at hC); go_simp; (try simp only [hd1]); rfl)
                case hC => exact HC
                case ha => (simp only [Act.put, List.setIfInBounds_toArray, List.set_cons_zero, List.set_cons_succ]; rfl)
                apply WZ.take (i := 2) (some 40) rfl rfl (by kernel_rfl) (by kernel_rfl) (by kernel_rfl) (calm_panic _) (by kernel_rfl)
                case hy => (refine .inl ⟨by kernel_rfl, fun W hC => ?_⟩; (try dsimp only at hC); go_simp; (try simp only [hd1]); rfl)
                case hC => exact HC
                case ha => (simp only [Act.put, List.setIfInBounds_toArray, List.set_cons_zero, List.set_cons_succ]; rfl)
                apply WZ.take (i := 3) (some 41) rfl rfl (by kernel_rfl) (by kernel_rfl) (by kernel_rfl) (calm_panic _) (by kernel_rfl)
                case hy => (refine .inl ⟨by kernel_rfl, fun W hC => ?_⟩; (try dsimp only at hC); go_simp; (try simp only [hd1]); rfl)
                case hC => exact HC
                case ha => (simp only [Act.put, List.setIfInBounds_toArray, List.set_cons_zero, List.set_cons_succ]; rfl)
                apply WZ.take (i := 4) (some 42) rfl rfl (by kernel_rfl) (by kernel_rfl) (by kernel_rfl) (calm_panic _) (by kernel_rfl)
                case hy => first | (apply yieldsIf_load_mid (by kernel_rfl) _ _ rfl _ _ rfl; (case hS => (intro W hC; exact (show World.rangeAt _ _ _ (It.vals _) from hC.1))); (case hu => exact Try.underlying59); (case hd => rfl); (case hi => kernel_rfl)) | (apply yieldsIf_load_mid (by kernel_rfl) _ _ rfl _ _ rfl; (case hS => (intro W hC; exact (show World.rangeAt _ _ _ (It.vals _) from hC.2.1))); (case hu => exact Try.underlying59); (case hd => rfl); (case hi => kernel_rfl)) | (apply yieldsIf_load_mid (by kernel_rfl) _ _ rfl _ _ rfl; (case hS => (intro W hC; exact (show World.rangeAt _ _ _ (It.vals _) from hC.2.2.1))); (case hu => exact Try.underlying59); (case hd => rfl); (case hi => kernel_rfl)) | (apply yieldsIf_load_mid (by kernel_rfl) _ _ rfl _ _ rfl; (case hS => (intro W hC; exact (show World.rangeAt _ _ _ (It.vals _) from hC.2.2.2.1))); (case hu => exact Try.underlying59); (case hd => rfl); (case hi => kernel_rfl)) | (apply yieldsIf_load_mid (by kernel_rfl) _ _ rfl _ _ rfl; (case hS => (intro W hC; exact (show World.rangeAt _ _ _ (It.vals _) from hC.2.2.2))); (case hu => exact Try.underlying59); (case hd => rfl); (case hi => kernel_rfl)) | (apply yieldsIf_load_mid (by kernel_rfl) _ _ rfl _ _ rfl; (case hS => (intro W hC; exact (show World.rangeAt _ _ _ (It.vals _) from hC.2.2))); (case hu => exact Try.underlying59); (case hd => rfl); (case hi => kernel_rfl)) | (apply yieldsIf_load_mid (by kernel_rfl) _ _ rfl _ _ rfl; (case hS => (intro W hC; exact (show World.rangeAt _ _ _ (It.vals _) from hC.2))); (case hu => exact Try.underlying59); (case hd => rfl); (case hi => kernel_rfl)) | (apply yieldsIf_load_mid (by kernel_rfl) _ _ rfl _ _ rfl; (case hS => (intro W hC; exact (show World.rangeAt _ _ _ (It.vals _) from hC))); (case hu => exact Try.underlying59); (case hd => rfl); (case hi => kernel_rfl))
                case hC => exact HC
                case ha => (simp only [Act.put, List.setIfInBounds_toArray, List.set_cons_zero, List.set_cons_succ]; rfl)
                apply WZ.take (i := 5) (some 43) rfl rfl (by kernel_rfl) (by kernel_rfl) (by kernel_rfl) (calm_panic _) (by kernel_rfl)
                case hy => (refine .inl ⟨by kernel_rfl, fun W hC => ?_⟩; (try dsimp only at hC); go_simp; (try simp only [hd1]); rfl)
                case hC => exact HC
                case ha => (simp only [Act.put, List.setIfInBounds_toArray, List.set_cons_zero, List.set_cons_succ]; rfl)
                apply WZ.take (i := 6) (some 44) rfl rfl (by kernel_rfl) (by kernel_rfl) (by kernel_rfl) (calm_panic _) (by kernel_rfl)
                case hy => (refine .inl ⟨by kernel_rfl, fun W hC => ?_⟩; (try dsimp only at hC); go_simp; (try simp only [hd1]); rfl)
                case hC => exact HC
                case ha => (simp only [Act.put, List.setIfInBounds_toArray, List.set_cons_zero, List.set_cons_succ]; rfl)
                apply WZ.take (i := 7) (some 45) rfl rfl (by kernel_rfl) (by kernel_rfl) (by kernel_rfl) (calm_panic _) (by kernel_rfl)
                case hy => (refine .inl ⟨by kernel_rfl, fun W hC => ?_⟩; (try dsimp only at hC); go_simp; (try simp only [hd1]); rfl)
                case hC => exact HC
                case ha => (simp only [Act.put, List.setIfInBounds_toArray, List.set_cons_zero, List.set_cons_succ]; rfl)
                apply WZ.take (i := 8) (some 46) rfl rfl (by kernel_rfl) (by kernel_rfl) (by kernel_rfl) (calm_panic _) (by kernel_rfl)
                case hy => (refine .inl ⟨by kernel_rfl, fun W hC => ?_⟩; (try dsimp only at hC); go_simp; (try simp only [hd1]); rfl)
                case hC => exact HC
                case ha => (simp only [Act.put, List.setIfInBounds_toArray, List.set_cons_zero, List.set_cons_succ]; rfl)
                apply WZ.take (i := 9) (some 47) rfl rfl (by kernel_rfl) (by kernel_rfl) (by kernel_rfl) (calm_panic _) (by kernel_rfl)
                case hy => first | (apply yieldsIf_load_mid (by kernel_rfl) _ _ rfl _ _ rfl; (case hS => (intro W hC; exact (show World.rangeAt _ _ _ (It.vals _) from hC.1))); (case hu => exact Try.underlying59); (case hd => rfl); (case hi => kernel_rfl)) | (apply yieldsIf_load_mid (by kernel_rfl) _ _ rfl _ _ rfl; (case hS => (intro W hC; exact (show World.rangeAt _ _ _ (It.vals _) from hC.2.1))); (case hu => exact Try.underlying59); (case hd => rfl); (case hi => kernel_rfl)) | (apply yieldsIf_load_mid (by kernel_rfl) _ _ rfl _ _ rfl; (case hS => (intro W hC; exact (show World.rangeAt _ _ _ (It.vals _) from hC.2.2.1))); (case hu => exact Try.underlying59); (case hd => rfl); (case hi => kernel_rfl)) | (apply yieldsIf_load_mid (by kernel_rfl) _ _ rfl _ _ rfl; (case hS => (intro W hC; exact (show World.rangeAt _ _ _ (It.vals _) from hC.2.2.2.1))); (case hu => exact Try.underlying59); (case hd => rfl); (case hi => kernel_rfl)) | (apply yieldsIf_load_mid (by kernel_rfl) _ _ rfl _ _ rfl; (case hS => (intro W hC; exact (show World.rangeAt _ _ _ (It.vals _) from hC.2.2.2))); (case hu => exact Try.underlying59); (case hd => rfl); (case hi => kernel_rfl)) | (apply yieldsIf_load_mid (by kernel_rfl) _ _ rfl _ _ rfl; (case hS => (intro W hC; exact (show World.rangeAt _ _ _ (It.vals _) from hC.2.2))); (case hu => exact Try.underlying59); (case hd => rfl); (case hi => kernel_rfl)) | (apply yieldsIf_load_mid (by kernel_rfl) _ _ rfl _ _ rfl; (case hS => (intro W hC; exact (show World.rangeAt _ _ _ (It.vals _) from hC.2))); (case hu => exact Try.underlying59); (case hd => rfl); (case hi => kernel_rfl)) | (apply yieldsIf_load_mid (by kernel_rfl) _ _ rfl _ _ rfl; (case hS => (intro W hC; exact (show World.rangeAt _ _ _ (It.vals _) from hC))); (case hu => exact Try.underlying59); (case hd => rfl); (case hi => kernel_rfl))
                case hC => exact HC
                case ha => (simp only [Act.put, List.setIfInBounds_toArray, List.set_cons_zero, List.set_cons_succ]; rfl)
                -- 10
                refine WZ.one (i := 10) rfl (by kernel_rfl) ?_
                conv => arg 4; arg 1; whnf
                go_wp2_with (go_at_call 55; refine (itemSame_any y z _).mono ?_; rintro e w1 ⟨rfl, hb1⟩)
                have HG1 := Lib.hid (grownBy_trans (grownBy_drew1 HG.out) (grownBy_below hb1 (some g)))
                have HA1 := Lib.hid (HA.out.drew.below hb1 (HA.out.drew.lt))
                have HC : w1.rangeAt g (k * 7 + k2 * 7) (It.vals y) ∧ w1.rangeAt g (k * 7 + j2 * 7) (It.vals z) := ⟨HP1.out ▸ HA1.out.get HX1.out, HP2.out ▸ HA1.out.get HX2.out⟩
                clear hb1
                refine ⟨HC, ?_⟩
                apply WZ.take (i := 11) (some 49) rfl rfl (by kernel_rfl) (by kernel_rfl) (by kernel_rfl) (calm_panic _) (by kernel_rfl)
                case hy => (refine .inl ⟨by kernel_rfl, fun W hC => ?_⟩; (try dsimp only at hC); go_simp; (try simp only [hd1]); rfl)
                case hC => exact HC
                case ha => (simp only [Act.put, List.setIfInBounds_toArray, List.set_cons_zero, List.set_cons_succ]; rfl)
                refine WZ.done (by kernel_rfl) ?_ _
                simp only [Calm, Exit.then]
                have hkl := HKL.out
                have HA2 := HA1.out.set (It.vals_len) hkl y
                go_wp2_with (first
                  | (show wpList _ _ _ ({ dst := some 55, op := Op.load _ _, type := _, pos := _, after := _, guard := _ } :: _) _ _; refine wpList_load_mid rfl 59 (.tmp 54) rfl g (k * 7 + k2 * 7) rfl (It.vals y) _ HC.1 Try.underlying59 rfl (by kernel_rfl) ?_)
                  | (show wpList _ _ _ ({ dst := none, op := Op.store _ _ _, type := _, pos := _, after := _, guard := _ } :: _) _ _; refine wpList_store_mid rfl 59 (.tmp 56) (.tmp 55) rfl g (kk * 7) _ rfl rfl (HA1.out.there_at hkl) (by kernel_rfl) (all_oneCell_toArray (It.one _)) ?_))
                exact ⟨⟨kk + 1, k2 + 1, m.set kk y, rfl, rfl, by omega, by omega, HF, Lib.hid HA2.1, Lib.hid (grownBy_trans HG1.out HA2.2)⟩, by simp [intOf]; omega⟩
            · have e2 : decide ((k2 : Int) < (nk : Int)) = false := decide_eq_false (by omega)
              have hpN : k + k2 = N := by omega
              have s4' : m.take kk = compactF (fun a b : It => a.c.same b.c) l := by rw [s4, hpN, List.take_of_length_le (by rw [HN.out]; exact Nat.le_refl _)]
              have hsl := fun W => run_tail (P := Try.prog) (t := 32) (e := 59) (size := 7) Try.underlying32 hi0 hz1 (some ⟨g, 0, none⟩) N cap kk (by omega) W
              have htl : tailA (some ⟨g, 0, none⟩) cap kk 7 = some ⟨g, kk * 7, none⟩ := by
                unfold tailA
                rw [if_neg (by omega), Option.map_some, add_at, Nat.zero_add]
              rw [htl] at hsl
              have hth : wr.there g (kk * 7) (Builtin.zeroCells (zeroItem).cells (N - kk)).size := HA.out.there (by
                have h1 := HA.out.len
                rw [s1] at h1
                have h2 : (Builtin.zeroCells (zeroItem).cells (N - kk)).size = (N - kk) * 7 := by simp [Builtin.zeroCells, Value.cells, zeroItem]
                rw [h2, ← Nat.add_mul]
                rwa [show kk + (N - kk) = N by omega])
              have hcl := fun ty => run_clear_mid (P := Try.prog) wr 32 59 ty zeroItem Try.underlying32 (fun W => by simp [zeroValue, typeInfo, hi0, hz0, Result.andThen]) (by simp [zeroItem, Value.cells, Value.oneCell']) g (kk * 7) (N - kk) (cap - kk) (by omega) hth
              have hab := (HA.out.take kk).above (It.vals_len) (o := kk * 7) (by rw [List.length_take]; exact Nat.mul_le_mul_right 7 (by omega)) (Builtin.zeroCells (zeroItem).cells (N - kk)).toList
              rw [s4'] at hab
              have HAB := Lib.hid hab
              have HL := Lib.hid (show (compactF (fun a b : It => a.c.same b.c) l).length = kk by
                rw [← s4', List.length_take]; omega)
              generalize (Builtin.zeroCells (zeroItem).cells (N - kk)).toList = zs at hcl HAB
              have kq : (kk : Int) ≤ (N : Int) := by omega
              have kq1 : (0 : Int) ≤ (kk : Int) := by omega
              have kq3 : (kk : Int) ≤ (cap : Int) := by omega
              have kq4 : kk ≤ cap := by omega
              obtain ⟨nkk, hnkk⟩ : ∃ nkk, N - kk = nkk := ⟨_, rfl⟩
              obtain ⟨ckk, hckk⟩ : ∃ ckk, cap - kk = ckk := ⟨_, rfl⟩
              rw [hnkk, hckk] at hsl hcl
              clear htl hth hab g1 g2 g3 g4 g5 s1 s2 s3 s4 s4' s5 hnkk hckk hpN
              go_wp2
              go_ret
              exact ⟨kk, rfl, HL.out, HAB.out.1, grownBy_trans HG.out HAB.out.2⟩
      · have e2 : decide ((k : Int) < (N : Int)) = false := decide_eq_false (by omega)
        have hkn : k = N := by omega
        have HF := Lib.hid (show compactF (fun a b : It => a.c.same b.c) l = l by have := HCO.out; rwa [hkn, List.take_of_length_le (by rw [HN.out]; exact Nat.le_refl _)] at this)
        clear hkn
        go_wp2
        go_ret
        exact ⟨N, rfl, by rw [HF.out, HN.out], by rw [HF.out]; exact HA.out, HG.out⟩
end Go.Proofs.Ytflppcgonbjnmaa
