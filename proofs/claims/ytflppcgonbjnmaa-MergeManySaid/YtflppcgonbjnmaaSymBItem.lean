/-
  The walk of symMerge at items, where the later part has one item.
-/
import Derived.Test.YtflppcgonbjnmaaSymAItem
namespace Go.Proofs.Ytflppcgonbjnmaa
open Go.RowKit
attribute [local go_sem ↓] Go.wp_at_zero Go.wp_at_succ

set_option maxRecDepth 10000 in
set_option maxHeartbeats 8000000 in
theorem symRight_any (hw : Weak It.lt) (g S cap N : Nat) (X A W : List It) (y : It) (a m b : Nat) (w : World) (h : Arr It.vals 7 w g 59 S (X ++ A ++ y :: W)) (ha : X.length = a) (hm : a + A.length = m) (hb : m + 1 = b) (hN : b + W.length = N) (hmax : N ≤ 1000000000) (hA : Srt It.lt A) (hA1 : A.length ≠ 1) :
    Calls Try.prog 62 #[.slice (some ⟨g, 0, none⟩) N cap, .int .i64 a, .int .i64 m, .int .i64 b, .func (.func 53) #[] #[]] w fun e w' =>
      e = .returned (.tuple #[]) ∧ ∃ A1 A2, A = A1 ++ A2 ∧ (∀ x ∈ A1, It.lt y x = false) ∧ (∀ x ∈ A2, It.lt y x = true) ∧ Arr It.vals 7 w' g 59 S (X ++ A1 ++ y :: (A2 ++ W)) ∧ w.grownBy w' (some g) := by
  have HW := Lib.hid hw
  have H := Lib.hid h
  have HF := Lib.hid (And.intro ha (And.intro hm (And.intro hb hN)))
  have HSA := Lib.hid hA
  obtain ⟨ma, hma⟩ : ∃ ma, m - a = ma := ⟨_, rfl⟩
  have hw1 : IntKind.i64.wrap ((m : Int) - (a : Int)) = (ma : Int) := by rw [IntWalk.i64_in _ (by omega)]; omega
  have hw1' : ((ma : Int) == 1) = false := by simp; omega
  have hw1'' : ¬ (ma : Int) = 1 := by omega
  have hw1''' : ¬ ma = 1 := by omega
  have hwb : IntKind.i64.wrap ((b : Int) - (m : Int)) = (1 : Int) := by rw [IntWalk.i64_in _ (by omega)]; omega
  have hmb : a ≤ m := by omega
  have hbN : m < N := by omega
  clear hw h hA hA1 hma
  obtain ⟨p, hp⟩ : ∃ p : Nat → Bool, ∀ q, p q = (match A[q - a]? with | some z => !It.lt y z | none => false) := ⟨_, fun _ => rfl⟩
  have HP := Lib.hid hp
  have hM0 := Lib.hid (Mid.start p hmb)
  clear hp ha hm hb hN
  go_enter Try.func62, Try.ntmps62
  go_wp2
  go_loopw [14, 15] (fun vi vj wr => ∃ (i j : Nat), vi = .int .i64 (i : Int) ∧ vj = .int .i64 (j : Int) ∧ j ≤ m ∧ Hid (Mid p a m i j) ∧ Hid (Arr It.vals 7 wr g 59 S (X ++ A ++ y :: W)) ∧ Hid (w.grownBy wr (some g))) (fun vi vj _ => (intOf vj).toNat - (intOf vi).toNat)
  case atStart => exact ⟨a, m, rfl, rfl, Nat.le_refl _, hM0, H, Lib.hid (grownBy_refl _ _)⟩
  case round =>
    obtain ⟨i, j, rfl, rfl, hjb, HM, HA, HG⟩ := hrel
    by_cases hij : i < j
    · have e1 : decide ((i : Int) < (j : Int)) = true := decide_eq_true (by omega)
      obtain ⟨ij, hijv⟩ : ∃ ij, i + j = ij := ⟨_, rfl⟩
      have hw2 : IntKind.i64.wrap ((i : Int) + (j : Int)) = (ij : Int) := by rw [IntWalk.i64_in _ (by omega)]; omega
      obtain ⟨h, hh⟩ : ∃ h, ij / 2 = h := ⟨_, rfl⟩
      have hh' : (ij : Int) / 2 = (h : Int) := by omega
      obtain ⟨f1, f2, f3, f4⟩ := HF.out
      have hmi := HM.out.lo_i
      have hih : i ≤ h ∧ h < j := by omega
      have hhB : h - a < A.length := by omega
      obtain ⟨z, hz⟩ : ∃ z, A[h - a]? = some z := ⟨_, List.getElem?_eq_getElem hhB⟩
      have hxa : (X ++ A).length = m := by rw [List.length_append]; omega
      have HX1 := Lib.hid (show (X ++ A ++ y :: W)[m]? = some y by rw [List.getElem?_append_right (by omega), hxa, Nat.sub_self]; rfl)
      have HX2 := Lib.hid (show (X ++ A ++ y :: W)[h]? = some z by
        rw [List.getElem?_append_left (by omega), List.getElem?_append_right (by omega), f1]; exact hz)
      have HC : wr.drew.rangeAt g (m * 7) (It.vals y) ∧ wr.drew.rangeAt g (h * 7) (It.vals z) := ⟨HA.out.drew.get HX1.out, HA.out.drew.get HX2.out⟩
      have k1 : (0 : Int) ≤ (h : Int) := by omega
      have k2 : (h : Int) < (N : Int) := by omega
      have k3 : (0 : Int) ≤ (m : Int) := by omega
      have k4 : (m : Int) < (N : Int) := by omega
      by_cases hcmp : It.cmp y z < 0
      · have hcd : decide (It.cmp y z < 0) = true := decide_eq_true hcmp
        have hlt : It.lt y z = true := decide_eq_true hcmp
        have HM2 := Lib.hid (HM.out.down hih.1 hih.2 (by rw [HP.out, hz]; simp [hlt]) (fun q q1 q2 => by
          rw [HP.out]
          have hq : q - a < A.length := by omega
          rw [List.getElem?_eq_getElem hq]
          show (!It.lt y _) = false
          rw [Bool.not_eq_false']
          by_cases e : q = h
          · subst e; rw [List.getElem?_eq_getElem hhB] at hz; injection hz with hz; rw [hz]; exact hlt
          · exact HW.out.lt_le hlt (srt_get HSA.out (show h - a < q - a by omega) hz (List.getElem?_eq_getElem hq))))
        have HH := Lib.hid (And.intro hih hij)
        have hhb : h ≤ m := by omega
        clear f1 f2 f3 f4 hmi hih hhB hxa hh hijv hz hlt
        go_wp2
        refine region_wz (fun W' => W'.rangeAt g (m * 7) (It.vals y) ∧ W'.rangeAt g (h * 7) (It.vals z)) none (by kernel_rfl) ?_
        apply WZ.take (i := 0) (some 92) rfl rfl (by kernel_rfl) (by kernel_rfl) (by kernel_rfl) (calm_panic _) (by kernel_rfl)
        case hy => (refine .inl ⟨by kernel_rfl, fun W hC => ?_⟩; (try dsimp only at hC); go_simp; rfl)
        case hC => exact HC
        case ha => (simp only [Act.put, List.setIfInBounds_toArray, List.set_cons_zero, List.set_cons_succ]; rfl)
        apply WZ.take (i := 1) (some 93) rfl rfl (by kernel_rfl) (by kernel_rfl) (by kernel_rfl) (calm_panic _) (by kernel_rfl)
        case hy => (refine .inl ⟨by kernel_rfl, fun W hC => ?_⟩; (try dsimp only at hC); go_simp; rfl)
        case hC => exact HC
        case ha => (simp only [Act.put, List.setIfInBounds_toArray, List.set_cons_zero, List.set_cons_succ]; rfl)
        apply WZ.take (i := 2) (some 94) rfl rfl (by kernel_rfl) (by kernel_rfl) (by kernel_rfl) (calm_panic _) (by kernel_rfl)
        case hy => (refine .inl ⟨by kernel_rfl, fun W hC => ?_⟩; (try dsimp only at hC); go_simp; rfl)
        case hC => exact HC
        case ha => (simp only [Act.put, List.setIfInBounds_toArray, List.set_cons_zero, List.set_cons_succ]; rfl)
        apply WZ.take (i := 3) (some 95) rfl rfl (by kernel_rfl) (by kernel_rfl) (by kernel_rfl) (calm_panic _) (by kernel_rfl)
        case hy => (refine .inl ⟨by kernel_rfl, fun W hC => ?_⟩; (try dsimp only at hC); go_simp; rfl)
        case hC => exact HC
        case ha => (simp only [Act.put, List.setIfInBounds_toArray, List.set_cons_zero, List.set_cons_succ]; rfl)
        apply WZ.take (i := 4) (some 96) rfl rfl (by kernel_rfl) (by kernel_rfl) (by kernel_rfl) (calm_panic _) (by kernel_rfl)
        case hy => first | (apply yieldsIf_load_mid (by kernel_rfl) _ _ rfl _ _ rfl; (case hS => (intro W hC; exact (show World.rangeAt _ _ _ (It.vals _) from hC.1))); (case hu => exact Try.underlying59); (case hd => rfl); (case hi => kernel_rfl)) | (apply yieldsIf_load_mid (by kernel_rfl) _ _ rfl _ _ rfl; (case hS => (intro W hC; exact (show World.rangeAt _ _ _ (It.vals _) from hC.2.1))); (case hu => exact Try.underlying59); (case hd => rfl); (case hi => kernel_rfl)) | (apply yieldsIf_load_mid (by kernel_rfl) _ _ rfl _ _ rfl; (case hS => (intro W hC; exact (show World.rangeAt _ _ _ (It.vals _) from hC.2.2.1))); (case hu => exact Try.underlying59); (case hd => rfl); (case hi => kernel_rfl)) | (apply yieldsIf_load_mid (by kernel_rfl) _ _ rfl _ _ rfl; (case hS => (intro W hC; exact (show World.rangeAt _ _ _ (It.vals _) from hC.2.2.2.1))); (case hu => exact Try.underlying59); (case hd => rfl); (case hi => kernel_rfl)) | (apply yieldsIf_load_mid (by kernel_rfl) _ _ rfl _ _ rfl; (case hS => (intro W hC; exact (show World.rangeAt _ _ _ (It.vals _) from hC.2.2.2))); (case hu => exact Try.underlying59); (case hd => rfl); (case hi => kernel_rfl)) | (apply yieldsIf_load_mid (by kernel_rfl) _ _ rfl _ _ rfl; (case hS => (intro W hC; exact (show World.rangeAt _ _ _ (It.vals _) from hC.2.2))); (case hu => exact Try.underlying59); (case hd => rfl); (case hi => kernel_rfl)) | (apply yieldsIf_load_mid (by kernel_rfl) _ _ rfl _ _ rfl; (case hS => (intro W hC; exact (show World.rangeAt _ _ _ (It.vals _) from hC.2))); (case hu => exact Try.underlying59); (case hd => rfl); (case hi => kernel_rfl)) | (apply yieldsIf_load_mid (by kernel_rfl) _ _ rfl _ _ rfl; (case hS => (intro W hC; exact (show World.rangeAt _ _ _ (It.vals _) from hC))); (case hu => exact Try.underlying59); (case hd => rfl); (case hi => kernel_rfl))
        case hC => exact HC
        case ha => (simp only [Act.put, List.setIfInBounds_toArray, List.set_cons_zero, List.set_cons_succ]; rfl)
        apply WZ.take (i := 5) (some 97) rfl rfl (by kernel_rfl) (by kernel_rfl) (by kernel_rfl) (calm_panic _) (by kernel_rfl)
        case hy => (refine .inl ⟨by kernel_rfl, fun W hC => ?_⟩; (try dsimp only at hC); go_simp; rfl)
        case hC => exact HC
        case ha => (simp only [Act.put, List.setIfInBounds_toArray, List.set_cons_zero, List.set_cons_succ]; rfl)
        apply WZ.take (i := 6) (some 98) rfl rfl (by kernel_rfl) (by kernel_rfl) (by kernel_rfl) (calm_panic _) (by kernel_rfl)
        case hy => (refine .inl ⟨by kernel_rfl, fun W hC => ?_⟩; (try dsimp only at hC); go_simp; rfl)
        case hC => exact HC
        case ha => (simp only [Act.put, List.setIfInBounds_toArray, List.set_cons_zero, List.set_cons_succ]; rfl)
        apply WZ.take (i := 7) (some 99) rfl rfl (by kernel_rfl) (by kernel_rfl) (by kernel_rfl) (calm_panic _) (by kernel_rfl)
        case hy => (refine .inl ⟨by kernel_rfl, fun W hC => ?_⟩; (try dsimp only at hC); go_simp; rfl)
        case hC => exact HC
        case ha => (simp only [Act.put, List.setIfInBounds_toArray, List.set_cons_zero, List.set_cons_succ]; rfl)
        apply WZ.take (i := 8) (some 100) rfl rfl (by kernel_rfl) (by kernel_rfl) (by kernel_rfl) (calm_panic _) (by kernel_rfl)
        case hy => first | (apply yieldsIf_load_mid (by kernel_rfl) _ _ rfl _ _ rfl; (case hS => (intro W hC; exact (show World.rangeAt _ _ _ (It.vals _) from hC.1))); (case hu => exact Try.underlying59); (case hd => rfl); (case hi => kernel_rfl)) | (apply yieldsIf_load_mid (by kernel_rfl) _ _ rfl _ _ rfl; (case hS => (intro W hC; exact (show World.rangeAt _ _ _ (It.vals _) from hC.2.1))); (case hu => exact Try.underlying59); (case hd => rfl); (case hi => kernel_rfl)) | (apply yieldsIf_load_mid (by kernel_rfl) _ _ rfl _ _ rfl; (case hS => (intro W hC; exact (show World.rangeAt _ _ _ (It.vals _) from hC.2.2.1))); (case hu => exact Try.underlying59); (case hd => rfl); (case hi => kernel_rfl)) | (apply yieldsIf_load_mid (by kernel_rfl) _ _ rfl _ _ rfl; (case hS => (intro W hC; exact (show World.rangeAt _ _ _ (It.vals _) from hC.2.2.2.1))); (case hu => exact Try.underlying59); (case hd => rfl); (case hi => kernel_rfl)) | (apply yieldsIf_load_mid (by kernel_rfl) _ _ rfl _ _ rfl; (case hS => (intro W hC; exact (show World.rangeAt _ _ _ (It.vals _) from hC.2.2.2))); (case hu => exact Try.underlying59); (case hd => rfl); (case hi => kernel_rfl)) | (apply yieldsIf_load_mid (by kernel_rfl) _ _ rfl _ _ rfl; (case hS => (intro W hC; exact (show World.rangeAt _ _ _ (It.vals _) from hC.2.2))); (case hu => exact Try.underlying59); (case hd => rfl); (case hi => kernel_rfl)) | (apply yieldsIf_load_mid (by kernel_rfl) _ _ rfl _ _ rfl; (case hS => (intro W hC; exact (show World.rangeAt _ _ _ (It.vals _) from hC.2))); (case hu => exact Try.underlying59); (case hd => rfl); (case hi => kernel_rfl)) | (apply yieldsIf_load_mid (by kernel_rfl) _ _ rfl _ _ rfl; (case hS => (intro W hC; exact (show World.rangeAt _ _ _ (It.vals _) from hC))); (case hu => exact Try.underlying59); (case hd => rfl); (case hi => kernel_rfl))
        case hC => exact HC
        case ha => (simp only [Act.put, List.setIfInBounds_toArray, List.set_cons_zero, List.set_cons_succ]; rfl)
        -- 9
        refine WZ.one (i := 9) rfl (by kernel_rfl) ?_
        conv => arg 4; arg 1; whnf
        go_wp2_with (go_at_call 53; refine (itemCompare_any y z _).mono ?_; rintro e w1 ⟨rfl, hb1⟩)
        have HG1 := Lib.hid (grownBy_trans (grownBy_drew1 HG.out) (grownBy_below hb1 (some g)))
        have HA1 := Lib.hid (HA.out.drew.below hb1 (HA.out.drew.lt))
        have HC : w1.rangeAt g (m * 7) (It.vals y) ∧ w1.rangeAt g (h * 7) (It.vals z) := ⟨HA1.out.get HX1.out, HA1.out.get HX2.out⟩
        clear hb1
        refine ⟨HC, ?_⟩
        apply WZ.take (i := 10) (some 102) rfl rfl (by kernel_rfl) (by kernel_rfl) (by kernel_rfl) (calm_panic _) (by kernel_rfl)
        case hy => (refine .inl ⟨by kernel_rfl, fun W hC => ?_⟩; (try dsimp only at hC); go_simp; rfl)
        case hC => exact HC
        case ha => (simp only [Act.put, List.setIfInBounds_toArray, List.set_cons_zero, List.set_cons_succ]; rfl)
        apply WZ.take (i := 11) (some 103) rfl rfl (by kernel_rfl) (by kernel_rfl) (by kernel_rfl) (calm_panic _) (by kernel_rfl)
        case hy => (refine .inl ⟨by kernel_rfl, fun W hC => ?_⟩; (try dsimp only at hC); go_simp; rfl)
        case hC => exact HC
        case ha => (simp only [Act.put, List.setIfInBounds_toArray, List.set_cons_zero, List.set_cons_succ]; rfl)
        refine WZ.done (by kernel_rfl) ?_ _
        simp only [Calm, Exit.then]
        go_wp2
        exact ⟨⟨i, h, rfl, rfl, hhb, HM2, HA1, HG1⟩, by have := HH.out; simp [intOf]; omega⟩
      · have hcd : decide (It.cmp y z < 0) = false := decide_eq_false hcmp
        have hcmp' : 0 ≤ It.cmp y z := by omega
        have hlt : It.lt y z = false := decide_eq_false hcmp
        have HM2 := Lib.hid (HM.out.up hih.1 hih.2 (by rw [HP.out, hz]; simp [hlt]) (fun q q1 q2 => by
          rw [HP.out]
          have hq : q - a < A.length := by omega
          rw [List.getElem?_eq_getElem hq]
          show (!It.lt y _) = true
          rw [Bool.not_eq_true']
          by_cases e : q = h
          · subst e; rw [List.getElem?_eq_getElem hhB] at hz; injection hz with hz; rw [hz]; exact hlt
          · exact HW.out.trans _ _ _ (srt_get HSA.out (show q - a < h - a by omega) (List.getElem?_eq_getElem hq) hz) hlt))
        have hw3 : IntKind.i64.wrap ((h : Int) + 1) = ((h + 1 : Nat) : Int) := by rw [IntWalk.i64_in _ (by omega)]; omega
        have HH := Lib.hid (And.intro hih hij)
        clear f1 f2 f3 f4 hmi hih hhB hxa hh hijv hz hlt
        go_wp2
        refine region_wz (fun W' => W'.rangeAt g (m * 7) (It.vals y) ∧ W'.rangeAt g (h * 7) (It.vals z)) none (by kernel_rfl) ?_
        apply WZ.take (i := 0) (some 92) rfl rfl (by kernel_rfl) (by kernel_rfl) (by kernel_rfl) (calm_panic _) (by kernel_rfl)
        case hy => (refine .inl ⟨by kernel_rfl, fun W hC => ?_⟩; (try dsimp only at hC); go_simp; rfl)
        case hC => exact HC
        case ha => (simp only [Act.put, List.setIfInBounds_toArray, List.set_cons_zero, List.set_cons_succ]; rfl)
        apply WZ.take (i := 1) (some 93) rfl rfl (by kernel_rfl) (by kernel_rfl) (by kernel_rfl) (calm_panic _) (by kernel_rfl)
        case hy => (refine .inl ⟨by kernel_rfl, fun W hC => ?_⟩; (try dsimp only at hC); go_simp; rfl)
        case hC => exact HC
        case ha => (simp only [Act.put, List.setIfInBounds_toArray, List.set_cons_zero, List.set_cons_succ]; rfl)
        apply WZ.take (i := 2) (some 94) rfl rfl (by kernel_rfl) (by kernel_rfl) (by kernel_rfl) (calm_panic _) (by kernel_rfl)
        case hy => (refine .inl ⟨by kernel_rfl, fun W hC => ?_⟩; (try dsimp only at hC); go_simp; rfl)
        case hC => exact HC
        case ha => (simp only [Act.put, List.setIfInBounds_toArray, List.set_cons_zero, List.set_cons_succ]; rfl)
        apply WZ.take (i := 3) (some 95) rfl rfl (by kernel_rfl) (by kernel_rfl) (by kernel_rfl) (calm_panic _) (by kernel_rfl)
        case hy => (refine .inl ⟨by kernel_rfl, fun W hC => ?_⟩; (try dsimp only at hC); go_simp; rfl)
        case hC => exact HC
        case ha => (simp only [Act.put, List.setIfInBounds_toArray, List.set_cons_zero, List.set_cons_succ]; rfl)
        apply WZ.take (i := 4) (some 96) rfl rfl (by kernel_rfl) (by kernel_rfl) (by kernel_rfl) (calm_panic _) (by kernel_rfl)
        case hy => first | (apply yieldsIf_load_mid (by kernel_rfl) _ _ rfl _ _ rfl; (case hS => (intro W hC; exact (show World.rangeAt _ _ _ (It.vals _) from hC.1))); (case hu => exact Try.underlying59); (case hd => rfl); (case hi => kernel_rfl)) | (apply yieldsIf_load_mid (by kernel_rfl) _ _ rfl _ _ rfl; (case hS => (intro W hC; exact (show World.rangeAt _ _ _ (It.vals _) from hC.2.1))); (case hu => exact Try.underlying59); (case hd => rfl); (case hi => kernel_rfl)) | (apply yieldsIf_load_mid (by kernel_rfl) _ _ rfl _ _ rfl; (case hS => (intro W hC; exact (show World.rangeAt _ _ _ (It.vals _) from hC.2.2.1))); (case hu => exact Try.underlying59); (case hd => rfl); (case hi => kernel_rfl)) | (apply yieldsIf_load_mid (by kernel_rfl) _ _ rfl _ _ rfl; (case hS => (intro W hC; exact (show World.rangeAt _ _ _ (It.vals _) from hC.2.2.2.1))); (case hu => exact Try.underlying59); (case hd => rfl); (case hi => kernel_rfl)) | (apply yieldsIf_load_mid (by kernel_rfl) _ _ rfl _ _ rfl; (case hS => (intro W hC; exact (show World.rangeAt _ _ _ (It.vals _) from hC.2.2.2))); (case hu => exact Try.underlying59); (case hd => rfl); (case hi => kernel_rfl)) | (apply yieldsIf_load_mid (by kernel_rfl) _ _ rfl _ _ rfl; (case hS => (intro W hC; exact (show World.rangeAt _ _ _ (It.vals _) from hC.2.2))); (case hu => exact Try.underlying59); (case hd => rfl); (case hi => kernel_rfl)) | (apply yieldsIf_load_mid (by kernel_rfl) _ _ rfl _ _ rfl; (case hS => (intro W hC; exact (show World.rangeAt _ _ _ (It.vals _) from hC.2))); (case hu => exact Try.underlying59); (case hd => rfl); (case hi => kernel_rfl)) | (apply yieldsIf_load_mid (by kernel_rfl) _ _ rfl _ _ rfl; (case hS => (intro W hC; exact (show World.rangeAt _ _ _ (It.vals _) from hC))); (case hu => exact Try.underlying59); (case hd => rfl); (case hi => kernel_rfl))
        case hC => exact HC
        case ha => (simp only [Act.put, List.setIfInBounds_toArray, List.set_cons_zero, List.set_cons_succ]; rfl)
        apply WZ.take (i := 5) (some 97) rfl rfl (by kernel_rfl) (by kernel_rfl) (by kernel_rfl) (calm_panic _) (by kernel_rfl)
        case hy => (refine .inl ⟨by kernel_rfl, fun W hC => ?_⟩; (try dsimp only at hC); go_simp; rfl)
        case hC => exact HC
        case ha => (simp only [Act.put, List.setIfInBounds_toArray, List.set_cons_zero, List.set_cons_succ]; rfl)
        apply WZ.take (i := 6) (some 98) rfl rfl (by kernel_rfl) (by kernel_rfl) (by kernel_rfl) (calm_panic _) (by kernel_rfl)
        case hy => (refine .inl ⟨by kernel_rfl, fun W hC => ?_⟩; (try dsimp only at hC); go_simp; rfl)
        case hC => exact HC
        case ha => (simp only [Act.put, List.setIfInBounds_toArray, List.set_cons_zero, List.set_cons_succ]; rfl)
        apply WZ.take (i := 7) (some 99) rfl rfl (by kernel_rfl) (by kernel_rfl) (by kernel_rfl) (calm_panic _) (by kernel_rfl)
        case hy => (refine .inl ⟨by kernel_rfl, fun W hC => ?_⟩; (try dsimp only at hC); go_simp; rfl)
        case hC => exact HC
        case ha => (simp only [Act.put, List.setIfInBounds_toArray, List.set_cons_zero, List.set_cons_succ]; rfl)
        apply WZ.take (i := 8) (some 100) rfl rfl (by kernel_rfl) (by kernel_rfl) (by kernel_rfl) (calm_panic _) (by kernel_rfl)
        case hy => first | (apply yieldsIf_load_mid (by kernel_rfl) _ _ rfl _ _ rfl; (case hS => (intro W hC; exact (show World.rangeAt _ _ _ (It.vals _) from hC.1))); (case hu => exact Try.underlying59); (case hd => rfl); (case hi => kernel_rfl)) | (apply yieldsIf_load_mid (by kernel_rfl) _ _ rfl _ _ rfl; (case hS => (intro W hC; exact (show World.rangeAt _ _ _ (It.vals _) from hC.2.1))); (case hu => exact Try.underlying59); (case hd => rfl); (case hi => kernel_rfl)) | (apply yieldsIf_load_mid (by kernel_rfl) _ _ rfl _ _ rfl; (case hS => (intro W hC; exact (show World.rangeAt _ _ _ (It.vals _) from hC.2.2.1))); (case hu => exact Try.underlying59); (case hd => rfl); (case hi => kernel_rfl)) | (apply yieldsIf_load_mid (by kernel_rfl) _ _ rfl _ _ rfl; (case hS => (intro W hC; exact (show World.rangeAt _ _ _ (It.vals _) from hC.2.2.2.1))); (case hu => exact Try.underlying59); (case hd => rfl); (case hi => kernel_rfl)) | (apply yieldsIf_load_mid (by kernel_rfl) _ _ rfl _ _ rfl; (case hS => (intro W hC; exact (show World.rangeAt _ _ _ (It.vals _) from hC.2.2.2))); (case hu => exact Try.underlying59); (case hd => rfl); (case hi => kernel_rfl)) | (apply yieldsIf_load_mid (by kernel_rfl) _ _ rfl _ _ rfl; (case hS => (intro W hC; exact (show World.rangeAt _ _ _ (It.vals _) from hC.2.2))); (case hu => exact Try.underlying59); (case hd => rfl); (case hi => kernel_rfl)) | (apply yieldsIf_load_mid (by kernel_rfl) _ _ rfl _ _ rfl; (case hS => (intro W hC; exact (show World.rangeAt _ _ _ (It.vals _) from hC.2))); (case hu => exact Try.underlying59); (case hd => rfl); (case hi => kernel_rfl)) | (apply yieldsIf_load_mid (by kernel_rfl) _ _ rfl _ _ rfl; (case hS => (intro W hC; exact (show World.rangeAt _ _ _ (It.vals _) from hC))); (case hu => exact Try.underlying59); (case hd => rfl); (case hi => kernel_rfl))
        case hC => exact HC
        case ha => (simp only [Act.put, List.setIfInBounds_toArray, List.set_cons_zero, List.set_cons_succ]; rfl)
        -- 9
        refine WZ.one (i := 9) rfl (by kernel_rfl) ?_
        conv => arg 4; arg 1; whnf
        go_wp2_with (go_at_call 53; refine (itemCompare_any y z _).mono ?_; rintro e w1 ⟨rfl, hb1⟩)
        have HG1 := Lib.hid (grownBy_trans (grownBy_drew1 HG.out) (grownBy_below hb1 (some g)))
        have HA1 := Lib.hid (HA.out.drew.below hb1 (HA.out.drew.lt))
        have HC : w1.rangeAt g (m * 7) (It.vals y) ∧ w1.rangeAt g (h * 7) (It.vals z) := ⟨HA1.out.get HX1.out, HA1.out.get HX2.out⟩
        clear hb1
        refine ⟨HC, ?_⟩
        apply WZ.take (i := 10) (some 102) rfl rfl (by kernel_rfl) (by kernel_rfl) (by kernel_rfl) (calm_panic _) (by kernel_rfl)
        case hy => (refine .inl ⟨by kernel_rfl, fun W hC => ?_⟩; (try dsimp only at hC); go_simp; rfl)
        case hC => exact HC
        case ha => (simp only [Act.put, List.setIfInBounds_toArray, List.set_cons_zero, List.set_cons_succ]; rfl)
        apply WZ.take (i := 11) (some 103) rfl rfl (by kernel_rfl) (by kernel_rfl) (by kernel_rfl) (calm_panic _) (by kernel_rfl)
        case hy => (refine .inl ⟨by kernel_rfl, fun W hC => ?_⟩; (try dsimp only at hC); go_simp; rfl)
        case hC => exact HC
        case ha => (simp only [Act.put, List.setIfInBounds_toArray, List.set_cons_zero, List.set_cons_succ]; rfl)
        refine WZ.done (by kernel_rfl) ?_ _
        simp only [Calm, Exit.then]
        go_wp2
        exact ⟨⟨h + 1, j, by first | rfl | go_num, rfl, hjb, HM2, HA1, HG1⟩, by have := HH.out; simp [intOf]; omega⟩
    · have e1 : decide ((i : Int) < (j : Int)) = false := decide_eq_false (by omega)
      have e1' : ¬ i < j := hij
      have hje : i = j := by have := HM.out.i_j; omega
      subst hje
      obtain ⟨f1, f2, f3, f4⟩ := HF.out
      have hmi := HM.out.lo_i
      have HB1 := Lib.hid (show ∀ x ∈ A.take (i - a), It.lt y x = false from fun x hx => by
        obtain ⟨q, hq, rfl⟩ := List.mem_iff_getElem.1 hx
        rw [List.length_take] at hq
        have h1 := HM.out.yes (q + a) (by omega) (by omega)
        rw [HP.out, Nat.add_sub_cancel, List.getElem?_eq_getElem (by omega)] at h1
        rw [List.getElem_take]
        simpa using h1)
      have HB2 := Lib.hid (show ∀ x ∈ A.drop (i - a), It.lt y x = true from fun x hx => by
        obtain ⟨q, hq, rfl⟩ := List.mem_iff_getElem.1 hx
        rw [List.length_drop] at hq
        have h1 := HM.out.no (q + i) (by omega) (by omega)
        rw [HP.out, show q + i - a = i - a + q by omega, List.getElem?_eq_getElem (by omega)] at h1
        rw [List.getElem_drop]
        simpa using h1)
      obtain ⟨r0, hr0⟩ : ∃ r0, A.length = r0 := ⟨_, rfl⟩
      have hm0 : m = a + r0 := by omega
      have HI := Lib.hid (And.intro hr0 (And.intro hmi hm0))
      have HS0 : Hid (Arr It.vals 7 wr g 59 S (X ++ A.take r0 ++ y :: (A.drop r0 ++ W))) := by rw [← hr0, List.take_length, List.drop_length]; exact HA
      clear f1 f2 f3 f4 hmi hm0 hr0 hij
      go_wp2
      go_loopw [17] (fun vk wr' => ∃ (r : Nat), vk = .int .i64 ((a + r : Nat) : Int) ∧ r ≤ r0 ∧ i ≤ a + r ∧ Hid (Arr It.vals 7 wr' g 59 S (X ++ A.take r ++ y :: (A.drop r ++ W))) ∧ Hid (w.grownBy wr' (some g))) (fun vk _ => (intOf vk).toNat)
      case atStart => exact ⟨r0, by rw [← HI.out.2.2], Nat.le_refl _, by rw [← HI.out.2.2]; exact hjb, HS0, HG⟩
      case round =>
        clear HS0 HA HG
        rename_i wr0
        obtain ⟨r, rfl, hr, hri, HA, HG⟩ := hrel
        obtain ⟨k, hk⟩ : ∃ k, a + r = k := ⟨_, rfl⟩
        rw [hk]
        by_cases hki : i < k
        · obtain ⟨f1, f2, f3, f4⟩ := HF.out
          obtain ⟨g1, g2, g3⟩ := HI.out
          obtain ⟨r1, hr1⟩ : ∃ r1, r = r1 + 1 := ⟨r - 1, by omega⟩
          rw [hr1] at HA
          have hrB : r1 < A.length := by omega
          obtain ⟨z, hz⟩ : ∃ z, A[r1] = z := ⟨_, rfl⟩
          have hd : A.drop r1 = z :: A.drop (r1 + 1) := by rw [← hz]; exact List.drop_eq_getElem_cons hrB
          have ht : A.take (r1 + 1) = A.take r1 ++ [z] := by rw [← hz]; exact List.take_succ_eq_append_getElem hrB
          have hfull : X ++ A.take (r1 + 1) ++ y :: (A.drop (r1 + 1) ++ W) = (X ++ A.take r1) ++ z :: y :: (A.drop (r1 + 1) ++ W) := by rw [ht]; simp only [List.append_assoc, List.cons_append, List.nil_append]
          rw [hfull] at HA
          obtain ⟨k1, hk1⟩ : ∃ k1, a + r1 = k1 := ⟨_, rfl⟩
          have hxt : (X ++ A.take r1).length = k1 := by rw [List.length_append, List.length_take]; omega
          have hkk : k = k1 + 1 := by omega
          have hll : ((X ++ A.take r1) ++ z :: y :: (A.drop (r1 + 1) ++ W)).length = N := by rw [List.length_append, hxt]; simp; omega
          have HX2 := Lib.hid (show ((X ++ A.take r1) ++ z :: y :: (A.drop (r1 + 1) ++ W))[k1]? = some z by rw [List.getElem?_append_right (by omega), hxt, Nat.sub_self]; rfl)
          have HX1 := Lib.hid (show ((X ++ A.take r1) ++ z :: y :: (A.drop (r1 + 1) ++ W))[k]? = some y by rw [List.getElem?_append_right (by omega), hxt, hkk, Nat.add_sub_cancel_left]; rfl)
          have HSW := Lib.hid (swapAdj (X ++ A.take r1) (A.drop (r1 + 1) ++ W) z y)
          rw [hxt, ← hkk] at HSW
          have hkl : k < ((X ++ A.take r1) ++ z :: y :: (A.drop (r1 + 1) ++ W)).length := by omega
          have hk1l : k1 < (((X ++ A.take r1) ++ z :: y :: (A.drop (r1 + 1) ++ W)).set k z).length := by rw [List.length_set]; omega
          have HKL := Lib.hid (And.intro hkl hk1l)
          have hk2 : IntKind.i64.wrap ((k : Int) - 1) = (k1 : Int) := by rw [IntWalk.i64_in _ (by omega)]; omega
          have HK4 := Lib.hid (show r1 ≤ r0 ∧ i ≤ a + r1 ∧ k = k1 + 1 ∧ k1 = a + r1 by omega)
          have HD := Lib.hid hd
          have e2 : decide ((i : Int) < (k : Int)) = true := decide_eq_true (by omega)
          have q1 : (0 : Int) ≤ (k : Int) := by omega
          have q2 : (k : Int) < (N : Int) := by omega
          have q3 : (0 : Int) ≤ (k1 : Int) := by omega
          have q4 : (k1 : Int) < (N : Int) := by omega
          have HC : wr.drew.rangeAt g (k * 7) (It.vals y) ∧ wr.drew.rangeAt g (k1 * 7) (It.vals z) := ⟨HA.out.drew.get HX1.out, HA.out.drew.get HX2.out⟩
          clear f1 f2 f3 f4 g1 g2 g3 hrB hz hd ht hfull hxt hk1 hll hkl hk1l hk hr hr1 hri hkk
          obtain ⟨hkl, hk1l⟩ := HKL.out
          go_wp2
          refine region_wz (fun W' => W'.rangeAt g (k * 7) (It.vals y) ∧ W'.rangeAt g (k1 * 7) (It.vals z)) (some 15) (by kernel_rfl) ?_
          apply WZ.take (i := 0) (some 113) rfl rfl (by kernel_rfl) (by kernel_rfl) (by kernel_rfl) (calm_panic _) (by kernel_rfl)
          case hy => (refine .inl ⟨by kernel_rfl, fun W hC => ?_⟩; (try dsimp only at hC); go_simp; (try simp only [hk2]); rfl)
          case hC => exact HC
          case ha => (simp only [Act.put, List.setIfInBounds_toArray, List.set_cons_zero, List.set_cons_succ]; rfl)
          apply WZ.take (i := 1) (some 114) rfl rfl (by kernel_rfl) (by kernel_rfl) (by kernel_rfl) (calm_panic _) (by kernel_rfl)
          case hy => (refine .inl ⟨by kernel_rfl, fun W hC => ?_⟩; (try dsimp only at hC); go_simp; (try simp only [hk2]); rfl)
          case hC => exact HC
          case ha => (simp only [Act.put, List.setIfInBounds_toArray, List.set_cons_zero, List.set_cons_succ]; rfl)
          apply WZ.takeF (i := 2) (some 115) rfl rfl (by kernel_rfl) (by kernel_rfl) (by kernel_rfl) (calm_panic _) (by kernel_rfl)
          case hy => (refine .inl ⟨by kernel_rfl, fun W hC => ?_⟩; (try dsimp only at hC); go_simp; (try simp only [hk2]); rfl)
          case hC => exact HC
          case ha => (simp only [Act.put, List.setIfInBounds_toArray, List.set_cons_zero, List.set_cons_succ]; rfl)
          apply WZ.takeF (i := 3) (some 116) rfl rfl (by kernel_rfl) (by kernel_rfl) (by kernel_rfl) (calm_panic _) (by kernel_rfl)
          case hy => (refine .inl ⟨by kernel_rfl, fun W hC => ?_⟩; (try dsimp only at hC); go_simp; (try simp only [hk2]); rfl)
          case hC => exact HC
          case ha => (simp only [Act.put, List.setIfInBounds_toArray, List.set_cons_zero, List.set_cons_succ]; rfl)
          apply WZ.takeF (i := 4) (some 117) rfl rfl (by kernel_rfl) (by kernel_rfl) (by kernel_rfl) (calm_panic _) (by kernel_rfl)
          case hy => (refine .inl ⟨by kernel_rfl, fun W hC => ?_⟩; (try dsimp only at hC); go_simp; (try simp only [hk2]); rfl)
          case hC => exact HC
          case ha => (simp only [Act.put, List.setIfInBounds_toArray, List.set_cons_zero, List.set_cons_succ]; rfl)
          apply WZ.take (i := 5) (some 118) rfl rfl (by kernel_rfl) (by kernel_rfl) (by kernel_rfl) (calm_panic _) (by kernel_rfl)
          case hy => (refine .inl ⟨by kernel_rfl, fun W hC => ?_⟩; (try dsimp only at hC); go_simp; (try simp only [hk2]); rfl)
          case hC => exact HC
          case ha => (simp only [Act.put, List.setIfInBounds_toArray, List.set_cons_zero, List.set_cons_succ]; rfl)
          apply WZ.take (i := 6) (some 119) rfl rfl (by kernel_rfl) (by kernel_rfl) (by kernel_rfl) (calm_panic _) (by kernel_rfl)
          case hy => (refine .inl ⟨by kernel_rfl, fun W hC => ?_⟩; (try dsimp only at hC); go_simp; (try simp only [hk2]); rfl)
          case hC => exact HC
          case ha => (simp only [Act.put, List.setIfInBounds_toArray, List.set_cons_zero, List.set_cons_succ]; rfl)
          apply WZ.take (i := 7) (some 120) rfl rfl (by kernel_rfl) (by kernel_rfl) (by kernel_rfl) (calm_panic _) (by kernel_rfl)
          case hy => (refine .inl ⟨by kernel_rfl, fun W hC => ?_⟩; (try dsimp only at hC); go_simp; (try simp only [hk2]); rfl)
          case hC => exact HC
          case ha => (simp only [Act.put, List.setIfInBounds_toArray, List.set_cons_zero, List.set_cons_succ]; rfl)
          apply WZ.take (i := 8) (some 121) rfl rfl (by kernel_rfl) (by kernel_rfl) (by kernel_rfl) (calm_panic _) (by kernel_rfl)
          case hy => (refine .inl ⟨by kernel_rfl, fun W hC => ?_⟩; (try dsimp only at hC); go_simp; (try simp only [hk2]); rfl)
          case hC => exact HC
          case ha => (simp only [Act.put, List.setIfInBounds_toArray, List.set_cons_zero, List.set_cons_succ]; rfl)
          apply WZ.take (i := 9) (some 122) rfl rfl (by kernel_rfl) (by kernel_rfl) (by kernel_rfl) (calm_panic _) (by kernel_rfl)
          case hy => first | (apply yieldsIf_load_mid (by kernel_rfl) _ _ rfl _ _ rfl; (case hS => (intro W hC; exact (show World.rangeAt _ _ _ (It.vals _) from hC.1))); (case hu => exact Try.underlying59); (case hd => rfl); (case hi => kernel_rfl)) | (apply yieldsIf_load_mid (by kernel_rfl) _ _ rfl _ _ rfl; (case hS => (intro W hC; exact (show World.rangeAt _ _ _ (It.vals _) from hC.2.1))); (case hu => exact Try.underlying59); (case hd => rfl); (case hi => kernel_rfl)) | (apply yieldsIf_load_mid (by kernel_rfl) _ _ rfl _ _ rfl; (case hS => (intro W hC; exact (show World.rangeAt _ _ _ (It.vals _) from hC.2.2.1))); (case hu => exact Try.underlying59); (case hd => rfl); (case hi => kernel_rfl)) | (apply yieldsIf_load_mid (by kernel_rfl) _ _ rfl _ _ rfl; (case hS => (intro W hC; exact (show World.rangeAt _ _ _ (It.vals _) from hC.2.2.2.1))); (case hu => exact Try.underlying59); (case hd => rfl); (case hi => kernel_rfl)) | (apply yieldsIf_load_mid (by kernel_rfl) _ _ rfl _ _ rfl; (case hS => (intro W hC; exact (show World.rangeAt _ _ _ (It.vals _) from hC.2.2.2))); (case hu => exact Try.underlying59); (case hd => rfl); (case hi => kernel_rfl)) | (apply yieldsIf_load_mid (by kernel_rfl) _ _ rfl _ _ rfl; (case hS => (intro W hC; exact (show World.rangeAt _ _ _ (It.vals _) from hC.2.2))); (case hu => exact Try.underlying59); (case hd => rfl); (case hi => kernel_rfl)) | (apply yieldsIf_load_mid (by kernel_rfl) _ _ rfl _ _ rfl; (case hS => (intro W hC; exact (show World.rangeAt _ _ _ (It.vals _) from hC.2))); (case hu => exact Try.underlying59); (case hd => rfl); (case hi => kernel_rfl)) | (apply yieldsIf_load_mid (by kernel_rfl) _ _ rfl _ _ rfl; (case hS => (intro W hC; exact (show World.rangeAt _ _ _ (It.vals _) from hC))); (case hu => exact Try.underlying59); (case hd => rfl); (case hi => kernel_rfl))
          case hC => exact HC
          case ha => (simp only [Act.put, List.setIfInBounds_toArray, List.set_cons_zero, List.set_cons_succ]; rfl)
          apply WZ.takeF (i := 10) (some 123) rfl rfl (by kernel_rfl) (by kernel_rfl) (by kernel_rfl) (calm_panic _) (by kernel_rfl)
          case hy => (refine .inl ⟨by kernel_rfl, fun W hC => ?_⟩; (try dsimp only at hC); go_simp; (try simp only [hk2]); rfl)
          case hC => exact HC
          case ha => (simp only [Act.put, List.setIfInBounds_toArray, List.set_cons_zero, List.set_cons_succ]; rfl)
          apply WZ.takeF (i := 11) (some 124) rfl rfl (by kernel_rfl) (by kernel_rfl) (by kernel_rfl) (calm_panic _) (by kernel_rfl)
          case hy => (refine .inl ⟨by kernel_rfl, fun W hC => ?_⟩; (try dsimp only at hC); go_simp; (try simp only [hk2]); rfl)
          case hC => exact HC
          case ha => (simp only [Act.put, List.setIfInBounds_toArray, List.set_cons_zero, List.set_cons_succ]; rfl)
          apply WZ.takeF (i := 12) (some 125) rfl rfl (by kernel_rfl) (by kernel_rfl) (by kernel_rfl) (calm_panic _) (by kernel_rfl)
          case hy => (refine .inl ⟨by kernel_rfl, fun W hC => ?_⟩; (try dsimp only at hC); go_simp; (try simp only [hk2]); rfl)
          case hC => exact HC
          case ha => (simp only [Act.put, List.setIfInBounds_toArray, List.set_cons_zero, List.set_cons_succ]; rfl)
          apply WZ.take (i := 13) (some 126) rfl rfl (by kernel_rfl) (by kernel_rfl) (by kernel_rfl) (calm_panic _) (by kernel_rfl)
          case hy => first | (apply yieldsIf_load_mid (by kernel_rfl) _ _ rfl _ _ rfl; (case hS => (intro W hC; exact (show World.rangeAt _ _ _ (It.vals _) from hC.1))); (case hu => exact Try.underlying59); (case hd => rfl); (case hi => kernel_rfl)) | (apply yieldsIf_load_mid (by kernel_rfl) _ _ rfl _ _ rfl; (case hS => (intro W hC; exact (show World.rangeAt _ _ _ (It.vals _) from hC.2.1))); (case hu => exact Try.underlying59); (case hd => rfl); (case hi => kernel_rfl)) | (apply yieldsIf_load_mid (by kernel_rfl) _ _ rfl _ _ rfl; (case hS => (intro W hC; exact (show World.rangeAt _ _ _ (It.vals _) from hC.2.2.1))); (case hu => exact Try.underlying59); (case hd => rfl); (case hi => kernel_rfl)) | (apply yieldsIf_load_mid (by kernel_rfl) _ _ rfl _ _ rfl; (case hS => (intro W hC; exact (show World.rangeAt _ _ _ (It.vals _) from hC.2.2.2.1))); (case hu => exact Try.underlying59); (case hd => rfl); (case hi => kernel_rfl)) | (apply yieldsIf_load_mid (by kernel_rfl) _ _ rfl _ _ rfl; (case hS => (intro W hC; exact (show World.rangeAt _ _ _ (It.vals _) from hC.2.2.2))); (case hu => exact Try.underlying59); (case hd => rfl); (case hi => kernel_rfl)) | (apply yieldsIf_load_mid (by kernel_rfl) _ _ rfl _ _ rfl; (case hS => (intro W hC; exact (show World.rangeAt _ _ _ (It.vals _) from hC.2.2))); (case hu => exact Try.underlying59); (case hd => rfl); (case hi => kernel_rfl)) | (apply yieldsIf_load_mid (by kernel_rfl) _ _ rfl _ _ rfl; (case hS => (intro W hC; exact (show World.rangeAt _ _ _ (It.vals _) from hC.2))); (case hu => exact Try.underlying59); (case hd => rfl); (case hi => kernel_rfl)) | (apply yieldsIf_load_mid (by kernel_rfl) _ _ rfl _ _ rfl; (case hS => (intro W hC; exact (show World.rangeAt _ _ _ (It.vals _) from hC))); (case hu => exact Try.underlying59); (case hd => rfl); (case hi => kernel_rfl))
          case hC => exact HC
          case ha => (simp only [Act.put, List.setIfInBounds_toArray, List.set_cons_zero, List.set_cons_succ]; rfl)
          apply WZ.take (i := 14) (some 127) rfl rfl (by kernel_rfl) (by kernel_rfl) (by kernel_rfl) (calm_panic _) (by kernel_rfl)
          case hy => (refine .inl ⟨by kernel_rfl, fun W hC => ?_⟩; (try dsimp only at hC); go_simp; (try simp only [hk2]); rfl)
          case hC => exact HC
          case ha => (simp only [Act.put, List.setIfInBounds_toArray, List.set_cons_zero, List.set_cons_succ]; rfl)
          -- 15
          refine WZ.last (i := 15) rfl (by kernel_rfl) (by kernel_rfl) ?_
          conv => arg 4; arg 1; whnf
          refine wpList_store_mid rfl 59 _ _ rfl g (k * 7) _ rfl rfl (HA.out.drew.there_at hkl) (by kernel_rfl) (all_oneCell_toArray (It.one _)) ?_
          have HA2 := HA.out.drew.set (It.vals_len) hkl z
          -- 16
          refine WZ.last (i := 16) rfl (by kernel_rfl) (by kernel_rfl) ?_
          conv => arg 4; arg 1; whnf
          go_wp2
          -- 17
          refine WZ.last (i := 17) rfl (by kernel_rfl) (by kernel_rfl) ?_
          conv => arg 4; arg 1; whnf
          refine wpList_store_mid rfl 59 _ _ rfl g (k1 * 7) _ rfl rfl (HA2.1.there_at hk1l) (by kernel_rfl) (all_oneCell_toArray (It.one _)) ?_
          have HA3 := HA2.1.set (It.vals_len) hk1l y
          refine WZ.done (by kernel_rfl) ?_ _
          simp only [Calm, Exit.then]
          go_wp2
          refine ⟨⟨r1, by rw [← HK4.out.2.2.2], HK4.out.1, HK4.out.2.1, Lib.hid ?_, Lib.hid (grownBy_trans (grownBy_drew1 HG.out) (grownBy_trans HA2.2 HA3.2))⟩, ?_⟩
          · have := HA3.1
            rw [HSW.out] at this
            rw [HD.out]
            simpa only [List.append_assoc, List.cons_append] using this
          · have := HK4.out
            simp [intOf]; omega
        · have e2 : decide ((i : Int) < (k : Int)) = false := decide_eq_false (by omega)
          have hrr : r = i - a := by
            have := HI.out.2.1
            omega
          have HRR := Lib.hid hrr
          clear hrr hr hk hri
          go_wp2
          refine bodyPost_ret (results_none rfl _ _ _) rfl ?_
          have := HA.out
          rw [HRR.out] at this
          exact ⟨rfl, A.take (i - a), A.drop (i - a), (List.take_append_drop _ _).symm, HB1.out, HB2.out, this, HG.out⟩
end Go.Proofs.Ytflppcgonbjnmaa
