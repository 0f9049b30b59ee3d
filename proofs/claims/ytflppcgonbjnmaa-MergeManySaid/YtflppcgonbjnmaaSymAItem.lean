/-
  The walk of symMerge at items, where one part has one item.
-/
import Derived.Test.YtflppcgonbjnmaaInsertItem
import Derived.Test.YtflppcgonbjnmaaJM
namespace Go.Proofs.Ytflppcgonbjnmaa
open Go.RowKit
attribute [local go_sem ↓] Go.wp_at_zero Go.wp_at_succ

/-- the first place, from lo on, at which p does not hold -/
structure Mid (p : Nat → Bool) (lo hi i j : Nat) : Prop where
  lo_i : lo ≤ i
  i_j : i ≤ j
  j_hi : j ≤ hi
  yes : ∀ q, lo ≤ q → q < i → p q = true
  no : ∀ q, j ≤ q → q < hi → p q = false
theorem Mid.start (p : Nat → Bool) {lo hi : Nat} (h : lo ≤ hi) : Mid p lo hi lo hi := ⟨Nat.le_refl _, h, Nat.le_refl _, fun q h1 h2 => by omega, fun q h1 h2 => by omega⟩
theorem Mid.up {p : Nat → Bool} {lo hi i j h : Nat} (hm : Mid p lo hi i j) (h1 : i ≤ h) (h2 : h < j) (_hp : p h = true) (mono : ∀ q, lo ≤ q → q ≤ h → p q = true) : Mid p lo hi (h + 1) j :=
  ⟨by have := hm.lo_i; omega, by omega, hm.j_hi, fun q a b => mono q a (by omega), hm.no⟩
theorem Mid.down {p : Nat → Bool} {lo hi i j h : Nat} (hm : Mid p lo hi i j) (h1 : i ≤ h) (h2 : h < j) (_hp : p h = false) (mono : ∀ q, h ≤ q → q < hi → p q = false) : Mid p lo hi i h :=
  ⟨hm.lo_i, h1, by have := hm.j_hi; omega, hm.yes, fun q a b => mono q a b⟩
theorem half_mid {i j : Nat} (h : i < j) : i ≤ (i + j) / 2 ∧ (i + j) / 2 < j := by omega

theorem srt_get {α : Type} {lt : α → α → Bool} {l : List α} (h : Srt lt l) {i j : Nat} {x y : α} (hij : i < j) (hx : l[i]? = some x) (hy : l[j]? = some y) : lt y x = false := by
  obtain ⟨h1, rfl⟩ := List.getElem?_eq_some_iff.1 hx
  obtain ⟨h2, rfl⟩ := List.getElem?_eq_some_iff.1 hy
  exact List.pairwise_iff_getElem.1 h i j h1 h2 hij

theorem swapAdj2 {α : Type} (U V : List α) (x y : α) : ((U ++ x :: y :: V).set U.length y).set (U.length + 1) x = U ++ y :: x :: V := by
  rw [List.set_append_right _ _ (Nat.le_refl _), Nat.sub_self, List.set_append_right _ _ (by omega), show U.length + 1 - U.length = 1 by omega]
  rfl

set_option maxRecDepth 10000 in
set_option maxHeartbeats 8000000 in
theorem symLeft_any (hw : Weak It.lt) (g S cap N : Nat) (X B W : List It) (x : It) (a m b : Nat) (w : World) (h : Arr It.vals 7 w g 59 S (X ++ x :: (B ++ W))) (ha : X.length = a) (hm : a + 1 = m) (hb : m + B.length = b) (hN : b + W.length = N) (hmax : N ≤ 1000000000) (hB : Srt It.lt B) :
    Calls Try.prog 62 #[.slice (some ⟨g, 0, none⟩) N cap, .int .i64 a, .int .i64 m, .int .i64 b, .func (.func 53) #[] #[]] w fun e w' =>
      e = .returned (.tuple #[]) ∧ ∃ B1 B2, B = B1 ++ B2 ∧ (∀ y ∈ B1, It.lt y x = true) ∧ (∀ y ∈ B2, It.lt y x = false) ∧ Arr It.vals 7 w' g 59 S (X ++ B1 ++ x :: (B2 ++ W)) ∧ w.grownBy w' (some g) := by
  have HW := Lib.hid hw
  have H := Lib.hid h
  have HF := Lib.hid (And.intro ha (And.intro hm (And.intro hb hN)))
  have HB := Lib.hid hB
  have hw1 : IntKind.i64.wrap ((m : Int) - (a : Int)) = (1 : Int) := by rw [IntWalk.i64_in _ (by omega)]; omega
  have hmb : m ≤ b := by omega
  have hbN : b ≤ N := by omega
  clear hw h hB
  obtain ⟨p, hp⟩ : ∃ p : Nat → Bool, ∀ q, p q = (match B[q - m]? with | some y => It.lt y x | none => false) := ⟨_, fun _ => rfl⟩
  have HP := Lib.hid hp
  have hM0 := Lib.hid (Mid.start p hmb)
  clear hp ha hm hb hN
  go_enter Try.func62, Try.ntmps62
  go_wp2
  go_loopw [10, 11] (fun vi vj wr => ∃ (i j : Nat), vi = .int .i64 (i : Int) ∧ vj = .int .i64 (j : Int) ∧ j ≤ b ∧ Hid (Mid p m b i j) ∧ Hid (Arr It.vals 7 wr g 59 S (X ++ x :: (B ++ W))) ∧ Hid (w.grownBy wr (some g))) (fun vi vj _ => (intOf vj).toNat - (intOf vi).toNat)
  case atStart => exact ⟨m, b, rfl, rfl, Nat.le_refl _, hM0, H, Lib.hid (grownBy_refl _ _)⟩
  case round =>
    obtain ⟨i, j, rfl, rfl, hjb, HM, HA, HG⟩ := hrel
    by_cases hij : i < j
    · have e1 : decide ((i : Int) < (j : Int)) = true := decide_eq_true (by omega)
      obtain ⟨ij, hijv⟩ : ∃ ij, i + j = ij := ⟨_, rfl⟩
      have hw2 : IntKind.i64.wrap ((i : Int) + (j : Int)) = (ij : Int) := by rw [IntWalk.i64_in _ (by omega)]; omega
      obtain ⟨h, hh⟩ : ∃ h, ij / 2 = h := ⟨_, rfl⟩
      have hh' : (ij : Int) / 2 = (h : Int) := by omega
      obtain ⟨f1, f2, f3, f4⟩ := HF.out
      have hmi := HM.out.lo_i
      have hih : i ≤ h ∧ h < j := by omega
      have hhB : h - m < B.length := by omega
      obtain ⟨y, hy⟩ : ∃ y, B[h - m]? = some y := ⟨_, List.getElem?_eq_getElem hhB⟩
      have hLl : (X ++ x :: (B ++ W)).length = N := by simp; omega
      have HX2 := Lib.hid (show (X ++ x :: (B ++ W))[a]? = some x by rw [List.getElem?_append_right (by omega), f1, Nat.sub_self]; rfl)
      have HX1 := Lib.hid (show (X ++ x :: (B ++ W))[h]? = some y by
        rw [List.getElem?_append_right (by omega), f1, show h - a = (h - m) + 1 by omega, List.getElem?_cons_succ, List.getElem?_append_left hhB]; exact hy)
      have HC : wr.drew.rangeAt g (h * 7) (It.vals y) ∧ wr.drew.rangeAt g (a * 7) (It.vals x) := ⟨HA.out.drew.get HX1.out, HA.out.drew.get HX2.out⟩
      have k1 : (0 : Int) ≤ (h : Int) := by omega
      have k2 : (h : Int) < (N : Int) := by omega
      have k3 : (0 : Int) ≤ (a : Int) := by omega
      have k4 : (a : Int) < (N : Int) := by omega
      by_cases hcmp : It.cmp y x < 0
      · have hlt : It.lt y x = true := decide_eq_true hcmp
        have HM2 := Lib.hid (HM.out.up hih.1 hih.2 (by rw [HP.out, hy]; exact hlt) (fun q q1 q2 => by
          rw [HP.out]
          have hq : q - m < B.length := by omega
          rw [List.getElem?_eq_getElem hq]
          show It.lt _ x = true
          by_cases e : q = h
          · subst e; rw [List.getElem?_eq_getElem hhB] at hy; injection hy with hy; rw [hy]; exact hlt
          · exact HW.out.le_lt (srt_get HB.out (show q - m < h - m by omega) (List.getElem?_eq_getElem hq) hy) hlt))
        have hw3 : IntKind.i64.wrap ((h : Int) + 1) = ((h + 1 : Nat) : Int) := by rw [IntWalk.i64_in _ (by omega)]; omega
        have HH := Lib.hid (And.intro hih hij)
        clear f1 f2 f3 f4 hmi hih hhB hLl hh hijv hy hlt
        go_wp2
        refine region_wz (fun W' => W'.rangeAt g (h * 7) (It.vals y) ∧ W'.rangeAt g (a * 7) (It.vals x)) none (by kernel_rfl) ?_
        apply WZ.take (i := 0) (some 40) rfl rfl (by kernel_rfl) (by kernel_rfl) (by kernel_rfl) (calm_panic _) (by kernel_rfl)
        case hy => (refine .inl ⟨by kernel_rfl, fun W hC => ?_⟩; (try dsimp only at hC); go_simp; rfl)
        case hC => exact HC
        case ha => (simp only [Act.put, List.setIfInBounds_toArray, List.set_cons_zero, List.set_cons_succ]; rfl)
        apply WZ.take (i := 1) (some 41) rfl rfl (by kernel_rfl) (by kernel_rfl) (by kernel_rfl) (calm_panic _) (by kernel_rfl)
        case hy => (refine .inl ⟨by kernel_rfl, fun W hC => ?_⟩; (try dsimp only at hC); go_simp; rfl)
        case hC => exact HC
        case ha => (simp only [Act.put, List.setIfInBounds_toArray, List.set_cons_zero, List.set_cons_succ]; rfl)
        apply WZ.take (i := 2) (some 42) rfl rfl (by kernel_rfl) (by kernel_rfl) (by kernel_rfl) (calm_panic _) (by kernel_rfl)
        case hy => (refine .inl ⟨by kernel_rfl, fun W hC => ?_⟩; (try dsimp only at hC); go_simp; rfl)
        case hC => exact HC
        case ha => (simp only [Act.put, List.setIfInBounds_toArray, List.set_cons_zero, List.set_cons_succ]; rfl)
        apply WZ.take (i := 3) (some 43) rfl rfl (by kernel_rfl) (by kernel_rfl) (by kernel_rfl) (calm_panic _) (by kernel_rfl)
        case hy => (refine .inl ⟨by kernel_rfl, fun W hC => ?_⟩; (try dsimp only at hC); go_simp; rfl)
        case hC => exact HC
        case ha => (simp only [Act.put, List.setIfInBounds_toArray, List.set_cons_zero, List.set_cons_succ]; rfl)
        apply WZ.take (i := 4) (some 44) rfl rfl (by kernel_rfl) (by kernel_rfl) (by kernel_rfl) (calm_panic _) (by kernel_rfl)
        case hy => first | (apply yieldsIf_load_mid (by kernel_rfl) _ _ rfl _ _ rfl; (case hS => (intro W hC; exact (show World.rangeAt _ _ _ (It.vals _) from hC.1))); (case hu => exact Try.underlying59); (case hd => rfl); (case hi => kernel_rfl)) | (apply yieldsIf_load_mid (by kernel_rfl) _ _ rfl _ _ rfl; (case hS => (intro W hC; exact (show World.rangeAt _ _ _ (It.vals _) from hC.2.1))); (case hu => exact Try.underlying59); (case hd => rfl); (case hi => kernel_rfl)) | (apply yieldsIf_load_mid (by kernel_rfl) _ _ rfl _ _ rfl; (case hS => (intro W hC; exact (show World.rangeAt _ _ _ (It.vals _) from hC.2.2.1))); (case hu => exact Try.underlying59); (case hd => rfl); (case hi => kernel_rfl)) | (apply yieldsIf_load_mid (by kernel_rfl) _ _ rfl _ _ rfl; (case hS => (intro W hC; exact (show World.rangeAt _ _ _ (It.vals _) from hC.2.2.2.1))); (case hu => exact Try.underlying59); (case hd => rfl); (case hi => kernel_rfl)) | (apply yieldsIf_load_mid (by kernel_rfl) _ _ rfl _ _ rfl; (case hS => (intro W hC; exact (show World.rangeAt _ _ _ (It.vals _) from hC.2.2.2))); (case hu => exact Try.underlying59); (case hd => rfl); (case hi => kernel_rfl)) | (apply yieldsIf_load_mid (by kernel_rfl) _ _ rfl _ _ rfl; (case hS => (intro W hC; exact (show World.rangeAt _ _ _ (It.vals _) from hC.2.2))); (case hu => exact Try.underlying59); (case hd => rfl); (case hi => kernel_rfl)) | (apply yieldsIf_load_mid (by kernel_rfl) _ _ rfl _ _ rfl; (case hS => (intro W hC; exact (show World.rangeAt _ _ _ (It.vals _) from hC.2))); (case hu => exact Try.underlying59); (case hd => rfl); (case hi => kernel_rfl)) | (apply yieldsIf_load_mid (by kernel_rfl) _ _ rfl _ _ rfl; (case hS => (intro W hC; exact (show World.rangeAt _ _ _ (It.vals _) from hC))); (case hu => exact Try.underlying59); (case hd => rfl); (case hi => kernel_rfl))
        case hC => exact HC
        case ha => (simp only [Act.put, List.setIfInBounds_toArray, List.set_cons_zero, List.set_cons_succ]; rfl)
        apply WZ.take (i := 5) (some 45) rfl rfl (by kernel_rfl) (by kernel_rfl) (by kernel_rfl) (calm_panic _) (by kernel_rfl)
        case hy => (refine .inl ⟨by kernel_rfl, fun W hC => ?_⟩; (try dsimp only at hC); go_simp; rfl)
        case hC => exact HC
        case ha => (simp only [Act.put, List.setIfInBounds_toArray, List.set_cons_zero, List.set_cons_succ]; rfl)
        apply WZ.take (i := 6) (some 46) rfl rfl (by kernel_rfl) (by kernel_rfl) (by kernel_rfl) (calm_panic _) (by kernel_rfl)
        case hy => (refine .inl ⟨by kernel_rfl, fun W hC => ?_⟩; (try dsimp only at hC); go_simp; rfl)
        case hC => exact HC
        case ha => (simp only [Act.put, List.setIfInBounds_toArray, List.set_cons_zero, List.set_cons_succ]; rfl)
        apply WZ.take (i := 7) (some 47) rfl rfl (by kernel_rfl) (by kernel_rfl) (by kernel_rfl) (calm_panic _) (by kernel_rfl)
        case hy => (refine .inl ⟨by kernel_rfl, fun W hC => ?_⟩; (try dsimp only at hC); go_simp; rfl)
        case hC => exact HC
        case ha => (simp only [Act.put, List.setIfInBounds_toArray, List.set_cons_zero, List.set_cons_succ]; rfl)
        apply WZ.take (i := 8) (some 48) rfl rfl (by kernel_rfl) (by kernel_rfl) (by kernel_rfl) (calm_panic _) (by kernel_rfl)
        case hy => first | (apply yieldsIf_load_mid (by kernel_rfl) _ _ rfl _ _ rfl; (case hS => (intro W hC; exact (show World.rangeAt _ _ _ (It.vals _) from hC.1))); (case hu => exact Try.underlying59); (case hd => rfl); (case hi => kernel_rfl)) | (apply yieldsIf_load_mid (by kernel_rfl) _ _ rfl _ _ rfl; (case hS => (intro W hC; exact (show World.rangeAt _ _ _ (It.vals _) from hC.2.1))); (case hu => exact Try.underlying59); (case hd => rfl); (case hi => kernel_rfl)) | (apply yieldsIf_load_mid (by kernel_rfl) _ _ rfl _ _ rfl; (case hS => (intro W hC; exact (show World.rangeAt _ _ _ (It.vals _) from hC.2.2.1))); (case hu => exact Try.underlying59); (case hd => rfl); (case hi => kernel_rfl)) | (apply yieldsIf_load_mid (by kernel_rfl) _ _ rfl _ _ rfl; (case hS => (intro W hC; exact (show World.rangeAt _ _ _ (It.vals _) from hC.2.2.2.1))); (case hu => exact Try.underlying59); (case hd => rfl); (case hi => kernel_rfl)) | (apply yieldsIf_load_mid (by kernel_rfl) _ _ rfl _ _ rfl; (case hS => (intro W hC; exact (show World.rangeAt _ _ _ (It.vals _) from hC.2.2.2))); (case hu => exact Try.underlying59); (case hd => rfl); (case hi => kernel_rfl)) | (apply yieldsIf_load_mid (by kernel_rfl) _ _ rfl _ _ rfl; (case hS => (intro W hC; exact (show World.rangeAt _ _ _ (It.vals _) from hC.2.2))); (case hu => exact Try.underlying59); (case hd => rfl); (case hi => kernel_rfl)) | (apply yieldsIf_load_mid (by kernel_rfl) _ _ rfl _ _ rfl; (case hS => (intro W hC; exact (show World.rangeAt _ _ _ (It.vals _) from hC.2))); (case hu => exact Try.underlying59); (case hd => rfl); (case hi => kernel_rfl)) | (apply yieldsIf_load_mid (by kernel_rfl) _ _ rfl _ _ rfl; (case hS => (intro W hC; exact (show World.rangeAt _ _ _ (It.vals _) from hC))); (case hu => exact Try.underlying59); (case hd => rfl); (case hi => kernel_rfl))
        case hC => exact HC
        case ha => (simp only [Act.put, List.setIfInBounds_toArray, List.set_cons_zero, List.set_cons_succ]; rfl)
        -- 9
        refine WZ.one (i := 9) rfl (by kernel_rfl) ?_
        conv => arg 4; arg 1; whnf
        go_wp2_with (go_at_call 53; refine (itemCompare_any y x _).mono ?_; rintro e w1 ⟨rfl, hb1⟩)
        have HG1 := Lib.hid (grownBy_trans (grownBy_drew1 HG.out) (grownBy_below hb1 (some g)))
        have HA1 := Lib.hid (HA.out.drew.below hb1 (HA.out.drew.lt))
        have HC : w1.rangeAt g (h * 7) (It.vals y) ∧ w1.rangeAt g (a * 7) (It.vals x) := ⟨HA1.out.get HX1.out, HA1.out.get HX2.out⟩
        clear hb1
        refine ⟨HC, ?_⟩
        apply WZ.take (i := 10) (some 50) rfl rfl (by kernel_rfl) (by kernel_rfl) (by kernel_rfl) (calm_panic _) (by kernel_rfl)
        case hy => (refine .inl ⟨by kernel_rfl, fun W hC => ?_⟩; (try dsimp only at hC); go_simp; rfl)
        case hC => exact HC
        case ha => (simp only [Act.put, List.setIfInBounds_toArray, List.set_cons_zero, List.set_cons_succ]; rfl)
        refine WZ.done (by kernel_rfl) ?_ _
        simp only [Calm, Exit.then]
        go_wp2
        exact ⟨⟨h + 1, j, by first | rfl | go_num, rfl, hjb, HM2, HA1, HG1⟩, by have := HH.out; simp [intOf]; omega⟩
      · have hcmp' : 0 ≤ It.cmp y x := by omega
        have hlt : It.lt y x = false := decide_eq_false hcmp
        have HM2 := Lib.hid (HM.out.down hih.1 hih.2 (by rw [HP.out, hy]; exact hlt) (fun q q1 q2 => by
          rw [HP.out]
          have hq : q - m < B.length := by omega
          rw [List.getElem?_eq_getElem hq]
          show It.lt _ x = false
          by_cases e : q = h
          · subst e; rw [List.getElem?_eq_getElem hhB] at hy; injection hy with hy; rw [hy]; exact hlt
          · exact HW.out.trans _ _ _ hlt (srt_get HB.out (show h - m < q - m by omega) hy (List.getElem?_eq_getElem hq))))
        have HH := Lib.hid (And.intro hih hij)
        have hhb : h ≤ b := by omega
        clear f1 f2 f3 f4 hmi hih hhB hLl hh hijv hy hlt
        go_wp2
        refine region_wz (fun W' => W'.rangeAt g (h * 7) (It.vals y) ∧ W'.rangeAt g (a * 7) (It.vals x)) none (by kernel_rfl) ?_
        apply WZ.take (i := 0) (some 40) rfl rfl (by kernel_rfl) (by kernel_rfl) (by kernel_rfl) (calm_panic _) (by kernel_rfl)
        case hy => (refine .inl ⟨by kernel_rfl, fun W hC => ?_⟩; (try dsimp only at hC); go_simp; rfl)
        case hC => exact HC
        case ha => (simp only [Act.put, List.setIfInBounds_toArray, List.set_cons_zero, List.set_cons_succ]; rfl)
        apply WZ.take (i := 1) (some 41) rfl rfl (by kernel_rfl) (by kernel_rfl) (by kernel_rfl) (calm_panic _) (by kernel_rfl)
        case hy => (refine .inl ⟨by kernel_rfl, fun W hC => ?_⟩; (try dsimp only at hC); go_simp; rfl)
        case hC => exact HC
        case ha => (simp only [Act.put, List.setIfInBounds_toArray, List.set_cons_zero, List.set_cons_succ]; rfl)
        apply WZ.take (i := 2) (some 42) rfl rfl (by kernel_rfl) (by kernel_rfl) (by kernel_rfl) (calm_panic _) (by kernel_rfl)
        case hy => (refine .inl ⟨by kernel_rfl, fun W hC => ?_⟩; (try dsimp only at hC); go_simp; rfl)
        case hC => exact HC
        case ha => (simp only [Act.put, List.setIfInBounds_toArray, List.set_cons_zero, List.set_cons_succ]; rfl)
        apply WZ.take (i := 3) (some 43) rfl rfl (by kernel_rfl) (by kernel_rfl) (by kernel_rfl) (calm_panic _) (by kernel_rfl)
        case hy => (refine .inl ⟨by kernel_rfl, fun W hC => ?_⟩; (try dsimp only at hC); go_simp; rfl)
        case hC => exact HC
        case ha => (simp only [Act.put, List.setIfInBounds_toArray, List.set_cons_zero, List.set_cons_succ]; rfl)
        apply WZ.take (i := 4) (some 44) rfl rfl (by kernel_rfl) (by kernel_rfl) (by kernel_rfl) (calm_panic _) (by kernel_rfl)
        case hy => first | (apply yieldsIf_load_mid (by kernel_rfl) _ _ rfl _ _ rfl; (case hS => (intro W hC; exact (show World.rangeAt _ _ _ (It.vals _) from hC.1))); (case hu => exact Try.underlying59); (case hd => rfl); (case hi => kernel_rfl)) | (apply yieldsIf_load_mid (by kernel_rfl) _ _ rfl _ _ rfl; (case hS => (intro W hC; exact (show World.rangeAt _ _ _ (It.vals _) from hC.2.1))); (case hu => exact Try.underlying59); (case hd => rfl); (case hi => kernel_rfl)) | (apply yieldsIf_load_mid (by kernel_rfl) _ _ rfl _ _ rfl; (case hS => (intro W hC; exact (show World.rangeAt _ _ _ (It.vals _) from hC.2.2.1))); (case hu => exact Try.underlying59); (case hd => rfl); (case hi => kernel_rfl)) | (apply yieldsIf_load_mid (by kernel_rfl) _ _ rfl _ _ rfl; (case hS => (intro W hC; exact (show World.rangeAt _ _ _ (It.vals _) from hC.2.2.2.1))); (case hu => exact Try.underlying59); (case hd => rfl); (case hi => kernel_rfl)) | (apply yieldsIf_load_mid (by kernel_rfl) _ _ rfl _ _ rfl; (case hS => (intro W hC; exact (show World.rangeAt _ _ _ (It.vals _) from hC.2.2.2))); (case hu => exact Try.underlying59); (case hd => rfl); (case hi => kernel_rfl)) | (apply yieldsIf_load_mid (by kernel_rfl) _ _ rfl _ _ rfl; (case hS => (intro W hC; exact (show World.rangeAt _ _ _ (It.vals _) from hC.2.2))); (case hu => exact Try.underlying59); (case hd => rfl); (case hi => kernel_rfl)) | (apply yieldsIf_load_mid (by kernel_rfl) _ _ rfl _ _ rfl; (case hS => (intro W hC; exact (show World.rangeAt _ _ _ (It.vals _) from hC.2))); (case hu => exact Try.underlying59); (case hd => rfl); (case hi => kernel_rfl)) | (apply yieldsIf_load_mid (by kernel_rfl) _ _ rfl _ _ rfl; (case hS => (intro W hC; exact (show World.rangeAt _ _ _ (It.vals _) from hC))); (case hu => exact Try.underlying59); (case hd => rfl); (case hi => kernel_rfl))
        case hC => exact HC
        case ha => (simp only [Act.put, List.setIfInBounds_toArray, List.set_cons_zero, List.set_cons_succ]; rfl)
        apply WZ.take (i := 5) (some 45) rfl rfl (by kernel_rfl) (by kernel_rfl) (by kernel_rfl) (calm_panic _) (by kernel_rfl)
        case hy => (refine .inl ⟨by kernel_rfl, fun W hC => ?_⟩; (try dsimp only at hC); go_simp; rfl)
        case hC => exact HC
        case ha => (simp only [Act.put, List.setIfInBounds_toArray, List.set_cons_zero, List.set_cons_succ]; rfl)
        apply WZ.take (i := 6) (some 46) rfl rfl (by kernel_rfl) (by kernel_rfl) (by kernel_rfl) (calm_panic _) (by kernel_rfl)
        case hy => (refine .inl ⟨by kernel_rfl, fun W hC => ?_⟩; (try dsimp only at hC); go_simp; rfl)
        case hC => exact HC
        case ha => (simp only [Act.put, List.setIfInBounds_toArray, List.set_cons_zero, List.set_cons_succ]; rfl)
        apply WZ.take (i := 7) (some 47) rfl rfl (by kernel_rfl) (by kernel_rfl) (by kernel_rfl) (calm_panic _) (by kernel_rfl)
        case hy => (refine .inl ⟨by kernel_rfl, fun W hC => ?_⟩; (try dsimp only at hC); go_simp; rfl)
        case hC => exact HC
        case ha => (simp only [Act.put, List.setIfInBounds_toArray, List.set_cons_zero, List.set_cons_succ]; rfl)
        apply WZ.take (i := 8) (some 48) rfl rfl (by kernel_rfl) (by kernel_rfl) (by kernel_rfl) (calm_panic _) (by kernel_rfl)
        case hy => first | (apply yieldsIf_load_mid (by kernel_rfl) _ _ rfl _ _ rfl; (case hS => (intro W hC; exact (show World.rangeAt _ _ _ (It.vals _) from hC.1))); (case hu => exact Try.underlying59); (case hd => rfl); (case hi => kernel_rfl)) | (apply yieldsIf_load_mid (by kernel_rfl) _ _ rfl _ _ rfl; (case hS => (intro W hC; exact (show World.rangeAt _ _ _ (It.vals _) from hC.2.1))); (case hu => exact Try.underlying59); (case hd => rfl); (case hi => kernel_rfl)) | (apply yieldsIf_load_mid (by kernel_rfl) _ _ rfl _ _ rfl; (case hS => (intro W hC; exact (show World.rangeAt _ _ _ (It.vals _) from hC.2.2.1))); (case hu => exact Try.underlying59); (case hd => rfl); (case hi => kernel_rfl)) | (apply yieldsIf_load_mid (by kernel_rfl) _ _ rfl _ _ rfl; (case hS => (intro W hC; exact (show World.rangeAt _ _ _ (It.vals _) from hC.2.2.2.1))); (case hu => exact Try.underlying59); (case hd => rfl); (case hi => kernel_rfl)) | (apply yieldsIf_load_mid (by kernel_rfl) _ _ rfl _ _ rfl; (case hS => (intro W hC; exact (show World.rangeAt _ _ _ (It.vals _) from hC.2.2.2))); (case hu => exact Try.underlying59); (case hd => rfl); (case hi => kernel_rfl)) | (apply yieldsIf_load_mid (by kernel_rfl) _ _ rfl _ _ rfl; (case hS => (intro W hC; exact (show World.rangeAt _ _ _ (It.vals _) from hC.2.2))); (case hu => exact Try.underlying59); (case hd => rfl); (case hi => kernel_rfl)) | (apply yieldsIf_load_mid (by kernel_rfl) _ _ rfl _ _ rfl; (case hS => (intro W hC; exact (show World.rangeAt _ _ _ (It.vals _) from hC.2))); (case hu => exact Try.underlying59); (case hd => rfl); (case hi => kernel_rfl)) | (apply yieldsIf_load_mid (by kernel_rfl) _ _ rfl _ _ rfl; (case hS => (intro W hC; exact (show World.rangeAt _ _ _ (It.vals _) from hC))); (case hu => exact Try.underlying59); (case hd => rfl); (case hi => kernel_rfl))
        case hC => exact HC
        case ha => (simp only [Act.put, List.setIfInBounds_toArray, List.set_cons_zero, List.set_cons_succ]; rfl)
        -- 9
        refine WZ.one (i := 9) rfl (by kernel_rfl) ?_
        conv => arg 4; arg 1; whnf
        go_wp2_with (go_at_call 53; refine (itemCompare_any y x _).mono ?_; rintro e w1 ⟨rfl, hb1⟩)
        have HG1 := Lib.hid (grownBy_trans (grownBy_drew1 HG.out) (grownBy_below hb1 (some g)))
        have HA1 := Lib.hid (HA.out.drew.below hb1 (HA.out.drew.lt))
        have HC : w1.rangeAt g (h * 7) (It.vals y) ∧ w1.rangeAt g (a * 7) (It.vals x) := ⟨HA1.out.get HX1.out, HA1.out.get HX2.out⟩
        clear hb1
        refine ⟨HC, ?_⟩
        apply WZ.take (i := 10) (some 50) rfl rfl (by kernel_rfl) (by kernel_rfl) (by kernel_rfl) (calm_panic _) (by kernel_rfl)
        case hy => (refine .inl ⟨by kernel_rfl, fun W hC => ?_⟩; (try dsimp only at hC); go_simp; rfl)
        case hC => exact HC
        case ha => (simp only [Act.put, List.setIfInBounds_toArray, List.set_cons_zero, List.set_cons_succ]; rfl)
        refine WZ.done (by kernel_rfl) ?_ _
        simp only [Calm, Exit.then]
        go_wp2
        exact ⟨⟨i, h, rfl, rfl, hhb, HM2, HA1, HG1⟩, by have := HH.out; simp [intOf]; omega⟩
    · have e1 : decide ((i : Int) < (j : Int)) = false := decide_eq_false (by omega)
      have e1' : ¬ i < j := hij
      have hje : i = j := by have := HM.out.i_j; omega
      subst hje
      obtain ⟨f1, f2, f3, f4⟩ := HF.out
      have hmi := HM.out.lo_i
      have HB1 := Lib.hid (show ∀ y ∈ B.take (i - m), It.lt y x = true from fun y hy => by
        obtain ⟨q, hq, rfl⟩ := List.mem_iff_getElem.1 hy
        rw [List.length_take] at hq
        have h1 := HM.out.yes (q + m) (by omega) (by omega)
        rw [HP.out, Nat.add_sub_cancel, List.getElem?_eq_getElem (by omega)] at h1
        rw [List.getElem_take]
        exact h1)
      have HB2 := Lib.hid (show ∀ y ∈ B.drop (i - m), It.lt y x = false from fun y hy => by
        obtain ⟨q, hq, rfl⟩ := List.mem_iff_getElem.1 hy
        rw [List.length_drop] at hq
        have h1 := HM.out.no (q + i) (by omega) (by omega)
        rw [HP.out, show q + i - m = i - m + q by omega, List.getElem?_eq_getElem (by omega)] at h1
        rw [List.getElem_drop]
        exact h1)
      have hdi : IntKind.i64.wrap ((i : Int) - 1) = ((i - 1 : Nat) : Int) := by rw [IntWalk.i64_in _ (by omega)]; omega
      obtain ⟨i1, hi1⟩ : ∃ i1, i - 1 = i1 := ⟨_, rfl⟩
      rw [hi1] at hdi
      have hai1 : a ≤ i1 := by omega
      have hi1N : i1 < N := by omega
      have HI := Lib.hid (And.intro hi1 hmi)
      clear f1 f2 f3 f4 hmi hi1 hij
      have HS0 : Hid (Arr It.vals 7 wr g 59 S (X ++ B.take 0 ++ x :: (B.drop 0 ++ W))) := by simpa using HA
      go_wp2
      go_loopw [13] (fun vk wr' => ∃ (r : Nat), vk = .int .i64 ((a + r : Nat) : Int) ∧ a + r ≤ i1 ∧ Hid (Arr It.vals 7 wr' g 59 S (X ++ B.take r ++ x :: (B.drop r ++ W))) ∧ Hid (w.grownBy wr' (some g))) (fun vk _ => i1 - (intOf vk).toNat)
      case atStart => exact ⟨0, rfl, hai1, HS0, HG⟩
      case round =>
        clear HS0 HA HG
        rename_i wr0
        obtain ⟨r, rfl, hr, HA, HG⟩ := hrel
        obtain ⟨k, hk⟩ : ∃ k, a + r = k := ⟨_, rfl⟩
        rw [hk]
        by_cases hki : k < i1
        · obtain ⟨f1, f2, f3, f4⟩ := HF.out
          obtain ⟨g1, g2⟩ := HI.out
          have hrB : r < B.length := by omega
          obtain ⟨y, hy⟩ : ∃ y, B[r] = y := ⟨_, rfl⟩
          have hd : B.drop r = y :: B.drop (r + 1) := by rw [← hy]; exact List.drop_eq_getElem_cons hrB
          have ht : B.take (r + 1) = B.take r ++ [y] := by rw [← hy]; exact List.take_succ_eq_append_getElem hrB
          have hfull : X ++ B.take r ++ x :: (B.drop r ++ W) = (X ++ B.take r) ++ x :: y :: (B.drop (r + 1) ++ W) := by rw [hd]; rfl
          rw [hfull] at HA
          have hxt : (X ++ B.take r).length = k := by rw [List.length_append, List.length_take]; omega
          obtain ⟨k1, hk1⟩ : ∃ k1, k + 1 = k1 := ⟨_, rfl⟩
          have hll : ((X ++ B.take r) ++ x :: y :: (B.drop (r + 1) ++ W)).length = N := by rw [List.length_append, hxt]; simp; omega
          have HX1 := Lib.hid (show ((X ++ B.take r) ++ x :: y :: (B.drop (r + 1) ++ W))[k]? = some x by rw [List.getElem?_append_right (by omega), hxt, Nat.sub_self]; rfl)
          have HX2 := Lib.hid (show ((X ++ B.take r) ++ x :: y :: (B.drop (r + 1) ++ W))[k1]? = some y by rw [List.getElem?_append_right (by omega), hxt, ← hk1, Nat.add_sub_cancel_left]; rfl)
          have HSW := Lib.hid (swapAdj2 (X ++ B.take r) (B.drop (r + 1) ++ W) x y)
          rw [hxt, hk1] at HSW
          have hkl : k < ((X ++ B.take r) ++ x :: y :: (B.drop (r + 1) ++ W)).length := by omega
          have hk1l : k1 < (((X ++ B.take r) ++ x :: y :: (B.drop (r + 1) ++ W)).set k y).length := by rw [List.length_set]; omega
          have HKL := Lib.hid (And.intro hkl hk1l)
          have hk2 : IntKind.i64.wrap ((k : Int) + 1) = (k1 : Int) := by rw [IntWalk.i64_in _ (by omega)]; omega
          have hk3 : ((a + (r + 1) : Nat) : Int) = (k1 : Int) := by omega
          have HK3 := Lib.hid hk3
          have HK4 := Lib.hid (show a + (r + 1) ≤ i1 ∧ k < i1 ∧ k + 1 = k1 by omega)
          have HT := Lib.hid ht
          have e2 : decide ((k : Int) < (i1 : Int)) = true := decide_eq_true (by omega)
          have q1 : (0 : Int) ≤ (k : Int) := by omega
          have q2 : (k : Int) < (N : Int) := by omega
          have q3 : (0 : Int) ≤ (k1 : Int) := by omega
          have q4 : (k1 : Int) < (N : Int) := by omega
          have HC : wr.drew.rangeAt g (k * 7) (It.vals x) ∧ wr.drew.rangeAt g (k1 * 7) (It.vals y) := ⟨HA.out.drew.get HX1.out, HA.out.drew.get HX2.out⟩
          clear f1 f2 f3 f4 g1 g2 hrB hy hd ht hfull hxt hk1 hll hkl hk1l hk3 hk hr
          obtain ⟨hkl, hk1l⟩ := HKL.out
          go_wp2
          refine region_wz (fun W' => W'.rangeAt g (k * 7) (It.vals x) ∧ W'.rangeAt g (k1 * 7) (It.vals y)) (some 15) (by kernel_rfl) ?_
          apply WZ.take (i := 0) (some 61) rfl rfl (by kernel_rfl) (by kernel_rfl) (by kernel_rfl) (calm_panic _) (by kernel_rfl)
          case hy => (refine .inl ⟨by kernel_rfl, fun W hC => ?_⟩; (try dsimp only at hC); go_simp; (try simp only [hk2]); rfl)
          case hC => exact HC
          case ha => (simp only [Act.put, List.setIfInBounds_toArray, List.set_cons_zero, List.set_cons_succ]; rfl)
          apply WZ.take (i := 1) (some 62) rfl rfl (by kernel_rfl) (by kernel_rfl) (by kernel_rfl) (calm_panic _) (by kernel_rfl)
          case hy => (refine .inl ⟨by kernel_rfl, fun W hC => ?_⟩; (try dsimp only at hC); go_simp; (try simp only [hk2]); rfl)
          case hC => exact HC
          case ha => (simp only [Act.put, List.setIfInBounds_toArray, List.set_cons_zero, List.set_cons_succ]; rfl)
          apply WZ.takeF (i := 2) (some 63) rfl rfl (by kernel_rfl) (by kernel_rfl) (by kernel_rfl) (calm_panic _) (by kernel_rfl)
          case hy => (refine .inl ⟨by kernel_rfl, fun W hC => ?_⟩; (try dsimp only at hC); go_simp; (try simp only [hk2]); rfl)
          case hC => exact HC
          case ha => (simp only [Act.put, List.setIfInBounds_toArray, List.set_cons_zero, List.set_cons_succ]; rfl)
          apply WZ.takeF (i := 3) (some 64) rfl rfl (by kernel_rfl) (by kernel_rfl) (by kernel_rfl) (calm_panic _) (by kernel_rfl)
          case hy => (refine .inl ⟨by kernel_rfl, fun W hC => ?_⟩; (try dsimp only at hC); go_simp; (try simp only [hk2]); rfl)
          case hC => exact HC
          case ha => (simp only [Act.put, List.setIfInBounds_toArray, List.set_cons_zero, List.set_cons_succ]; rfl)
          apply WZ.takeF (i := 4) (some 65) rfl rfl (by kernel_rfl) (by kernel_rfl) (by kernel_rfl) (calm_panic _) (by kernel_rfl)
          case hy => (refine .inl ⟨by kernel_rfl, fun W hC => ?_⟩; (try dsimp only at hC); go_simp; (try simp only [hk2]); rfl)
          case hC => exact HC
          case ha => (simp only [Act.put, List.setIfInBounds_toArray, List.set_cons_zero, List.set_cons_succ]; rfl)
          apply WZ.take (i := 5) (some 66) rfl rfl (by kernel_rfl) (by kernel_rfl) (by kernel_rfl) (calm_panic _) (by kernel_rfl)
          case hy => (refine .inl ⟨by kernel_rfl, fun W hC => ?_⟩; (try dsimp only at hC); go_simp; (try simp only [hk2]); rfl)
          case hC => exact HC
          case ha => (simp only [Act.put, List.setIfInBounds_toArray, List.set_cons_zero, List.set_cons_succ]; rfl)
          apply WZ.take (i := 6) (some 67) rfl rfl (by kernel_rfl) (by kernel_rfl) (by kernel_rfl) (calm_panic _) (by kernel_rfl)
          case hy => (refine .inl ⟨by kernel_rfl, fun W hC => ?_⟩; (try dsimp only at hC); go_simp; (try simp only [hk2]); rfl)
          case hC => exact HC
          case ha => (simp only [Act.put, List.setIfInBounds_toArray, List.set_cons_zero, List.set_cons_succ]; rfl)
          apply WZ.take (i := 7) (some 68) rfl rfl (by kernel_rfl) (by kernel_rfl) (by kernel_rfl) (calm_panic _) (by kernel_rfl)
          case hy => (refine .inl ⟨by kernel_rfl, fun W hC => ?_⟩; (try dsimp only at hC); go_simp; (try simp only [hk2]); rfl)
          case hC => exact HC
          case ha => (simp only [Act.put, List.setIfInBounds_toArray, List.set_cons_zero, List.set_cons_succ]; rfl)
          apply WZ.take (i := 8) (some 69) rfl rfl (by kernel_rfl) (by kernel_rfl) (by kernel_rfl) (calm_panic _) (by kernel_rfl)
          case hy => (refine .inl ⟨by kernel_rfl, fun W hC => ?_⟩; (try dsimp only at hC); go_simp; (try simp only [hk2]); rfl)
          case hC => exact HC
          case ha => (simp only [Act.put, List.setIfInBounds_toArray, List.set_cons_zero, List.set_cons_succ]; rfl)
          apply WZ.take (i := 9) (some 70) rfl rfl (by kernel_rfl) (by kernel_rfl) (by kernel_rfl) (calm_panic _) (by kernel_rfl)
          case hy => first | (apply yieldsIf_load_mid (by kernel_rfl) _ _ rfl _ _ rfl; (case hS => (intro W hC; exact (show World.rangeAt _ _ _ (It.vals _) from hC.1))); (case hu => exact Try.underlying59); (case hd => rfl); (case hi => kernel_rfl)) | (apply yieldsIf_load_mid (by kernel_rfl) _ _ rfl _ _ rfl; (case hS => (intro W hC; exact (show World.rangeAt _ _ _ (It.vals _) from hC.2.1))); (case hu => exact Try.underlying59); (case hd => rfl); (case hi => kernel_rfl)) | (apply yieldsIf_load_mid (by kernel_rfl) _ _ rfl _ _ rfl; (case hS => (intro W hC; exact (show World.rangeAt _ _ _ (It.vals _) from hC.2.2.1))); (case hu => exact Try.underlying59); (case hd => rfl); (case hi => kernel_rfl)) | (apply yieldsIf_load_mid (by kernel_rfl) _ _ rfl _ _ rfl; (case hS => (intro W hC; exact (show World.rangeAt _ _ _ (It.vals _) from hC.2.2.2.1))); (case hu => exact Try.underlying59); (case hd => rfl); (case hi => kernel_rfl)) | (apply yieldsIf_load_mid (by kernel_rfl) _ _ rfl _ _ rfl; (case hS => (intro W hC; exact (show World.rangeAt _ _ _ (It.vals _) from hC.2.2.2))); (case hu => exact Try.underlying59); (case hd => rfl); (case hi => kernel_rfl)) | (apply yieldsIf_load_mid (by kernel_rfl) _ _ rfl _ _ rfl; (case hS => (intro W hC; exact (show World.rangeAt _ _ _ (It.vals _) from hC.2.2))); (case hu => exact Try.underlying59); (case hd => rfl); (case hi => kernel_rfl)) | (apply yieldsIf_load_mid (by kernel_rfl) _ _ rfl _ _ rfl; (case hS => (intro W hC; exact (show World.rangeAt _ _ _ (It.vals _) from hC.2))); (case hu => exact Try.underlying59); (case hd => rfl); (case hi => kernel_rfl)) | (apply yieldsIf_load_mid (by kernel_rfl) _ _ rfl _ _ rfl; (case hS => (intro W hC; exact (show World.rangeAt _ _ _ (It.vals _) from hC))); (case hu => exact Try.underlying59); (case hd => rfl); (case hi => kernel_rfl))
          case hC => exact HC
          case ha => (simp only [Act.put, List.setIfInBounds_toArray, List.set_cons_zero, List.set_cons_succ]; rfl)
          apply WZ.takeF (i := 10) (some 71) rfl rfl (by kernel_rfl) (by kernel_rfl) (by kernel_rfl) (calm_panic _) (by kernel_rfl)
          case hy => (refine .inl ⟨by kernel_rfl, fun W hC => ?_⟩; (try dsimp only at hC); go_simp; (try simp only [hk2]); rfl)
          case hC => exact HC
          case ha => (simp only [Act.put, List.setIfInBounds_toArray, List.set_cons_zero, List.set_cons_succ]; rfl)
          apply WZ.takeF (i := 11) (some 72) rfl rfl (by kernel_rfl) (by kernel_rfl) (by kernel_rfl) (calm_panic _) (by kernel_rfl)
          case hy => (refine .inl ⟨by kernel_rfl, fun W hC => ?_⟩; (try dsimp only at hC); go_simp; (try simp only [hk2]); rfl)
          case hC => exact HC
          case ha => (simp only [Act.put, List.setIfInBounds_toArray, List.set_cons_zero, List.set_cons_succ]; rfl)
          apply WZ.takeF (i := 12) (some 73) rfl rfl (by kernel_rfl) (by kernel_rfl) (by kernel_rfl) (calm_panic _) (by kernel_rfl)
          case hy => (refine .inl ⟨by kernel_rfl, fun W hC => ?_⟩; (try dsimp only at hC); go_simp; (try simp only [hk2]); rfl)
          case hC => exact HC
          case ha => (simp only [Act.put, List.setIfInBounds_toArray, List.set_cons_zero, List.set_cons_succ]; rfl)
          apply WZ.take (i := 13) (some 74) rfl rfl (by kernel_rfl) (by kernel_rfl) (by kernel_rfl) (calm_panic _) (by kernel_rfl)
          case hy => first | (apply yieldsIf_load_mid (by kernel_rfl) _ _ rfl _ _ rfl; (case hS => (intro W hC; exact (show World.rangeAt _ _ _ (It.vals _) from hC.1))); (case hu => exact Try.underlying59); (case hd => rfl); (case hi => kernel_rfl)) | (apply yieldsIf_load_mid (by kernel_rfl) _ _ rfl _ _ rfl; (case hS => (intro W hC; exact (show World.rangeAt _ _ _ (It.vals _) from hC.2.1))); (case hu => exact Try.underlying59); (case hd => rfl); (case hi => kernel_rfl)) | (apply yieldsIf_load_mid (by kernel_rfl) _ _ rfl _ _ rfl; (case hS => (intro W hC; exact (show World.rangeAt _ _ _ (It.vals _) from hC.2.2.1))); (case hu => exact Try.underlying59); (case hd => rfl); (case hi => kernel_rfl)) | (apply yieldsIf_load_mid (by kernel_rfl) _ _ rfl _ _ rfl; (case hS => (intro W hC; exact (show World.rangeAt _ _ _ (It.vals _) from hC.2.2.2.1))); (case hu => exact Try.underlying59); (case hd => rfl); (case hi => kernel_rfl)) | (apply yieldsIf_load_mid (by kernel_rfl) _ _ rfl _ _ rfl; (case hS => (intro W hC; exact (show World.rangeAt _ _ _ (It.vals _) from hC.2.2.2))); (case hu => exact Try.underlying59); (case hd => rfl); (case hi => kernel_rfl)) | (apply yieldsIf_load_mid (by kernel_rfl) _ _ rfl _ _ rfl; (case hS => (intro W hC; exact (show World.rangeAt _ _ _ (It.vals _) from hC.2.2))); (case hu => exact Try.underlying59); (case hd => rfl); (case hi => kernel_rfl)) | (apply yieldsIf_load_mid (by kernel_rfl) _ _ rfl _ _ rfl; (case hS => (intro W hC; exact (show World.rangeAt _ _ _ (It.vals _) from hC.2))); (case hu => exact Try.underlying59); (case hd => rfl); (case hi => kernel_rfl)) | (apply yieldsIf_load_mid (by kernel_rfl) _ _ rfl _ _ rfl; (case hS => (intro W hC; exact (show World.rangeAt _ _ _ (It.vals _) from hC))); (case hu => exact Try.underlying59); (case hd => rfl); (case hi => kernel_rfl))
          case hC => exact HC
          case ha => (simp only [Act.put, List.setIfInBounds_toArray, List.set_cons_zero, List.set_cons_succ]; rfl)
          apply WZ.take (i := 14) (some 75) rfl rfl (by kernel_rfl) (by kernel_rfl) (by kernel_rfl) (calm_panic _) (by kernel_rfl)
          case hy => (refine .inl ⟨by kernel_rfl, fun W hC => ?_⟩; (try dsimp only at hC); go_simp; (try simp only [hk2]); rfl)
          case hC => exact HC
          case ha => (simp only [Act.put, List.setIfInBounds_toArray, List.set_cons_zero, List.set_cons_succ]; rfl)
          -- 15
          refine WZ.last (i := 15) rfl (by kernel_rfl) (by kernel_rfl) ?_
          conv => arg 4; arg 1; whnf
          refine wpList_store_mid rfl 59 _ _ rfl g (k * 7) _ rfl rfl (HA.out.drew.there_at hkl) (by kernel_rfl) (all_oneCell_toArray (It.one _)) ?_
          have HA2 := HA.out.drew.set (It.vals_len) hkl y
          -- 16
          refine WZ.last (i := 16) rfl (by kernel_rfl) (by kernel_rfl) ?_
          conv => arg 4; arg 1; whnf
          go_wp2
          -- 17
          refine WZ.last (i := 17) rfl (by kernel_rfl) (by kernel_rfl) ?_
          conv => arg 4; arg 1; whnf
          refine wpList_store_mid rfl 59 _ _ rfl g (k1 * 7) _ rfl rfl (HA2.1.there_at hk1l) (by kernel_rfl) (all_oneCell_toArray (It.one _)) ?_
          have HA3 := HA2.1.set (It.vals_len) hk1l x
          refine WZ.done (by kernel_rfl) ?_ _
          simp only [Calm, Exit.then]
          go_wp2
          refine ⟨⟨r + 1, by rw [HK3.out], HK4.out.1, Lib.hid ?_, Lib.hid (grownBy_trans (grownBy_drew1 HG.out) (grownBy_trans HA2.2 HA3.2))⟩, ?_⟩
          · have := HA3.1
            rw [HSW.out] at this
            rw [HT.out]
            simpa only [List.append_assoc, List.cons_append, List.nil_append] using this
          · have := HK4.out
            simp [intOf]; omega
        · have e2 : decide ((k : Int) < (i1 : Int)) = false := decide_eq_false (by omega)
          have hrr : r = i - m := by
            obtain ⟨f1, f2, f3, f4⟩ := HF.out
            obtain ⟨g1, g2⟩ := HI.out
            omega
          have HRR := Lib.hid hrr
          clear hrr hr hk
          go_wp2
          refine bodyPost_ret (results_none rfl _ _ _) rfl ?_
          have := HA.out
          rw [HRR.out] at this
          exact ⟨rfl, B.take (i - m), B.drop (i - m), (List.take_append_drop _ _).symm, HB1.out, HB2.out, this, HG.out⟩
end Go.Proofs.Ytflppcgonbjnmaa
