/-
  The walk of swapRange at files.
-/
import Derived.Test.YtaeemeoffnhgfaaFile
namespace Go.Proofs.Ytaeemeoffnhgfaa
open Go.RowKit
attribute [local go_sem ↓] Go.wp_at_zero Go.wp_at_succ

theorem swap2 {α : Type} (U V Z : List α) (p r : α) : ((U ++ p :: (V ++ r :: Z)).set U.length r).set (U.length + 1 + V.length) p = U ++ r :: (V ++ p :: Z) := by
  have e1 : (U ++ p :: (V ++ r :: Z)).set U.length r = U ++ r :: (V ++ r :: Z) := by
    rw [List.set_append_right _ _ (Nat.le_refl _), Nat.sub_self]
    rfl
  rw [e1, List.set_append_right _ _ (by omega), show U.length + 1 + V.length - U.length = V.length + 1 by omega, List.set_cons_succ, List.set_append_right _ _ (Nat.le_refl _), Nat.sub_self]
  rfl
/-- behind some exchanges -/
def swapTo {α : Type} (X P Q R W : List α) (i : Nat) : List α := X ++ R.take i ++ P.drop i ++ Q ++ P.take i ++ R.drop i ++ W
theorem swapTo_zero {α : Type} (X P Q R W : List α) : swapTo X P Q R W 0 = X ++ P ++ Q ++ R ++ W := by simp [swapTo]
theorem swapTo_end {α : Type} (X P Q R W : List α) {n : Nat} (hP : P.length = n) (hR : R.length = n) : swapTo X P Q R W n = X ++ R ++ Q ++ P ++ W := by
  unfold swapTo
  rw [List.take_of_length_le (by omega), List.drop_of_length_le (by omega), List.take_of_length_le (by omega), List.drop_of_length_le (by omega)]
  simp
theorem swapTo_length {α : Type} (X P Q R W : List α) {n : Nat} (hP : P.length = n) (hR : R.length = n) (i : Nat) (hi : i ≤ n) : (swapTo X P Q R W i).length = X.length + n + Q.length + n + W.length := by
  simp [swapTo, hP, hR]
  omega
theorem swapTo_step {α : Type} (X P Q R W : List α) {n i : Nat} (hP : P.length = n) (hR : R.length = n) (hi : i < n) :
    ∃ p r, P[i]? = some p ∧ R[i]? = some r ∧ (swapTo X P Q R W i)[X.length + i]? = some p ∧ (swapTo X P Q R W i)[X.length + n + Q.length + i]? = some r ∧
      ((swapTo X P Q R W i).set (X.length + i) r).set (X.length + n + Q.length + i) p = swapTo X P Q R W (i + 1) := by
  have e1 : P.drop i = P[i] :: P.drop (i + 1) := List.drop_eq_getElem_cons (by omega)
  have e2 : R.drop i = R[i] :: R.drop (i + 1) := List.drop_eq_getElem_cons (by omega)
  have e3 : P.take (i + 1) = P.take i ++ [P[i]] := List.take_succ_eq_append_getElem (by omega)
  have e4 : R.take (i + 1) = R.take i ++ [R[i]] := List.take_succ_eq_append_getElem (by omega)
  have f : swapTo X P Q R W i = (X ++ R.take i) ++ P[i] :: ((P.drop (i + 1) ++ Q ++ P.take i) ++ R[i] :: (R.drop (i + 1) ++ W)) := by
    unfold swapTo
    rw [e1, e2]
    simp only [List.append_assoc, List.cons_append]
  have f' : swapTo X P Q R W (i + 1) = (X ++ R.take i) ++ R[i] :: ((P.drop (i + 1) ++ Q ++ P.take i) ++ P[i] :: (R.drop (i + 1) ++ W)) := by
    unfold swapTo
    rw [e3, e4]
    simp only [List.append_assoc, List.cons_append, List.nil_append]
  have u1 : (X ++ R.take i).length = X.length + i := by simp; omega
  have u2 : (P.drop (i + 1) ++ Q ++ P.take i).length + 1 = n + Q.length := by simp; omega
  refine ⟨P[i], R[i], by simp, by simp, ?_, ?_, ?_⟩
  · rw [f, List.getElem?_append_right (by omega), u1, Nat.sub_self]
    rfl
  · rw [f, List.getElem?_append_right (by omega), u1, show X.length + n + Q.length + i - (X.length + i) = (P.drop (i + 1) ++ Q ++ P.take i).length + 1 by omega, List.getElem?_cons_succ, List.getElem?_append_right (Nat.le_refl _), Nat.sub_self]
    rfl
  · have := swap2 (X ++ R.take i) (P.drop (i + 1) ++ Q ++ P.take i) (R.drop (i + 1) ++ W) P[i] R[i]
    rw [f, f', ← this, u1]
    congr 1
    omega

theorem Arr.get {α : Type} {enc : α → List Value} {k : Nat} {w : World} {g : Nat} {e : TypeId} {S : Nat} {l : List α} (h : Arr enc k w g e S l) {i : Nat} {x : α} (hx : l[i]? = some x) : w.rangeAt g (i * k) (enc x) := by
  obtain ⟨hi, rfl⟩ := List.getElem?_eq_some_iff.1 hx
  exact h.at_ i hi

set_option maxHeartbeats 2000000 in
theorem swapRange_any (g S cap N : Nat) (X P Q R W : List Fi) (n : Nat) (fv : Value) (w : World) (h : Arr Fi.vals 5 w g 23 S (X ++ P ++ Q ++ R ++ W)) (hP : P.length = n) (hR : R.length = n) (hN : X.length + n + Q.length + n + W.length = N) (hmax : N ≤ 1000000000) :
    Calls Try.prog 80 #[.slice (some ⟨g, 0, none⟩) N cap, .int .i64 X.length, .int .i64 ((X.length + n + Q.length : Nat) : Int), .int .i64 n, fv] w fun e w' =>
      e = .returned (.tuple #[]) ∧ Arr Fi.vals 5 w' g 23 S (X ++ R ++ Q ++ P ++ W) ∧ w.grownBy w' (some g) := by
  have HZ := Lib.hid (show swapTo X P Q R W 0 = X ++ P ++ Q ++ R ++ W from swapTo_zero _ _ _ _ _)
  have HEND := Lib.hid (swapTo_end X P Q R W hP hR)
  have HSTEP := Lib.hid (fun i (hi : i < n) => swapTo_step X P Q R W hP hR hi)
  have HLEN := Lib.hid (fun i (hi : i ≤ n) => swapTo_length X P Q R W hP hR i hi)
  have H := Lib.hid h
  clear h hP hR
  obtain ⟨a, ha⟩ : ∃ a, X.length = a := ⟨_, rfl⟩
  obtain ⟨b, hb⟩ : ∃ b, X.length + n + Q.length = b := ⟨_, rfl⟩
  have HXA := Lib.hid ha
  have HXB := Lib.hid hb
  rw [hb, ha]
  have hbN : b + n ≤ N := by omega
  have haN : a + n ≤ b := by omega
  have HN := Lib.hid hN
  clear ha hb hN
  go_enter Try.func80, Try.ntmps80
  go_wp2
  go_loopw [10] (fun i wr => ∃ k : Nat, k ≤ n ∧ i = .int .i64 k ∧ Hid (Arr Fi.vals 5 wr g 23 S (swapTo X P Q R W k)) ∧ Hid (w.grownBy wr (some g))) (fun i _ => n - (intOf i).toNat)
  case atStart => exact ⟨0, Nat.zero_le _, rfl, by rw [HZ.out]; exact H, Lib.hid (grownBy_refl _ _)⟩
  case round =>
    obtain ⟨k, hk, rfl, HA, HG⟩ := hrel
    by_cases hlt : k < n
    · obtain ⟨p, r, _, _, x1, x2, x3⟩ := HSTEP.out k hlt
      have hl := HLEN.out k hk
      rw [HN.out] at hl
      rw [HXB.out] at x2 x3
      rw [HXA.out] at x1 x3
      obtain ⟨ai, hai0⟩ : ∃ ai, a + k = ai := ⟨_, rfl⟩
      obtain ⟨bi, hbi0⟩ : ∃ bi, b + k = bi := ⟨_, rfl⟩
      rw [hai0] at x1 x3
      rw [hbi0] at x2 x3
      have hw1 : IntKind.i64.wrap ((a : Int) + (k : Int)) = (ai : Int) := by rw [IntWalk.i64_in _ (by omega)]; omega
      have hw2 : IntKind.i64.wrap ((b : Int) + (k : Int)) = (bi : Int) := by rw [IntWalk.i64_in _ (by omega)]; omega
      have hai : ai < (swapTo X P Q R W k).length := by omega
      have hbi : bi < ((swapTo X P Q R W k).set ai r).length := by rw [List.length_set]; omega
      have i1 : (0 : Int) ≤ (ai : Int) := by omega
      have i2 : (ai : Int) < (N : Int) := by omega
      have i3 : (0 : Int) ≤ (bi : Int) := by omega
      have i4 : (bi : Int) < (N : Int) := by omega
      have i5 : decide ((k : Int) < (n : Int)) = true := decide_eq_true (by omega)
      have HC : wr.drew.rangeAt g (ai * 5) (Fi.vals p) ∧ wr.drew.rangeAt g (bi * 5) (Fi.vals r) := ⟨HA.out.drew.get x1, HA.out.drew.get x2⟩
      have HX3 := Lib.hid x3
      have HL := Lib.hid (And.intro hai hbi)
      clear x1 x2 x3 hai hbi hl hai0 hbi0
      obtain ⟨hai, hbi⟩ := HL.out
      go_wp2
      refine region_wz (fun W' => W'.rangeAt g (ai * 5) (Fi.vals p) ∧ W'.rangeAt g (bi * 5) (Fi.vals r)) (some 21) (by kernel_rfl) ?_
      apply WZ.take (i := 0) (some 16) rfl rfl (by kernel_rfl) (by kernel_rfl) (by kernel_rfl) (calm_panic _) (by kernel_rfl)
      case hy => (refine .inl ⟨by kernel_rfl, fun W hC => ?_⟩; (try dsimp only at hC); go_simp; (try simp only [hw1,hw2]); rfl)
      case hC => exact HC
      case ha => (simp only [Act.put, List.setIfInBounds_toArray, List.set_cons_zero, List.set_cons_succ]; rfl)
      apply WZ.take (i := 1) (some 17) rfl rfl (by kernel_rfl) (by kernel_rfl) (by kernel_rfl) (calm_panic _) (by kernel_rfl)
      case hy => (refine .inl ⟨by kernel_rfl, fun W hC => ?_⟩; (try dsimp only at hC); go_simp; (try simp only [hw1,hw2]); rfl)
      case hC => exact HC
      case ha => (simp only [Act.put, List.setIfInBounds_toArray, List.set_cons_zero, List.set_cons_succ]; rfl)
      apply WZ.take (i := 2) (some 18) rfl rfl (by kernel_rfl) (by kernel_rfl) (by kernel_rfl) (calm_panic _) (by kernel_rfl)
      case hy => (refine .inl ⟨by kernel_rfl, fun W hC => ?_⟩; (try dsimp only at hC); go_simp; (try simp only [hw1,hw2]); rfl)
      case hC => exact HC
      case ha => (simp only [Act.put, List.setIfInBounds_toArray, List.set_cons_zero, List.set_cons_succ]; rfl)
      apply WZ.take (i := 3) (some 19) rfl rfl (by kernel_rfl) (by kernel_rfl) (by kernel_rfl) (calm_panic _) (by kernel_rfl)
      case hy => (refine .inl ⟨by kernel_rfl, fun W hC => ?_⟩; (try dsimp only at hC); go_simp; (try simp only [hw1,hw2]); rfl)
      case hC => exact HC
      case ha => (simp only [Act.put, List.setIfInBounds_toArray, List.set_cons_zero, List.set_cons_succ]; rfl)
      apply WZ.takeF (i := 4) (some 20) rfl rfl (by kernel_rfl) (by kernel_rfl) (by kernel_rfl) (calm_panic _) (by kernel_rfl)
      case hy => (refine .inl ⟨by kernel_rfl, fun W hC => ?_⟩; (try dsimp only at hC); go_simp; (try simp only [hw1,hw2]); rfl)
      case hC => exact HC
      case ha => (simp only [Act.put, List.setIfInBounds_toArray, List.set_cons_zero, List.set_cons_succ]; rfl)
      apply WZ.takeF (i := 5) (some 21) rfl rfl (by kernel_rfl) (by kernel_rfl) (by kernel_rfl) (calm_panic _) (by kernel_rfl)
      case hy => (refine .inl ⟨by kernel_rfl, fun W hC => ?_⟩; (try dsimp only at hC); go_simp; (try simp only [hw1,hw2]); rfl)
      case hC => exact HC
      case ha => (simp only [Act.put, List.setIfInBounds_toArray, List.set_cons_zero, List.set_cons_succ]; rfl)
      apply WZ.takeF (i := 6) (some 22) rfl rfl (by kernel_rfl) (by kernel_rfl) (by kernel_rfl) (calm_panic _) (by kernel_rfl)
      case hy => (refine .inl ⟨by kernel_rfl, fun W hC => ?_⟩; (try dsimp only at hC); go_simp; (try simp only [hw1,hw2]); rfl)
      case hC => exact HC
      case ha => (simp only [Act.put, List.setIfInBounds_toArray, List.set_cons_zero, List.set_cons_succ]; rfl)
      apply WZ.takeF (i := 7) (some 23) rfl rfl (by kernel_rfl) (by kernel_rfl) (by kernel_rfl) (calm_panic _) (by kernel_rfl)
      case hy => (refine .inl ⟨by kernel_rfl, fun W hC => ?_⟩; (try dsimp only at hC); go_simp; (try simp only [hw1,hw2]); rfl)
      case hC => exact HC
      case ha => (simp only [Act.put, List.setIfInBounds_toArray, List.set_cons_zero, List.set_cons_succ]; rfl)
      apply WZ.take (i := 8) (some 24) rfl rfl (by kernel_rfl) (by kernel_rfl) (by kernel_rfl) (calm_panic _) (by kernel_rfl)
      case hy => (refine .inl ⟨by kernel_rfl, fun W hC => ?_⟩; (try dsimp only at hC); go_simp; (try simp only [hw1,hw2]); rfl)
      case hC => exact HC
      case ha => (simp only [Act.put, List.setIfInBounds_toArray, List.set_cons_zero, List.set_cons_succ]; rfl)
      apply WZ.take (i := 9) (some 25) rfl rfl (by kernel_rfl) (by kernel_rfl) (by kernel_rfl) (calm_panic _) (by kernel_rfl)
      case hy => (refine .inl ⟨by kernel_rfl, fun W hC => ?_⟩; (try dsimp only at hC); go_simp; (try simp only [hw1,hw2]); rfl)
      case hC => exact HC
      case ha => (simp only [Act.put, List.setIfInBounds_toArray, List.set_cons_zero, List.set_cons_succ]; rfl)
      apply WZ.take (i := 10) (some 26) rfl rfl (by kernel_rfl) (by kernel_rfl) (by kernel_rfl) (calm_panic _) (by kernel_rfl)
      case hy => (refine .inl ⟨by kernel_rfl, fun W hC => ?_⟩; (try dsimp only at hC); go_simp; (try simp only [hw1,hw2]); rfl)
      case hC => exact HC
      case ha => (simp only [Act.put, List.setIfInBounds_toArray, List.set_cons_zero, List.set_cons_succ]; rfl)
      apply WZ.take (i := 11) (some 27) rfl rfl (by kernel_rfl) (by kernel_rfl) (by kernel_rfl) (calm_panic _) (by kernel_rfl)
      case hy => (refine .inl ⟨by kernel_rfl, fun W hC => ?_⟩; (try dsimp only at hC); go_simp; (try simp only [hw1,hw2]); rfl)
      case hC => exact HC
      case ha => (simp only [Act.put, List.setIfInBounds_toArray, List.set_cons_zero, List.set_cons_succ]; rfl)
      apply WZ.take (i := 12) (some 28) rfl rfl (by kernel_rfl) (by kernel_rfl) (by kernel_rfl) (calm_panic _) (by kernel_rfl)
      case hy => (refine .inl ⟨by kernel_rfl, fun W hC => ?_⟩; (try dsimp only at hC); go_simp; (try simp only [hw1,hw2]); rfl)
      case hC => exact HC
      case ha => (simp only [Act.put, List.setIfInBounds_toArray, List.set_cons_zero, List.set_cons_succ]; rfl)
      apply WZ.take (i := 13) (some 29) rfl rfl (by kernel_rfl) (by kernel_rfl) (by kernel_rfl) (calm_panic _) (by kernel_rfl)
      case hy => first | (apply yieldsIf_load_mid (by kernel_rfl) _ _ rfl _ _ rfl; (case hS => (intro W hC; exact (show World.rangeAt _ _ _ (Fi.vals _) from hC.1))); (case hu => exact Try.underlying23); (case hd => rfl); (case hi => kernel_rfl)) | (apply yieldsIf_load_mid (by kernel_rfl) _ _ rfl _ _ rfl; (case hS => (intro W hC; exact (show World.rangeAt _ _ _ (Fi.vals _) from hC.2.1))); (case hu => exact Try.underlying23); (case hd => rfl); (case hi => kernel_rfl)) | (apply yieldsIf_load_mid (by kernel_rfl) _ _ rfl _ _ rfl; (case hS => (intro W hC; exact (show World.rangeAt _ _ _ (Fi.vals _) from hC.2.2.1))); (case hu => exact Try.underlying23); (case hd => rfl); (case hi => kernel_rfl)) | (apply yieldsIf_load_mid (by kernel_rfl) _ _ rfl _ _ rfl; (case hS => (intro W hC; exact (show World.rangeAt _ _ _ (Fi.vals _) from hC.2.2.2.1))); (case hu => exact Try.underlying23); (case hd => rfl); (case hi => kernel_rfl)) | (apply yieldsIf_load_mid (by kernel_rfl) _ _ rfl _ _ rfl; (case hS => (intro W hC; exact (show World.rangeAt _ _ _ (Fi.vals _) from hC.2.2.2))); (case hu => exact Try.underlying23); (case hd => rfl); (case hi => kernel_rfl)) | (apply yieldsIf_load_mid (by kernel_rfl) _ _ rfl _ _ rfl; (case hS => (intro W hC; exact (show World.rangeAt _ _ _ (Fi.vals _) from hC.2.2))); (case hu => exact Try.underlying23); (case hd => rfl); (case hi => kernel_rfl)) | (apply yieldsIf_load_mid (by kernel_rfl) _ _ rfl _ _ rfl; (case hS => (intro W hC; exact (show World.rangeAt _ _ _ (Fi.vals _) from hC.2))); (case hu => exact Try.underlying23); (case hd => rfl); (case hi => kernel_rfl)) | (apply yieldsIf_load_mid (by kernel_rfl) _ _ rfl _ _ rfl; (case hS => (intro W hC; exact (show World.rangeAt _ _ _ (Fi.vals _) from hC))); (case hu => exact Try.underlying23); (case hd => rfl); (case hi => kernel_rfl))
      case hC => exact HC
      case ha => (simp only [Act.put, List.setIfInBounds_toArray, List.set_cons_zero, List.set_cons_succ]; rfl)
      apply WZ.takeF (i := 14) (some 30) rfl rfl (by kernel_rfl) (by kernel_rfl) (by kernel_rfl) (calm_panic _) (by kernel_rfl)
      case hy => (refine .inl ⟨by kernel_rfl, fun W hC => ?_⟩; (try dsimp only at hC); go_simp; (try simp only [hw1,hw2]); rfl)
      case hC => exact HC
      case ha => (simp only [Act.put, List.setIfInBounds_toArray, List.set_cons_zero, List.set_cons_succ]; rfl)
      apply WZ.takeF (i := 15) (some 31) rfl rfl (by kernel_rfl) (by kernel_rfl) (by kernel_rfl) (calm_panic _) (by kernel_rfl)
      case hy => (refine .inl ⟨by kernel_rfl, fun W hC => ?_⟩; (try dsimp only at hC); go_simp; (try simp only [hw1,hw2]); rfl)
      case hC => exact HC
      case ha => (simp only [Act.put, List.setIfInBounds_toArray, List.set_cons_zero, List.set_cons_succ]; rfl)
      apply WZ.takeF (i := 16) (some 32) rfl rfl (by kernel_rfl) (by kernel_rfl) (by kernel_rfl) (calm_panic _) (by kernel_rfl)
      case hy => (refine .inl ⟨by kernel_rfl, fun W hC => ?_⟩; (try dsimp only at hC); go_simp; (try simp only [hw1,hw2]); rfl)
      case hC => exact HC
      case ha => (simp only [Act.put, List.setIfInBounds_toArray, List.set_cons_zero, List.set_cons_succ]; rfl)
      apply WZ.takeF (i := 17) (some 33) rfl rfl (by kernel_rfl) (by kernel_rfl) (by kernel_rfl) (calm_panic _) (by kernel_rfl)
      case hy => (refine .inl ⟨by kernel_rfl, fun W hC => ?_⟩; (try dsimp only at hC); go_simp; (try simp only [hw1,hw2]); rfl)
      case hC => exact HC
      case ha => (simp only [Act.put, List.setIfInBounds_toArray, List.set_cons_zero, List.set_cons_succ]; rfl)
      apply WZ.takeF (i := 18) (some 34) rfl rfl (by kernel_rfl) (by kernel_rfl) (by kernel_rfl) (calm_panic _) (by kernel_rfl)
      case hy => (refine .inl ⟨by kernel_rfl, fun W hC => ?_⟩; (try dsimp only at hC); go_simp; (try simp only [hw1,hw2]); rfl)
      case hC => exact HC
      case ha => (simp only [Act.put, List.setIfInBounds_toArray, List.set_cons_zero, List.set_cons_succ]; rfl)
      apply WZ.take (i := 19) (some 35) rfl rfl (by kernel_rfl) (by kernel_rfl) (by kernel_rfl) (calm_panic _) (by kernel_rfl)
      case hy => first | (apply yieldsIf_load_mid (by kernel_rfl) _ _ rfl _ _ rfl; (case hS => (intro W hC; exact (show World.rangeAt _ _ _ (Fi.vals _) from hC.1))); (case hu => exact Try.underlying23); (case hd => rfl); (case hi => kernel_rfl)) | (apply yieldsIf_load_mid (by kernel_rfl) _ _ rfl _ _ rfl; (case hS => (intro W hC; exact (show World.rangeAt _ _ _ (Fi.vals _) from hC.2.1))); (case hu => exact Try.underlying23); (case hd => rfl); (case hi => kernel_rfl)) | (apply yieldsIf_load_mid (by kernel_rfl) _ _ rfl _ _ rfl; (case hS => (intro W hC; exact (show World.rangeAt _ _ _ (Fi.vals _) from hC.2.2.1))); (case hu => exact Try.underlying23); (case hd => rfl); (case hi => kernel_rfl)) | (apply yieldsIf_load_mid (by kernel_rfl) _ _ rfl _ _ rfl; (case hS => (intro W hC; exact (show World.rangeAt _ _ _ (Fi.vals _) from hC.2.2.2.1))); (case hu => exact Try.underlying23); (case hd => rfl); (case hi => kernel_rfl)) | (apply yieldsIf_load_mid (by kernel_rfl) _ _ rfl _ _ rfl; (case hS => (intro W hC; exact (show World.rangeAt _ _ _ (Fi.vals _) from hC.2.2.2))); (case hu => exact Try.underlying23); (case hd => rfl); (case hi => kernel_rfl)) | (apply yieldsIf_load_mid (by kernel_rfl) _ _ rfl _ _ rfl; (case hS => (intro W hC; exact (show World.rangeAt _ _ _ (Fi.vals _) from hC.2.2))); (case hu => exact Try.underlying23); (case hd => rfl); (case hi => kernel_rfl)) | (apply yieldsIf_load_mid (by kernel_rfl) _ _ rfl _ _ rfl; (case hS => (intro W hC; exact (show World.rangeAt _ _ _ (Fi.vals _) from hC.2))); (case hu => exact Try.underlying23); (case hd => rfl); (case hi => kernel_rfl)) | (apply yieldsIf_load_mid (by kernel_rfl) _ _ rfl _ _ rfl; (case hS => (intro W hC; exact (show World.rangeAt _ _ _ (Fi.vals _) from hC))); (case hu => exact Try.underlying23); (case hd => rfl); (case hi => kernel_rfl))
      case hC => exact HC
      case ha => (simp only [Act.put, List.setIfInBounds_toArray, List.set_cons_zero, List.set_cons_succ]; rfl)
      apply WZ.take (i := 20) (some 36) rfl rfl (by kernel_rfl) (by kernel_rfl) (by kernel_rfl) (calm_panic _) (by kernel_rfl)
      case hy => (refine .inl ⟨by kernel_rfl, fun W hC => ?_⟩; (try dsimp only at hC); go_simp; (try simp only [hw1,hw2]); rfl)
      case hC => exact HC
      case ha => (simp only [Act.put, List.setIfInBounds_toArray, List.set_cons_zero, List.set_cons_succ]; rfl)
      -- 21
      refine WZ.last (i := 21) rfl (by kernel_rfl) (by kernel_rfl) ?_
      conv => arg 4; arg 1; whnf
      refine wpList_store_mid rfl 23 _ _ rfl g (ai * 5) _ rfl rfl (HA.out.drew.there_at hai) (by kernel_rfl) (all_oneCell_toArray (Fi.one _)) ?_
      have HA1 := HA.out.drew.set (Fi.vals_len) hai r
      -- 22
      refine WZ.last (i := 22) rfl (by kernel_rfl) (by kernel_rfl) ?_
      conv => arg 4; arg 1; whnf
      go_wp2
      -- 23
      refine WZ.last (i := 23) rfl (by kernel_rfl) (by kernel_rfl) ?_
      conv => arg 4; arg 1; whnf
      refine wpList_store_mid rfl 23 _ _ rfl g (bi * 5) _ rfl rfl (HA1.1.there_at hbi) (by kernel_rfl) (all_oneCell_toArray (Fi.one _)) ?_
      have HA2 := HA1.1.set (Fi.vals_len) hbi p
      refine WZ.done (by kernel_rfl) ?_ _
      simp only [Calm, Exit.then]
      go_wp2
      refine ⟨⟨k + 1, by omega, by go_num, ?_, ?_⟩, by simp [intOf]; omega⟩
      · rw [← HX3.out]; exact Lib.hid HA2.1
      · exact Lib.hid (grownBy_trans (grownBy_drew1 HG.out) (grownBy_trans HA1.2 HA2.2))
    · have i5 : decide ((k : Int) < (n : Int)) = false := decide_eq_false (by omega)
      have hkn : k = n := by omega
      have HK := Lib.hid hkn
      clear hkn
      go_wp2
      go_end0
      refine ⟨rfl, ?_, HG.out⟩
      rw [← HEND.out, ← HK.out]
      exact HA.out
theorem swapRange_at (g S cap N : Nat) (X P Q R W : List Fi) (n a b : Nat) (fv : Value) (w : World) (h : Arr Fi.vals 5 w g 23 S (X ++ P ++ Q ++ R ++ W)) (hP : P.length = n) (hR : R.length = n) (ha : X.length = a) (hb : a + n + Q.length = b) (hN : b + n + W.length = N) (hmax : N ≤ 1000000000) :
    Calls Try.prog 80 #[.slice (some ⟨g, 0, none⟩) N cap, .int .i64 a, .int .i64 b, .int .i64 n, fv] w fun e w' =>
      e = .returned (.tuple #[]) ∧ Arr Fi.vals 5 w' g 23 S (X ++ R ++ Q ++ P ++ W) ∧ w.grownBy w' (some g) := by
  subst ha hb
  exact swapRange_any g S cap N X P Q R W n fv w h hP hR hN hmax
end Go.Proofs.Ytaeemeoffnhgfaa

