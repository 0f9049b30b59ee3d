/-
  The walk of swapRange at items. The walk of rotate at items. What compacting a list leaves: each that is not alike the one ahead of it. And: a row of structs cut short, with what is behind it stored anew. Plain and of memory, no walk. No conditions.
-/
import Derived.Test.YtflppcgonbjnmaaJD
import Derived.Lib.SliceRun
namespace Go.Proofs.Ytflppcgonbjnmaa
open Go.RowKit
attribute [local go_sem ↓] Go.wp_at_zero Go.wp_at_succ

theorem swap2 {α : Type} (U V Z : List α) (p r : α) : ((U ++ p :: (V ++ r :: Z)).set U.length r).set (U.length + 1 + V.length) p = U ++ r :: (V ++ p :: Z) := by
  have e1 : (U ++ p :: (V ++ r :: Z)).set U.length r = U ++ r :: (V ++ r :: Z) := by
    rw [List.set_append_right _ _ (Nat.le_refl _), Nat.sub_self]
    rfl
  rw [e1, List.set_append_right _ _ (by omega), show U.length + 1 + V.length - U.length = V.length + 1 by omega, List.set_cons_succ, List.set_append_right _ _ (Nat.le_refl _), Nat.sub_self]
  rfl
/-- behind some exchanges -/
def swapTo {α : Type} (X P Q R W : List α) (i : Nat) : List α := X ++ R.take i ++ P.drop i ++ Q ++ P.take i ++ R.drop i ++ W
theorem swapTo_zero {α : Type} (X P Q R W : List α) : swapTo X P Q R W 0 = X ++ P ++ Q ++ R ++ W := by simp [swapTo]
theorem swapTo_end {α : Type} (X P Q R W : List α) {n : Nat} (hP : P.length = n) (hR : R.length = n) : swapTo X P Q R W n = X ++ R ++ Q ++ P ++ W := by
  unfold swapTo
  rw [List.take_of_length_le (by omega), List.drop_of_length_le (by omega), List.take_of_length_le (by omega), List.drop_of_length_le (by omega)]
  simp
theorem swapTo_length {α : Type} (X P Q R W : List α) {n : Nat} (hP : P.length = n) (hR : R.length = n) (i : Nat) (hi : i ≤ n) : (swapTo X P Q R W i).length = X.length + n + Q.length + n + W.length := by
  simp [swapTo, hP, hR]
  omega
theorem swapTo_step {α : Type} (X P Q R W : List α) {n i : Nat} (hP : P.length = n) (hR : R.length = n) (hi : i < n) :
    ∃ p r, P[i]? = some p ∧ R[i]? = some r ∧ (swapTo X P Q R W i)[X.length + i]? = some p ∧ (swapTo X P Q R W i)[X.length + n + Q.length + i]? = some r ∧
      ((swapTo X P Q R W i).set (X.length + i) r).set (X.length + n + Q.length + i) p = swapTo X P Q R W (i + 1) := by
  have e1 : P.drop i = P[i] :: P.drop (i + 1) := List.drop_eq_getElem_cons (by omega)
  have e2 : R.drop i = R[i] :: R.drop (i + 1) := List.drop_eq_getElem_cons (by omega)
  have e3 : P.take (i + 1) = P.take i ++ [P[i]] := List.take_succ_eq_append_getElem (by omega)
  have e4 : R.take (i + 1) = R.take i ++ [R[i]] := List.take_succ_eq_append_getElem (by omega)
  have f : swapTo X P Q R W i = (X ++ R.take i) ++ P[i] :: ((P.drop (i + 1) ++ Q ++ P.take i) ++ R[i] :: (R.drop (i + 1) ++ W)) := by
    unfold swapTo
    rw [e1, e2]
    simp only [List.append_assoc, List.cons_append]
  have f' : swapTo X P Q R W (i + 1) = (X ++ R.take i) ++ R[i] :: ((P.drop (i + 1) ++ Q ++ P.take i) ++ P[i] :: (R.drop (i + 1) ++ W)) := by
    unfold swapTo
    rw [e3, e4]
    simp only [List.append_assoc, List.cons_append, List.nil_append]
  have u1 : (X ++ R.take i).length = X.length + i := by simp; omega
  have u2 : (P.drop (i + 1) ++ Q ++ P.take i).length + 1 = n + Q.length := by simp; omega
  refine ⟨P[i], R[i], by simp, by simp, ?_, ?_, ?_⟩
  · rw [f, List.getElem?_append_right (by omega), u1, Nat.sub_self]
    rfl
  · rw [f, List.getElem?_append_right (by omega), u1, show X.length + n + Q.length + i - (X.length + i) = (P.drop (i + 1) ++ Q ++ P.take i).length + 1 by omega, List.getElem?_cons_succ, List.getElem?_append_right (Nat.le_refl _), Nat.sub_self]
    rfl
  · have := swap2 (X ++ R.take i) (P.drop (i + 1) ++ Q ++ P.take i) (R.drop (i + 1) ++ W) P[i] R[i]
    rw [f, f', ← this, u1]
    congr 1
    omega

theorem Arr.get {α : Type} {enc : α → List Value} {k : Nat} {w : World} {g : Nat} {e : TypeId} {S : Nat} {l : List α} (h : Arr enc k w g e S l) {i : Nat} {x : α} (hx : l[i]? = some x) : w.rangeAt g (i * k) (enc x) := by
  obtain ⟨hi, rfl⟩ := List.getElem?_eq_some_iff.1 hx
  exact h.at_ i hi

set_option maxHeartbeats 2000000 in
theorem swapRange_any (g S cap N : Nat) (X P Q R W : List It) (n : Nat) (fv : Value) (w : World) (h : Arr It.vals 7 w g 59 S (X ++ P ++ Q ++ R ++ W)) (hP : P.length = n) (hR : R.length = n) (hN : X.length + n + Q.length + n + W.length = N) (hmax : N ≤ 1000000000) :
    Calls Try.prog 69 #[.slice (some ⟨g, 0, none⟩) N cap, .int .i64 X.length, .int .i64 ((X.length + n + Q.length : Nat) : Int), .int .i64 n, fv] w fun e w' =>
      e = .returned (.tuple #[]) ∧ Arr It.vals 7 w' g 59 S (X ++ R ++ Q ++ P ++ W) ∧ w.grownBy w' (some g) := by
  have HZ := Lib.hid (show swapTo X P Q R W 0 = X ++ P ++ Q ++ R ++ W from swapTo_zero _ _ _ _ _)
  have HEND := Lib.hid (swapTo_end X P Q R W hP hR)
  have HSTEP := Lib.hid (fun i (hi : i < n) => swapTo_step X P Q R W hP hR hi)
  have HLEN := Lib.hid (fun i (hi : i ≤ n) => swapTo_length X P Q R W hP hR i hi)
  have H := Lib.hid h
  clear h hP hR
  obtain ⟨a, ha⟩ : ∃ a, X.length = a := ⟨_, rfl⟩
  obtain ⟨b, hb⟩ : ∃ b, X.length + n + Q.length = b := ⟨_, rfl⟩
  have HXA := Lib.hid ha
  have HXB := Lib.hid hb
  rw [hb, ha]
  have hbN : b + n ≤ N := by omega
  have haN : a + n ≤ b := by omega
  have HN := Lib.hid hN
  clear ha hb hN
  go_enter Try.func69, Try.ntmps69
  go_wp2
  go_loopw [10] (fun i wr => ∃ k : Nat, k ≤ n ∧ i = .int .i64 k ∧ Hid (Arr It.vals 7 wr g 59 S (swapTo X P Q R W k)) ∧ Hid (w.grownBy wr (some g))) (fun i _ => n - (intOf i).toNat)
  case atStart => exact ⟨0, Nat.zero_le _, rfl, by rw [HZ.out]; exact H, Lib.hid (grownBy_refl _ _)⟩
  case round =>
    obtain ⟨k, hk, rfl, HA, HG⟩ := hrel
    by_cases hlt : k < n
    · obtain ⟨p, r, _, _, x1, x2, x3⟩ := HSTEP.out k hlt
      have hl := HLEN.out k hk
      rw [HN.out] at hl
      rw [HXB.out] at x2 x3
      rw [HXA.out] at x1 x3
      obtain ⟨ai, hai0⟩ : ∃ ai, a + k = ai := ⟨_, rfl⟩
      obtain ⟨bi, hbi0⟩ : ∃ bi, b + k = bi := ⟨_, rfl⟩
      rw [hai0] at x1 x3
      rw [hbi0] at x2 x3
      have hw1 : IntKind.i64.wrap ((a : Int) + (k : Int)) = (ai : Int) := by rw [IntWalk.i64_in _ (by omega)]; omega
      have hw2 : IntKind.i64.wrap ((b : Int) + (k : Int)) = (bi : Int) := by rw [IntWalk.i64_in _ (by omega)]; omega
      have hai : ai < (swapTo X P Q R W k).length := by omega
      have hbi : bi < ((swapTo X P Q R W k).set ai r).length := by rw [List.length_set]; omega
      have i1 : (0 : Int) ≤ (ai : Int) := by omega
      have i2 : (ai : Int) < (N : Int) := by omega
      have i3 : (0 : Int) ≤ (bi : Int) := by omega
      have i4 : (bi : Int) < (N : Int) := by omega
      have i5 : decide ((k : Int) < (n : Int)) = true := decide_eq_true (by omega)
      have HC : wr.drew.rangeAt g (ai * 7) (It.vals p) ∧ wr.drew.rangeAt g (bi * 7) (It.vals r) := ⟨HA.out.drew.get x1, HA.out.drew.get x2⟩
      have HX3 := Lib.hid x3
      have HL := Lib.hid (And.intro hai hbi)
      clear x1 x2 x3 hai hbi hl hai0 hbi0
      obtain ⟨hai, hbi⟩ := HL.out
      go_wp2
      refine region_wz (fun W' => W'.rangeAt g (ai * 7) (It.vals p) ∧ W'.rangeAt g (bi * 7) (It.vals r)) (some 21) (by kernel_rfl) ?_
      apply WZ.take (i := 0) (some 16) rfl rfl (by kernel_rfl) (by kernel_rfl) (by kernel_rfl) (calm_panic _) (by kernel_rfl)
      case hy => (refine .inl ⟨by kernel_rfl, fun W hC => ?_⟩; (try dsimp only at hC); go_simp; (try simp only [hw1,hw2]); rfl)
      case hC => exact HC
      case ha => (simp only [Act.put, List.setIfInBounds_toArray, List.set_cons_zero, List.set_cons_succ]; rfl)
      apply WZ.take (i := 1) (some 17) rfl rfl (by kernel_rfl) (by kernel_rfl) (by kernel_rfl) (calm_panic _) (by kernel_rfl)
      case hy => (refine .inl ⟨by kernel_rfl, fun W hC => ?_⟩; (try dsimp only at hC); go_simp; (try simp only [hw1,hw2]); rfl)
      case hC => exact HC
      case ha => (simp only [Act.put, List.setIfInBounds_toArray, List.set_cons_zero, List.set_cons_succ]; rfl)
      apply WZ.take (i := 2) (some 18) rfl rfl (by kernel_rfl) (by kernel_rfl) (by kernel_rfl) (calm_panic _) (by kernel_rfl)
      case hy => (refine .inl ⟨by kernel_rfl, fun W hC => ?_⟩; (try dsimp only at hC); go_simp; (try simp only [hw1,hw2]); rfl)
      case hC => exact HC
      case ha => (simp only [Act.put, List.setIfInBounds_toArray, List.set_cons_zero, List.set_cons_succ]; rfl)
      apply WZ.take (i := 3) (some 19) rfl rfl (by kernel_rfl) (by kernel_rfl) (by kernel_rfl) (calm_panic _) (by kernel_rfl)
      case hy => (refine .inl ⟨by kernel_rfl, fun W hC => ?_⟩; (try dsimp only at hC); go_simp; (try simp only [hw1,hw2]); rfl)
      case hC => exact HC
      case ha => (simp only [Act.put, List.setIfInBounds_toArray, List.set_cons_zero, List.set_cons_succ]; rfl)
      apply WZ.takeF (i := 4) (some 20) rfl rfl (by kernel_rfl) (by kernel_rfl) (by kernel_rfl) (calm_panic _) (by kernel_rfl)
      case hy => (refine .inl ⟨by kernel_rfl, fun W hC => ?_⟩; (try dsimp only at hC); go_simp; (try simp only [hw1,hw2]); rfl)
      case hC => exact HC
      case ha => (simp only [Act.put, List.setIfInBounds_toArray, List.set_cons_zero, List.set_cons_succ]; rfl)
      apply WZ.takeF (i := 5) (some 21) rfl rfl (by kernel_rfl) (by kernel_rfl) (by kernel_rfl) (calm_panic _) (by kernel_rfl)
      case hy => (refine .inl ⟨by kernel_rfl, fun W hC => ?_⟩; (try dsimp only at hC); go_simp; (try simp only [hw1,hw2]); rfl)
      case hC => exact HC
      case ha => (simp only [Act.put, List.setIfInBounds_toArray, List.set_cons_zero, List.set_cons_succ]; rfl)
      apply WZ.takeF (i := 6) (some 22) rfl rfl (by kernel_rfl) (by kernel_rfl) (by kernel_rfl) (calm_panic _) (by kernel_rfl)
      case hy => (refine .inl ⟨by kernel_rfl, fun W hC => ?_⟩; (try dsimp only at hC); go_simp; (try simp only [hw1,hw2]); rfl)
      case hC => exact HC
      case ha => (simp only [Act.put, List.setIfInBounds_toArray, List.set_cons_zero, List.set_cons_succ]; rfl)
      apply WZ.takeF (i := 7) (some 23) rfl rfl (by kernel_rfl) (by kernel_rfl) (by kernel_rfl) (calm_panic _) (by kernel_rfl)
      case hy => (refine .inl ⟨by kernel_rfl, fun W hC => ?_⟩; (try dsimp only at hC); go_simp; (try simp only [hw1,hw2]); rfl)
      case hC => exact HC
      case ha => (simp only [Act.put, List.setIfInBounds_toArray, List.set_cons_zero, List.set_cons_succ]; rfl)
      apply WZ.take (i := 8) (some 24) rfl rfl (by kernel_rfl) (by kernel_rfl) (by kernel_rfl) (calm_panic _) (by kernel_rfl)
      case hy => (refine .inl ⟨by kernel_rfl, fun W hC => ?_⟩; (try dsimp only at hC); go_simp; (try simp only [hw1,hw2]); rfl)
      case hC => exact HC
      case ha => (simp only [Act.put, List.setIfInBounds_toArray, List.set_cons_zero, List.set_cons_succ]; rfl)
      apply WZ.take (i := 9) (some 25) rfl rfl (by kernel_rfl) (by kernel_rfl) (by kernel_rfl) (calm_panic _) (by kernel_rfl)
      case hy => (refine .inl ⟨by kernel_rfl, fun W hC => ?_⟩; (try dsimp only at hC); go_simp; (try simp only [hw1,hw2]); rfl)
      case hC => exact HC
      case ha => (simp only [Act.put, List.setIfInBounds_toArray, List.set_cons_zero, List.set_cons_succ]; rfl)
      apply WZ.take (i := 10) (some 26) rfl rfl (by kernel_rfl) (by kernel_rfl) (by kernel_rfl) (calm_panic _) (by kernel_rfl)
      case hy => (refine .inl ⟨by kernel_rfl, fun W hC => ?_⟩; (try dsimp only at hC); go_simp; (try simp only [hw1,hw2]); rfl)
      case hC => exact HC
      case ha => (simp only [Act.put, List.setIfInBounds_toArray, List.set_cons_zero, List.set_cons_succ]; rfl)
      apply WZ.take (i := 11) (some 27) rfl rfl (by kernel_rfl) (by kernel_rfl) (by kernel_rfl) (calm_panic _) (by kernel_rfl)
      case hy => (refine .inl ⟨by kernel_rfl, fun W hC => ?_⟩; (try dsimp only at hC); go_simp; (try simp only [hw1,hw2]); rfl)
      case hC => exact HC
      case ha => (simp only [Act.put, List.setIfInBounds_toArray, List.set_cons_zero, List.set_cons_succ]; rfl)
      apply WZ.take (i := 12) (some 28) rfl rfl (by kernel_rfl) (by kernel_rfl) (by kernel_rfl) (calm_panic _) (by kernel_rfl)
      case hy => (refine .inl ⟨by kernel_rfl, fun W hC => ?_⟩; (try dsimp only at hC); go_simp; (try simp only [hw1,hw2]); rfl)
      case hC => exact HC
      case ha => (simp only [Act.put, List.setIfInBounds_toArray, List.set_cons_zero, List.set_cons_succ]; rfl)
      apply WZ.take (i := 13) (some 29) rfl rfl (by kernel_rfl) (by kernel_rfl) (by kernel_rfl) (calm_panic _) (by kernel_rfl)
      case hy => first | (apply yieldsIf_load_mid (by kernel_rfl) _ _ rfl _ _ rfl; (case hS => (intro W hC; exact (show World.rangeAt _ _ _ (It.vals _) from hC.1))); (case hu => exact Try.underlying59); (case hd => rfl); (case hi => kernel_rfl)) | (apply yieldsIf_load_mid (by kernel_rfl) _ _ rfl _ _ rfl; (case hS => (intro W hC; exact (show World.rangeAt _ _ _ (It.vals _) from hC.2.1))); (case hu => exact Try.underlying59); (case hd => rfl); (case hi => kernel_rfl)) | (apply yieldsIf_load_mid (by kernel_rfl) _ _ rfl _ _ rfl; (case hS => (intro W hC; exact (show World.rangeAt _ _ _ (It.vals _) from hC.2.2.1))); (case hu => exact Try.underlying59); (case hd => rfl); (case hi => kernel_rfl)) | (apply yieldsIf_load_mid (by kernel_rfl) _ _ rfl _ _ rfl; (case hS => (intro W hC; exact (show World.rangeAt _ _ _ (It.vals _) from hC.2.2.2.1))); (case hu => exact Try.underlying59); (case hd => rfl); (case hi => kernel_rfl)) | (apply yieldsIf_load_mid (by kernel_rfl) _ _ rfl _ _ rfl; (case hS => (intro W hC; exact (show World.rangeAt _ _ _ (It.vals _) from hC.2.2.2))); (case hu => exact Try.underlying59); (case hd => rfl); (case hi => kernel_rfl)) | (apply yieldsIf_load_mid (by kernel_rfl) _ _ rfl _ _ rfl; (case hS => (intro W hC; exact (show World.rangeAt _ _ _ (It.vals _) from hC.2.2))); (case hu => exact Try.underlying59); (case hd => rfl); (case hi => kernel_rfl)) | (apply yieldsIf_load_mid (by kernel_rfl) _ _ rfl _ _ rfl; (case hS => (intro W hC; exact (show World.rangeAt _ _ _ (It.vals _) from hC.2))); (case hu => exact Try.underlying59); (case hd => rfl); (case hi => kernel_rfl)) | (apply yieldsIf_load_mid (by kernel_rfl) _ _ rfl _ _ rfl; (case hS => (intro W hC; exact (show World.rangeAt _ _ _ (It.vals _) from hC))); (case hu => exact Try.underlying59); (case hd => rfl); (case hi => kernel_rfl))
      case hC => exact HC
      case ha => (simp only [Act.put, List.setIfInBounds_toArray, List.set_cons_zero, List.set_cons_succ]; rfl)
      apply WZ.takeF (i := 14) (some 30) rfl rfl (by kernel_rfl) (by kernel_rfl) (by kernel_rfl) (calm_panic _) (by kernel_rfl)
      case hy => (refine .inl ⟨by kernel_rfl, fun W hC => ?_⟩; (try dsimp only at hC); go_simp; (try simp only [hw1,hw2]); rfl)
      case hC => exact HC
      case ha => (simp only [Act.put, List.setIfInBounds_toArray, List.set_cons_zero, List.set_cons_succ]; rfl)
      apply WZ.takeF (i := 15) (some 31) rfl rfl (by kernel_rfl) (by kernel_rfl) (by kernel_rfl) (calm_panic _) (by kernel_rfl)
      case hy => (refine .inl ⟨by kernel_rfl, fun W hC => ?_⟩; (try dsimp only at hC); go_simp; (try simp only [hw1,hw2]); rfl)
      case hC => exact HC
      case ha => (simp only [Act.put, List.setIfInBounds_toArray, List.set_cons_zero, List.set_cons_succ]; rfl)
      apply WZ.takeF (i := 16) (some 32) rfl rfl (by kernel_rfl) (by kernel_rfl) (by kernel_rfl) (calm_panic _) (by kernel_rfl)
      case hy => (refine .inl ⟨by kernel_rfl, fun W hC => ?_⟩; (try dsimp only at hC); go_simp; (try simp only [hw1,hw2]); rfl)
      case hC => exact HC
      case ha => (simp only [Act.put, List.setIfInBounds_toArray, List.set_cons_zero, List.set_cons_succ]; rfl)
      apply WZ.takeF (i := 17) (some 33) rfl rfl (by kernel_rfl) (by kernel_rfl) (by kernel_rfl) (calm_panic _) (by kernel_rfl)
      case hy => (refine .inl ⟨by kernel_rfl, fun W hC => ?_⟩; (try dsimp only at hC); go_simp; (try simp only [hw1,hw2]); rfl)
      case hC => exact HC
      case ha => (simp only [Act.put, List.setIfInBounds_toArray, List.set_cons_zero, List.set_cons_succ]; rfl)
      apply WZ.takeF (i := 18) (some 34) rfl rfl (by kernel_rfl) (by kernel_rfl) (by kernel_rfl) (calm_panic _) (by kernel_rfl)
      case hy => (refine .inl ⟨by kernel_rfl, fun W hC => ?_⟩; (try dsimp only at hC); go_simp; (try simp only [hw1,hw2]); rfl)
      case hC => exact HC
      case ha => (simp only [Act.put, List.setIfInBounds_toArray, List.set_cons_zero, List.set_cons_succ]; rfl)
      apply WZ.take (i := 19) (some 35) rfl rfl (by kernel_rfl) (by kernel_rfl) (by kernel_rfl) (calm_panic _) (by kernel_rfl)
      case hy => first | (apply yieldsIf_load_mid (by kernel_rfl) _ _ rfl _ _ rfl; (case hS => (intro W hC; exact (show World.rangeAt _ _ _ (It.vals _) from hC.1))); (case hu => exact Try.underlying59); (case hd => rfl); (case hi => kernel_rfl)) | (apply yieldsIf_load_mid (by kernel_rfl) _ _ rfl _ _ rfl; (case hS => (intro W hC; exact (show World.rangeAt _ _ _ (It.vals _) from hC.2.1))); (case hu => exact Try.underlying59); (case hd => rfl); (case hi => kernel_rfl)) | (apply yieldsIf_load_mid (by kernel_rfl) _ _ rfl _ _ rfl; (case hS => (intro W hC; exact (show World.rangeAt _ _ _ (It.vals _) from hC.2.2.1))); (case hu => exact Try.underlying59); (case hd => rfl); (case hi => kernel_rfl)) | (apply yieldsIf_load_mid (by kernel_rfl) _ _ rfl _ _ rfl; (case hS => (intro W hC; exact (show World.rangeAt _ _ _ (It.vals _) from hC.2.2.2.1))); (case hu => exact Try.underlying59); (case hd => rfl); (case hi => kernel_rfl)) | (apply yieldsIf_load_mid (by kernel_rfl) _ _ rfl _ _ rfl; (case hS => (intro W hC; exact (show World.rangeAt _ _ _ (It.vals _) from hC.2.2.2))); (case hu => exact Try.underlying59); (case hd => rfl); (case hi => kernel_rfl)) | (apply yieldsIf_load_mid (by kernel_rfl) _ _ rfl _ _ rfl; (case hS => (intro W hC; exact (show World.rangeAt _ _ _ (It.vals _) from hC.2.2))); (case hu => exact Try.underlying59); (case hd => rfl); (case hi => kernel_rfl)) | (apply yieldsIf_load_mid (by kernel_rfl) _ _ rfl _ _ rfl; (case hS => (intro W hC; exact (show World.rangeAt _ _ _ (It.vals _) from hC.2))); (case hu => exact Try.underlying59); (case hd => rfl); (case hi => kernel_rfl)) | (apply yieldsIf_load_mid (by kernel_rfl) _ _ rfl _ _ rfl; (case hS => (intro W hC; exact (show World.rangeAt _ _ _ (It.vals _) from hC))); (case hu => exact Try.underlying59); (case hd => rfl); (case hi => kernel_rfl))
      case hC => exact HC
      case ha => (simp only [Act.put, List.setIfInBounds_toArray, List.set_cons_zero, List.set_cons_succ]; rfl)
      apply WZ.take (i := 20) (some 36) rfl rfl (by kernel_rfl) (by kernel_rfl) (by kernel_rfl) (calm_panic _) (by kernel_rfl)
      case hy => (refine .inl ⟨by kernel_rfl, fun W hC => ?_⟩; (try dsimp only at hC); go_simp; (try simp only [hw1,hw2]); rfl)
      case hC => exact HC
      case ha => (simp only [Act.put, List.setIfInBounds_toArray, List.set_cons_zero, List.set_cons_succ]; rfl)
      -- 21
      refine WZ.last (i := 21) rfl (by kernel_rfl) (by kernel_rfl) ?_
      conv => arg 4; arg 1; whnf
      refine wpList_store_mid rfl 59 _ _ rfl g (ai * 7) _ rfl rfl (HA.out.drew.there_at hai) (by kernel_rfl) (all_oneCell_toArray (It.one _)) ?_
      have HA1 := HA.out.drew.set (It.vals_len) hai r
      -- 22
      refine WZ.last (i := 22) rfl (by kernel_rfl) (by kernel_rfl) ?_
      conv => arg 4; arg 1; whnf
      go_wp2
      -- 23
      refine WZ.last (i := 23) rfl (by kernel_rfl) (by kernel_rfl) ?_
      conv => arg 4; arg 1; whnf
      refine wpList_store_mid rfl 59 _ _ rfl g (bi * 7) _ rfl rfl (HA1.1.there_at hbi) (by kernel_rfl) (all_oneCell_toArray (It.one _)) ?_
      have HA2 := HA1.1.set (It.vals_len) hbi p
      refine WZ.done (by kernel_rfl) ?_ _
      simp only [Calm, Exit.then]
      go_wp2
      refine ⟨⟨k + 1, by omega, by go_num, ?_, ?_⟩, by simp [intOf]; omega⟩
      · rw [← HX3.out]; exact Lib.hid HA2.1
      · exact Lib.hid (grownBy_trans (grownBy_drew1 HG.out) (grownBy_trans HA1.2 HA2.2))
    · have i5 : decide ((k : Int) < (n : Int)) = false := decide_eq_false (by omega)
      have hkn : k = n := by omega
      have HK := Lib.hid hkn
      clear hkn
      go_wp2
      go_end0
      refine ⟨rfl, ?_, HG.out⟩
      rw [← HEND.out, ← HK.out]
      exact HA.out
theorem swapRange_at (g S cap N : Nat) (X P Q R W : List It) (n a b : Nat) (fv : Value) (w : World) (h : Arr It.vals 7 w g 59 S (X ++ P ++ Q ++ R ++ W)) (hP : P.length = n) (hR : R.length = n) (ha : X.length = a) (hb : a + n + Q.length = b) (hN : b + n + W.length = N) (hmax : N ≤ 1000000000) :
    Calls Try.prog 69 #[.slice (some ⟨g, 0, none⟩) N cap, .int .i64 a, .int .i64 b, .int .i64 n, fv] w fun e w' =>
      e = .returned (.tuple #[]) ∧ Arr It.vals 7 w' g 59 S (X ++ R ++ Q ++ P ++ W) ∧ w.grownBy w' (some g) := by
  subst ha hb
  exact swapRange_any g S cap N X P Q R W n fv w h hP hR hN hmax
end Go.Proofs.Ytflppcgonbjnmaa
namespace Go.Proofs.Ytflppcgonbjnmaa
open Go.RowKit
attribute [local go_sem ↓] Go.wp_at_zero Go.wp_at_succ

/-- between two rounds: what is left to be turned, i and j long -/
def Rot {α : Type} (_X Y Z _W A B C D : List α) (i j : Nat) : Prop := B.length = i ∧ C.length = j ∧ 0 < i ∧ 0 < j ∧ A ++ C ++ B ++ D = Z ++ Y ∧ A.length + B.length = Y.length ∧ A.length + B.length + C.length + D.length = Y.length + Z.length
theorem Rot.start {α : Type} (X Y Z W : List α) (hy : 0 < Y.length) (hz : 0 < Z.length) : Rot X Y Z W [] Y Z [] Y.length Z.length := ⟨rfl, rfl, hy, hz, by simp, by simp, by simp⟩
theorem Rot.left {α : Type} {X Y Z W A B C D : List α} {i j : Nat} (h : Rot X Y Z W A B C D i j) (hij : j < i) :
    ∃ P Q, B = P ++ Q ∧ P.length = j ∧ Q.length = i - j ∧ Rot X Y Z W (A ++ C) Q P D (i - j) j := by
  obtain ⟨h1, h2, h3, h4, h5, h6, h7⟩ := h
  refine ⟨B.take j, B.drop j, (List.take_append_drop _ _).symm, by simp; omega, by simp; omega, by simp; omega, by simp; omega, by omega, h4, ?_, ?_, ?_⟩
  · rw [← h5]
    simp only [List.append_assoc]
    rw [← List.append_assoc (B.take j), List.take_append_drop]
  · simp; omega
  · simp; omega
theorem Rot.right {α : Type} {X Y Z W A B C D : List α} {i j : Nat} (h : Rot X Y Z W A B C D i j) (hij : i < j) :
    ∃ Q R, C = Q ++ R ∧ Q.length = j - i ∧ R.length = i ∧ Rot X Y Z W A R Q (B ++ D) i (j - i) := by
  obtain ⟨h1, h2, h3, h4, h5, h6, h7⟩ := h
  refine ⟨C.take (j - i), C.drop (j - i), (List.take_append_drop _ _).symm, by simp; omega, by simp; omega, by simp; omega, by simp; omega, h3, by omega, ?_, ?_, ?_⟩
  · rw [← h5]
    simp only [List.append_assoc]
    rw [← List.append_assoc (C.take (j - i)), List.take_append_drop]
  · simp; omega
  · simp; omega

set_option maxHeartbeats 2000000 in
theorem rotate_any (g S cap N : Nat) (X Y Z W : List It) (a m b : Nat) (fv : Value) (w : World) (h : Arr It.vals 7 w g 59 S (X ++ Y ++ Z ++ W)) (ha : X.length = a) (hm : a + Y.length = m) (hb : m + Z.length = b) (hN : b + W.length = N) (hmax : N ≤ 1000000000)
    (hy : 0 < Y.length) (hz : 0 < Z.length) :
    Calls Try.prog 66 #[.slice (some ⟨g, 0, none⟩) N cap, .int .i64 a, .int .i64 m, .int .i64 b, fv] w fun e w' =>
      e = .returned (.tuple #[]) ∧ Arr It.vals 7 w' g 59 S (X ++ Z ++ Y ++ W) ∧ w.grownBy w' (some g) := by
  have HR0 := Lib.hid (Rot.start X Y Z W hy hz)
  have H := Lib.hid h
  clear h
  obtain ⟨y, hy0⟩ : ∃ y, Y.length = y := ⟨_, rfl⟩
  obtain ⟨z, hz0⟩ : ∃ z, Z.length = z := ⟨_, rfl⟩
  rw [hy0] at hm HR0 hy
  rw [hz0] at hb HR0 hz
  have hw1 : IntKind.i64.wrap ((m : Int) - (a : Int)) = (y : Int) := by rw [IntWalk.i64_in _ (by omega)]; omega
  have hw2 : IntKind.i64.wrap ((b : Int) - (m : Int)) = (z : Int) := by rw [IntWalk.i64_in _ (by omega)]; omega
  have HF := Lib.hid (And.intro ha (And.intro hm (And.intro hb (And.intro hN (And.intro hy0 hz0)))))
  clear ha hm hb hN hy0 hz0
  go_enter Try.func66, Try.ntmps66
  go_wp2
  go_loopw [10, 11] (fun vi vj wr => ∃ (i j : Nat) (A B C D : List It), vi = .int .i64 i ∧ vj = .int .i64 j ∧ Hid (Rot X Y Z W A B C D i j) ∧ Hid (Arr It.vals 7 wr g 59 S (X ++ A ++ B ++ C ++ D ++ W)) ∧ Hid (w.grownBy wr (some g))) (fun vi vj _ => (intOf vi).toNat + (intOf vj).toNat)
  case atStart => exact ⟨y, z, [], Y, Z, [], rfl, rfl, HR0, by simpa using H, Lib.hid (grownBy_refl _ _)⟩
  case round =>
    obtain ⟨i, j, A, B, C, D, rfl, rfl, HR, HA, HG⟩ := hrel
    obtain ⟨r1, r2, r3, r4, r5, r6, r7⟩ := HR.out
    obtain ⟨f1, f2, f3, f4, f5, f6⟩ := HF.out
    obtain ⟨s, hs⟩ : ∃ s, (X ++ A).length = s := ⟨_, rfl⟩
    have hsm : s + i = m := by rw [← hs, List.length_append]; omega
    have hw3 : IntKind.i64.wrap ((m : Int) - (i : Int)) = (s : Int) := by rw [IntWalk.i64_in _ (by omega)]; omega
    have hbN : m + j + D.length + W.length = N := by omega
    rcases Nat.lt_trichotomy i j with hij | hij | hij
    · obtain ⟨Q, R, q1, q2, q3, q4⟩ := HR.out.right hij
      obtain ⟨t, ht⟩ : ∃ t, m + (j - i) = t := ⟨_, rfl⟩
      obtain ⟨mj, hmj⟩ : ∃ mj, m + j = mj := ⟨_, rfl⟩
      have hw6 : IntKind.i64.wrap ((m : Int) + (j : Int)) = (mj : Int) := by rw [IntWalk.i64_in _ (by omega)]; omega
      have hw4 : IntKind.i64.wrap ((mj : Int) - (i : Int)) = (t : Int) := by rw [IntWalk.i64_in _ (by omega)]; omega
      have hw5 : IntKind.i64.wrap ((j : Int) - (i : Int)) = ((j - i : Nat) : Int) := by rw [IntWalk.i64_in _ (by omega)]; omega
      have hsw := fun (W0 : World) (h0 : Arr It.vals 7 W0 g 59 S ((X ++ A) ++ B ++ Q ++ R ++ (D ++ W))) => swapRange_at g S cap N (X ++ A) B Q R (D ++ W) i s t fv W0 h0 r1 q3 hs (by omega) (by rw [List.length_append]; omega) hmax
      have e1 : ((i : Int) != (j : Int)) = true := by simp; omega
      have e2 : decide ((j : Int) < (i : Int)) = false := decide_eq_false (by omega)
      have e4 : ¬ j < i := by omega
      have e5 : decide (j < i) = false := decide_eq_false e4
      have e3 : ¬ i = j := by omega
      have HA' : Hid (Arr It.vals 7 wr g 59 S ((X ++ A) ++ B ++ Q ++ R ++ (D ++ W))) := by have := HA.out; rw [q1] at this; exact Lib.hid (by simpa only [List.append_assoc] using this)
      have HQ4 := Lib.hid q4
      have hji : ((j - i : Nat) : Int) = (j : Int) - (i : Int) := by omega
      have HJI := Lib.hid hji
      have hlt := Lib.hid hij
      clear r1 r2 r5 r6 r7 f1 f2 f3 f4 f5 f6 hs hsm q1 q2 q3 q4 ht hji hbN hij HA hmj
      go_wp2_with (first
        | (go_at_call 69; refine (hsw _ HA'.out).mono ?_; rintro e w1 ⟨rfl, hA1, hG1⟩))
      refine ⟨⟨i, j - i, A, R, Q, B ++ D, rfl, by go_num, HQ4, Lib.hid (by simpa only [List.append_assoc] using hA1), Lib.hid (grownBy_trans HG.out hG1)⟩, ?_⟩
      have := hlt.out
      simp [intOf]; omega
    · subst hij
      have hsw := fun (W0 : World) (h0 : Arr It.vals 7 W0 g 59 S ((X ++ A) ++ B ++ [] ++ C ++ (D ++ W))) => swapRange_at g S cap N (X ++ A) B [] C (D ++ W) i s m fv W0 h0 r1 r2 hs (by simp; omega) (by rw [List.length_append]; omega) hmax
      have HA' : Hid (Arr It.vals 7 wr g 59 S ((X ++ A) ++ B ++ [] ++ C ++ (D ++ W))) := Lib.hid (by simpa only [List.append_assoc, List.nil_append] using HA.out)
      have HR5 := Lib.hid r5
      clear r1 r2 r5 r6 r7 f1 f2 f3 f4 f5 f6 hs hsm hbN HA
      go_wp2_with (first
        | (go_at_call 69; refine (hsw _ HA'.out).mono ?_; rintro e w1 ⟨rfl, hA1, hG1⟩))
      go_end0
      refine ⟨rfl, ?_, grownBy_trans HG.out hG1⟩
      have := HR5.out
      have e : X ++ A ++ C ++ [] ++ B ++ (D ++ W) = X ++ Z ++ Y ++ W := by
        have : X ++ (A ++ C ++ B ++ D) ++ W = X ++ (Z ++ Y) ++ W := by rw [this]
        simpa only [List.append_assoc, List.nil_append] using this
      rwa [e] at hA1
    · obtain ⟨P, Q, q1, q2, q3, q4⟩ := HR.out.left hij
      have hw5 : IntKind.i64.wrap ((i : Int) - (j : Int)) = ((i - j : Nat) : Int) := by rw [IntWalk.i64_in _ (by omega)]; omega
      have hsw := fun (W0 : World) (h0 : Arr It.vals 7 W0 g 59 S ((X ++ A) ++ P ++ Q ++ C ++ (D ++ W))) => swapRange_at g S cap N (X ++ A) P Q C (D ++ W) j s m fv W0 h0 q2 r2 hs (by omega) (by rw [List.length_append]; omega) hmax
      have e1 : ((i : Int) != (j : Int)) = true := by simp; omega
      have e2 : decide ((j : Int) < (i : Int)) = true := decide_eq_true (by omega)
      have e4 : j < i := by omega
      have e5 : decide (j < i) = true := decide_eq_true e4
      have e3 : ¬ i = j := by omega
      have HA' : Hid (Arr It.vals 7 wr g 59 S ((X ++ A) ++ P ++ Q ++ C ++ (D ++ W))) := by have := HA.out; rw [q1] at this; exact Lib.hid (by simpa only [List.append_assoc] using this)
      have HQ4 := Lib.hid q4
      have hlt := Lib.hid hij
      clear r1 r2 r5 r6 r7 f1 f2 f3 f4 f5 f6 hs hsm q1 q2 q3 q4 hbN hij HA
      go_wp2_with (first
        | (go_at_call 69; refine (hsw _ HA'.out).mono ?_; rintro e w1 ⟨rfl, hA1, hG1⟩))
      refine ⟨⟨i - j, j, A ++ C, Q, P, D, by go_num, rfl, HQ4, Lib.hid (by simpa only [List.append_assoc] using hA1), Lib.hid (grownBy_trans HG.out hG1)⟩, ?_⟩
      have := hlt.out
      simp [intOf]; omega
end Go.Proofs.Ytflppcgonbjnmaa
namespace Go.Proofs.Ytflppcgonbjnmaa
open Go.RowKit

section
variable {α : Type} (eq : α → α → Bool)
def compactGo : α → List α → List α
  | _, [] => []
  | p, y :: r => if eq y p then compactGo y r else y :: compactGo y r
def compactF : List α → List α
  | [] => []
  | x :: l => x :: compactGo eq x l
theorem compactGo_snoc : ∀ (r : List α) (p y z : α), (p :: r).getLast? = some z → compactGo eq p (r ++ [y]) = compactGo eq p r ++ (if eq y z then [] else [y])
  | [], p, y, z, h => by
    simp at h
    subst h
    simp [compactGo]
  | x :: r, p, y, z, h => by
    have ih := compactGo_snoc r x y z (by rw [← h]; simp [List.getLast?_cons_cons])
    simp only [List.cons_append, compactGo, ih]
    split <;> simp
theorem compactF_snoc (l : List α) (y z : α) (h : l.getLast? = some z) : compactF eq (l ++ [y]) = compactF eq l ++ (if eq y z then [] else [y]) := by
  cases l with
  | nil => simp at h
  | cons x l => simp only [List.cons_append, compactF, compactGo_snoc eq l x y z h]
theorem take_last {l : List α} {k : Nat} (h0 : 0 < k) (hk : k ≤ l.length) : (l.take k).getLast? = l[k - 1]? := by
  rw [List.getLast?_eq_getElem?, List.length_take, Nat.min_eq_left hk, List.getElem?_take_of_lt (by omega)]
theorem compactF_take {l : List α} {k : Nat} {y z : α} (h0 : 0 < k) (hy : l[k]? = some y) (hz : l[k - 1]? = some z) : compactF eq (l.take (k + 1)) = compactF eq (l.take k) ++ (if eq y z then [] else [y]) := by
  obtain ⟨hk, rfl⟩ := List.getElem?_eq_some_iff.1 hy
  rw [List.take_succ_eq_append_getElem hk]
  exact compactF_snoc eq _ _ z (by rw [take_last h0 (by omega)]; exact hz)
theorem compactF_length : ∀ l : List α, (compactF eq l).length ≤ l.length
  | [] => Nat.le_refl _
  | x :: l => by
    have key : ∀ (l : List α) (p : α), (compactGo eq p l).length ≤ l.length := by
      intro l
      induction l with
      | nil => intro p; exact Nat.le_refl _
      | cons y r ih =>
        intro p
        have := ih y
        unfold compactGo
        split <;> simp <;> omega
    have := key l x
    simp [compactF]; omega
theorem compactF_one (x : α) : compactF eq [x] = [x] := rfl
theorem compactF_short {l : List α} (h : l.length < 2) : compactF eq l = l := by
  match l, h with
  | [], _ => rfl
  | [x], _ => rfl
end

section
variable {α : Type} {enc : α → List Value} {k : Nat} {w w' : World} {g : Nat} {e : TypeId} {S : Nat} {l : List α}
theorem Arr.take (h : Arr enc k w g e S l) (n : Nat) : Arr enc k w g e S (l.take n) :=
  ⟨h.cur, Nat.le_trans (Nat.mul_le_mul_right k (show (l.take n).length ≤ l.length by rw [List.length_take]; omega)) h.len, fun i hi => by
    rw [List.length_take] at hi
    rw [List.getElem_take]
    exact h.at_ i (by omega)⟩
theorem Arr.above (h : Arr enc k w g e S l) (hk : ∀ x, (enc x).length = k) {o : Nat} (ho : l.length * k ≤ o) (vs : List Value) : Arr enc k (w.setCells g o vs) g e S l ∧ w.grownBy (w.setCells g o vs) (some g) := by
  obtain ⟨cur, hc, hs⟩ := h.cur
  obtain ⟨⟨cur', h1, h2⟩, h3⟩ := setCells_block g e vs o w cur hc
  refine ⟨⟨⟨cur', h1, h2.trans hs⟩, h.len, fun j hj => ?_⟩, h3⟩
  refine World.rangeAt_setCells_apart (h.at_ j hj) g _ _ (.inr (.inl ?_))
  rw [hk]
  exact Nat.le_trans (mul_le_of hj) ho
end

theorem mem_zeroCells {z : Array Value} {n : Nat} (h1 : ∀ v ∈ z, v.oneCell' = true) : ∀ v ∈ (Builtin.zeroCells z n).toList, v.oneCell' = true := by
  intro v hv
  unfold Builtin.zeroCells at hv
  simp at hv
  obtain ⟨i, hi, rfl⟩ := hv
  have hz : 0 < z.size := by
    rcases Nat.eq_zero_or_pos z.size with h | h
    · rw [h] at hi; simp at hi
    · exact h
  rw [getElem!_pos z (i % z.size) (Nat.mod_lt _ hz)]
  exact h1 _ (Array.getElem_mem _)
/-- clear of some elements of a row -/
theorem run_clear_mid {P : Program} (w : World) (t e ty : TypeId) (z : Value) (ht : P.underlying t = some (.slice e)) (hv : ∀ w, (zeroValue e).run P w = .ok z w) (h1 : ∀ v ∈ z.cells, v.oneCell' = true) (b o n c : Nat) (hn : 0 < n)
    (hth : w.there b o (Builtin.zeroCells z.cells n).size) :
    (Builtin.clear_ #[t] ty #[.slice (some ⟨b, o, none⟩) n c]).run P w = .ok (.tuple #[]) (w.setCells b o (Builtin.zeroCells z.cells n).toList) := by
  have hst := run_storeCells_cells (P := P) b o (Builtin.zeroCells z.cells n).toList 0 w (fun j hj => by simpa using (hth j (by simpa using hj)).1) (fun j hj => by simpa using (hth j (by simpa using hj)).2) (mem_zeroCells h1)
  simp only [Nat.add_zero] at hst
  obtain ⟨m, rfl⟩ : ∃ m, n = m + 1 := ⟨n - 1, by omega⟩
  simp [Builtin.clear_, run_underlying ht, hv, hst]
end Go.Proofs.Ytflppcgonbjnmaa
