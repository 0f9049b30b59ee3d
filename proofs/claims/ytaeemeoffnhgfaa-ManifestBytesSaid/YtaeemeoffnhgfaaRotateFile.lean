/-
  The walk of rotate at files.
-/
import Derived.Test.YtaeemeoffnhgfaaSwapFile
namespace Go.Proofs.Ytaeemeoffnhgfaa
open Go.RowKit
attribute [local go_sem ↓] Go.wp_at_zero Go.wp_at_succ

/-- between two rounds: what is left to be turned, i and j long -/
def Rot {α : Type} (X Y Z W A B C D : List α) (i j : Nat) : Prop := B.length = i ∧ C.length = j ∧ 0 < i ∧ 0 < j ∧ A ++ C ++ B ++ D = Z ++ Y ∧ A.length + B.length = Y.length ∧ A.length + B.length + C.length + D.length = Y.length + Z.length
theorem Rot.start {α : Type} (X Y Z W : List α) (hy : 0 < Y.length) (hz : 0 < Z.length) : Rot X Y Z W [] Y Z [] Y.length Z.length := ⟨rfl, rfl, hy, hz, by simp, by simp, by simp⟩
theorem Rot.left {α : Type} {X Y Z W A B C D : List α} {i j : Nat} (h : Rot X Y Z W A B C D i j) (hij : j < i) :
    ∃ P Q, B = P ++ Q ∧ P.length = j ∧ Q.length = i - j ∧ Rot X Y Z W (A ++ C) Q P D (i - j) j := by
  obtain ⟨h1, h2, h3, h4, h5, h6, h7⟩ := h
  refine ⟨B.take j, B.drop j, (List.take_append_drop _ _).symm, by simp; omega, by simp; omega, by simp; omega, by simp; omega, by omega, h4, ?_, ?_, ?_⟩
  · rw [← h5]
    simp only [List.append_assoc]
    rw [← List.append_assoc (B.take j), List.take_append_drop]
  · simp; omega
  · simp; omega
theorem Rot.right {α : Type} {X Y Z W A B C D : List α} {i j : Nat} (h : Rot X Y Z W A B C D i j) (hij : i < j) :
    ∃ Q R, C = Q ++ R ∧ Q.length = j - i ∧ R.length = i ∧ Rot X Y Z W A R Q (B ++ D) i (j - i) := by
  obtain ⟨h1, h2, h3, h4, h5, h6, h7⟩ := h
  refine ⟨C.take (j - i), C.drop (j - i), (List.take_append_drop _ _).symm, by simp; omega, by simp; omega, by simp; omega, by simp; omega, h3, by omega, ?_, ?_, ?_⟩
  · rw [← h5]
    simp only [List.append_assoc]
    rw [← List.append_assoc (C.take (j - i)), List.take_append_drop]
  · simp; omega
  · simp; omega

set_option maxHeartbeats 2000000 in
theorem rotate_any (g S cap N : Nat) (X Y Z W : List Fi) (a m b : Nat) (fv : Value) (w : World) (h : Arr Fi.vals 5 w g 23 S (X ++ Y ++ Z ++ W)) (ha : X.length = a) (hm : a + Y.length = m) (hb : m + Z.length = b) (hN : b + W.length = N) (hmax : N ≤ 1000000000)
    (hy : 0 < Y.length) (hz : 0 < Z.length) :
    Calls Try.prog 76 #[.slice (some ⟨g, 0, none⟩) N cap, .int .i64 a, .int .i64 m, .int .i64 b, fv] w fun e w' =>
      e = .returned (.tuple #[]) ∧ Arr Fi.vals 5 w' g 23 S (X ++ Z ++ Y ++ W) ∧ w.grownBy w' (some g) := by
  have HR0 := Lib.hid (Rot.start X Y Z W hy hz)
  have H := Lib.hid h
  clear h
  obtain ⟨y, hy0⟩ : ∃ y, Y.length = y := ⟨_, rfl⟩
  obtain ⟨z, hz0⟩ : ∃ z, Z.length = z := ⟨_, rfl⟩
  rw [hy0] at hm HR0 hy
  rw [hz0] at hb HR0 hz
  have hw1 : IntKind.i64.wrap ((m : Int) - (a : Int)) = (y : Int) := by rw [IntWalk.i64_in _ (by omega)]; omega
  have hw2 : IntKind.i64.wrap ((b : Int) - (m : Int)) = (z : Int) := by rw [IntWalk.i64_in _ (by omega)]; omega
  have HF := Lib.hid (And.intro ha (And.intro hm (And.intro hb (And.intro hN (And.intro hy0 hz0)))))
  clear ha hm hb hN hy0 hz0
  go_enter Try.func76, Try.ntmps76
  go_wp2
  go_loopw [10, 11] (fun vi vj wr => ∃ (i j : Nat) (A B C D : List Fi), vi = .int .i64 i ∧ vj = .int .i64 j ∧ Hid (Rot X Y Z W A B C D i j) ∧ Hid (Arr Fi.vals 5 wr g 23 S (X ++ A ++ B ++ C ++ D ++ W)) ∧ Hid (w.grownBy wr (some g))) (fun vi vj _ => (intOf vi).toNat + (intOf vj).toNat)
  case atStart => exact ⟨y, z, [], Y, Z, [], rfl, rfl, HR0, by simpa using H, Lib.hid (grownBy_refl _ _)⟩
  case round =>
    obtain ⟨i, j, A, B, C, D, rfl, rfl, HR, HA, HG⟩ := hrel
    obtain ⟨r1, r2, r3, r4, r5, r6, r7⟩ := HR.out
    obtain ⟨f1, f2, f3, f4, f5, f6⟩ := HF.out
    obtain ⟨s, hs⟩ : ∃ s, (X ++ A).length = s := ⟨_, rfl⟩
    have hsm : s + i = m := by rw [← hs, List.length_append]; omega
    have hw3 : IntKind.i64.wrap ((m : Int) - (i : Int)) = (s : Int) := by rw [IntWalk.i64_in _ (by omega)]; omega
    have hbN : m + j + D.length + W.length = N := by omega
    rcases Nat.lt_trichotomy i j with hij | hij | hij
    · obtain ⟨Q, R, q1, q2, q3, q4⟩ := HR.out.right hij
      obtain ⟨t, ht⟩ : ∃ t, m + (j - i) = t := ⟨_, rfl⟩
      obtain ⟨mj, hmj⟩ : ∃ mj, m + j = mj := ⟨_, rfl⟩
      have hw6 : IntKind.i64.wrap ((m : Int) + (j : Int)) = (mj : Int) := by rw [IntWalk.i64_in _ (by omega)]; omega
      have hw4 : IntKind.i64.wrap ((mj : Int) - (i : Int)) = (t : Int) := by rw [IntWalk.i64_in _ (by omega)]; omega
      have hw5 : IntKind.i64.wrap ((j : Int) - (i : Int)) = ((j - i : Nat) : Int) := by rw [IntWalk.i64_in _ (by omega)]; omega
      have hsw := fun (W0 : World) (h0 : Arr Fi.vals 5 W0 g 23 S ((X ++ A) ++ B ++ Q ++ R ++ (D ++ W))) => swapRange_at g S cap N (X ++ A) B Q R (D ++ W) i s t fv W0 h0 r1 q3 hs (by omega) (by rw [List.length_append]; omega) hmax
      have e1 : ((i : Int) != (j : Int)) = true := by simp; omega
      have e2 : decide ((j : Int) < (i : Int)) = false := decide_eq_false (by omega)
      have e4 : ¬ j < i := by omega
      have e5 : decide (j < i) = false := decide_eq_false e4
      have e3 : ¬ i = j := by omega
      have HA' : Hid (Arr Fi.vals 5 wr g 23 S ((X ++ A) ++ B ++ Q ++ R ++ (D ++ W))) := by have := HA.out; rw [q1] at this; exact Lib.hid (by simpa only [List.append_assoc] using this)
      have HQ4 := Lib.hid q4
      have hji : ((j - i : Nat) : Int) = (j : Int) - (i : Int) := by omega
      have HJI := Lib.hid hji
      have hlt := Lib.hid hij
      clear r1 r2 r5 r6 r7 f1 f2 f3 f4 f5 f6 hs hsm q1 q2 q3 q4 ht hji hbN hij HA hmj
      go_wp2_with (first
        | (go_at_call 80; refine (hsw _ HA'.out).mono ?_; rintro e w1 ⟨rfl, hA1, hG1⟩))
      refine ⟨⟨i, j - i, A, R, Q, B ++ D, rfl, by go_num, HQ4, Lib.hid (by simpa only [List.append_assoc] using hA1), Lib.hid (grownBy_trans HG.out hG1)⟩, ?_⟩
      have := hlt.out
      simp [intOf]; omega
    · subst hij
      have hsw := fun (W0 : World) (h0 : Arr Fi.vals 5 W0 g 23 S ((X ++ A) ++ B ++ [] ++ C ++ (D ++ W))) => swapRange_at g S cap N (X ++ A) B [] C (D ++ W) i s m fv W0 h0 r1 r2 hs (by simp; omega) (by rw [List.length_append]; omega) hmax
      have HA' : Hid (Arr Fi.vals 5 wr g 23 S ((X ++ A) ++ B ++ [] ++ C ++ (D ++ W))) := Lib.hid (by simpa only [List.append_assoc, List.nil_append] using HA.out)
      have HR5 := Lib.hid r5
      clear r1 r2 r5 r6 r7 f1 f2 f3 f4 f5 f6 hs hsm hbN HA
      go_wp2_with (first
        | (go_at_call 80; refine (hsw _ HA'.out).mono ?_; rintro e w1 ⟨rfl, hA1, hG1⟩))
      go_end0
      refine ⟨rfl, ?_, grownBy_trans HG.out hG1⟩
      have := HR5.out
      have e : X ++ A ++ C ++ [] ++ B ++ (D ++ W) = X ++ Z ++ Y ++ W := by
        have : X ++ (A ++ C ++ B ++ D) ++ W = X ++ (Z ++ Y) ++ W := by rw [this]
        simpa only [List.append_assoc, List.nil_append] using this
      rwa [e] at hA1
    · obtain ⟨P, Q, q1, q2, q3, q4⟩ := HR.out.left hij
      have hw5 : IntKind.i64.wrap ((i : Int) - (j : Int)) = ((i - j : Nat) : Int) := by rw [IntWalk.i64_in _ (by omega)]; omega
      have hsw := fun (W0 : World) (h0 : Arr Fi.vals 5 W0 g 23 S ((X ++ A) ++ P ++ Q ++ C ++ (D ++ W))) => swapRange_at g S cap N (X ++ A) P Q C (D ++ W) j s m fv W0 h0 q2 r2 hs (by omega) (by rw [List.length_append]; omega) hmax
      have e1 : ((i : Int) != (j : Int)) = true := by simp; omega
      have e2 : decide ((j : Int) < (i : Int)) = true := decide_eq_true (by omega)
      have e4 : j < i := by omega
      have e5 : decide (j < i) = true := decide_eq_true e4
      have e3 : ¬ i = j := by omega
      have HA' : Hid (Arr Fi.vals 5 wr g 23 S ((X ++ A) ++ P ++ Q ++ C ++ (D ++ W))) := by have := HA.out; rw [q1] at this; exact Lib.hid (by simpa only [List.append_assoc] using this)
      have HQ4 := Lib.hid q4
      have hlt := Lib.hid hij
      clear r1 r2 r5 r6 r7 f1 f2 f3 f4 f5 f6 hs hsm q1 q2 q3 q4 hbN hij HA
      go_wp2_with (first
        | (go_at_call 80; refine (hsw _ HA'.out).mono ?_; rintro e w1 ⟨rfl, hA1, hG1⟩))
      refine ⟨⟨i - j, j, A ++ C, Q, P, D, by go_num, rfl, HQ4, Lib.hid (by simpa only [List.append_assoc] using hA1), Lib.hid (grownBy_trans HG.out hG1)⟩, ?_⟩
      have := hlt.out
      simp [intOf]; omega
end Go.Proofs.Ytaeemeoffnhgfaa

