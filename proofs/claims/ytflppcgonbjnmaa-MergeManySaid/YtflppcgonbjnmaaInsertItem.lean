/-
  The walk of insertionSort at items.
-/
import Derived.Test.YtflppcgonbjnmaaJM
namespace Go.Proofs.Ytflppcgonbjnmaa
open Go.RowKit
attribute [local go_sem ↓] Go.wp_at_zero Go.wp_at_succ

def It.lt (x y : It) : Bool := decide (It.cmp x y < 0)

theorem swapAdj {α : Type} (U V : List α) (z x : α) : ((U ++ z :: x :: V).set (U.length + 1) z).set U.length x = U ++ x :: z :: V := by
  rw [List.set_append_right _ _ (by omega), show U.length + 1 - U.length = 1 by omega, List.set_append_right _ _ (Nat.le_refl _), Nat.sub_self]
  rfl
/-- x on its way: behind s1, ahead of s2, which is above it -/
def Way {α : Type} (lt : α → α → Bool) (Y1 s1 s2 : List α) (x : α) : Prop := Y1 = s1 ++ s2 ∧ ∀ y ∈ s2, lt x y = true
theorem Way.step {α : Type} {lt : α → α → Bool} {Y1 t s2 : List α} {x z : α} (h : Way lt Y1 (t ++ [z]) s2 x) (hz : lt x z = true) : Way lt Y1 t (z :: s2) x := by
  refine ⟨by rw [h.1]; simp, fun y hy => ?_⟩
  rcases List.mem_cons.1 hy with rfl | hy
  · exact hz
  · exact h.2 y hy
theorem Way.done {α : Type} {lt : α → α → Bool} (hw : Weak lt) {Y Y1 s1 s2 : List α} {x : α} (h : Way lt Y1 s1 s2 x) (hs : SS lt Y Y1) (h1 : ∀ y, s1.getLast? = some y → lt x y = false) : SS lt (Y ++ [x]) (s1 ++ [x] ++ s2) := by
  obtain ⟨rfl, h2⟩ := h
  refine ⟨ins_done hw hs.1 h2 h1, ?_, ?_⟩
  · refine (hs.2.1.append (Stb.refl [x])).trans ?_
    have := ((Stb.refl s1).append (Stb.swap (lt := lt) hw (x := s2) (y := [x]) (fun a ha b hb => by rw [List.mem_singleton.1 hb]; exact h2 a ha)))
    simpa only [List.append_assoc] using this
  · refine (List.Perm.append_right [x] hs.2.2).trans ?_
    simp only [List.append_assoc]
    exact List.Perm.append_left s1 List.perm_append_comm

set_option maxHeartbeats 4000000 in
theorem insertion_any (hw : Weak It.lt) (g S cap N : Nat) (X Y W : List It) (a b : Nat) (w : World) (h : Arr It.vals 7 w g 59 S (X ++ Y ++ W)) (ha : X.length = a) (hb : a + Y.length = b) (hN : b + W.length = N) (hmax : N ≤ 1000000000) :
    Calls Try.prog 61 #[.slice (some ⟨g, 0, none⟩) N cap, .int .i64 a, .int .i64 b, .func (.func 53) #[] #[]] w fun e w' =>
      e = .returned (.tuple #[]) ∧ ∃ Y', SS It.lt Y Y' ∧ Arr It.vals 7 w' g 59 S (X ++ Y' ++ W) ∧ w.grownBy w' (some g) := by
  have HW := Lib.hid hw
  have H := Lib.hid h
  have HF := Lib.hid (And.intro ha (And.intro hb hN))
  clear hw h
  go_enter Try.func61, Try.ntmps61
  have hw1 : IntKind.i64.wrap ((a : Int) + 1) = ((a + 1 : Nat) : Int) := by rw [IntWalk.i64_in _ (by omega)]; omega
  by_cases h0 : Y.length = 0
  · have hY : Y = [] := List.eq_nil_of_length_eq_zero h0
    have HY := Lib.hid hY
    have e0 : ¬ (a + 1 < b) := by omega
    have e1 : decide (((a + 1 : Nat) : Int) < (b : Int)) = false := decide_eq_false (by omega)
    clear ha hb hN h0 hY
    go_wp2
    go_loopw [8] (fun i wr => i = .int .i64 ((a + 1 : Nat) : Int) ∧ wr = w) (fun i _ => 0)
    case atStart => exact ⟨by first | rfl | go_num, rfl⟩
    case round =>
      obtain ⟨rfl, rfl⟩ := hrel
      go_wp2
      go_end0
      exact ⟨rfl, [], by rw [HY.out]; exact SS.refl (by simp [Srt]), by have := H.out; rwa [HY.out] at this, grownBy_refl _ _⟩
  · clear ha hb hN
    go_wp2
    go_loopw [8] (fun i wr => ∃ (n : Nat) (Y1 : List It), i = .int .i64 ((a + n : Nat) : Int) ∧ 1 ≤ n ∧ n ≤ Y.length ∧ Hid (SS It.lt (Y.take n) Y1) ∧ Hid (Arr It.vals 7 wr g 59 S (X ++ Y1 ++ Y.drop n ++ W)) ∧ Hid (w.grownBy wr (some g))) (fun i _ => b - (intOf i).toNat)
    case atStart =>
      refine ⟨1, Y.take 1, by first | rfl | go_num, Nat.le_refl _, by omega, ?_, ?_, Lib.hid (grownBy_refl _ _)⟩
      · refine Lib.hid (SS.refl ?_)
        have hl : (Y.take 1).length = 1 := by rw [List.length_take]; omega
        obtain ⟨y, hy⟩ := List.length_eq_one_iff.1 hl
        rw [hy]
        simp [Srt]
      · have : X ++ Y.take 1 ++ Y.drop 1 ++ W = X ++ Y ++ W := by rw [List.append_assoc X, List.take_append_drop]
        rw [this]
        exact H
    case round =>
      obtain ⟨n, Y1, rfl, hn1, hn2, HS, HA, HG⟩ := hrel
      obtain ⟨f1, f2, f3⟩ := HF.out
      have hl1 : Y1.length = n := by rw [← HS.out.2.2.length_eq, List.length_take]; omega
      obtain ⟨i, hi⟩ : ∃ i, a + n = i := ⟨_, rfl⟩
      rw [hi]
      by_cases hlt : i < b
      · have hnl : n < Y.length := by omega
        obtain ⟨x, hx⟩ : ∃ x, Y[n] = x := ⟨_, rfl⟩
        have hd : Y.drop n = x :: Y.drop (n + 1) := by rw [← hx]; exact List.drop_eq_getElem_cons hnl
        have ht : Y.take (n + 1) = Y.take n ++ [x] := by rw [← hx]; exact List.take_succ_eq_append_getElem hnl
        have HT := Lib.hid ht
        have HAS : Hid (Arr It.vals 7 wr g 59 S (X ++ Y1 ++ x :: ([] ++ Y.drop (n + 1) ++ W))) := by have := HA.out; rw [hd] at this; exact Lib.hid (by simpa only [List.append_assoc, List.cons_append, List.nil_append] using this)
        have HL1 := Lib.hid hl1
        have hlen : ∀ s1 s2 : List It, Y1 = s1 ++ s2 → (X ++ s1 ++ x :: (s2 ++ Y.drop (n + 1) ++ W)).length = N := fun s1 s2 e => by
          rw [e] at hl1
          simp at hl1 ⊢
          omega
        have HLEN := Lib.hid hlen
        have HI := Lib.hid (And.intro hi (And.intro hnl (And.intro f1 (And.intro f2 f3))))
        have e1 : decide ((i : Int) < (b : Int)) = true := decide_eq_true (by omega)
        have hiN : i < N := by omega
        clear hx hd ht hl1 hlen HA f1 f2 f3 hnl hi h0
        go_wp2
        go_loopw [9] (fun jv wr' => ∃ (j : Nat) (s1 s2 : List It), jv = .int .i64 (j : Int) ∧ a + s1.length = j ∧ j ≤ i ∧ Hid (Way It.lt Y1 s1 s2 x) ∧ Hid (Arr It.vals 7 wr' g 59 S (X ++ s1 ++ x :: (s2 ++ Y.drop (n + 1) ++ W))) ∧ Hid (w.grownBy wr' (some g))) (fun jv _ => (intOf jv).toNat)
        case atStart =>
          refine ⟨i, Y1, [], rfl, ?_, Nat.le_refl _, Lib.hid ⟨by simp, by simp⟩, HAS, HG⟩
          rw [HL1.out, HI.out.1]
        case round =>
          clear HAS HG
          rename_i wr0
          obtain ⟨j, s1, s2, rfl, hj, hji, HWAY, HA, HG⟩ := hrel
          have hl := HLEN.out s1 s2 HWAY.out.1
          obtain ⟨i1, i2, i3, i4, i5⟩ := HI.out
          rcases List.eq_nil_or_concat s1 with hs1 | ⟨t, z, hs1⟩
          · have e2 : decide ((a : Int) < (j : Int)) = false := decide_eq_false (by rw [hs1] at hj; simp at hj; omega)
            have e3 : ¬ a < j := by rw [hs1] at hj; simp at hj; omega
            have e4 : decide (a < j) = false := decide_eq_false e3
            have HF2 := Lib.hid (HWAY.out.done HW.out HS.out (fun y hy => by rw [hs1] at hy; cases hy))
            have hgo : decide (i + 1 ≤ b) = true := decide_eq_true (by omega)
            have HGO := Lib.hid hgo
            have hw3 : IntKind.i64.wrap ((i : Int) + 1) = ((a + (n + 1) : Nat) : Int) := by rw [IntWalk.i64_in _ (by omega)]; omega
            have HC : True := trivial
            clear hs1 hl hgo i1 i2 i3 i4 i5 hj
            go_wp2
            refine region_wz (fun W' => True) none (by kernel_rfl) ?_
            apply WZ.take (i := 0) (some 18) rfl rfl (by kernel_rfl) (by kernel_rfl) (by kernel_rfl) (calm_panic _) (by kernel_rfl)
            case hy => (refine .inl ⟨by kernel_rfl, fun W hC => ?_⟩; (try dsimp only at hC); go_simp; (try simp only [e1,e2]); rfl)
            case hC => exact HC
            case ha => (simp only [Act.put, List.setIfInBounds_toArray, List.set_cons_zero, List.set_cons_succ]; rfl)
            apply WZ.take (i := 1) (some 19) rfl rfl (by kernel_rfl) (by kernel_rfl) (by kernel_rfl) (calm_panic _) (by kernel_rfl)
            case hy => (refine .inl ⟨by kernel_rfl, fun W hC => ?_⟩; (try dsimp only at hC); go_simp; (try simp only [e1,e2]); rfl)
            case hC => exact HC
            case ha => (simp only [Act.put, List.setIfInBounds_toArray, List.set_cons_zero, List.set_cons_succ]; rfl)
            apply WZ.take (i := 2) (some 20) rfl rfl (by kernel_rfl) (by kernel_rfl) (by kernel_rfl) (calm_panic _) (by kernel_rfl)
            case hy => (refine .inl ⟨by kernel_rfl, fun W hC => ?_⟩; (try dsimp only at hC); go_simp; (try simp only [e1,e2]); rfl)
            case hC => exact HC
            case ha => (simp only [Act.put, List.setIfInBounds_toArray, List.set_cons_zero, List.set_cons_succ]; rfl)
            apply WZ.take (i := 3) (some 21) rfl rfl (by kernel_rfl) (by kernel_rfl) (by kernel_rfl) (calm_panic _) (by kernel_rfl)
            case hy => (refine .inl ⟨by kernel_rfl, fun W hC => ?_⟩; (try dsimp only at hC); go_simp; (try simp only [e1,e2]); rfl)
            case hC => exact HC
            case ha => (simp only [Act.put, List.setIfInBounds_toArray, List.set_cons_zero, List.set_cons_succ]; rfl)
            apply WZ.take (i := 4) (some 22) rfl rfl (by kernel_rfl) (by kernel_rfl) (by kernel_rfl) (calm_panic _) (by kernel_rfl)
            case hy => exact .inr ⟨by kernel_rfl, rfl⟩
            case hC => exact HC
            case ha => (simp only [Act.put, List.setIfInBounds_toArray, List.set_cons_zero, List.set_cons_succ]; rfl)
            apply WZ.take (i := 5) (some 23) rfl rfl (by kernel_rfl) (by kernel_rfl) (by kernel_rfl) (calm_panic _) (by kernel_rfl)
            case hy => exact .inr ⟨by kernel_rfl, rfl⟩
            case hC => exact HC
            case ha => (simp only [Act.put, List.setIfInBounds_toArray, List.set_cons_zero, List.set_cons_succ]; rfl)
            apply WZ.take (i := 6) (some 24) rfl rfl (by kernel_rfl) (by kernel_rfl) (by kernel_rfl) (calm_panic _) (by kernel_rfl)
            case hy => exact .inr ⟨by kernel_rfl, rfl⟩
            case hC => exact HC
            case ha => (simp only [Act.put, List.setIfInBounds_toArray, List.set_cons_zero, List.set_cons_succ]; rfl)
            apply WZ.take (i := 7) (some 25) rfl rfl (by kernel_rfl) (by kernel_rfl) (by kernel_rfl) (calm_panic _) (by kernel_rfl)
            case hy => exact .inr ⟨by kernel_rfl, rfl⟩
            case hC => exact HC
            case ha => (simp only [Act.put, List.setIfInBounds_toArray, List.set_cons_zero, List.set_cons_succ]; rfl)
            apply WZ.take (i := 8) (some 26) rfl rfl (by kernel_rfl) (by kernel_rfl) (by kernel_rfl) (calm_panic _) (by kernel_rfl)
            case hy => exact .inr ⟨by kernel_rfl, rfl⟩
            case hC => exact HC
            case ha => (simp only [Act.put, List.setIfInBounds_toArray, List.set_cons_zero, List.set_cons_succ]; rfl)
            apply WZ.take (i := 9) (some 27) rfl rfl (by kernel_rfl) (by kernel_rfl) (by kernel_rfl) (calm_panic _) (by kernel_rfl)
            case hy => exact .inr ⟨by kernel_rfl, rfl⟩
            case hC => exact HC
            case ha => (simp only [Act.put, List.setIfInBounds_toArray, List.set_cons_zero, List.set_cons_succ]; rfl)
            apply WZ.take (i := 10) (some 28) rfl rfl (by kernel_rfl) (by kernel_rfl) (by kernel_rfl) (calm_panic _) (by kernel_rfl)
            case hy => exact .inr ⟨by kernel_rfl, rfl⟩
            case hC => exact HC
            case ha => (simp only [Act.put, List.setIfInBounds_toArray, List.set_cons_zero, List.set_cons_succ]; rfl)
            apply WZ.take (i := 11) (some 29) rfl rfl (by kernel_rfl) (by kernel_rfl) (by kernel_rfl) (calm_panic _) (by kernel_rfl)
            case hy => exact .inr ⟨by kernel_rfl, rfl⟩
            case hC => exact HC
            case ha => (simp only [Act.put, List.setIfInBounds_toArray, List.set_cons_zero, List.set_cons_succ]; rfl)
            apply WZ.take (i := 12) (some 30) rfl rfl (by kernel_rfl) (by kernel_rfl) (by kernel_rfl) (calm_panic _) (by kernel_rfl)
            case hy => exact .inr ⟨by kernel_rfl, rfl⟩
            case hC => exact HC
            case ha => (simp only [Act.put, List.setIfInBounds_toArray, List.set_cons_zero, List.set_cons_succ]; rfl)
            apply WZ.take (i := 13) (some 31) rfl rfl (by kernel_rfl) (by kernel_rfl) (by kernel_rfl) (calm_panic _) (by kernel_rfl)
            case hy => exact .inr ⟨by kernel_rfl, rfl⟩
            case hC => exact HC
            case ha => (simp only [Act.put, List.setIfInBounds_toArray, List.set_cons_zero, List.set_cons_succ]; rfl)
            apply WZ.take (i := 14) (some 32) rfl rfl (by kernel_rfl) (by kernel_rfl) (by kernel_rfl) (calm_panic _) (by kernel_rfl)
            case hy => exact .inr ⟨by kernel_rfl, rfl⟩
            case hC => exact HC
            case ha => (simp only [Act.put, List.setIfInBounds_toArray, List.set_cons_zero, List.set_cons_succ]; rfl)
            apply WZ.take (i := 15) (some 33) rfl rfl (by kernel_rfl) (by kernel_rfl) (by kernel_rfl) (calm_panic _) (by kernel_rfl)
            case hy => exact .inr ⟨by kernel_rfl, rfl⟩
            case hC => exact HC
            case ha => (simp only [Act.put, List.setIfInBounds_toArray, List.set_cons_zero, List.set_cons_succ]; rfl)
            apply WZ.take (i := 16) (some 34) rfl rfl (by kernel_rfl) (by kernel_rfl) (by kernel_rfl) (calm_panic _) (by kernel_rfl)
            case hy => (refine .inl ⟨by kernel_rfl, fun W hC => ?_⟩; (try dsimp only at hC); go_simp; (try simp only [e1,e2]); rfl)
            case hC => exact HC
            case ha => (simp only [Act.put, List.setIfInBounds_toArray, List.set_cons_zero, List.set_cons_succ]; rfl)
            refine WZ.done (by kernel_rfl) ?_ _
            simp only [Calm, Exit.then]
            go_wp2
            refine ⟨⟨n + 1, s1 ++ [x] ++ s2, rfl, by omega, HI.out.2.1, by rw [HT.out]; exact HF2, Lib.hid ?_, Lib.hid (grownBy_drew1 HG.out)⟩, ?_⟩
            · simpa only [List.append_assoc, List.cons_append, List.nil_append] using HA.out.drew
            · have := HI.out
              simp [intOf]; omega
          · rw [List.concat_eq_append] at hs1
            have htl : s1.length = t.length + 1 := by rw [hs1]; simp
            obtain ⟨j1, hj1⟩ : ∃ j1, a + t.length = j1 := ⟨_, rfl⟩
            have hjj : j = j1 + 1 := by omega
            have e2 : decide ((a : Int) < (j : Int)) = true := decide_eq_true (by omega)
            have e3 : a < j := by omega
            have e4 : decide (a < j) = true := decide_eq_true e3
            have hd1 : IntKind.i64.wrap ((j : Int) - 1) = (j1 : Int) := by rw [IntWalk.i64_in _ (by omega)]; omega
            have hfull : X ++ s1 ++ x :: (s2 ++ Y.drop (n + 1) ++ W) = (X ++ t) ++ z :: x :: (s2 ++ Y.drop (n + 1) ++ W) := by
              rw [hs1]
              simp only [List.append_assoc, List.cons_append, List.nil_append]
            rw [hfull] at HA hl
            have hxt : (X ++ t).length = j1 := by rw [List.length_append]; omega
            have HX2 := Lib.hid (show ((X ++ t) ++ z :: x :: (s2 ++ Y.drop (n + 1) ++ W))[j1]? = some z by rw [List.getElem?_append_right (by omega), hxt, Nat.sub_self]; rfl)
            have HX1 := Lib.hid (show ((X ++ t) ++ z :: x :: (s2 ++ Y.drop (n + 1) ++ W))[j]? = some x by rw [List.getElem?_append_right (by omega), hxt, hjj, Nat.add_sub_cancel_left]; rfl)
            have HSW := Lib.hid (swapAdj (X ++ t) (s2 ++ Y.drop (n + 1) ++ W) z x)
            rw [hxt, ← hjj] at HSW
            have hjl : j < ((X ++ t) ++ z :: x :: (s2 ++ Y.drop (n + 1) ++ W)).length := by omega
            have hj1l : j1 < (((X ++ t) ++ z :: x :: (s2 ++ Y.drop (n + 1) ++ W)).set j z).length := by rw [List.length_set]; omega
            have HJL := Lib.hid (And.intro hjl hj1l)
            have HJJ := Lib.hid (And.intro hjj (And.intro hj1 (And.intro hs1 htl)))
            have k1 : (0 : Int) ≤ (j : Int) := by omega
            have k2 : (j : Int) < (N : Int) := by omega
            have k3 : (0 : Int) ≤ (j1 : Int) := by omega
            have k4 : (j1 : Int) < (N : Int) := by omega
            have HC : wr.drew.rangeAt g (j * 7) (It.vals x) ∧ wr.drew.rangeAt g (j1 * 7) (It.vals z) := ⟨HA.out.drew.get HX1.out, HA.out.drew.get HX2.out⟩
            by_cases hcmp : It.cmp x z < 0
            · have hltz : It.lt x z = true := decide_eq_true hcmp
              have HW2 := Lib.hid (Way.step (by have := HWAY.out; rwa [hs1] at this) hltz)
              have hgo : j1 ≤ i := by omega
              clear hl i1 i2 i3 i4 i5 hj hjj hj1 hfull hxt hjl hj1l htl hs1
              go_wp2
              refine region_wz (fun W' => W'.rangeAt g (j * 7) (It.vals x) ∧ W'.rangeAt g (j1 * 7) (It.vals z)) none (by kernel_rfl) ?_
              apply WZ.take (i := 0) (some 18) rfl rfl (by kernel_rfl) (by kernel_rfl) (by kernel_rfl) (calm_panic _) (by kernel_rfl)
              case hy => (refine .inl ⟨by kernel_rfl, fun W hC => ?_⟩; (try dsimp only at hC); go_simp; (try simp only [e1,e2,hd1]); rfl)
              case hC => exact HC
              case ha => (simp only [Act.put, List.setIfInBounds_toArray, List.set_cons_zero, List.set_cons_succ]; rfl)
              apply WZ.take (i := 1) (some 19) rfl rfl (by kernel_rfl) (by kernel_rfl) (by kernel_rfl) (calm_panic _) (by kernel_rfl)
              case hy => (refine .inl ⟨by kernel_rfl, fun W hC => ?_⟩; (try dsimp only at hC); go_simp; (try simp only [e1,e2,hd1]); rfl)
              case hC => exact HC
              case ha => (simp only [Act.put, List.setIfInBounds_toArray, List.set_cons_zero, List.set_cons_succ]; rfl)
              apply WZ.take (i := 2) (some 20) rfl rfl (by kernel_rfl) (by kernel_rfl) (by kernel_rfl) (calm_panic _) (by kernel_rfl)
              case hy => (refine .inl ⟨by kernel_rfl, fun W hC => ?_⟩; (try dsimp only at hC); go_simp; (try simp only [e1,e2,hd1]); rfl)
              case hC => exact HC
              case ha => (simp only [Act.put, List.setIfInBounds_toArray, List.set_cons_zero, List.set_cons_succ]; rfl)
              apply WZ.take (i := 3) (some 21) rfl rfl (by kernel_rfl) (by kernel_rfl) (by kernel_rfl) (calm_panic _) (by kernel_rfl)
              case hy => (refine .inl ⟨by kernel_rfl, fun W hC => ?_⟩; (try dsimp only at hC); go_simp; (try simp only [e1,e2,hd1]); rfl)
              case hC => exact HC
              case ha => (simp only [Act.put, List.setIfInBounds_toArray, List.set_cons_zero, List.set_cons_succ]; rfl)
              apply WZ.take (i := 4) (some 22) rfl rfl (by kernel_rfl) (by kernel_rfl) (by kernel_rfl) (calm_panic _) (by kernel_rfl)
              case hy => (refine .inl ⟨by kernel_rfl, fun W hC => ?_⟩; (try dsimp only at hC); go_simp; (try simp only [e1,e2,hd1]); rfl)
              case hC => exact HC
              case ha => (simp only [Act.put, List.setIfInBounds_toArray, List.set_cons_zero, List.set_cons_succ]; rfl)
              apply WZ.take (i := 5) (some 23) rfl rfl (by kernel_rfl) (by kernel_rfl) (by kernel_rfl) (calm_panic _) (by kernel_rfl)
              case hy => (refine .inl ⟨by kernel_rfl, fun W hC => ?_⟩; (try dsimp only at hC); go_simp; (try simp only [e1,e2,hd1]); rfl)
              case hC => exact HC
              case ha => (simp only [Act.put, List.setIfInBounds_toArray, List.set_cons_zero, List.set_cons_succ]; rfl)
              apply WZ.take (i := 6) (some 24) rfl rfl (by kernel_rfl) (by kernel_rfl) (by kernel_rfl) (calm_panic _) (by kernel_rfl)
              case hy => (refine .inl ⟨by kernel_rfl, fun W hC => ?_⟩; (try dsimp only at hC); go_simp; (try simp only [e1,e2,hd1]); rfl)
              case hC => exact HC
              case ha => (simp only [Act.put, List.setIfInBounds_toArray, List.set_cons_zero, List.set_cons_succ]; rfl)
              apply WZ.take (i := 7) (some 25) rfl rfl (by kernel_rfl) (by kernel_rfl) (by kernel_rfl) (calm_panic _) (by kernel_rfl)
              case hy => (refine .inl ⟨by kernel_rfl, fun W hC => ?_⟩; (try dsimp only at hC); go_simp; (try simp only [e1,e2,hd1]); rfl)
              case hC => exact HC
              case ha => (simp only [Act.put, List.setIfInBounds_toArray, List.set_cons_zero, List.set_cons_succ]; rfl)
              apply WZ.take (i := 8) (some 26) rfl rfl (by kernel_rfl) (by kernel_rfl) (by kernel_rfl) (calm_panic _) (by kernel_rfl)
              case hy => first | (apply yieldsIf_load_mid (by kernel_rfl) _ _ rfl _ _ rfl; (case hS => (intro W hC; exact (show World.rangeAt _ _ _ (It.vals _) from hC.1))); (case hu => exact Try.underlying59); (case hd => rfl); (case hi => kernel_rfl)) | (apply yieldsIf_load_mid (by kernel_rfl) _ _ rfl _ _ rfl; (case hS => (intro W hC; exact (show World.rangeAt _ _ _ (It.vals _) from hC.2.1))); (case hu => exact Try.underlying59); (case hd => rfl); (case hi => kernel_rfl)) | (apply yieldsIf_load_mid (by kernel_rfl) _ _ rfl _ _ rfl; (case hS => (intro W hC; exact (show World.rangeAt _ _ _ (It.vals _) from hC.2.2.1))); (case hu => exact Try.underlying59); (case hd => rfl); (case hi => kernel_rfl)) | (apply yieldsIf_load_mid (by kernel_rfl) _ _ rfl _ _ rfl; (case hS => (intro W hC; exact (show World.rangeAt _ _ _ (It.vals _) from hC.2.2.2.1))); (case hu => exact Try.underlying59); (case hd => rfl); (case hi => kernel_rfl)) | (apply yieldsIf_load_mid (by kernel_rfl) _ _ rfl _ _ rfl; (case hS => (intro W hC; exact (show World.rangeAt _ _ _ (It.vals _) from hC.2.2.2))); (case hu => exact Try.underlying59); (case hd => rfl); (case hi => kernel_rfl)) | (apply yieldsIf_load_mid (by kernel_rfl) _ _ rfl _ _ rfl; (case hS => (intro W hC; exact (show World.rangeAt _ _ _ (It.vals _) from hC.2.2))); (case hu => exact Try.underlying59); (case hd => rfl); (case hi => kernel_rfl)) | (apply yieldsIf_load_mid (by kernel_rfl) _ _ rfl _ _ rfl; (case hS => (intro W hC; exact (show World.rangeAt _ _ _ (It.vals _) from hC.2))); (case hu => exact Try.underlying59); (case hd => rfl); (case hi => kernel_rfl)) | (apply yieldsIf_load_mid (by kernel_rfl) _ _ rfl _ _ rfl; (case hS => (intro W hC; exact (show World.rangeAt _ _ _ (It.vals _) from hC))); (case hu => exact Try.underlying59); (case hd => rfl); (case hi => kernel_rfl))
              case hC => exact HC
              case ha => (simp only [Act.put, List.setIfInBounds_toArray, List.set_cons_zero, List.set_cons_succ]; rfl)
              apply WZ.take (i := 9) (some 27) rfl rfl (by kernel_rfl) (by kernel_rfl) (by kernel_rfl) (calm_panic _) (by kernel_rfl)
              case hy => (refine .inl ⟨by kernel_rfl, fun W hC => ?_⟩; (try dsimp only at hC); go_simp; (try simp only [e1,e2,hd1]); rfl)
              case hC => exact HC
              case ha => (simp only [Act.put, List.setIfInBounds_toArray, List.set_cons_zero, List.set_cons_succ]; rfl)
              apply WZ.take (i := 10) (some 28) rfl rfl (by kernel_rfl) (by kernel_rfl) (by kernel_rfl) (calm_panic _) (by kernel_rfl)
              case hy => (refine .inl ⟨by kernel_rfl, fun W hC => ?_⟩; (try dsimp only at hC); go_simp; (try simp only [e1,e2,hd1]); rfl)
              case hC => exact HC
              case ha => (simp only [Act.put, List.setIfInBounds_toArray, List.set_cons_zero, List.set_cons_succ]; rfl)
              apply WZ.take (i := 11) (some 29) rfl rfl (by kernel_rfl) (by kernel_rfl) (by kernel_rfl) (calm_panic _) (by kernel_rfl)
              case hy => (refine .inl ⟨by kernel_rfl, fun W hC => ?_⟩; (try dsimp only at hC); go_simp; (try simp only [e1,e2,hd1]); rfl)
              case hC => exact HC
              case ha => (simp only [Act.put, List.setIfInBounds_toArray, List.set_cons_zero, List.set_cons_succ]; rfl)
              apply WZ.take (i := 12) (some 30) rfl rfl (by kernel_rfl) (by kernel_rfl) (by kernel_rfl) (calm_panic _) (by kernel_rfl)
              case hy => (refine .inl ⟨by kernel_rfl, fun W hC => ?_⟩; (try dsimp only at hC); go_simp; (try simp only [e1,e2,hd1]); rfl)
              case hC => exact HC
              case ha => (simp only [Act.put, List.setIfInBounds_toArray, List.set_cons_zero, List.set_cons_succ]; rfl)
              apply WZ.take (i := 13) (some 31) rfl rfl (by kernel_rfl) (by kernel_rfl) (by kernel_rfl) (calm_panic _) (by kernel_rfl)
              case hy => first | (apply yieldsIf_load_mid (by kernel_rfl) _ _ rfl _ _ rfl; (case hS => (intro W hC; exact (show World.rangeAt _ _ _ (It.vals _) from hC.1))); (case hu => exact Try.underlying59); (case hd => rfl); (case hi => kernel_rfl)) | (apply yieldsIf_load_mid (by kernel_rfl) _ _ rfl _ _ rfl; (case hS => (intro W hC; exact (show World.rangeAt _ _ _ (It.vals _) from hC.2.1))); (case hu => exact Try.underlying59); (case hd => rfl); (case hi => kernel_rfl)) | (apply yieldsIf_load_mid (by kernel_rfl) _ _ rfl _ _ rfl; (case hS => (intro W hC; exact (show World.rangeAt _ _ _ (It.vals _) from hC.2.2.1))); (case hu => exact Try.underlying59); (case hd => rfl); (case hi => kernel_rfl)) | (apply yieldsIf_load_mid (by kernel_rfl) _ _ rfl _ _ rfl; (case hS => (intro W hC; exact (show World.rangeAt _ _ _ (It.vals _) from hC.2.2.2.1))); (case hu => exact Try.underlying59); (case hd => rfl); (case hi => kernel_rfl)) | (apply yieldsIf_load_mid (by kernel_rfl) _ _ rfl _ _ rfl; (case hS => (intro W hC; exact (show World.rangeAt _ _ _ (It.vals _) from hC.2.2.2))); (case hu => exact Try.underlying59); (case hd => rfl); (case hi => kernel_rfl)) | (apply yieldsIf_load_mid (by kernel_rfl) _ _ rfl _ _ rfl; (case hS => (intro W hC; exact (show World.rangeAt _ _ _ (It.vals _) from hC.2.2))); (case hu => exact Try.underlying59); (case hd => rfl); (case hi => kernel_rfl)) | (apply yieldsIf_load_mid (by kernel_rfl) _ _ rfl _ _ rfl; (case hS => (intro W hC; exact (show World.rangeAt _ _ _ (It.vals _) from hC.2))); (case hu => exact Try.underlying59); (case hd => rfl); (case hi => kernel_rfl)) | (apply yieldsIf_load_mid (by kernel_rfl) _ _ rfl _ _ rfl; (case hS => (intro W hC; exact (show World.rangeAt _ _ _ (It.vals _) from hC))); (case hu => exact Try.underlying59); (case hd => rfl); (case hi => kernel_rfl))
              case hC => exact HC
              case ha => (simp only [Act.put, List.setIfInBounds_toArray, List.set_cons_zero, List.set_cons_succ]; rfl)
              -- 14
              refine WZ.one (i := 14) rfl (by kernel_rfl) ?_
              conv => arg 4; arg 1; whnf
              go_wp2_with (go_at_call 53; refine (itemCompare_any x z _).mono ?_; rintro e w1 ⟨rfl, hb1⟩)
              have HG1 := grownBy_trans (grownBy_drew1 HG.out) (grownBy_below hb1 (some g))
              have HA1 := HA.out.drew.below hb1 (HA.out.drew.lt)
              have HC : w1.rangeAt g (j * 7) (It.vals x) ∧ w1.rangeAt g (j1 * 7) (It.vals z) := ⟨HA1.get HX1.out, HA1.get HX2.out⟩
              clear hb1
              refine ⟨HC, ?_⟩
              apply WZ.take (i := 15) (some 33) rfl rfl (by kernel_rfl) (by kernel_rfl) (by kernel_rfl) (calm_panic _) (by kernel_rfl)
              case hy => (refine .inl ⟨by kernel_rfl, fun W hC => ?_⟩; (try dsimp only at hC); go_simp; (try simp only [e1,e2,hd1]); rfl)
              case hC => exact HC
              case ha => (simp only [Act.put, List.setIfInBounds_toArray, List.set_cons_zero, List.set_cons_succ]; rfl)
              apply WZ.take (i := 16) (some 34) rfl rfl (by kernel_rfl) (by kernel_rfl) (by kernel_rfl) (calm_panic _) (by kernel_rfl)
              case hy => (refine .inl ⟨by kernel_rfl, fun W hC => ?_⟩; (try dsimp only at hC); go_simp; (try simp only [e1,e2,hd1]); rfl)
              case hC => exact HC
              case ha => (simp only [Act.put, List.setIfInBounds_toArray, List.set_cons_zero, List.set_cons_succ]; rfl)
              refine WZ.done (by kernel_rfl) ?_ _
              simp only [Calm, Exit.then]
              go_wp2
              have HC : w1.drew.rangeAt g (j * 7) (It.vals x) ∧ w1.drew.rangeAt g (j1 * 7) (It.vals z) := ⟨HA1.drew.get HX1.out, HA1.drew.get HX2.out⟩
              obtain ⟨hjl, hj1l⟩ := HJL.out
              refine region_wz (fun W' => W'.rangeAt g (j * 7) (It.vals x) ∧ W'.rangeAt g (j1 * 7) (It.vals z)) (some 15) (by kernel_rfl) ?_
              apply WZ.take (i := 0) (some 37) rfl rfl (by kernel_rfl) (by kernel_rfl) (by kernel_rfl) (calm_panic _) (by kernel_rfl)
              case hy => (refine .inl ⟨by kernel_rfl, fun W hC => ?_⟩; (try dsimp only at hC); go_simp; (try simp only [hd1]); rfl)
              case hC => exact HC
              case ha => (simp only [Act.put, List.setIfInBounds_toArray, List.set_cons_zero, List.set_cons_succ]; rfl)
              apply WZ.take (i := 1) (some 38) rfl rfl (by kernel_rfl) (by kernel_rfl) (by kernel_rfl) (calm_panic _) (by kernel_rfl)
              case hy => (refine .inl ⟨by kernel_rfl, fun W hC => ?_⟩; (try dsimp only at hC); go_simp; (try simp only [hd1]); rfl)
              case hC => exact HC
              case ha => (simp only [Act.put, List.setIfInBounds_toArray, List.set_cons_zero, List.set_cons_succ]; rfl)
              apply WZ.takeF (i := 2) (some 39) rfl rfl (by kernel_rfl) (by kernel_rfl) (by kernel_rfl) (calm_panic _) (by kernel_rfl)
              case hy => (refine .inl ⟨by kernel_rfl, fun W hC => ?_⟩; (try dsimp only at hC); go_simp; (try simp only [hd1]); rfl)
              case hC => exact HC
              case ha => (simp only [Act.put, List.setIfInBounds_toArray, List.set_cons_zero, List.set_cons_succ]; rfl)
              apply WZ.takeF (i := 3) (some 40) rfl rfl (by kernel_rfl) (by kernel_rfl) (by kernel_rfl) (calm_panic _) (by kernel_rfl)
              case hy => (refine .inl ⟨by kernel_rfl, fun W hC => ?_⟩; (try dsimp only at hC); go_simp; (try simp only [hd1]); rfl)
              case hC => exact HC
              case ha => (simp only [Act.put, List.setIfInBounds_toArray, List.set_cons_zero, List.set_cons_succ]; rfl)
              apply WZ.takeF (i := 4) (some 41) rfl rfl (by kernel_rfl) (by kernel_rfl) (by kernel_rfl) (calm_panic _) (by kernel_rfl)
              case hy => (refine .inl ⟨by kernel_rfl, fun W hC => ?_⟩; (try dsimp only at hC); go_simp; (try simp only [hd1]); rfl)
              case hC => exact HC
              case ha => (simp only [Act.put, List.setIfInBounds_toArray, List.set_cons_zero, List.set_cons_succ]; rfl)
              apply WZ.take (i := 5) (some 42) rfl rfl (by kernel_rfl) (by kernel_rfl) (by kernel_rfl) (calm_panic _) (by kernel_rfl)
              case hy => (refine .inl ⟨by kernel_rfl, fun W hC => ?_⟩; (try dsimp only at hC); go_simp; (try simp only [hd1]); rfl)
              case hC => exact HC
              case ha => (simp only [Act.put, List.setIfInBounds_toArray, List.set_cons_zero, List.set_cons_succ]; rfl)
              apply WZ.take (i := 6) (some 43) rfl rfl (by kernel_rfl) (by kernel_rfl) (by kernel_rfl) (calm_panic _) (by kernel_rfl)
              case hy => (refine .inl ⟨by kernel_rfl, fun W hC => ?_⟩; (try dsimp only at hC); go_simp; (try simp only [hd1]); rfl)
              case hC => exact HC
              case ha => (simp only [Act.put, List.setIfInBounds_toArray, List.set_cons_zero, List.set_cons_succ]; rfl)
              apply WZ.take (i := 7) (some 44) rfl rfl (by kernel_rfl) (by kernel_rfl) (by kernel_rfl) (calm_panic _) (by kernel_rfl)
              case hy => (refine .inl ⟨by kernel_rfl, fun W hC => ?_⟩; (try dsimp only at hC); go_simp; (try simp only [hd1]); rfl)
              case hC => exact HC
              case ha => (simp only [Act.put, List.setIfInBounds_toArray, List.set_cons_zero, List.set_cons_succ]; rfl)
              apply WZ.take (i := 8) (some 45) rfl rfl (by kernel_rfl) (by kernel_rfl) (by kernel_rfl) (calm_panic _) (by kernel_rfl)
              case hy => (refine .inl ⟨by kernel_rfl, fun W hC => ?_⟩; (try dsimp only at hC); go_simp; (try simp only [hd1]); rfl)
              case hC => exact HC
              case ha => (simp only [Act.put, List.setIfInBounds_toArray, List.set_cons_zero, List.set_cons_succ]; rfl)
              apply WZ.take (i := 9) (some 46) rfl rfl (by kernel_rfl) (by kernel_rfl) (by kernel_rfl) (calm_panic _) (by kernel_rfl)
              case hy => first | (apply yieldsIf_load_mid (by kernel_rfl) _ _ rfl _ _ rfl; (case hS => (intro W hC; exact (show World.rangeAt _ _ _ (It.vals _) from hC.1))); (case hu => exact Try.underlying59); (case hd => rfl); (case hi => kernel_rfl)) | (apply yieldsIf_load_mid (by kernel_rfl) _ _ rfl _ _ rfl; (case hS => (intro W hC; exact (show World.rangeAt _ _ _ (It.vals _) from hC.2.1))); (case hu => exact Try.underlying59); (case hd => rfl); (case hi => kernel_rfl)) | (apply yieldsIf_load_mid (by kernel_rfl) _ _ rfl _ _ rfl; (case hS => (intro W hC; exact (show World.rangeAt _ _ _ (It.vals _) from hC.2.2.1))); (case hu => exact Try.underlying59); (case hd => rfl); (case hi => kernel_rfl)) | (apply yieldsIf_load_mid (by kernel_rfl) _ _ rfl _ _ rfl; (case hS => (intro W hC; exact (show World.rangeAt _ _ _ (It.vals _) from hC.2.2.2.1))); (case hu => exact Try.underlying59); (case hd => rfl); (case hi => kernel_rfl)) | (apply yieldsIf_load_mid (by kernel_rfl) _ _ rfl _ _ rfl; (case hS => (intro W hC; exact (show World.rangeAt _ _ _ (It.vals _) from hC.2.2.2))); (case hu => exact Try.underlying59); (case hd => rfl); (case hi => kernel_rfl)) | (apply yieldsIf_load_mid (by kernel_rfl) _ _ rfl _ _ rfl; (case hS => (intro W hC; exact (show World.rangeAt _ _ _ (It.vals _) from hC.2.2))); (case hu => exact Try.underlying59); (case hd => rfl); (case hi => kernel_rfl)) | (apply yieldsIf_load_mid (by kernel_rfl) _ _ rfl _ _ rfl; (case hS => (intro W hC; exact (show World.rangeAt _ _ _ (It.vals _) from hC.2))); (case hu => exact Try.underlying59); (case hd => rfl); (case hi => kernel_rfl)) | (apply yieldsIf_load_mid (by kernel_rfl) _ _ rfl _ _ rfl; (case hS => (intro W hC; exact (show World.rangeAt _ _ _ (It.vals _) from hC))); (case hu => exact Try.underlying59); (case hd => rfl); (case hi => kernel_rfl))
              case hC => exact HC
              case ha => (simp only [Act.put, List.setIfInBounds_toArray, List.set_cons_zero, List.set_cons_succ]; rfl)
              apply WZ.takeF (i := 10) (some 47) rfl rfl (by kernel_rfl) (by kernel_rfl) (by kernel_rfl) (calm_panic _) (by kernel_rfl)
              case hy => (refine .inl ⟨by kernel_rfl, fun W hC => ?_⟩; (try dsimp only at hC); go_simp; (try simp only [hd1]); rfl)
              case hC => exact HC
              case ha => (simp only [Act.put, List.setIfInBounds_toArray, List.set_cons_zero, List.set_cons_succ]; rfl)
              apply WZ.takeF (i := 11) (some 48) rfl rfl (by kernel_rfl) (by kernel_rfl) (by kernel_rfl) (calm_panic _) (by kernel_rfl)
              case hy => (refine .inl ⟨by kernel_rfl, fun W hC => ?_⟩; (try dsimp only at hC); go_simp; (try simp only [hd1]); rfl)
              case hC => exact HC
              case ha => (simp only [Act.put, List.setIfInBounds_toArray, List.set_cons_zero, List.set_cons_succ]; rfl)
              apply WZ.takeF (i := 12) (some 49) rfl rfl (by kernel_rfl) (by kernel_rfl) (by kernel_rfl) (calm_panic _) (by kernel_rfl)
              case hy => (refine .inl ⟨by kernel_rfl, fun W hC => ?_⟩; (try dsimp only at hC); go_simp; (try simp only [hd1]); rfl)
              case hC => exact HC
              case ha => (simp only [Act.put, List.setIfInBounds_toArray, List.set_cons_zero, List.set_cons_succ]; rfl)
              apply WZ.take (i := 13) (some 50) rfl rfl (by kernel_rfl) (by kernel_rfl) (by kernel_rfl) (calm_panic _) (by kernel_rfl)
              case hy => first | (apply yieldsIf_load_mid (by kernel_rfl) _ _ rfl _ _ rfl; (case hS => (intro W hC; exact (show World.rangeAt _ _ _ (It.vals _) from hC.1))); (case hu => exact Try.underlying59); (case hd => rfl); (case hi => kernel_rfl)) | (apply yieldsIf_load_mid (by kernel_rfl) _ _ rfl _ _ rfl; (case hS => (intro W hC; exact (show World.rangeAt _ _ _ (It.vals _) from hC.2.1))); (case hu => exact Try.underlying59); (case hd => rfl); (case hi => kernel_rfl)) | (apply yieldsIf_load_mid (by kernel_rfl) _ _ rfl _ _ rfl; (case hS => (intro W hC; exact (show World.rangeAt _ _ _ (It.vals _) from hC.2.2.1))); (case hu => exact Try.underlying59); (case hd => rfl); (case hi => kernel_rfl)) | (apply yieldsIf_load_mid (by kernel_rfl) _ _ rfl _ _ rfl; (case hS => (intro W hC; exact (show World.rangeAt _ _ _ (It.vals _) from hC.2.2.2.1))); (case hu => exact Try.underlying59); (case hd => rfl); (case hi => kernel_rfl)) | (apply yieldsIf_load_mid (by kernel_rfl) _ _ rfl _ _ rfl; (case hS => (intro W hC; exact (show World.rangeAt _ _ _ (It.vals _) from hC.2.2.2))); (case hu => exact Try.underlying59); (case hd => rfl); (case hi => kernel_rfl)) | (apply yieldsIf_load_mid (by kernel_rfl) _ _ rfl _ _ rfl; (case hS => (intro W hC; exact (show World.rangeAt _ _ _ (It.vals _) from hC.2.2))); (case hu => exact Try.underlying59); (case hd => rfl); (case hi => kernel_rfl)) | (apply yieldsIf_load_mid (by kernel_rfl) _ _ rfl _ _ rfl; (case hS => (intro W hC; exact (show World.rangeAt _ _ _ (It.vals _) from hC.2))); (case hu => exact Try.underlying59); (case hd => rfl); (case hi => kernel_rfl)) | (apply yieldsIf_load_mid (by kernel_rfl) _ _ rfl _ _ rfl; (case hS => (intro W hC; exact (show World.rangeAt _ _ _ (It.vals _) from hC))); (case hu => exact Try.underlying59); (case hd => rfl); (case hi => kernel_rfl))
              case hC => exact HC
              case ha => (simp only [Act.put, List.setIfInBounds_toArray, List.set_cons_zero, List.set_cons_succ]; rfl)
              apply WZ.take (i := 14) (some 51) rfl rfl (by kernel_rfl) (by kernel_rfl) (by kernel_rfl) (calm_panic _) (by kernel_rfl)
              case hy => (refine .inl ⟨by kernel_rfl, fun W hC => ?_⟩; (try dsimp only at hC); go_simp; (try simp only [hd1]); rfl)
              case hC => exact HC
              case ha => (simp only [Act.put, List.setIfInBounds_toArray, List.set_cons_zero, List.set_cons_succ]; rfl)
              -- 15
              refine WZ.last (i := 15) rfl (by kernel_rfl) (by kernel_rfl) ?_
              conv => arg 4; arg 1; whnf
              refine wpList_store_mid rfl 59 _ _ rfl g (j * 7) _ rfl rfl (HA1.drew.there_at hjl) (by kernel_rfl) (all_oneCell_toArray (It.one _)) ?_
              have HA2 := HA1.drew.set (It.vals_len) hjl z
              -- 16
              refine WZ.last (i := 16) rfl (by kernel_rfl) (by kernel_rfl) ?_
              conv => arg 4; arg 1; whnf
              go_wp2
              -- 17
              refine WZ.last (i := 17) rfl (by kernel_rfl) (by kernel_rfl) ?_
              conv => arg 4; arg 1; whnf
              refine wpList_store_mid rfl 59 _ _ rfl g (j1 * 7) _ rfl rfl (HA2.1.there_at hj1l) (by kernel_rfl) (all_oneCell_toArray (It.one _)) ?_
              have HA3 := HA2.1.set (It.vals_len) hj1l x
              refine WZ.done (by kernel_rfl) ?_ _
              simp only [Calm, Exit.then]
              go_wp2
              refine ⟨⟨j1, t, z :: s2, rfl, HJJ.out.2.1, hgo, HW2, Lib.hid ?_, Lib.hid (grownBy_trans (grownBy_drew1 HG1) (grownBy_trans HA2.2 HA3.2))⟩, ?_⟩
              · have := HA3.1
                rw [HSW.out] at this
                simpa only [List.append_assoc, List.cons_append] using this
              · have := HJJ.out.1
                simp [intOf]; omega
            · have hcmp' : 0 ≤ It.cmp x z := by omega
              have hltz : It.lt x z = false := decide_eq_false hcmp
              have HF2 := Lib.hid (HWAY.out.done HW.out HS.out (fun y hy => by
                rw [hs1] at hy
                simp at hy
                rw [← hy]; exact hltz))
              have hw3 : IntKind.i64.wrap ((i : Int) + 1) = ((a + (n + 1) : Nat) : Int) := by rw [IntWalk.i64_in _ (by omega)]; omega
              clear hl i1 i2 i3 i4 i5 hj hjj hj1 hfull hxt hjl hj1l htl hs1 hltz
              go_wp2
              refine region_wz (fun W' => W'.rangeAt g (j * 7) (It.vals x) ∧ W'.rangeAt g (j1 * 7) (It.vals z)) none (by kernel_rfl) ?_
              apply WZ.take (i := 0) (some 18) rfl rfl (by kernel_rfl) (by kernel_rfl) (by kernel_rfl) (calm_panic _) (by kernel_rfl)
              case hy => (refine .inl ⟨by kernel_rfl, fun W hC => ?_⟩; (try dsimp only at hC); go_simp; (try simp only [e1,e2,hd1]); rfl)
              case hC => exact HC
              case ha => (simp only [Act.put, List.setIfInBounds_toArray, List.set_cons_zero, List.set_cons_succ]; rfl)
              apply WZ.take (i := 1) (some 19) rfl rfl (by kernel_rfl) (by kernel_rfl) (by kernel_rfl) (calm_panic _) (by kernel_rfl)
              case hy => (refine .inl ⟨by kernel_rfl, fun W hC => ?_⟩; (try dsimp only at hC); go_simp; (try simp only [e1,e2,hd1]); rfl)
              case hC => exact HC
              case ha => (simp only [Act.put, List.setIfInBounds_toArray, List.set_cons_zero, List.set_cons_succ]; rfl)
              apply WZ.take (i := 2) (some 20) rfl rfl (by kernel_rfl) (by kernel_rfl) (by kernel_rfl) (calm_panic _) (by kernel_rfl)
              case hy => (refine .inl ⟨by kernel_rfl, fun W hC => ?_⟩; (try dsimp only at hC); go_simp; (try simp only [e1,e2,hd1]); rfl)
              case hC => exact HC
              case ha => (simp only [Act.put, List.setIfInBounds_toArray, List.set_cons_zero, List.set_cons_succ]; rfl)
              apply WZ.take (i := 3) (some 21) rfl rfl (by kernel_rfl) (by kernel_rfl) (by kernel_rfl) (calm_panic _) (by kernel_rfl)
              case hy => (refine .inl ⟨by kernel_rfl, fun W hC => ?_⟩; (try dsimp only at hC); go_simp; (try simp only [e1,e2,hd1]); rfl)
              case hC => exact HC
              case ha => (simp only [Act.put, List.setIfInBounds_toArray, List.set_cons_zero, List.set_cons_succ]; rfl)
              apply WZ.take (i := 4) (some 22) rfl rfl (by kernel_rfl) (by kernel_rfl) (by kernel_rfl) (calm_panic _) (by kernel_rfl)
              case hy => (refine .inl ⟨by kernel_rfl, fun W hC => ?_⟩; (try dsimp only at hC); go_simp; (try simp only [e1,e2,hd1]); rfl)
              case hC => exact HC
              case ha => (simp only [Act.put, List.setIfInBounds_toArray, List.set_cons_zero, List.set_cons_succ]; rfl)
              apply WZ.take (i := 5) (some 23) rfl rfl (by kernel_rfl) (by kernel_rfl) (by kernel_rfl) (calm_panic _) (by kernel_rfl)
              case hy => (refine .inl ⟨by kernel_rfl, fun W hC => ?_⟩; (try dsimp only at hC); go_simp; (try simp only [e1,e2,hd1]); rfl)
              case hC => exact HC
              case ha => (simp only [Act.put, List.setIfInBounds_toArray, List.set_cons_zero, List.set_cons_succ]; rfl)
              apply WZ.take (i := 6) (some 24) rfl rfl (by kernel_rfl) (by kernel_rfl) (by kernel_rfl) (calm_panic _) (by kernel_rfl)
              case hy => (refine .inl ⟨by kernel_rfl, fun W hC => ?_⟩; (try dsimp only at hC); go_simp; (try simp only [e1,e2,hd1]); rfl)
              case hC => exact HC
              case ha => (simp only [Act.put, List.setIfInBounds_toArray, List.set_cons_zero, List.set_cons_succ]; rfl)
              apply WZ.take (i := 7) (some 25) rfl rfl (by kernel_rfl) (by kernel_rfl) (by kernel_rfl) (calm_panic _) (by kernel_rfl)
              case hy => (refine .inl ⟨by kernel_rfl, fun W hC => ?_⟩; (try dsimp only at hC); go_simp; (try simp only [e1,e2,hd1]); rfl)
              case hC => exact HC
              case ha => (simp only [Act.put, List.setIfInBounds_toArray, List.set_cons_zero, List.set_cons_succ]; rfl)
              apply WZ.take (i := 8) (some 26) rfl rfl (by kernel_rfl) (by kernel_rfl) (by kernel_rfl) (calm_panic _) (by kernel_rfl)
              case hy => first | (apply yieldsIf_load_mid (by kernel_rfl) _ _ rfl _ _ rfl; (case hS => (intro W hC; exact (show World.rangeAt _ _ _ (It.vals _) from hC.1))); (case hu => exact Try.underlying59); (case hd => rfl); (case hi => kernel_rfl)) | (apply yieldsIf_load_mid (by kernel_rfl) _ _ rfl _ _ rfl; (case hS => (intro W hC; exact (show World.rangeAt _ _ _ (It.vals _) from hC.2.1))); (case hu => exact Try.underlying59); (case hd => rfl); (case hi => kernel_rfl)) | (apply yieldsIf_load_mid (by kernel_rfl) _ _ rfl _ _ rfl; (case hS => (intro W hC; exact (show World.rangeAt _ _ _ (It.vals _) from hC.2.2.1))); (case hu => exact Try.underlying59); (case hd => rfl); (case hi => kernel_rfl)) | (apply yieldsIf_load_mid (by kernel_rfl) _ _ rfl _ _ rfl; (case hS => (intro W hC; exact (show World.rangeAt _ _ _ (It.vals _) from hC.2.2.2.1))); (case hu => exact Try.underlying59); (case hd => rfl); (case hi => kernel_rfl)) | (apply yieldsIf_load_mid (by kernel_rfl) _ _ rfl _ _ rfl; (case hS => (intro W hC; exact (show World.rangeAt _ _ _ (It.vals _) from hC.2.2.2))); (case hu => exact Try.underlying59); (case hd => rfl); (case hi => kernel_rfl)) | (apply yieldsIf_load_mid (by kernel_rfl) _ _ rfl _ _ rfl; (case hS => (intro W hC; exact (show World.rangeAt _ _ _ (It.vals _) from hC.2.2))); (case hu => exact Try.underlying59); (case hd => rfl); (case hi => kernel_rfl)) | (apply yieldsIf_load_mid (by kernel_rfl) _ _ rfl _ _ rfl; (case hS => (intro W hC; exact (show World.rangeAt _ _ _ (It.vals _) from hC.2))); (case hu => exact Try.underlying59); (case hd => rfl); (case hi => kernel_rfl)) | (apply yieldsIf_load_mid (by kernel_rfl) _ _ rfl _ _ rfl; (case hS => (intro W hC; exact (show World.rangeAt _ _ _ (It.vals _) from hC))); (case hu => exact Try.underlying59); (case hd => rfl); (case hi => kernel_rfl))
              case hC => exact HC
              case ha => (simp only [Act.put, List.setIfInBounds_toArray, List.set_cons_zero, List.set_cons_succ]; rfl)
              apply WZ.take (i := 9) (some 27) rfl rfl (by kernel_rfl) (by kernel_rfl) (by kernel_rfl) (calm_panic _) (by kernel_rfl)
              case hy => (refine .inl ⟨by kernel_rfl, fun W hC => ?_⟩; (try dsimp only at hC); go_simp; (try simp only [e1,e2,hd1]); rfl)
              case hC => exact HC
              case ha => (simp only [Act.put, List.setIfInBounds_toArray, List.set_cons_zero, List.set_cons_succ]; rfl)
              apply WZ.take (i := 10) (some 28) rfl rfl (by kernel_rfl) (by kernel_rfl) (by kernel_rfl) (calm_panic _) (by kernel_rfl)
              case hy => (refine .inl ⟨by kernel_rfl, fun W hC => ?_⟩; (try dsimp only at hC); go_simp; (try simp only [e1,e2,hd1]); rfl)
              case hC => exact HC
              case ha => (simp only [Act.put, List.setIfInBounds_toArray, List.set_cons_zero, List.set_cons_succ]; rfl)
              apply WZ.take (i := 11) (some 29) rfl rfl (by kernel_rfl) (by kernel_rfl) (by kernel_rfl) (calm_panic _) (by kernel_rfl)
              case hy => (refine .inl ⟨by kernel_rfl, fun W hC => ?_⟩; (try dsimp only at hC); go_simp; (try simp only [e1,e2,hd1]); rfl)
              case hC => exact HC
              case ha => (simp only [Act.put, List.setIfInBounds_toArray, List.set_cons_zero, List.set_cons_succ]; rfl)
              apply WZ.take (i := 12) (some 30) rfl rfl (by kernel_rfl) (by kernel_rfl) (by kernel_rfl) (calm_panic _) (by kernel_rfl)
              case hy => (refine .inl ⟨by kernel_rfl, fun W hC => ?_⟩; (try dsimp only at hC); go_simp; (try simp only [e1,e2,hd1]); rfl)
              case hC => exact HC
              case ha => (simp only [Act.put, List.setIfInBounds_toArray, List.set_cons_zero, List.set_cons_succ]; rfl)
              apply WZ.take (i := 13) (some 31) rfl rfl (by kernel_rfl) (by kernel_rfl) (by kernel_rfl) (calm_panic _) (by kernel_rfl)
              case hy => first | (apply yieldsIf_load_mid (by kernel_rfl) _ _ rfl _ _ rfl; (case hS => (intro W hC; exact (show World.rangeAt _ _ _ (It.vals _) from hC.1))); (case hu => exact Try.underlying59); (case hd => rfl); (case hi => kernel_rfl)) | (apply yieldsIf_load_mid (by kernel_rfl) _ _ rfl _ _ rfl; (case hS => (intro W hC; exact (show World.rangeAt _ _ _ (It.vals _) from hC.2.1))); (case hu => exact Try.underlying59); (case hd => rfl); (case hi => kernel_rfl)) | (apply yieldsIf_load_mid (by kernel_rfl) _ _ rfl _ _ rfl; (case hS => (intro W hC; exact (show World.rangeAt _ _ _ (It.vals _) from hC.2.2.1))); (case hu => exact Try.underlying59); (case hd => rfl); (case hi => kernel_rfl)) | (apply yieldsIf_load_mid (by kernel_rfl) _ _ rfl _ _ rfl; (case hS => (intro W hC; exact (show World.rangeAt _ _ _ (It.vals _) from hC.2.2.2.1))); (case hu => exact Try.underlying59); (case hd => rfl); (case hi => kernel_rfl)) | (apply yieldsIf_load_mid (by kernel_rfl) _ _ rfl _ _ rfl; (case hS => (intro W hC; exact (show World.rangeAt _ _ _ (It.vals _) from hC.2.2.2))); (case hu => exact Try.underlying59); (case hd => rfl); (case hi => kernel_rfl)) | (apply yieldsIf_load_mid (by kernel_rfl) _ _ rfl _ _ rfl; (case hS => (intro W hC; exact (show World.rangeAt _ _ _ (It.vals _) from hC.2.2))); (case hu => exact Try.underlying59); (case hd => rfl); (case hi => kernel_rfl)) | (apply yieldsIf_load_mid (by kernel_rfl) _ _ rfl _ _ rfl; (case hS => (intro W hC; exact (show World.rangeAt _ _ _ (It.vals _) from hC.2))); (case hu => exact Try.underlying59); (case hd => rfl); (case hi => kernel_rfl)) | (apply yieldsIf_load_mid (by kernel_rfl) _ _ rfl _ _ rfl; (case hS => (intro W hC; exact (show World.rangeAt _ _ _ (It.vals _) from hC))); (case hu => exact Try.underlying59); (case hd => rfl); (case hi => kernel_rfl))
              case hC => exact HC
              case ha => (simp only [Act.put, List.setIfInBounds_toArray, List.set_cons_zero, List.set_cons_succ]; rfl)
              -- 14
              refine WZ.one (i := 14) rfl (by kernel_rfl) ?_
              conv => arg 4; arg 1; whnf
              go_wp2_with (go_at_call 53; refine (itemCompare_any x z _).mono ?_; rintro e w1 ⟨rfl, hb1⟩)
              have HG1 := grownBy_trans (grownBy_drew1 HG.out) (grownBy_below hb1 (some g))
              have HA1 := HA.out.drew.below hb1 (HA.out.drew.lt)
              have HC : w1.rangeAt g (j * 7) (It.vals x) ∧ w1.rangeAt g (j1 * 7) (It.vals z) := ⟨HA1.get HX1.out, HA1.get HX2.out⟩
              clear hb1
              refine ⟨HC, ?_⟩
              apply WZ.take (i := 15) (some 33) rfl rfl (by kernel_rfl) (by kernel_rfl) (by kernel_rfl) (calm_panic _) (by kernel_rfl)
              case hy => (refine .inl ⟨by kernel_rfl, fun W hC => ?_⟩; (try dsimp only at hC); go_simp; (try simp only [e1,e2,hd1]); rfl)
              case hC => exact HC
              case ha => (simp only [Act.put, List.setIfInBounds_toArray, List.set_cons_zero, List.set_cons_succ]; rfl)
              apply WZ.take (i := 16) (some 34) rfl rfl (by kernel_rfl) (by kernel_rfl) (by kernel_rfl) (calm_panic _) (by kernel_rfl)
              case hy => (refine .inl ⟨by kernel_rfl, fun W hC => ?_⟩; (try dsimp only at hC); go_simp; (try simp only [e1,e2,hd1]); rfl)
              case hC => exact HC
              case ha => (simp only [Act.put, List.setIfInBounds_toArray, List.set_cons_zero, List.set_cons_succ]; rfl)
              refine WZ.done (by kernel_rfl) ?_ _
              simp only [Calm, Exit.then]
              go_wp2
              refine ⟨⟨n + 1, s1 ++ [x] ++ s2, rfl, by omega, HI.out.2.1, by rw [HT.out]; exact HF2, Lib.hid ?_, Lib.hid HG1⟩, ?_⟩
              · have := HA1
                rw [HJJ.out.2.2.1]
                simpa only [List.append_assoc, List.cons_append, List.nil_append] using this
              · have := HI.out
                simp [intOf]; omega
      · have e1 : decide ((i : Int) < (b : Int)) = false := decide_eq_false (by omega)
        have hnY : n = Y.length := by omega
        have HNY := Lib.hid hnY
        clear hnY hl1 f1 f2 f3 h0
        go_wp2
        go_end0
        have h1 := HS.out
        have h2 := HA.out
        rw [HNY.out, List.take_length] at h1
        rw [HNY.out, List.drop_length, List.append_nil] at h2
        exact ⟨rfl, Y1, h1, h2, HG.out⟩
end Go.Proofs.Ytflppcgonbjnmaa
