/-
  The walk of the law CutSplits.
-/
import Derived.Test.YteacjikkojglmaaSpec
namespace Go.Proofs.Yteacjikkojglmaa
open Go.RowKit Go.Shelf
attribute [local go_sem ↓] Go.wp_at_zero Go.wp_at_succ

theorem bnd_parts {l : List Cl} {ss : List ByteArray} (h : bnd l ss = true) : l.length ≤ 80 ∧ ss.length ≤ 40 := by
  unfold bnd at h
  have := of_decide_eq_true h
  exact this.2.2

set_option maxHeartbeats 4000000 in
theorem cutSplits_any (A S : Option Addr) (c d : Nat) (l : List Cl) (ss : List ByteArray) (row : ByteArray) (w : World) (hl : Rd w w.heap.size A (vals l)) (hs : Rd w w.heap.size S (strs ss)) (hlen : l.length ≤ maxLen) (hlen' : ss.length ≤ maxLen) (hcap : l.length ≤ c) :
    Calls Try.prog 3 #[.slice A l.length c, .slice S ss.length d, .string row] w fun e w' => e = .returned (.bool true) ∧ Below w.heap.size w w' := by
  have HL := Lib.hid hlen
  have HL' := Lib.hid hlen'
  clear hlen hlen'
  go_enter Try.func3, Try.ntmps3
  by_cases hb : bnd l ss = true
  · by_cases hr : row.size ≤ 100
    · have d1 : decide ((100 : Int) < (row.size : Int)) = false := decide_eq_false (by omega)
      obtain ⟨b1, b2⟩ := bnd_parts hb
      go_wp2_with (first
        | (go_at_call 9; refine (bounded_any A S c d l ss _ _ hl hs HL.out HL'.out).mono ?_; rw [hb]; rintro e w1 ⟨rfl, rfl⟩)
        | (go_at_call 10; refine (shown_any _).mono ?_; rintro e w1 ⟨rfl, hb1⟩
           have hl1 := (hl.below hb1).more hb1.size
           have hs1 := (hs.below hb1).more hb1.size
           have hz1 := hb1.size)
        | (go_at_call 11; refine (cutSplit_any A S c d l ss _ hl1 hs1 (by omega) (by omega) hcap).mono ?_; rintro e w2 ⟨A1, n1, c1, vs, rfl, ho1, hls1, hb2⟩
           have hl2 := (hl1.below hb2).more hb2.size
           have hs2 := (hs1.below hb2).more hb2.size
           have hn1 : n1 ≤ 1000 := by rw [← ho1.vals_len, hls1.1]; exact Nat.le_trans splitSpec_count (by omega)
           have hz2 := hb2.size)
        | (go_at_call 12; refine (refSplit_any A S c d l ss _ hl2 hs2 (by omega) (by omega)).mono ?_; rintro e w3 ⟨A2, n2, c2, us, rfl, ho2, hls2, hb3⟩
           have hs3 := (hs2.below hb3).more hb3.size
           have hn2 : n2 ≤ 1000 := by rw [← ho2.vals_len, hls2.1]; exact Nat.le_trans splitSpec_count (by omega)
           have hz3 := hb3.size)
        | (go_at_call 13; refine (sameLists_any A1 A2 n1 n2 c1 c2 vs us (splitSpec l ss).1 (splitSpec l ss).1 _ w3.heap.size (((Own.rd ho1 (by decide)).below hb3).more hz3) (Own.rd ho2 (by decide)) ((hls1.rds.below hb3).more hz3) hls2.rds ho1.vals_len ho2.vals_len (by unfold maxLen; omega) (by unfold maxLen; omega)
             (fun p hp => by have := splitSpec_len p hp; unfold maxLen; omega) (fun p hp => by have := splitSpec_len p hp; unfold maxLen; omega)).mono ?_; rw [decide_eq_true rfl]; rintro e w4 ⟨rfl, nq, rfl⟩)
        | (go_at_call 14; refine (cutBorders_any S d ss _ w3.heap.size (hs3.drewN nq) (by unfold maxLen; omega)).mono ?_; rintro e w5 ⟨rfl, rfl⟩)
        | (go_at_call 15; refine (refBorders_any S d ss _ w3.heap.size (hs3.drewN nq) (by unfold maxLen; omega)).mono ?_; rintro e w6 ⟨rfl, nq2, rfl⟩)
        | (go_at_call 16; refine (cutPlace_any S d ss row _ w3.heap.size (hs3.drewN (nq + nq2)) (by unfold maxLen; omega)).mono ?_; rintro e w7 ⟨rfl, rfl⟩)
        | (go_at_call 17; refine (refPlace_any S d ss row _ w3.heap.size (hs3.drewN (nq + nq2)) (by unfold maxLen; omega)).mono ?_; rintro e w8 ⟨rfl, rfl⟩))
      go_ret
      exact ⟨rfl, below_drewN (hb1.trans ((hb2.mono hz1).trans (hb3.mono (Nat.le_trans hz1 hz2)))) _⟩
    · have d1 : decide ((100 : Int) < (row.size : Int)) = true := decide_eq_true (by omega)
      go_wp2_with (first
        | (go_at_call 9; refine (bounded_any A S c d l ss _ _ hl hs HL.out HL'.out).mono ?_; rw [hb]; rintro e w1 ⟨rfl, rfl⟩)
        | (go_at_call 10; refine (shown_any _).mono ?_; rintro e w1 ⟨rfl, hb1⟩))
      go_ret
      exact ⟨rfl, hb1⟩
  · have hb' : bnd l ss = false := by simpa using hb
    clear hb
    go_wp2_with (first
        | (go_at_call 9; refine (bounded_any A S c d l ss _ _ hl hs HL.out HL'.out).mono ?_; rw [hb']; rintro e w1 ⟨rfl, rfl⟩)
        | (go_at_call 10; refine (shown_any _).mono ?_; rintro e w1 ⟨rfl, hb1⟩))
    go_ret
    exact ⟨rfl, hb1⟩
end Go.Proofs.Yteacjikkojglmaa
