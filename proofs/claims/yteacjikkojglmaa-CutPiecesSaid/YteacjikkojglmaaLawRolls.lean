/-
  The walk of the law CutRolls.
-/
import Derived.Test.YteacjikkojglmaaLawSplits
namespace Go.Proofs.Yteacjikkojglmaa
open Go.RowKit Go.Shelf
attribute [local go_sem ↓] Go.wp_at_zero Go.wp_at_succ

set_option maxHeartbeats 4000000 in
theorem cutRolls_any (A : Option Addr) (c : Nat) (l : List Cl) (most : Int) (w : World) (hl : Rd w w.heap.size A (vals l)) (hlen : l.length ≤ maxLen) (hcap : l.length ≤ c) (hm : most ≤ 9223372036854775807) :
    Calls Try.prog 4 #[.slice A l.length c, .int .i64 most] w fun e w' => e = .returned (.bool true) ∧ Below w.heap.size w w' := by
  have HL := Lib.hid hlen
  clear hlen
  go_enter Try.func4, Try.ntmps4
  by_cases hb : bnd l [] = true
  · obtain ⟨b1, _⟩ := bnd_parts hb
    go_wp2_with (first
        | (go_at_call 9; refine (bounded_any A none c 0 l [] _ _ hl Rd.nil HL.out (Nat.zero_le _)).mono ?_; rw [hb]; rintro e w1 ⟨rfl, rfl⟩)
        | (go_at_call 10; refine (shown_any _).mono ?_; rintro e w1 ⟨rfl, hb1⟩
           have hl1 := (hl.below hb1).more hb1.size
           have hz1 := hb1.size)
        | (go_at_call 18; refine (cutRoll_any A c l most _ hl1 (by omega) hcap hm).mono ?_; rintro e w2 ⟨A1, n1, c1, vs, rfl, ho1, hls1, hb2⟩
           have hl2 := (hl1.below hb2).more hb2.size
           have hn1 : n1 ≤ 1000 := by rw [← ho1.vals_len, hls1.1]; exact Nat.le_trans rollSpec_count (by omega)
           have hz2 := hb2.size)
        | (go_at_call 19; refine (refRoll_any A c l most _ hl2 (by omega) hcap hm).mono ?_; rintro e w3 ⟨A2, n2, c2, us, rfl, ho2, hls2, hb3⟩
           have hn2 : n2 ≤ 1000 := by rw [← ho2.vals_len, hls2.1]; exact Nat.le_trans rollSpec_count (by omega)
           have hz3 := hb3.size)
        | (go_at_call 13; refine (sameLists_any A1 A2 n1 n2 c1 c2 vs us (rollSpec l most).1 (rollSpec l most).1 _ w3.heap.size (((Own.rd ho1 (by decide)).below hb3).more hz3) (Own.rd ho2 (by decide)) ((hls1.rds.below hb3).more hz3) hls2.rds ho1.vals_len ho2.vals_len (by unfold maxLen; omega) (by unfold maxLen; omega)
             (fun p hp => by have := rollSpec_len p hp; unfold maxLen; omega) (fun p hp => by have := rollSpec_len p hp; unfold maxLen; omega)).mono ?_; rw [decide_eq_true rfl]; rintro e w4 ⟨rfl, nq, rfl⟩))
    go_ret
    exact ⟨rfl, below_drewN (hb1.trans ((hb2.mono hz1).trans (hb3.mono (Nat.le_trans hz1 hz2)))) _⟩
  · have hb' : bnd l [] = false := by simpa using hb
    clear hb
    go_wp2_with (first
        | (go_at_call 9; refine (bounded_any A none c 0 l [] _ _ hl Rd.nil HL.out (Nat.zero_le _)).mono ?_; rw [hb']; rintro e w1 ⟨rfl, rfl⟩)
        | (go_at_call 10; refine (shown_any _).mono ?_; rintro e w1 ⟨rfl, hb1⟩))
    go_ret
    exact ⟨rfl, hb1⟩
end Go.Proofs.Yteacjikkojglmaa
