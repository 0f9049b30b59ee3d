/-
  The walk of the document's own Roll.
-/
import Derived.Test.YteacjikkojglmaaRefRollInv
namespace Go.Proofs.Yteacjikkojglmaa
open Go.RowKit Go.Shelf
attribute [local go_sem ↓] Go.wp_at_zero Go.wp_at_succ

set_option maxHeartbeats 1000000 in
theorem refRoll_bad (A : Option Addr) (c : Nat) (l : List Cl) (most : Int) (w : World) (hm : most < 1) :
    Calls Try.prog 19 #[.slice A l.length c, .int .i64 most] w fun e w' => e = .returned (.tuple #[.slice none 0 0, .int .i64 1]) ∧ w' = w := by
  go_enter Try.func19, Try.ntmps19
  have hmd : decide (most < 1) = true := decide_eq_true hm
  go_wp2
  go_ret2
  exact ⟨rfl, rfl⟩
set_option maxHeartbeats 1000000 in
theorem refRoll_low (A : Option Addr) (c : Nat) (l : List Cl) (most : Int) (w : World) (hl : Rd w w.heap.size A (vals l)) (hlen : l.length ≤ 1000) (hm : 1 ≤ most) (hr : rising l = false) :
    Calls Try.prog 19 #[.slice A l.length c, .int .i64 most] w fun e w' => e = .returned (.tuple #[.slice none 0 0, .int .i64 40]) ∧ Below w.heap.size w w' := by
  go_enter Try.func19, Try.ntmps19
  have hmd : decide (most < 1) = false := decide_eq_false (by omega)
  go_wp2_with (go_at_call 23; refine (refRising_any A c l _ hl (by unfold maxLen; omega)).mono ?_; rintro e w1 ⟨rfl, hb1⟩)
  go_ret2
  exact ⟨rfl, hb1⟩

set_option maxHeartbeats 4000000 in
theorem refRoll_ok (A : Option Addr) (c : Nat) (l : List Cl) (most : Nat) (w : World) (hl : Rd w w.heap.size A (vals l)) (hlen : l.length ≤ 1000) (hcap : l.length ≤ c) (hm : 1 ≤ most) (hm2 : most ≤ 9223372036854775807) (hr : rising l = true) :
    Calls Try.prog 19 #[.slice A l.length c, .int .i64 most] w fun e w' => ∃ (A' : Option Addr) (n' c' : Nat) (vs : List Value), e = .returned (.tuple #[.slice A' n' c', .int .i64 0]) ∧
      Own w' w.heap.size 22 1 A' n' c' vs ∧ Lists w' w.heap.size vs (roll l most) ∧ Below w.heap.size w w' := by
  obtain ⟨i0, hi0, hz0, hz1, hz2⟩ := info_parts sliceInfo
  obtain ⟨j0, hj0, jz0, jz1, jz2⟩ := info_parts cellInfo
  go_enter Try.func19, Try.ntmps19
  have hmd : decide ((most : Int) < 1) = false := decide_eq_false (by omega)
  go_wp2_with (go_at_call 23; refine (refRising_any A c l _ hl (by unfold maxLen; omega)).mono ?_; rintro e w1 ⟨rfl, hb1⟩)
  have HI0 := Lib.hid (RefRoll.zero most hl hcap hb1)
  clear hl hb1
  go_loopw [0, 6, 7] (fun rest out cur wr => ∃ (t : List Cl) (At : Option Addr) (tc : Nat) (Ao : Option Addr) (no co : Nat) (vs : List Value) (ps : List (List Cl)) (An : Option Addr) (cn : Nat) (now : List Cl) (N : Nat), rest = .slice At t.length tc ∧ out = .slice Ao no co ∧ cur = .slice An now.length cn ∧
    (now = [] → ps = []) ∧ Hid (RefRoll w l most t At tc Ao no co vs ps An cn now N wr)) (fun rest _ _ _ => match rest with | .slice _ n _ => n | _ => 0)
  case atStart => exact ⟨_, _, _, _, _, _, _, _, _, _, _, _, rfl, rfl, rfl, fun _ => rfl, HI0⟩
  case round =>
    obtain ⟨t, At, tc, Ao, no, co, vs, ps, An, cn, now, N, rfl, rfl, rfl, hnp, HI⟩ := hrel
    have HNP := Lib.hid hnp
    have hlens := HI.out.2.2.2.2.2.2.2.2.1
    have htc := HI.out.2.1
    clear hnp
    by_cases h0 : 0 < t.length
    · have d0 : decide ((0 : Int) < (t.length : Int)) = true := decide_eq_true (by omega)
      obtain ⟨b, o, rfl, hb, hc⟩ := HI.out.1.at_ (vals_ne h0)
      have HC := Lib.hid hc
      obtain ⟨z0, _⟩ := Rd.cell_at (B := 0) hc 0 h0
      rw [Nat.zero_mul, Nat.add_zero] at z0
      clear hc
      go_wp2
      go_loopw [8] (fun i wr' => ∃ (n nq : Nat), i = .int .i64 n ∧ Hid (Group t n) ∧ wr' = wr.drewN nq) (fun i _ => t.length - (intOf i).toNat)
      case atStart => exact ⟨1, 0, rfl, Lib.hid ⟨Nat.le_refl _, h0, fun j hj _ h1 => by (have : j = 0 := by omega); subst this; rfl⟩, rfl⟩
      case round =>
        obtain ⟨n, q0, rfl, HG, rfl⟩ := hrel
        have g1 := HG.out.1
        have g2 := HG.out.2.1
        by_cases hn : n < t.length
        · have i1 : (0 : Int) ≤ (n : Int) := by omega
          have i2 : (n : Int) < (t.length : Int) := by omega
          have i3 : (0 : Int) < (t.length : Int) := by omega
          have i4 : decide ((n : Int) < (t.length : Int)) = true := decide_eq_true i2
          obtain ⟨y0, _⟩ := Rd.cell_at (B := 0) HC.out n hn
          by_cases hrow : t[n].row = t[0].row
          · have hq : (t[n].row.toList == t[0].row.toList) = true := by rw [hrow]; simp
            have HG2 := Lib.hid (HG.out.succ hn hrow)
            clear hrow
            go_wp2
            go_quiet (fail)
            go_wp2
            go_roundw
            case rel => exact ⟨n + 1, _, by go_num, HG2, rfl⟩
            case measure => simp [intOf]; omega
          · have hq : (t[n].row.toList == t[0].row.toList) = false := by rw [beq_eq_false_iff_ne]; intro e; exact hrow (toList_inj e)
            have HE := Lib.hid (show ∀ (hj : n < t.length) (h0 : 0 < t.length), t[n].row ≠ t[0].row from fun _ _ => hrow)
            clear hrow
            go_wp2
            go_quiet (fail)
            have hsl := fun W => run_tail (P := Try.prog) (t := 22) (e := 50) (size := 6) Try.underlying22 hj0 jz1 (some ⟨b, o, none⟩) t.length tc n g2 W
            have k1 : (0 : Int) ≤ (n : Int) := by omega
            have k2 : (n : Int) ≤ (t.length : Int) := by omega
            have k3 : (n : Int) ≤ (tc : Int) := by omega
            have k4 : (t.length : Int) ≤ (tc : Int) := by omega
            have hsum : IntKind.i64.wrap ((now.length : Int) + (n : Int)) = (now.length : Int) + (n : Int) := IntWalk.i64_in _ (by omega)
            rw [World.drewN_drewN]
            have HI1 := Lib.hid (HI.out.drewN (q0 + nq))
            by_cases hnow : 0 < now.length
            · have d1 : decide ((0 : Int) < (now.length : Int)) = true := decide_eq_true (by omega)
              have hnn : now ≠ [] := List.length_pos_iff.1 hnow
              have HNN := Lib.hid hnn
              clear hnn
              by_cases hfit : now.length + n ≤ most
              · have d2 : decide ((most : Int) < (now.length : Int) + (n : Int)) = false := decide_eq_false (by omega)
                have hl2 : (t.take n).length = n := by rw [List.length_take]; omega
                have hrd2 := HI1.out.1.head n
                go_wp2_with (at_builtin; go_loud (refine wpList_app _ rfl _ _ _ rfl _ 50 j0 zeroCell 6 72 Try.underlying22 hj0 jz0 jz1 jz2 rfl (by decide) _ _ _ _ rfl HI1.out.2.2.2.2.2.1 _ _ n _ (vals (t.take n)) rfl hrd2 (by rw [length_vals, hl2]; omega) (vals_one _) (by unfold maxLen; omega) (by omega) HI1.out.2.2.2.2.2.2.2.1 ?_); intro A4 c4 w4 ho4 hg4 hat4)
                have HF := Lib.hid (HI1.out.more HG.out HE.out (fun _ => hfit) (fun e => absurd e HNN.out) rfl ho4 hg4)
                clear ho4 hg4 hat4
                exact ⟨⟨_, _, _, _, _, _, _, _, _, _, _, _, by rw [List.length_drop], rfl, (by rw [List.length_append, hl2]; try simp), fun e => absurd (List.append_eq_nil_iff.1 e).2 (fun e => by rw [e] at hl2; simp at hl2; omega), HF⟩, by simp; omega⟩
              · have d2 : decide ((most : Int) < (now.length : Int) + (n : Int)) = true := decide_eq_true (by omega)
                have HA0 := Lib.hid (Own.alloc HI1.out.2.2.1 (.cells #[.slice An now.length cn] 22))
                have hbz := HI1.out.2.2.2.2.2.2.2.2.2.2.size
                have hl2 : (t.take n).length = n := by rw [List.length_take]; omega
                go_wp2_with (first | (at_builtin; (refine wpList_app _ rfl _ _ _ rfl w.heap.size 22 i0 (.slice none 0 0) 1 24 Try.underlying26 hi0 hz0 hz1 hz2 rfl (by decide) Ao no co vs rfl HA0.out _ _ 1 1 [.slice An now.length cn] rfl (Rd.new1 _ _ _) rfl (by simp [Value.oneCell']) (by unfold maxLen; omega) (by omega) (by rw [World.size_alloc]; exact Nat.le_succ_of_le hbz) ?_); intro A3 c3 w3 ho3 hg3 hat3; have HI2 := Lib.hid (HI1.out.push HNN.out rfl ho3 hg3); have hrd2 := HI2.out.1.head n; clear ho3 hg3 hat3) |
                  (at_builtin; go_loud (refine wpList_app _ rfl _ _ _ rfl _ 50 j0 zeroCell 6 72 Try.underlying22 hj0 jz0 jz1 jz2 rfl (by decide) _ _ _ _ rfl HI2.out.2.2.2.2.2.1 _ _ n _ (vals (t.take n)) rfl hrd2 (by rw [length_vals, hl2]; omega) (vals_one _) (by unfold maxLen; omega) (by omega) HI2.out.2.2.2.2.2.2.2.1 ?_); intro A4 c4 w4 ho4 hg4 hat4))
                have HF := Lib.hid (HI2.out.more HG.out HE.out (fun e => absurd rfl e) (fun _ q hq => by
                  rw [List.getLast?_append] at hq
                  simp at hq
                  subst hq
                  exact hfit) rfl ho4 hg4)
                clear ho4 hg4 hat4
                exact ⟨⟨_, _, _, _, _, _, _, _, _, _, _, _, by rw [List.length_drop], rfl, (by rw [List.length_append, hl2]; try simp), fun e => absurd (List.append_eq_nil_iff.1 e).2 (fun e => by rw [e] at hl2; simp at hl2; omega), HF⟩, by simp; omega⟩
            · have d1 : decide ((0 : Int) < (now.length : Int)) = false := decide_eq_false (by omega)
              have hl2 : (t.take n).length = n := by rw [List.length_take]; omega
              have hrd2 := HI1.out.1.head n
              go_wp2_with (at_builtin; go_loud (refine wpList_app _ rfl _ _ _ rfl _ 50 j0 zeroCell 6 72 Try.underlying22 hj0 jz0 jz1 jz2 rfl (by decide) _ _ _ _ rfl HI1.out.2.2.2.2.2.1 _ _ n _ (vals (t.take n)) rfl hrd2 (by rw [length_vals, hl2]; omega) (vals_one _) (by unfold maxLen; omega) (by omega) HI1.out.2.2.2.2.2.2.2.1 ?_); intro A4 c4 w4 ho4 hg4 hat4)
              have hnn : now = [] := List.eq_nil_of_length_eq_zero (by omega)
              have HF := Lib.hid (HI1.out.more HG.out HE.out (fun e => absurd hnn e) (fun e => by rw [HNP.out e]; intro q hq; cases hq) rfl ho4 hg4)
              clear hnn
              clear ho4 hg4 hat4
              exact ⟨⟨_, _, _, _, _, _, _, _, _, _, _, _, by rw [List.length_drop], rfl, (by rw [List.length_append, hl2]; try simp), fun e => absurd (List.append_eq_nil_iff.1 e).2 (fun e => by rw [e] at hl2; simp at hl2; omega), HF⟩, by simp; omega⟩
        · have i4 : decide ((n : Int) < (t.length : Int)) = false := decide_eq_false (by omega)
          have HE := Lib.hid (show ∀ (hj : n < t.length) (h0 : 0 < t.length), t[n].row ≠ t[0].row from fun h _ => absurd h hn)
          go_wp2
          go_quiet (fail)
          have hsl := fun W => run_tail (P := Try.prog) (t := 22) (e := 50) (size := 6) Try.underlying22 hj0 jz1 (some ⟨b, o, none⟩) t.length tc n g2 W
          have k1 : (0 : Int) ≤ (n : Int) := by omega
          have k2 : (n : Int) ≤ (t.length : Int) := by omega
          have k3 : (n : Int) ≤ (tc : Int) := by omega
          have k4 : (t.length : Int) ≤ (tc : Int) := by omega
          have hsum : IntKind.i64.wrap ((now.length : Int) + (n : Int)) = (now.length : Int) + (n : Int) := IntWalk.i64_in _ (by omega)
          rw [World.drewN_drewN]
          have HI1 := Lib.hid (HI.out.drewN (q0 + nq))
          by_cases hnow : 0 < now.length
          · have d1 : decide ((0 : Int) < (now.length : Int)) = true := decide_eq_true (by omega)
            have hnn : now ≠ [] := List.length_pos_iff.1 hnow
            have HNN := Lib.hid hnn
            clear hnn
            by_cases hfit : now.length + n ≤ most
            · have d2 : decide ((most : Int) < (now.length : Int) + (n : Int)) = false := decide_eq_false (by omega)
              have hl2 : (t.take n).length = n := by rw [List.length_take]; omega
              have hrd2 := HI1.out.1.head n
              go_wp2_with (at_builtin; go_loud (refine wpList_app _ rfl _ _ _ rfl _ 50 j0 zeroCell 6 72 Try.underlying22 hj0 jz0 jz1 jz2 rfl (by decide) _ _ _ _ rfl HI1.out.2.2.2.2.2.1 _ _ n _ (vals (t.take n)) rfl hrd2 (by rw [length_vals, hl2]; omega) (vals_one _) (by unfold maxLen; omega) (by omega) HI1.out.2.2.2.2.2.2.2.1 ?_); intro A4 c4 w4 ho4 hg4 hat4)
              have HF := Lib.hid (HI1.out.more HG.out HE.out (fun _ => hfit) (fun e => absurd e HNN.out) rfl ho4 hg4)
              clear ho4 hg4 hat4
              exact ⟨⟨_, _, _, _, _, _, _, _, _, _, _, _, by rw [List.length_drop], rfl, (by rw [List.length_append, hl2]; try simp), fun e => absurd (List.append_eq_nil_iff.1 e).2 (fun e => by rw [e] at hl2; simp at hl2; omega), HF⟩, by simp; omega⟩
            · have d2 : decide ((most : Int) < (now.length : Int) + (n : Int)) = true := decide_eq_true (by omega)
              have HA0 := Lib.hid (Own.alloc HI1.out.2.2.1 (.cells #[.slice An now.length cn] 22))
              have hbz := HI1.out.2.2.2.2.2.2.2.2.2.2.size
              have hl2 : (t.take n).length = n := by rw [List.length_take]; omega
              go_wp2_with (first | (at_builtin; (refine wpList_app _ rfl _ _ _ rfl w.heap.size 22 i0 (.slice none 0 0) 1 24 Try.underlying26 hi0 hz0 hz1 hz2 rfl (by decide) Ao no co vs rfl HA0.out _ _ 1 1 [.slice An now.length cn] rfl (Rd.new1 _ _ _) rfl (by simp [Value.oneCell']) (by unfold maxLen; omega) (by omega) (by rw [World.size_alloc]; exact Nat.le_succ_of_le hbz) ?_); intro A3 c3 w3 ho3 hg3 hat3; have HI2 := Lib.hid (HI1.out.push HNN.out rfl ho3 hg3); have hrd2 := HI2.out.1.head n; clear ho3 hg3 hat3) |
                (at_builtin; go_loud (refine wpList_app _ rfl _ _ _ rfl _ 50 j0 zeroCell 6 72 Try.underlying22 hj0 jz0 jz1 jz2 rfl (by decide) _ _ _ _ rfl HI2.out.2.2.2.2.2.1 _ _ n _ (vals (t.take n)) rfl hrd2 (by rw [length_vals, hl2]; omega) (vals_one _) (by unfold maxLen; omega) (by omega) HI2.out.2.2.2.2.2.2.2.1 ?_); intro A4 c4 w4 ho4 hg4 hat4))
              have HF := Lib.hid (HI2.out.more HG.out HE.out (fun e => absurd rfl e) (fun _ q hq => by
                rw [List.getLast?_append] at hq
                simp at hq
                subst hq
                exact hfit) rfl ho4 hg4)
              clear ho4 hg4 hat4
              exact ⟨⟨_, _, _, _, _, _, _, _, _, _, _, _, by rw [List.length_drop], rfl, (by rw [List.length_append, hl2]; try simp), fun e => absurd (List.append_eq_nil_iff.1 e).2 (fun e => by rw [e] at hl2; simp at hl2; omega), HF⟩, by simp; omega⟩
          · have d1 : decide ((0 : Int) < (now.length : Int)) = false := decide_eq_false (by omega)
            have hl2 : (t.take n).length = n := by rw [List.length_take]; omega
            have hrd2 := HI1.out.1.head n
            go_wp2_with (at_builtin; go_loud (refine wpList_app _ rfl _ _ _ rfl _ 50 j0 zeroCell 6 72 Try.underlying22 hj0 jz0 jz1 jz2 rfl (by decide) _ _ _ _ rfl HI1.out.2.2.2.2.2.1 _ _ n _ (vals (t.take n)) rfl hrd2 (by rw [length_vals, hl2]; omega) (vals_one _) (by unfold maxLen; omega) (by omega) HI1.out.2.2.2.2.2.2.2.1 ?_); intro A4 c4 w4 ho4 hg4 hat4)
            have hnn : now = [] := List.eq_nil_of_length_eq_zero (by omega)
            have HF := Lib.hid (HI1.out.more HG.out HE.out (fun e => absurd hnn e) (fun e => by rw [HNP.out e]; intro q hq; cases hq) rfl ho4 hg4)
            clear hnn
            clear ho4 hg4 hat4
            exact ⟨⟨_, _, _, _, _, _, _, _, _, _, _, _, by rw [List.length_drop], rfl, (by rw [List.length_append, hl2]; try simp), fun e => absurd (List.append_eq_nil_iff.1 e).2 (fun e => by rw [e] at hl2; simp at hl2; omega), HF⟩, by simp; omega⟩
    · have d0 : decide ((0 : Int) < (t.length : Int)) = false := decide_eq_false (by omega)
      have ht : t = [] := List.eq_nil_of_length_eq_zero (by omega)
      have HT := Lib.hid ht
      clear ht
      by_cases hnow : 0 < now.length
      · have d1 : decide ((0 : Int) < (now.length : Int)) = true := decide_eq_true (by omega)
        have hnn : now ≠ [] := List.length_pos_iff.1 hnow
        have HNN := Lib.hid hnn
        clear hnn
        have HA0 := Lib.hid (Own.alloc HI.out.2.2.1 (.cells #[.slice An now.length cn] 22))
        have hbz := HI.out.2.2.2.2.2.2.2.2.2.2.size
        go_wp2_with (at_builtin; go_loud (refine wpList_app _ rfl _ _ _ rfl w.heap.size 22 i0 (.slice none 0 0) 1 24 Try.underlying26 hi0 hz0 hz1 hz2 rfl (by decide) Ao no co vs rfl HA0.out _ _ 1 1 [.slice An now.length cn] rfl (Rd.new1 _ _ _) rfl (by simp [Value.oneCell']) (by unfold maxLen; omega) (by omega) (by rw [World.size_alloc]; exact Nat.le_succ_of_le hbz) ?_); intro A3 c3 w3 ho3 hg3 hat3)
        go_ret2
        have hf := HI.out.last HT.out HNN.out rfl ho3 hg3
        exact ⟨_, _, _, _, rfl, ho3, hf.1, hf.2⟩
      · have d1 : decide ((0 : Int) < (now.length : Int)) = false := decide_eq_false (by omega)
        have hnn : now = [] := List.eq_nil_of_length_eq_zero (by omega)
        have HNN := Lib.hid hnn
        clear hnn
        go_wp2
        go_ret2
        obtain ⟨_, _, f3, f4, _, _, _, _, _, f5, f6⟩ := HI.out
        rw [HT.out, HNN.out, tl_nil, List.append_nil] at f5
        exact ⟨_, _, _, _, rfl, f3, by rw [← f5]; exact f4, f6⟩
end Go.Proofs.Yteacjikkojglmaa
