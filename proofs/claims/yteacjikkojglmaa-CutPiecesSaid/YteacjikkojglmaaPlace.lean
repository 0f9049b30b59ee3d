/-
  The walks of the reference's word on borders, and of both words on the place of a row.
-/
import Derived.Test.YteacjikkojglmaaBorder
namespace Go.Proofs.Yteacjikkojglmaa
open Go.RowKit
attribute [local go_sem ↓] Go.wp_at_zero Go.wp_at_succ

theorem drewN_0 (w : World) : w = w.drewN 0 := rfl

set_option maxHeartbeats 2000000 in
theorem refBorders_any (S : Option Addr) (d : Nat) (ss : List ByteArray) (w : World) (B : Nat) (hs : Rd w B S (strs ss)) (hlen : ss.length ≤ maxLen) :
    Calls Try.prog 15 #[.slice S ss.length d] w fun e w' => e = .returned (.bool (borders ss)) ∧ ∃ n, w' = w.drewN n := by
  unfold maxLen at hlen
  go_enter Try.func15, Try.ntmps15
  go_wp2
  go_loopw [3] (fun i wr => ∃ k n : Nat, k ≤ ss.length ∧ bordersTo ss k ∧ i = .int .i64 k ∧ wr = w.drewN n) (fun i _ => ss.length - (intOf i).toNat)
  case atStart => exact ⟨0, 0, Nat.zero_le _, bordersTo_zero _, rfl, rfl⟩
  case round =>
    obtain ⟨k, n, hk, hr, rfl, rfl⟩ := hrel
    have HR := Lib.hid hr
    clear hr
    by_cases hlt : k < ss.length
    · obtain ⟨b, o, rfl, hb, hc⟩ := hs.at_ (strs_ne hlt)
      have l0 := str_at hc k hlt
      by_cases hok : okBorder ss[k]
      · have HO := Lib.hid hok
        obtain ⟨o1, o2⟩ := hok
        have o1' : decide ((ss[k].size : Int) < 1) = false := decide_eq_false (by omega)
        have o2' : decide ((40 : Int) < (ss[k].size : Int)) = false := decide_eq_false (by omega)
        by_cases hk0 : k = 0
        · subst hk0
          clear hc hs
          have l1 : w.cell? ⟨b, o, none⟩ = some (.string ss[0]) := l0
          have hd : decide ((0 : Int) < ((0 : Nat) : Int)) = false := rfl
          have HS := Lib.hid (bordersTo_succ HR.out hlt HO.out (fun j hj => by omega))
          go_wp2
          go_quiet (fail)
          go_wp2
          exact ⟨⟨1, _, by omega, HS.out, by go_num, rfl⟩, by simp [intOf]; omega⟩
        · obtain ⟨j, hj⟩ : ∃ j, k = j + 1 := ⟨k - 1, by omega⟩
          have hjl : j < ss.length := by omega
          have l1 := str_at hc j hjl
          clear hc hs
          have hd : decide (0 < k) = true := by simp; omega
          have hd' : IntKind.i64.wrap ((k : Int) - 1) = (j : Int) := by rw [IntWalk.i64_in _ (by omega)]; omega
          have i1 : (0 : Int) ≤ (j : Int) := by omega
          have i2 : (j : Int) < (ss.length : Int) := by omega
          have HJ := Lib.hid hj
          clear hj
          cases hl : lt ss[j] ss[k] with
          | true =>
            have HS := Lib.hid (bordersTo_succ HR.out hlt HO.out (fun i hi => by have := HJ.out; have e : i = j := by omega
                                                                                 subst e; exact hl))
            have hl' : Op.bytesLess ss[j].toList ss[k].toList = true := hl
            clear hl
            go_wp2
            go_quiet (fail)
            go_wp2
            exact ⟨⟨k + 1, _, by omega, HS.out, by go_num, rfl⟩, by simp [intOf]; omega⟩
          | false =>
            have HS := Lib.hid (borders_low HJ.out hjl hlt hl)
            have hl' : Op.bytesLess ss[j].toList ss[k].toList = false := hl
            clear hl
            go_wp2
            go_quiet (fail)
            go_wp2
            go_ret
            exact ⟨ret_bool HS.out, _, World.drewN_drewN _ _ _⟩
      · have HS := Lib.hid (borders_bad hlt hok)
        clear hc hs
        by_cases h1 : 1 ≤ ss[k].size
        · have hn : 40 < ss[k].size := by unfold okBorder at hok; omega
          have o1' : decide ((ss[k].size : Int) < 1) = false := decide_eq_false (by omega)
          have o2' : decide ((40 : Int) < (ss[k].size : Int)) = true := decide_eq_true (by omega)
          clear hok
          go_wp2
          go_quiet (fail)
          go_wp2
          go_ret
          exact ⟨ret_bool HS.out, _, World.drewN_drewN _ _ _⟩
        · have o1' : decide ((ss[k].size : Int) < 1) = true := decide_eq_true (by omega)
          clear hok
          go_wp2
          go_quiet (fail)
          go_wp2
          go_ret
          exact ⟨ret_bool HS.out, _, World.drewN_drewN _ _ _⟩
    · have HS := Lib.hid (borders_end HR.out (by omega))
      go_wp2
      go_ret
      exact ⟨ret_bool HS.out, _, rfl⟩

/-- how many borders are at most the row -/
def place (ss : List ByteArray) (row : ByteArray) : Nat := ss.countP fun s => lt s row || decide (s = row)
theorem place_le (ss : List ByteArray) (row : ByteArray) : place ss row ≤ ss.length := List.countP_le_length
theorem leq_true {a b : ByteArray} (h : (lt a b || decide (a = b)) = true) : (Op.bytesLess a.toList b.toList || a.toList == b.toList) = true := by
  rcases Bool.or_eq_true _ _ ▸ h with h | h
  · have : Op.bytesLess a.toList b.toList = true := h
    simp [this]
  · have e : a = b := of_decide_eq_true h
    subst e
    simp
theorem leq_false {a b : ByteArray} (h : (lt a b || decide (a = b)) = false) : (Op.bytesLess a.toList b.toList || a.toList == b.toList) = false := by
  rw [Bool.or_eq_false_iff] at h ⊢
  refine ⟨h.1, ?_⟩
  rw [beq_eq_false_iff_ne]
  intro e
  have := toList_inj e
  subst this
  have := h.2
  simp at this
theorem place_take {ss : List ByteArray} {row : ByteArray} {k : Nat} (hk : k < ss.length) : place (ss.take (k + 1)) row = place (ss.take k) row + if (lt ss[k] row || decide (ss[k] = row)) then 1 else 0 := by
  unfold place
  rw [List.take_succ_eq_append_getElem hk, List.countP_append, List.countP_singleton]
theorem place_step {ss : List ByteArray} {row : ByteArray} {k : Nat} (hk : k < ss.length) (h : (lt ss[k] row || decide (ss[k] = row)) = true) : place (ss.take (k + 1)) row = place (ss.take k) row + 1 := by rw [place_take hk, if_pos h]
theorem place_stay {ss : List ByteArray} {row : ByteArray} {k : Nat} (hk : k < ss.length) (h : (lt ss[k] row || decide (ss[k] = row)) = false) : place (ss.take (k + 1)) row = place (ss.take k) row := by rw [place_take hk, h]; rfl
theorem place_all {ss : List ByteArray} {row : ByteArray} {k : Nat} (hk : ss.length ≤ k) : place (ss.take k) row = place ss row := by rw [List.take_of_length_le hk]

set_option maxHeartbeats 2000000 in
theorem cutPlace_any (S : Option Addr) (d : Nat) (ss : List ByteArray) (row : ByteArray) (w : World) (B : Nat) (hs : Rd w B S (strs ss)) (hlen : ss.length ≤ maxLen) :
    Calls Try.prog 16 #[.slice S ss.length d, .string row] w fun e w' => e = .returned (.int .i64 (place ss row)) ∧ w = w' := by
  unfold maxLen at hlen
  go_enter Try.func16, Try.ntmps16
  go_wp2
  go_loop [4, 6, 9] (fun n _ i => ∃ k m : Nat, k ≤ ss.length ∧ m ≤ k ∧ Hid (place (ss.take k) row = m) ∧ n = .int .i64 m ∧ i = .int .i64 k) (fun _ _ i => ss.length - (intOf i).toNat)
  case atStart => exact ⟨0, 0, Nat.zero_le _, Nat.zero_le _, Lib.hid rfl, rfl, rfl⟩
  case round =>
    obtain ⟨k, m, hk, hm, HM, rfl, rfl⟩ := hrel
    by_cases hlt : k < ss.length
    · obtain ⟨b, o, rfl, hb, hc⟩ := hs.at_ (strs_ne hlt)
      have l0 := str_at hc k hlt
      clear hc hs
      cases hl : (lt ss[k] row || decide (ss[k] = row)) with
      | true =>
        have HS := Lib.hid ((place_step hlt hl).trans (by rw [HM.out]))
        have hl' := leq_true hl
        clear hl
        go_wp2
        all_goals
          go_round
          case rel => exact ⟨k + 1, m + 1, by omega, by omega, HS, by go_num, by go_num⟩
          case measure => simp [intOf]; omega
      | false =>
        have HS := Lib.hid ((place_stay hlt hl).trans HM.out)
        have hl' := leq_false hl
        clear hl
        go_wp2
        go_round
        case rel => exact ⟨k + 1, m, by omega, by omega, HS, rfl, by go_num⟩
        case measure => simp [intOf]; omega
    · have HS := Lib.hid ((place_all (row := row) (by omega)).symm.trans HM.out)
      go_wp2
      go_ret
      exact ⟨ret_int (by rw [HS.out]), rfl⟩

set_option maxHeartbeats 2000000 in
theorem refPlace_any (S : Option Addr) (d : Nat) (ss : List ByteArray) (row : ByteArray) (w : World) (B : Nat) (hs : Rd w B S (strs ss)) (hlen : ss.length ≤ maxLen) :
    Calls Try.prog 17 #[.slice S ss.length d, .string row] w fun e w' => e = .returned (.int .i64 (place ss row)) ∧ w = w' := by
  unfold maxLen at hlen
  go_enter Try.func17, Try.ntmps17
  go_wp2
  go_loop [5, 6] (fun n i => ∃ k m : Nat, k ≤ ss.length ∧ m ≤ k ∧ Hid (place (ss.take k) row = m) ∧ n = .int .i64 m ∧ i = .int .i64 k) (fun _ i => ss.length - (intOf i).toNat)
  case atStart => exact ⟨0, 0, Nat.zero_le _, Nat.zero_le _, Lib.hid rfl, rfl, rfl⟩
  case round =>
    obtain ⟨k, m, hk, hm, HM, rfl, rfl⟩ := hrel
    by_cases hlt : k < ss.length
    · obtain ⟨b, o, rfl, hb, hc⟩ := hs.at_ (strs_ne hlt)
      have l0 := str_at hc k hlt
      clear hc hs
      cases hl : (lt ss[k] row || decide (ss[k] = row)) with
      | true =>
        have HS := Lib.hid ((place_step hlt hl).trans (by rw [HM.out]))
        have hl' := leq_true hl
        clear hl
        go_wp2
        all_goals
          go_round
          case rel => exact ⟨k + 1, m + 1, by omega, by omega, HS, by go_num, by go_num⟩
          case measure => simp [intOf]; omega
      | false =>
        have HS := Lib.hid ((place_stay hlt hl).trans HM.out)
        have hl' := leq_false hl
        clear hl
        go_wp2
        go_round
        case rel => exact ⟨k + 1, m, by omega, by omega, HS, rfl, by go_num⟩
        case measure => simp [intOf]; omega
    · have HS := Lib.hid ((place_all (row := row) (by omega)).symm.trans HM.out)
      go_wp2
      go_ret
      exact ⟨ret_int (by rw [HS.out]), rfl⟩

end Go.Proofs.Yteacjikkojglmaa
