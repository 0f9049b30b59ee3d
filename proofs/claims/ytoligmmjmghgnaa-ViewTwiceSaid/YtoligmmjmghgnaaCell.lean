/-
  The walks of the small functions on cells: comparing texts, numbers and cells; whether cells rise; whether two lists of cells are the same.
  No conditions but that numbers fit their kinds.
-/
import Derived.Test.YtoligmmjmghgnaaMem
import Derived.Test.YtoligmmjmghgnaaRows
import Derived.WalkSpells
import Derived.Deep.QuietTactic
import Derived.BigQuiet
import Derived.Deep.RegionHeld3
import Derived.Deep.DrawnRows
import Derived.Lib.Hide
namespace Go.Proofs.Ytoligmmjmghgnaa
open Go.RowKit

set_option maxHeartbeats 400000 in
theorem compare_any (a b : ByteArray) (w : World) :
    Calls Try.prog 40 #[.string a, .string b] w fun e w' => e = .returned (.int .i64 (txt a b)) ∧ w = w' := by
  go_enter Try.func40, Try.ntmps40
  go_wp2
  rw [run_callFunc_extern Try.func47 (by kernel_rfl) (by kernel_rfl) (by kernel_rfl) (e := Extern.BytealgCompare.compare) (by kernel_rfl), Lib.run_compareString, compare_txt]
  simp only [Result.andThen]
  rw [Oper.upon_value]
  go_wp2
  go_ret
  exact ⟨rfl, rfl⟩

set_option maxHeartbeats 400000 in
theorem text_any (a b : ByteArray) (w : World) :
    Calls Try.prog 19 #[.string a, .string b] w fun e w' => e = .returned (.int .i64 (txt a b)) ∧ w = w' := by
  go_enter Try.func19, Try.ntmps19
  go_wp2
  · go_ret; exact ⟨ret_int (txt_m ‹_›), rfl⟩
  · go_ret; exact ⟨ret_int (txt_p ‹_› ‹_›), rfl⟩
  · go_ret; exact ⟨ret_int (txt_0 ‹_›), rfl⟩

set_option maxHeartbeats 400000 in
theorem compare64_any (a b : Nat) (w : World) :
    Calls Try.prog 41 #[.int .u64 a, .int .u64 b] w fun e w' => e = .returned (.int .i64 (num a b)) ∧ w = w' := by
  go_enter Try.func41, Try.ntmps41
  go_wp2
  all_goals (go_ret; exact ⟨by simp [num, *], rfl⟩)

theorem take_all {l : List Int} {k : Nat} (hk : k < l.length) (h : ∀ z ∈ l.take k, z = 0) (h0 : l[k] = 0) : ∀ z ∈ l.take (k + 1), z = 0 := by
  rw [List.take_succ_eq_append_getElem hk]
  intro z hz
  rcases List.mem_append.1 hz with hz | hz
  · exact h z hz
  · rw [List.mem_singleton.1 hz, h0]

set_option maxHeartbeats 400000 in
theorem or_any (A : Option Addr) (c : Nat) (zs : List Int) (w : World) (B : Nat) (h : Rd w B A (zs.map (Value.int .i64))) (hz : zs.length ≤ maxLen) :
    Calls Try.prog 39 #[.slice A zs.length c] w fun e w' => e = .returned (.int .i64 (first zs)) ∧ w = w' := by
  unfold maxLen at hz
  go_enter Try.func39, Try.ntmps39
  go_wp2
  go_loop [5, 8] (fun _ i => ∃ k : Nat, k ≤ zs.length ∧ (∀ z ∈ zs.take k, z = 0) ∧ i = .int .i64 k) (fun _ i => zs.length - (intOf i).toNat)
  case atStart => exact ⟨0, Nat.zero_le _, by simp, rfl⟩
  case round =>
    obtain ⟨k, hk, h0, rfl⟩ := hrel
    by_cases hlt : k < zs.length
    · obtain ⟨b, o, rfl, hb, hc⟩ := h.at_ (by intro e; simp at e; subst e; simp at hlt)
      have hcell : w.cell? ⟨b, o + k, none⟩ = some (.int .i64 zs[k]) := by rw [hc k (by simpa using hlt)]; simp
      have H0 : Hid _ := h0
      clear h0 hc h
      have hT := take_all hlt H0
      have HT : Hid _ := hT
      clear hT
      by_cases hz0 : zs[k] = 0
      · have hb : (zs[k] != 0) = false := by simp [hz0]
        have HZ : Hid _ := hz0
        clear hz0
        go_wp2
        go_round
        case rel => exact ⟨k + 1, by omega, HT HZ, by go_num⟩
        case measure => simp [intOf]; omega
      · have hb : (zs[k] != 0) = true := by simp [hz0]
        have HF : Hid _ := first_take hlt H0 hz0
        clear hz0
        go_wp2
        go_ret
        exact ⟨ret_int (HF.symm), rfl⟩
    · have HF : Hid _ := first_all (l := zs) (by rw [List.take_of_length_le (by omega)] at h0; exact h0)
      clear h0
      go_wp2
      go_ret
      exact ⟨ret_int HF.symm, rfl⟩
end Go.Proofs.Ytoligmmjmghgnaa
