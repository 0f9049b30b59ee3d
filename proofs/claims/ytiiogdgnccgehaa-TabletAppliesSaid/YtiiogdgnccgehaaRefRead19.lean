/-
  The walks of the reference's number, short and value. No conditions.
-/
import Derived.Test.YtiiogdgnccgehaaRefDecPlain19
import Derived.Test.YtiiogdgnccgehaaRefNum19
namespace Go.Proofs.Ytiiogdgnccgehaa
open Go.RowKit
attribute [local go_sem ↓] Go.wp_at_zero Go.wp_at_succ

theorem byteAt_lt (s : ByteArray) (i : Nat) : byteAt s i < 256 := by unfold byteAt; exact UInt8.toNat_lt _
theorem byteAt_get {s : ByteArray} {i : Nat} (h : i < s.size) : byteAt s i = s[i].toNat := by
  unfold byteAt
  rw [List.getElem?_eq_getElem (by rw [data_len]; exact h)]
  rfl
set_option maxRecDepth 20000 in
set_option maxHeartbeats 4000000 in
theorem refnum_any (s : ByteArray) (a n : Nat) (w : World) (hn : n ≤ 8) (ha : a ≤ 1000000) (hs : s.size ≤ 1000000) : Calls Try.prog 42 #[.string s, .int .i64 a, .int .i64 n] w fun e w' => e = .returned (.int .u64 (numR s a n)) ∧ Below w.heap.size w w' := by
  have hw0 : IntKind.i64.wrap ((a : Int) + (n : Int)) = ((a + n : Nat) : Int) := by rw [IntWalk.i64_in _ (by omega)]; omega
  have hw1 : IntKind.i64.wrap (((a + n : Nat) : Int) - 1) = ((a + n : Nat) : Int) - 1 := by rw [IntWalk.i64_in _ (by omega)]
  go_enter Try.func42, Try.ntmps42
  go_wp2
  go_loopw [7, 8] (fun v i wr => ∃ (k : Nat), v = .int .u64 (numR s (a + k) (n - k)) ∧ i = .int .i64 (((a + k : Nat) : Int) - 1) ∧ k ≤ n ∧ wr = w) (fun _ i _ => (intOf i + 1).toNat - a)
  case atStart => exact ⟨n, by rw [Nat.sub_self]; rfl, rfl, Nat.le_refl _, rfl⟩
  case round =>
    obtain ⟨k, rfl, rfl, hk, rfl⟩ := hrel
    rename World => wr
    cases k with
    | zero =>
      have e1 : decide ((a : Int) ≤ ((a + 0 : Nat) : Int) - 1) = false := decide_eq_false (by omega)
      go_wp2
      go_ret
      exact ⟨rfl, Below.refl _ _⟩
    | succ k =>
      have e0 : ((a + (k + 1) : Nat) : Int) - 1 = ((a + k : Nat) : Int) := by omega
      rw [e0]
      have e1 : decide ((a : Int) ≤ ((a + k : Nat) : Int)) = true := decide_eq_true (by omega)
      have hlt := numR_lt s (a + (k + 1)) (n - (k + 1))
      have hle : 256 ^ (n - (k + 1)) ≤ 256 ^ 7 := Nat.pow_le_pow_right (by omega) (by omega)
      have hst := numR_step s (a + k) (n - (k + 1))
      rw [show n - (k + 1) + 1 = n - k by omega, show a + k + 1 = a + (k + 1) by omega] at hst
      have hby := byteAt_lt s (a + k)
      obtain ⟨m, hm⟩ : ∃ m, numR s (a + (k + 1)) (n - (k + 1)) = m := ⟨_, rfl⟩
      rw [hm] at hlt hst ⊢
      have hm7 : m < 256 ^ 7 := Nat.lt_of_lt_of_le hlt hle
      have hw2 : IntKind.u64.wrap ((m : Int) * 256) = ((m * 256 : Nat) : Int) := wrap_nat (m * 256) (by omega)
      have HST := Lib.hid hst
      clear hlt hle hm e0 hst
      by_cases hin : a + k < s.size
      · have e2 : decide (((a + k : Nat) : Int) < (s.size : Int)) = true := decide_eq_true (by omega)
        have k1 : (0 : Int) ≤ ((a + k : Nat) : Int) := by omega
        have k2 : ((a + k : Nat) : Int) < (s.size : Int) := by omega
        have hbg := byteAt_get hin
        have hwb : IntKind.u64.wrap ((s[a + k].toNat : Nat) : Int) = ((s[a + k].toNat : Nat) : Int) := wrap_nat _ (by omega)
        have hws : IntKind.u64.wrap ((m : Int) * 256 + ((s[a + k].toNat : Nat) : Int)) = ((numR s (a + k) (n - k) : Nat) : Int) := by
          rw [HST.out, show (m : Int) * 256 + ((s[a + k].toNat : Nat) : Int) = ((byteAt s (a + k) + 256 * m : Nat) : Int) by omega]
          exact wrap_nat _ (by omega)
        clear hbg
        go_wp2
        exact ⟨⟨k, by first | rfl | rw [hwb, hws] | rw [hws], by congr 1, by omega, trivial⟩, by simp [intOf]; omega⟩
      · have e2 : decide (((a + k : Nat) : Int) < (s.size : Int)) = false := decide_eq_false (by omega)
        have hz : byteAt s (a + k) = 0 := by
          unfold byteAt
          rw [List.getElem?_eq_none (by rw [data_len]; omega)]
          rfl
        have hws : ((m : Int) * 256) = ((numR s (a + k) (n - k) : Nat) : Int) := by rw [HST.out, hz]; omega
        clear hz
        go_wp2
        exact ⟨⟨k, by first | rfl | rw [hws], by congr 1, by omega, trivial⟩, by simp [intOf]; omega⟩
def shortV (s : ByteArray) : Value := match shortR s with
  | none => .tuple #[.string ⟨#[]⟩, .string ⟨#[]⟩, .bool false]
  | some (x, r) => .tuple #[.string x, .string r, .bool true]
set_option maxRecDepth 20000 in
set_option maxHeartbeats 4000000 in
theorem refshort_any (s : ByteArray) (w : World) (hs : s.size ≤ 1000000) : Calls Try.prog 64 #[.string s] w fun e w' => e = .returned (shortV s) ∧ Below w.heap.size w w' := by
  by_cases h0 : s.size = 0
  · have HV := Lib.hid (show shortV s = .tuple #[.string ⟨#[]⟩, .string ⟨#[]⟩, .bool false] by unfold shortV shortR; rw [if_pos (.inl h0)])
    have e1 : ((s.size : Int) == 0) = true := by rw [h0]; rfl
    go_enter Try.func64, Try.ntmps64
    go_wp2
    go_ret3
    exact ⟨by rw [HV.out]; rfl, Below.refl _ _⟩
  · have e1 : ((s.size : Int) == 0) = false := by rw [beq_eq_false_iff_ne]; omega
    have k1 : (0 : Int) < (s.size : Int) := by omega
    have hbg := byteAt_get (s := s) (i := 0) (by omega)
    have hb := byteAt_lt s 0
    by_cases h1 : s.size < 1 + byteAt s 0
    · have HV := Lib.hid (show shortV s = .tuple #[.string ⟨#[]⟩, .string ⟨#[]⟩, .bool false] by unfold shortV shortR; rw [if_pos (.inr h1)])
      go_enter Try.func64, Try.ntmps64
      go_wp2
      go_ret3
      exact ⟨by rw [HV.out]; rfl, Below.refl _ _⟩
    · have HV := Lib.hid (show shortV s = .tuple #[.string (s.extract 1 (1 + byteAt s 0)), .string (s.extract (1 + byteAt s 0) s.size), .bool true] by unfold shortV shortR; rw [if_neg (by omega)])
      go_enter Try.func64, Try.ntmps64
      go_wp2
      go_quiet (fail)
      go_wp2
      go_ret3
      exact ⟨by rw [HV.out, hbg]; rfl, below_drewN _ _⟩
set_option maxRecDepth 20000 in
set_option maxHeartbeats 4000000 in
theorem refvalue_any (s : ByteArray) (w : World) (hs : 8 ≤ s.size) (hs2 : s.size ≤ 1000000) : Calls Try.prog 65 #[.string s, .bool false] w fun e w' => e = .returned (.int .u64 (numR s 0 8)) ∧ Below w.heap.size w w' := by
  go_enter Try.func65, Try.ntmps65
  go_wp2
  go_loopw [5, 6] (fun v i wr => ∃ (k : Nat), v = .int .u64 (numR s (8 - k) k) ∧ i = .int .i64 (k : Int) ∧ k ≤ 8 ∧ wr = w) (fun _ i _ => 8 - (intOf i).toNat)
  case atStart => exact ⟨0, rfl, rfl, Nat.zero_le _, rfl⟩
  case round =>
    obtain ⟨k, rfl, rfl, hk, rfl⟩ := hrel
    rename World => wr
    by_cases hlt : k < 8
    · have e1 : decide ((k : Int) < 8) = true := decide_eq_true (by omega)
      have hw0 : IntKind.i64.wrap (7 - (k : Int)) = ((7 - k : Nat) : Int) := by rw [IntWalk.i64_in _ (by omega)]; omega
      have hl := numR_lt s (8 - k) k
      have hle : 256 ^ k ≤ 256 ^ 7 := Nat.pow_le_pow_right (by omega) (by omega)
      have hst := numR_step s (7 - k) k
      rw [show 7 - k + 1 = 8 - k by omega] at hst
      have hby := byteAt_lt s (7 - k)
      obtain ⟨m, hm⟩ : ∃ m, numR s (8 - k) k = m := ⟨_, rfl⟩
      rw [hm] at hl hst ⊢
      have hm7 : m < 256 ^ 7 := Nat.lt_of_lt_of_le hl hle
      have hw2 : IntKind.u64.wrap ((m : Int) * 256) = ((m * 256 : Nat) : Int) := wrap_nat (m * 256) (by omega)
      have hin : 7 - k < s.size := by omega
      have hbg := byteAt_get hin
      have k1 : (0 : Int) ≤ ((7 - k : Nat) : Int) := by omega
      have k2 : ((7 - k : Nat) : Int) < (s.size : Int) := by omega
      have hwb : IntKind.u64.wrap ((s[7 - k].toNat : Nat) : Int) = ((s[7 - k].toNat : Nat) : Int) := wrap_nat _ (by omega)
      have hws : IntKind.u64.wrap ((m : Int) * 256 + ((s[7 - k].toNat : Nat) : Int)) = ((numR s (8 - (k + 1)) (k + 1) : Nat) : Int) := by
        rw [show 8 - (k + 1) = 7 - k by omega, hst, show (m : Int) * 256 + ((s[7 - k].toNat : Nat) : Int) = ((byteAt s (7 - k) + 256 * m : Nat) : Int) by omega]
        exact wrap_nat _ (by omega)
      clear hbg hst hl hle hm
      go_wp2
      exact ⟨⟨k + 1, by first | rfl | rw [hwb, hws] | rw [hws] | rw [show 8 - (k + 1) = 7 - k by omega], by first | rfl | go_num, by omega, trivial⟩, by simp [intOf]; omega⟩
    · have hk8 : k = 8 := by omega
      subst hk8
      have e1 : decide (((8 : Nat) : Int) < 8) = false := decide_eq_false (by omega)
      go_wp2
      go_ret
      exact ⟨rfl, Below.refl _ _⟩
end Go.Proofs.Ytiiogdgnccgehaa
