/-
  The walk of the reference's find.
-/
import Derived.Test.YtaeemeoffnhgfaaRefPut13
namespace Go.Proofs.Ytaeemeoffnhgfaa
open Go.RowKit
attribute [local go_sem ↓] Go.wp_at_zero Go.wp_at_succ

set_option maxHeartbeats 2000000 in
theorem refFind_any (A : Option Addr) (c N : Nat) (l : List Fi) (name : ByteArray) (w : World) (hl : Rd w w.heap.size A (fis l)) (hN : l.length = N) (hlen : N ≤ 1000000) :
    Calls Try.prog 40 #[.slice A N c, .string name] w fun e w' => e = .returned (.int .i64 (idx (named name) l)) ∧ w = w' := by
  have HL := Lib.hid hl
  have HN := Lib.hid hN
  clear hl hN
  go_enter Try.func40, Try.ntmps40
  go_wp2
  go_loopw [5] (fun vi wr => ∃ k : Nat, vi = .int .i64 (k : Int) ∧ k ≤ N ∧ Hid (noneTo (named name) l k) ∧ wr = w) (fun vi _ => N - (intOf vi).toNat)
  case atStart => exact ⟨0, rfl, Nat.zero_le _, Lib.hid (noneTo.zero _ _), rfl⟩
  case round =>
    obtain ⟨k, rfl, hk, HU, rfl⟩ := hrel
    rename World => wr
    by_cases hlt : k < N
    · have e1 : decide ((k : Int) < (N : Int)) = true := decide_eq_true (by omega)
      have k1 : (0 : Int) ≤ (k : Int) := by omega
      have k2 : (k : Int) < (N : Int) := by omega
      have hkl : k < l.length := by rw [HN.out]; exact hlt
      obtain ⟨b, o, rfl, hr⟩ := rd_elem HL.out hkl
      have HS := Lib.hid (fun h => HU.out.succ hkl h)
      have HH := Lib.hid (fun h => HU.out.hit hkl h)
      obtain ⟨x, hx⟩ : ∃ x, l[k] = x := ⟨_, rfl⟩
      rw [hx] at hr HS HH
      have d1 : wr.cell? ⟨b, o + k * 5 + 1, none⟩ = some (.string x.name) := hr 1 _ rfl
      have e2 := beq_name x.name name
      clear hr hx
      cases hq : named name x with
      | true =>
        have HF := Lib.hid (HH.out hq)
        rw [show decide (x.name = name) = true from hq] at e2
        go_wp2
        go_ret
        exact ⟨ret_int HF.out, rfl⟩
      | false =>
        have HF := Lib.hid (HS.out hq)
        rw [show decide (x.name = name) = false from hq] at e2
        go_wp2
        exact ⟨⟨k + 1, by first | rfl | go_num, by omega, HF, by first | trivial | rfl⟩, by simp [intOf]; omega⟩
    · have e1 : decide ((k : Int) < (N : Int)) = false := decide_eq_false (by omega)
      have HF := Lib.hid (HU.out.miss (by rw [HN.out]; omega))
      go_wp2
      go_ret
      exact ⟨ret_int HF.out, rfl⟩
end Go.Proofs.Ytaeemeoffnhgfaa
