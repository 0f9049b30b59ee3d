/-
  The walks of the reference's Number and Four. No conditions.
-/
import Derived.Test.YtiiogdgnccgehaaJK
namespace Go.Proofs.Ytiiogdgnccgehaa
open Go.RowKit
attribute [local go_sem ↓] Go.wp_at_zero Go.wp_at_succ

theorem div_lt64 {N : Nat} (h : N < 18446744073709551616) (k : Nat) : N / 256 ^ k < 18446744073709551616 := Nat.lt_of_le_of_lt (Nat.div_le_self _ _) h
theorem wrap_div {N : Nat} (h : N < 18446744073709551616) (k : Nat) : IntKind.u64.wrap (((N / 256 ^ k : Nat) : Int) / 256) = ((N / 256 ^ (k + 1) : Nat) : Int) := by
  have hh := div_lt64 h (k + 1)
  have e : ((N / 256 ^ k : Nat) : Int) / 256 = ((N / 256 ^ (k + 1) : Nat) : Int) := by
    rw [Nat.pow_succ, ← Nat.div_div_eq_div_mul]
    rfl
  rw [e]
  generalize N / 256 ^ (k + 1) = m at hh
  rw [show IntKind.u64.wrap (m : Int) = (m : Int) % 18446744073709551616 from rfl, Int.emod_eq_of_lt (by omega) (by omega)]
theorem byte_of (N k : Nat) : ((N / 256 ^ k : Nat) : Int) % 256 = (N : Int) / 2 ^ (8 * k) % 256 := by
  have h2 : (N : Int) / 2 ^ (8 * k) % 256 = ((N / 2 ^ (8 * k) % 256 : Nat) : Int) := by simp
  rw [h2, Nat.pow_mul]
  rfl

set_option maxHeartbeats 2000000 in
theorem refNumber_any (N : Nat) (hN : N < 18446744073709551616) (w : World) : Calls Try.prog 36 #[.int .u64 N, .bool false] w fun e w' => e = .returned (.string (nb N 8)) ∧ Below w.heap.size w w' := by
  obtain ⟨i0, hi0, hz0, hz1, hz2⟩ := info_parts byteInfo
  have hmk := run_make (P := Try.prog) w 90 5 i0 (.int .u8 0) Try.underlying90 hi0 hz0 .i64 .i64 8 8 (by omega) (by omega) (by rw [hz2]; omega) (by omega)
  rw [hz1] at hmk
  have em : madeCells (Value.cells (.int .u8 0)) (Int.toNat 8 * 1) = ((List.replicate 8 (0 : Int)).map (Value.int .u8)).toArray := by kernel_rfl
  rw [em] at hmk
  obtain ⟨W1, hW1⟩ : ∃ W1, w.alloc (.cells ((List.replicate 8 (0 : Int)).map (Value.int .u8)).toArray 5) = W1 := ⟨_, rfl⟩
  have h0 : Bys W1 w.heap.size (List.replicate 8 0) := by rw [← hW1]; exact heap_alloc_new w _
  have hb0 : Below w.heap.size w W1 := by rw [← hW1]; exact (Below.refl _ w).alloc (Nat.le_refl _) _
  rw [hW1] at hmk
  have hmk : (Instr.makeSlice 90 (.int .i64 8) (.int .i64 8)).run Try.prog w = .ok (.slice (some ⟨w.heap.size, 0, none⟩) 8 8) W1 := hmk
  have H0 := Lib.hid (And.intro h0 hb0)
  clear h0 hb0 hW1 em
  go_enter Try.func36, Try.ntmps36
  go_wp2
  go_loopw [0, 6, 7] (fun x i _ wr => ∃ (k m : Nat) (ns : List Int), x = .int .u64 m ∧ m = N / 256 ^ k ∧ i = .int .i64 k ∧ k ≤ 8 ∧ Hid (Bys wr w.heap.size ns ∧ ns.length = 8 ∧ nbTo N ns k ∧ Below w.heap.size w wr)) (fun _ i _ _ => 8 - (intOf i).toNat)
  case atStart => exact ⟨0, N, _, rfl, by simp, rfl, by omega, Lib.hid ⟨H0.out.1, by simp, nbTo.zero _ _, H0.out.2⟩⟩
  case round =>
    obtain ⟨k, m, ns, rfl, hm, rfl, hk, HS⟩ := hrel
    by_cases hlt : k < 8
    · have hd : decide ((k : Int) < 8) = true := decide_eq_true (by omega)
      have hw1 : IntKind.i64.wrap ((k : Int) + 1) = ((k + 1 : Nat) : Int) := by rw [IntWalk.i64_in _ (by omega)]; omega
      have i1 : (0 : Int) ≤ (k : Int) := by omega
      have i2 : (k : Int) < 8 := by omega
      have hc := HS.out.1.at_ (i := k) (by have := HS.out.2.1; omega)
      have hf := frozen_of_row wr w.heap.size k _ _ HS.out.1
      have HW : Hid (∀ (z : Int), z = IntKind.u64.wrap ((m : Int) / 256) → z = ((N / 256 ^ (k + 1) : Nat) : Int)) := Lib.hid (by rintro z rfl; rw [hm]; exact wrap_div hN k)
      have HY : Hid (∀ (z : Int), z = (m : Int) % 256 → z = (N : Int) / 2 ^ (8 * k) % 256) := Lib.hid (by rintro z rfl; rw [hm]; exact byte_of N k)
      clear hm
      go_wp2
      exact ⟨⟨k + 1, N / 256 ^ (k + 1), ns.set k ((N : Int) / 2 ^ (8 * k) % 256), by rw [HW.out _ rfl], rfl, by first | rfl | go_num, by omega, Lib.hid ⟨by rw [← HY.out _ rfl]; exact HS.out.1.set _, by rw [List.length_set]; exact HS.out.2.1, HS.out.2.2.1.succ (by have := HS.out.2.1; omega), HS.out.2.2.2.setCell (Nat.le_refl _) _⟩⟩, by simp [intOf]; omega⟩
    · have hd : decide ((k : Int) < 8) = false := decide_eq_false (by omega)
      have HST := Lib.hid (run_strX (c := 8) HS.out.1 8 HS.out.2.1)
      have hst := HST.out
      have HE := Lib.hid (nb_end HS.out.2.2.1 HS.out.2.1 (by omega))
      rw [HE.out] at hst
      go_wp2
      go_ret
      exact ⟨rfl, HS.out.2.2.2⟩
theorem nb_one (N : Nat) : ofL ([(N : Int) % 256].map byteI) = nb N 1 := by
  unfold nb nbI
  simp
theorem Bys.made (w : World) (ns : List Int) : Bys (w.alloc (.cells (ns.map (Value.int .u8)).toArray 5)) w.heap.size ns := heap_alloc_new w _
theorem Bys.keep {w w' : World} {g : Nat} {ns : List Int} (h : Bys w g ns) (hb : Below w.heap.size w w') : Bys w' g ns := (hb.block g (Array.getElem?_eq_some_iff.1 h).1).trans h
theorem nb_four (N : Nat) : ofL ([(N : Int) % 256, (N : Int) / 256 % 256, (N : Int) / 65536 % 256, (N : Int) / 16777216 % 256].map byteI) = nb N 4 := by
  unfold nb nbI
  rw [show List.range 4 = [0, 1, 2, 3] from rfl]
  simp
theorem nb_fl {fl n : Nat} (h : fl < 256) : ofL ([(fl : Int), (n : Int) % 256].map byteI) = nb fl 1 ++ nb n 1 := by
  rw [← nb_one fl, ← nb_one n, ← ofL_app, ← List.map_append, show (fl : Int) % 256 = (fl : Int) by omega]
  rfl
theorem add_any (s t : ByteArray) (h : s.size + t.size ≤ 100000) : ∀ W, (Op.stringOp .add s t).run Try.prog W = .ok (.string (s ++ t)) W := fun W => run_string_add_sum W _ _ (by omega)
set_option maxRecDepth 20000 in
set_option maxHeartbeats 1000000 in
theorem refFour_any (N : Nat) (hN : N < 256 ^ 4) (w : World) : Calls Try.prog 38 #[.int .u32 N] w fun e w' => e = .returned (.string (nb N 4)) ∧ Below w.heap.size w w' := by
  have hst := run_strX (c := 4) (Bys.made w [(N : Int) % 256, (N : Int) / 256 % 256, (N : Int) / 65536 % 256, (N : Int) / 16777216]) 4 rfl
  rw [show ofL ([(N : Int) % 256, (N : Int) / 256 % 256, (N : Int) / 65536 % 256, (N : Int) / 16777216].map byteI) = nb N 4 from by rw [← nb_four, show (N : Int) / 16777216 % 256 = (N : Int) / 16777216 by omega]] at hst
  simp only [List.map_cons, List.map_nil] at hst
  have q1 : IntKind.u32.wrap ((N : Int) / 256) = (N : Int) / 256 := by rw [show IntKind.u32.wrap ((N : Int) / 256) = (N : Int) / 256 % 4294967296 from rfl]; omega
  have q2 : IntKind.u32.wrap ((N : Int) / 65536) = (N : Int) / 65536 := by rw [show IntKind.u32.wrap ((N : Int) / 65536) = (N : Int) / 65536 % 4294967296 from rfl]; omega
  have q3 : IntKind.u32.wrap ((N : Int) / 16777216) = (N : Int) / 16777216 := by rw [show IntKind.u32.wrap ((N : Int) / 16777216) = (N : Int) / 16777216 % 4294967296 from rfl]; omega
  go_enter Try.func38, Try.ntmps38
  go_wp2
  go_ret
  exact ⟨rfl, (Below.refl _ w).alloc (Nat.le_refl _) _⟩
end Go.Proofs.Ytiiogdgnccgehaa
