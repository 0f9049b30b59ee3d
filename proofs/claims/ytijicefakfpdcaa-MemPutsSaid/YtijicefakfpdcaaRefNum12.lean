/-
  The walk of the reference's Number: a text of eight bytes.
-/
import Derived.Test.YtijicefakfpdcaaRefMay12
namespace Go.Proofs.Ytijicefakfpdcaa
open Go.RowKit
attribute [local go_sem ↓] Go.wp_at_zero Go.wp_at_succ

/-- block g is a row of bytes -/
def Bys (w : World) (g : Nat) (ns : List Int) : Prop := w.heap[g]? = some (.cells (ns.map (Value.int .u8)).toArray 5 (0, 0))
theorem Bys.set {w : World} {g i : Nat} {ns : List Int} (h : Bys w g ns) (z : Int) : Bys (w.setCell ⟨g, i, none⟩ (.int .u8 z)) g (ns.set i z) := by
  unfold Bys at *
  rw [heap_setCell_same w g i _ _ _ h]
  congr 2
  apply Array.ext'
  simp [List.map_set]
theorem Bys.at_ {w : World} {g i : Nat} {ns : List Int} (h : Bys w g ns) (hi : i < ns.length) : w.cell? ⟨g, i, none⟩ = some (.int .u8 ns[i]) := by
  rw [cell_of_row w g i _ _ (0, 0) h]
  simp [hi]
theorem Bys.byt {w : World} {g : Nat} {ns : List Int} (h : Bys w g ns) (hn : ns.length ≤ 1000) : Byt w g (some ⟨g, 0, none⟩) ns.length ns.length ns :=
  ⟨by simp, .inr ⟨g, ns.length, _, rfl, Nat.le_refl _, h, Nat.le_refl _, by unfold maxLen; omega, by simp, by rw [List.toList_toArray, Nat.mul_one, List.take_of_length_le (by simp)]⟩⟩

set_option maxHeartbeats 2000000 in
theorem number_any (n : Nat) (w : World) : Calls Try.prog 37 #[.int .u64 n, .bool false] w fun e w' => ∃ s : ByteArray, e = .returned (.string s) ∧ s.size = 8 ∧ Below w.heap.size w w' := by
  obtain ⟨i0, hi0, hz0, hz1, hz2⟩ := info_parts byteInfo
  have hmk := run_make (P := Try.prog) w 57 5 i0 (.int .u8 0) Try.underlying57 hi0 hz0 .i64 .i64 8 8 (by omega) (by omega) (by rw [hz2]; omega) (by omega)
  rw [hz1] at hmk
  have em : madeCells (Value.cells (.int .u8 0)) (Int.toNat 8 * 1) = ((List.replicate 8 (0 : Int)).map (Value.int .u8)).toArray := by kernel_rfl
  rw [em] at hmk
  obtain ⟨W1, hW1⟩ : ∃ W1, w.alloc (.cells ((List.replicate 8 (0 : Int)).map (Value.int .u8)).toArray 5) = W1 := ⟨_, rfl⟩
  have h0 : Bys W1 w.heap.size (List.replicate 8 0) := by rw [← hW1]; exact heap_alloc_new w _
  have hb0 : Below w.heap.size w W1 := by rw [← hW1]; exact (Below.refl _ w).alloc (Nat.le_refl _) _
  rw [hW1] at hmk
  have hmk : (Instr.makeSlice 57 (.int .i64 8) (.int .i64 8)).run Try.prog w = .ok (.slice (some ⟨w.heap.size, 0, none⟩) 8 8) W1 := hmk
  have H0 := Lib.hid (And.intro h0 hb0)
  clear h0 hb0 hW1 em
  go_enter Try.func37, Try.ntmps37
  go_wp2
  go_loopw [0, 6, 7] (fun x i _ wr => ∃ (k : Nat) (m : Int) (ns : List Int), x = .int .u64 m ∧ 0 ≤ m ∧ i = .int .i64 k ∧ k ≤ 8 ∧ Hid (Bys wr w.heap.size ns ∧ ns.length = 8 ∧ Below w.heap.size w wr)) (fun _ i _ _ => 8 - (intOf i).toNat)
  case atStart => exact ⟨0, n, _, rfl, by omega, rfl, by omega, Lib.hid ⟨H0.out.1, by simp, H0.out.2⟩⟩
  case round =>
    obtain ⟨k, m, ns, rfl, hm0, rfl, hk, HS⟩ := hrel
    by_cases hlt : k < 8
    · have hd : decide ((k : Int) < 8) = true := decide_eq_true (by omega)
      have hw1 : IntKind.i64.wrap ((k : Int) + 1) = ((k + 1 : Nat) : Int) := by rw [IntWalk.i64_in _ (by omega)]; omega
      have i1 : (0 : Int) ≤ (k : Int) := by omega
      have i2 : (k : Int) < 8 := by omega
      have hc := HS.out.1.at_ (i := k) (by have := HS.out.2.1; omega)
      have hf := frozen_of_row wr w.heap.size k _ _ HS.out.1
      go_wp2
      exact ⟨⟨k + 1, IntKind.u64.wrap (m.tdiv 256), ns.set k _, rfl, wrap_u64_nonneg _, by first | rfl | go_num, by omega, Lib.hid ⟨HS.out.1.set _, by rw [List.length_set]; exact HS.out.2.1, HS.out.2.2.setCell (Nat.le_refl _) _⟩⟩, by simp [intOf]; omega⟩
    · have hd : decide ((k : Int) < 8) = false := decide_eq_false (by omega)
      obtain ⟨str, hst, hstr⟩ := run_str (HS.out.1.byt (by have := HS.out.2.1; omega)) (by have := HS.out.2.1; omega)
      have hl8 := HS.out.2.1
      rw [hl8] at hst hstr
      have HST := Lib.hid hst
      clear hst hl8
      go_wp2
      go_ret
      exact ⟨str, rfl, HST.out, HS.out.2.2⟩
end Go.Proofs.Ytijicefakfpdcaa
