/-
  The walks of Find and Over.
-/
import Derived.Test.YtaeemeoffnhgfaaThose
namespace Go.Proofs.Ytaeemeoffnhgfaa
open Go.RowKit
attribute [local go_sem ↓] Go.wp_at_zero Go.wp_at_succ

def onRow (row : ByteArray) (f : Fi) : Bool := meets f row row
def onRows (z : Int) (lo hi : ByteArray) (f : Fi) : Bool := decide (f.level = z) && meets f lo hi
theorem cell_keep {w W : World} {g : Nat} {v : Value} (hb : Below w.heap.size w W) (hg : g < w.heap.size) (h : w.cell? ⟨g, 0, none⟩ = some v) : W.cell? ⟨g, 0, none⟩ = some v := (hb.cell (p := ⟨g, 0, none⟩) hg).trans h
set_option maxHeartbeats 2000000 in
theorem find_any (A : Option Addr) (c N : Nat) (l : List Fi) (nx fl : Int) (row : ByteArray) (w : World) (hl : Rd w w.heap.size A (fis l)) (hN : l.length = N) (hlen : N ≤ 100000) :
    Calls Try.prog 18 #[stV A N c nx fl, .string row] w fun e w' => ∃ (A' : Option Addr) (n' c' : Nat), e = .returned (.slice A' n' c') ∧ OwnF w' w.heap.size A' n' c' (l.filter (onRow row)) ∧ Below w.heap.size w w' := by
  have hb1 := (Below.refl w.heap.size w).alloc (Nat.le_refl _) (.cells #[.slice A N c, .int .u64 nx, .int .u64 fl] 30)
  have hb2 := hb1.alloc (by rw [World.size_alloc]; omega) (.cells #[.string row] 9)
  have hcell := (Box.new (w.alloc (.cells #[.slice A N c, .int .u64 nx, .int .u64 fl] 30)) 9 (.string row)).cell
  rw [World.size_alloc] at hcell
  have ht := those_any 43 #[.pointer (some ⟨w.heap.size + 1, 0, none⟩)] (onRow row) ((w.alloc (.cells #[.slice A N c, .int .u64 nx, .int .u64 fl] 30)).alloc (.cells #[.string row] 9)) (fun args W => by kernel_rfl)
    (fun x W hW => onFind_any x (w.heap.size + 1) row W (Nat.lt_of_lt_of_le (by simp only [World.size_alloc]; omega) hW.size) (cell_keep hW (by simp only [World.size_alloc]; omega) hcell)) A c N l nx fl ((hl.below hb2).more hb2.size) hN hlen
  unfold stV stC at ht ⊢
  have HT := Lib.hid ht
  have HB2 := Lib.hid hb2
  clear ht hb1 hb2 hcell hl hN
  go_enter Try.func18, Try.ntmps18
  go_wp2_with (go_at_call 42; refine HT.out.mono ?_; rintro e w5 ⟨A5, n5, c5, rfl, ho5, hb5⟩)
  go_ret
  exact ⟨A5, n5, c5, rfl, Own.lower ho5 HB2.out.size, HB2.out.trans (hb5.mono HB2.out.size)⟩
set_option maxHeartbeats 2000000 in
theorem over_any (A : Option Addr) (c N : Nat) (l : List Fi) (nx fl z : Int) (lo hi : ByteArray) (w : World) (hl : Rd w w.heap.size A (fis l)) (hN : l.length = N) (hlen : N ≤ 100000) :
    Calls Try.prog 20 #[stV A N c nx fl, .int .i64 z, .string lo, .string hi] w fun e w' => ∃ (A' : Option Addr) (n' c' : Nat), e = .returned (.slice A' n' c') ∧ OwnF w' w.heap.size A' n' c' (l.filter (onRows z lo hi)) ∧ Below w.heap.size w w' := by
  obtain ⟨w1, hw1⟩ : ∃ w1, w1 = w.alloc (.cells #[.slice A N c, .int .u64 nx, .int .u64 fl] 30) := ⟨_, rfl⟩
  have hb1 : Below w.heap.size w w1 := by rw [hw1]; exact (Below.refl w.heap.size w).alloc (Nat.le_refl _) _
  have hs1 : w1.heap.size = w.heap.size + 1 := by rw [hw1, World.size_alloc]
  obtain ⟨w2, hw2⟩ : ∃ w2, w2 = w1.alloc (.cells #[.int .i64 z] 3) := ⟨_, rfl⟩
  have hs2 : w2.heap.size = w.heap.size + 1 + 1 := by rw [hw2, World.size_alloc, hs1]
  obtain ⟨w3, hw3⟩ : ∃ w3, w3 = w2.alloc (.cells #[.string lo] 9) := ⟨_, rfl⟩
  have hs3 : w3.heap.size = w.heap.size + 1 + 1 + 1 := by rw [hw3, World.size_alloc, hs2]
  obtain ⟨w4, hw4⟩ : ∃ w4, w4 = w3.alloc (.cells #[.string hi] 9) := ⟨_, rfl⟩
  have hs4 : w4.heap.size = w.heap.size + 1 + 1 + 1 + 1 := by rw [hw4, World.size_alloc, hs3]
  have hb12 : Below w1.heap.size w1 w2 := by rw [hw2]; exact (Below.refl _ _).alloc (Nat.le_refl _) _
  have hb23 : Below w2.heap.size w2 w3 := by rw [hw3]; exact (Below.refl _ _).alloc (Nat.le_refl _) _
  have hb34 : Below w3.heap.size w3 w4 := by rw [hw4]; exact (Below.refl _ _).alloc (Nat.le_refl _) _
  have hb4 : Below w.heap.size w w4 := ((hb1.trans (hb12.mono (by omega))).trans (hb23.mono (by omega))).trans (hb34.mono (by omega))
  have hz : w4.cell? ⟨w.heap.size + 1, 0, none⟩ = some (.int .i64 z) := by
    have := (Box.new w1 3 (.int .i64 z)).cell
    rw [← hw2, hs1] at this
    exact cell_keep hb34 (by omega) (cell_keep hb23 (by omega) this)
  have hlo : w4.cell? ⟨w.heap.size + 1 + 1, 0, none⟩ = some (.string lo) := by
    have := (Box.new w2 9 (.string lo)).cell
    rw [← hw3, hs2] at this
    exact cell_keep hb34 (by omega) this
  have hhi : w4.cell? ⟨w.heap.size + 1 + 1 + 1, 0, none⟩ = some (.string hi) := by
    have := (Box.new w3 9 (.string hi)).cell
    rw [← hw4, hs3] at this
    exact this
  have ht := those_any 45 #[.pointer (some ⟨w.heap.size + 1, 0, none⟩), .pointer (some ⟨w.heap.size + 1 + 1, 0, none⟩), .pointer (some ⟨w.heap.size + 1 + 1 + 1, 0, none⟩)] (onRows z lo hi) w4 (fun args W => by kernel_rfl)
    (fun x W hW => onOver_any x (w.heap.size + 1) (w.heap.size + 1 + 1) (w.heap.size + 1 + 1 + 1) z lo hi W (by have := hW.size; omega) (cell_keep hW (by omega) hz) (cell_keep hW (by omega) hlo) (cell_keep hW (by omega) hhi)) A c N l nx fl ((hl.below hb4).more hb4.size) hN hlen
  rw [hw4, hw3, hw2, hw1] at ht hb4
  unfold stV stC at ht ⊢
  have HT := Lib.hid ht
  have HB2 := Lib.hid hb4
  clear ht hb4 hz hlo hhi hb34 hb23 hb12 hb1 hs1 hs2 hs3 hs4 hw4 hw3 hw2 hw1 hl hN w1 w2 w3 w4
  go_enter Try.func20, Try.ntmps20
  go_wp2_with (go_at_call 42; refine HT.out.mono ?_; rintro e w5 ⟨A5, n5, c5, rfl, ho5, hb5⟩)
  go_ret
  exact ⟨A5, n5, c5, rfl, Own.lower ho5 HB2.out.size, HB2.out.trans (hb5.mono HB2.out.size)⟩
end Go.Proofs.Ytaeemeoffnhgfaa
