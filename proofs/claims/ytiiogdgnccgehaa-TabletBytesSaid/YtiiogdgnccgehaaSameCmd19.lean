/-
  Two commands that are alike, held against one another by the reference. No conditions.
-/
import Derived.Test.YtiiogdgnccgehaaJK
import Derived.Test.YtiiogdgnccgehaaDecode19
namespace Go.Proofs.Ytiiogdgnccgehaa
open Go.RowKit
attribute [local go_sem ↓] Go.wp_at_zero Go.wp_at_succ

set_option maxRecDepth 100000 in
set_option maxHeartbeats 8000000 in
theorem sameCommand_true (x : Cmd) (A : Option Addr) (k : Nat) (D : Option Addr) (m : Nat) (A' : Option Addr) (k' : Nat) (D' : Option Addr) (m' : Nat) (w : World) (h1 : CmdIn w w.heap.size x A k D m) (h2 : CmdIn w w.heap.size x A' k' D' m') :
    Calls Try.prog 17 #[.agg (x.vs A k D m).toArray, .agg (x.vs A' k' D' m').toArray] w fun e w' => e = .returned (.bool true) ∧ Below w.heap.size w w' := by
  obtain ⟨K, cl, nu, L, row, job, sum, ep, F⟩ := x
  obtain ⟨r1, f1, l1, _, k1, _⟩ := h1
  obtain ⟨r2, f2, _, m1, _, k2⟩ := h2
  simp only at r1 r2 f1 f2 l1 m1
  have hc : L.length ≤ maxLen := Nat.le_trans l1 k1
  have hf : F.length ≤ maxLen := Nat.le_trans m1 k2
  obtain ⟨N, hN⟩ : ∃ N, L.length = N := ⟨_, rfl⟩
  obtain ⟨M, hM⟩ : ∃ M, F.length = M := ⟨_, rfl⟩
  show Calls Try.prog 17 #[.agg #[.int .i64 K, .int .u64 cl, .int .u64 nu, .slice A L.length k, .string row, .int .u64 job, .int .u32 sum, .int .u64 ep, .slice D F.length m], .agg #[.int .i64 K, .int .u64 cl, .int .u64 nu, .slice A' L.length k', .string row, .int .u64 job, .int .u32 sum, .int .u64 ep, .slice D' F.length m']] w _
  rw [hN] at hc ⊢
  rw [hM] at hf ⊢
  have H1 := Lib.hid r1
  have H2 := Lib.hid f1
  have H3 := Lib.hid r2
  have H4 := Lib.hid f2
  have HN := Lib.hid hN
  have HM := Lib.hid hM
  obtain ⟨b1, b2, b3⟩ := two_blocks w 34 34 [.int .i64 K, .int .u64 cl, .int .u64 nu, .slice A N k, .string row, .int .u64 job, .int .u32 sum, .int .u64 ep, .slice D M m] [.int .i64 K, .int .u64 cl, .int .u64 nu, .slice A' N k', .string row, .int .u64 job, .int .u32 sum, .int .u64 ep, .slice D' M m']
  have HB := Lib.hid b3
  have HX := Lib.hid b1
  have HY := Lib.hid b2
  have x0 := HX.out.cell (j := 0) rfl
  have x1 := HX.out.cell (j := 1) rfl
  have x2 := HX.out.cell (j := 2) rfl
  have x3 := HX.out.cell (j := 3) rfl
  have y0 := HY.out.cell (j := 0) rfl
  have y1 := HY.out.cell (j := 1) rfl
  have y2 := HY.out.cell (j := 2) rfl
  have y3 := HY.out.cell (j := 3) rfl
  clear r1 r2 f1 f2 l1 m1 hN hM b1 b2 b3 k1 k2
  go_enter Try.func17, Try.ntmps17
  go_wp2_with (first
    | (go_at_call 27; go_loud (refine (sameCells_true A A' k k' N L HN.out _ ((H1.out.below HB.out).more HB.out.size) ((H3.out.below HB.out).more HB.out.size) hc).mono ?_); rintro e w1 ⟨rfl, hb⟩; have HB1 := Lib.hid (HB.out.trans (hb.mono HB.out.size)); have HX1 := Lib.hid (HX.out.below hb HX.out.lt); have HY1 := Lib.hid (HY.out.below hb HY.out.lt); have x4 := HX1.out.cell (j := 4) rfl; have y4 := HY1.out.cell (j := 4) rfl; have x5 := HX1.out.cell (j := 5) rfl; have y5 := HY1.out.cell (j := 5) rfl; have x6 := HX1.out.cell (j := 6) rfl; have y6 := HY1.out.cell (j := 6) rfl; have x7 := HX1.out.cell (j := 7) rfl; have y7 := HY1.out.cell (j := 7) rfl; have x8 := HX1.out.cell (j := 8) rfl; have y8 := HY1.out.cell (j := 8) rfl; clear hb HX HY)
    | (go_at_call 26; go_loud (refine (sameSums_true D D' m m' M F HM.out _ ((H2.out.below HB1.out).more HB1.out.size) ((H4.out.below HB1.out).more HB1.out.size) hf).mono ?_); rintro e w2 ⟨rfl, hb⟩; have HB2 := Lib.hid (HB1.out.trans (hb.mono HB1.out.size)); clear hb))
  go_ret
  exact ⟨rfl, HB2.out⟩
end Go.Proofs.Ytiiogdgnccgehaa
