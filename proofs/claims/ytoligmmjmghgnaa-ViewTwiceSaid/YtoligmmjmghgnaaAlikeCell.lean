/-
  The walks of All's two questions about cells. No conditions.
-/
import Derived.Test.YtoligmmjmghgnaaCell14
namespace Go.Proofs.Ytoligmmjmghgnaa
open Go.RowKit
attribute [local go_sem ↓] Go.wp_at_zero Go.wp_at_succ

def alike (a b : Cl) : Bool := decide (a.cmp b = 0)
theorem below_al (w : World) (o : Obj) : Below w.heap.size w (w.alloc o) := (Below.refl _ w).alloc (Nat.le_refl _) o
theorem below_al2 (w : World) (o p : Obj) : Below w.heap.size w ((w.alloc o).alloc p) := (below_al w o).trans ((below_al (w.alloc o) p).mono (below_al w o).size)
set_option maxHeartbeats 1000000 in
theorem alike_any (x y : Cl) (w : World) :
    Calls Try.prog 35 #[x.agg, y.agg] w fun e w' => e = .returned (.bool (alike x y)) ∧ Below w.heap.size w w' := by
  have HB := Lib.hid (below_al2 w (.cells #[.string x.row, .string x.col, .int .u64 x.ts, .int .u64 x.seq, .bool x.del, .string x.val] 29) (.cells #[.string y.row, .string y.col, .int .u64 y.ts, .int .u64 y.seq, .bool y.del, .string y.val] 29))
  have hm := fun W => cmp_any x y W
  unfold Cl.agg at hm ⊢
  have HM := Lib.hid hm
  have HE := Lib.hid (show (x.cmp y == 0) = alike x y from rfl)
  clear hm
  go_enter Try.func35, Try.ntmps35
  go_wp2_with (go_at_call 33; refine (HM.out _).mono ?_; rintro e w1 ⟨rfl, hb1⟩)
  go_ret
  exact ⟨ret_bool HE.out, HB.out.trans (hb1.mono HB.out.size)⟩
set_option maxHeartbeats 1000000 in
theorem later_any (x : Cl) (g at_ : Nat) (w : World) (hg : g < w.heap.size) (hs : w.cell? ⟨g, 0, none⟩ = some (.int .u64 at_)) :
    Calls Try.prog 31 #[x.agg, .pointer (some ⟨g, 0, none⟩)] w fun e w' => e = .returned (.bool (decide (at_ < x.seq))) ∧ Below w.heap.size w w' := by
  unfold Cl.agg
  have hs' := (World.cell?_alloc_lt w (.cells #[.string x.row, .string x.col, .int .u64 x.ts, .int .u64 x.seq, .bool x.del, .string x.val] 29) ⟨g, 0, none⟩ hg).trans hs
  have HB := Lib.hid (below_al w (.cells #[.string x.row, .string x.col, .int .u64 x.ts, .int .u64 x.seq, .bool x.del, .string x.val] 29))
  go_enter Try.func31, Try.ntmps31
  go_wp2
  go_ret
  exact ⟨by first | rfl | (refine ret_bool ?_; simp), HB.out⟩
end Go.Proofs.Ytoligmmjmghgnaa
