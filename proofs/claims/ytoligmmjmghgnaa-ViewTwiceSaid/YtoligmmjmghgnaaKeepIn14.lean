/-
  The walks of the functions inside view.Keep. Conditions: what they catch lies in boxes.
-/
import Derived.Test.YtoligmmjmghgnaaViewSmall
import Derived.Test.YtoligmmjmghgnaaIndexCell
import Derived.Test.YtoligmmjmghgnaaQBox
import Derived.Test.YtoligmmjmghgnaaArr
import Derived.Shelf.Abstract
namespace Go.Proofs.Ytoligmmjmghgnaa
open Go.RowKit Go.Shelf
attribute [local go_sem ↓] Go.wp_at_zero Go.wp_at_succ

def covF (fl : Nat) (c x : Cl) : Bool := decide (x.seq ≤ fl) && covers x c
def covG (G : List Cl) (fl : Nat) (c : Cl) : Bool := G.any (covF fl c)
set_option maxHeartbeats 1000000 in
theorem keepIn_any (Bf Bc fl : Nat) (x c : Cl) (w : World) (hf : Box w Bf 23 (.int .u64 (fl : Int))) (hc : QBox 29 w Bc c) :
    Calls Try.prog 24 #[x.agg, .pointer (some ⟨Bf, 0, none⟩), .pointer (some ⟨Bc, 0, none⟩)] w fun e w' => e = .returned (.bool (covF fl c x)) ∧ Below w.heap.size w w' := by
  have hb := below_al w (.cells #[.string x.row, .string x.col, .int .u64 x.ts, .int .u64 x.seq, .bool x.del, .string x.val] 29)
  have hf1 := (hf.alloc (.cells #[.string x.row, .string x.col, .int .u64 x.ts, .int .u64 x.seq, .bool x.del, .string x.val] 29)).cell
  obtain ⟨p0, p1, p2, p3, p4, p5⟩ := (hc.below hb hc.lt).cells
  have hm := covers_any x c (w.alloc (.cells #[.string x.row, .string x.col, .int .u64 x.ts, .int .u64 x.seq, .bool x.del, .string x.val] 29))
  have HB := Lib.hid hb
  unfold covF
  clear hb hf hc
  by_cases h : x.seq ≤ fl
  · have e1 : decide (x.seq ≤ fl) = true := decide_eq_true h
    rw [e1, Bool.true_and]
    unfold Cl.agg at hm ⊢
    have HM := Lib.hid hm
    clear hm h
    go_enter Try.func24, Try.ntmps24
    go_wp2_with (go_at_call 25; refine HM.out.mono ?_; rintro e w1 ⟨rfl, hb1⟩)
    go_ret
    exact ⟨rfl, HB.out.trans (hb1.mono HB.out.size)⟩
  · have e1 : decide (x.seq ≤ fl) = false := decide_eq_false h
    rw [e1, Bool.false_and]
    unfold Cl.agg
    clear hm h
    go_enter Try.func24, Try.ntmps24
    go_wp2
    go_ret
    exact ⟨rfl, HB.out⟩
set_option maxHeartbeats 1000000 in
theorem keepHid_any (Bc : Nat) (x c : Cl) (w : World) (hc : QBox 29 w Bc c) :
    Calls Try.prog 26 #[x.agg, .pointer (some ⟨Bc, 0, none⟩)] w fun e w' => e = .returned (.bool (hides c x)) ∧ Below w.heap.size w w' := by
  have hb := below_al w (.cells #[.string x.row, .string x.col, .int .u64 x.ts, .int .u64 x.seq, .bool x.del, .string x.val] 29)
  obtain ⟨p0, p1, p2, p3, p4, p5⟩ := (hc.below hb hc.lt).cells
  have hm := hides_any c x (w.alloc (.cells #[.string x.row, .string x.col, .int .u64 x.ts, .int .u64 x.seq, .bool x.del, .string x.val] 29))
  have HB := Lib.hid hb
  unfold Cl.agg at hm ⊢
  have HM := Lib.hid hm
  clear hm hb hc
  go_enter Try.func26, Try.ntmps26
  go_wp2_with (go_at_call 27; refine HM.out.mono ?_; rintro e w1 ⟨rfl, hb1⟩)
  go_ret
  exact ⟨rfl, HB.out.trans (hb1.mono HB.out.size)⟩
set_option maxHeartbeats 1000000 in
theorem keepOut_any (Bg Bf fl n cap : Nat) (A : Option Addr) (G : List Cl) (x : Cl) (w : World) (hg : Box w Bg 26 (.slice A n cap)) (hf : Box w Bf 23 (.int .u64 (fl : Int))) (hr : Rd w w.heap.size A (cls G)) (hn : G.length = n) (hl : n ≤ maxLen) :
    Calls Try.prog 22 #[x.agg, .pointer (some ⟨Bg, 0, none⟩), .pointer (some ⟨Bf, 0, none⟩)] w fun e w' => e = .returned (.bool (covG G fl x)) ∧ Below w.heap.size w w' := by
  have hb := below_al w (.cells #[.string x.row, .string x.col, .int .u64 x.ts, .int .u64 x.seq, .bool x.del, .string x.val] 29)
  have hg1 := (hg.alloc (.cells #[.string x.row, .string x.col, .int .u64 x.ts, .int .u64 x.seq, .bool x.del, .string x.val] 29)).cell
  have hm := containsCell_any 24 #[.pointer (some ⟨Bf, 0, none⟩), .pointer (some ⟨w.heap.size, 0, none⟩)] (covF fl x) (w.alloc (.cells #[.string x.row, .string x.col, .int .u64 x.ts, .int .u64 x.seq, .bool x.del, .string x.val] 29)) (enters_of Try.func24 (by kernel_rfl) rfl)
    (fun y W hW => keepIn_any Bf w.heap.size fl y x W ((hf.alloc (.cells #[.string x.row, .string x.col, .int .u64 x.ts, .int .u64 x.seq, .bool x.del, .string x.val] 29)).below hW (by rw [World.size_alloc]; have := hf.lt; omega)) ((QBox.new _ w x).below hW (by rw [World.size_alloc]; omega)))
    A cap G ((hr.below hb).more hb.size) (by rw [hn]; exact hl)
  rw [hn] at hm
  have HB := Lib.hid hb
  have HM := Lib.hid hm
  unfold covG Cl.agg
  clear hm hb hg hf hr hn
  go_enter Try.func22, Try.ntmps22
  go_wp2_with (go_at_call 23; refine HM.out.mono ?_; rintro e w1 ⟨rfl, hb1⟩)
  go_ret
  exact ⟨rfl, HB.out.trans (hb1.mono HB.out.size)⟩
end Go.Proofs.Ytoligmmjmghgnaa
