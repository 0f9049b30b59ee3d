/-
  The walk of manifest.apart: no two files of a level above 0, in order, meet.
-/
import Derived.Test.YtaeemeoffnhgfaaFBox
namespace Go.Proofs.Ytaeemeoffnhgfaa
open Go.RowKit
attribute [local go_sem ↓] Go.wp_at_zero Go.wp_at_succ

/-- two files that may not stand in one state -/
def clash (f g : Fi) : Bool := decide (0 < f.level) && decide (f.level = g.level) && meets f g.low g.high
/-- none of the first k meets one ahead of it -/
def apartTo (l : List Fi) (k : Nat) : Prop := ∀ i (h : i < l.length), i < k → ∀ j (h' : j < i), clash l[i] l[j] = false
def apartIn (l : List Fi) (i k : Nat) : Prop := ∀ (h : i < l.length) j (h' : j < l.length), j < k → clash l[i] l[j] = false
def apart (l : List Fi) : Bool := decide (∀ i (h : i < l.length), ∀ j (h' : j < i), clash l[i] l[j] = false)
theorem apartTo.zero (l : List Fi) : apartTo l 0 := fun i h hk => by omega
theorem apartIn.zero (l : List Fi) (i : Nat) : apartIn l i 0 := fun h j h' hk => by omega
theorem apartIn.succ {l : List Fi} {i k : Nat} (h : apartIn l i k) (hi : i < l.length) (hk : k < l.length) (hc : clash l[i] l[k] = false) : apartIn l i (k + 1) := fun hi' j hj hjk => by
  by_cases e : j = k
  · subst e; exact hc
  · exact h hi' j hj (by omega)
theorem apartTo.succ {l : List Fi} {k : Nat} (h : apartTo l k) (hi : apartIn l k k) (hk : k < l.length) : apartTo l (k + 1) := fun i hil hik j hj => by
  by_cases e : i = k
  · subst e; exact hi hil j (by omega) hj
  · exact h i hil (by omega) j hj
theorem apartTo.all {l : List Fi} {k : Nat} (h : apartTo l k) (hk : l.length ≤ k) : true = apart l := by
  symm
  exact decide_eq_true fun i hi j hj => h i hi (by omega) j hj
theorem clash.out {l : List Fi} {i k : Nat} (hi : i < l.length) (hk : k < i) (hc : clash l[i] l[k] = true) : false = apart l := by
  symm
  refine decide_eq_false fun h => ?_
  rw [h i hi k hk] at hc
  cases hc

set_option maxRecDepth 10000 in
set_option maxHeartbeats 4000000 in
theorem apart_any (A : Option Addr) (c : Nat) (l : List Fi) (w : World) (hl : Rd w w.heap.size A (fis l)) (hlen : l.length ≤ 1000000) (hcap : l.length ≤ c) :
    Calls Try.prog 37 #[.slice A l.length c] w fun e w' => e = .returned (.bool (apart l)) ∧ Below w.heap.size w w' := by
  obtain ⟨i0, hi0, hz0, hz1, hz2⟩ := info_parts fileInfo
  have HL := Lib.hid hl
  have hsl := fun k (hk : k ≤ l.length) W => run_front (P := Try.prog) (t := 25) (e := 23) (size := 5) Try.underlying25 hi0 hz1 A l.length c k (by omega) W
  have HSL := Lib.hid hsl
  clear hl hsl
  go_enter Try.func37, Try.ntmps37
  go_wp2
  go_loopw [9] (fun vi wr => ∃ i : Nat, vi = .int .i64 (i : Int) ∧ i ≤ l.length ∧ Hid (apartTo l i) ∧ Hid (Below w.heap.size w wr)) (fun vi _ => l.length - (intOf vi).toNat)
  case atStart => exact ⟨0, rfl, Nat.zero_le _, Lib.hid (apartTo.zero l), Lib.hid (Below.refl _ _)⟩
  case round =>
    obtain ⟨i, rfl, hi, HT, HB⟩ := hrel
    rename World => wz
    by_cases hlt : i < l.length
    · have e1 : decide ((i : Int) < (l.length : Int)) = true := decide_eq_true (by omega)
      have k1 : (0 : Int) ≤ (i : Int) := by omega
      have k2 : (i : Int) < (l.length : Int) := by omega
      have k3 : i ≤ l.length := hi
      obtain ⟨b, o, rfl, hb, hc⟩ := (HL.out.below HB.out).at_ (fis_ne hlt)
      have r1 := Rd.enc_range Fi.vals_len hc i hlt
      have hs1 := HSL.out i hi
      obtain ⟨x, hx⟩ : ∃ x, l[i] = x := ⟨_, rfl⟩
      have HXE := Lib.hid hx
      rw [hx] at r1
      have HR1 := Lib.hid r1
      clear hc hx
      go_wp2_with (first
        | (show wpList _ _ _ ({ dst := some 13, op := Op.load _ _, type := _, pos := _, after := _, guard := _ } :: _) _ _; refine wpList_load_mid rfl 23 (.tmp 12) rfl b (o + i * 5) rfl x.vals _ HR1.out Try.underlying23 rfl (by kernel_rfl) ?_)
        | (show wpList _ _ _ ({ dst := none, op := Op.store _ _ _, type := _, pos := _, after := _, guard := _ } :: _) _ _; refine wpList_store_mid rfl 23 (.tmp 4) (.tmp 13) rfl wz.heap.size 0 x.vals.toArray rfl rfl (FBox.there_made _ _ _ _ _ _ _) (by kernel_rfl) (all_oneCell_toArray (Fi.one x)) ?_; refine FBox.madeW 23 wz _ _ _ _ _ x ?_; intro w1 HG1 HB1))
      have HXl := Lib.hid (FBox.lt HG1.out)
      go_loopw [18] (fun vk wr => ∃ k : Nat, vk = .int .i64 (k : Int) ∧ k ≤ i ∧ Hid (apartIn l i k) ∧ Hid (Below w1.heap.size w1 wr)) (fun vk _ => i - (intOf vk).toNat)
      case atStart => exact ⟨0, rfl, Nat.zero_le _, Lib.hid (apartIn.zero l i), Lib.hid (Below.refl _ _)⟩
      case round =>
        obtain ⟨k, rfl, hk, HU, HC⟩ := hrel
        rename World => wy
        by_cases hlk : k < i
        · have f1 : decide ((k : Int) < (i : Int)) = true := decide_eq_true (by omega)
          have f2 : (0 : Int) ≤ (k : Int) := by omega
          have f3 : (k : Int) < (i : Int) := by omega
          have f4 : (k : Int) < (l.length : Int) := by omega
          have HBy := Lib.hid (HB.out.trans ((HB1.out.mono HB.out.size).trans (HC.out.mono (Nat.le_trans HB.out.size HB1.out.size))))
          have hkl : k < l.length := by omega
          obtain ⟨b', o', hA', hb', hc'⟩ := (HL.out.below HBy.out).at_ (fis_ne hkl)
          have hbo : b' = b ∧ o' = o := by cases hA'; exact ⟨rfl, rfl⟩
          obtain ⟨rfl, rfl⟩ := hbo
          have r2 := Rd.enc_range Fi.vals_len hc' k hkl
          obtain ⟨y, hy⟩ : ∃ y, l[k] = y := ⟨_, rfl⟩
          have HYE := Lib.hid hy
          rw [hy] at r2
          have HR2 := Lib.hid r2
          clear hc' hy r2 r1 hA'
          have hm : ∀ z W, Calls Try.prog 44 #[.agg #[.int .i64 z, .string x.name, .string x.low, .string x.high, .int .i64 x.many], .string y.low, .string y.high] W fun e w' => e = .returned (.bool (meets x y.low y.high)) ∧ Below W.heap.size W w' := fun z W => meets_any ⟨z, x.name, x.low, x.high, x.many⟩ y.low y.high W
          have HM := Lib.hid hm
          have HCL := Lib.hid (fun v (h : clash x y = v) => show clash l[i] l[k] = v by rw [HXE.out, HYE.out]; exact h)
          clear hm
          have HG2 := Lib.hid (HG1.out.below HC.out HXl.out)
          go_wp2_with (first
            | (show wpList _ _ _ ({ dst := some 21, op := Op.load _ _, type := _, pos := _, after := _, guard := _ } :: _) _ _; refine wpList_load_mid rfl 23 (.tmp 20) rfl b' (o' + k * 5) rfl y.vals _ HR2.out Try.underlying23 rfl (by kernel_rfl) ?_)
            | (show wpList _ _ _ ({ dst := none, op := Op.store _ (Operand.tmp 6) _, type := _, pos := _, after := _, guard := _ } :: _) _ _; refine wpList_store_mid rfl 23 (.tmp 6) (.tmp 21) rfl wy.heap.size 0 y.vals.toArray rfl rfl (FBox.there_made _ _ _ _ _ _ _) (by kernel_rfl) (all_oneCell_toArray (Fi.one y)) ?_; refine FBox.madeW 23 wy _ _ _ _ _ y ?_; intro w3 HG3 HB3; have HG4 := Lib.hid (HG2.out.below HB3.out (Nat.lt_of_lt_of_le HXl.out HC.out.size)); obtain ⟨c0, c1, c2, c3, c4⟩ := HG4.out.cells; obtain ⟨d0, -, d2, d3, -⟩ := HG3.out.cells)
            | (go_at_call 44; refine (HM.out _ _).mono ?_; rintro e w4 ⟨rfl, hb4⟩))
          · go_ret
            refine ⟨ret_bool (clash.out hlt hlk (HCL.out _ ?_)), (HBy.out.trans (HB3.out.mono HBy.out.size)).trans (hb4.mono (Nat.le_trans HBy.out.size HB3.out.size))⟩
            show (decide (0 < x.level) && decide (x.level = y.level) && meets x y.low y.high) = true
            rw [decide_eq_true ‹0 < x.level›, decide_eq_true ‹x.level = y.level›, ‹meets x y.low y.high = true›]
            rfl
          · refine ⟨⟨k + 1, by first | rfl | go_num, by omega, Lib.hid (HU.out.succ hlt (by omega) (HCL.out _ ?_)), Lib.hid ((HC.out.trans (HB3.out.mono HC.out.size)).trans (hb4.mono (Nat.le_trans HC.out.size HB3.out.size)))⟩, by simp [intOf]; omega⟩
            show (decide (0 < x.level) && decide (x.level = y.level) && meets x y.low y.high) = false
            rw [‹meets x y.low y.high = false›, Bool.and_false]
          · refine ⟨⟨k + 1, by first | rfl | go_num, by omega, Lib.hid (HU.out.succ hlt (by omega) (HCL.out _ ?_)), Lib.hid (HC.out.trans (HB3.out.mono HC.out.size))⟩, by simp [intOf]; omega⟩
            show (decide (0 < x.level) && decide (x.level = y.level) && meets x y.low y.high) = false
            rw [decide_eq_false ‹¬ x.level = y.level›, Bool.and_false, Bool.false_and]
          · refine ⟨⟨k + 1, by first | rfl | go_num, by omega, Lib.hid (HU.out.succ hlt (by omega) (HCL.out _ ?_)), Lib.hid (HC.out.trans (HB3.out.mono HC.out.size))⟩, by simp [intOf]; omega⟩
            show (decide (0 < x.level) && decide (x.level = y.level) && meets x y.low y.high) = false
            rw [decide_eq_false ‹¬ 0 < x.level›, Bool.false_and, Bool.false_and]
        · have f1 : decide ((k : Int) < (i : Int)) = false := decide_eq_false (by omega)
          have HF := Lib.hid (HT.out.succ (fun h j h' hj => HU.out h j h' (by omega)) hlt)
          go_wp2
          exact ⟨⟨i + 1, by first | rfl | go_num, by omega, HF, Lib.hid ((HB.out.trans (HB1.out.mono HB.out.size)).trans (HC.out.mono (Nat.le_trans HB.out.size HB1.out.size)))⟩, by simp [intOf]; omega⟩
    · have e1 : decide ((i : Int) < (l.length : Int)) = false := decide_eq_false (by omega)
      have HF := Lib.hid (HT.out.all (by omega))
      go_wp2
      go_ret
      exact ⟨ret_bool HF.out, HB.out⟩
end Go.Proofs.Ytaeemeoffnhgfaa
