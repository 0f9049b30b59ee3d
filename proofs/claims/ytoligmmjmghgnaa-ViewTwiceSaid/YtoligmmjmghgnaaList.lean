/-
  The walks of the functions on lists of cells and of borders.
-/
import Derived.Test.YtoligmmjmghgnaaCellEq
namespace Go.Proofs.Ytoligmmjmghgnaa
open Go.RowKit
attribute [local go_sem ↓] Go.wp_at_zero Go.wp_at_succ

def Cl.fits (c : Cl) : Prop := c.ts < 2 ^ 64 ∧ c.seq < 2 ^ 64

/-- the same prefix -/
def sameTo (l m : List Cl) (k : Nat) : Prop := l.take k = m.take k
theorem sameTo_succ {l m : List Cl} {k : Nat} (h : sameTo l m k) (hk : k < l.length) (hk' : k < m.length) (he : l[k] = m[k]) : sameTo l m (k + 1) := by
  unfold sameTo at *
  rw [List.take_succ_eq_append_getElem hk, List.take_succ_eq_append_getElem hk', h, he]
theorem sameTo_end {l m : List Cl} {k : Nat} (h : sameTo l m k) (hn : l.length = m.length) (hk : l.length ≤ k) : true = decide (l = m) := by
  unfold sameTo at h
  rw [List.take_of_length_le hk, List.take_of_length_le (by omega)] at h
  simp [h]
theorem sameTo_not {l m : List Cl} {k : Nat} (hk : k < l.length) (hk' : k < m.length) (he : l[k] ≠ m[k]) : false = decide (l = m) := by
  symm
  rw [decide_eq_false_iff_not]
  rintro rfl
  exact he rfl
theorem sameTo_len {l m : List Cl} (hn : ¬ l.length = m.length) : false = decide (l = m) := by
  symm
  rw [decide_eq_false_iff_not]
  rintro rfl
  exact hn rfl

set_option maxHeartbeats 1000000 in
theorem sameCells_any (A B : Option Addr) (c d : Nat) (l m : List Cl) (w : World) (D : Nat) (hl : Rd w D A (vals l)) (hm : Rd w D B (vals m)) (hlen : l.length ≤ maxLen) (hlen' : m.length ≤ maxLen) :
    Calls Try.prog 13 #[.slice A l.length c, .slice B m.length d] w fun e w' => e = .returned (.bool (decide (l = m))) ∧ ∃ n, w' = w.drewN n := by
  unfold maxLen at hlen hlen'
  by_cases hn : l.length = m.length
  · have hb : ((l.length : Int) != (m.length : Int)) = false := by simp [hn]
    have HN := Lib.hid hn
    clear hn
    go_enter Try.func13, Try.ntmps13
    go_wp2
    go_loopw [5] (fun i wr => ∃ k n : Nat, k ≤ l.length ∧ sameTo l m k ∧ i = .int .i64 k ∧ wr = w.drewN n) (fun i _ => l.length - (intOf i).toNat)
    case atStart => exact ⟨0, 0, Nat.zero_le _, rfl, rfl, rfl⟩
    case round =>
      obtain ⟨k, n, hk, hsame, rfl, rfl⟩ := hrel
      have HS := Lib.hid hsame
      clear hsame
      by_cases hlt : k < l.length
      · have hlt' : k < m.length := by have := HN.out; omega
        obtain ⟨b, o, rfl, hb, hc⟩ := hl.at_ (vals_ne hlt)
        obtain ⟨b', o', rfl, hb', hc'⟩ := hm.at_ (vals_ne hlt')
        obtain ⟨l0, l1, l2, l3, l4, l5⟩ := Rd.cell_at (B := D) hc k hlt
        obtain ⟨m0, m1, m2, m3, m4, m5⟩ := Rd.cell_at (B := D) hc' k hlt'
        clear hc hc' hl hm
        have hne := neq_cell l[k] m[k]
        unfold Cl.agg at hne
        by_cases heq : l[k] = m[k]
        · have HE := Lib.hid heq
          have ht : decide (l[k] = m[k]) = true := by simp [heq]
          clear heq
          go_wp2
          go_quiet (fail)
          go_wp2
          go_roundw
          case rel => exact ⟨k + 1, _, by omega, sameTo_succ HS.out hlt hlt' HE.out, by go_num, rfl⟩
          case measure => simp [intOf]; omega
        · have HE := Lib.hid heq
          have ht : decide (l[k] = m[k]) = false := by simp [heq]
          clear heq
          go_wp2
          go_quiet (fail)
          go_wp2
          go_ret
          exact ⟨ret_bool (sameTo_not hlt hlt' HE.out), _, World.drewN_drewN _ _ _⟩
      · have HE := Lib.hid (sameTo_end HS.out HN.out (by omega))
        go_wp2
        go_ret
        exact ⟨ret_bool HE.out, _, rfl⟩
  · have hb : ((l.length : Int) != (m.length : Int)) = true := by simp; omega
    have HN := Lib.hid hn
    clear hn
    go_enter Try.func13, Try.ntmps13
    go_wp2
    go_ret
    exact ⟨ret_bool (sameTo_len HN.out), 0, rfl⟩
end Go.Proofs.Ytoligmmjmghgnaa
