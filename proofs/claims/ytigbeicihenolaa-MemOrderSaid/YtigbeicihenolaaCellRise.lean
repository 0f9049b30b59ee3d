/-
  The walks of the two functions that tell whether cells rise.
-/
import Derived.Test.YtigbeicihenolaaList
namespace Go.Proofs.Ytigbeicihenolaa
open Go.RowKit
attribute [local go_sem ↓] Go.wp_at_zero Go.wp_at_succ

/-- each is above the one ahead of it -/
def rising : List Cl → Bool
  | [] => true
  | [_] => true
  | a :: b :: l => decide (a.cmp b < 0) && rising (b :: l)
def risenTo (l : List Cl) (k : Nat) : Prop := ∀ i (h : i + 1 < l.length), i + 1 < k → l[i].cmp l[i + 1] < 0
theorem rising_iff : ∀ l : List Cl, rising l = true ↔ ∀ i (h : i + 1 < l.length), l[i].cmp l[i + 1] < 0
  | [] => by simp [rising]
  | [_] => by simp [rising]
  | a :: b :: l => by
    rw [rising, Bool.and_eq_true, rising_iff (b :: l), decide_eq_true_iff]
    constructor
    · rintro ⟨h0, h⟩ i hi
      cases i with
      | zero => exact h0
      | succ i => exact h i (by simpa using hi)
    · intro h
      exact ⟨h 0 (by simp), fun i hi => h (i + 1) (by simpa using hi)⟩
theorem risenTo_zero (l : List Cl) : risenTo l 0 := fun i h hk => by omega
theorem risenTo_one (l : List Cl) : risenTo l 1 := fun i h hk => by omega
theorem risenTo_succ {l : List Cl} {j : Nat} (h : risenTo l (j + 1)) (hj : j + 1 < l.length) (hc : l[j].cmp l[j + 1] < 0) : risenTo l (j + 2) := fun i hi hk => by
  by_cases e : i = j
  · subst e; exact hc
  · exact h i hi (by omega)
theorem risenTo_end {l : List Cl} {k : Nat} (h : risenTo l k) (hk : l.length ≤ k) : true = rising l := by
  symm
  rw [rising_iff]
  exact fun i hi => h i hi (by omega)
theorem risenTo_not {l : List Cl} {j : Nat} (hj : j + 1 < l.length) (hc : ¬ l[j].cmp l[j + 1] < 0) : false = rising l := by
  symm
  rw [Bool.eq_false_iff]
  intro h
  exact hc ((rising_iff l).1 h j hj)

theorem risenTo_succ' {l : List Cl} {j k : Nat} (h : risenTo l k) (e : k = j + 1) (hj : j < l.length) (hk : k < l.length) (hc : l[j].cmp l[k] < 0) : risenTo l (k + 1) := by
  subst e; exact risenTo_succ h hk hc
theorem risenTo_not' {l : List Cl} {j k : Nat} (e : k = j + 1) (hj : j < l.length) (hk : k < l.length) (hc : ¬ l[j].cmp l[k] < 0) : false = rising l := by
  subst e; exact risenTo_not hk hc

theorem below_drewN {B : Nat} {a w : World} (h : Below B a w) (n : Nat) : Below B a (w.drewN n) := ⟨h.os, h.tape, h.output, h.size, h.block⟩
theorem below_of_drew {B : Nat} {a w : World} (h : Below B a.drew w) : Below B a w := ⟨h.os, h.tape, h.output, h.size, h.block⟩

set_option maxHeartbeats 2000000 in
theorem cellRising_any (A : Option Addr) (c : Nat) (l : List Cl) (w : World) (hl : Rd w w.heap.size A (vals l)) (hlen : l.length ≤ maxLen) :
    Calls Try.prog 22 #[.slice A l.length c] w fun e w' => e = .returned (.bool (rising l)) ∧ Below w.heap.size w w' := by
  unfold maxLen at hlen
  go_enter Try.func22, Try.ntmps22
  go_wp2
  go_loopw [3, 6] (fun _ i wr => ∃ k : Nat, k ≤ l.length ∧ risenTo l k ∧ i = .int .i64 k ∧ Below w.heap.size w wr) (fun _ i _ => l.length - (intOf i).toNat)
  case atStart => exact ⟨0, Nat.zero_le _, risenTo_zero _, rfl, Below.refl _ _⟩
  case round =>
    obtain ⟨k, hk, hr, rfl, hB⟩ := hrel
    have HR := Lib.hid hr
    clear hr
    have hl' := hl.below hB
    clear hl
    by_cases hlt : k < l.length
    · obtain ⟨b, o, rfl, hb, hc⟩ := hl'.at_ (vals_ne hlt)
      obtain ⟨l0, l1, l2, l3, l4, l5⟩ := Rd.cell_at (B := 0) hc k hlt
      by_cases hk0 : k = 0
      · subst hk0
        clear hc hl'
        have hd : decide ((0 : Int) < ((0 : Nat) : Int)) = false := rfl
        have HR1 := Lib.hid (risenTo_one l)
        go_wp2
        go_quiet (fail)
        go_wp2
        go_roundw
        case rel => exact ⟨1, by omega, HR1.out, by go_num, below_drewN hB _⟩
        case measure => simp [intOf]; omega
      · obtain ⟨j, hj⟩ : ∃ j, k = j + 1 := ⟨k - 1, by omega⟩
        have hjl : j < l.length := by omega
        obtain ⟨m0, m1, m2, m3, m4, m5⟩ := Rd.cell_at (B := 0) hc j hjl
        clear hc hl'
        have hsz := hB.size
        have hd : decide (0 < k) = true := by simp; omega
        have hd' : IntKind.i64.wrap ((k : Int) - 1) = (j : Int) := by rw [IntWalk.i64_in _ (by omega)]; omega
        have i1 : (0 : Int) ≤ (j : Int) := by omega
        have i2 : (j : Int) < (l.length : Int) := by omega
        have i3 : (k : Int) < (l.length : Int) := by omega
        have i4 : (0 : Int) ≤ (k : Int) := by omega
        have HJ := Lib.hid hj
        clear hj
        go_wp2
        go_region_held3 (fun w' => w'.cell? ⟨b, o + j * 6, none⟩ = some (.string l[j].row) ∧ w'.cell? ⟨b, o + j * 6 + 1, none⟩ = some (.string l[j].col) ∧ w'.cell? ⟨b, o + j * 6 + 2, none⟩ = some (.int .u64 l[j].ts) ∧ w'.cell? ⟨b, o + j * 6 + 3, none⟩ = some (.int .u64 l[j].seq) ∧ w'.cell? ⟨b, o + j * 6 + 4, none⟩ = some (.bool l[j].del) ∧ w'.cell? ⟨b, o + j * 6 + 5, none⟩ = some (.string l[j].val) ∧ w'.cell? ⟨b, o + k * 6, none⟩ = some (.string l[k].row) ∧ w'.cell? ⟨b, o + k * 6 + 1, none⟩ = some (.string l[k].col) ∧ w'.cell? ⟨b, o + k * 6 + 2, none⟩ = some (.int .u64 l[k].ts) ∧ w'.cell? ⟨b, o + k * 6 + 3, none⟩ = some (.int .u64 l[k].seq) ∧ w'.cell? ⟨b, o + k * 6 + 4, none⟩ = some (.bool l[k].del) ∧ w'.cell? ⟨b, o + k * 6 + 5, none⟩ = some (.string l[k].val)) (go_keep)
          (first | (go_at_call 32; refine (cmp_any l[j] l[k] _).mono ?_; rintro e w1 ⟨rfl, hb1⟩; have hc1 : ∀ i, w1.cell? ⟨b, i, none⟩ = wr.cell? ⟨b, i, none⟩ := fun i => hb1.cell (p := ⟨b, i, none⟩) (show b < wr.heap.size by omega)))
        have hB2 : Below w.heap.size w w1 := hB.trans (below_of_drew (hb1.mono hsz))
        clear hb1 hc1
        by_cases hcmp : l[j].cmp l[k] < 0
        · go_wp2
          exact ⟨⟨k + 1, by omega, risenTo_succ' HR.out HJ.out hjl hlt (by omega), by go_num, hB2⟩, by simp [intOf]; omega⟩
        · have hcmp' : 0 ≤ l[j].cmp l[k] := by omega
          go_wp2
          go_ret
          exact ⟨ret_bool (risenTo_not' HJ.out hjl hlt (by omega)), hB2⟩
    · have HE := Lib.hid (risenTo_end HR.out (by omega))
      go_wp2
      go_ret
      exact ⟨ret_bool HE.out, hB⟩
end Go.Proofs.Ytigbeicihenolaa
