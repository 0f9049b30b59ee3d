/-
  What the walks on cells lean on. Words for new blocks. Cells, held against each other by the language's own equality. The walks of the functions that tell whether two cells have one coordinate. The walks of the functions on lists of cells and of borders. No conditions.
-/
import Derived.Test.YtiiogdgnccgehaaJA
import Derived.Test.YtiiogdgnccgehaaRows
import Derived.WalkSpells
import Derived.Deep.QuietTactic
import Derived.BigQuiet
import Derived.Deep.RegionHeld3
import Derived.Deep.DrawnRows
import Derived.Lib.Hide
namespace Go.Proofs.Ytiiogdgnccgehaa
open Go.RowKit

end Go.Proofs.Ytiiogdgnccgehaa
namespace Go.Proofs.Ytiiogdgnccgehaa
open Go.RowKit
attribute [local go_sem ↓] Go.wp_at_zero Go.wp_at_succ

theorem below2 (w : World) (o p : Obj) : Below w.heap.size w ((w.alloc o).alloc p) := ((Below.refl _ _).alloc (Nat.le_refl _) _).alloc (by simp) _

theorem below3 (w : World) (o p q : Obj) : Below w.heap.size w (((w.alloc o).alloc p).alloc q).drew := ((below2 w o p).alloc (by simp; omega) q).drew
end Go.Proofs.Ytiiogdgnccgehaa
namespace Go.Proofs.Ytiiogdgnccgehaa
open Go.RowKit
attribute [local go_sem ↓] Go.wp_at_zero Go.wp_at_succ

theorem vals_ne {l : List Cl} {k : Nat} (h : k < l.length) : vals l ≠ [] := fun e => by
  have := length_vals l
  rw [e] at this
  simp at this
  omega

theorem if_same {α : Type} (p q r t u v : Prop) [Decidable p] [Decidable q] [Decidable r] [Decidable t] [Decidable u] [Decidable v] (b : Bool) (x y : α) (f : Bool → α) (hx : f false = x) (hy : f true = y) (hb : b = true ↔ p ∧ q ∧ r ∧ t ∧ u ∧ v) :
    (if p then if q then if r then if t then if u then if v then x else y else y else y else y else y else y) = f (!b) := by
  subst hx hy
  cases b with
  | true =>
    obtain ⟨h1, h2, h3, h4, h5, h6⟩ := hb.1 rfl
    simp [h1, h2, h3, h4, h5, h6]
  | false =>
    have hn : ¬ (p ∧ q ∧ r ∧ t ∧ u ∧ v) := fun h => by have := hb.2 h; cases this
    by_cases h1 : p <;> by_cases h2 : q <;> by_cases h3 : r <;> by_cases h4 : t <;> by_cases h5 : u <;> by_cases h6 : v <;> simp_all

theorem neq_cell (x y : Cl) (W : World) : (binOp .neq 75 x.agg y.agg).run Try.prog W = .ok (.bool (!decide (x = y))) W := by
  go_simp
  refine if_same _ _ _ _ _ _ _ _ _ (fun b => Result.ok (Value.bool b) W) rfl rfl ?_
  rw [decide_eq_true_iff]
  obtain ⟨r, c, t, s, d, v⟩ := x
  obtain ⟨r', c', t', s', d', v'⟩ := y
  constructor
  · intro h; cases h; simp
  · rintro ⟨h1, h2, h3, h4, h5, h6⟩
    cases toList_inj h1; cases toList_inj h2; cases toList_inj h6
    have e3 : t = t' := Int.ofNat.inj h3
    have e4 : s = s' := Int.ofNat.inj h4
    have e5 : d = d' := h5
    rw [e3, e4, e5]

theorem if_same' {α : Type} (p q r t u v : Prop) [Decidable p] [Decidable q] [Decidable r] [Decidable t] [Decidable u] [Decidable v] (b : Bool) (x y : α) (f : Bool → α) (hx : f true = x) (hy : f false = y) (hb : b = true ↔ p ∧ q ∧ r ∧ t ∧ u ∧ v) :
    (if p then if q then if r then if t then if u then if v then x else y else y else y else y else y else y) = f b := by
  have := if_same p q r t u v b x y (fun c => f (!c)) (by simpa using hx) (by simpa using hy) hb
  simpa using this
theorem cl_eq_iff (x y : Cl) : x = y ↔ x.row.toList = y.row.toList ∧ x.col.toList = y.col.toList ∧ (x.ts : Int) = y.ts ∧ (x.seq : Int) = y.seq ∧ x.del = y.del ∧ x.val.toList = y.val.toList := by
  obtain ⟨r, c, t, s, d, v⟩ := x
  obtain ⟨r', c', t', s', d', v'⟩ := y
  constructor
  · intro h; cases h; simp
  · rintro ⟨h1, h2, h3, h4, h5, h6⟩
    cases toList_inj h1; cases toList_inj h2; cases toList_inj h6
    have e3 : t = t' := Int.ofNat.inj h3
    have e4 : s = s' := Int.ofNat.inj h4
    have e5 : d = d' := h5
    rw [e3, e4, e5]
theorem eql_cell (x y : Cl) (W : World) : (binOp .eql 75 x.agg y.agg).run Try.prog W = .ok (.bool (decide (x = y))) W := by
  go_simp
  refine if_same' _ _ _ _ _ _ _ _ _ (fun b => Result.ok (Value.bool b) W) rfl rfl ?_
  rw [decide_eq_true_iff]
  exact cl_eq_iff x y
end Go.Proofs.Ytiiogdgnccgehaa
namespace Go.Proofs.Ytiiogdgnccgehaa
open Go.RowKit
attribute [local go_sem ↓] Go.wp_at_zero Go.wp_at_succ

/-- one row, one column, one time -/
def Cl.same (a b : Cl) : Bool := decide (a.row = b.row ∧ a.col = b.col ∧ a.ts = b.ts)
theorem same_move (a b : Cl) : decide ({ a with seq := b.seq, del := b.del, val := b.val } = b) = a.same b := by
  unfold Cl.same
  rw [Bool.eq_iff_iff, decide_eq_true_iff, decide_eq_true_iff]
  obtain ⟨r, c, t, s, d, v⟩ := a
  obtain ⟨r', c', t', s', d', v'⟩ := b
  simp

theorem same_1 {x y : Cl} (h : x.row.toList = y.row.toList) (k : x.col.toList = y.col.toList) : ((x.ts : Int) == (y.ts : Int)) = x.same y := by
  unfold Cl.same
  rw [Bool.eq_iff_iff, beq_iff_eq, decide_eq_true_iff]
  exact ⟨fun e => ⟨toList_inj h, toList_inj k, Int.ofNat.inj e⟩, fun e => congrArg _ e.2.2⟩
theorem same_2 {x y : Cl} (k : ¬ x.col.toList = y.col.toList) : false = x.same y := by
  symm
  unfold Cl.same
  rw [decide_eq_false_iff_not]
  exact fun e => k (by rw [e.2.1])
theorem same_3 {x y : Cl} (k : ¬ x.row.toList = y.row.toList) : false = x.same y := by
  symm
  unfold Cl.same
  rw [decide_eq_false_iff_not]
  exact fun e => k (by rw [e.1])
theorem below2' (w : World) (o p : Obj) : Below w.heap.size w ((w.alloc o).alloc p) := ((Below.refl _ _).alloc (Nat.le_refl _) _).alloc (by simp) _

set_option maxHeartbeats 2000000 in
theorem cellSame_any (x y : Cl) (w : World) :
    Calls Try.prog 85 #[x.agg, y.agg] w fun e w' => e = .returned (.bool (x.same y)) ∧ Below w.heap.size w w' := by
  have hq := eql_cell { x with seq := y.seq, del := y.del, val := y.val } y
  rw [same_move] at hq
  unfold Cl.agg at hq ⊢
  dsimp only at hq
  go_enter Try.func85, Try.ntmps85
  go_wp2
  go_region
  go_wp2
  go_ret
  exact ⟨rfl, (below2' w _ _).drew⟩

set_option maxHeartbeats 1000000 in
theorem refSame_any (x y : Cl) (w : World) :
    Calls Try.prog 90 #[x.agg, y.agg] w fun e w' => e = .returned (.bool (x.same y)) ∧ Below w.heap.size w w' := by
  unfold Cl.agg
  go_enter Try.func90, Try.ntmps90
  go_wp2
  · go_ret; exact ⟨ret_bool (same_1 ‹_› ‹_›), below2' w _ _⟩
  · go_ret; exact ⟨ret_bool (same_2 ‹_›), below2' w _ _⟩
  · go_ret; exact ⟨ret_bool (same_3 ‹_›), below2' w _ _⟩

end Go.Proofs.Ytiiogdgnccgehaa
namespace Go.Proofs.Ytiiogdgnccgehaa
open Go.RowKit
attribute [local go_sem ↓] Go.wp_at_zero Go.wp_at_succ

def Cl.fits (c : Cl) : Prop := c.ts < 2 ^ 64 ∧ c.seq < 2 ^ 64

/-- the same prefix -/
def sameTo (l m : List Cl) (k : Nat) : Prop := l.take k = m.take k
theorem sameTo_succ {l m : List Cl} {k : Nat} (h : sameTo l m k) (hk : k < l.length) (hk' : k < m.length) (he : l[k] = m[k]) : sameTo l m (k + 1) := by
  unfold sameTo at *
  rw [List.take_succ_eq_append_getElem hk, List.take_succ_eq_append_getElem hk', h, he]
theorem sameTo_end {l m : List Cl} {k : Nat} (h : sameTo l m k) (hn : l.length = m.length) (hk : l.length ≤ k) : true = decide (l = m) := by
  unfold sameTo at h
  rw [List.take_of_length_le hk, List.take_of_length_le (by omega)] at h
  simp [h]
theorem sameTo_not {l m : List Cl} {k : Nat} (hk : k < l.length) (hk' : k < m.length) (he : l[k] ≠ m[k]) : false = decide (l = m) := by
  symm
  rw [decide_eq_false_iff_not]
  rintro rfl
  exact he rfl
theorem sameTo_len {l m : List Cl} (hn : ¬ l.length = m.length) : false = decide (l = m) := by
  symm
  rw [decide_eq_false_iff_not]
  rintro rfl
  exact hn rfl

set_option maxHeartbeats 1000000 in
theorem sameCells_any (A B : Option Addr) (c d : Nat) (l m : List Cl) (w : World) (D : Nat) (hl : Rd w D A (vals l)) (hm : Rd w D B (vals m)) (hlen : l.length ≤ maxLen) (_hlen' : m.length ≤ maxLen) :
    Calls Try.prog 27 #[.slice A l.length c, .slice B m.length d] w fun e w' => e = .returned (.bool (decide (l = m))) ∧ ∃ n, w' = w.drewN n := by
  unfold maxLen at hlen _hlen'
  by_cases hn : l.length = m.length
  · have hb : ((l.length : Int) != (m.length : Int)) = false := by simp [hn]
    have HN := Lib.hid hn
    clear hn
    go_enter Try.func27, Try.ntmps27
    go_wp2
    go_loopw [5] (fun i wr => ∃ k n : Nat, k ≤ l.length ∧ sameTo l m k ∧ i = .int .i64 k ∧ wr = w.drewN n) (fun i _ => l.length - (intOf i).toNat)
    case atStart => exact ⟨0, 0, Nat.zero_le _, rfl, rfl, rfl⟩
    case round =>
      obtain ⟨k, n, hk, hsame, rfl, rfl⟩ := hrel
      have HS := Lib.hid hsame
      clear hsame
      by_cases hlt : k < l.length
      · have hlt' : k < m.length := by have := HN.out; omega
        obtain ⟨b, o, rfl, hb, hc⟩ := hl.at_ (vals_ne hlt)
        obtain ⟨b', o', rfl, hb', hc'⟩ := hm.at_ (vals_ne hlt')
        obtain ⟨l0, l1, l2, l3, l4, l5⟩ := Rd.cell_at (_B := D) hc k hlt
        obtain ⟨m0, m1, m2, m3, m4, m5⟩ := Rd.cell_at (_B := D) hc' k hlt'
        clear hc hc' hl hm
        have hne := neq_cell l[k] m[k]
        unfold Cl.agg at hne
        by_cases heq : l[k] = m[k]
        · have HE := Lib.hid heq
          have ht : decide (l[k] = m[k]) = true := by simp [heq]
          clear heq
          go_wp2
          go_quiet (fail)
          go_wp2
          go_roundw
          case rel => exact ⟨k + 1, _, by omega, sameTo_succ HS.out hlt hlt' HE.out, by go_num, rfl⟩
          case measure => simp [intOf]; omega
        · have HE := Lib.hid heq
          have ht : decide (l[k] = m[k]) = false := by simp [heq]
          clear heq
          go_wp2
          go_quiet (fail)
          go_wp2
          go_ret
          exact ⟨ret_bool (sameTo_not hlt hlt' HE.out), _, World.drewN_drewN _ _ _⟩
      · have HE := Lib.hid (sameTo_end HS.out HN.out (by omega))
        go_wp2
        go_ret
        exact ⟨ret_bool HE.out, _, rfl⟩
  · have hb : ((l.length : Int) != (m.length : Int)) = true := by simp; omega
    have HN := Lib.hid hn
    clear hn
    go_enter Try.func27, Try.ntmps27
    go_wp2
    go_ret
    exact ⟨ret_bool (sameTo_len HN.out), 0, rfl⟩
end Go.Proofs.Ytiiogdgnccgehaa
