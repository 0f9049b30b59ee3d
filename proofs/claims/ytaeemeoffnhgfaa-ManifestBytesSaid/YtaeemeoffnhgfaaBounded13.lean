/-
  The walk of bounded.
-/
import Derived.Test.YtaeemeoffnhgfaaShown13
namespace Go.Proofs.Ytaeemeoffnhgfaa
open Go.RowKit
attribute [local go_sem ↓] Go.wp_at_zero Go.wp_at_succ

def bndOne (f : Fi) : Bool := decide (f.name.size ≤ 100) && decide (f.low.size ≤ 100) && decide (f.high.size ≤ 100)
def bndF (l : List Fi) : Bool := l.all bndOne && decide (l.length ≤ 40)
def allTo {α : Type} (q : α → Bool) (l : List α) (k : Nat) : Prop := ∀ j (h : j < l.length), j < k → q l[j] = true
theorem allTo.zero {α : Type} (q : α → Bool) (l : List α) : allTo q l 0 := fun j h hj => by omega
theorem allTo.succ {α : Type} {q : α → Bool} {l : List α} {k : Nat} (h : allTo q l k) (hk : k < l.length) (hq : q l[k] = true) : allTo q l (k + 1) := fun j hj hjk => by
  by_cases e : j = k
  · subst e; exact hq
  · exact h j hj (by omega)
theorem allTo.all {α : Type} {q : α → Bool} {l : List α} {k : Nat} (h : allTo q l k) (hk : l.length ≤ k) : l.all q = true := by
  rw [List.all_eq_true]
  intro x hx
  obtain ⟨j, hj, rfl⟩ := List.getElem_of_mem hx
  exact h j hj (by omega)
theorem all_bad {α : Type} {q : α → Bool} {l : List α} {k : Nat} (hk : k < l.length) (hq : q l[k] = false) : l.all q = false := by
  rw [List.all_eq_false]
  exact ⟨_, List.getElem_mem hk, by rw [hq]; exact Bool.false_ne_true⟩
set_option maxHeartbeats 2000000 in
theorem bounded_any (A : Option Addr) (c N : Nat) (l : List Fi) (w : World) (hl : Rd w w.heap.size A (fis l)) (hN : l.length = N) (hlen : N ≤ 1000000000) :
    Calls Try.prog 9 #[.slice A N c] w fun e w' => e = .returned (.bool (bndF l)) ∧ w = w' := by
  have HL := Lib.hid hl
  have HN := Lib.hid hN
  clear hl hN
  go_enter Try.func9, Try.ntmps9
  go_wp2
  go_loopw [3] (fun vi wr => ∃ k : Nat, vi = .int .i64 (k : Int) ∧ k ≤ N ∧ Hid (allTo bndOne l k) ∧ wr = w) (fun vi _ => N - (intOf vi).toNat)
  case atStart => exact ⟨0, rfl, Nat.zero_le _, Lib.hid (allTo.zero _ _), rfl⟩
  case round =>
    obtain ⟨k, rfl, hk, HU, rfl⟩ := hrel
    rename World => wr
    by_cases hlt : k < N
    · have e1 : decide ((k : Int) < (N : Int)) = true := decide_eq_true (by omega)
      have k1 : (0 : Int) ≤ (k : Int) := by omega
      have k2 : (k : Int) < (N : Int) := by omega
      have hkl : k < l.length := by rw [HN.out]; exact hlt
      obtain ⟨b, o, rfl, hr⟩ := rd_elem HL.out hkl
      have HB := Lib.hid (fun h => all_bad (q := bndOne) hkl h)
      have HG := Lib.hid (fun h => HU.out.succ hkl h)
      obtain ⟨x, hx⟩ : ∃ x, l[k] = x := ⟨_, rfl⟩
      rw [hx] at hr HB HG
      have d1 : wr.cell? ⟨b, o + k * 5 + 1, none⟩ = some (.string x.name) := hr 1 _ rfl
      have d2 : wr.cell? ⟨b, o + k * 5 + 2, none⟩ = some (.string x.low) := hr 2 _ rfl
      have d3 : wr.cell? ⟨b, o + k * 5 + 3, none⟩ = some (.string x.high) := hr 3 _ rfl
      clear hr hx
      go_wp2
      all_goals first
        | (go_ret; refine ⟨ret_bool ?_, rfl⟩; unfold bndF; rw [HB.out (by unfold bndOne; simp; omega)]; rfl)
        | exact ⟨⟨k + 1, by first | rfl | go_num, by omega, Lib.hid (HG.out (by unfold bndOne; simp; omega)), by first | trivial | rfl⟩, by simp [intOf]; omega⟩
    · have e1 : decide ((k : Int) < (N : Int)) = false := decide_eq_false (by omega)
      have hb : bndF l = decide ((N : Int) ≤ 40) := by
        unfold bndF
        rw [HU.out.all (by rw [HN.out]; omega), HN.out, Bool.true_and]
        simp only [decide_eq_decide]
        omega
      have HB := Lib.hid hb
      clear hb
      go_wp2
      go_ret
      exact ⟨ret_bool (by first | (rw [HB.out]; done) | (rw [HB.out]; simp only [decide_eq_decide]; omega)), rfl⟩
end Go.Proofs.Ytaeemeoffnhgfaa
