/-
  What splits make of a state, plain. No conditions.
-/
import Derived.Test.YtiiogdgnccgehaaJK
namespace Go.Proofs.Ytiiogdgnccgehaa
open Go.RowKit

def cmR (r : ByteArray) : Cmd := ⟨2, 0, 0, [], r, 0, 0, 0, []⟩
def tR (r : ByteArray) : ByteArray := (encC (cmR r)).1
theorem fitsR (r : ByteArray) : fitsC (cmR r) := ⟨by show 0 < _; omega, by show 0 < _; omega, (by intro x hx; cases hx), by show 0 < _; omega, by show 0 < _; omega, by show 0 < _; omega, (by intro x hx; cases hx)⟩
theorem encR {r : ByteArray} (h : r.size ≤ 255) : encC (cmR r) = (tR r, 0) := by
  have h1 : encC (cmR r) = (encB (cmR r), 0) := by
    have hp : plainC (cmR r) = true := rfl
    have hw : wideC (cmR r) = false := by
      show (decide (100 < 0) || decide (255 < 0) || decide (255 < r.size)) = false
      rw [decide_eq_false (show ¬ 255 < r.size by omega)]
      rfl
    have hm : mayC (cmR r) = true := rfl
    unfold encC
    rw [if_pos hp, hw, hm]
    rfl
  have h2 : tR r = encB (cmR r) := by unfold tR; rw [h1]
  rw [h1, h2]
theorem tR_size {r : ByteArray} (h : r.size ≤ 255) : (tR r).size ≤ 100000 := by have := encB_size (encR h); omega
theorem applyS_row {r : ByteArray} (h : r.size ≤ 255) (s : Sta) : applyS s (tR r) = splitS { s with index := s.index + 1 } (cmR r) := by
  rw [applyS_enc (fitsR r) (encR h)]
  rfl
/-- behind k splits, n of which were OK -/
structure BInv (s : Sta) (k n : Nat) : Prop where
  ok : SOk s k
  ix : s.index = k
  ep : s.epoch = n
  bl : s.borders.length = n
  le : n ≤ k
theorem BInv.zero : BInv emptyS 0 0 := ⟨sok_zero, rfl, rfl, rfl, Nat.le_refl _⟩
theorem BInv.next {s : Sta} {k n : Nat} (h : BInv s k n) {r : ByteArray} (hr : r.size ≤ 255) :
    ((applyS s (tR r)).2.e = 0 ∧ BInv (applyS s (tR r)).1 (k + 1) (n + 1)) ∨ ((applyS s (tR r)).2.e ≠ 0 ∧ BInv (applyS s (tR r)).1 (k + 1) n) := by
  have hok := sok_next h.ok (tR r)
  rw [applyS_row hr] at hok ⊢
  have h1 := h.ix
  have h2 := h.ep
  have h3 := h.bl
  have h4 := h.le
  unfold splitS at hok ⊢
  split
  · rename_i hc
    rw [if_pos hc] at hok
    exact .inr ⟨by show (1 : Int) ≠ 0; decide, hok, by simp only [bad]; omega, h2, h3, by omega⟩
  · rename_i hc
    rw [if_neg hc] at hok
    split
    · rename_i hm
      rw [if_pos hm] at hok
      exact .inr ⟨by show (4 : Int) ≠ 0; decide, hok, by simp only [bad]; omega, h2, h3, by omega⟩
    · rename_i hm
      rw [if_neg hm] at hok
      refine .inl ⟨rfl, hok, by simp only; omega, by simp only; omega, ?_, by omega⟩
      simp only
      rw [putAt_len (posT_le _ _)]
      omega
theorem txs_at {w : World} {B : Nat} {A : Option Addr} {l : List ByteArray} (h : Rd w B A (txs l)) {k : Nat} (hk : k < l.length) : ∃ b o, A = some ⟨b, o, none⟩ ∧ b < B ∧ w.cell? ⟨b, o + k, none⟩ = some (.string l[k]) := by
  have hne : txs l ≠ [] := fun e => by have := congrArg List.length e; simp [txs] at this; rw [this] at hk; simp at hk
  obtain ⟨b, o, e, hb, hc⟩ := h.at_ hne
  refine ⟨b, o, e, hb, ?_⟩
  rw [hc k (by simpa [txs] using hk)]
  simp [txs]
theorem encode_row (r : ByteArray) (hr : r.size ≤ 255) (w : World) : Calls Try.prog 12 #[.agg #[.int .i64 2, .int .u64 0, .int .u64 0, .slice none 0 0, .string r, .int .u64 0, .int .u32 0, .int .u64 0, .slice none 0 0]] w fun e w' => e = .returned (.tuple #[.string (tR r), .int .i64 0]) ∧ Below w.heap.size w w' := by
  have h := encode_any (cmR r) none 0 none 0 w ⟨Rd.nil, Rd.nil, Nat.zero_le _, Nat.zero_le _, Nat.zero_le _, Nat.zero_le _⟩
  rw [encR hr] at h
  exact h
end Go.Proofs.Ytiiogdgnccgehaa
