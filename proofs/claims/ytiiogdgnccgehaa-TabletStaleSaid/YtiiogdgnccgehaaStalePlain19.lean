/-
  Batches of one cell: what they do, plain; the calls that the law TabletStale makes. No conditions.
-/
import Derived.Test.YtiiogdgnccgehaaJK
namespace Go.Proofs.Ytiiogdgnccgehaa
open Go.RowKit

def cmB (cl n : Nat) (c : Cl) : Cmd := ⟨1, cl, n, [c], ⟨#[]⟩, 0, 0, 0, []⟩
def tB (cl n : Nat) (c : Cl) : ByteArray := (encC (cmB cl n c)).1
theorem encCB {cl n : Nat} {c : Cl} (h : may c = true) : encC (cmB cl n c) = (tB cl n c, 0) := by
  have h1 : encC (cmB cl n c) = (encB (cmB cl n c), 0) := by
    have hp : plainC (cmB cl n c) = true := rfl
    have hw : wideC (cmB cl n c) = false := rfl
    have hm : mayC (cmB cl n c) = true := by simp [mayC, cmB, h]
    unfold encC
    rw [if_pos hp, hw, hm]
    rfl
  have h2 : tB cl n c = encB (cmB cl n c) := by unfold tB; rw [h1]
  rw [h1, h2]
theorem fitsB {cl n : Nat} {c : Cl} (h1 : cl < 256 ^ 8) (h2 : n < 256 ^ 8) (h3 : fitsCl c) : fitsC (cmB cl n c) := ⟨h1, h2, (by intro x hx; rw [List.mem_singleton.1 hx]; exact h3), by show 0 < _; omega, by show 0 < _; omega, by show 0 < _; omega, (by intro x hx; cases hx)⟩
def sB1 (cl n : Nat) : Sta := ⟨1, 0, [], [], [⟨cl, n, 0⟩]⟩
def xB (c : Cl) (q : Nat) : Eff := ⟨0, false, [{ c with seq := q }], []⟩
theorem twiceL_one (c : Cl) : twiceL [c] = false := by
  unfold twiceL
  simp [dupAt]
theorem applyB1 {cl n : Nat} {c : Cl} (h1 : cl < 256 ^ 8) (h2 : n < 256 ^ 8) (h3 : fitsCl c) (h : may c = true) : applyS emptyS (tB cl n c) = (sB1 cl n, xB c 1) := by
  rw [applyS_enc (fitsB h1 h2 h3) (encCB h)]
  unfold methS
  rw [if_pos (show (cmB _ _ _).kind = 1 from rfl)]
  unfold batchS newS
  simp [emptyS, cmB, twiceL_one, sB1, xB]
def rB2 (cl n m : Nat) (c : Cl) : Sta × Eff := if m = n then (⟨2, 0, [], [], [⟨cl, n, 0⟩]⟩, ⟨0, true, [], []⟩) else if m < n then (⟨2, 0, [], [], [⟨cl, n, 0⟩]⟩, ⟨4, false, [], []⟩) else (⟨2, 0, [], [], [⟨cl, m, 0⟩]⟩, xB c 2)
theorem applyB2 {cl n m : Nat} {c : Cl} (h1 : cl < 256 ^ 8) (h2 : m < 256 ^ 8) (h3 : fitsCl c) (h : may c = true) : applyS (sB1 cl n) (tB cl m c) = rB2 cl n m c := by
  rw [applyS_enc (fitsB h1 h2 h3) (encCB h)]
  unfold methS
  rw [if_pos (show (cmB _ _ _).kind = 1 from rfl)]
  unfold batchS newS
  simp [sB1, cmB, twiceL_one, isKl, rB2, xB, bad]
theorem sok_B (cl n : Nat) : SOk (sB1 cl n) 1 := ⟨Nat.le_refl _, Nat.zero_le _, Nat.zero_le _, Nat.zero_le _, Nat.le_refl _, List.Pairwise.nil⟩
theorem cmd_one {W : World} {n : Nat} {cl k : Nat} {c : Cl} (h : Rd W W.heap.size (some ⟨n, 0, none⟩) (vals [c])) : CmdIn W W.heap.size (cmB cl k c) (some ⟨n, 0, none⟩) 1 none 0 := ⟨h, Rd.nil, Nat.le_refl _, Nat.le_refl _, by unfold maxLen; omega, Nat.zero_le _⟩
theorem bounded_one (c : Cl) (n : Nat) (W : World) (h : Rd W W.heap.size (some ⟨n, 0, none⟩) (vals [c])) : Calls Try.prog 10 #[.agg #[.int .i64 0, .int .u64 0, .int .u64 0, .slice (some ⟨n, 0, none⟩) 1 1, .string ⟨#[]⟩, .int .u64 0, .int .u32 0, .int .u64 0, .slice none 0 0]] W fun e w' => e = .returned (.bool (decide (okCell c))) ∧ Below W.heap.size W w' := by
  have h1 := bounded_any ⟨0, 0, 0, [c], ⟨#[]⟩, 0, 0, 0, []⟩ (some ⟨n, 0, none⟩) 1 none 0 W ⟨h, Rd.nil, Nat.le_refl _, Nat.le_refl _, by unfold maxLen; omega, Nat.zero_le _⟩
  have h2 : bndC ⟨0, 0, 0, [c], ⟨#[]⟩, 0, 0, 0, []⟩ = decide (okCell c) := by
    unfold bndC
    simp [ByteArray.size]
  rw [h2] at h1
  exact h1
theorem encode_one (cl k : Nat) (c : Cl) (hm : may c = true) (n : Nat) (W : World) (h : Rd W W.heap.size (some ⟨n, 0, none⟩) (vals [c])) : Calls Try.prog 12 #[.agg #[.int .i64 1, .int .u64 cl, .int .u64 k, .slice (some ⟨n, 0, none⟩) 1 1, .string ⟨#[]⟩, .int .u64 0, .int .u32 0, .int .u64 0, .slice none 0 0]] W fun e w' => e = .returned (.tuple #[.string (tB cl k c), .int .i64 0]) ∧ Below W.heap.size W w' := by
  have h1 := encode_any (cmB cl k c) (some ⟨n, 0, none⟩) 1 none 0 W (cmd_one h)
  rw [encCB hm] at h1
  exact h1
theorem tB_size {cl n : Nat} {c : Cl} (h : may c = true) : (tB cl n c).size ≤ 100000 := by have := encB_size (encCB (cl := cl) (n := n) h); omega
theorem apply_B1 {cl n : Nat} {c : Cl} (h1 : cl < 256 ^ 8) (h2 : n < 256 ^ 8) (h3 : fitsCl c) (h : may c = true) (w : World) : Calls Try.prog 18 #[.agg #[.int .u64 0, .int .u64 0, .slice none 0 0, .slice none 0 0, .slice none 0 0], .string (tB cl n c)] w (AOut w nowhere (sB1 cl n, xB c 1)) := by
  have := apply_first w (tB cl n c) (tB_size h)
  rw [applyB1 h1 h2 h3 h] at this
  exact this
theorem apply_B2 {cl n m : Nat} {c : Cl} (h1 : cl < 256 ^ 8) (h2 : m < 256 ^ 8) (h3 : fitsCl c) (h : may c = true) (w : World) (xs : SA) (hin : StaIn w w.heap.size (sB1 cl n) xs) (hi : InW w xs) : Calls Try.prog 18 #[.agg ((sB1 cl n).vs xs).toArray, .string (tB cl m c)] w (AOut w xs (rB2 cl n m c)) := by
  have := apply_any w _ xs hin hi 1 (by omega) (sok_B cl n) (tB cl m c) (tB_size h)
  rw [applyB2 h1 h2 h3 h] at this
  exact this
/-- the one cell of an effect -/
theorem eff_one {w : World} {B : Nat} {x : Eff} {A : Option Addr} {k : Nat} {D : Option Addr} {m : Nat} {c : Cl} (h : EffIn w B x A k D m) (hx : x.cells = [c]) : ∃ b o, A = some ⟨b, o, none⟩ ∧ b < w.heap.size ∧ w.cell? ⟨b, o + 3, none⟩ = some (.int .u64 c.seq) := by
  have h1 := h.oc
  rw [hx] at h1
  obtain ⟨b, o, rfl, hb, hc⟩ := (Own.rd h1 (by omega)).at_ (by simp [vals, Cl.vals])
  exact ⟨b, o, rfl, hb, hc 3 (by simp [vals, Cl.vals])⟩
end Go.Proofs.Ytiiogdgnccgehaa
