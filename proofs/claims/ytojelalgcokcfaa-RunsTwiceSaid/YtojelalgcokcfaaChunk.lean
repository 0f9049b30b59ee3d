/-
  The walk of slices.Chunk's iterator at items.
-/
import Derived.Test.YtojelalgcokcfaaSorted
import Derived.RangeFuncBox
import Derived.RangeFuncLeaves
import Derived.Shelf.Abstract
import Derived.OwnWalkIn
import Derived.TacticsInMore
import Derived.LoopNIn
import Derived.LoopIn
namespace Go.Proofs.Ytojelalgcokcfaa
open Go.RowKit Go.Shelf
attribute [local go_sem ↓] Go.wp_at_zero Go.wp_at_succ
attribute [local go_sem] Oper.semAt_some

/-- parts of m each, the last one maybe shorter -/
def chunks (m : Nat) (l : List It) : List (List It) := match m, l with
  | 0, _ => []
  | _ + 1, [] => []
  | m + 1, x :: l => (x :: l).take (m + 1) :: chunks (m + 1) ((x :: l).drop (m + 1))
termination_by l.length
decreasing_by simp; omega
theorem chunks_nil (m : Nat) : chunks m [] = [] := by cases m <;> rw [chunks]
theorem chunks_cons {m : Nat} (hm : 1 ≤ m) {l : List It} (hl : l ≠ []) : chunks m l = l.take m :: chunks m (l.drop m) := by
  match m, l with
  | m + 1, x :: l => rw [chunks]

/-- a part of the items, from a place to another one -/
abbrev Cut (n : Nat) : Type := { x : Nat × Nat // x.1 < x.2 ∧ x.2 ≤ n }
def cut (l : List It) (x : Cut l.length) : List It := (l.drop x.1.1).take (x.1.2 - x.1.1)
def cutVal (A : Option Addr) (n : Nat) (x : Cut n) : Value := .slice (A.map (·.add (x.1.1 * 7))) (x.1.2 - x.1.1) (x.1.2 - x.1.1)
def Kept2 (n0 B1 B2 : Nat) (W W' : World) : Prop := ∀ k, k < n0 ∨ k = B1 ∨ k = B2 → W'.heap[k]? = W.heap[k]?

/-- between two rounds -/
def ChInv (l : List It) (m : Nat) (pre : List (Cut l.length)) (i : Nat) : Prop := pre.map (cut l) ++ chunks m (l.drop i) = chunks m l ∧ (i = 0 ∨ m ≤ i) ∧ (i < l.length → i ≤ 1000000)
theorem ChInv.zero (l : List It) (m : Nat) : ChInv l m [] 0 := ⟨by simp, .inl rfl, fun _ => by omega⟩
theorem ChInv.next {l : List It} {m : Nat} {pre : List (Cut l.length)} {i e : Nat} (hm : 1 ≤ m) (hlen : l.length ≤ 1000000) (h : ChInv l m pre i) (hi : i < l.length) (he : min m (l.length - i) = e) (h1 : i < i + e) (h2 : i + e ≤ l.length) :
    ChInv l m (pre ++ [⟨(i, i + e), h1, h2⟩]) (i + m) := by
  obtain ⟨a, b, c⟩ := h
  refine ⟨?_, .inr (by omega), fun _ => by omega⟩
  rw [← a, List.map_append, List.append_assoc]
  congr 1
  have hne : l.drop i ≠ [] := by
    intro e
    have := congrArg List.length e
    rw [List.length_drop] at this
    simp at this
    omega
  rw [chunks_cons hm hne, List.drop_drop]
  have : cut l ⟨(i, i + e), h1, h2⟩ = (l.drop i).take m := by
    unfold cut
    simp only [Nat.add_sub_cancel_left]
    by_cases hc : m ≤ l.length - i
    · rw [show e = m by omega]
    · rw [List.take_of_length_le (by rw [List.length_drop]; omega), List.take_of_length_le (by rw [List.length_drop]; omega)]
  simp [this]
theorem ChInv.done {l : List It} {m : Nat} {pre : List (Cut l.length)} {i : Nat} (h : ChInv l m pre i) (hi : ¬ i < l.length) : pre.map (cut l) = chunks m l := by
  have := h.1
  rwa [List.drop_of_length_le (by omega), chunks_nil, List.append_nil] at this

theorem run_full {P : Program} {t e : TypeId} {i : TypeInfo} {size : Nat} (ht : P.underlying t = some (.slice e)) (hi : P.info? e = some i) (hs : i.size = size) (A : Option Addr) (n c m k : Nat) (hm : m < k) (hk : k ≤ c) (W : World) :
    (Instr.slice t (.slice A n c) (some (.int .i64 (m : Int))) (some (.int .i64 (k : Int))) (some (.int .i64 (k : Int)))).run P W = .ok (.slice (A.map (·.add (m * size))) (k - m) (k - m)) W := by
  have he : P.underlying t = some (.slice (P.elem t)) := by rw [ht]; simp [Program.elem, ht]
  have hee : P.elem t = e := by simp [Program.elem, ht]
  rw [run_slice_lhm (P := P) W t A n c he .i64 .i64 .i64 m k k (by omega) (by omega) (by omega) (by omega), hee]
  have hne : ¬ k = m := by omega
  simp [sizeOf, typeInfo, hi, Result.andThen, sliced, hs, hne]

theorem Box.keepK {w w' : World} {g : Nat} {e : TypeId} {v : Value} (h : Box w g e v) (hk : w'.heap[g]? = w.heap[g]?) : Box w' g e v := hk.trans h
set_option maxRecDepth 100000 in
set_option maxHeartbeats 2000000 in
theorem chunk1_in (n : Nat) (hn : 1 ≤ n) (r B1 B2 n0 : Nat) (A : Option Addr) (c m : Nat) (l : List It) (hlen : l.length ≤ 1000000) (hcap : l.length ≤ c) (hm : 1 ≤ m) (hm2 : m ≤ 9223372036854775807) (J Jx : List (Cut l.length) → World → Prop)
    (hY : ∀ (pre : List (Cut l.length)) (x : Cut l.length) (W : World), J pre W → pre.length < l.length → YieldAt Fence.wide (n - 1) Try.prog r #[cutVal A l.length x] W fun e W' =>
      (e = .returned (.bool true) ∧ J (pre ++ [x]) W' ∧ Kept2 n0 B1 B2 W W') ∨ (e = .returned (.bool false) ∧ Jx (pre ++ [x]) W'))
    (hJd : ∀ pre W k, J pre W → J pre (W.drewN k))
    (W : World) (hB1 : Box W B1 35 (.slice A l.length c)) (hB2 : Box W B2 3 (.int .i64 m)) (h0 : J [] W) :
    CallsIn Fence.wide n Try.prog 31 #[.func (.yield r) #[] #[], .pointer (some ⟨B1, 0, none⟩), .pointer (some ⟨B2, 0, none⟩)] W fun e W' => (∃ v, e = .returned v) ∧
      ((∃ ys : List (Cut l.length), ys.map (cut l) = chunks m l ∧ J ys W') ∨ (∃ pre, True ∧ Jx pre W')) := by
  obtain ⟨j0, hj0, _, hj1, _⟩ := info_parts itemInfo
  refine callsIn_of_wp Try.func31 rfl trivial ?_ rfl
  simp only [Try.ntmps31, List.size_toArray, List.length_cons, List.length_nil, Nat.reduceAdd, Nat.reduceSub, Array.replicate_succ, Array.replicate_zero, List.push_toArray, List.append_toArray, List.nil_append, List.cons_append]
  gi_wp2
  gi_loopw [4] (fun vi wr => ∃ (pre : List (Cut l.length)) (i : Nat), vi = .int .i64 (i : Int) ∧ Hid (ChInv l m pre i) ∧ pre.length ≤ i ∧ J pre wr ∧ Box wr B1 35 (.slice A l.length c) ∧ Box wr B2 3 (.int .i64 m))
    (fun vi _ => l.length - (intOf vi).toNat)
  case atStart => exact ⟨[], 0, rfl, Lib.hid (ChInv.zero l m), Nat.le_refl _, h0, hB1, hB2⟩
  case round =>
    obtain ⟨pre, i, rfl, HI, hpl, hJs, hb1, hb2⟩ := hrel
    have c1 := hb1.cell
    have c2 := hb2.cell
    by_cases hlt : i < l.length
    · have HY := Lib.hid hY
      clear hY
      have hi2 := HI.out.2.1
      obtain ⟨e, he⟩ : ∃ e, min m (l.length - i) = e := ⟨_, rfl⟩
      have hsl1 := fun W => run_tail (P := Try.prog) (t := 35) (e := 48) (size := 7) Try.underlying35 hj0 hj1 A l.length c i (by omega) W
      have hsl2 := fun W => run_full (P := Try.prog) (t := 35) (e := 48) (size := 7) Try.underlying35 hj0 hj1 A l.length c i (i + e) (by omega) (by omega) W
      have hwe : IntKind.i64.wrap ((i : Int) + (e : Int)) = ((i + e : Nat) : Int) := by rw [IntWalk.i64_in _ (by omega)]; omega
      have hwm : IntKind.i64.wrap ((i : Int) + (m : Int)) = ((i + m : Nat) : Int) := by rw [IntWalk.i64_in _ (by omega)]; omega
      have k1 : (0 : Int) ≤ (i : Int) := by omega
      have k2 : (i : Int) ≤ (l.length : Int) := by omega
      have k3 : decide ((i : Int) < (l.length : Int)) = true := decide_eq_true (by omega)
      have HN := Lib.hid (HI.out.next hm hlen hlt he (by omega) (by omega))
      gi_wp2
      refine wpIn_wide.2 ?_
      go_quiet (fail)
      have hmin : (if l.length - i < m then ((l.length - i : Nat) : Int) else (m : Int)) = (e : Int) := by split <;> omega
      rw [hmin]
      clear hmin
      obtain ⟨fn, tmps, assign, body, hy, hR⟩ := HY.out pre ⟨(i, i + e), show i < i + e by omega, show i + e ≤ l.length by omega⟩ (wr.drewN nq) (hJd _ _ _ hJs) (by omega)
      unfold cutVal at hy
      simp only [Nat.add_sub_cancel_left] at hy
      have c1 : (wr.drewN nq).cell? ⟨B1, 0, none⟩ = some (.slice A l.length c) := c1
      have c2 : (wr.drewN nq).cell? ⟨B2, 0, none⟩ = some (.int .i64 m) := c2
      have q1 : (i : Int) ≤ ((i + e : Nat) : Int) := by omega
      have q2 : ((i + e : Nat) : Int) ≤ (c : Int) := by omega
      gi_wp2
      refine hR.mono ?_
      rintro e W3 (⟨rfl, hJ3, hk3⟩ | ⟨rfl, hJx3⟩)
      · have c3 := ((hb2.drewN nq).keepK (hk3 B2 (.inr (.inr rfl)))).cell
        gi_wp2
        exact ⟨⟨_, i + m, by first | rfl | go_num, HN, by simp; omega, hJ3, (hb1.drewN nq).keepK (hk3 B1 (.inr (.inl rfl))), (hb2.drewN nq).keepK (hk3 B2 (.inr (.inr rfl)))⟩, by simp [intOf]; omega⟩
      · gi_wp2
        refine bodyPost_ret (results_none rfl _ _ _) rfl ?_
        exact ⟨⟨_, rfl⟩, .inr ⟨_, trivial, hJx3⟩⟩
    · have HD := Lib.hid (HI.out.done hlt)
      gi_wp2
      go_end0
      exact ⟨⟨_, rfl⟩, .inl ⟨pre, HD.out, hJs⟩⟩
end Go.Proofs.Ytojelalgcokcfaa
