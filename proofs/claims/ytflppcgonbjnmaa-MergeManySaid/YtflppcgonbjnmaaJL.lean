/-
  Arguments, opened: a slice of cells, an item, a slice of items. Words for the rows: bounds of integers, and the two facts on the program that each row asks for. No conditions.
-/
import Derived.Test.YtflppcgonbjnmaaJO
import Derived.ProofKit
import Derived.Deep.Slices
import Derived.SizedLaws
import Derived.Test.YtflppcgonbjnmaaRows
import Derived.Carry
namespace Go.Proofs.Ytflppcgonbjnmaa
open Go.RowKit Go.ChangeShapes Go.WideShapes Go.Deep

theorem cells_text : Try.prog.cellsOf 9 = 1 := by kernel_rfl
theorem cells_num : Try.prog.cellsOf 51 = 1 := by kernel_rfl
theorem cells_bool : Try.prog.cellsOf 4 = 1 := by kernel_rfl
theorem cells_cell : Try.prog.cellsOf 53 = 6 := by kernel_rfl
theorem num_of {n : Int} (h : (Lit.int .u64 n).wf = true) : ∃ k : Nat, n = k := by
  simp only [Lit.wf, Bool.and_eq_true, decide_eq_true_eq] at h
  have h0 : IntKind.u64.min = 0 := by decide
  exact ⟨n.toNat, by omega⟩

section
variable {H : Type} {enc : TypeId × Value → H} {w : World} {base : Nat} {spare : Nat → Bool} {held : Bool}
set_option maxRecDepth 20000 in
theorem open_one {fuel : Nat} {cs : List Value} {x : DataW H × List MemPlace} (h : DataW.trod enc Try.prog w base spare held fuel 53 cs = some x) : ∃ c : Cl, cs = c.vals := by
  obtain ⟨xs, n, _, _, hl, hlen, hf⟩ := DataW.trod_struct Try.underlying53 h
  rw [cells_cell] at hl
  match cs, hl with
  | [v0, v1, v2, v3, v4, v5], _ =>
    match xs, hlen with
    | [y0, y1, y2, y3, y4, y5], _ =>
      have f0 := hf 0 _ rfl
      have f1 := hf 1 _ rfl
      have f2 := hf 2 _ rfl
      have f3 := hf 3 _ rfl
      have f4 := hf 4 _ rfl
      have f5 := hf 5 _ rfl
      simp only [List.getElem?_cons_zero, List.getElem?_cons_succ] at f0 f1 f2 f3 f4 f5
      obtain ⟨s0, e0, _, _⟩ := DataW.trod_string Try.underlying9 f0
      obtain ⟨s1, e1, _, _⟩ := DataW.trod_string Try.underlying9 f1
      obtain ⟨n2, e2, _, w2⟩ := DataW.trod_int Try.underlying51 f2
      obtain ⟨n3, e3, _, w3⟩ := DataW.trod_int Try.underlying51 f3
      obtain ⟨b4, e4, _⟩ := DataW.trod_bool Try.underlying4 f4
      obtain ⟨s5, e5, _, _⟩ := DataW.trod_string Try.underlying9 f5
      obtain ⟨k2, rfl⟩ := num_of w2
      obtain ⟨k3, rfl⟩ := num_of w3
      injection e0 with e0
      injection e1 with e1
      injection e2 with e2
      injection e3 with e3
      injection e4 with e4
      injection e5 with e5
      subst e0 e1 e2 e3 e4 e5
      exact ⟨⟨s0, s1, k2, k3, b4, s5⟩, rfl⟩

theorem block_lt {p : Addr} {v : Value} (h : w.cell? p = some v) : p.block < w.heap.size := by
  rcases Nat.lt_or_ge p.block w.heap.size with h1 | h1
  · exact h1
  · unfold World.cell? at h
    rw [Array.getElem?_eq_none h1] at h
    cases h

/-- cells lie at an address, one behind the other -/
theorem Rd.of_cells {a : Addr} {l : List Cl} (h : ∀ k (hk : k < l.length) j (hj : j < 6), w.cell? (a.add (k * 6 + j)) = some ((l[k].vals)[j]'(by simpa [Cl.vals] using hj))) : Rd w w.heap.size (some a) (vals l) := fun hn => by
  have hl : 0 < l.length := by
    cases l with
    | nil => exact absurd rfl hn
    | cons c l => simp
  have h0 := h 0 hl 0 (by omega)
  have e0 : a.add (0 * 6 + 0) = a := by simp [Addr.add]
  rw [e0] at h0
  have hsp := World.cell?_spot h0
  obtain ⟨b, o, s⟩ := a
  simp only at hsp
  subst hsp
  refine ⟨b, o, rfl, block_lt h0, fun j hj => ?_⟩
  have hlen := length_vals l
  have h1 := h (j / 6) (by omega) (j % 6) (by omega)
  rw [← add_plain]
  have e1 : j / 6 * 6 + j % 6 = j := by omega
  rw [e1] at h1
  rw [h1]
  have e2 := getElem_vals l (j / 6) (j % 6) (by omega) (by omega) (by omega)
  rw [← e2]
  congr 2
  omega

theorem open_cells {fuel : Nat} {cs : List Value} {x : DataW H × List MemPlace} (h : DataW.trod enc Try.prog w base spare held fuel 22 cs = some x) :
    ∃ (A : Option Addr) (c : Nat) (l : List Cl), cs = [.slice A l.length c] ∧ l.length ≤ c ∧ c ≤ maxLen ∧ Rd w w.heap.size A (vals l) := by
  rcases open_slice Try.underlying22 h with ⟨rfl, _⟩ | ⟨a, len, cap, m, n, D, Pl, rfl, _, hl, hm, hmm, _, hi⟩
  · exact ⟨none, 0, [], rfl, Nat.le_refl _, Nat.zero_le _, Rd.nil⟩
  · have hlm : len ≤ m := by rw [hmm]; split <;> omega
    have hc : ∀ i : Nat, ∃ c : Cl, i < len → ∀ j (hj : j < 6), w.cell? (a.add (i * 6 + j)) = some ((c.vals)[j]'(by simpa [Cl.vals] using hj)) := fun i => by
      by_cases hil : i < len
      · obtain ⟨cs', hc, ht⟩ := hi i (by omega)
        obtain ⟨c, rfl⟩ := open_one ht
        rw [cells_cell] at hc
        obtain ⟨_, _, hat⟩ := World.cells?_some hc
        refine ⟨c, fun _ j hj => ?_⟩
        have h1 := hat j hj
        rw [add_add] at h1
        rw [h1, List.getElem?_eq_getElem (by simpa [Cl.vals] using hj)]
      · exact ⟨⟨⟨#[]⟩, ⟨#[]⟩, 0, 0, false, ⟨#[]⟩⟩, fun h => absurd h hil⟩
    obtain ⟨f, hf⟩ := Classical.axiomOfChoice hc
    refine ⟨some a, cap, (List.range len).map f, by simp, by simpa using hl, hm, Rd.of_cells fun k hk j hj => ?_⟩
    have hk' : k < len := by simpa using hk
    rw [hf k hk' j hj]
    congr 2
    simp


end

theorem cells_int : Try.prog.cellsOf 3 = 1 := by kernel_rfl
theorem cells_item : Try.prog.cellsOf 59 = 7 := by kernel_rfl
section
variable {H : Type} {enc : TypeId × Value → H} {w : World} {base : Nat} {spare : Nat → Bool} {held : Bool}
set_option maxRecDepth 20000 in
theorem open_it {fuel : Nat} {cs : List Value} {x : DataW H × List MemPlace} (h : DataW.trod enc Try.prog w base spare held fuel 59 cs = some x) : ∃ c : It, cs = c.vals ∧ (Lit.int .i64 c.pos).wf = true := by
  obtain ⟨xs, n, _, _, hl, hlen, hf⟩ := DataW.trod_struct Try.underlying59 h
  rw [cells_item] at hl
  match cs, hl with
  | [v0, v1, v2, v3, v4, v5, v6], _ =>
    match xs, hlen with
    | [y0, y1], _ =>
      have f0 : DataW.trod enc Try.prog w base spare held n 53 (List.take (Try.prog.cellsOf 53) (List.drop 0 [v0, v1, v2, v3, v4, v5, v6])) = some y0 := hf 0 _ rfl
      have f1 : DataW.trod enc Try.prog w base spare held n 3 (List.take (Try.prog.cellsOf 3) (List.drop 6 [v0, v1, v2, v3, v4, v5, v6])) = some y1 := hf 1 _ rfl
      rw [cells_cell] at f0
      rw [cells_int] at f1
      simp only [List.drop_zero, List.drop_succ_cons, List.take_succ_cons, List.take_zero] at f0 f1
      obtain ⟨c, e0⟩ := open_one f0
      obtain ⟨n1, e1, _, w1⟩ := DataW.trod_int Try.underlying3 f1
      injection e1 with e1
      subst e1
      unfold Cl.vals at e0
      simp only [List.cons.injEq, and_true] at e0
      obtain ⟨rfl, rfl, rfl, rfl, rfl, rfl⟩ := e0
      exact ⟨⟨c, n1⟩, rfl, w1⟩

/-- things of k cells lie at an address, one behind the other -/
theorem Rd.of_encs {α : Type} {enc' : α → List Value} {k : Nat} (hk : ∀ x, (enc' x).length = k) (hk0 : 0 < k) {a : Addr} {l : List α} (h : ∀ i (hi : i < l.length) j (hj : j < k), w.cell? (a.add (i * k + j)) = some ((enc' l[i])[j]'(by rw [hk]; exact hj))) : Rd w w.heap.size (some a) (l.flatMap enc') := fun hn => by
  have hl : 0 < l.length := by
    cases l with
    | nil => exact absurd rfl hn
    | cons c l => simp
  have h0 := h 0 hl 0 hk0
  have e0 : a.add (0 * k + 0) = a := by simp [Addr.add]
  rw [e0] at h0
  have hsp := World.cell?_spot h0
  obtain ⟨b, o, s⟩ := a
  simp only at hsp
  subst hsp
  refine ⟨b, o, rfl, block_lt h0, fun j hj => ?_⟩
  have hlen := encs_length hk l
  have hjk : j / k < l.length := Nat.div_lt_of_lt_mul (by rw [Nat.mul_comm]; omega)
  have hjm : j % k < k := Nat.mod_lt _ hk0
  have h1 := h (j / k) hjk (j % k) hjm
  have e1 : j / k * k + j % k = j := Nat.div_add_mod' j k
  rw [← add_plain]
  rw [e1] at h1
  rw [h1]
  have e2 := encs_get hk l (j / k) (j % k) hjk _ (List.getElem?_eq_getElem (by rw [hk]; exact hjm))
  rw [e1, List.getElem?_eq_getElem hj] at e2
  exact e2.symm

set_option maxRecDepth 20000 in
/-- a slice, opened: of things of k cells -/
theorem open_things {α : Type} {enc' : α → List Value} {k : Nat} {p : α → Prop} (hk : ∀ x, (enc' x).length = k) (hk0 : 0 < k) {t e : TypeId} (ht : Try.prog.underlying t = some (.slice e)) (hc : Try.prog.cellsOf e = k) (x0 : α)
    (ho : ∀ {fuel : Nat} {cs : List Value} {x : DataW H × List MemPlace}, DataW.trod enc Try.prog w base spare held fuel e cs = some x → ∃ c : α, cs = enc' c ∧ p c)
    {fuel : Nat} {cs : List Value} {x : DataW H × List MemPlace} (h : DataW.trod enc Try.prog w base spare held fuel t cs = some x) :
    ∃ (A : Option Addr) (c : Nat) (l : List α), cs = [.slice A l.length c] ∧ l.length ≤ c ∧ c ≤ maxLen ∧ Rd w w.heap.size A (l.flatMap enc') ∧ (∀ y ∈ l, p y) ∧ ((∃ es sp, x.1 = .slice es sp ∧ es.length = l.length) ∨ l = []) := by
  rcases open_slice ht h with ⟨rfl, _⟩ | ⟨a, len, cap, m, n, D, Pl, rfl, _, hl, hm, hmm, hx, hi⟩
  · exact ⟨none, 0, [], rfl, Nat.le_refl _, Nat.zero_le _, Rd.nil, fun y hy => (by cases hy), .inr rfl⟩
  · have hlm : len ≤ m := by rw [hmm]; split <;> omega
    have hc : ∀ i : Nat, ∃ c : α, i < len → p c ∧ ∀ j (hj : j < k), w.cell? (a.add (i * k + j)) = some ((enc' c)[j]'(by rw [hk]; exact hj)) := fun i => by
      by_cases hil : i < len
      · obtain ⟨cs', hcs, ht'⟩ := hi i (by omega)
        obtain ⟨c, rfl, hp⟩ := ho ht'
        rw [hc] at hcs
        obtain ⟨_, _, hat⟩ := World.cells?_some hcs
        refine ⟨c, fun _ => ⟨hp, fun j hj => ?_⟩⟩
        have h1 := hat j hj
        rw [add_add] at h1
        rw [h1, List.getElem?_eq_getElem (by rw [hk]; exact hj)]
      · exact ⟨x0, fun h => absurd h hil⟩
    obtain ⟨f, hf⟩ := Classical.axiomOfChoice hc
    refine ⟨some a, cap, (List.range len).map f, by simp, by simpa using hl, hm, Rd.of_encs hk hk0 fun i hi j hj => ?_, fun y hy => ?_, .inl ⟨(List.range len).map D, _, by rw [hx], by simp⟩⟩
    · have hi' : i < len := by simpa using hi
      rw [(hf i hi').2 j hj]
      congr 2
      simp
    · obtain ⟨i, hi, rfl⟩ := List.mem_map.1 hy
      exact (hf i (List.mem_range.1 hi)).1
set_option maxRecDepth 20000 in
theorem open_items {fuel : Nat} {cs : List Value} {x : DataW H × List MemPlace} (h : DataW.trod enc Try.prog w base spare held fuel 32 cs = some x) :
    ∃ (A : Option Addr) (c : Nat) (l : List It), cs = [.slice A l.length c] ∧ l.length ≤ c ∧ c ≤ maxLen ∧ Rd w w.heap.size A (its l) ∧ (∀ y ∈ l, (Lit.int .i64 y.pos).wf = true) ∧ ((∃ es sp, x.1 = .slice es sp ∧ es.length = l.length) ∨ l = []) :=
  open_things It.vals_len (by omega) Try.underlying32 cells_item ⟨⟨⟨#[]⟩, ⟨#[]⟩, 0, 0, false, ⟨#[]⟩⟩, 0⟩ open_it h
theorem bytes_item : Try.prog.bytesOf 59 = 80 := by kernel_rfl
theorem agg_of {cs : Array Value} {l : List Value} (h : (Value.cells (.agg cs)).toList = l) : cs = l.toArray := by
  subst h
  simp [Value.cells]
theorem shut_truth (b : Bool) : DataW.Trod enc Try.prog w base spare held 4 (.bool b) (.lit (.bool b)) [] := ⟨1, by simp [DataW.trod, Value.cells, Try.underlying4]⟩
end
end Go.Proofs.Ytflppcgonbjnmaa
namespace Go.Proofs.Ytflppcgonbjnmaa
open Go.ChangeShapes Go.WideShapes Go.ChangeAt Go.RowKit

theorem Try.own : ownKnob Try.prog.godebug = none := by kernel_rfl
theorem Try.laidOut : laidOutB Try.prog = true := by kernel_rfl
theorem wf_i64 {n : Int} (h : (Lit.int .i64 n).wf = true) : -9223372036854775808 ≤ n ∧ n ≤ 9223372036854775807 := by
  simp only [Lit.wf, Bool.and_eq_true, decide_eq_true_eq] at h
  exact h
theorem wf_u8 {n : Int} (h : (Lit.int .u8 n).wf = true) : 0 ≤ n ∧ n ≤ 255 := by
  simp only [Lit.wf, Bool.and_eq_true, decide_eq_true_eq] at h
  exact h
theorem wf_u64 {n : Int} (h : (Lit.int .u64 n).wf = true) : 0 ≤ n ∧ n ≤ 18446744073709551615 := by
  simp only [Lit.wf, Bool.and_eq_true, decide_eq_true_eq] at h
  exact h
end Go.Proofs.Ytflppcgonbjnmaa
