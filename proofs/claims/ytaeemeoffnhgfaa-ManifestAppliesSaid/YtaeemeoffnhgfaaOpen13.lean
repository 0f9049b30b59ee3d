/-
  Arguments, opened: a file, a slice of files. No conditions.
-/
import Derived.Test.YtaeemeoffnhgfaaLawErrorsB
import Derived.ProofKit
import Derived.Deep.Slices
import Derived.SizedLaws
namespace Go.Proofs.Ytaeemeoffnhgfaa
open Go.RowKit Go.ChangeShapes Go.WideShapes Go.Deep

theorem cells_text : Try.prog.cellsOf 9 = 1 := by kernel_rfl
theorem cells_int : Try.prog.cellsOf 3 = 1 := by kernel_rfl
theorem cells_file : Try.prog.cellsOf 23 = 5 := by kernel_rfl
theorem bytes_file : Try.prog.bytesOf 23 = 64 := by kernel_rfl
set_option maxRecDepth 10000
section
variable {H : Type} {enc : TypeId × Value → H} {w : World} {base : Nat} {spare : Nat → Bool} {held : Bool}
theorem block_lt {p : Addr} {v : Value} (h : w.cell? p = some v) : p.block < w.heap.size := by
  rcases Nat.lt_or_ge p.block w.heap.size with h1 | h1
  · exact h1
  · unfold World.cell? at h
    rw [Array.getElem?_eq_none h1] at h
    cases h
/-- the strings of a file are no longer than may be -/
def okFi (f : Fi) : Prop := f.name.size ≤ maxLen ∧ f.low.size ≤ maxLen ∧ f.high.size ≤ maxLen
set_option maxRecDepth 10000 in
theorem open_file {fuel : Nat} {cs : List Value} {x : DataW H × List MemPlace} (h : DataW.trod enc Try.prog w base spare held fuel 23 cs = some x) : ∃ f : Fi, cs = f.vals ∧ okFi f := by
  obtain ⟨xs, n, _, _, hl, hlen, hf⟩ := DataW.trod_struct Try.underlying23 h
  rw [cells_file] at hl
  match cs, hl with
  | [v0, v1, v2, v3, v4], _ =>
    match xs, hlen with
    | [y0, y1, y2, y3, y4], _ =>
      have f0 := hf 0 _ rfl
      have f1 := hf 1 _ rfl
      have f2 := hf 2 _ rfl
      have f3 := hf 3 _ rfl
      have f4 := hf 4 _ rfl
      simp only [cells_text, cells_int, List.drop_zero, List.drop_succ_cons, List.take_succ_cons, List.take_zero, List.getElem?_cons_zero, List.getElem?_cons_succ] at f0 f1 f2 f3 f4
      obtain ⟨n0, e0, _, w0⟩ := DataW.trod_int Try.underlying3 f0
      obtain ⟨s1, e1, _, z1⟩ := DataW.trod_string Try.underlying9 f1
      obtain ⟨s2, e2, _, z2⟩ := DataW.trod_string Try.underlying9 f2
      obtain ⟨s3, e3, _, z3⟩ := DataW.trod_string Try.underlying9 f3
      obtain ⟨n4, e4, _, w4⟩ := DataW.trod_int Try.underlying3 f4
      injection e0 with e0
      injection e1 with e1
      injection e2 with e2
      injection e3 with e3
      injection e4 with e4
      subst e0 e1 e2 e3 e4
      exact ⟨⟨n0, s1, s2, s3, n4⟩, rfl, z1, z2, z3⟩

/-- things of k cells lie at an address, one behind the other -/
theorem Rd.of_encs {α : Type} {enc' : α → List Value} {k : Nat} (hk : ∀ x, (enc' x).length = k) (hk0 : 0 < k) {a : Addr} {l : List α} (h : ∀ i (hi : i < l.length) j (hj : j < k), w.cell? (a.add (i * k + j)) = some ((enc' l[i])[j]'(by rw [hk]; exact hj))) : Rd w w.heap.size (some a) (l.flatMap enc') := fun hn => by
  have hl : 0 < l.length := by
    cases l with
    | nil => exact absurd rfl hn
    | cons c l => simp
  have h0 := h 0 hl 0 hk0
  have e0 : a.add (0 * k + 0) = a := by simp [Addr.add]
  rw [e0] at h0
  have hsp := World.cell?_spot h0
  obtain ⟨b, o, s⟩ := a
  simp only at hsp
  subst hsp
  refine ⟨b, o, rfl, block_lt h0, fun j hj => ?_⟩
  have hlen := encs_length hk l
  have hjk : j / k < l.length := Nat.div_lt_of_lt_mul (by rw [Nat.mul_comm]; omega)
  have hjm : j % k < k := Nat.mod_lt _ hk0
  have h1 := h (j / k) hjk (j % k) hjm
  have e1 : j / k * k + j % k = j := Nat.div_add_mod' j k
  rw [← add_plain]
  rw [e1] at h1
  rw [h1]
  have e2 := encs_get hk l (j / k) (j % k) hjk _ (List.getElem?_eq_getElem (by rw [hk]; exact hjm))
  rw [e1, List.getElem?_eq_getElem hj] at e2
  exact e2.symm

/-- a slice, opened: of things of k cells -/
theorem open_things {α : Type} {enc' : α → List Value} {k : Nat} {p : α → Prop} (hk : ∀ x, (enc' x).length = k) (hk0 : 0 < k) {t e : TypeId} (ht : Try.prog.underlying t = some (.slice e)) (hc : Try.prog.cellsOf e = k) (x0 : α)
    (ho : ∀ {fuel : Nat} {cs : List Value} {x : DataW H × List MemPlace}, DataW.trod enc Try.prog w base spare held fuel e cs = some x → ∃ c : α, cs = enc' c ∧ p c)
    {fuel : Nat} {cs : List Value} {x : DataW H × List MemPlace} (h : DataW.trod enc Try.prog w base spare held fuel t cs = some x) :
    ∃ (A : Option Addr) (c : Nat) (l : List α), cs = [.slice A l.length c] ∧ l.length ≤ c ∧ c ≤ maxLen ∧ Rd w w.heap.size A (l.flatMap enc') ∧ (∀ y ∈ l, p y) ∧ ((∃ es sp, x.1 = .slice es sp ∧ es.length = l.length) ∨ l = []) := by
  rcases open_slice ht h with ⟨rfl, _⟩ | ⟨a, len, cap, m, n, D, Pl, rfl, _, hl, hm, hmm, hx, hi⟩
  · exact ⟨none, 0, [], rfl, Nat.le_refl _, Nat.zero_le _, Rd.nil, fun y hy => (by cases hy), .inr rfl⟩
  · have hlm : len ≤ m := by rw [hmm]; split <;> omega
    have hc : ∀ i : Nat, ∃ c : α, i < len → p c ∧ ∀ j (hj : j < k), w.cell? (a.add (i * k + j)) = some ((enc' c)[j]'(by rw [hk]; exact hj)) := fun i => by
      by_cases hil : i < len
      · obtain ⟨cs', hcs, ht'⟩ := hi i (by omega)
        obtain ⟨c, rfl, hp⟩ := ho ht'
        rw [hc] at hcs
        obtain ⟨_, _, hat⟩ := World.cells?_some hcs
        refine ⟨c, fun _ => ⟨hp, fun j hj => ?_⟩⟩
        have h1 := hat j hj
        rw [add_add] at h1
        rw [h1, List.getElem?_eq_getElem (by rw [hk]; exact hj)]
      · exact ⟨x0, fun h => absurd h hil⟩
    obtain ⟨f, hf⟩ := Classical.axiomOfChoice hc
    refine ⟨some a, cap, (List.range len).map f, by simp, by simpa using hl, hm, Rd.of_encs hk hk0 fun i hi j hj => ?_, fun y hy => ?_, .inl ⟨(List.range len).map D, _, by rw [hx], by simp⟩⟩
    · have hi' : i < len := by simpa using hi
      rw [(hf i hi').2 j hj]
      congr 2
      simp
    · obtain ⟨i, hi, rfl⟩ := List.mem_map.1 hy
      exact (hf i (List.mem_range.1 hi)).1

theorem open_files {fuel : Nat} {cs : List Value} {x : DataW H × List MemPlace} (h : DataW.trod enc Try.prog w base spare held fuel 25 cs = some x) :
    ∃ (A : Option Addr) (c : Nat) (l : List Fi), cs = [.slice A l.length c] ∧ l.length ≤ c ∧ c ≤ maxLen ∧ Rd w w.heap.size A (fis l) ∧ (∀ y ∈ l, okFi y) ∧ ((∃ es sp, x.1 = .slice es sp ∧ es.length = l.length) ∨ l = []) :=
  open_things Fi.vals_len (by omega) Try.underlying25 cells_file fA open_file h
theorem agg_of {cs : Array Value} {l : List Value} (h : (Value.cells (.agg cs)).toList = l) : cs = l.toArray := by
  subst h
  simp [Value.cells]
theorem shut_truth (b : Bool) : DataW.Trod enc Try.prog w base spare held 4 (.bool b) (.lit (.bool b)) [] := ⟨1, by simp [DataW.trod, Value.cells, Try.underlying4]⟩
end
end Go.Proofs.Ytaeemeoffnhgfaa
