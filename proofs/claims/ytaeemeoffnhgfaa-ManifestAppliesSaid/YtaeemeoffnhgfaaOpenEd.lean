/-
  Arguments, opened: a slice of edits. No conditions.
-/
import Derived.Test.YtaeemeoffnhgfaaRowKit13
import Derived.Test.YtaeemeoffnhgfaaSmall13
namespace Go.Proofs.Ytaeemeoffnhgfaa
open Go.RowKit Go.ChangeShapes Go.WideShapes Go.Deep

theorem cells_edit : Try.prog.cellsOf 36 = 4 := by kernel_rfl
theorem cells_files : Try.prog.cellsOf 25 = 1 := by kernel_rfl
theorem cells_names : Try.prog.cellsOf 34 = 1 := by kernel_rfl
theorem cells_u64 : Try.prog.cellsOf 28 = 1 := by kernel_rfl
set_option maxRecDepth 10000
section
variable {H : Type} {enc : TypeId × Value → H} {w : World} {base : Nat} {spare : Nat → Bool} {held : Bool}
theorem open_names {fuel : Nat} {cs : List Value} {x : DataW H × List MemPlace} (h : DataW.trod enc Try.prog w base spare held fuel 34 cs = some x) :
    ∃ (A : Option Addr) (c : Nat) (l : List ByteArray), cs = [.slice A l.length c] ∧ l.length ≤ c ∧ c ≤ maxLen ∧ Rd w w.heap.size A (l.map Value.string) := by
  obtain ⟨A, c, l, e, h1, h2, h3, _, _⟩ := open_things (enc' := fun s : ByteArray => [Value.string s]) (k := 1) (p := fun _ => True) (fun _ => rfl) (by omega) Try.underlying34 cells_text ⟨#[]⟩ (fun h => by
    obtain ⟨s, e, _, _⟩ := DataW.trod_string Try.underlying9 h
    exact ⟨s, e, trivial⟩) h
  exact ⟨A, c, l, e, h1, h2, by rw [List.map_eq_flatMap]; exact h3⟩
theorem open_edit {fuel : Nat} {cs : List Value} {x : DataW H × List MemPlace} (h : DataW.trod enc Try.prog w base spare held fuel 36 cs = some x) : ∃ e : Ed, cs = e.vals ∧ e.In w := by
  obtain ⟨xs, n, _, _, hl, hlen, hf⟩ := DataW.trod_struct Try.underlying36 h
  rw [cells_edit] at hl
  match cs, hl with
  | [v0, v1, v2, v3], _ =>
    match xs, hlen with
    | [y0, y1, y2, y3], _ =>
      have f0 := hf 0 _ rfl
      have f1 := hf 1 _ rfl
      have f2 := hf 2 _ rfl
      have f3 := hf 3 _ rfl
      simp only [cells_files, cells_names, cells_u64, List.drop_zero, List.drop_succ_cons, List.take_succ_cons, List.take_zero, List.getElem?_cons_zero, List.getElem?_cons_succ] at f0 f1 f2 f3
      obtain ⟨A, c, l, e0, a1, a2, a3, _⟩ := open_files f0
      obtain ⟨D, d, m, e1, b1, b2, b3⟩ := open_names f1
      obtain ⟨n2, e2, _, w2⟩ := DataW.trod_int Try.underlying28 f2
      obtain ⟨n3, e3, _, w3⟩ := DataW.trod_int Try.underlying28 f3
      injection e0 with e0
      injection e1 with e1
      injection e2 with e2
      injection e3 with e3
      subst e0 e1 e2 e3
      exact ⟨⟨A, c, l, D, d, m, n2, n3⟩, rfl, a3, b3, Nat.le_trans a1 a2, Nat.le_trans b1 b2⟩
theorem open_edits {fuel : Nat} {cs : List Value} {x : DataW H × List MemPlace} (h : DataW.trod enc Try.prog w base spare held fuel 42 cs = some x) :
    ∃ (A : Option Addr) (c : Nat) (l : List Ed), cs = [.slice A l.length c] ∧ l.length ≤ c ∧ c ≤ maxLen ∧ (Rd w w.heap.size A (eds l) ∧ ∀ e ∈ l, e.In w) := by
  obtain ⟨A, c, l, e, h1, h2, h3, h4, _⟩ := open_things (enc' := Ed.vals) (k := 4) (p := fun e => e.In w) Ed.vals_len (by omega) Try.underlying42 cells_edit ⟨none, 0, [], none, 0, [], 0, 0⟩ (fun h => open_edit h) h
  exact ⟨A, c, l, e, h1, h2, h3, h4⟩
end
end Go.Proofs.Ytaeemeoffnhgfaa
