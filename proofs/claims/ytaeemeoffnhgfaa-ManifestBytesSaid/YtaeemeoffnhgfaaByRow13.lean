/-
  rickyardlaw13.ManifestBytes answers true, whatever the edit and the text; it does not panic, and its arguments read as they did. No conditions.
-/
import Derived.Test.YtaeemeoffnhgfaaByF13
import Derived.ProofKit
import Derived.Deep.Slices
import Derived.SizedLaws
import Derived.Test.YtaeemeoffnhgfaaRows
import Derived.Carry
namespace Go.Proofs.Ytaeemeoffnhgfaa
open Go.RowKit Go.ChangeShapes Go.WideShapes Go.Deep

theorem cells_text : Try.prog.cellsOf 9 = 1 := by kernel_rfl
theorem cells_int : Try.prog.cellsOf 3 = 1 := by kernel_rfl
theorem cells_file : Try.prog.cellsOf 23 = 5 := by kernel_rfl
theorem bytes_file : Try.prog.bytesOf 23 = 64 := by kernel_rfl
set_option maxRecDepth 10000
section
variable {H : Type} {enc : TypeId × Value → H} {w : World} {base : Nat} {spare : Nat → Bool} {held : Bool}
theorem block_lt {p : Addr} {v : Value} (h : w.cell? p = some v) : p.block < w.heap.size := by
  rcases Nat.lt_or_ge p.block w.heap.size with h1 | h1
  · exact h1
  · unfold World.cell? at h
    rw [Array.getElem?_eq_none h1] at h
    cases h
/-- the strings of a file are no longer than may be -/
def okFi (f : Fi) : Prop := f.name.size ≤ maxLen ∧ f.low.size ≤ maxLen ∧ f.high.size ≤ maxLen
set_option maxRecDepth 10000 in
theorem open_file {fuel : Nat} {cs : List Value} {x : DataW H × List MemPlace} (h : DataW.trod enc Try.prog w base spare held fuel 23 cs = some x) : ∃ f : Fi, cs = f.vals ∧ okFi f := by
  obtain ⟨xs, n, _, _, hl, hlen, hf⟩ := DataW.trod_struct Try.underlying23 h
  rw [cells_file] at hl
  match cs, hl with
  | [v0, v1, v2, v3, v4], _ =>
    match xs, hlen with
    | [y0, y1, y2, y3, y4], _ =>
      have f0 := hf 0 _ rfl
      have f1 := hf 1 _ rfl
      have f2 := hf 2 _ rfl
      have f3 := hf 3 _ rfl
      have f4 := hf 4 _ rfl
      simp only [cells_text, cells_int, List.drop_zero, List.drop_succ_cons, List.take_succ_cons, List.take_zero, List.getElem?_cons_zero, List.getElem?_cons_succ] at f0 f1 f2 f3 f4
      obtain ⟨n0, e0, _, w0⟩ := DataW.trod_int Try.underlying3 f0
      obtain ⟨s1, e1, _, z1⟩ := DataW.trod_string Try.underlying9 f1
      obtain ⟨s2, e2, _, z2⟩ := DataW.trod_string Try.underlying9 f2
      obtain ⟨s3, e3, _, z3⟩ := DataW.trod_string Try.underlying9 f3
      obtain ⟨n4, e4, _, w4⟩ := DataW.trod_int Try.underlying3 f4
      injection e0 with e0
      injection e1 with e1
      injection e2 with e2
      injection e3 with e3
      injection e4 with e4
      subst e0 e1 e2 e3 e4
      exact ⟨⟨n0, s1, s2, s3, n4⟩, rfl, z1, z2, z3⟩

/-- things of k cells lie at an address, one behind the other -/
theorem Rd.of_encs {α : Type} {enc' : α → List Value} {k : Nat} (hk : ∀ x, (enc' x).length = k) (hk0 : 0 < k) {a : Addr} {l : List α} (h : ∀ i (hi : i < l.length) j (hj : j < k), w.cell? (a.add (i * k + j)) = some ((enc' l[i])[j]'(by rw [hk]; exact hj))) : Rd w w.heap.size (some a) (l.flatMap enc') := fun hn => by
  have hl : 0 < l.length := by
    cases l with
    | nil => exact absurd rfl hn
    | cons c l => simp
  have h0 := h 0 hl 0 hk0
  have e0 : a.add (0 * k + 0) = a := by simp [Addr.add]
  rw [e0] at h0
  have hsp := World.cell?_spot h0
  obtain ⟨b, o, s⟩ := a
  simp only at hsp
  subst hsp
  refine ⟨b, o, rfl, block_lt h0, fun j hj => ?_⟩
  have hlen := encs_length hk l
  have hjk : j / k < l.length := Nat.div_lt_of_lt_mul (by rw [Nat.mul_comm]; omega)
  have hjm : j % k < k := Nat.mod_lt _ hk0
  have h1 := h (j / k) hjk (j % k) hjm
  have e1 : j / k * k + j % k = j := Nat.div_add_mod' j k
  rw [← add_plain]
  rw [e1] at h1
  rw [h1]
  have e2 := encs_get hk l (j / k) (j % k) hjk _ (List.getElem?_eq_getElem (by rw [hk]; exact hjm))
  rw [e1, List.getElem?_eq_getElem hj] at e2
  exact e2.symm

/-- a slice, opened: of things of k cells -/
theorem open_things {α : Type} {enc' : α → List Value} {k : Nat} {p : α → Prop} (hk : ∀ x, (enc' x).length = k) (hk0 : 0 < k) {t e : TypeId} (ht : Try.prog.underlying t = some (.slice e)) (hc : Try.prog.cellsOf e = k) (x0 : α)
    (ho : ∀ {fuel : Nat} {cs : List Value} {x : DataW H × List MemPlace}, DataW.trod enc Try.prog w base spare held fuel e cs = some x → ∃ c : α, cs = enc' c ∧ p c)
    {fuel : Nat} {cs : List Value} {x : DataW H × List MemPlace} (h : DataW.trod enc Try.prog w base spare held fuel t cs = some x) :
    ∃ (A : Option Addr) (c : Nat) (l : List α), cs = [.slice A l.length c] ∧ l.length ≤ c ∧ c ≤ maxLen ∧ Rd w w.heap.size A (l.flatMap enc') ∧ (∀ y ∈ l, p y) ∧ ((∃ es sp, x.1 = .slice es sp ∧ es.length = l.length) ∨ l = []) := by
  rcases open_slice ht h with ⟨rfl, _⟩ | ⟨a, len, cap, m, n, D, Pl, rfl, _, hl, hm, hmm, hx, hi⟩
  · exact ⟨none, 0, [], rfl, Nat.le_refl _, Nat.zero_le _, Rd.nil, fun y hy => (by cases hy), .inr rfl⟩
  · have hlm : len ≤ m := by rw [hmm]; split <;> omega
    have hc : ∀ i : Nat, ∃ c : α, i < len → p c ∧ ∀ j (hj : j < k), w.cell? (a.add (i * k + j)) = some ((enc' c)[j]'(by rw [hk]; exact hj)) := fun i => by
      by_cases hil : i < len
      · obtain ⟨cs', hcs, ht'⟩ := hi i (by omega)
        obtain ⟨c, rfl, hp⟩ := ho ht'
        rw [hc] at hcs
        obtain ⟨_, _, hat⟩ := World.cells?_some hcs
        refine ⟨c, fun _ => ⟨hp, fun j hj => ?_⟩⟩
        have h1 := hat j hj
        rw [add_add] at h1
        rw [h1, List.getElem?_eq_getElem (by rw [hk]; exact hj)]
      · exact ⟨x0, fun h => absurd h hil⟩
    obtain ⟨f, hf⟩ := Classical.axiomOfChoice hc
    refine ⟨some a, cap, (List.range len).map f, by simp, by simpa using hl, hm, Rd.of_encs hk hk0 fun i hi j hj => ?_, fun y hy => ?_, .inl ⟨(List.range len).map D, _, by rw [hx], by simp⟩⟩
    · have hi' : i < len := by simpa using hi
      rw [(hf i hi').2 j hj]
      congr 2
      simp
    · obtain ⟨i, hi, rfl⟩ := List.mem_map.1 hy
      exact (hf i (List.mem_range.1 hi)).1

theorem open_files {fuel : Nat} {cs : List Value} {x : DataW H × List MemPlace} (h : DataW.trod enc Try.prog w base spare held fuel 25 cs = some x) :
    ∃ (A : Option Addr) (c : Nat) (l : List Fi), cs = [.slice A l.length c] ∧ l.length ≤ c ∧ c ≤ maxLen ∧ Rd w w.heap.size A (fis l) ∧ (∀ y ∈ l, okFi y) ∧ ((∃ es sp, x.1 = .slice es sp ∧ es.length = l.length) ∨ l = []) :=
  open_things Fi.vals_len (by omega) Try.underlying25 cells_file ⟨0, ⟨#[]⟩, ⟨#[]⟩, ⟨#[]⟩, 0⟩ open_file h
theorem agg_of {cs : Array Value} {l : List Value} (h : (Value.cells (.agg cs)).toList = l) : cs = l.toArray := by
  subst h
  simp [Value.cells]
theorem shut_truth (b : Bool) : DataW.Trod enc Try.prog w base spare held 4 (.bool b) (.lit (.bool b)) [] := ⟨1, by simp [DataW.trod, Value.cells, Try.underlying4]⟩
end
end Go.Proofs.Ytaeemeoffnhgfaa

namespace Go.Proofs.Ytaeemeoffnhgfaa
open Go.ChangeShapes Go.WideShapes Go.ChangeAt Go.RowKit

theorem Try.own : ownKnob Try.prog.godebug = none := by kernel_rfl
theorem Try.laidOut : laidOutB Try.prog = true := by kernel_rfl
theorem wf_i64 {n : Int} (h : (Lit.int .i64 n).wf = true) : -9223372036854775808 ≤ n ∧ n ≤ 9223372036854775807 := by
  simp only [Lit.wf, Bool.and_eq_true, decide_eq_true_eq] at h
  exact h
theorem wf_u8 {n : Int} (h : (Lit.int .u8 n).wf = true) : 0 ≤ n ∧ n ≤ 255 := by
  simp only [Lit.wf, Bool.and_eq_true, decide_eq_true_eq] at h
  exact h
theorem wf_u64 {n : Int} (h : (Lit.int .u64 n).wf = true) : 0 ≤ n ∧ n ≤ 18446744073709551615 := by
  simp only [Lit.wf, Bool.and_eq_true, decide_eq_true_eq] at h
  exact h
end Go.Proofs.Ytaeemeoffnhgfaa

namespace Go.Proofs.Ytaeemeoffnhgfaa
open Go.RowKit Go.ChangeShapes Go.WideShapes Go.Deep

theorem cells_edit : Try.prog.cellsOf 36 = 4 := by kernel_rfl
theorem cells_files : Try.prog.cellsOf 25 = 1 := by kernel_rfl
theorem cells_names : Try.prog.cellsOf 34 = 1 := by kernel_rfl
theorem cells_u64 : Try.prog.cellsOf 28 = 1 := by kernel_rfl
set_option maxRecDepth 10000
section
variable {H : Type} {enc : TypeId × Value → H} {w : World} {base : Nat} {spare : Nat → Bool} {held : Bool}
theorem open_names {fuel : Nat} {cs : List Value} {x : DataW H × List MemPlace} (h : DataW.trod enc Try.prog w base spare held fuel 34 cs = some x) :
    ∃ (A : Option Addr) (c : Nat) (l : List ByteArray), cs = [.slice A l.length c] ∧ l.length ≤ c ∧ c ≤ maxLen ∧ Rd w w.heap.size A (l.map Value.string) := by
  obtain ⟨A, c, l, e, h1, h2, h3, _, _⟩ := open_things (enc' := fun s : ByteArray => [Value.string s]) (k := 1) (p := fun _ => True) (fun _ => rfl) (by omega) Try.underlying34 cells_text ⟨#[]⟩ (fun h => by
    obtain ⟨s, e, _, _⟩ := DataW.trod_string Try.underlying9 h
    exact ⟨s, e, trivial⟩) h
  exact ⟨A, c, l, e, h1, h2, by rw [List.map_eq_flatMap]; exact h3⟩
theorem open_edit {fuel : Nat} {cs : List Value} {x : DataW H × List MemPlace} (h : DataW.trod enc Try.prog w base spare held fuel 36 cs = some x) : ∃ e : Ed, cs = e.vals ∧ e.In w := by
  obtain ⟨xs, n, _, _, hl, hlen, hf⟩ := DataW.trod_struct Try.underlying36 h
  rw [cells_edit] at hl
  match cs, hl with
  | [v0, v1, v2, v3], _ =>
    match xs, hlen with
    | [y0, y1, y2, y3], _ =>
      have f0 := hf 0 _ rfl
      have f1 := hf 1 _ rfl
      have f2 := hf 2 _ rfl
      have f3 := hf 3 _ rfl
      simp only [cells_files, cells_names, cells_u64, List.drop_zero, List.drop_succ_cons, List.take_succ_cons, List.take_zero, List.getElem?_cons_zero, List.getElem?_cons_succ] at f0 f1 f2 f3
      obtain ⟨A, c, l, e0, a1, a2, a3, _⟩ := open_files f0
      obtain ⟨D, d, m, e1, b1, b2, b3⟩ := open_names f1
      obtain ⟨n2, e2, _, w2⟩ := DataW.trod_int Try.underlying28 f2
      obtain ⟨n3, e3, _, w3⟩ := DataW.trod_int Try.underlying28 f3
      injection e0 with e0
      injection e1 with e1
      injection e2 with e2
      injection e3 with e3
      subst e0 e1 e2 e3
      exact ⟨⟨A, c, l, D, d, m, n2, n3⟩, rfl, a3, b3, Nat.le_trans a1 a2, Nat.le_trans b1 b2⟩
theorem open_edits {fuel : Nat} {cs : List Value} {x : DataW H × List MemPlace} (h : DataW.trod enc Try.prog w base spare held fuel 42 cs = some x) :
    ∃ (A : Option Addr) (c : Nat) (l : List Ed), cs = [.slice A l.length c] ∧ l.length ≤ c ∧ c ≤ maxLen ∧ (Rd w w.heap.size A (eds l) ∧ ∀ e ∈ l, e.In w) := by
  obtain ⟨A, c, l, e, h1, h2, h3, h4, _⟩ := open_things (enc' := Ed.vals) (k := 4) (p := fun e => e.In w) Ed.vals_len (by omega) Try.underlying42 cells_edit ⟨none, 0, [], none, 0, [], 0, 0⟩ (fun h => open_edit h) h
  exact ⟨A, c, l, e, h1, h2, h3, h4⟩
end
end Go.Proofs.Ytaeemeoffnhgfaa

namespace Go.Proofs.Ytaeemeoffnhgfaa
open Go.ChangeShapes Go.WideShapes Go.ChangeAt Go.RowKit Go.Deep

set_option maxRecDepth 10000
section
variable {H : Type} {enc : TypeId × Value → H} {w : World} {base : Nat} {spare : Nat → Bool} {held : Bool}
theorem open_ed {fuel : Nat} {cs : List Value} {x : DataW H × List MemPlace} (h : DataW.trod enc Try.prog w base spare held fuel 36 cs = some x) : ∃ e : Ed, cs = e.vals ∧ e.In w ∧ (∃ nx fl : Nat, e.nx = nx ∧ e.fl = fl ∧ nx < 18446744073709551616 ∧ fl < 18446744073709551616) := by
  obtain ⟨xs, n, _, _, hl, hlen, hf⟩ := DataW.trod_struct Try.underlying36 h
  rw [cells_edit] at hl
  match cs, hl with
  | [v0, v1, v2, v3], _ =>
    match xs, hlen with
    | [y0, y1, y2, y3], _ =>
      have f0 := hf 0 _ rfl
      have f1 := hf 1 _ rfl
      have f2 := hf 2 _ rfl
      have f3 := hf 3 _ rfl
      simp only [cells_files, cells_names, cells_u64, List.drop_zero, List.drop_succ_cons, List.take_succ_cons, List.take_zero, List.getElem?_cons_zero, List.getElem?_cons_succ] at f0 f1 f2 f3
      obtain ⟨A, c, l, e0, a1, a2, a3, _⟩ := open_files f0
      obtain ⟨D, d, m, e1, b1, b2, b3⟩ := open_names f1
      obtain ⟨n2, e2, _, w2⟩ := DataW.trod_int Try.underlying28 f2
      obtain ⟨n3, e3, _, w3⟩ := DataW.trod_int Try.underlying28 f3
      have u2 := wf_u64 w2
      have u3 := wf_u64 w3
      injection e0 with e0
      injection e1 with e1
      injection e2 with e2
      injection e3 with e3
      subst e0 e1 e2 e3
      exact ⟨⟨A, c, l, D, d, m, n2, n3⟩, rfl, ⟨a3, b3, Nat.le_trans a1 a2, Nat.le_trans b1 b2⟩, n2.toNat, n3.toNat, by show n2 = _; omega, by show n3 = _; omega, by omega, by omega⟩
end
theorem manifestBytes_any (e : Ed) (t : ByteArray) (w : World) (h : e.In w ∧ (∃ nx fl : Nat, e.nx = nx ∧ e.fl = fl ∧ nx < 18446744073709551616 ∧ fl < 18446744073709551616)) :
    Calls Try.prog 8 #[.agg e.vals.toArray, .string t] w fun e' w' => e' = .returned (.bool true) ∧ Below w.heap.size w w' := by
  obtain ⟨⟨hA, hD, hn, hm⟩, nx, fl, h1, h2, h3, h4⟩ := h
  obtain ⟨A, c, add, D, d, del, x, y⟩ := e
  simp only at h1 h2 hA hD hn hm
  subst h1 h2
  cases hs : smallE add del with
  | false => exact bytes_bad A D c d add.length del.length add del nx fl t w hA hD rfl rfl hn hm hs
  | true =>
    by_cases ht : 600 < t.size
    · exact bytes_long A D c d add.length del.length add del nx fl t w hA hD rfl rfl hn hm hs ht
    · exact bytes_any A D c d add.length del.length add del nx fl t w hA hD rfl rfl hn hm h3 h4 hs (by omega)

set_option maxHeartbeats 800000 in
set_option maxRecDepth 100000 in
theorem manifestBytes_lifted (os : Os) (started : os.Started) (H : Type) (enc : TypeId × Value → H) :
    ReturnsInHanded {} Try.checked os 8 .any (Rows.manifestBytesSpec.pre6 enc Try.prog Try.f8 Rows.manifestBytesRow.domain false) (Rows.manifestBytesSpec.post enc Try.prog Try.f8 false true false false) := by
  refine returnsInHanded_of_change (C := Try.checked) Try.own started (by kernel_rfl) Try.func8
    (ChangeSpec.witness6 (enc := enc) (C := Try.checked) false ⟨#[], #[.agg #[.slice none 0 0, .slice none 0 0, .int .u64 0, .int .u64 0], .string ⟨#[]⟩], []⟩ 8 (by kernel_rfl) (by kernel_rfl) (by kernel_rfl) (by kernel_rfl)) ?_
  intro W base args ds gs before hval0 hW hcnd _
  have hval : ∀ (j : Nat) t v, Try.f8.params[j]? = some t → args[j]? = some v → Value.okWide Try.prog W .any base t v := hval0
  have hW' := hW
  obtain ⟨p, q, hA0, hV, rfl, hfz, hnd⟩ := hW
  have hA : DataW.TrodAll enc Try.prog W 0 (fun _ => true) true Try.f8.params.toList args.toList ds p := hA0
  rw [Try.params8] at hA hval
  obtain ⟨v0, v1, d0, d1, p0, p1, rfl, rfl, rfl, h0, h1⟩ := trodAll_two hA
  obtain ⟨rfl, rfl⟩ := trodVars_none hV
  have hlt0 : ∀ x ∈ p0, x.block < W.heap.size := fun x hx => hW'.lt x (by simp [hx])
  obtain ⟨cs0, rfl, _⟩ := okWide_struct Try.underlying36 (hval 0 36 v0 rfl rfl)
  have h0k := h0
  obtain ⟨fuel0, hf0⟩ := h0
  obtain ⟨e, e0, hw_e⟩ := open_ed hf0
  obtain rfl := agg_of e0
  obtain ⟨t, rfl, rfl, rfl, hw_t⟩ := Go.ChangeMaps.open_string Try.underlying9 (hval 1 9 v1 rfl rfl) h1
  refine (manifestBytes_any e t W hw_e).mono ?_
  rintro e W' ⟨rfl, hb⟩
  refine ⟨_, rfl, _, _, _, [], (p0 ++ []), [], hW', ?_, ?_, rfl, hb.frame _, fun h => by cases h⟩
  · exact trodAll_mk1 (shut_truth true)
  · exact trodAll_mk2 (Below.trod Try.laidOut (by kernel_rfl) (of_decide_eq_true (by kernel_rfl)) h0k hb hlt0) (Go.ChangeMaps.shut_string Try.underlying9 hw_t)

theorem manifestBytes_holds : Rows.ManifestBytesSaid :=
  OpenClaim.holds_of_wide 8 Try.f8 rfl rfl rfl rfl rfl rfl rfl ⟨rfl, rfl, rfl, rfl, rfl⟩ rfl rfl rfl rfl rfl (by kernel_rfl) Try.func8 (by kernel_rfl)
    (of_decide_eq_true (by kernel_rfl)) (by unfold Func.isWrapper; first | (rw [if_pos (by decide +kernel)]; kernel_rfl) | (rw [if_neg (by decide +kernel)]; exact ⟨rfl, rfl⟩))
    (fun os started H enc _ => manifestBytes_lifted os started H enc)

#print axioms manifestBytes_holds
end Go.Proofs.Ytaeemeoffnhgfaa
