/-
  The walks of the bound of layer 12's laws, and of what they show.
-/
import Derived.Test.YtijicefakfpdcaaPutT
import Derived.Test.YtijicefakfpdcaaList
namespace Go.Proofs.Ytijicefakfpdcaa
open Go.RowKit
attribute [local go_sem ↓] Go.wp_at_zero Go.wp_at_succ

/-- the names of a cell are short enough -/
def okCell (c : Cl) : Prop := c.row.size ≤ 100 ∧ c.col.size ≤ 100 ∧ c.val.size ≤ 200
def okCells (l : List Cl) : Prop := ∀ c ∈ l, okCell c
instance (c : Cl) : Decidable (okCell c) := inferInstanceAs (Decidable (_ ∧ _ ∧ _))
instance (l : List Cl) : Decidable (okCells l) := inferInstanceAs (Decidable (∀ c ∈ l, okCell c))
def bnd (l : List Cl) : Bool := decide (okCells l ∧ l.length ≤ 80)
theorem bnd_len {l : List Cl} (h : bnd l = true) : l.length ≤ 80 := (of_decide_eq_true h).2

def okTo {α : Type} (p : α → Prop) (l : List α) (k : Nat) : Prop := ∀ c ∈ l.take k, p c
theorem okTo_zero {α : Type} (p : α → Prop) (l : List α) : okTo p l 0 := fun c h => by simp at h
theorem okTo_succ {α : Type} {p : α → Prop} {l : List α} {k : Nat} (h : okTo p l k) (hk : k < l.length) (hp : p l[k]) : okTo p l (k + 1) := fun c hc => by
  rw [List.take_succ_eq_append_getElem hk] at hc
  rcases List.mem_append.1 hc with hc | hc
  · exact h c hc
  · rw [List.mem_singleton.1 hc]; exact hp
theorem okTo_end {α : Type} {p : α → Prop} {l : List α} {k : Nat} (h : okTo p l k) (hk : l.length ≤ k) : ∀ c ∈ l, p c := by
  unfold okTo at h
  rwa [List.take_of_length_le hk] at h
theorem bnd_cell {l : List Cl} {k : Nat} (hk : k < l.length) (h : ¬ okCell l[k]) : false = bnd l := by
  symm
  rw [bnd, decide_eq_false_iff_not]
  exact fun hh => h (hh.1 _ (List.getElem_mem hk))

set_option maxHeartbeats 2000000 in
theorem bounded_any (A : Option Addr) (c : Nat) (l : List Cl) (w : World) (B : Nat) (hl : Rd w B A (vals l)) (hlen : l.length ≤ maxLen) :
    Calls Try.prog 4 #[.slice A l.length c] w fun e w' => e = .returned (.bool (bnd l)) ∧ w = w' := by
  unfold maxLen at hlen
  go_enter Try.func4, Try.ntmps4
  go_wp2
  go_loop [3] (fun i => ∃ k : Nat, k ≤ l.length ∧ okTo okCell l k ∧ i = .int .i64 k) (fun i => l.length - (intOf i).toNat)
  case atStart => exact ⟨0, Nat.zero_le _, okTo_zero _ _, rfl⟩
  case round =>
    obtain ⟨k, hk, hr, rfl⟩ := hrel
    have HR := Lib.hid hr
    clear hr
    by_cases hlt : k < l.length
    · obtain ⟨b, o, rfl, hb, hc⟩ := hl.at_ (vals_ne hlt)
      obtain ⟨l0, l1, l2, l3, l4, l5⟩ := Rd.cell_at (B := 0) hc k hlt
      clear hc hl
      by_cases hok : okCell l[k]
      · have HS := Lib.hid (okTo_succ HR.out hlt hok)
        obtain ⟨o1, o2, o3⟩ := hok
        go_wp2
        go_round
        case rel => exact ⟨k + 1, by omega, HS.out, by go_num⟩
        case measure => simp [intOf]; omega
      · have HS := Lib.hid (bnd_cell hlt hok)
        have hn : 100 < l[k].row.size ∨ 100 < l[k].col.size ∨ 200 < l[k].val.size := by unfold okCell at hok; omega
        clear hok
        go_wp2
        all_goals (go_ret; exact ⟨ret_bool HS.out, rfl⟩)
    · have HL := Lib.hid (okTo_end HR.out (by omega))
      clear hl
      by_cases h1 : l.length ≤ 80
      · have HS := Lib.hid (show true = bnd l by symm; exact decide_eq_true ⟨HL.out, h1⟩)
        go_wp2
        go_ret
        exact ⟨ret_bool (by rw [← HS.out]; simp; omega), rfl⟩
      · have HS := Lib.hid (show false = bnd l by symm; exact decide_eq_false (fun h => h1 h.2))
        go_wp2
        go_ret
        exact ⟨ret_bool (by rw [← HS.out]; simp; omega), rfl⟩


/-- a table of the call's own has these cells -/
def Has (w W : World) (tb : Nat) (l : List Cl) : Prop := ∃ S T, Tbl W S tb T l ∧ Below w.heap.size w W ∧ ∀ k ∈ S, w.heap.size ≤ k
theorem Mv.below {w W W' : World} {S S' : List Nat} {B : Nat} (h : Mv S S' W W') (hb : Below B w W) (hB : B ≤ W.heap.size) (hs : ∀ k ∈ S, B ≤ k) : Below B w W' :=
  hb.trans ⟨h.os, h.tape, h.output, h.size, fun k hk => h.block k (by omega) (fun e => by have := hs k e; omega)⟩
theorem Has.b {w W : World} {tb : Nat} {l : List Cl} (h : Has w W tb l) : Below w.heap.size w W := by obtain ⟨S, T, _, h, _⟩ := h; exact h
theorem Has.below {w W W' : World} {tb : Nat} {l : List Cl} (h : Has w W tb l) (hb : Below W.heap.size W W') : Has w W' tb l := by
  obtain ⟨S, T, h1, h2, h3⟩ := h
  exact ⟨S, T, h1.below hb, h2.trans (hb.mono h2.size), h3⟩
theorem Has.new {w W : World} (hb : Below w.heap.size w W) : Calls Try.prog 6 #[] W fun e W' => e = .returned (.pointer (some ⟨W.heap.size, 0, none⟩)) ∧ Has w W' W.heap.size [] :=
  (new_any W).mono fun e W' ⟨h1, h2, h3⟩ => ⟨h1, [W.heap.size], .leaf, h2, hb.trans (h3.mono hb.size), fun k hk => by rw [List.mem_singleton.1 hk]; exact hb.size⟩
theorem Has.put {w W : World} {tb : Nat} {l : List Cl} (h : Has w W tb l) (c : Cl) (hl : l.length ≤ 1000) (hy : bytesOf l ≤ 1000000) :
    Calls Try.prog 7 #[.pointer (some ⟨tb, 0, none⟩), c.agg] W fun e W' => e = .returned (.int .i64 (putE l c)) ∧ Has w W' tb (put l c) := by
  obtain ⟨S, T, h1, h2, h3⟩ := h
  exact (putT_any W S tb T l c h1 hl hy).mono fun e W' ⟨S', T', k1, k2, k3⟩ => ⟨k1, S', T', k2, k3.below h2 h2.size h3, k3.above h2.size h3⟩
theorem Has.cells {w W : World} {tb : Nat} {l : List Cl} (h : Has w W tb l) (hl : l.length ≤ 1000) : Calls Try.prog 10 #[.pointer (some ⟨tb, 0, none⟩)] W fun e W' => GivesCells W l e W' ∧ Has w W' tb l := by
  obtain ⟨S, T, h1, h2, h3⟩ := h
  exact (cellsT_any W S tb T l h1 hl).mono fun e W' k => ⟨k, by obtain ⟨_, _, _, _, hb⟩ := k; exact Has.below ⟨S, T, h1, h2, h3⟩ hb⟩
theorem Has.span {w W : World} {tb : Nat} {l : List Cl} (h : Has w W tb l) (f t : ByteArray) (hl : l.length ≤ 1000) : Calls Try.prog 11 #[.pointer (some ⟨tb, 0, none⟩), .string f, .string t] W fun e W' => GivesCells W (span l f t) e W' ∧ Has w W' tb l := by
  obtain ⟨S, T, h1, h2, h3⟩ := h
  exact (spanT_any W S tb T l f t h1 hl).mono fun e W' k => ⟨k, by obtain ⟨_, _, _, _, hb⟩ := k; exact Has.below ⟨S, T, h1, h2, h3⟩ hb⟩
theorem Has.row {w W : World} {tb : Nat} {l : List Cl} (h : Has w W tb l) (r : ByteArray) (hl : l.length ≤ 1000) : Calls Try.prog 13 #[.pointer (some ⟨tb, 0, none⟩), .string r] W fun e W' => GivesCells W (rowed l r) e W' ∧ Has w W' tb l := by
  obtain ⟨S, T, h1, h2, h3⟩ := h
  exact (rowT_any W S tb T l r h1 hl).mono fun e W' k => ⟨k, by obtain ⟨_, _, _, _, hb⟩ := k; exact Has.below ⟨S, T, h1, h2, h3⟩ hb⟩
theorem Has.many {w W : World} {tb : Nat} {l : List Cl} (h : Has w W tb l) : Calls Try.prog 15 #[.pointer (some ⟨tb, 0, none⟩)] W fun e W' => e = .returned (.int .i64 l.length) ∧ W = W' := by
  obtain ⟨S, T, h1, h2, h3⟩ := h
  exact many_any W S tb T l h1
theorem Has.bytes {w W : World} {tb : Nat} {l : List Cl} (h : Has w W tb l) : Calls Try.prog 16 #[.pointer (some ⟨tb, 0, none⟩)] W fun e W' => e = .returned (.int .i64 (bytesOf l)) ∧ W = W' := by
  obtain ⟨S, T, h1, h2, h3⟩ := h
  exact bytes_any W S tb T l h1

def cB : Cl := ⟨⟨#[98]⟩, ⟨#[99]⟩, 0, 0, false, ⟨#[]⟩⟩
def cA : Cl := ⟨⟨#[97]⟩, ⟨#[99]⟩, 0, 0, false, ⟨#[]⟩⟩
theorem s1 : putE [] cB = 0 := by kernel_rfl
theorem s2 : put [] cB = [cB] := by kernel_rfl
theorem s3 : putE [cB] cA = 0 := by kernel_rfl
theorem s4 : put [cB] cA = [cA, cB] := by kernel_rfl
theorem s5 : putE [cA, cB] cA = 4 := by kernel_rfl
theorem s6 : put [cA, cB] cA = [cA, cB] := by kernel_rfl
theorem s7 : bytesOf [cA, cB] = 44 := by kernel_rfl

set_option maxHeartbeats 4000000 in
theorem shown_any (w : World) : Calls Try.prog 5 #[] w fun e w' => e = .returned (.bool true) ∧ Below w.heap.size w w' := by
  have hNew := Has.new (Below.refl w.heap.size w)
  have h1 := fun (W : World) (h : Has w W w.heap.size []) => h.put cB (by decide) (by decide)
  have h2 := fun (W : World) (h : Has w W w.heap.size [cB]) => h.put cA (by decide) (by decide)
  have h3 := fun (W : World) (h : Has w W w.heap.size [cA, cB]) => h.put cA (by decide) (by rw [s7]; decide)
  rw [s1, s2] at h1
  rw [s3, s4] at h2
  rw [s5, s6] at h3
  have K := Lib.hid (And.intro hNew (And.intro h1 (And.intro h2 h3)))
  clear hNew h1 h2 h3
  go_enter Try.func5, Try.ntmps5
  go_wp2_with (first
    | (go_at_call 6; refine K.out.1.mono ?_; rintro e w1 ⟨rfl, h1⟩; have H1 := Lib.hid h1; clear h1)
    | (go_at_call 7; refine (K.out.2.1 _ H1.out).mono ?_; rintro e w2 ⟨rfl, h2⟩; have H2 := Lib.hid h2; clear h2 H1)
    | (go_at_call 7; refine (K.out.2.2.1 _ H2.out).mono ?_; rintro e w3 ⟨rfl, h3⟩; have H3 := Lib.hid h3; clear h3 H2)
    | (go_at_call 7; refine (K.out.2.2.2 _ H3.out).mono ?_; rintro e w4 ⟨rfl, h4⟩; have H4 := Lib.hid h4; clear h4 H3)
    | (go_at_call 10; refine (H4.out.cells (by decide)).mono ?_; rintro e w5 ⟨⟨A5, c5, rfl, ho5, hb5⟩, h5⟩; have H5 := Lib.hid h5; have hA := (Own.rd ho5 (by omega)).at_ (by simp [vals, Cl.vals]); obtain ⟨b5, o5, rfl, hlt5, hc5⟩ := hA; have x0 : w5.cell? ⟨b5, o5, none⟩ = some (.string ⟨#[97]⟩) := (Rd.cell_at (B := 0) hc5 0 (by decide)).1; clear hc5 h5 H4)
    | (go_at_call 15; refine H5.out.many.mono ?_; rintro e w6 ⟨rfl, rfl⟩)
    | (go_at_call 16; refine H5.out.bytes.mono ?_; rintro e w7 ⟨rfl, rfl⟩; simp only [s7]))
  go_ret
  exact ⟨rfl, H5.out.b⟩
end Go.Proofs.Ytijicefakfpdcaa
