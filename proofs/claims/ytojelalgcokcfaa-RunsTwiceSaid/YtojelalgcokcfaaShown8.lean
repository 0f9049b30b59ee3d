/-
  The walks of the bound of layer 8's laws, and of what they show.
-/
import Derived.Test.YtojelalgcokcfaaMakeOk
namespace Go.Proofs.Ytojelalgcokcfaa
open Go.RowKit
attribute [local go_sem ↓] Go.wp_at_zero Go.wp_at_succ

/-- the names of a cell are short enough -/
def okCell (c : Cl) : Prop := c.row.size ≤ 100 ∧ c.col.size ≤ 100 ∧ c.val.size ≤ 200
def okCells (l : List Cl) : Prop := ∀ c ∈ l, okCell c
instance (c : Cl) : Decidable (okCell c) := inferInstanceAs (Decidable (_ ∧ _ ∧ _))
instance (l : List Cl) : Decidable (okCells l) := inferInstanceAs (Decidable (∀ c ∈ l, okCell c))
def bnd (l : List Cl) : Bool := decide (okCells l ∧ l.length ≤ 80)
theorem bnd_len {l : List Cl} (h : bnd l = true) : l.length ≤ 80 := (of_decide_eq_true h).2

def okTo {α : Type} (p : α → Prop) (l : List α) (k : Nat) : Prop := ∀ c ∈ l.take k, p c
theorem okTo_zero {α : Type} (p : α → Prop) (l : List α) : okTo p l 0 := fun c h => by simp at h
theorem okTo_succ {α : Type} {p : α → Prop} {l : List α} {k : Nat} (h : okTo p l k) (hk : k < l.length) (hp : p l[k]) : okTo p l (k + 1) := fun c hc => by
  rw [List.take_succ_eq_append_getElem hk] at hc
  rcases List.mem_append.1 hc with hc | hc
  · exact h c hc
  · rw [List.mem_singleton.1 hc]; exact hp
theorem okTo_end {α : Type} {p : α → Prop} {l : List α} {k : Nat} (h : okTo p l k) (hk : l.length ≤ k) : ∀ c ∈ l, p c := by
  unfold okTo at h
  rwa [List.take_of_length_le hk] at h
theorem bnd_cell {l : List Cl} {k : Nat} (hk : k < l.length) (h : ¬ okCell l[k]) : false = bnd l := by
  symm
  rw [bnd, decide_eq_false_iff_not]
  exact fun hh => h (hh.1 _ (List.getElem_mem hk))

set_option maxHeartbeats 2000000 in
theorem bounded_any (A : Option Addr) (c : Nat) (l : List Cl) (w : World) (B : Nat) (hl : Rd w B A (vals l)) (hlen : l.length ≤ maxLen) :
    Calls Try.prog 8 #[.slice A l.length c] w fun e w' => e = .returned (.bool (bnd l)) ∧ w = w' := by
  unfold maxLen at hlen
  go_enter Try.func8, Try.ntmps8
  go_wp2
  go_loop [3] (fun i => ∃ k : Nat, k ≤ l.length ∧ okTo okCell l k ∧ i = .int .i64 k) (fun i => l.length - (intOf i).toNat)
  case atStart => exact ⟨0, Nat.zero_le _, okTo_zero _ _, rfl⟩
  case round =>
    obtain ⟨k, hk, hr, rfl⟩ := hrel
    have HR := Lib.hid hr
    clear hr
    by_cases hlt : k < l.length
    · obtain ⟨b, o, rfl, hb, hc⟩ := hl.at_ (vals_ne hlt)
      obtain ⟨l0, l1, l2, l3, l4, l5⟩ := Rd.cell_at (B := 0) hc k hlt
      clear hc hl
      by_cases hok : okCell l[k]
      · have HS := Lib.hid (okTo_succ HR.out hlt hok)
        obtain ⟨o1, o2, o3⟩ := hok
        go_wp2
        go_round
        case rel => exact ⟨k + 1, by omega, HS.out, by go_num⟩
        case measure => simp [intOf]; omega
      · have HS := Lib.hid (bnd_cell hlt hok)
        have hn : 100 < l[k].row.size ∨ 100 < l[k].col.size ∨ 200 < l[k].val.size := by unfold okCell at hok; omega
        clear hok
        go_wp2
        all_goals (go_ret; exact ⟨ret_bool HS.out, rfl⟩)
    · have HL := Lib.hid (okTo_end HR.out (by omega))
      clear hl
      by_cases h1 : l.length ≤ 80
      · have HS := Lib.hid (show true = bnd l by symm; exact decide_eq_true ⟨HL.out, h1⟩)
        go_wp2
        go_ret
        exact ⟨ret_bool (by rw [← HS.out]; simp; omega), rfl⟩
      · have HS := Lib.hid (show false = bnd l by symm; exact decide_eq_false (fun h => h1 h.2))
        go_wp2
        go_ret
        exact ⟨ret_bool (by rw [← HS.out]; simp; omega), rfl⟩

def shownCells : List Cl := [⟨⟨#[98]⟩, ⟨#[99]⟩, 0, 0, false, ⟨#[]⟩⟩, ⟨⟨#[97]⟩, ⟨#[99]⟩, 0, 0, false, ⟨#[49]⟩⟩, ⟨⟨#[97]⟩, ⟨#[99]⟩, 0, 0, false, ⟨#[50]⟩⟩]
theorem shown_resolve : resolve (items shownCells) = [⟨⟨⟨#[97]⟩, ⟨#[99]⟩, 0, 0, false, ⟨#[50]⟩⟩, 2⟩, ⟨⟨⟨#[98]⟩, ⟨#[99]⟩, 0, 0, false, ⟨#[]⟩⟩, 0⟩] := by kernel_rfl
theorem shown_chunks : chunks 9 (items shownCells) = [items shownCells] := by
  rw [chunks_cons (by decide) (by decide)]
  have e1 : (items shownCells).take 9 = items shownCells := rfl
  have e2 : (items shownCells).drop 9 = [] := rfl
  rw [e1, e2, chunks_nil]

set_option maxHeartbeats 4000000 in
theorem shown_any (w : World) :
    Calls Try.prog 9 #[] w fun e w' => e = .returned (.bool true) ∧ Below w.heap.size w w' := by
  obtain ⟨W1, hW1⟩ : ∃ W1, w.alloc (.cells #[.string ⟨#[98]⟩, .string ⟨#[99]⟩, .int .u64 0, .int .u64 0, .bool false, .string ⟨#[]⟩, .string ⟨#[97]⟩, .string ⟨#[99]⟩, .int .u64 0, .int .u64 0, .bool false, .string ⟨#[49]⟩, .string ⟨#[97]⟩, .string ⟨#[99]⟩, .int .u64 0, .int .u64 0, .bool false, .string ⟨#[50]⟩] 46) = W1 := ⟨_, rfl⟩
  have hz1 : W1.heap.size = w.heap.size + 1 := by rw [← hW1, World.size_alloc]
  have hl1 : Rd W1 W1.heap.size (some ⟨w.heap.size, 0, none⟩) (vals shownCells) := by rw [hz1, ← hW1]; exact Rd.all w _ _ _ rfl
  have hB1 : Below w.heap.size w W1 := by rw [← hW1]; exact (Below.refl _ _).alloc (Nat.le_refl _) _
  have HW := Lib.hid hW1
  have hmk := make_ok (some ⟨w.heap.size, 0, none⟩) 3 shownCells 9 W1 hl1 (by decide) (by decide) (by decide)
  rw [shown_chunks, List.map_singleton, shown_resolve] at hmk
  clear hW1
  go_enter Try.func9, Try.ntmps9
  go_wp2_with (first
    | (rw [HW.out]; go_at_call 10; refine hmk.mono ?_; rintro e w2 ⟨A1, n1, c1, vs, rfl, ho, hls, hb⟩
       obtain rfl : n1 = 1 := by rw [← Own.vals_len' ho, hls.1]; rfl
       have hv0 : 0 < vs.length := by rw [hls.1]; exact Nat.zero_lt_one
       obtain ⟨A2, c2, e2, ho2⟩ := hls.2 0 hv0 Nat.zero_lt_one
       simp only [List.getElem_cons_zero, List.length_cons, List.length_nil, Nat.zero_add, Nat.reduceAdd] at e2 ho2
       obtain ⟨g, rfl, _, _, hrow⟩ := ho.at_ (by decide)
       have x1 := (hrow 0 hv0).1
       rw [e2] at x1
       have hr2 := Own.rd ho2 (by decide)
       obtain ⟨b, o, rfl, _, hc⟩ := hr2.at_ (its_ne (k := 0) (by decide))
       obtain ⟨z0, z1, z2, z3, z4, z5, z6⟩ := Rd.it_at hc 0 (by decide)
       simp only [List.getElem_cons_zero, Nat.zero_mul, Nat.add_zero] at z5 z6
       have hB2 := Lib.hid (hB1.trans (hb.mono hB1.size))
       have hso := runsSorted_any (some ⟨b, o, none⟩) c2 _ w2 hr2 (by decide)
       rw [show sortedB [(⟨⟨⟨#[97]⟩, ⟨#[99]⟩, 0, 0, false, ⟨#[50]⟩⟩, 2⟩ : It), ⟨⟨⟨#[98]⟩, ⟨#[99]⟩, 0, 0, false, ⟨#[]⟩⟩, 0⟩] = true by kernel_rfl] at hso
       clear ho hls hb ho2 hrow hc e2 z0 z1 z2 z3 z4 hr2)
    | (go_at_call 16; refine hso.mono ?_; rintro e w3 ⟨rfl, hb3⟩))
  go_ret
  exact ⟨rfl, hB2.out.trans (hb3.mono hB2.out.size)⟩
end Go.Proofs.Ytojelalgcokcfaa
