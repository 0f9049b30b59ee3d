/-
  The walks of the small functions of the layer cut and of its reference: bounds, borders, places; and the reference's word on rising cells.
-/
import Derived.Test.YteacjikkojglmaaRise
namespace Go.Proofs.Yteacjikkojglmaa
open Go.RowKit
attribute [local go_sem ↓] Go.wp_at_zero Go.wp_at_succ

def strs (ss : List ByteArray) : List Value := ss.map Value.string
theorem length_strs (ss : List ByteArray) : (strs ss).length = ss.length := by simp [strs]
theorem strs_ne {ss : List ByteArray} {k : Nat} (h : k < ss.length) : strs ss ≠ [] := fun e => by
  have := length_strs ss
  rw [e] at this
  simp at this
  omega
theorem str_at {w : World} {b o : Nat} {ss : List ByteArray} (hc : ∀ j (h : j < (strs ss).length), w.cell? ⟨b, o + j, none⟩ = some (strs ss)[j]) (k : Nat) (hk : k < ss.length) :
    w.cell? ⟨b, o + k, none⟩ = some (.string ss[k]) := by
  rw [hc k (by rw [length_strs]; exact hk)]
  simp [strs]

/-- the names of a cell are short enough -/
def okCell (c : Cl) : Prop := c.row.size ≤ 100 ∧ c.col.size ≤ 100 ∧ c.val.size ≤ 200
def okCells (l : List Cl) : Prop := ∀ c ∈ l, okCell c
def okTexts (ss : List ByteArray) : Prop := ∀ s ∈ ss, s.size ≤ 100
instance (c : Cl) : Decidable (okCell c) := inferInstanceAs (Decidable (_ ∧ _ ∧ _))
instance (l : List Cl) : Decidable (okCells l) := inferInstanceAs (Decidable (∀ c ∈ l, okCell c))
instance (ss : List ByteArray) : Decidable (okTexts ss) := inferInstanceAs (Decidable (∀ s ∈ ss, s.size ≤ 100))
def bnd (l : List Cl) (ss : List ByteArray) : Bool := decide (okCells l ∧ okTexts ss ∧ l.length ≤ 80 ∧ ss.length ≤ 40)

def okTo {α : Type} (p : α → Prop) (l : List α) (k : Nat) : Prop := ∀ c ∈ l.take k, p c
theorem okTo_zero {α : Type} (p : α → Prop) (l : List α) : okTo p l 0 := fun c h => by simp at h
theorem okTo_succ {α : Type} {p : α → Prop} {l : List α} {k : Nat} (h : okTo p l k) (hk : k < l.length) (hp : p l[k]) : okTo p l (k + 1) := fun c hc => by
  rw [List.take_succ_eq_append_getElem hk] at hc
  rcases List.mem_append.1 hc with hc | hc
  · exact h c hc
  · rw [List.mem_singleton.1 hc]; exact hp
theorem okTo_end {α : Type} {p : α → Prop} {l : List α} {k : Nat} (h : okTo p l k) (hk : l.length ≤ k) : ∀ c ∈ l, p c := by
  unfold okTo at h
  rwa [List.take_of_length_le hk] at h

theorem bnd_cell {l : List Cl} {k : Nat} (ss : List ByteArray) (hk : k < l.length) (h : ¬ okCell l[k]) : false = bnd l ss := by
  symm
  rw [bnd, decide_eq_false_iff_not]
  exact fun hh => h (hh.1 _ (List.getElem_mem hk))
theorem bnd_text {ss : List ByteArray} {k : Nat} (l : List Cl) (hk : k < ss.length) (h : ¬ ss[k].size ≤ 100) : false = bnd l ss := by
  symm
  rw [bnd, decide_eq_false_iff_not]
  exact fun hh => h (hh.2.1 _ (List.getElem_mem hk))
theorem bnd_yes {l : List Cl} {ss : List ByteArray} (h1 : okCells l) (h2 : okTexts ss) (h3 : l.length ≤ 80) (h4 : ss.length ≤ 40) : true = bnd l ss := by simp [bnd, *]
theorem bnd_no {l : List Cl} {ss : List ByteArray} (h3 : ¬ (l.length ≤ 80 ∧ ss.length ≤ 40)) : false = bnd l ss := by
  symm
  rw [bnd, decide_eq_false_iff_not]
  exact fun hh => h3 hh.2.2

set_option maxHeartbeats 2000000 in
theorem bounded_any (A S : Option Addr) (c d : Nat) (l : List Cl) (ss : List ByteArray) (w : World) (B : Nat) (hl : Rd w B A (vals l)) (hs : Rd w B S (strs ss)) (hlen : l.length ≤ maxLen) (hlen' : ss.length ≤ maxLen) :
    Calls Try.prog 9 #[.slice A l.length c, .slice S ss.length d] w fun e w' => e = .returned (.bool (bnd l ss)) ∧ w = w' := by
  unfold maxLen at hlen hlen'
  go_enter Try.func9, Try.ntmps9
  go_wp2
  go_loop [5] (fun i => ∃ k : Nat, k ≤ l.length ∧ okTo okCell l k ∧ i = .int .i64 k) (fun i => l.length - (intOf i).toNat)
  case atStart => exact ⟨0, Nat.zero_le _, okTo_zero _ _, rfl⟩
  case round =>
    obtain ⟨k, hk, hr, rfl⟩ := hrel
    have HR := Lib.hid hr
    clear hr
    by_cases hlt : k < l.length
    · obtain ⟨b, o, rfl, hb, hc⟩ := hl.at_ (vals_ne hlt)
      obtain ⟨l0, l1, l2, l3, l4, l5⟩ := Rd.cell_at (B := 0) hc k hlt
      clear hc hl hs
      by_cases hok : okCell l[k]
      · have HS := Lib.hid (okTo_succ HR.out hlt hok)
        obtain ⟨o1, o2, o3⟩ := hok
        go_wp2
        go_round
        case rel => exact ⟨k + 1, by omega, HS.out, by go_num⟩
        case measure => simp [intOf]; omega
      · have HS := Lib.hid (bnd_cell ss hlt hok)
        have hn : 100 < l[k].row.size ∨ 100 < l[k].col.size ∨ 200 < l[k].val.size := by unfold okCell at hok; omega
        clear hok
        go_wp2
        all_goals (go_ret; exact ⟨ret_bool HS.out, rfl⟩)
    · have HL := Lib.hid (okTo_end HR.out (by omega))
      clear hl
      go_wp2
      go_loop [6] (fun i => ∃ k : Nat, k ≤ ss.length ∧ okTo (fun s : ByteArray => s.size ≤ 100) ss k ∧ i = .int .i64 k) (fun i => ss.length - (intOf i).toNat)
      case atStart => exact ⟨0, Nat.zero_le _, okTo_zero _ _, rfl⟩
      case round =>
        obtain ⟨m, hm, hr, rfl⟩ := hrel
        have HM := Lib.hid hr
        clear hr
        by_cases hlt' : m < ss.length
        · obtain ⟨b, o, rfl, hb, hc⟩ := hs.at_ (strs_ne hlt')
          have l0 := str_at hc m hlt'
          clear hc hs
          by_cases hok : ss[m].size ≤ 100
          · have HS := Lib.hid (okTo_succ (p := fun s : ByteArray => s.size ≤ 100) HM.out hlt' hok)
            go_wp2
            go_round
            case rel => exact ⟨m + 1, by omega, HS.out, by go_num⟩
            case measure => simp [intOf]; omega
          · have HS := Lib.hid (bnd_text l hlt' hok)
            go_wp2
            go_ret
            exact ⟨ret_bool HS.out, rfl⟩
        · have HK := Lib.hid (okTo_end HM.out (by omega))
          by_cases h1 : l.length ≤ 80
          · by_cases h2 : ss.length ≤ 40
            · have HS := Lib.hid (bnd_yes HL.out HK.out h1 h2)
              go_wp2
              go_ret
              exact ⟨ret_bool (by rw [← HS.out]; simp; omega), rfl⟩
            · have HS := Lib.hid (bnd_no (l := l) (ss := ss) (fun h => h2 h.2))
              go_wp2
              go_ret
              exact ⟨ret_bool (by rw [← HS.out]; simp; omega), rfl⟩
          · have HS := Lib.hid (bnd_no (l := l) (ss := ss) (fun h => h1 h.1))
            go_wp2
            go_ret
            exact ⟨ret_bool HS.out, rfl⟩

end Go.Proofs.Yteacjikkojglmaa
