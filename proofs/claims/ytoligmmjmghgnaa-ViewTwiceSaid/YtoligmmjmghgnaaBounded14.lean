/-
  The walks of the bounds of layer 14's laws.
-/
import Derived.Test.YtoligmmjmghgnaaShown14
import Derived.Test.YtoligmmjmghgnaaList
namespace Go.Proofs.Ytoligmmjmghgnaa
open Go.RowKit Go.Shelf
attribute [local go_sem ↓] Go.wp_at_zero Go.wp_at_succ

/-- the names of a cell are short enough -/
def okCell (c : Cl) : Prop := c.row.size ≤ 100 ∧ c.col.size ≤ 100 ∧ c.val.size ≤ 200
def okCells (l : List Cl) : Prop := ∀ c ∈ l, okCell c
instance (c : Cl) : Decidable (okCell c) := inferInstanceAs (Decidable (_ ∧ _ ∧ _))
instance (l : List Cl) : Decidable (okCells l) := inferInstanceAs (Decidable (∀ c ∈ l, okCell c))
def bnd (l : List Cl) : Bool := decide (okCells l ∧ l.length ≤ 60)
theorem bnd_len {l : List Cl} (h : bnd l = true) : l.length ≤ 60 := (of_decide_eq_true h).2

def okTo {α : Type} (p : α → Prop) (l : List α) (k : Nat) : Prop := ∀ c ∈ l.take k, p c
theorem okTo_zero {α : Type} (p : α → Prop) (l : List α) : okTo p l 0 := fun c h => by simp at h
theorem okTo_succ {α : Type} {p : α → Prop} {l : List α} {k : Nat} (h : okTo p l k) (hk : k < l.length) (hp : p l[k]) : okTo p l (k + 1) := fun c hc => by
  rw [List.take_succ_eq_append_getElem hk] at hc
  rcases List.mem_append.1 hc with hc | hc
  · exact h c hc
  · rw [List.mem_singleton.1 hc]; exact hp
theorem okTo_end {α : Type} {p : α → Prop} {l : List α} {k : Nat} (h : okTo p l k) (hk : l.length ≤ k) : ∀ c ∈ l, p c := by
  unfold okTo at h
  rwa [List.take_of_length_le hk] at h
theorem bnd_cell {l : List Cl} {k : Nat} (hk : k < l.length) (h : ¬ okCell l[k]) : false = bnd l := by
  symm
  rw [bnd, decide_eq_false_iff_not]
  exact fun hh => h (hh.1 _ (List.getElem_mem hk))

set_option maxHeartbeats 2000000 in
theorem bounded_any (A : Option Addr) (c : Nat) (l : List Cl) (w : World) (B : Nat) (hl : Rd w B A (vals l)) (hlen : l.length ≤ maxLen) :
    Calls Try.prog 12 #[.slice A l.length c] w fun e w' => e = .returned (.bool (bnd l)) ∧ w = w' := by
  unfold maxLen at hlen
  go_enter Try.func12, Try.ntmps12
  go_wp2
  go_loop [3] (fun i => ∃ k : Nat, k ≤ l.length ∧ okTo okCell l k ∧ i = .int .i64 k) (fun i => l.length - (intOf i).toNat)
  case atStart => exact ⟨0, Nat.zero_le _, okTo_zero _ _, rfl⟩
  case round =>
    obtain ⟨k, hk, hr, rfl⟩ := hrel
    have HR := Lib.hid hr
    clear hr
    by_cases hlt : k < l.length
    · obtain ⟨b, o, rfl, hb, hc⟩ := hl.at_ (vals_ne hlt)
      obtain ⟨l0, l1, l2, l3, l4, l5⟩ := Rd.cell_at (B := 0) hc k hlt
      clear hc hl
      by_cases hok : okCell l[k]
      · have HS := Lib.hid (okTo_succ HR.out hlt hok)
        obtain ⟨o1, o2, o3⟩ := hok
        go_wp2
        go_round
        case rel => exact ⟨k + 1, by omega, HS.out, by go_num⟩
        case measure => simp [intOf]; omega
      · have HS := Lib.hid (bnd_cell hlt hok)
        have hn : 100 < l[k].row.size ∨ 100 < l[k].col.size ∨ 200 < l[k].val.size := by unfold okCell at hok; omega
        clear hok
        go_wp2
        all_goals (go_ret; exact ⟨ret_bool HS.out, rfl⟩)
    · have HL := Lib.hid (okTo_end HR.out (by omega))
      clear hl
      by_cases h1 : l.length ≤ 60
      · have HS := Lib.hid (show true = bnd l by symm; exact decide_eq_true ⟨HL.out, h1⟩)
        go_wp2
        go_ret
        exact ⟨ret_bool (by rw [← HS.out]; simp; omega), rfl⟩
      · have HS := Lib.hid (show false = bnd l by symm; exact decide_eq_false (fun h => h1 h.2))
        go_wp2
        go_ret
        exact ⟨ret_bool (by rw [← HS.out]; simp; omega), rfl⟩


theorem vals_cls (l : List Cl) : vals l = cls l := rfl
theorem bounded_w (A : Option Addr) (c N : Nat) (l : List Cl) (w : World) (B : Nat) (hl : Rd w B A (cls l)) (hN : l.length = N) (hlen : N ≤ maxLen) :
    Calls Try.prog 12 #[.slice A N c] w fun e w' => e = .returned (.bool (bnd l)) ∧ w = w' := by
  subst hN
  exact bounded_any A c l w B hl hlen
theorem sameCells_w (A B : Option Addr) (c d N M : Nat) (l m : List Cl) (w : World) (hl : Rd w w.heap.size A (cls l)) (hm : Rd w w.heap.size B (cls m)) (hN : l.length = N) (hM : m.length = M) (hlen : N ≤ maxLen) (hlen' : M ≤ maxLen) :
    Calls Try.prog 13 #[.slice A N c, .slice B M d] w fun e w' => e = .returned (.bool (decide (l = m))) ∧ Below w.heap.size w w' := by
  subst hN hM
  refine (sameCells_any A B c d l m w w.heap.size hl hm hlen hlen').mono ?_
  rintro e w' ⟨h, n, rfl⟩
  exact ⟨h, below_drewN' (Below.refl _ _) n⟩
/-- all lists are within the bound, and there are few of them -/
def bndL (L : List Cs) : Bool := L.all (fun x => bnd x.l) && decide (L.length ≤ 6)
def allL (L : List Cs) (k : Nat) : Prop := ∀ j (h : j < L.length), j < k → bnd L[j].l = true
set_option maxHeartbeats 2000000 in
theorem small_any (A : Option Addr) (c N : Nat) (L : List Cs) (w : World) (hA : Rd w w.heap.size A (L.map Cs.val)) (hl : CsIn w w.heap.size L) (hz : ∀ x ∈ L, x.l.length ≤ maxLen) (hN : L.length = N) (hlen : N ≤ maxLen) :
    Calls Try.prog 7 #[.slice A N c] w fun e w' => e = .returned (.bool (bndL L)) ∧ w = w' := by
  unfold maxLen at hlen
  have HA := Lib.hid hA
  have HL := Lib.hid hl
  have HN := Lib.hid hN
  have HZ := Lib.hid hz
  clear hA hl hN hz
  go_enter Try.func7, Try.ntmps7
  go_wp2
  go_loopw [3] (fun vi wr => ∃ k : Nat, vi = .int .i64 (k : Int) ∧ k ≤ N ∧ Hid (allL L k) ∧ wr = w) (fun vi _ => N - (intOf vi).toNat)
  case atStart => exact ⟨0, rfl, Nat.zero_le _, Lib.hid (fun j h hk => by omega), rfl⟩
  case round =>
    obtain ⟨k, rfl, hk, HU, rfl⟩ := hrel
    rename World => wr
    by_cases hlt : k < N
    · have e1 : decide ((k : Int) < (N : Int)) = true := decide_eq_true (by omega)
      have k1 : (0 : Int) ≤ (k : Int) := by omega
      have k2 : (k : Int) < (N : Int) := by omega
      have hkl : k < L.length := by rw [HN.out]; exact hlt
      obtain ⟨b, o, rfl, hbl, hc⟩ := HA.out.at_ (by intro e; rw [List.map_eq_nil_iff] at e; subst e; simp at hkl)
      have hcell : wr.cell? ⟨b, o + k, none⟩ = some (.slice L[k].A L[k].l.length L[k].c) := by
        rw [hc k (by simpa using hkl), List.getElem_map]
        rfl
      have hbd := bounded_w L[k].A L[k].c _ L[k].l wr _ (HL.out _ (List.getElem_mem hkl)) rfl (HZ.out _ (List.getElem_mem hkl))
      have HS := Lib.hid (fun (h : bnd L[k].l = true) => show allL L (k + 1) from fun j hj hjk => by
        by_cases e : j = k
        · subst e; exact h
        · exact HU.out j hj (by omega))
      have HBAD := Lib.hid (fun (h : bnd L[k].l = false) => show false = bndL L by
        symm
        unfold bndL
        rw [Bool.and_eq_false_iff]
        left
        rw [List.all_eq_false]
        exact ⟨_, List.getElem_mem hkl, by rw [h]; exact Bool.false_ne_true⟩)
      obtain ⟨x, hx⟩ : ∃ x, L[k] = x := ⟨_, rfl⟩
      rw [hx] at hcell hbd HS HBAD
      obtain ⟨nx, hnx⟩ : ∃ nx, x.l.length = nx := ⟨_, rfl⟩
      rw [hnx] at hcell hbd
      have HBD := Lib.hid hbd
      clear hc hx hbd hnx
      cases hq : bnd x.l with
      | true =>
        have HF := Lib.hid (HS.out hq)
        go_wp2_with (go_at_call 12; refine HBD.out.mono ?_; rintro e w5 ⟨rfl, rfl⟩; rw [hq])
        exact ⟨⟨k + 1, by first | rfl | go_num, by omega, HF, by first | trivial | rfl⟩, by simp [intOf]; omega⟩
      | false =>
        have HF := Lib.hid (HBAD.out hq)
        go_wp2_with (go_at_call 12; refine HBD.out.mono ?_; rintro e w5 ⟨rfl, rfl⟩; rw [hq])
        go_ret
        exact ⟨ret_bool HF.out, rfl⟩
    · have e1 : decide ((k : Int) < (N : Int)) = false := decide_eq_false (by omega)
      have hall : (L.all fun x => bnd x.l) = true := List.all_eq_true.2 fun x hx => by
        obtain ⟨j, hj, rfl⟩ := List.getElem_of_mem hx
        exact HU.out j hj (by rw [HN.out] at hj; omega)
      by_cases h6 : N ≤ 6
      · have HF := Lib.hid (show true = bndL L by unfold bndL; rw [hall, HN.out, decide_eq_true h6]; rfl)
        have e2 : decide ((N : Int) ≤ 6) = true := decide_eq_true (by omega)
        clear hall
        go_wp2
        go_ret
        exact ⟨ret_bool (by rw [← HF.out]), rfl⟩
      · have HF := Lib.hid (show false = bndL L by unfold bndL; rw [hall, HN.out, decide_eq_false h6]; rfl)
        have e2 : decide ((N : Int) ≤ 6) = false := decide_eq_false (by omega)
        clear hall
        go_wp2
        go_ret
        exact ⟨ret_bool (by rw [← HF.out]), rfl⟩
theorem bndL_parts {L : List Cs} (h : bndL L = true) : L.length ≤ 6 ∧ (L.flatMap Cs.l).length ≤ 60 * L.length := by
  unfold bndL at h
  rw [Bool.and_eq_true, decide_eq_true_eq, List.all_eq_true] at h
  refine ⟨h.2, ?_⟩
  obtain ⟨h1, -⟩ := h
  induction L with
  | nil => exact Nat.zero_le _
  | cons x L ih =>
    rw [List.flatMap_cons, List.length_append, List.length_cons]
    have h2 := bnd_len (h1 x List.mem_cons_self)
    have h3 := ih fun y hy => h1 y (List.mem_cons_of_mem _ hy)
    omega
end Go.Proofs.Ytoligmmjmghgnaa
