/-
  What holds between two rounds of cut.Roll's loop, and how a round keeps it: of memory alone, no walk.
-/
import Derived.Test.YteacjikkojglmaaIter
import Derived.Test.YteacjikkojglmaaRegion
namespace Go.Proofs.Yteacjikkojglmaa
open Go.RowKit Go.Shelf

/-- one row more: to the last list, if there is room, or to a new one -/
def rollStep (most : Nat) (out : List (List Cl)) (row : List Cl) : List (List Cl) :=
  match out.getLast? with
  | some q => if q.length + row.length ≤ most then out.dropLast ++ [q ++ row] else out ++ [row]
  | none => [row]
def roll (l : List Cl) (most : Nat) : List (List Cl) := (rowsOf l).foldl (rollStep most) []

theorem rollStep_new {most : Nat} {out : List (List Cl)} {row : List Cl} (h : ∀ q, out.getLast? = some q → ¬ q.length + row.length ≤ most) : rollStep most out row = out ++ [row] := by
  unfold rollStep
  cases e : out.getLast? with
  | none => rw [List.getLast?_eq_none_iff] at e; subst e; rfl
  | some q => simp only; rw [if_neg (h q e)]
theorem rollStep_fits {most j : Nat} {out : List (List Cl)} {row : List Cl} (hj : j < out.length) (hl : out.length = j + 1) (h : out[j].length + row.length ≤ most) : rollStep most out row = out.set j (out[j] ++ row) := by
  have e : out.getLast? = some out[j] := by rw [List.getLast?_eq_getElem?, hl, Nat.add_sub_cancel, List.getElem?_eq_getElem hj]
  unfold rollStep
  rw [e]
  simp only
  rw [if_pos h]
  apply List.ext_getElem
  · simp [hl]
  · intro i h1 h2
    simp at h2
    by_cases hi : i = j
    · subst hi
      rw [List.getElem_append_right (by simp [hl]), List.getElem_set_self]
      simp [hl]
    · rw [List.getElem_append_left (by simp [hl]; omega), List.getElem_set_ne (by omega), List.getElem_dropLast]

def total (rows : List (List Cl)) : Nat := (rows.map List.length).sum
theorem rollStep_le {most m : Nat} {out : List (List Cl)} {row : List Cl} (h : ∀ q ∈ out, q.length ≤ m) : ∀ q ∈ rollStep most out row, q.length ≤ m + row.length := by
  unfold rollStep
  intro q hq
  cases e : out.getLast? with
  | none =>
    rw [e] at hq
    simp at hq
    subst hq
    omega
  | some p =>
    rw [e] at hq
    simp only at hq
    have hp := h p (List.mem_of_getLast? e)
    split at hq
    · rcases List.mem_append.1 hq with hq | hq
      · have := h q (List.dropLast_subset _ hq); omega
      · rw [List.mem_singleton.1 hq, List.length_append]; omega
    · rcases List.mem_append.1 hq with hq | hq
      · have := h q hq; omega
      · rw [List.mem_singleton.1 hq]; omega
theorem roll_le (most : Nat) : ∀ (rows : List (List Cl)) (out : List (List Cl)) (m : Nat), (∀ q ∈ out, q.length ≤ m) → ∀ q ∈ rows.foldl (rollStep most) out, q.length ≤ m + total rows
  | [], _, _, h => by simpa [total] using h
  | r :: rows, out, m, h => by
    have := roll_le most rows (rollStep most out r) (m + r.length) (rollStep_le h)
    simp only [List.foldl_cons, total, List.map_cons, List.sum_cons] at *
    intro q hq
    have := this q hq
    omega
theorem total_le {rows : List (List Cl)} {k : Nat} (h : ∀ r ∈ rows, r.length ≤ k) : total rows ≤ rows.length * k := by
  induction rows with
  | nil => simp [total]
  | cons r rows ih =>
    have h1 := h r (by simp)
    have h2 := ih (fun r hr => h r (by simp [hr]))
    simp only [total, List.map_cons, List.sum_cons, List.length_cons, Nat.add_mul, Nat.one_mul] at *
    omega
theorem part_length (l : List Cl) (x : Part l.length) : (part l x).length = x.1.2 - x.1.1 := by
  have h1 := x.2.1
  have h2 := x.2.2
  unfold part
  rw [List.length_take, List.length_drop]
  omega
theorem partVal_form {W : World} {B : Nat} {A : Option Addr} {c : Nat} {l : List Cl} (h : Rd W B A (vals l)) (hc : l.length ≤ c) (x : Part l.length) :
    ∃ (A3 : Option Addr) (rl c3 : Nat), partVal A c l.length x = .slice A3 rl c3 ∧ (part l x).length = rl ∧ 1 ≤ rl ∧ rl ≤ l.length ∧ Rd W B A3 (vals (part l x)) :=
  ⟨_, _, _, rfl, part_length l x, by have := x.2.1; omega, by have := x.2.2; omega, (h.tail x.1.1 hc).head (x.1.2 - x.1.1)⟩

/-- lists in rows of their own, no two in one -/
def Apart (vs : List Value) : Prop := ∀ i j (hi : i < vs.length) (hj : j < vs.length), i ≠ j → vs[i].ownBlock = none ∨ vs[i].ownBlock ≠ vs[j].ownBlock

/-- between two rounds -/
def RollSt (w : World) (Bn most : Nat) (W : World) (Ao : Option Addr) (no co : Nat) (vs : List Value) (ps : List (List Cl)) : Prop :=
  Box W (w.heap.size + 1) 26 (.slice Ao no co) ∧ Own W (Bn + 1) 22 1 Ao no co vs ∧ Lists W (Bn + 1) vs ps ∧ Apart vs ∧
    Box W w.heap.size 3 (.int .i64 most) ∧ w.heap.size + 2 ≤ Bn ∧ Bn < W.heap.size ∧ Below w.heap.size w W

def Kept' (w : World) (Bn : Nat) (W W' : World) : Prop := KeepsOthers W W' ∧ Kept w.heap.size Bn W W'

theorem Own.cellsAt {w : World} {base e size n c : Nat} {A : Option Addr} {xs : List Value} (h : Own w base e size A n c xs) (j : Nat) (o : Obj) (hA : blk A = some j) (ho : w.heap[j]? = some o) : o.isCells = true := by
  rcases h.2 with ⟨hv, _⟩ | ⟨g, cap, cur, hv, _, hg, _⟩
  · injection hv with e1
    subst e1
    cases hA
  · injection hv with e1
    subst e1
    have : g = j := by injection hA
    subst this
    rw [hg] at ho
    injection ho with ho
    subst ho
    rfl
theorem Own.vals_len {w : World} {base e n c : Nat} {A : Option Addr} {xs : List Value} (h : Own w base e 1 A n c xs) : xs.length = n := by have := h.1; omega
theorem Lists.blk_lt {w : World} {base : Nat} {vs : List Value} {ps : List (List Cl)} (h : Lists w base vs ps) (i : Nat) (hi : i < vs.length) : ∀ k, vs[i].ownBlock = some k → base ≤ k ∧ k < w.heap.size := by
  obtain ⟨A, c, e, ho⟩ := h.2 i hi (by rw [← h.1]; exact hi)
  intro k hk
  rw [e, ownBlock_slice] at hk
  exact ho.lt k hk

theorem Apart.snoc {vs : List Value} (h : Apart vs) {N : Nat} (hN : ∀ i (hi : i < vs.length) k, vs[i].ownBlock = some k → k < N) {v : Value} (hv : ∀ k, v.ownBlock = some k → N ≤ k) : Apart (vs ++ [v]) := by
  have hlast : ∀ i (hi : i < (vs ++ [v]).length), ¬ i < vs.length → (vs ++ [v])[i] = v := fun i hi hn => by
    rw [List.getElem_append_right (by omega)]
    simp
  intro i j hi hj hij
  by_cases h1 : i < vs.length
  · rw [List.getElem_append_left h1]
    by_cases h2 : j < vs.length
    · rw [List.getElem_append_left h2]; exact h i j h1 h2 hij
    · rw [hlast j hj h2]
      cases e : vs[i].ownBlock with
      | none => exact .inl rfl
      | some k => exact .inr fun e2 => by have := hN i h1 k e; have := hv k e2.symm; omega
  · rw [hlast i hi h1]
    by_cases h2 : j < vs.length
    · rw [List.getElem_append_left h2]
      cases e : v.ownBlock with
      | none => exact .inl rfl
      | some k => exact .inr fun e2 => by have := hN j h2 k e2.symm; have := hv k e; omega
    · simp at hi hj; omega

theorem RollSt.new {w : World} {Bn most : Nat} {W : World} {Ao : Option Addr} {no co : Nat} {vs : List Value} {ps : List (List Cl)} (h : RollSt w Bn most W Ao no co vs ps) {row : List Cl} {w2 w3 : World} {A2 A3 : Option Addr} {rl c2 c3 : Nat} (hrl : row.length = rl)
    (ho2 : OwnC w2 W.heap.size A2 c2 row) (hb2 : Below W.heap.size W w2) (ho3 : Own w3 (Bn + 1) 22 1 A3 (no + 1) c3 (vs ++ [.slice A2 rl c2])) (hg3 : (w2.alloc (.cells #[.slice A2 rl c2] 22)).grownBy w3 (blk Ao)) :
    RollSt w Bn most (w3.setCell ⟨w.heap.size + 1, 0, none⟩ (.slice A3 (no + 1) c3)) A3 (no + 1) c3 (vs ++ [.slice A2 rl c2]) (ps ++ [row]) ∧ Kept' w Bn W (w3.setCell ⟨w.heap.size + 1, 0, none⟩ (.slice A3 (no + 1) c3)) := by
  subst hrl
  obtain ⟨hbox, hown, hlist, hap, hmost, hBn, hBW, hB⟩ := h
  have hz2 := hb2.size
  have hown1 : Own (w2.alloc (.cells #[.slice A2 row.length c2] 22)) (Bn + 1) 22 1 Ao no co vs := Own.alloc (Own.below hown hb2) _
  have hlist1 : Lists (w2.alloc (.cells #[.slice A2 row.length c2] 22)) (Bn + 1) vs ps := hlist.keep fun A c p h => Own.alloc (Own.below h hb2) _
  have far : ∀ k, k ≤ Bn → some k ≠ blk Ao := fun k hk e => by have := (hown.lt _ e.symm).1; omega
  have hz3 : (w2.alloc (.cells #[.slice A2 row.length c2] 22)).heap.size = w2.heap.size + 1 := World.size_alloc ..
  have hz4 := hg3.size
  have hz5 : (w3.setCell ⟨w.heap.size + 1, 0, none⟩ (.slice A3 (no + 1) c3)).heap.size = w3.heap.size := by simp [World.setCell]
  have hB3 : Below w.heap.size w w3 := hown1.grow ((hB.trans (hb2.mono (by omega))).alloc (by omega) _) (by omega) (by omega) hg3
  refine ⟨⟨?_, ?_, ?_, ?_, ?_, hBn, by omega, hB3.setCell (by show w.heap.size ≤ w.heap.size + 1; omega) _⟩, ?_, ?_⟩
  · exact (((hbox.below hb2 (by omega)).alloc _).grown hg3 (far _ (by omega))).set _
  · exact ho3.setCell (fun e => by have h1 := (ho3.lt _ e).1; have h2 : Bn + 1 ≤ w.heap.size + 1 := h1; omega) _
  · have h1 := (hlist1.grown hown1 (by decide) hg3).snoc (p := row) (A := A2) (c := c2) (Own.grown (Own.alloc (Own.lower ho2 (by omega)) _) hg3 (Own.type_ne (Own.alloc ho2 _) hown1 (by decide)))
    exact h1.setCell (by show w.heap.size + 1 < _; omega) _
  · exact hap.snoc (N := W.heap.size) (fun i hi k hk => (hlist.blk_lt i hi k hk).2) (fun k hk => (Own.lt ho2 k (by rw [← hk, ownBlock_slice])).1)
  · exact (((hmost.below hb2 (by omega)).alloc _).grown hg3 (far _ (by omega))).far (by show w.heap.size ≠ w.heap.size + 1; omega) _
  · exact ((⟨hz2, fun k o hk _ => (hb2.block k (Array.getElem?_eq_some_iff.1 hk).1).trans hk⟩ : KeepsOthers W w2).trans (KeepsOthers.alloc _ _)).trans ((KeepsOthers.of_grownBy hg3 (fun j o hj ho => hown1.cellsAt j o hj ho)).trans (KeepsOthers.setCell _ _ _))
  · intro k hk
    have hkB : k ≤ Bn := by omega
    have hk1 : k ≠ w.heap.size + 1 := by omega
    rw [Below.heap_setCell _ _ _ _ hk1, hg3.block k (by omega) (far k hkB), Below.heap_alloc _ _ _ (by omega)]
    exact hb2.block k (by omega)

theorem RollSt.more {w : World} {Bn most : Nat} {W : World} {no co g : Nat} {vs : List Value} {ps : List (List Cl)} (h : RollSt w Bn most W (some ⟨g, 0, none⟩) no co vs ps) {q row : List Cl} {w1 : World} {Aq A4 : Option Addr} {j rl cq c4 : Nat} (hrl : row.length = rl)
    (hj : j < vs.length) (hjp : j < ps.length) (hq : ps[j] = q) (hv : vs[j] = .slice Aq q.length cq)
    (ho1 : Own w1 (Bn + 1) 50 6 A4 (q.length + rl) c4 (vals q ++ vals row)) (hg1 : W.grownBy w1 (blk Aq)) (hat : blk A4 = blk Aq ∨ blk A4 = some W.heap.size) :
    RollSt w Bn most (w1.setCell ⟨g, j, none⟩ (.slice A4 (q.length + rl) c4)) (some ⟨g, 0, none⟩) no co (vs.set j (.slice A4 (q.length + rl) c4)) (ps.set j (q ++ row)) ∧ Kept' w Bn W (w1.setCell ⟨g, j, none⟩ (.slice A4 (q.length + rl) c4)) := by
  subst hrl
  subst hq
  obtain ⟨hbox, hown, hlist, hap, hmost, hBn, hBW, hB⟩ := h
  obtain ⟨Aq', cq', hv', hoq⟩ := hlist.2 j hj hjp
  rw [hv] at hv'
  injection hv' with e1 e2 e3
  subst e1
  subst e3
  have hgl : Bn + 1 ≤ g ∧ g < W.heap.size := hown.lt g rfl
  have far : ∀ k, k ≤ Bn → some k ≠ blk Aq := fun k hk e => by have := (Own.lt hoq _ e.symm).1; omega
  have hne : blk (some (⟨g, 0, none⟩ : Addr)) = none ∨ blk (some (⟨g, 0, none⟩ : Addr)) ≠ blk Aq := Own.type_ne hown hoq (by decide)
  have hown1 := Own.grown hown hg1 hne
  have hst := World.ownsRow.stored hown1 j (.slice A4 (ps[j].length + row.length) c4)
  have hgne : blk A4 ≠ some g := fun e => by
    rcases Own.type_ne ho1 hown1 (by decide) with h1 | h1
    · rw [h1] at e; cases e
    · exact h1 e
  have hz1 := hg1.size
  have hz5 : (w1.setCell ⟨g, j, none⟩ (.slice A4 (ps[j].length + row.length) c4)).heap.size = w1.heap.size := by simp [World.setCell]
  have hB1 : Below w.heap.size w w1 := Own.grow hoq hB hB.size (by omega) hg1
  refine ⟨⟨?_, hst.1, ?_, ?_, ?_, hBn, by omega, hB1.setCell (by show w.heap.size ≤ g; omega) _⟩, ?_, ?_⟩
  · exact (hbox.grown hg1 (far _ (by omega))).far (by show w.heap.size + 1 ≠ g; omega) _
  · refine ⟨by simp [hlist.1], fun i hi hi' => ?_⟩
    rw [List.length_set] at hi hi'
    by_cases e : i = j
    · subst e
      refine ⟨A4, c4, ?_, ?_⟩
      · rw [List.getElem_set_self, List.getElem_set_self, List.length_append]
      · rw [List.getElem_set_self]
        refine Own.setCell ?_ hgne _
        try unfold OwnC
        rw [List.length_append, ← vals_append]
        exact ho1
    · obtain ⟨Ai, ci, ei, hoi⟩ := hlist.2 i hi hi'
      refine ⟨Ai, ci, ?_, ?_⟩
      · rw [List.getElem_set_ne (Ne.symm e), List.getElem_set_ne (Ne.symm e)]; exact ei
      · rw [List.getElem_set_ne (Ne.symm e)]
        have ha := hap i j hi hj e
        rw [ei, hv, ownBlock_slice, ownBlock_slice] at ha
        have h1 := Own.grown hoi hg1 ha
        refine Own.setCell h1 (fun e2 => ?_) _
        rcases Own.type_ne hoi hown (by decide) with h3 | h3
        · rw [h3] at e2; cases e2
        · exact h3 e2
  · intro i k hi hk hik
    rw [List.length_set] at hi hk
    have key : ∀ i (hi : i < vs.length), i ≠ j → vs[i].ownBlock = none ∨ vs[i].ownBlock ≠ blk A4 := fun i hi hne => by
      rcases hat with h1 | h1
      · rw [h1]
        have := hap i j hi hj hne
        rwa [hv, ownBlock_slice] at this
      · rw [h1]
        cases e : vs[i].ownBlock with
        | none => exact .inl rfl
        | some m => exact .inr fun e2 => by have := (hlist.blk_lt i hi m e).2; injection e2; omega
    by_cases e1 : i = j
    · subst e1
      rw [List.getElem_set_self, List.getElem_set_ne hik, ownBlock_slice]
      cases e : blk A4 with
      | none => exact .inl rfl
      | some m =>
        refine .inr fun e2 => ?_
        rcases key k (by simpa using hk) (Ne.symm hik) with h1 | h1
        · rw [h1] at e2; cases e2
        · exact h1 (by rw [← e2, e])
    · rw [List.getElem_set_ne (Ne.symm e1)]
      by_cases e2 : k = j
      · subst e2
        rw [List.getElem_set_self, ownBlock_slice]
        exact key i (by simpa using hi) e1
      · rw [List.getElem_set_ne (Ne.symm e2)]
        exact hap i k (by simpa using hi) (by simpa using hk) hik
  · exact (hmost.grown hg1 (far _ (by omega))).far (by show w.heap.size ≠ g; omega) _
  · exact (KeepsOthers.of_grownBy hg1 (fun m o hm ho => Own.cellsAt hoq m o hm ho)).trans (KeepsOthers.setCell _ _ _)
  · intro k hk
    have hkB : k ≤ Bn := by omega
    have hk1 : k ≠ g := by omega
    rw [Below.heap_setCell _ _ _ _ hk1]
    exact hg1.block k (by omega) (far k hkB)

/-- a turn of the loop's own blocks -/
theorem RollSt.turn {w : World} {Bn most : Nat} {W W' : World} {Ao : Option Addr} {no co : Nat} {vs : List Value} {ps : List (List Cl)} (h : RollSt w Bn most W Ao no co vs ps) {row : Option Nat} (hg : W.grownBy W' row)
    (hr : ∀ r, row = some r → Bn < r ∧ ∃ o, W.heap[r]? = some o ∧ o.isCells = false) : RollSt w Bn most W' Ao no co vs ps := by
  obtain ⟨hbox, hown, hlist, hap, hmost, hBn, hBW, hB⟩ := h
  have key : ∀ k, (∀ o, W.heap[k]? = some o → o.isCells = true) → some k ≠ row := fun k hk e => by
    obtain ⟨_, o, ho, hc⟩ := hr k e.symm
    rw [hk o ho] at hc
    cases hc
  have kbox : ∀ {k e v}, Box W k e v → some k ≠ row := fun {k e v} hb => key k fun o ho => by
    unfold Box at hb
    rw [hb] at ho
    injection ho with ho
    subst ho
    rfl
  have kown : ∀ {b e sz A n c xs}, Own W b e sz A n c xs → blk A = none ∨ blk A ≠ row := fun {b e sz A n c xs} ho => by
    cases hA : blk A with
    | none => exact .inl rfl
    | some k => exact .inr (key k fun o h => ho.cellsAt k o hA h)
  have hz := hg.size
  refine ⟨hbox.grown hg (kbox hbox), Own.grown hown hg (kown hown), hlist.keep fun A c p h => Own.grown h hg (kown h), hap, hmost.grown hg (kbox hmost), hBn, by omega, ?_⟩
  have hw := hB.size
  refine ⟨hg.os.trans hB.os, hg.tape.trans hB.tape, hg.output.trans hB.output, by omega, fun k hk => ?_⟩
  exact (hg.block k (by omega) (fun e => by have := (hr k e.symm).1; omega)).trans (hB.block k hk)
end Go.Proofs.Yteacjikkojglmaa
