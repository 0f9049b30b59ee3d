/-
  The walk of cut's iterator over the rows of cells.
-/
import Derived.Test.YteacjikkojglmaaSplit
import Derived.RangeFuncBox
import Derived.RangeFuncLeaves
import Derived.Shelf.Abstract
import Derived.OwnWalkIn
import Derived.TacticsInMore
import Derived.LoopNIn
import Derived.LoopIn
namespace Go.Proofs.Yteacjikkojglmaa
open Go.RowKit Go.Shelf
attribute [local go_sem ↓] Go.wp_at_zero Go.wp_at_succ
attribute [local go_sem] Oper.semAt_some

/-- cells by their rows -/
def rowsOf : List Cl → List (List Cl)
  | [] => []
  | c :: l => match rowsOf l with
    | [] => [[c]]
    | [] :: gs => [c] :: gs
    | (d :: g) :: gs => if d.row = c.row then (c :: d :: g) :: gs else [c] :: (d :: g) :: gs

theorem rowsOf_head : ∀ (l : List Cl) (c : Cl), ∃ g gs, rowsOf (c :: l) = (c :: g) :: gs
  | [], c => ⟨[], [], rfl⟩
  | d :: l, c => by
    obtain ⟨g, gs, e⟩ := rowsOf_head l d
    rw [rowsOf, e]
    by_cases h : d.row = c.row
    · exact ⟨d :: g, gs, by simp [h]⟩
    · exact ⟨[], (d :: g) :: gs, by simp [h]⟩
theorem rowsOf_one (c : Cl) (rest : List Cl) (h : ∀ d r, rest = d :: r → d.row ≠ c.row) : rowsOf (c :: rest) = [c] :: rowsOf rest := by
  cases rest with
  | nil => rfl
  | cons d r =>
    obtain ⟨g, gs, e⟩ := rowsOf_head r d
    rw [rowsOf, e]
    simp [h d r rfl]
theorem rowsOf_group : ∀ (g : List Cl) (c : Cl) (rest : List Cl), (∀ d ∈ g, d.row = c.row) → (∀ d r, rest = d :: r → d.row ≠ c.row) → rowsOf (c :: g ++ rest) = (c :: g) :: rowsOf rest
  | [], c, rest, _, h => rowsOf_one c rest h
  | d :: g, c, rest, hg, h => by
    have hd : d.row = c.row := hg d (by simp)
    have ih := rowsOf_group g d rest (fun e he => by rw [hd]; exact hg e (by simp [he])) (fun e r hr => by rw [hd]; exact h e r hr)
    have e1 : c :: (d :: g) ++ rest = c :: (d :: g ++ rest) := rfl
    rw [e1, rowsOf, ih]
    simp [hd]

/-- a part of the cells, from a place to another one -/
abbrev Part (n : Nat) : Type := { x : Nat × Nat // x.1 < x.2 ∧ x.2 ≤ n }
def part (l : List Cl) (x : Part l.length) : List Cl := (l.drop x.1.1).take (x.1.2 - x.1.1)
def partVal (A : Option Addr) (c n : Nat) (x : Part n) : Value := .slice (tailA A c x.1.1 6) (x.1.2 - x.1.1) (c - x.1.1)

theorem rows_any (A : Option Addr) (n c : Nat) (w : World) :
    Calls Try.prog 28 #[.slice A n c] w fun e w' => e = .returned (.func (.func 31) #[] #[.pointer (some ⟨w.heap.size, 0, none⟩)]) ∧ w.alloc (.cells #[.slice A n c] 22) = w' := by
  go_enter Try.func28, Try.ntmps28
  go_wp2
  go_ret
  exact ⟨rfl, rfl⟩

/-- what a round keeps: all below n0, and the block Bn -/
def Kept (n0 Bn : Nat) (W W' : World) : Prop := ∀ k, k < n0 ∨ k = Bn → W'.heap[k]? = W.heap[k]?

/-- between two rounds of the iterator: i cells are seen, the row at hand begins at f -/
def RowsInv (l : List Cl) (pre : List (Part l.length)) (f i : Nat) : Prop :=
  f ≤ i ∧ i ≤ l.length ∧ (i < l.length ∨ f = i) ∧ rowsOf l = pre.map (part l) ++ rowsOf (l.drop f) ∧ ∀ j (hj : j + 1 < l.length), f ≤ j → j < i → l[j + 1].row = l[j].row

theorem RowsInv.zero (l : List Cl) : RowsInv l [] 0 0 := ⟨Nat.le_refl _, Nat.zero_le _, .inr rfl, by simp, fun j hj h1 h2 => by omega⟩
theorem RowsInv.next {l : List Cl} {pre : List (Part l.length)} {f i k : Nat} (h : RowsInv l pre f i) (hk : k = i + 1) (hi : i < l.length) (hk2 : k < l.length) (he : l[k].row = l[i].row) : RowsInv l pre f k := by
  subst hk
  obtain ⟨h1, h2, h3, h4, h5⟩ := h
  refine ⟨by omega, by omega, .inl hk2, h4, fun j hj hf hji => ?_⟩
  by_cases e : j = i
  · subst e; exact he
  · exact h5 j hj hf (by omega)
theorem RowsInv.same {l : List Cl} {pre : List (Part l.length)} {f i : Nat} (h : RowsInv l pre f i) : ∀ d (hj : f + d < l.length), f + d ≤ i → l[f + d].row = (l[f]'(by omega)).row
  | 0, _, _ => rfl
  | d + 1, hj, hle => (h.2.2.2.2 (f + d) hj (by omega) (by omega)).trans (RowsInv.same h d (by omega) (by omega))
theorem drop_split (l : List Cl) (f i : Nat) (hf : f ≤ i) (hi : i < l.length) : l.drop f = (l[f]'(by omega) :: (l.drop (f + 1)).take (i - f)) ++ l.drop (i + 1) := by
  rw [List.drop_eq_getElem_cons (by omega : f < l.length)]
  simp only [List.cons_append, List.cons.injEq, true_and]
  have : l.drop (i + 1) = (l.drop (f + 1)).drop (i - f) := by rw [List.drop_drop]; congr 1; omega
  rw [this, List.take_append_drop]
theorem part_eq (l : List Cl) (f i : Nat) (hf : f ≤ i) (hi : i < l.length) : part l ⟨(f, i + 1), by simp; omega, hi⟩ = l[f]'(by omega) :: (l.drop (f + 1)).take (i - f) := by
  unfold part
  have e : i + 1 - f = (i - f) + 1 := by omega
  simp only [e]
  rw [List.drop_eq_getElem_cons (by omega : f < l.length), List.take_succ_cons]
theorem RowsInv.yield {l : List Cl} {pre : List (Part l.length)} {f i : Nat} (h : RowsInv l pre f i) (hi : i < l.length) (hn : ∀ h : i + 1 < l.length, l[i + 1].row ≠ l[i].row) :
    RowsInv l (pre ++ [⟨(f, i + 1), Nat.lt_succ_of_le h.1, hi⟩]) (i + 1) (i + 1) := by
  have hs := h.same
  obtain ⟨h1, h2, h3, h4, h5⟩ := h
  refine ⟨Nat.le_refl _, hi, .inr rfl, ?_, fun j hj hf hji => by omega⟩
  have hi' : l[i].row = (l[f]'(by omega)).row := by
    have := hs (i - f) (by omega) (by omega)
    rw [← this]
    congr 2
    omega
  have hg := rowsOf_group ((l.drop (f + 1)).take (i - f)) (l[f]'(by omega)) (l.drop (i + 1)) (fun d hd => by
      obtain ⟨j, hj, rfl⟩ := List.getElem_of_mem hd
      rw [List.length_take, List.length_drop] at hj
      rw [List.getElem_take, List.getElem_drop]
      have := hs (1 + j) (by omega) (by omega)
      rw [← this]
      congr 2
      omega) (fun d r hr => by
      have hlt : i + 1 < l.length := by
        rcases Nat.lt_or_ge (i + 1) l.length with h | h
        · exact h
        · rw [List.drop_eq_nil_of_le h] at hr; cases hr
      have : d = l[i + 1] := by
        rw [List.drop_eq_getElem_cons hlt] at hr
        injection hr with h1 _
        exact h1.symm
      rw [this, ← hi']
      exact hn hlt)
  refine h4.trans ?_
  have e := (congrArg rowsOf (drop_split l f i h1 hi)).trans hg
  simp only [e, part_eq l f i h1 hi, List.map_append, List.map_cons, List.map_nil, List.append_assoc, List.cons_append, List.nil_append]
theorem RowsInv.done {l : List Cl} {pre : List (Part l.length)} {f i : Nat} (h : RowsInv l pre f i) (hi : ¬ i < l.length) : pre.map (part l) = rowsOf l := by
  obtain ⟨h1, h2, h3, h4, h5⟩ := h
  have e : f = i := h3.resolve_left hi
  rw [h4, List.drop_eq_nil_of_le (by omega)]
  simp [rowsOf]

set_option maxRecDepth 100000 in
set_option maxHeartbeats 2000000 in
theorem rows1_in (n : Nat) (hn : 1 ≤ n) (r Bn n0 : Nat) (A : Option Addr) (c : Nat) (l : List Cl) (hlen : l.length ≤ 1000) (hcap : l.length ≤ c) (J Jx : List (Part l.length) → World → Prop)
    (hY : ∀ (pre : List (Part l.length)) (x : Part l.length) (W : World), J pre W → pre.length < l.length → YieldAt Fence.wide (n - 1) Try.prog r #[partVal A c l.length x] W fun e W' =>
      (e = .returned (.bool true) ∧ J (pre ++ [x]) W' ∧ Kept n0 Bn W W') ∨ (e = .returned (.bool false) ∧ Jx (pre ++ [x]) W'))
    (hJd : ∀ pre W k, J pre W → J pre (W.drewN k))
    (W : World) (hBn : Box W Bn 22 (.slice A l.length c)) (hl : Rd W n0 A (vals l)) (h0 : J [] W) :
    CallsIn Fence.wide n Try.prog 31 #[.func (.yield r) #[] #[], .pointer (some ⟨Bn, 0, none⟩)] W fun e W' => (∃ v, e = .returned v) ∧
      ((∃ ys : List (Part l.length), ys.map (part l) = rowsOf l ∧ J ys W') ∨ (∃ pre, True ∧ Jx pre W')) := by
  obtain ⟨j0, hj0, _, hj1, _⟩ := info_parts cellInfo
  have hbc := hBn.cell
  refine callsIn_of_wp Try.func31 rfl trivial ?_ rfl
  simp only [Try.ntmps31, List.size_toArray, List.length_cons, List.length_nil, Nat.reduceAdd, Nat.reduceSub, Array.replicate_succ, Array.replicate_zero, List.push_toArray, List.append_toArray, List.nil_append, List.cons_append]
  gi_wp2
  gi_loopw [3, 4, 7] (fun f _ i wr => ∃ (pre : List (Part l.length)) (fN iN : Nat), f = .int .i64 fN ∧ i = .int .i64 iN ∧ Hid (RowsInv l pre fN iN) ∧ pre.length ≤ iN ∧ J pre wr ∧ Box wr Bn 22 (.slice A l.length c) ∧ Rd wr n0 A (vals l))
    (fun _ _ i _ => l.length - (intOf i).toNat)
  case atStart => exact ⟨[], 0, 0, rfl, rfl, Lib.hid (RowsInv.zero l), Nat.le_refl _, h0, hBn, hl⟩
  case round =>
    obtain ⟨pre, f, i, rfl, rfl, HI, hpl, hJs, hbox, hrd⟩ := hrel
    by_cases hlt : i < l.length
    · obtain ⟨b, o, rfl, hb, hc⟩ := hrd.at_ (vals_ne hlt)
      have hbc := hbox.cell
      obtain ⟨l0, l1, l2, l3, l4, l5⟩ := Rd.cell_at (B := 0) hc i hlt
      have hfi := HI.out.1
      have HY := Lib.hid hY
      clear hY
      have hsl := fun W => run_mid' (P := Try.prog) (t := 22) (e := 50) (size := 6) Try.underlying22 hj0 hj1 (some ⟨b, o, none⟩) l.length c f (i + 1) ((i : Int) + 1) (by omega) (by omega) (by omega) W
      have hlast : ∀ (hn : ∀ h : i + 1 < l.length, l[i + 1].row ≠ l[i].row) (nq : Nat), ∃ fn tmps assign body, (Instr.yield r #[.slice (tailA (some ⟨b, o, none⟩) c f 6) (i + 1 - f) (c - f)]).run Try.prog (wr.drewN nq) = .ok (.round r fn tmps assign body) (wr.drewN nq) ∧
          RoundIn Fence.wide (n - 1) Try.prog r fn tmps assign body (wr.drewN nq) fun e W' => (e = .returned (.bool true) ∧ J (pre ++ [⟨(f, i + 1), Nat.lt_succ_of_le hfi, hlt⟩]) W' ∧ Kept n0 Bn (wr.drewN nq) W') ∨ (e = .returned (.bool false) ∧ Jx (pre ++ [⟨(f, i + 1), Nat.lt_succ_of_le hfi, hlt⟩]) W') := fun _ nq =>
        HY.out pre ⟨(f, i + 1), Nat.lt_succ_of_le hfi, hlt⟩ (wr.drewN nq) (hJd _ _ _ hJs) (by omega)
      by_cases hlt2 : i + 1 < l.length
      · obtain ⟨m0, m1, m2, m3, m4, m5⟩ := Rd.cell_at (B := 0) hc (i + 1) hlt2
        have hd : decide ((i : Int) + 1 < (l.length : Int)) = true := decide_eq_true (by omega)
        have i1 : (0 : Int) ≤ (i : Int) + 1 := by omega
        have i2 : (i : Int) + 1 < (l.length : Int) := by omega
        by_cases hrow : l[i + 1].row = l[i].row
        · have hq : (l[i + 1].row.toList == l[i].row.toList) = true := by rw [hrow]; simp
          have HL := Lib.hid (HI.out.next rfl hlt hlt2 hrow)
          clear hrow hlast
          gi_wp2
          refine wpIn_wide.2 ?_
          go_quiet (fail)
          gi_wp2
          exact ⟨⟨pre, f, i + 1, rfl, by go_num, HL, by omega, hJd _ _ _ hJs, hbox.drewN _, hrd.drewN _⟩, by simp [intOf]; omega⟩
        · have hq : (l[i + 1].row.toList == l[i].row.toList) = false := by rw [beq_eq_false_iff_ne]; intro e; exact hrow (toList_inj e)
          have hne : ∀ h : i + 1 < l.length, l[i + 1].row ≠ l[i].row := fun _ => hrow
          have HL := Lib.hid (hlast hne)
          have HN := Lib.hid (HI.out.yield hlt hne)
          clear hlast hrow hne
          gi_wp2
          refine wpIn_wide.2 ?_
          go_quiet (fail)
          obtain ⟨fn, tmps, assign, body, hy, hR⟩ := HL.out nq
          gi_wp2
          refine hR.mono ?_
          rintro e W3 (⟨rfl, hJ3, hk3⟩ | ⟨rfl, hJx3⟩)
          · gi_wp2
            exact ⟨⟨_, i + 1, i + 1, by go_num, by go_num, HN, by simp; omega, hJ3, (hk3 Bn (.inr rfl)).trans (hbox.drewN nq), (hrd.drewN nq).keep (fun p hp => World.cell?_of_block (hk3 p.block (.inl hp)))⟩, by simp [intOf]; omega⟩
          · gi_wp2
            refine bodyPost_ret (results_none rfl _ _ _) rfl ?_
            exact ⟨⟨_, rfl⟩, .inr ⟨_, trivial, hJx3⟩⟩
      · have hd : decide ((i : Int) + 1 < (l.length : Int)) = false := decide_eq_false (by omega)
        have HL := Lib.hid (hlast (fun h => absurd h hlt2))
        have HN := Lib.hid (HI.out.yield hlt (fun h => absurd h hlt2))
        clear hlast
        gi_wp2
        refine wpIn_wide.2 ?_
        go_quiet (fail)
        obtain ⟨fn, tmps, assign, body, hy, hR⟩ := HL.out nq
        gi_wp2
        refine hR.mono ?_
        rintro e W3 (⟨rfl, hJ3, hk3⟩ | ⟨rfl, hJx3⟩)
        · gi_wp2
          exact ⟨⟨_, i + 1, i + 1, by go_num, by go_num, HN, by simp; omega, hJ3, (hk3 Bn (.inr rfl)).trans (hbox.drewN nq), (hrd.drewN nq).keep (fun p hp => World.cell?_of_block (hk3 p.block (.inl hp)))⟩, by simp [intOf]; omega⟩
        · gi_wp2
          refine bodyPost_ret (results_none rfl _ _ _) rfl ?_
          exact ⟨⟨_, rfl⟩, .inr ⟨_, trivial, hJx3⟩⟩
    · have HD := Lib.hid (HI.out.done hlt)
      gi_wp2
      go_end0
      exact ⟨⟨_, rfl⟩, .inl ⟨pre, HD.out, hJs⟩⟩
theorem grownBy_drewN (W : World) (k : Nat) (row : Option Nat) : W.grownBy (W.drewN k) row := ⟨rfl, rfl, rfl, Nat.le_refl _, fun _ _ _ => rfl⟩

/-- the iterator hands out the rows, one by one -/
theorem rows_stops (n : Nat) (hn : 1 ≤ n) (Bn n0 : Nat) (A : Option Addr) (c : Nat) (l : List Cl) (hlen : l.length ≤ 1000) (hcap : l.length ≤ c) (w : World) (hBn : Box w Bn 22 (.slice A l.length c)) (hn0 : n0 ≤ w.heap.size) (hl : Rd w n0 A (vals l)) :
    SeqStopsK Fence.wide n Try.prog 31 #[.pointer (some ⟨Bn, 0, none⟩)] (fun x : Part l.length => #[partVal A c l.length x]) (Kept n0 Bn) (fun ys => ys.map (part l) = rowsOf l) (fun _ => True) l.length w := fun r J Jx W hW hJ _ hY h0 =>
  rows1_in n hn r Bn n0 A c l hlen hcap J Jx hY (fun pre W k h => hJ pre W _ none h (grownBy_drewN W k none) (fun r e => by cases e)) W (hBn.below hW hBn.lt) (hl.keep fun p hp => hW.cell (Nat.lt_of_lt_of_le hp hn0)) h0

theorem Kept.trans {n0 Bn : Nat} {A B C : World} (h : Kept n0 Bn A B) (k : Kept n0 Bn B C) : Kept n0 Bn A C := fun i hi => (k i hi).trans (h i hi)
theorem Kept.put {n0 Bn : Nat} {w : World} (hn : n0 ≤ w.heap.size) (hb : Bn < w.heap.size) (W : World) (r : Nat) (o o' : Obj) (hr : w.heap.size ≤ r) (h : W.heap[r]? = some o) (_ : o.isCells = false) (_ : o.isWalk = false) : Kept n0 Bn W (W.putObj r o') := fun k hk =>
  (grownBy_putObj' W r o').block k (by have := (Array.getElem?_eq_some_iff.1 h).1; omega) (fun e => by injection e; omega)
end Go.Proofs.Yteacjikkojglmaa
