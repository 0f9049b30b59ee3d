/-
  The walk of slices.Chunk's iterator at items. The walk of runs.Make. The walk of runs.Make, where the memory is at least 1. No conditions.
-/
import Derived.Test.YtflppcgonbjnmaaJE
import Derived.RangeFuncBox
import Derived.RangeFuncLeaves
import Derived.Shelf.Abstract
import Derived.OwnWalkIn
import Derived.TacticsInMore
import Derived.LoopNIn
import Derived.LoopIn
namespace Go.Proofs.Ytflppcgonbjnmaa
open Go.RowKit Go.Shelf
attribute [local go_sem ↓] Go.wp_at_zero Go.wp_at_succ
attribute [local go_sem] Oper.semAt_some

/-- parts of m each, the last one maybe shorter -/
def chunks (m : Nat) (l : List It) : List (List It) := match m, l with
  | 0, _ => []
  | _ + 1, [] => []
  | m + 1, x :: l => (x :: l).take (m + 1) :: chunks (m + 1) ((x :: l).drop (m + 1))
termination_by l.length
decreasing_by simp; omega
theorem chunks_nil (m : Nat) : chunks m [] = [] := by cases m <;> rw [chunks]
theorem chunks_cons {m : Nat} (hm : 1 ≤ m) {l : List It} (hl : l ≠ []) : chunks m l = l.take m :: chunks m (l.drop m) := by
  match m, l with
  | m + 1, x :: l => rw [chunks]

/-- a part of the items, from a place to another one -/
abbrev Cut (n : Nat) : Type := { x : Nat × Nat // x.1 < x.2 ∧ x.2 ≤ n }
def cut (l : List It) (x : Cut l.length) : List It := (l.drop x.1.1).take (x.1.2 - x.1.1)
def cutVal (A : Option Addr) (n : Nat) (x : Cut n) : Value := .slice (A.map (·.add (x.1.1 * 7))) (x.1.2 - x.1.1) (x.1.2 - x.1.1)
def Kept2 (n0 B1 B2 : Nat) (W W' : World) : Prop := ∀ k, k < n0 ∨ k = B1 ∨ k = B2 → W'.heap[k]? = W.heap[k]?

/-- between two rounds -/
def ChInv (l : List It) (m : Nat) (pre : List (Cut l.length)) (i : Nat) : Prop := pre.map (cut l) ++ chunks m (l.drop i) = chunks m l ∧ (i = 0 ∨ m ≤ i) ∧ (i < l.length → i ≤ 1000000)
theorem ChInv.zero (l : List It) (m : Nat) : ChInv l m [] 0 := ⟨by simp, .inl rfl, fun _ => by omega⟩
theorem ChInv.next {l : List It} {m : Nat} {pre : List (Cut l.length)} {i e : Nat} (hm : 1 ≤ m) (hlen : l.length ≤ 1000000) (h : ChInv l m pre i) (hi : i < l.length) (he : min m (l.length - i) = e) (h1 : i < i + e) (h2 : i + e ≤ l.length) :
    ChInv l m (pre ++ [⟨(i, i + e), h1, h2⟩]) (i + m) := by
  obtain ⟨a, b, c⟩ := h
  refine ⟨?_, .inr (by omega), fun _ => by omega⟩
  rw [← a, List.map_append, List.append_assoc]
  congr 1
  have hne : l.drop i ≠ [] := by
    intro e
    have := congrArg List.length e
    rw [List.length_drop] at this
    simp at this
    omega
  rw [chunks_cons hm hne, List.drop_drop]
  have : cut l ⟨(i, i + e), h1, h2⟩ = (l.drop i).take m := by
    unfold cut
    simp only [Nat.add_sub_cancel_left]
    by_cases hc : m ≤ l.length - i
    · rw [show e = m by omega]
    · rw [List.take_of_length_le (by rw [List.length_drop]; omega), List.take_of_length_le (by rw [List.length_drop]; omega)]
  simp [this]
theorem ChInv.done {l : List It} {m : Nat} {pre : List (Cut l.length)} {i : Nat} (h : ChInv l m pre i) (hi : ¬ i < l.length) : pre.map (cut l) = chunks m l := by
  have := h.1
  rwa [List.drop_of_length_le (by omega), chunks_nil, List.append_nil] at this

theorem run_full {P : Program} {t e : TypeId} {i : TypeInfo} {size : Nat} (ht : P.underlying t = some (.slice e)) (hi : P.info? e = some i) (hs : i.size = size) (A : Option Addr) (n c m k : Nat) (hm : m < k) (hk : k ≤ c) (W : World) :
    (Instr.slice t (.slice A n c) (some (.int .i64 (m : Int))) (some (.int .i64 (k : Int))) (some (.int .i64 (k : Int)))).run P W = .ok (.slice (A.map (·.add (m * size))) (k - m) (k - m)) W := by
  have he : P.underlying t = some (.slice (P.elem t)) := by rw [ht]; simp [Program.elem, ht]
  have hee : P.elem t = e := by simp [Program.elem, ht]
  rw [run_slice_lhm (P := P) W t A n c he .i64 .i64 .i64 m k k (by omega) (by omega) (by omega) (by omega), hee]
  have hne : ¬ k = m := by omega
  simp [sizeOf, typeInfo, hi, Result.andThen, sliced, hs, hne]

theorem Box.keepK {w w' : World} {g : Nat} {e : TypeId} {v : Value} (h : Box w g e v) (hk : w'.heap[g]? = w.heap[g]?) : Box w' g e v := hk.trans h
set_option maxRecDepth 100000 in
set_option maxHeartbeats 2000000 in
theorem chunk1_in (n : Nat) (hn : 1 ≤ n) (r B1 B2 n0 : Nat) (A : Option Addr) (c m : Nat) (l : List It) (hlen : l.length ≤ 1000000) (hcap : l.length ≤ c) (hm : 1 ≤ m) (hm2 : m ≤ 9223372036854775807) (J Jx : List (Cut l.length) → World → Prop)
    (hY : ∀ (pre : List (Cut l.length)) (x : Cut l.length) (W : World), J pre W → pre.length < l.length → YieldAt Fence.wide (n - 1) Try.prog r #[cutVal A l.length x] W fun e W' =>
      (e = .returned (.bool true) ∧ J (pre ++ [x]) W' ∧ Kept2 n0 B1 B2 W W') ∨ (e = .returned (.bool false) ∧ Jx (pre ++ [x]) W'))
    (hJd : ∀ pre W k, J pre W → J pre (W.drewN k))
    (W : World) (hB1 : Box W B1 32 (.slice A l.length c)) (hB2 : Box W B2 3 (.int .i64 m)) (h0 : J [] W) :
    CallsIn Fence.wide n Try.prog 51 #[.func (.yield r) #[] #[], .pointer (some ⟨B1, 0, none⟩), .pointer (some ⟨B2, 0, none⟩)] W fun e W' => (∃ v, e = .returned v) ∧
      ((∃ ys : List (Cut l.length), ys.map (cut l) = chunks m l ∧ J ys W') ∨ (∃ pre, True ∧ Jx pre W')) := by
  obtain ⟨j0, hj0, _, hj1, _⟩ := info_parts itemInfo
  refine callsIn_of_wp Try.func51 rfl trivial ?_ rfl
  simp only [Try.ntmps51, List.size_toArray, List.length_cons, List.length_nil, Nat.reduceAdd, Nat.reduceSub, Array.replicate_succ, Array.replicate_zero, List.push_toArray, List.append_toArray, List.nil_append, List.cons_append]
  gi_wp2
  gi_loopw [4] (fun vi wr => ∃ (pre : List (Cut l.length)) (i : Nat), vi = .int .i64 (i : Int) ∧ Hid (ChInv l m pre i) ∧ pre.length ≤ i ∧ J pre wr ∧ Box wr B1 32 (.slice A l.length c) ∧ Box wr B2 3 (.int .i64 m))
    (fun vi _ => l.length - (intOf vi).toNat)
  case atStart => exact ⟨[], 0, rfl, Lib.hid (ChInv.zero l m), Nat.le_refl _, h0, hB1, hB2⟩
  case round =>
    obtain ⟨pre, i, rfl, HI, hpl, hJs, hb1, hb2⟩ := hrel
    have c1 := hb1.cell
    have c2 := hb2.cell
    by_cases hlt : i < l.length
    · have HY := Lib.hid hY
      clear hY
      have hi2 := HI.out.2.1
      obtain ⟨e, he⟩ : ∃ e, min m (l.length - i) = e := ⟨_, rfl⟩
      have hsl1 := fun W => run_tail (P := Try.prog) (t := 32) (e := 59) (size := 7) Try.underlying32 hj0 hj1 A l.length c i (by omega) W
      have hsl2 := fun W => run_full (P := Try.prog) (t := 32) (e := 59) (size := 7) Try.underlying32 hj0 hj1 A l.length c i (i + e) (by omega) (by omega) W
      have hwe : IntKind.i64.wrap ((i : Int) + (e : Int)) = ((i + e : Nat) : Int) := by rw [IntWalk.i64_in _ (by omega)]; omega
      have hwm : IntKind.i64.wrap ((i : Int) + (m : Int)) = ((i + m : Nat) : Int) := by rw [IntWalk.i64_in _ (by omega)]; omega
      have k1 : (0 : Int) ≤ (i : Int) := by omega
      have k2 : (i : Int) ≤ (l.length : Int) := by omega
      have k3 : decide ((i : Int) < (l.length : Int)) = true := decide_eq_true (by omega)
      have HN := Lib.hid (HI.out.next hm hlen hlt he (by omega) (by omega))
      gi_wp2
      refine wpIn_wide.2 ?_
      go_quiet (fail)
      have hmin : (if l.length - i < m then ((l.length - i : Nat) : Int) else (m : Int)) = (e : Int) := by split <;> omega
      rw [hmin]
      clear hmin
      obtain ⟨fn, tmps, assign, body, hy, hR⟩ := HY.out pre ⟨(i, i + e), show i < i + e by omega, show i + e ≤ l.length by omega⟩ (wr.drewN nq) (hJd _ _ _ hJs) (by omega)
      unfold cutVal at hy
      simp only [Nat.add_sub_cancel_left] at hy
      have c1 : (wr.drewN nq).cell? ⟨B1, 0, none⟩ = some (.slice A l.length c) := c1
      have c2 : (wr.drewN nq).cell? ⟨B2, 0, none⟩ = some (.int .i64 m) := c2
      have q1 : (i : Int) ≤ ((i + e : Nat) : Int) := by omega
      have q2 : ((i + e : Nat) : Int) ≤ (c : Int) := by omega
      gi_wp2
      refine hR.mono ?_
      rintro e W3 (⟨rfl, hJ3, hk3⟩ | ⟨rfl, hJx3⟩)
      · have c3 := ((hb2.drewN nq).keepK (hk3 B2 (.inr (.inr rfl)))).cell
        gi_wp2
        exact ⟨⟨_, i + m, by first | rfl | go_num, HN, by simp; omega, hJ3, (hb1.drewN nq).keepK (hk3 B1 (.inr (.inl rfl))), (hb2.drewN nq).keepK (hk3 B2 (.inr (.inr rfl)))⟩, by simp [intOf]; omega⟩
      · gi_wp2
        refine bodyPost_ret (results_none rfl _ _ _) rfl ?_
        exact ⟨⟨_, rfl⟩, .inr ⟨_, trivial, hJx3⟩⟩
    · have HD := Lib.hid (HI.out.done hlt)
      gi_wp2
      go_end0
      exact ⟨⟨_, rfl⟩, .inl ⟨pre, HD.out, hJs⟩⟩
end Go.Proofs.Ytflppcgonbjnmaa
namespace Go.Proofs.Ytflppcgonbjnmaa
open Go.RowKit Go.Shelf
attribute [local go_sem ↓] Go.wp_at_zero Go.wp_at_succ
attribute [local go_sem] Oper.semAt_some

theorem chunk_any (A : Option Addr) (n c m : Nat) (w : World) (hm : 1 ≤ m) :
    Calls Try.prog 39 #[.slice A n c, .int .i64 m] w fun e w' => e = .returned (.func (.func 51) #[] #[.pointer (some ⟨w.heap.size, 0, none⟩), .pointer (some ⟨w.heap.size + 1, 0, none⟩)]) ∧
      (w.alloc (.cells #[.slice A n c] 32)).alloc (.cells #[.int .i64 m] 3) = w' := by
  go_enter Try.func39, Try.ntmps39
  have hmd : decide ((m : Int) < 1) = false := decide_eq_false (by omega)
  have hmd2 : ¬ m = 0 := by omega
  have hmd3 : ¬ (m : Int) < 1 := by omega
  go_wp2
  go_ret
  exact ⟨rfl, rfl⟩

theorem chunk_stops (n : Nat) (hn : 1 ≤ n) (B1 B2 n0 : Nat) (A : Option Addr) (c m : Nat) (l : List It) (hlen : l.length ≤ 1000000) (hcap : l.length ≤ c) (hm : 1 ≤ m) (hm2 : m ≤ 9223372036854775807) (w : World) (hB1 : Box w B1 32 (.slice A l.length c)) (hB2 : Box w B2 3 (.int .i64 m)) :
    SeqStopsK Fence.wide n Try.prog 51 #[.pointer (some ⟨B1, 0, none⟩), .pointer (some ⟨B2, 0, none⟩)] (fun x : Cut l.length => #[cutVal A l.length x]) (Kept2 n0 B1 B2) (fun ys => ys.map (cut l) = chunks m l) (fun _ => True) l.length w := fun r J Jx W hW hJ _ hY h0 =>
  chunk1_in n hn r B1 B2 n0 A c m l hlen hcap hm hm2 J Jx hY (fun pre W k h => hJ pre W _ none h ⟨rfl, rfl, rfl, Nat.le_refl _, fun _ _ _ => rfl⟩ (fun r e => by cases e)) W (hB1.below hW hB1.lt) (hB2.below hW hB2.lt) h0
theorem Kept2.trans {n0 B1 B2 : Nat} {A B C : World} (h : Kept2 n0 B1 B2 A B) (k : Kept2 n0 B1 B2 B C) : Kept2 n0 B1 B2 A C := fun i hi => (k i hi).trans (h i hi)
theorem Kept2.put {n0 B1 B2 : Nat} {w : World} (hn : n0 ≤ w.heap.size) (hb1 : B1 < w.heap.size) (hb2 : B2 < w.heap.size) (W : World) (r : Nat) (o o' : Obj) (hr : w.heap.size ≤ r) (h : W.heap[r]? = some o) (_ : o.isCells = false) (_ : o.isWalk = false) : Kept2 n0 B1 B2 W (W.putObj r o') := fun k hk =>
  (grownBy_putObj' W r o').block k (by have := (Array.getElem?_eq_some_iff.1 h).1; omega) (fun e => by injection e; omega)

/-- slices that own rows, each with its list of items -/
def ILists (w : World) (base : Nat) (vs : List Value) (ps : List (List It)) : Prop :=
  vs.length = ps.length ∧ ∀ i (h : i < vs.length) (h' : i < ps.length), ∃ (A : Option Addr) (c : Nat), vs[i] = .slice A ps[i].length c ∧ Own w base 59 7 A ps[i].length c (its ps[i])
section
variable {w w' : World} {base base' : Nat} {vs : List Value} {ps : List (List It)}
theorem ILists.nil : ILists w base [] [] := ⟨rfl, fun i h => absurd h (by simp)⟩
theorem ILists.keep (h : ILists w base vs ps) (hk : ∀ A n c xs, Own w base 59 7 A n c xs → Own w' base 59 7 A n c xs) : ILists w' base vs ps :=
  ⟨h.1, fun i hi hi' => by
    obtain ⟨A, c, e, ho⟩ := h.2 i hi hi'
    exact ⟨A, c, e, hk _ _ _ _ ho⟩⟩
theorem ILists.lower (h : ILists w base vs ps) (hb : base' ≤ base) : ILists w base' vs ps := ⟨h.1, fun i hi hi' => by
  obtain ⟨A, c, e, ho⟩ := h.2 i hi hi'
  exact ⟨A, c, e, ho.lower hb⟩⟩
theorem ILists.snoc (h : ILists w base vs ps) {A : Option Addr} {c : Nat} {p : List It} (ho : Own w base 59 7 A p.length c (its p)) : ILists w base (vs ++ [.slice A p.length c]) (ps ++ [p]) :=
  ⟨by simp [h.1], fun i hi hi' => by
    by_cases e : i < vs.length
    · obtain ⟨A', c', e', ho'⟩ := h.2 i e (by rw [← h.1]; exact e)
      exact ⟨A', c', by rw [List.getElem_append_left e, e', List.getElem_append_left (by rw [← h.1]; exact e)], by rw [List.getElem_append_left (by rw [← h.1]; exact e)]; exact ho'⟩
    · have hi0 : i = vs.length := by simp at hi; omega
      subst hi0
      refine ⟨A, c, ?_, ?_⟩
      · rw [List.getElem_append_right (Nat.le_refl _), List.getElem_append_right (by rw [h.1]; exact Nat.le_refl _)]
        simp [h.1]
      · rw [List.getElem_append_right (by rw [h.1]; exact Nat.le_refl _)]
        simp [h.1]
        exact ho⟩
end
theorem Own.type_ne' {w : World} {A A' : Option Addr} {base base' e e' size size' n n' c c' : Nat} {xs xs' : List Value} (h : Own w base e size A n c xs) (h' : Own w base' e' size' A' n' c' xs') (hne : e ≠ e') : blk A = none ∨ blk A ≠ blk A' := by
  rcases h.2 with ⟨hv, _⟩ | ⟨g, cap, cur, hv, _, hg, _⟩
  · injection hv with hA
    subst hA
    exact .inl rfl
  · injection hv with hA
    subst hA
    rcases h'.2 with ⟨hv', _⟩ | ⟨g', cap', cur', hv', _, hg', _⟩
    · injection hv' with hA'
      subst hA'
      exact .inr (by simp [blk])
    · injection hv' with hA'
      subst hA'
      refine .inr fun e2 => ?_
      have : g = g' := by simpa [blk] using e2
      subst this
      rw [hg] at hg'
      injection hg' with hg'
      injection hg' with _ h2
      exact hne h2

theorem Own.cellsAt' {w : World} {base e size n c : Nat} {A : Option Addr} {xs : List Value} (h : Own w base e size A n c xs) (j : Nat) (o : Obj) (hA : blk A = some j) (ho : w.heap[j]? = some o) : o.isCells = true := by
  rcases h.2 with ⟨hv, _⟩ | ⟨g, cap, cur, hv, _, hg, _⟩
  · injection hv with e1
    subst e1
    cases hA
  · injection hv with e1
    subst e1
    have : g = j := by injection hA
    subst this
    rw [hg] at ho
    injection ho with ho
    subst ho
    rfl
theorem Own.vals_len' {w : World} {base e n c : Nat} {A : Option Addr} {xs : List Value} (h : Own w base e 1 A n c xs) : xs.length = n := by have := h.1; omega

/-- between two rounds: what is put out, and the items at hand -/
structure MakeSt (w : World) (Bn : Nat) (L : List It) (A1 : Option Addr) (N c1 : Nat) (W : World) (Ao : Option Addr) (no co : Nat) (vs : List Value) (ps : List (List It)) : Prop where
  box : Box W w.heap.size 30 (.slice Ao no co)
  own : Own W (Bn + 1) 32 1 Ao no co vs
  lists : ILists W (Bn + 1) vs ps
  items : Own W (w.heap.size + 1) 59 7 A1 N c1 (its L)
  hBn : w.heap.size + 1 ≤ Bn
  hBW : Bn < W.heap.size
  below : Below w.heap.size w W

theorem MakeSt.new {w : World} {Bn : Nat} {L : List It} {A1 : Option Addr} {N c1 : Nat} {W : World} {Ao : Option Addr} {no co : Nat} {vs : List Value} {ps : List (List It)} (h : MakeSt w Bn L A1 N c1 W Ao no co vs ps) {R : List It} {w2 w3 : World} {A2 A3 : Option Addr} {rl c2 c3 : Nat} (hrl : R.length = rl)
    (ho2 : Own w2 W.heap.size 59 7 A2 rl c2 (its R)) (hb2 : Below W.heap.size W w2) (ho3 : Own w3 (Bn + 1) 32 1 A3 (no + 1) c3 (vs ++ [.slice A2 rl c2])) (hg3 : (w2.alloc (.cells #[.slice A2 rl c2] 32)).grownBy w3 (blk Ao)) (B1 : Nat) (hB1 : w.heap.size < B1) (hB1n : B1 ≤ Bn) :
    MakeSt w Bn L A1 N c1 (w3.setCell ⟨w.heap.size, 0, none⟩ (.slice A3 (no + 1) c3)) A3 (no + 1) c3 (vs ++ [.slice A2 rl c2]) (ps ++ [R]) ∧ KeepsOthers W (w3.setCell ⟨w.heap.size, 0, none⟩ (.slice A3 (no + 1) c3)) ∧ Kept2 0 B1 Bn W (w3.setCell ⟨w.heap.size, 0, none⟩ (.slice A3 (no + 1) c3)) := by
  subst hrl
  obtain ⟨hbox, hown, hlist, hit, hBn, hBW, hB⟩ := h
  have hz2 := hb2.size
  have hown1 : Own (w2.alloc (.cells #[.slice A2 R.length c2] 32)) (Bn + 1) 32 1 Ao no co vs := Own.alloc (Own.below hown hb2) _
  have hit1 := Own.alloc (Own.below hit hb2) (.cells #[.slice A2 R.length c2] 32)
  have hlist1 : ILists (w2.alloc (.cells #[.slice A2 R.length c2] 32)) (Bn + 1) vs ps := hlist.keep fun A n c p h => Own.alloc (Own.below h hb2) _
  have far : ∀ k, k ≤ Bn → some k ≠ blk Ao := fun k hk e => by have := (hown.lt _ e.symm).1; omega
  have hz3 : (w2.alloc (.cells #[.slice A2 R.length c2] 32)).heap.size = w2.heap.size + 1 := World.size_alloc ..
  have hz4 := hg3.size
  have hz5 : (w3.setCell ⟨w.heap.size, 0, none⟩ (.slice A3 (no + 1) c3)).heap.size = w3.heap.size := by simp [World.setCell]
  have hB3 : Below w.heap.size w w3 := hown1.grow ((hB.trans (hb2.mono (by omega))).alloc (by omega) _) (by omega) (by omega) hg3
  have hlt3 : ∀ A n c xs, Own w3 (Bn + 1) 59 7 A n c xs → Own (w3.setCell ⟨w.heap.size, 0, none⟩ (.slice A3 (no + 1) c3)) (Bn + 1) 59 7 A n c xs := fun A n c xs ho => ho.setCell (fun e => by have h1 := (ho.lt _ e).1; have h2 : Bn + 1 ≤ w.heap.size := h1; omega) _
  refine ⟨⟨?_, ?_, ?_, ?_, hBn, by omega, hB3.setCell (Nat.le_refl _) _⟩, ?_, ?_⟩
  · exact (((hbox.below hb2 (by omega)).alloc _).grown hg3 (far _ (by omega))).set _
  · exact ho3.setCell (fun e => by have h1 := (ho3.lt _ e).1; have h2 : Bn + 1 ≤ w.heap.size := h1; omega) _
  · have h1 : ILists w3 (Bn + 1) vs ps := hlist1.keep fun A n c xs ho => Own.grown ho hg3 (Own.type_ne' ho hown1 (by decide))
    have h2 := h1.snoc (p := R) (A := A2) (c := c2) (Own.grown (Own.alloc (Own.lower ho2 (by omega)) _) hg3 (Own.type_ne' (Own.alloc ho2 _) hown1 (by decide)))
    exact h2.keep hlt3
  · have h1 := Own.grown hit1 hg3 (Own.type_ne' hit1 hown1 (by decide))
    exact h1.setCell (fun e => by have h2 := (h1.lt _ e).1; have h3 : w.heap.size + 1 ≤ w.heap.size := h2; omega) _
  · exact ((⟨hz2, fun k o hk _ => (hb2.block k (Array.getElem?_eq_some_iff.1 hk).1).trans hk⟩ : KeepsOthers W w2).trans (KeepsOthers.alloc _ _)).trans ((KeepsOthers.of_grownBy hg3 (fun j o hj ho => hown1.cellsAt' j o hj ho)).trans (KeepsOthers.setCell _ _ _))
  · intro k hk
    have hkB : k ≤ Bn := by omega
    have hk1 : k ≠ w.heap.size := by omega
    rw [Below.heap_setCell _ _ _ _ hk1, hg3.block k (by omega) (far k hkB), Below.heap_alloc _ _ _ (by omega)]
    exact hb2.block k (by omega)

/-- a turn of the loop's own blocks -/
theorem MakeSt.turn {w : World} {Bn : Nat} {L : List It} {A1 : Option Addr} {N c1 : Nat} {W W' : World} {Ao : Option Addr} {no co : Nat} {vs : List Value} {ps : List (List It)} (h : MakeSt w Bn L A1 N c1 W Ao no co vs ps) {row : Option Nat} (hg : W.grownBy W' row)
    (hr : ∀ r, row = some r → Bn < r ∧ ∃ o, W.heap[r]? = some o ∧ o.isCells = false) : MakeSt w Bn L A1 N c1 W' Ao no co vs ps := by
  obtain ⟨hbox, hown, hlist, hit, hBn, hBW, hB⟩ := h
  have key : ∀ k, (∀ o, W.heap[k]? = some o → o.isCells = true) → some k ≠ row := fun k hk e => by
    obtain ⟨_, o, ho, hc⟩ := hr k e.symm
    rw [hk o ho] at hc
    cases hc
  have kbox : ∀ {k e v}, Box W k e v → some k ≠ row := fun {k e v} hb => key k fun o ho => by
    unfold Box at hb
    rw [hb] at ho
    injection ho with ho
    subst ho
    rfl
  have kown : ∀ {b e sz A n c xs}, Own W b e sz A n c xs → blk A = none ∨ blk A ≠ row := fun {b e sz A n c xs} ho => by
    cases hA : blk A with
    | none => exact .inl rfl
    | some k => exact .inr (key k fun o h => ho.cellsAt' k o hA h)
  have hz := hg.size
  refine ⟨hbox.grown hg (kbox hbox), Own.grown hown hg (kown hown), hlist.keep fun A n c p h => Own.grown h hg (kown h), Own.grown hit hg (kown hit), hBn, by omega, ?_⟩
  have hw := hB.size
  refine ⟨hg.os.trans hB.os, hg.tape.trans hB.tape, hg.output.trans hB.output, by omega, fun k hk => ?_⟩
  exact (hg.block k (by omega) (fun e => by have := (hr k e.symm).1; omega)).trans (hB.block k hk)
end Go.Proofs.Ytflppcgonbjnmaa
namespace Go.Proofs.Ytflppcgonbjnmaa
open Go.RowKit Go.Shelf
attribute [local go_sem ↓] Go.wp_at_zero Go.wp_at_succ
attribute [local go_sem] Oper.semAt_some

theorem cut_length (L : List It) (x : Cut L.length) : (cut L x).length = x.1.2 - x.1.1 := by
  have h1 := x.2.1
  have h2 := x.2.2
  unfold cut
  rw [List.length_take, List.length_drop]
  omega
theorem Rd.its_drop {W : World} {B : Nat} {A : Option Addr} {L : List It} (h : Rd W B A (its L)) (i : Nat) : Rd W B (A.map (·.add (i * 7))) (its (L.drop i)) := by
  have h1 := h.drop (i * 7)
  have e : (its L).drop (i * 7) = its (L.drop i) := by
    by_cases hi : i ≤ L.length
    · have e1 : its L = its (L.take i) ++ its (L.drop i) := by
        show L.flatMap It.vals = _
        rw [← List.flatMap_append, List.take_append_drop]
      have e2 : (its (L.take i)).length = i * 7 := by rw [its_len, List.length_take, Nat.min_eq_left hi]
      rw [e1, ← e2, List.drop_left]
    · rw [List.drop_of_length_le (by rw [its_len]; omega), List.drop_of_length_le (by omega)]
      rfl
  rwa [e] at h1
theorem Rd.its_take {W : World} {B : Nat} {A : Option Addr} {L : List It} (h : Rd W B A (its L)) (i : Nat) : Rd W B A (its (L.take i)) := by
  have h1 := h.take (i * 7)
  have e : (its L).take (i * 7) = its (L.take i) := by
    by_cases hi : i ≤ L.length
    · have e1 : its L = its (L.take i) ++ its (L.drop i) := by
        show L.flatMap It.vals = _
        rw [← List.flatMap_append, List.take_append_drop]
      have e2 : (its (L.take i)).length = i * 7 := by rw [its_len, List.length_take, Nat.min_eq_left hi]
      rw [e1, ← e2, List.take_left]
    · rw [List.take_of_length_le (by rw [its_len]; omega), List.take_of_length_le (by omega)]
  rwa [e] at h1
theorem cutVal_form {W : World} {B : Nat} {A : Option Addr} {L : List It} (h : Rd W B A (its L)) (x : Cut L.length) :
    ∃ (A3 : Option Addr) (rl c3 : Nat), cutVal A L.length x = .slice A3 rl c3 ∧ (cut L x).length = rl ∧ rl ≤ L.length ∧ Rd W B A3 (its (cut L x)) :=
  ⟨_, _, _, rfl, cut_length L x, by have := x.2.2; omega, (h.its_drop x.1.1).its_take (x.1.2 - x.1.1)⟩

set_option maxRecDepth 100000 in
set_option maxHeartbeats 4000000 in
theorem make_ok (A : Option Addr) (c : Nat) (l : List Cl) (m : Nat) (w : World) (hl : Rd w w.heap.size A (vals l)) (hlen : l.length ≤ 100000) (hm : 1 ≤ m) (hm2 : m ≤ 9223372036854775807) :
    Calls Try.prog 25 #[.slice A l.length c, .int .i64 m] w fun e w' => ∃ (A' : Option Addr) (n' c' : Nat) (vs : List Value), e = .returned (.tuple #[.slice A' n' c', .int .i64 0]) ∧
      Own w' w.heap.size 32 1 A' n' c' vs ∧ ILists w' w.heap.size vs ((chunks m (items l)).map resolve) ∧ Below w.heap.size w w' := by
  obtain ⟨i0, hi0, hz0, hz1, hz2⟩ := info_parts itemsInfo
  have hit := fun (W : World) (h : Rd W W.heap.size A (vals l)) => items_any A c l W h (by omega)
  obtain ⟨L, hL⟩ : ∃ L, items l = L := ⟨_, rfl⟩
  have hLN : l.length = L.length := by rw [← hL, items_length]
  rw [hL] at hit ⊢
  rw [hLN] at hit hlen ⊢
  have hl0 := (hl.alloc (Nat.le_refl _) (.cells #[.slice none 0 0] 30)).more (show w.heap.size ≤ (w.alloc (.cells #[.slice none 0 0] 30)).heap.size by rw [World.size_alloc]; omega)
  clear hL hLN
  refine (callsIn_wide (n := 9)).1 ?_
  refine callsIn_of_wp_marks Try.func25 rfl trivial ?_ rfl
  simp only [Try.ntmps25, List.size_toArray, List.length_cons, List.length_nil, Nat.reduceAdd, Nat.reduceSub, Array.replicate_succ, Array.replicate_zero, List.push_toArray, List.append_toArray, List.nil_append, List.cons_append]
  have hmd : decide ((m : Int) < 1) = false := decide_eq_false (by omega)
  have hmd2 : ¬ m = 0 := by omega
  gi_wp2_with (first
    | (refine ⟨trivial, ?_⟩; gi_at_call 40; refine (callsIn_wide.2 (hit _ hl0)).mono ?_; rintro e w1 ⟨A1, c1, rfl, ho1, hb1⟩)
    | (refine ⟨trivial, ?_⟩; gi_at_call 39; refine (callsIn_wide.2 (chunk_any A1 L.length c1 m _ hm)).mono ?_; rintro e w2 ⟨rfl, rfl⟩))
  have hz1' : w.heap.size + 1 ≤ w1.heap.size := by have := hb1.size; rw [World.size_alloc] at this; exact this
  have hB0 : Below w.heap.size w w1 := ((Below.refl _ _).alloc (Nat.le_refl _) _).trans (hb1.mono (by simp))
  have hx0 : Box w1 w.heap.size 30 (.slice none 0 0) := (Box.new w _ _).below hb1 (by simp)
  have hio : Own w1 (w.heap.size + 1) 59 7 A1 L.length c1 (its L) := ho1.lower (by rw [World.size_alloc]; exact Nat.le_refl _)
  have hcapL : L.length ≤ c1 := by
    rcases hio.2 with ⟨hv, hn⟩ | ⟨_, _, _, hv, _, _, h3, _⟩
    · omega
    · injection hv with _ _ hc
      omega
  have hbxa := (Box.new w1 32 (.slice A1 L.length c1)).alloc (.cells #[.int .i64 m] 3)
  have hbxb := Box.new (w1.alloc (.cells #[.slice A1 L.length c1] 32)) 3 (.int .i64 m)
  rw [World.size_alloc] at hbxb
  clear hit ho1
  refine wpIn_rangeFunc_ownG (F := Fence.wide) (n := 9) rfl (by omega) (gf := 51) (lb := #[.pointer (some ⟨w1.heap.size, 0, none⟩), .pointer (some ⟨w1.heap.size + 1, 0, none⟩)]) rfl trivial (enters_of Try.func51 (by kernel_rfl) rfl)
    (chunk_stops 8 (by omega) w1.heap.size (w1.heap.size + 1) 0 A1 c1 m L (by omega) hcapL hm hm2 _ hbxa hbxb) Kept2.trans (Kept2.put (Nat.zero_le _) hbxa.lt hbxb.lt) (Below.refl _ _) (fun _ => rfl)
    (fun pre W => ∃ (Ao : Option Addr) (no co : Nat) (vs : List Value) (ps : List (List It)), MakeSt w (w1.heap.size + 1) L A1 L.length c1 W Ao no co vs ps ∧ no ≤ pre.length ∧ ps = (pre.map (cut L)).map resolve) (fun _ _ _ => False) ?hI (fun _ _ _ _ _ hs _ _ => hs) ?h0
    (fun x => { tmps := #[.slice A L.length c, .int .i64 m, undef, undef,
          .pointer (some { block := w.heap.size, off := 0 }), .int .i64 0, cutVal A1 L.length x,
          .int .i64 m, .bool false, .slice A L.length c, .slice A1 L.length c1,
          .int .i64 m,
          .func (Fn.func 51) #[] #[.pointer (some { block := w1.heap.size, off := 0 }), .pointer (some { block := w1.heap.size + 1, off := 0 })],
          cutVal A1 L.length x, undef, undef, undef, undef, undef, undef], defers := [] }) ?assign ?body ?done ?stop
  case hI =>
    rintro pre W W' row ⟨Ao, no, co, vs, ps, hst, hr⟩ hg hrow
    exact ⟨Ao, no, co, vs, ps, hst.turn hg (fun r e => ⟨by have := (hrow r e).1; rw [World.size_alloc, World.size_alloc] at this; omega, (hrow r e).2⟩), hr⟩
  case h0 =>
    refine ⟨none, 0, 0, [], [], ⟨(hx0.alloc _).alloc _, Own.nil, ILists.nil, Own.alloc (Own.alloc hio _) _, by omega, by rw [World.size_alloc, World.size_alloc]; omega, (hB0.alloc (by omega) _).alloc (by rw [World.size_alloc]; omega) _⟩, Nat.le_refl _, rfl⟩
  case assign =>
    intro r x W K hK
    gi_wp2
    exact hK
  case body =>
    rintro r pre x W ⟨Ao, no, co, vs, ps, hst, hno1, hps⟩ hlt
    have HSt := Lib.hid hst
    have HPS := Lib.hid hps
    obtain ⟨hbox, hown, hlist, hitm, hBn, hBW, hB⟩ := hst
    have hc := hbox.cell
    have hwW : w.heap.size < W.heap.size := hbox.lt
    have hbo := hbox.free
    obtain ⟨A3, rl, c3, hpv, hrl, hrl2, hrd⟩ := cutVal_form (Own.rd hitm (by omega)) x
    simp only [hpv]
    have hvl := Own.vals_len' hown
    have hres := fun (W0 : World) (h : Rd W0 W0.heap.size A3 (its (cut L x))) => resolve_any A3 c3 (cut L x) W0 h (by omega)
    rw [hrl] at hres
    obtain ⟨R, hR⟩ : ∃ R, resolve (cut L x) = R := ⟨_, rfl⟩
    have hRl : R.length ≤ 100000 := by have := resolve_len (cut L x); rw [hR] at this; omega
    rw [hR] at hres
    obtain ⟨k, hk⟩ : ∃ k, R.length = k := ⟨_, rfl⟩
    have HK := Lib.hid hk
    have HR := Lib.hid hR
    rw [hk] at hres hRl
    have HC : W.drew.cell? ⟨w.heap.size, 0, none⟩ = some (.slice Ao no co) := hc
    have hnb : no ≤ 100000 := by omega
    clear hl hl0 hbxa hbxb hps hpv hk hR hlist hitm
    gi_wp2
    refine region_wz_round (fun W' => W'.cell? ⟨w.heap.size, 0, none⟩ = some (.slice Ao no co)) (some 5) (by kernel_rfl) (by kernel_rfl) ?_
    apply WZ.take (i := 0) (some 14) rfl rfl (by kernel_rfl) (by kernel_rfl) (by kernel_rfl) (calm_panic _) (by kernel_rfl)
    case hy => (refine .inl ⟨by kernel_rfl, fun W hC => ?_⟩; (try dsimp only at hC); go_simp; rfl)
    case hC => exact HC
    case ha => (simp only [Act.put, List.setIfInBounds_toArray, List.set_cons_zero, List.set_cons_succ]; rfl)
    apply WZ.take (i := 1) (some 15) rfl rfl (by kernel_rfl) (by kernel_rfl) (by kernel_rfl) (calm_panic _) (by kernel_rfl)
    case hy => (refine .inl ⟨by kernel_rfl, fun W hC => ?_⟩; (try dsimp only at hC); go_simp; rfl)
    case hC => exact HC
    case ha => (simp only [Act.put, List.setIfInBounds_toArray, List.set_cons_zero, List.set_cons_succ]; rfl)
    -- 2
    refine WZ.one (i := 2) rfl (by kernel_rfl) ?_
    conv => arg 4; arg 1; whnf
    go_wp2_with (go_at_call 41; refine (hres _ hrd.drew).mono ?_; rintro e w2 ⟨A2, c2, rfl, ho2, hb2⟩)
    have HC := (hb2.cell (p := ⟨w.heap.size, 0, none⟩) hwW).trans HC
    refine ⟨HC, ?_⟩
    -- 3
    refine WZ.one (i := 3) rfl (by kernel_rfl) ?_
    conv => arg 4; arg 1; whnf
    go_wp2_with (fail)
    have HC := (World.cell?_alloc_lt w2 (.cells #[.slice A2 k c2] 32) ⟨w.heap.size, 0, none⟩ (Nat.lt_of_lt_of_le hwW hb2.size)).trans HC
    refine ⟨HC, ?_⟩
    -- 4
    refine WZ.one (i := 4) rfl (by kernel_rfl) ?_
    conv => arg 4; arg 1; whnf
    have hown2 := Own.alloc (Own.below hown.drew hb2) (.cells #[.slice A2 k c2] 32)
    go_wp2_with (at_builtin; go_loud (refine wpList_app _ rfl _ _ _ rfl (w1.heap.size + 1 + 1) 32 i0 (.slice none 0 0) 1 24 Try.underlying30 hi0 hz0 hz1 hz2 rfl (by decide) Ao no co vs rfl hown2 (w2.heap.size + 1) (some ⟨w2.heap.size, 0, none⟩) 1 1 [.slice A2 k c2] rfl (Rd.new1 _ _ _) rfl (by simp [Value.oneCell']) (by unfold maxLen; omega) (by omega) (by rw [World.size_alloc]; exact Nat.le_succ_of_le (Nat.le_trans hBW hb2.size)) ?_); intro A5 c5 w3 ho3 hg3 hat3)
    have hne2 : some w.heap.size ≠ blk Ao := fun e => by have := (hown2.lt _ e.symm).1; omega
    have hbo3 : w.heap.size < (w2.alloc (.cells #[.slice A2 k c2] 32)).heap.size := by rw [World.size_alloc]; exact Nat.lt_succ_of_lt (Nat.lt_of_lt_of_le hwW hb2.size)
    have hf3 : w3.frozen? ⟨w.heap.size, 0, none⟩ = false := (hg3.frozen_far ⟨w.heap.size, 0, none⟩ hbo3 hne2).trans ((World.frozen?_of_block (a := ⟨w.heap.size, 0, none⟩) (Below.heap_alloc w2 _ _ (Nat.lt_of_lt_of_le hwW hb2.size))).trans ((hb2.frozen (p := ⟨w.heap.size, 0, none⟩) hwW).trans hbo))
    have HC := (hg3.cell_far ⟨w.heap.size, 0, none⟩ hbo3 hne2).trans HC
    refine ⟨HC, ?_⟩
    -- 5
    refine WZ.last (i := 5) rfl (by kernel_rfl) (by kernel_rfl) ?_
    conv => arg 4; arg 1; whnf
    go_wp2_with (fail)
    refine WZ.done (by kernel_rfl) ?_ _
    simp only [Calm, Exit.then]
    have HF := Lib.hid (HSt.out.new (R := R) (w2 := w2) (w3 := w3) HK.out ho2 (below_of_drew' hb2) ho3 hg3 w1.heap.size (by omega) (by omega))
    gi_wp2
    refine ⟨HF.out.2.1.from _, HF.out.2.2, _, _, _, _, _, HF.out.1, by rw [List.length_append]; exact Nat.succ_le_succ hno1, ?_⟩
    rw [List.map_append, List.map_append, ← HPS.out, ← HR.out]
    rfl
  case done =>
    rintro D xs W hD hS ⟨Ao, no, co, vs, ps, hst, hno1, hps⟩ hK
    have hbox := hst.box
    have hboW : w.heap.size < W.heap.size := hbox.lt
    have hbo := hbox.free
    have hc := hbox.cell
    clear hl hl0 hbxa hbxb
    have hD1 : w1.heap.size + 2 ≤ D := by rw [World.size_alloc, World.size_alloc] at hD; exact hD
    have HPS := Lib.hid hps
    have HSt := Lib.hid hst
    clear hps hst
    have hK4 : (W.setCell ⟨w.heap.size, 0, none⟩ (.slice Ao no co)).heap[D]? = some (.deferred (some [])) := (Below.heap_setCell _ _ _ _ (by show D ≠ w.heap.size; omega)).trans hK
    obtain ⟨hbox, hown, hlist, hitm, hBn, hBW, hB⟩ := HSt.out
    have h4 : MakeSt w (w1.heap.size + 1) L A1 L.length c1 (W.setCell ⟨w.heap.size, 0, none⟩ (.slice Ao no co)) Ao no co vs ps :=
      ⟨hbox.set _, hown.setCell (fun e => by have h1 := (hown.lt _ e).1; have h2 : w1.heap.size + 1 + 1 ≤ w.heap.size := h1; omega) _,
        ⟨hlist.1, fun i hi hi' => by
          obtain ⟨A, c, e, ho⟩ := hlist.2 i hi hi'
          exact ⟨A, c, e, ho.setCell (fun e => by have h1 := (ho.lt _ e).1; have h2 : w1.heap.size + 1 + 1 ≤ w.heap.size := h1; omega) _⟩⟩,
        hitm.setCell (fun e => by have h1 := (hitm.lt _ e).1; have h2 : w.heap.size + 1 ≤ w.heap.size := h1; omega) _, hBn, by simp [World.setCell]; omega, hB.setCell (Nat.le_refl _) _⟩
    have h5 := h4.turn (grownBy_putObj' _ D (.deferred none)) (fun r e => by injection e with e; subst e; exact ⟨by omega, _, hK4, rfl⟩)
    have HT := Lib.hid hK4
    clear hK hK4 hlist hitm hown
    gi_wp2
    refine ⟨by simp, .inl ⟨_, _, rfl, run_takeDeferred HT.out, ?_⟩⟩
    have hbx5 := h5.box.cell
    refine ⟨_, by rw [results_cell_tmp rfl]; go_simp; rfl, ?_⟩
    refine ⟨Ao, no, co, vs, rfl, h5.own.lower (by omega), ?_, h5.below⟩
    have hr5 : (chunks m L).map resolve = ps := by rw [HPS.out, hS]
    rw [hr5]
    exact h5.lists.lower (by omega)
  case stop =>
    rintro D c pre W _ _ h _
    exact h.elim
end Go.Proofs.Ytflppcgonbjnmaa
