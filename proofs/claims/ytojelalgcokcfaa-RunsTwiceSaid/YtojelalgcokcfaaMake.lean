/-
  The walk of runs.Make.
-/
import Derived.Test.YtojelalgcokcfaaChunk
namespace Go.Proofs.Ytojelalgcokcfaa
open Go.RowKit Go.Shelf
attribute [local go_sem ↓] Go.wp_at_zero Go.wp_at_succ
attribute [local go_sem] Oper.semAt_some

theorem chunk_any (A : Option Addr) (n c m : Nat) (w : World) (hm : 1 ≤ m) :
    Calls Try.prog 23 #[.slice A n c, .int .i64 m] w fun e w' => e = .returned (.func (.func 31) #[] #[.pointer (some ⟨w.heap.size, 0, none⟩), .pointer (some ⟨w.heap.size + 1, 0, none⟩)]) ∧
      (w.alloc (.cells #[.slice A n c] 35)).alloc (.cells #[.int .i64 m] 3) = w' := by
  go_enter Try.func23, Try.ntmps23
  have hmd : decide ((m : Int) < 1) = false := decide_eq_false (by omega)
  have hmd2 : ¬ m = 0 := by omega
  have hmd3 : ¬ (m : Int) < 1 := by omega
  go_wp2
  go_ret
  exact ⟨rfl, rfl⟩

theorem chunk_stops (n : Nat) (hn : 1 ≤ n) (B1 B2 n0 : Nat) (A : Option Addr) (c m : Nat) (l : List It) (hlen : l.length ≤ 1000000) (hcap : l.length ≤ c) (hm : 1 ≤ m) (hm2 : m ≤ 9223372036854775807) (w : World) (hB1 : Box w B1 35 (.slice A l.length c)) (hB2 : Box w B2 3 (.int .i64 m)) :
    SeqStopsK Fence.wide n Try.prog 31 #[.pointer (some ⟨B1, 0, none⟩), .pointer (some ⟨B2, 0, none⟩)] (fun x : Cut l.length => #[cutVal A l.length x]) (Kept2 n0 B1 B2) (fun ys => ys.map (cut l) = chunks m l) (fun _ => True) l.length w := fun r J Jx W hW hJ _ hY h0 =>
  chunk1_in n hn r B1 B2 n0 A c m l hlen hcap hm hm2 J Jx hY (fun pre W k h => hJ pre W _ none h ⟨rfl, rfl, rfl, Nat.le_refl _, fun _ _ _ => rfl⟩ (fun r e => by cases e)) W (hB1.below hW hB1.lt) (hB2.below hW hB2.lt) h0
theorem Kept2.trans {n0 B1 B2 : Nat} {A B C : World} (h : Kept2 n0 B1 B2 A B) (k : Kept2 n0 B1 B2 B C) : Kept2 n0 B1 B2 A C := fun i hi => (k i hi).trans (h i hi)
theorem Kept2.put {n0 B1 B2 : Nat} {w : World} (hn : n0 ≤ w.heap.size) (hb1 : B1 < w.heap.size) (hb2 : B2 < w.heap.size) (W : World) (r : Nat) (o o' : Obj) (hr : w.heap.size ≤ r) (h : W.heap[r]? = some o) (_ : o.isCells = false) (_ : o.isWalk = false) : Kept2 n0 B1 B2 W (W.putObj r o') := fun k hk =>
  (grownBy_putObj' W r o').block k (by have := (Array.getElem?_eq_some_iff.1 h).1; omega) (fun e => by injection e; omega)

/-- slices that own rows, each with its list of items -/
def ILists (w : World) (base : Nat) (vs : List Value) (ps : List (List It)) : Prop :=
  vs.length = ps.length ∧ ∀ i (h : i < vs.length) (h' : i < ps.length), ∃ (A : Option Addr) (c : Nat), vs[i] = .slice A ps[i].length c ∧ Own w base 48 7 A ps[i].length c (its ps[i])
section
variable {w w' : World} {base base' : Nat} {vs : List Value} {ps : List (List It)}
theorem ILists.nil : ILists w base [] [] := ⟨rfl, fun i h => absurd h (by simp)⟩
theorem ILists.keep (h : ILists w base vs ps) (hk : ∀ A n c xs, Own w base 48 7 A n c xs → Own w' base 48 7 A n c xs) : ILists w' base vs ps :=
  ⟨h.1, fun i hi hi' => by
    obtain ⟨A, c, e, ho⟩ := h.2 i hi hi'
    exact ⟨A, c, e, hk _ _ _ _ ho⟩⟩
theorem ILists.lower (h : ILists w base vs ps) (hb : base' ≤ base) : ILists w base' vs ps := ⟨h.1, fun i hi hi' => by
  obtain ⟨A, c, e, ho⟩ := h.2 i hi hi'
  exact ⟨A, c, e, ho.lower hb⟩⟩
theorem ILists.snoc (h : ILists w base vs ps) {A : Option Addr} {c : Nat} {p : List It} (ho : Own w base 48 7 A p.length c (its p)) : ILists w base (vs ++ [.slice A p.length c]) (ps ++ [p]) :=
  ⟨by simp [h.1], fun i hi hi' => by
    by_cases e : i < vs.length
    · obtain ⟨A', c', e', ho'⟩ := h.2 i e (by rw [← h.1]; exact e)
      exact ⟨A', c', by rw [List.getElem_append_left e, e', List.getElem_append_left (by rw [← h.1]; exact e)], by rw [List.getElem_append_left (by rw [← h.1]; exact e)]; exact ho'⟩
    · have hi0 : i = vs.length := by simp at hi; omega
      subst hi0
      refine ⟨A, c, ?_, ?_⟩
      · rw [List.getElem_append_right (Nat.le_refl _), List.getElem_append_right (by rw [h.1]; exact Nat.le_refl _)]
        simp [h.1]
      · rw [List.getElem_append_right (by rw [h.1]; exact Nat.le_refl _)]
        simp [h.1]
        exact ho⟩
end
theorem Own.type_ne' {w : World} {A A' : Option Addr} {base base' e e' size size' n n' c c' : Nat} {xs xs' : List Value} (h : Own w base e size A n c xs) (h' : Own w base' e' size' A' n' c' xs') (hne : e ≠ e') : blk A = none ∨ blk A ≠ blk A' := by
  rcases h.2 with ⟨hv, _⟩ | ⟨g, cap, cur, hv, _, hg, _⟩
  · injection hv with hA
    subst hA
    exact .inl rfl
  · injection hv with hA
    subst hA
    rcases h'.2 with ⟨hv', _⟩ | ⟨g', cap', cur', hv', _, hg', _⟩
    · injection hv' with hA'
      subst hA'
      exact .inr (by simp [blk])
    · injection hv' with hA'
      subst hA'
      refine .inr fun e2 => ?_
      have : g = g' := by simpa [blk] using e2
      subst this
      rw [hg] at hg'
      injection hg' with hg'
      injection hg' with _ h2
      exact hne h2

theorem Own.cellsAt' {w : World} {base e size n c : Nat} {A : Option Addr} {xs : List Value} (h : Own w base e size A n c xs) (j : Nat) (o : Obj) (hA : blk A = some j) (ho : w.heap[j]? = some o) : o.isCells = true := by
  rcases h.2 with ⟨hv, _⟩ | ⟨g, cap, cur, hv, _, hg, _⟩
  · injection hv with e1
    subst e1
    cases hA
  · injection hv with e1
    subst e1
    have : g = j := by injection hA
    subst this
    rw [hg] at ho
    injection ho with ho
    subst ho
    rfl
theorem Own.vals_len' {w : World} {base e n c : Nat} {A : Option Addr} {xs : List Value} (h : Own w base e 1 A n c xs) : xs.length = n := by have := h.1; omega

/-- between two rounds: what is put out, and the items at hand -/
structure MakeSt (w : World) (Bn : Nat) (L : List It) (A1 : Option Addr) (N c1 : Nat) (W : World) (Ao : Option Addr) (no co : Nat) (vs : List Value) (ps : List (List It)) : Prop where
  box : Box W w.heap.size 25 (.slice Ao no co)
  own : Own W (Bn + 1) 35 1 Ao no co vs
  lists : ILists W (Bn + 1) vs ps
  items : Own W (w.heap.size + 1) 48 7 A1 N c1 (its L)
  hBn : w.heap.size + 1 ≤ Bn
  hBW : Bn < W.heap.size
  below : Below w.heap.size w W

theorem MakeSt.new {w : World} {Bn : Nat} {L : List It} {A1 : Option Addr} {N c1 : Nat} {W : World} {Ao : Option Addr} {no co : Nat} {vs : List Value} {ps : List (List It)} (h : MakeSt w Bn L A1 N c1 W Ao no co vs ps) {R : List It} {w2 w3 : World} {A2 A3 : Option Addr} {rl c2 c3 : Nat} (hrl : R.length = rl)
    (ho2 : Own w2 W.heap.size 48 7 A2 rl c2 (its R)) (hb2 : Below W.heap.size W w2) (ho3 : Own w3 (Bn + 1) 35 1 A3 (no + 1) c3 (vs ++ [.slice A2 rl c2])) (hg3 : (w2.alloc (.cells #[.slice A2 rl c2] 35)).grownBy w3 (blk Ao)) (B1 : Nat) (hB1 : w.heap.size < B1) (hB1n : B1 ≤ Bn) :
    MakeSt w Bn L A1 N c1 (w3.setCell ⟨w.heap.size, 0, none⟩ (.slice A3 (no + 1) c3)) A3 (no + 1) c3 (vs ++ [.slice A2 rl c2]) (ps ++ [R]) ∧ KeepsOthers W (w3.setCell ⟨w.heap.size, 0, none⟩ (.slice A3 (no + 1) c3)) ∧ Kept2 0 B1 Bn W (w3.setCell ⟨w.heap.size, 0, none⟩ (.slice A3 (no + 1) c3)) := by
  subst hrl
  obtain ⟨hbox, hown, hlist, hit, hBn, hBW, hB⟩ := h
  have hz2 := hb2.size
  have hown1 : Own (w2.alloc (.cells #[.slice A2 R.length c2] 35)) (Bn + 1) 35 1 Ao no co vs := Own.alloc (Own.below hown hb2) _
  have hit1 := Own.alloc (Own.below hit hb2) (.cells #[.slice A2 R.length c2] 35)
  have hlist1 : ILists (w2.alloc (.cells #[.slice A2 R.length c2] 35)) (Bn + 1) vs ps := hlist.keep fun A n c p h => Own.alloc (Own.below h hb2) _
  have far : ∀ k, k ≤ Bn → some k ≠ blk Ao := fun k hk e => by have := (hown.lt _ e.symm).1; omega
  have hz3 : (w2.alloc (.cells #[.slice A2 R.length c2] 35)).heap.size = w2.heap.size + 1 := World.size_alloc ..
  have hz4 := hg3.size
  have hz5 : (w3.setCell ⟨w.heap.size, 0, none⟩ (.slice A3 (no + 1) c3)).heap.size = w3.heap.size := by simp [World.setCell]
  have hB3 : Below w.heap.size w w3 := hown1.grow ((hB.trans (hb2.mono (by omega))).alloc (by omega) _) (by omega) (by omega) hg3
  have hlt3 : ∀ A n c xs, Own w3 (Bn + 1) 48 7 A n c xs → Own (w3.setCell ⟨w.heap.size, 0, none⟩ (.slice A3 (no + 1) c3)) (Bn + 1) 48 7 A n c xs := fun A n c xs ho => ho.setCell (fun e => by have h1 := (ho.lt _ e).1; have h2 : Bn + 1 ≤ w.heap.size := h1; omega) _
  refine ⟨⟨?_, ?_, ?_, ?_, hBn, by omega, hB3.setCell (Nat.le_refl _) _⟩, ?_, ?_⟩
  · exact (((hbox.below hb2 (by omega)).alloc _).grown hg3 (far _ (by omega))).set _
  · exact ho3.setCell (fun e => by have h1 := (ho3.lt _ e).1; have h2 : Bn + 1 ≤ w.heap.size := h1; omega) _
  · have h1 : ILists w3 (Bn + 1) vs ps := hlist1.keep fun A n c xs ho => Own.grown ho hg3 (Own.type_ne' ho hown1 (by decide))
    have h2 := h1.snoc (p := R) (A := A2) (c := c2) (Own.grown (Own.alloc (Own.lower ho2 (by omega)) _) hg3 (Own.type_ne' (Own.alloc ho2 _) hown1 (by decide)))
    exact h2.keep hlt3
  · have h1 := Own.grown hit1 hg3 (Own.type_ne' hit1 hown1 (by decide))
    exact h1.setCell (fun e => by have h2 := (h1.lt _ e).1; have h3 : w.heap.size + 1 ≤ w.heap.size := h2; omega) _
  · exact ((⟨hz2, fun k o hk _ => (hb2.block k (Array.getElem?_eq_some_iff.1 hk).1).trans hk⟩ : KeepsOthers W w2).trans (KeepsOthers.alloc _ _)).trans ((KeepsOthers.of_grownBy hg3 (fun j o hj ho => hown1.cellsAt' j o hj ho)).trans (KeepsOthers.setCell _ _ _))
  · intro k hk
    have hkB : k ≤ Bn := by omega
    have hk1 : k ≠ w.heap.size := by omega
    rw [Below.heap_setCell _ _ _ _ hk1, hg3.block k (by omega) (far k hkB), Below.heap_alloc _ _ _ (by omega)]
    exact hb2.block k (by omega)

/-- a turn of the loop's own blocks -/
theorem MakeSt.turn {w : World} {Bn : Nat} {L : List It} {A1 : Option Addr} {N c1 : Nat} {W W' : World} {Ao : Option Addr} {no co : Nat} {vs : List Value} {ps : List (List It)} (h : MakeSt w Bn L A1 N c1 W Ao no co vs ps) {row : Option Nat} (hg : W.grownBy W' row)
    (hr : ∀ r, row = some r → Bn < r ∧ ∃ o, W.heap[r]? = some o ∧ o.isCells = false) : MakeSt w Bn L A1 N c1 W' Ao no co vs ps := by
  obtain ⟨hbox, hown, hlist, hit, hBn, hBW, hB⟩ := h
  have key : ∀ k, (∀ o, W.heap[k]? = some o → o.isCells = true) → some k ≠ row := fun k hk e => by
    obtain ⟨_, o, ho, hc⟩ := hr k e.symm
    rw [hk o ho] at hc
    cases hc
  have kbox : ∀ {k e v}, Box W k e v → some k ≠ row := fun {k e v} hb => key k fun o ho => by
    unfold Box at hb
    rw [hb] at ho
    injection ho with ho
    subst ho
    rfl
  have kown : ∀ {b e sz A n c xs}, Own W b e sz A n c xs → blk A = none ∨ blk A ≠ row := fun {b e sz A n c xs} ho => by
    cases hA : blk A with
    | none => exact .inl rfl
    | some k => exact .inr (key k fun o h => ho.cellsAt' k o hA h)
  have hz := hg.size
  refine ⟨hbox.grown hg (kbox hbox), Own.grown hown hg (kown hown), hlist.keep fun A n c p h => Own.grown h hg (kown h), Own.grown hit hg (kown hit), hBn, by omega, ?_⟩
  have hw := hB.size
  refine ⟨hg.os.trans hB.os, hg.tape.trans hB.tape, hg.output.trans hB.output, by omega, fun k hk => ?_⟩
  exact (hg.block k (by omega) (fun e => by have := (hr k e.symm).1; omega)).trans (hB.block k hk)
end Go.Proofs.Ytojelalgcokcfaa
