/-
  What holds between two rounds of the document's own Roll. Of memory and of lists alone, no walk.
-/
import Derived.Test.YteacjikkojglmaaAllInv
namespace Go.Proofs.Yteacjikkojglmaa
open Go.RowKit Go.Shelf

theorem Lists.drewN {w : World} {base : Nat} {vs : List Value} {ps : List (List Cl)} (h : Lists w base vs ps) (n : Nat) : Lists (w.drewN n) base vs ps := h
def tl (now : List Cl) : List (List Cl) := if now = [] then [] else [now]
theorem tl_nil : tl [] = [] := rfl
theorem tl_some {now : List Cl} (h : now ≠ []) : tl now = [now] := if_neg h

def RefRoll (w : World) (l : List Cl) (most : Nat) (t : List Cl) (At : Option Addr) (tc : Nat) (Ao : Option Addr) (no co : Nat) (vs : List Value) (ps : List (List Cl)) (An : Option Addr) (cn : Nat) (now : List Cl) (N : Nat) (wr : World) : Prop :=
  Rd wr w.heap.size At (vals t) ∧ t.length ≤ tc ∧ Own wr w.heap.size 22 1 Ao no co vs ∧ Lists wr w.heap.size vs ps ∧ (∀ i (hi : i < vs.length) k, vs[i].ownBlock = some k → k < N) ∧
    OwnC wr N An cn now ∧ w.heap.size ≤ N ∧ N ≤ wr.heap.size ∧ no + now.length + t.length ≤ l.length ∧ (rowsOf t).foldl (rollStep most) (ps ++ tl now) = roll l most ∧ Below w.heap.size w wr

/-- how long the first row is -/
def Group (t : List Cl) (n : Nat) : Prop := 1 ≤ n ∧ n ≤ t.length ∧ (∀ j (hj : j < t.length) (h0 : 0 < t.length), j < n → t[j].row = t[0].row)
theorem Group.rows {t : List Cl} {n : Nat} (h : Group t n) (hn : ∀ (hj : n < t.length) (h0 : 0 < t.length), t[n].row ≠ t[0].row) : rowsOf t = t.take n :: rowsOf (t.drop n) := by
  obtain ⟨h1, h2, h3⟩ := h
  have h0 : 0 < t.length := by omega
  obtain ⟨m, rfl⟩ : ∃ m, n = m + 1 := ⟨n - 1, by omega⟩
  cases t with
  | nil => simp at h0
  | cons c t =>
    have e : c :: t = c :: t.take m ++ t.drop m := by simp
    have hg := rowsOf_group (t.take m) c (t.drop m) (fun d hd => by
      obtain ⟨j, hj, rfl⟩ := List.mem_iff_getElem.1 hd
      rw [List.length_take] at hj
      rw [List.getElem_take]
      exact h3 (j + 1) (by simp; omega) h0 (by omega)) (fun d r e => by
      have hlt : m < t.length := by
        rcases Nat.lt_or_ge m t.length with h | h
        · exact h
        · rw [List.drop_eq_nil_of_le h] at e; cases e
      rw [List.drop_eq_getElem_cons hlt] at e
      injection e with e1 e2
      rw [← e1]
      exact hn (by simpa using hlt) h0)
    rw [← e] at hg
    simpa using hg

theorem rollStep_tl_fits {most : Nat} {ps : List (List Cl)} {now r : List Cl} (hr : r ≠ []) (h1 : now ≠ [] → now.length + r.length ≤ most) (h2 : now = [] → ∀ q, ps.getLast? = some q → ¬ q.length + r.length ≤ most) :
    rollStep most (ps ++ tl now) r = ps ++ tl (now ++ r) := by
  rw [tl_some (now := now ++ r) (by simp [hr])]
  by_cases hn : now = []
  · subst hn
    rw [tl_nil, List.append_nil, List.nil_append]
    exact rollStep_new (h2 rfl)
  · rw [tl_some hn]
    unfold rollStep
    rw [List.getLast?_append]
    simp [h1 hn]

theorem RefRoll.push {w : World} {l : List Cl} {most : Nat} {t : List Cl} {At : Option Addr} {tc : Nat} {Ao : Option Addr} {no co : Nat} {vs : List Value} {ps : List (List Cl)} {An : Option Addr} {cn : Nat} {now : List Cl} {N : Nat} {wr : World}
    (h : RefRoll w l most t At tc Ao no co vs ps An cn now N wr) (hn : now ≠ []) {m : Nat} (hm : now.length = m) {o : Obj} {A3 : Option Addr} {c3 : Nat} {w3 : World}
    (ho3 : Own w3 w.heap.size 22 1 A3 (no + 1) c3 (vs ++ [.slice An m cn])) (hg3 : (wr.alloc o).grownBy w3 (blk Ao)) :
    RefRoll w l most t At tc A3 (no + 1) c3 (vs ++ [.slice An m cn]) (ps ++ [now]) (some ⟨w3.heap.size, 0, none⟩) 0 [] w3.heap.size (w3.alloc (.cells #[] 50)) := by
  subst hm
  obtain ⟨hrd, htc, hown, hlist, hN, hno, hbN, hNw, hlen, hroll, hB⟩ := h
  have hw := hB.size
  have hown1 := Own.alloc hown o
  have hz3 := hg3.size
  rw [World.size_alloc] at hz3
  have hB3 : Below w.heap.size w w3 := hown1.grow (hB.alloc hw _) (by rw [World.size_alloc]; omega) (Nat.le_refl _) hg3
  have hln := List.length_pos_iff.2 hn
  refine ⟨?_, htc, Own.alloc ho3 _, ?_, ?_, ?_, by omega, by rw [World.size_alloc]; omega, by simp; omega, ?_, hB3.alloc (by omega) _⟩
  · exact ((hrd.alloc (by omega) _).grown hg3 (by rw [World.size_alloc]; omega) (fun g hg => by have := (hown.lt _ hg).1; omega)).alloc (by omega) _
  · have h1 := Lists.grown (hlist.keep fun A c p h => Own.alloc h o) hown1 (by decide) hg3
    exact (h1.snoc (Own.grown (Own.alloc (Own.lower hno hbN) o) hg3 (Own.type_ne (Own.alloc hno o) hown1 (by decide)))).keep fun A c p h => Own.alloc h _
  · intro i hi k hk
    by_cases hiv : i < vs.length
    · rw [List.getElem_append_left hiv] at hk
      have := (hlist.blk_lt i hiv k hk).2
      omega
    · rw [List.getElem_append_right (by omega)] at hk
      simp at hk
      rw [ownBlock_slice] at hk
      have := (Own.lt hno k hk).2
      omega
  · exact ⟨rfl, .inr ⟨w3.heap.size, 0, #[], rfl, Nat.le_refl _, heap_alloc_new w3 _, Nat.le_refl _, by unfold maxLen; omega, rfl, rfl⟩⟩
  · rw [tl_nil, List.append_nil, ← hroll, tl_some hn]

theorem RefRoll.more {w : World} {l : List Cl} {most : Nat} {t : List Cl} {At : Option Addr} {tc : Nat} {Ao : Option Addr} {no co : Nat} {vs : List Value} {ps : List (List Cl)} {An : Option Addr} {cn : Nat} {now : List Cl} {N : Nat} {wr : World}
    (h : RefRoll w l most t At tc Ao no co vs ps An cn now N wr) {n : Nat} (hg : Group t n) (hend : ∀ (hj : n < t.length) (h0 : 0 < t.length), t[n].row ≠ t[0].row)
    (h1 : now ≠ [] → now.length + n ≤ most) (h2 : now = [] → ∀ q, ps.getLast? = some q → ¬ q.length + n ≤ most) {m : Nat} (hm : now.length = m) {A3 : Option Addr} {c3 : Nat} {w3 : World}
    (ho3 : Own w3 N 50 6 A3 (m + n) c3 (vals now ++ vals (t.take n))) (hg3 : wr.grownBy w3 (blk An)) :
    RefRoll w l most (t.drop n) (tailA At tc n 6) (tc - n) Ao no co vs ps A3 c3 (now ++ t.take n) N w3 := by
  subst hm
  obtain ⟨hrd, htc, hown, hlist, hN, hno, hbN, hNw, hlen, hroll, hB⟩ := h
  obtain ⟨g1, g2, g3⟩ := hg
  have hw := hB.size
  have hz3 := hg3.size
  have htl : (t.take n).length = n := by rw [List.length_take]; omega
  have hr : t.take n ≠ [] := fun e => by rw [e] at htl; simp at htl; omega
  refine ⟨?_, by rw [List.length_drop]; omega, Own.grown hown hg3 (Own.type_ne hown hno (by decide)), ?_, hN, ?_, hbN, by omega, ?_, ?_, Own.grow hno hB hw hbN hg3⟩
  · exact (hrd.grown hg3 hw (fun g hg => by have := (Own.lt hno _ hg).1; omega)).tail n htc
  · refine ⟨hlist.1, fun i hi hi' => ?_⟩
    obtain ⟨Ai, ci, ei, hoi⟩ := hlist.2 i hi hi'
    refine ⟨Ai, ci, ei, Own.grown hoi hg3 ?_⟩
    cases e : blk Ai with
    | none => exact .inl rfl
    | some k =>
      refine .inr fun e2 => ?_
      have h3 := hN i hi k (by rw [ei, ownBlock_slice, e])
      have h4 := (Own.lt hno k e2.symm).1
      omega
  · unfold OwnC
    rw [List.length_append, htl, ← vals_append]
    exact ho3
  · rw [List.length_append, List.length_drop, htl]; omega
  · rw [Group.rows ⟨g1, g2, g3⟩ hend, List.foldl_cons, rollStep_tl_fits hr (by rw [htl]; exact h1) (by rw [htl]; exact h2)] at hroll
    exact hroll

theorem Group.succ {t : List Cl} {n : Nat} (h : Group t n) (hn : n < t.length) (e : t[n].row = (t[0]'(by omega)).row) : Group t (n + 1) :=
  ⟨by omega, hn, fun j hj h0 h1 => by
    by_cases hj' : j < n
    · exact h.2.2 j hj h0 hj'
    · have : j = n := by omega
      subst this
      exact e⟩
theorem RefRoll.drewN {w : World} {l : List Cl} {most : Nat} {t : List Cl} {At : Option Addr} {tc : Nat} {Ao : Option Addr} {no co : Nat} {vs : List Value} {ps : List (List Cl)} {An : Option Addr} {cn : Nat} {now : List Cl} {N : Nat} {wr : World}
    (h : RefRoll w l most t At tc Ao no co vs ps An cn now N wr) (n : Nat) : RefRoll w l most t At tc Ao no co vs ps An cn now N (wr.drewN n) := by
  obtain ⟨h1, h2, h3, h4, h5, h6, h7, h8, h9, h10, h11⟩ := h
  exact ⟨h1, h2, h3, h4, h5, h6, h7, h8, h9, h10, below_drewN h11 n⟩
theorem RefRoll.last {w : World} {l : List Cl} {most : Nat} {t : List Cl} {At : Option Addr} {tc : Nat} {Ao : Option Addr} {no co : Nat} {vs : List Value} {ps : List (List Cl)} {An : Option Addr} {cn : Nat} {now : List Cl} {N : Nat} {wr : World}
    (h : RefRoll w l most t At tc Ao no co vs ps An cn now N wr) (ht : t = []) (hn : now ≠ []) {m : Nat} (hm : now.length = m) {o : Obj} {A3 : Option Addr} {c3 : Nat} {w3 : World}
    (ho3 : Own w3 w.heap.size 22 1 A3 (no + 1) c3 (vs ++ [.slice An m cn])) (hg3 : (wr.alloc o).grownBy w3 (blk Ao)) :
    Lists w3 w.heap.size (vs ++ [.slice An m cn]) (roll l most) ∧ Below w.heap.size w w3 := by
  subst hm
  subst ht
  obtain ⟨hrd, htc, hown, hlist, hN, hno, hbN, hNw, hlen, hroll, hB⟩ := h
  have hw := hB.size
  have hown1 := Own.alloc hown o
  rw [tl_some hn] at hroll
  rw [← hroll]
  refine ⟨?_, hown1.grow (hB.alloc hw _) (by rw [World.size_alloc]; omega) (Nat.le_refl _) hg3⟩
  have h1 := Lists.grown (hlist.keep fun A c p h => Own.alloc h o) hown1 (by decide) hg3
  exact h1.snoc (Own.grown (Own.alloc (Own.lower hno hbN) o) hg3 (Own.type_ne (Own.alloc hno o) hown1 (by decide)))
theorem Own.new0 (w : World) (e size : Nat) : Own (w.alloc (.cells #[] e)) w.heap.size e size (some ⟨w.heap.size, 0, none⟩) 0 0 [] :=
  ⟨by simp, .inr ⟨w.heap.size, 0, #[], rfl, Nat.le_refl _, heap_alloc_new w _, Nat.le_refl _, by unfold maxLen; omega, by simp, by simp⟩⟩
theorem RefRoll.zero {w w1 : World} {A : Option Addr} {c : Nat} {l : List Cl} (most : Nat) (hl : Rd w w.heap.size A (vals l)) (hcap : l.length ≤ c) (hb1 : Below w.heap.size w w1) :
    RefRoll w l most l A c (some ⟨w1.heap.size, 0, none⟩) 0 0 [] [] (some ⟨w1.heap.size + 1, 0, none⟩) 0 [] (w1.heap.size + 1) ((w1.alloc (.cells #[] 22)).alloc (.cells #[] 50)) := by
  have hz := hb1.size
  have h1 := Own.new0 (w1.alloc (.cells #[] 22)) 50 6
  rw [World.size_alloc] at h1
  exact ⟨((hl.below hb1).alloc hz _).alloc (by rw [World.size_alloc]; omega) _, hcap, Own.alloc ((Own.new0 w1 _ 1).lower hz) _, Lists.nil, fun i hi => absurd hi (by simp), h1, by omega, by rw [World.size_alloc, World.size_alloc]; omega, by simp, rfl, (hb1.alloc hz _).alloc (by rw [World.size_alloc]; omega) _⟩

end Go.Proofs.Yteacjikkojglmaa
