/-
  Pieces: lists of cells, each with a number, in a row of one's own; and what cut.All computes. Of memory and of lists alone, no walk.
-/
import Derived.Test.YteacjikkojglmaaRollInv
namespace Go.Proofs.Yteacjikkojglmaa
open Go.RowKit Go.Shelf

/-- the values of a row of pieces -/
def pcs : List Nat → List Value → List Value
  | t :: ts, v :: vs => .int .i64 t :: v :: pcs ts vs
  | _, _ => []
theorem pcs_snoc : ∀ (ts : List Nat) (vs : List Value) (t : Nat) (v : Value), ts.length = vs.length → pcs (ts ++ [t]) (vs ++ [v]) = pcs ts vs ++ [.int .i64 t, v]
  | [], [], _, _, _ => rfl
  | a :: ts, b :: vs, t, v, h => by
    have := pcs_snoc ts vs t v (by simpa using h)
    simp [pcs, this]
  | [], _ :: _, _, _, h => by simp at h
  | _ :: _, [], _, _, h => by simp at h
theorem pcs_length : ∀ (ts : List Nat) (vs : List Value), ts.length = vs.length → (pcs ts vs).length = 2 * vs.length
  | [], [], _ => rfl
  | a :: ts, b :: vs, h => by
    have := pcs_length ts vs (by simpa using h)
    simp [pcs, this]
    omega
  | [], _ :: _, h => by simp at h
  | _ :: _, [], h => by simp at h
theorem pcs_get : ∀ (ts : List Nat) (vs : List Value) (h : ts.length = vs.length) (k : Nat) (hk : k < vs.length) (h1 : 2 * k < (pcs ts vs).length) (h2 : 2 * k + 1 < (pcs ts vs).length),
    (pcs ts vs)[2 * k] = .int .i64 (ts[k]'(by omega)) ∧ (pcs ts vs)[2 * k + 1] = vs[k]
  | [], [], _, _, hk, _, _ => by simp at hk
  | a :: ts, b :: vs, h, k, hk, h1, h2 => by
    cases k with
    | zero => exact ⟨rfl, rfl⟩
    | succ k =>
      have hk' : k < vs.length := by simpa using hk
      have hl := pcs_length ts vs (by simpa using h)
      have := pcs_get ts vs (by simpa using h) k hk' (by omega) (by omega)
      simp only [pcs, Nat.mul_add, Nat.mul_one]
      exact this
  | [], _ :: _, h, _, _, _, _ => by simp at h
  | _ :: _, [], h, _, _, _, _ => by simp at h

/-- pieces in a row of one's own -/
def PcSt (w : World) (base e : Nat) (A : Option Addr) (n c : Nat) (P : List (Nat × List Cl)) (vs : List Value) : Prop :=
  Own w base e 2 A n c (pcs (P.map (·.1)) vs) ∧ Lists w base vs (P.map (·.2)) ∧ P.length = n
theorem PcSt.nil (w : World) (base e : Nat) : PcSt w base e none 0 0 [] [] := ⟨World.ownsRow_nil w base e 2, Lists.nil, rfl⟩
section
variable {w w' : World} {base e n c : Nat} {A : Option Addr} {P : List (Nat × List Cl)} {vs : List Value}
theorem PcSt.len (h : PcSt w base e A n c P vs) : vs.length = n := by have := h.2.1.1; rw [List.length_map, h.2.2] at this; exact this
theorem PcSt.below (h : PcSt w base e A n c P vs) (hb : Below w.heap.size w w') : PcSt w' base e A n c P vs := ⟨Own.below h.1 hb, h.2.1.below hb, h.2.2⟩
theorem PcSt.snoc (h : PcSt w base e A n c P vs) (he : 50 ≠ e) {t : Nat} {q : List Cl} {A2 A3 : Option Addr} {c2 c3 : Nat} (ho : OwnC w base A2 c2 q) {o : Obj} (ho3 : Own w' base e 2 A3 (n + 1) c3 (pcs (P.map (·.1)) vs ++ [.int .i64 t, .slice A2 q.length c2]))
    (hg : (w.alloc o).grownBy w' (blk A)) : PcSt w' base e A3 (n + 1) c3 (P ++ [(t, q)]) (vs ++ [.slice A2 q.length c2]) := by
  have hown1 : Own (w.alloc o) base e 2 A n c (pcs (P.map (·.1)) vs) := Own.alloc h.1 _
  have hl1 : Lists (w.alloc o) base vs (P.map (·.2)) := h.2.1.keep fun A c p h => Own.alloc h _
  refine ⟨?_, ?_, by simp [h.2.2]⟩
  · rw [List.map_append, List.map_cons, List.map_nil, pcs_snoc _ _ _ _ (by rw [List.length_map, h.2.2, h.len])]
    exact ho3
  · rw [List.map_append]
    exact (hl1.grown hown1 he hg).snoc (Own.grown (Own.alloc ho _) hg (Own.type_ne (Own.alloc ho _) hown1 he))
end

theorem Own.cap {w : World} {base e size n c : Nat} {A : Option Addr} {xs : List Value} (h : Own w base e size A n c xs) : n ≤ c := by
  rcases h.2 with ⟨hv, hn⟩ | ⟨g, cap, cur, hv, _, _, h3, _⟩
  · omega
  · injection hv with _ _ hc
    omega

/-- all pieces of the first lists -/
def pieces (most : Nat) (ps : List (List Cl)) : Nat → List (Nat × List Cl)
  | 0 => []
  | k + 1 => pieces most ps k ++ (roll (ps.getD k []) most).map fun q => (k, q)

theorem rollStep_length (most : Nat) (out : List (List Cl)) (row : List Cl) : (rollStep most out row).length ≤ out.length + 1 := by
  unfold rollStep
  split
  · rename_i q e
    split
    · have : out ≠ [] := fun h => by rw [h] at e; cases e
      have := List.length_pos_iff.2 this
      rw [List.length_append, List.length_dropLast, List.length_singleton]
      omega
    · simp
  · simp
theorem roll_fold_length (most : Nat) : ∀ (rows : List (List Cl)) (out : List (List Cl)), (rows.foldl (rollStep most) out).length ≤ out.length + rows.length
  | [], out => by simp
  | r :: rows, out => by
    have h1 := roll_fold_length most rows (rollStep most out r)
    have h2 := rollStep_length most out r
    simp only [List.foldl_cons, List.length_cons]
    omega
theorem rowsOf_length : ∀ l : List Cl, (rowsOf l).length ≤ l.length
  | [] => by simp [rowsOf]
  | c :: l => by
    have ih := rowsOf_length l
    rw [rowsOf]
    split
    · simp
    · rename_i gs e
      rw [e] at ih
      simp at *
      omega
    · rename_i d g gs e
      rw [e] at ih
      split <;> simp at * <;> omega
theorem roll_length (l : List Cl) (most : Nat) : (roll l most).length ≤ l.length := by
  have h1 := roll_fold_length most (rowsOf l) []
  have h2 := rowsOf_length l
  unfold roll
  simp at h1
  omega
theorem pieces_length (most : Nat) (ps : List (List Cl)) (m : Nat) (h : ∀ p ∈ ps, p.length ≤ m) : ∀ k, (pieces most ps k).length ≤ k * m
  | 0 => by simp [pieces]
  | k + 1 => by
    have h1 := pieces_length most ps m h k
    have h2 := roll_length (ps.getD k []) most
    have h3 : (ps.getD k []).length ≤ m := by
      rw [List.getD_eq_getElem?_getD]
      cases e : ps[k]? with
      | none => simp
      | some p => exact h p (List.mem_of_getElem? e)
    rw [pieces, List.length_append, List.length_map, Nat.add_mul, Nat.one_mul]
    omega

theorem rising_takeWhile {p : Cl → Bool} {t : List Cl} (h : rising t = true) : rising (t.takeWhile p) = true := by
  rw [rising_iff] at h ⊢
  intro i hi
  have hp := List.takeWhile_prefix p (l := t)
  have hl := hp.length_le
  have e1 := hp.getElem (i := i) (by omega)
  have e2 := hp.getElem (i := i + 1) hi
  rw [e1, e2]
  exact h i (by omega)
theorem rising_dropWhile {p : Cl → Bool} : ∀ {t : List Cl}, rising t = true → rising (t.dropWhile p) = true
  | [], _ => rfl
  | c :: t, h => by
    rw [List.dropWhile_cons]
    split
    · exact rising_dropWhile (rising_drop h 1)
    · exact h
theorem splitAt_mem : ∀ (ss : List ByteArray) (l : List Cl), rising l = true → ∀ p ∈ splitAt l ss, rising p = true ∧ p.length ≤ l.length
  | [], l, h, p, hp => by
    rw [splitAt, List.mem_singleton] at hp
    subst hp
    exact ⟨h, Nat.le_refl _⟩
  | s :: ss, l, h, p, hp => by
    rw [splitAt] at hp
    rcases List.mem_cons.1 hp with rfl | hp
    · exact ⟨rising_takeWhile h, (List.takeWhile_prefix _).length_le⟩
    · have := splitAt_mem ss _ (rising_dropWhile h) p hp
      exact ⟨this.1, Nat.le_trans this.2 (List.dropWhile_suffix _).length_le⟩
theorem splitAt_length : ∀ (ss : List ByteArray) (l : List Cl), (splitAt l ss).length = ss.length + 1
  | [], l => rfl
  | s :: ss, l => by rw [splitAt, List.length_cons, splitAt_length ss]; rfl

theorem Rd.new2 (w : World) (e : TypeId) (u v : Value) : Rd (w.alloc (.cells #[u, v] e)) (w.heap.size + 1) (some ⟨w.heap.size, 0, none⟩) [u, v] := fun _ =>
  ⟨w.heap.size, 0, rfl, by omega, fun j hj => by
    rw [cell_of_row _ w.heap.size (0 + j) _ e (0, 0) (heap_alloc_new w _)]
    have : j = 0 ∨ j = 1 := by simp at hj; omega
    rcases this with rfl | rfl <;> rfl⟩

/-- between two rounds of the loop over lists -/
def AllInv (w : World) (e : TypeId) (ps : List (List Cl)) (most : Nat) (A1 : Option Addr) (n1 c1 : Nat) (vs : List Value) (k : Nat) (Ao : Option Addr) (no co : Nat) (us : List Value) (wr : World) : Prop :=
  PcSt wr w.heap.size e Ao no co (pieces most ps k) us ∧ Own wr w.heap.size 22 1 A1 n1 c1 vs ∧ Lists wr w.heap.size vs ps ∧ Below w.heap.size w wr
/-- between two rounds of the loop over the pieces of one list -/
def AllInv2 (w : World) (e : TypeId) (ps : List (List Cl)) (most : Nat) (A1 : Option Addr) (n1 c1 : Nat) (vs : List Value) (k : Nat) (Ar : Option Addr) (nr cr : Nat) (rs : List Value) (R : List (List Cl)) (j : Nat) (Ao : Option Addr) (no co : Nat) (us : List Value) (wr : World) : Prop :=
  PcSt wr w.heap.size e Ao no co (pieces most ps k ++ (R.take j).map fun q => (k, q)) us ∧ Own wr w.heap.size 22 1 A1 n1 c1 vs ∧ Lists wr w.heap.size vs ps ∧ Own wr w.heap.size 22 1 Ar nr cr rs ∧ Lists wr w.heap.size rs R ∧ Below w.heap.size w wr

theorem AllInv.start {w : World} {e : TypeId} {ps : List (List Cl)} {most : Nat} {A1 : Option Addr} {n1 c1 : Nat} {vs : List Value} {k : Nat} {Ao : Option Addr} {no co : Nat} {us : List Value} {wr w2 : World} (h : AllInv w e ps most A1 n1 c1 vs k Ao no co us wr) {Ar : Option Addr} {nr cr : Nat} {rs : List Value} {R : List (List Cl)}
    (ho : Own w2 wr.heap.size 22 1 Ar nr cr rs) (hl : Lists w2 wr.heap.size rs R) (hb : Below wr.heap.size wr w2) : AllInv2 w e ps most A1 n1 c1 vs k Ar nr cr rs R 0 Ao no co us w2 := by
  obtain ⟨h1, h2, h3, h4⟩ := h
  exact ⟨by simpa using h1.below hb, Own.below h2 hb, h3.below hb, ho.lower h4.size, hl.lower h4.size, h4.trans (hb.mono h4.size)⟩
theorem AllInv2.snoc {w : World} {e : TypeId} {ps : List (List Cl)} {most : Nat} {A1 : Option Addr} {n1 c1 : Nat} {vs : List Value} {k : Nat} {Ar : Option Addr} {nr cr : Nat} {rs : List Value} {R : List (List Cl)} {j : Nat} {Ao : Option Addr} {no co : Nat} {us : List Value} {wr w2 : World}
    (h : AllInv2 w e ps most A1 n1 c1 vs k Ar nr cr rs R j Ao no co us wr) (he : 50 ≠ e) (he2 : 22 ≠ e) (hj : j < R.length) {q : List Cl} (hq : R[j] = q) {m : Nat} (hm : q.length = m) {A2 A3 : Option Addr} {c2 c3 : Nat} (ho : OwnC wr w.heap.size A2 c2 q) {o : Obj}
    (ho3 : Own w2 w.heap.size e 2 A3 (no + 1) c3 (pcs ((pieces most ps k ++ (R.take j).map fun q => (k, q)).map (·.1)) us ++ [.int .i64 k, .slice A2 m c2])) (hg : (wr.alloc o).grownBy w2 (blk Ao)) :
    AllInv2 w e ps most A1 n1 c1 vs k Ar nr cr rs R (j + 1) A3 (no + 1) c3 (us ++ [.slice A2 m c2]) w2 := by
  obtain ⟨h1, h2, h3, h4, h5, h6⟩ := h
  subst hm
  subst hq
  have hown1 := Own.alloc h1.1 o
  have hz := h6.size
  refine ⟨?_, Own.grown (Own.alloc h2 o) hg (Own.type_ne (Own.alloc h2 o) hown1 he2), ?_, Own.grown (Own.alloc h4 o) hg (Own.type_ne (Own.alloc h4 o) hown1 he2), ?_, ?_⟩
  · have := h1.snoc (t := k) he ho ho3 hg
    rwa [List.append_assoc, ← List.map_singleton (f := fun q => (k, q)), ← List.map_append, List.take_append_getElem] at this
  · exact Lists.grown (h3.keep fun A c p h => Own.alloc h o) hown1 he hg
  · exact Lists.grown (h5.keep fun A c p h => Own.alloc h o) hown1 he hg
  · exact hown1.grow (h6.alloc hz _) (by rw [World.size_alloc]; omega) (Nat.le_refl _) hg
theorem AllInv2.done {w : World} {e : TypeId} {ps : List (List Cl)} {most : Nat} {A1 : Option Addr} {n1 c1 : Nat} {vs : List Value} {k : Nat} {Ar : Option Addr} {nr cr : Nat} {rs : List Value} {R : List (List Cl)} {j : Nat} {Ao : Option Addr} {no co : Nat} {us : List Value} {wr : World}
    (h : AllInv2 w e ps most A1 n1 c1 vs k Ar nr cr rs R j Ao no co us wr) (hj : R.length ≤ j) (hk : k < ps.length) (hR : R = roll ps[k] most) : AllInv w e ps most A1 n1 c1 vs (k + 1) Ao no co us wr := by
  obtain ⟨h1, h2, h3, h4, h5, h6⟩ := h
  refine ⟨?_, h2, h3, h6⟩
  rw [List.take_of_length_le hj, hR] at h1
  rw [pieces, List.getD_eq_getElem?_getD, List.getElem?_eq_getElem hk]
  exact h1


end Go.Proofs.Yteacjikkojglmaa
