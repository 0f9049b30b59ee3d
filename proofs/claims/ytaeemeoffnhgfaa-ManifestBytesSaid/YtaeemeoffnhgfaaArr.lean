/-
  Words for memory: a block that holds structs, one behind the other; one of them stored anew. No conditions.
-/
import Derived.Test.YtaeemeoffnhgfaaOwn
import Derived.Deep.MidRow
namespace Go.Proofs.Ytaeemeoffnhgfaa
open Go.RowKit

theorem grownBy_refl (w : World) (g : Option Nat) : w.grownBy w g := ⟨rfl, rfl, rfl, Nat.le_refl _, fun _ _ _ => rfl⟩
theorem grownBy_trans {a b c : World} {g : Option Nat} (h : a.grownBy b g) (k : b.grownBy c g) : a.grownBy c g :=
  ⟨k.os.trans h.os, k.tape.trans h.tape, k.output.trans h.output, Nat.le_trans h.size k.size, fun i hi hg => (k.block i (Nat.lt_of_lt_of_le hi h.size) hg).trans (h.block i hi hg)⟩
theorem grownBy_below {a b : World} (h : Below a.heap.size a b) (g : Option Nat) : a.grownBy b g := ⟨h.os, h.tape, h.output, h.size, fun i hi _ => h.block i hi⟩
theorem grownBy_drew {a b : World} {g : Option Nat} (h : a.grownBy b g) (n : Nat) : a.grownBy (b.drewN n) g := ⟨h.os, h.tape, h.output, h.size, h.block⟩
theorem grownBy_drew1 {a b : World} {g : Option Nat} (h : a.grownBy b g) : a.grownBy b.drew g := ⟨h.os, h.tape, h.output, h.size, h.block⟩
theorem below_grown {B : Nat} {w0 a b : World} {g : Nat} (h : Below B w0 a) (hB : B ≤ a.heap.size) (k : a.grownBy b (some g)) (hg : B ≤ g) : Below B w0 b := h.grown k hB (fun r hr => by injection hr with hr; omega)

theorem below_of_drew' {B : Nat} {a w : World} (h : Below B a.drew w) : Below B a w := ⟨h.os, h.tape, h.output, h.size, h.block⟩
theorem below_drewN' {B : Nat} {a w : World} (h : Below B a w) (n : Nat) : Below B a (w.drewN n) := ⟨h.os, h.tape, h.output, h.size, h.block⟩

/-- a block of structs of k cells -/
structure Arr {α : Type} (enc : α → List Value) (k : Nat) (w : World) (g : Nat) (e : TypeId) (S : Nat) (l : List α) : Prop where
  cur : ∃ cur, w.heap[g]? = some (.cells cur e (0, 0)) ∧ cur.size = S
  len : l.length * k ≤ S
  at_ : ∀ i (h : i < l.length), w.rangeAt g (i * k) (enc l[i])

theorem setCells_block (g : Nat) (e : TypeId) : ∀ (vs : List Value) (o : Nat) (w : World) (cur : Array Value), w.heap[g]? = some (.cells cur e (0, 0)) →
    (∃ cur', (w.setCells g o vs).heap[g]? = some (.cells cur' e (0, 0)) ∧ cur'.size = cur.size) ∧ w.grownBy (w.setCells g o vs) (some g)
  | [], o, w, cur, h => ⟨⟨cur, h, rfl⟩, grownBy_refl _ _⟩
  | v :: vs, o, w, cur, h => by
    have h1 : (w.setCell ⟨g, o, none⟩ v).heap[g]? = some (.cells (cur.setIfInBounds o v) e (0, 0)) := heap_setCell_same w g o cur e v h
    obtain ⟨⟨cur', h2, h3⟩, h4⟩ := setCells_block g e vs (o + 1) _ _ h1
    have h5 : w.grownBy (w.setCell ⟨g, o, none⟩ v) (some g) := ⟨rfl, rfl, rfl, by simp [World.setCell], fun k _ hk => heap_setCell_other w ⟨g, o, none⟩ k v (fun e => hk (by simp [e]))⟩
    exact ⟨⟨cur', h2, by rw [h3]; simp⟩, grownBy_trans h5 h4⟩

section
variable {α : Type} {enc : α → List Value} {k : Nat} {w w' : World} {g : Nat} {e : TypeId} {S : Nat} {l : List α}
theorem Arr.lt (h : Arr enc k w g e S l) : g < w.heap.size := by
  obtain ⟨cur, hc, _⟩ := h.cur
  exact (Array.getElem?_eq_some_iff.1 hc).1
theorem Arr.keep (h : Arr enc k w g e S l) (hg : w'.heap[g]? = w.heap[g]?) : Arr enc k w' g e S l :=
  ⟨by rw [hg]; exact h.cur, h.len, fun i hi j v hv => (World.cell?_of_block (a := ⟨g, _, none⟩) hg).trans (h.at_ i hi j v hv)⟩
theorem Arr.drewN (h : Arr enc k w g e S l) (n : Nat) : Arr enc k (w.drewN n) g e S l := h.keep rfl
theorem Arr.drew (h : Arr enc k w g e S l) : Arr enc k w.drew g e S l := h.keep rfl
theorem Arr.below (h : Arr enc k w g e S l) {B : Nat} (hb : Below B w w') (hg : g < B) : Arr enc k w' g e S l := h.keep (hb.block g hg)
theorem Arr.there (h : Arr enc k w g e S l) {o n : Nat} (hn : o + n ≤ S) : w.there g o n := fun j hj => by
  obtain ⟨cur, hc, hs⟩ := h.cur
  refine ⟨?_, frozen_of_row w g (o + j) cur e hc⟩
  rw [cell_of_row w g (o + j) cur e (0, 0) hc, Array.getElem?_eq_getElem (by omega)]
  rfl
theorem mul_le_of {i n k : Nat} (h : i < n) : i * k + k ≤ n * k := by
  have := Nat.mul_le_mul_right k (show i + 1 ≤ n by omega)
  rw [Nat.add_mul, Nat.one_mul] at this
  exact this
theorem Arr.there_at (h : Arr enc k w g e S l) {i : Nat} (hi : i < l.length) : w.there g (i * k) k := h.there (Nat.le_trans (mul_le_of hi) h.len)
theorem Arr.set (h : Arr enc k w g e S l) (hk : ∀ x, (enc x).length = k) {i : Nat} (hi : i < l.length) (y : α) :
    Arr enc k (w.setCells g (i * k) (enc y)) g e S (l.set i y) ∧ w.grownBy (w.setCells g (i * k) (enc y)) (some g) := by
  obtain ⟨cur, hc, hs⟩ := h.cur
  obtain ⟨⟨cur', h1, h2⟩, h3⟩ := setCells_block g e (enc y) (i * k) w cur hc
  refine ⟨⟨⟨cur', h1, h2.trans hs⟩, by rw [List.length_set]; exact h.len, fun j hj => ?_⟩, h3⟩
  rw [List.length_set] at hj
  rw [List.getElem_set]
  split
  · rename_i e
    subst e
    exact World.rangeAt_setCells_same w g _ _ (by rw [hk]; exact h.there_at hi)
  · rename_i e
    refine World.rangeAt_setCells_apart (h.at_ j hj) g _ _ ?_
    rw [hk, hk]
    rcases Nat.lt_or_ge j i with hji | hji
    · exact .inr (.inl (mul_le_of hji))
    · exact .inr (.inr (mul_le_of (by omega)))
/-- out of a row of one's own, and back -/
theorem encs_length (hk : ∀ x, (enc x).length = k) (l : List α) : (l.flatMap enc).length = l.length * k := by
  induction l with
  | nil => simp
  | cons x l ih => rw [List.flatMap_cons, List.length_append, ih, hk, List.length_cons, Nat.add_mul, Nat.one_mul, Nat.add_comm]
theorem encs_get (hk : ∀ x, (enc x).length = k) : ∀ (l : List α) (i j : Nat) (hi : i < l.length) (v : Value), (enc l[i])[j]? = some v → (l.flatMap enc)[i * k + j]? = some v
  | [], i, j, hi, v, h => by simp at hi
  | x :: l, i, j, hi, v, h => by
    rw [List.flatMap_cons]
    cases i with
    | zero =>
      rw [List.getElem_cons_zero] at h
      rw [Nat.zero_mul, Nat.zero_add, List.getElem?_append_left (List.getElem?_eq_some_iff.1 h).1]
      exact h
    | succ i =>
      rw [List.getElem_cons_succ] at h
      have := encs_get hk l i j (by simpa using hi) v h
      rw [List.getElem?_append_right (by rw [hk, Nat.add_mul, Nat.one_mul]; omega), hk]
      rw [← this]
      congr 1
      rw [Nat.add_mul, Nat.one_mul]
      omega
theorem Own.arr {base n c : Nat} {A : Option Addr} (hk : ∀ x, (enc x).length = k) (h : Own w base e k A n c (l.flatMap enc)) (hn : 0 < n) (hk0 : 0 < k) :
    ∃ g S, A = some ⟨g, 0, none⟩ ∧ base ≤ g ∧ S = c * k ∧ n ≤ c ∧ c ≤ maxLen ∧ l.length = n ∧ Arr enc k w g e S l := by
  have hl := h.1
  rw [encs_length hk] at hl
  have hln : l.length = n := Nat.eq_of_mul_eq_mul_right hk0 hl
  rcases h.2 with ⟨_, h2⟩ | ⟨g, cap, cur, hv, hb, hg, h3, h4, h5, h6⟩
  · omega
  · injection hv with hA _ hc
    subst hA hc
    refine ⟨g, cur.size, rfl, hb, h5, h3, h4, hln, ⟨⟨cur, hg, rfl⟩, by rw [hln, h5]; exact Nat.mul_le_mul_right k h3, fun i hi j v hv => ?_⟩⟩
    have h1 := encs_get hk l i j hi v hv
    rw [← h6, List.getElem?_take] at h1
    split at h1
    · rw [cell_of_row w g _ cur e (0, 0) hg, ← Array.getElem?_toList]; exact h1
    · cases h1
theorem Arr.own {base c : Nat} (hk : ∀ x, (enc x).length = k) (hk0 : 0 < k) (h : Arr enc k w g e (c * k) l) (hb : base ≤ g) (hc : l.length ≤ c) (hm : c ≤ maxLen) : Own w base e k (some ⟨g, 0, none⟩) l.length c (l.flatMap enc) := by
  obtain ⟨cur, hg, hs⟩ := h.cur
  refine ⟨by rw [encs_length hk], .inr ⟨g, c, cur, rfl, hb, hg, hc, hm, hs, ?_⟩⟩
  have hlen : l.length * k ≤ cur.size := by rw [hs]; exact Nat.mul_le_mul_right k hc
  apply List.ext_getElem?
  intro p
  rw [List.getElem?_take]
  by_cases hp : p < l.length * k
  · rw [if_pos hp]
    have hi : p / k < l.length := (Nat.div_lt_iff_lt_mul hk0).2 hp
    have hj : p % k < k := Nat.mod_lt _ hk0
    have e1 : p / k * k + p % k = p := by rw [Nat.mul_comm]; exact Nat.div_add_mod p k
    have hv : (enc l[p / k])[p % k]? = some ((enc l[p / k])[p % k]'(by rw [hk]; exact hj)) := List.getElem?_eq_getElem _
    have h1 := h.at_ (p / k) hi (p % k) _ hv
    rw [e1, cell_of_row w g p cur e (0, 0) hg, ← Array.getElem?_toList] at h1
    have h2 := encs_get hk l (p / k) (p % k) hi _ hv
    rw [e1] at h2
    rw [h1, h2]
  · rw [if_neg hp, List.getElem?_eq_none]
    rw [encs_length hk]; omega
end
end Go.Proofs.Ytaeemeoffnhgfaa
