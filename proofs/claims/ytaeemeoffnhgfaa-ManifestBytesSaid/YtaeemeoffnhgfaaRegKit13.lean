/-
  Words for a slice put together out of two parts and one in the middle. No conditions.
-/
import Derived.Test.YtaeemeoffnhgfaaIndexFile
import Derived.Test.YtaeemeoffnhgfaaAppG
namespace Go.Proofs.Ytaeemeoffnhgfaa
open Go.RowKit

theorem Rd.ofBlock {w : World} {g : Nat} {cur : Array Value} {e : TypeId} {xs : List Value} (h : w.heap[g]? = some (.cells cur e (0, 0))) (hx : cur.toList = xs) : Rd w w.heap.size (some ⟨g, 0, none⟩) xs := fun _ => ⟨g, 0, rfl, (Array.getElem?_eq_some_iff.1 h).1, fun j hj => by
  subst hx
  rw [Nat.zero_add, cell_of_row w g j cur e (0, 0) h, ← Array.getElem?_toList]
  exact List.getElem?_eq_getElem hj⟩

theorem run_front {P : Program} {t e : TypeId} {i : TypeInfo} {size : Nat} (ht : P.underlying t = some (.slice e)) (hi : P.info? e = some i) (hs : i.size = size) (A : Option Addr) (n c k : Nat) (hk : k ≤ c) (W : World) :
    (Instr.slice t (.slice A n c) none (some (.int .i64 (k : Int))) none).run P W = .ok (.slice A k c) W := by
  have he : P.underlying t = some (.slice (P.elem t)) := by rw [ht]; simp [Program.elem, ht]
  have hee : P.elem t = e := by simp [Program.elem, ht]
  rw [run_slice_h (P := P) W t A n c he .i64 k (by omega) (by omega), hee]
  simp [sizeOf, typeInfo, hi, Result.andThen, sliced, hs]
  intro _
  cases A <;> simp [Addr.add]
theorem own_any {w : World} {base e size n c : Nat} {A : Option Addr} {xs : List Value} (h : Own w base e size A n c xs) : ∀ n', n' = n → Own w base e size A n' c xs := by
  rintro _ rfl
  exact h
theorem Rd.allocS {w : World} {A : Option Addr} {xs : List Value} (h : Rd w w.heap.size A xs) (o : Obj) : Rd (w.alloc o) (w.alloc o).heap.size A xs := (h.alloc (Nat.le_refl _) o).more (by rw [World.size_alloc]; omega)
theorem Rd.grownAt {w w' : World} {b : Nat} {row : Option Nat} {xs : List Value} (h : Rd w w.heap.size (some ⟨b, 0, none⟩) xs) (hg : w.grownBy w' row) (hne : some b ≠ row) : Rd w' w'.heap.size (some ⟨b, 0, none⟩) xs := fun hn => by
  obtain ⟨b', o, e, hb, hc⟩ := h hn
  obtain ⟨rfl, rfl⟩ : b = b' ∧ 0 = o := by injection e with e; injection e with e1 e2; exact ⟨e1, e2⟩
  exact ⟨b, 0, rfl, Nat.lt_of_lt_of_le hb hg.size, fun j hj => (World.cell?_of_block (a := ⟨b, _, none⟩) (hg.block b hb hne)).trans (hc j hj)⟩
theorem Rd.tailR {α : Type} {enc : α → List Value} {s : Nat} (hs : ∀ x, (enc x).length = s) {W : World} {B : Nat} {A : Option Addr} {R : List α} (h : Rd W B A (R.flatMap enc)) {n c i : Nat} (hn : R.length = n) (hc : n ≤ c) (hi : i ≤ n) : Rd W B (tailA A c i s) ((R.drop i).flatMap enc) := by
  by_cases e : c = i
  · rw [List.drop_of_length_le (by omega)]
    exact Rd.nil
  · unfold tailA
    rw [if_neg e]
    have h1 := h.drop (i * s)
    have h2 : (R.flatMap enc).drop (i * s) = (R.drop i).flatMap enc := by
      have h3 : R.flatMap enc = (R.take i).flatMap enc ++ (R.drop i).flatMap enc := by rw [← List.flatMap_append, List.take_append_drop]
      have h4 : ((R.take i).flatMap enc).length = i * s := by rw [encs_length hs, List.length_take, Nat.min_eq_left (by omega)]
      rw [h3, ← h4, List.drop_left]
    rwa [h2] at h1
theorem Rd.frontR {α : Type} {enc : α → List Value} {W : World} {B : Nat} {A : Option Addr} {R : List α} (h : Rd W B A (R.flatMap enc)) {s : Nat} (hs : ∀ x, (enc x).length = s) {i : Nat} (hi : i ≤ R.length) : Rd W B A ((R.take i).flatMap enc) := by
  have h1 := h.take (i * s)
  have h2 : (R.flatMap enc).take (i * s) = (R.take i).flatMap enc := by
    have h3 : R.flatMap enc = (R.take i).flatMap enc ++ (R.drop i).flatMap enc := by rw [← List.flatMap_append, List.take_append_drop]
    have h4 : ((R.take i).flatMap enc).length = i * s := by rw [encs_length hs, List.length_take, Nat.min_eq_left hi]
    rw [h3, ← h4, List.take_left]
  rwa [h2] at h1

theorem Own.new0' (w : World) (e size : Nat) : Own (w.alloc (.cells #[] e)) w.heap.size e size (some ⟨w.heap.size, 0, none⟩) 0 0 [] := World.ownsRow_lit w #[] 0 (Nat.le_refl _) (by simp [maxLen]) (by simp)
theorem Rd.all' (w : World) (e : TypeId) (vs : List Value) (cur : Array Value) (n : Nat) (hn : w.heap.size = n) (h : cur.toList = vs) : Rd (w.alloc (.cells cur e)) (n + 1) (some ⟨n, 0, none⟩) vs := by
  subst hn
  have := Rd.ofBlock (heap_alloc_new w (.cells cur e)) h
  rwa [World.size_alloc] at this
end Go.Proofs.Ytaeemeoffnhgfaa
