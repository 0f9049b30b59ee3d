/-
  An argument, opened: a slice of slices of items. No conditions.
-/
import Derived.Test.YtflppcgonbjnmaaJL
import Derived.Test.YtflppcgonbjnmaaJH
namespace Go.Proofs.Ytflppcgonbjnmaa
open Go.RowKit Go.ChangeShapes Go.WideShapes Go.Deep

section
variable {H : Type} {enc : TypeId × Value → H} {w : World} {base : Nat} {spare : Nat → Bool} {held : Bool}
theorem weightsAll_mem {P : Program} {e : TypeId} : ∀ {es : List (DataW H)} {d : DataW H} {n : Nat}, d ∈ es → n ∈ d.weights P e → n ∈ DataW.weightsAll P e es
  | [], _, _, h, _ => by cases h
  | x :: es, d, n, h, hn => by
    rw [DataW.weightsAll, List.mem_append]
    rcases List.mem_cons.1 h with rfl | h
    · exact .inl hn
    · exact .inr (weightsAll_mem h hn)
set_option maxRecDepth 20000 in
/-- a slice, opened: of things of k cells, each with its datum -/
theorem open_things2 {α : Type} {enc' : α → List Value} {k : Nat} {p : DataW H → α → Prop} (hk : ∀ x, (enc' x).length = k) (hk0 : 0 < k) {t e : TypeId} (ht : Try.prog.underlying t = some (.slice e)) (hc : Try.prog.cellsOf e = k) (x0 : α)
    (ho : ∀ {fuel : Nat} {cs : List Value} {x : DataW H × List MemPlace}, DataW.trod enc Try.prog w base spare held fuel e cs = some x → ∃ c : α, cs = enc' c ∧ p x.1 c)
    {fuel : Nat} {cs : List Value} {x : DataW H × List MemPlace} (h : DataW.trod enc Try.prog w base spare held fuel t cs = some x) :
    ∃ (A : Option Addr) (c : Nat) (l : List α), cs = [.slice A l.length c] ∧ l.length ≤ c ∧ c ≤ maxLen ∧ Rd w w.heap.size A (l.flatMap enc') ∧ ∀ y ∈ l, ∃ d, p d y ∧ ∀ n ∈ d.weights Try.prog e, n ∈ x.1.weights Try.prog t := by
  rcases open_slice ht h with ⟨rfl, _⟩ | ⟨a, len, cap, m, n, D, Pl, rfl, _, hl, hm, hmm, hx, hi⟩
  · exact ⟨none, 0, [], rfl, Nat.le_refl _, Nat.zero_le _, Rd.nil, fun y hy => (by cases hy)⟩
  · have hlm : len ≤ m := by rw [hmm]; split <;> omega
    have hc : ∀ i : Nat, ∃ c : α, i < len → p (D i) c ∧ ∀ j (hj : j < k), w.cell? (a.add (i * k + j)) = some ((enc' c)[j]'(by rw [hk]; exact hj)) := fun i => by
      by_cases hil : i < len
      · obtain ⟨cs', hcs, ht'⟩ := hi i (by omega)
        obtain ⟨c, rfl, hp⟩ := ho ht'
        rw [hc] at hcs
        obtain ⟨_, _, hat⟩ := World.cells?_some hcs
        refine ⟨c, fun _ => ⟨hp, fun j hj => ?_⟩⟩
        have h1 := hat j hj
        rw [add_add] at h1
        rw [h1, List.getElem?_eq_getElem (by rw [hk]; exact hj)]
      · exact ⟨x0, fun h => absurd h hil⟩
    obtain ⟨f, hf⟩ := Classical.axiomOfChoice hc
    refine ⟨some a, cap, (List.range len).map f, by simp, by simpa using hl, hm, Rd.of_encs hk hk0 fun i hi j hj => ?_, fun y hy => ?_⟩
    · have hi' : i < len := by simpa using hi
      rw [(hf i hi').2 j hj]
      congr 2
      simp
    · obtain ⟨i, hi, rfl⟩ := List.mem_map.1 hy
      refine ⟨D i, (hf i (List.mem_range.1 hi)).1, fun n hn => ?_⟩
      subst hx
      rw [DataW.weights, ht]
      exact List.mem_cons_of_mem _ (List.mem_append.2 (.inl (weightsAll_mem (List.mem_map.2 ⟨i, hi, rfl⟩) hn)))
/-- a slice of items in memory -/
structure IsL where
  A : Option Addr
  c : Nat
  l : List It
def IsL.val (y : IsL) : Value := .slice y.A y.l.length y.c
theorem cells_items : Try.prog.cellsOf 32 = 1 := by kernel_rfl
set_option maxRecDepth 20000 in
theorem open_ilists {fuel : Nat} {cs : List Value} {x : DataW H × List MemPlace} (h : DataW.trod enc Try.prog w base spare held fuel 30 cs = some x) :
    ∃ (A : Option Addr) (c : Nat) (L : List (List It)), cs = [.slice A L.length c] ∧ L.length ≤ c ∧ c ≤ maxLen ∧ LRd w w.heap.size A L ∧ ∀ r ∈ L, r = [] ∨ ∃ n ∈ x.1.weights Try.prog 30, r.length * 80 ≤ n := by
  obtain ⟨A, c, l, e, h1, h2, h3, h4⟩ := open_things2 (enc' := fun y : IsL => [y.val]) (k := 1) (p := fun d y => (Rd w w.heap.size y.A (its y.l) ∧ y.l.length ≤ y.c) ∧ (y.l = [] ∨ ∃ n ∈ d.weights Try.prog 32, y.l.length * 80 ≤ n)) (fun _ => rfl) (by omega) Try.underlying30 cells_items ⟨none, 0, []⟩ (fun h => by
    obtain ⟨A, c, l, e, h1, h2, h3, h4, h5⟩ := open_items h
    refine ⟨⟨A, c, l⟩, e, ⟨h3, h1⟩, ?_⟩
    rcases h5 with ⟨es, sp, ex, hl⟩ | h5
    · refine .inr ⟨(es.length + sp.length) * Try.prog.bytesOf 59, ?_, ?_⟩
      · rw [ex, DataW.weights, Try.underlying32]
        exact List.mem_cons_self
      · rw [bytes_item, hl]
        exact Nat.mul_le_mul_right _ (Nat.le_add_right _ _)
    · exact .inl h5) h
  refine ⟨A, c, l.map (·.l), by rw [List.length_map]; exact e, by rw [List.length_map]; exact h1, h2, ⟨l.map IsL.val, by simp, by rw [List.map_eq_flatMap]; exact h3, fun k hk => ?_⟩, fun r hr => ?_⟩
  · rw [List.length_map] at hk
    obtain ⟨d, hd, _⟩ := h4 l[k] (List.getElem_mem hk)
    refine ⟨l[k].A, l[k].c, ?_, ?_, ?_⟩
    · rw [List.getElem?_map, List.getElem?_eq_getElem hk, Option.map_some, List.getElem_map]
      rfl
    · rw [List.getElem_map]; exact hd.1.2
    · rw [List.getElem_map]; exact hd.1.1
  · obtain ⟨y, hy, rfl⟩ := List.mem_map.1 hr
    obtain ⟨d, hd, hn⟩ := h4 y hy
    rcases hd.2 with h5 | ⟨n, h5, h6⟩
    · exact .inl h5
    · exact .inr ⟨n, hn n h5, h6⟩
theorem ilists_sized {ts : List TypeId} {ds : List (DataW H)} {j : Nat} {d : DataW H} (hsz : (DataW.weightsEach Try.prog ts ds).all (· ≤ reachBytes) = true) (ht : ts[j]? = some 30) (hd : ds[j]? = some d) {L : List (List It)} (h : ∀ r ∈ L, r = [] ∨ ∃ n ∈ d.weights Try.prog 30, r.length * 80 ≤ n) : ∀ r ∈ L, r.length ≤ 1759218604441 := fun r hr => by
  rcases h r hr with rfl | ⟨n, hn, hle⟩
  · simp
  · have h1 := List.all_eq_true.1 hsz _ (DataW.weights_mem_each ht hd n hn)
    have h2 : n ≤ reachBytes := by simpa using h1
    unfold reachBytes at h2
    omega
end
end Go.Proofs.Ytflppcgonbjnmaa
