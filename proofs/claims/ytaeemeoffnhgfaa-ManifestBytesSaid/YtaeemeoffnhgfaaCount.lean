/-
  Words for a map of the call's own that counts names.
-/
import Derived.Test.YtaeemeoffnhgfaaOwnFile
import Derived.Maps.Own
import Derived.Maps.Views
namespace Go.Proofs.Ytaeemeoffnhgfaa
open Go.RowKit Go.WideMaps Go.Maps

/-- how often s is in L -/
def cnt (s : ByteArray) (L : List ByteArray) : Nat := (L.filter fun t => decide (t = s)).length
theorem cnt_append (s : ByteArray) (L M : List ByteArray) : cnt s (L ++ M) = cnt s L + cnt s M := by simp [cnt]
theorem cnt_le (s : ByteArray) (L : List ByteArray) : cnt s L ≤ L.length := List.length_filter_le _ _
theorem cnt_self (s : ByteArray) : cnt s [s] = 1 := by simp [cnt]
theorem cnt_other {s t : ByteArray} (h : t ≠ s) : cnt s [t] = 0 := by simp [cnt, h]
theorem count_law : Keyed Try.prog 9 := string_keyed Try.underlying9
theorem count_zero (w : World) : (zeroValue 3).run Try.prog w = .ok (.int .i64 0) w := by kernel_rfl
def kl (s : ByteArray) : Lit := .string s.data.toList
theorem kl_inj {s t : ByteArray} (h : kl s = kl t) : s = t := by
  unfold kl at h
  injection h with h
  have : s.data = t.data := by apply Array.toList_inj.1; exact h
  cases s; cases t; simp_all
theorem kl_ok {s : ByteArray} (h : s.size ≤ maxLen) : keyOf Try.prog 9 (.string s) = some (kl s) := keyOf_string_mk Try.underlying9 h
/-- the map in block b counts the names of L -/
def Cnt (w : World) (b n : Nat) (L : List ByteArray) : Prop := ∃ D : DataW Unit, w.ownsMap Try.prog 9 (plainElem Try.prog 3) b n D ∧ IsMap D ∧ ∀ s, D.atKey (kl s) (.lit (.int .i64 0)) = .lit (.int .i64 (cnt s L : Int))
theorem Cnt.made (w : World) : Cnt (w.alloc (.map #[] 0)) w.heap.size 0 [] := ⟨_, World.ownsMap_made w _ _ _, isMap_empty, fun s => by simp [DataW.atKey, cnt]⟩
theorem Cnt.kept {w w' : World} {b n : Nat} {L : List ByteArray} {row : Option Nat} (h : Cnt w b n L) (hg : w.grownBy w' row) (hne : some b ≠ row) : Cnt w' b n L := by
  obtain ⟨D, h1, h2, h3⟩ := h
  exact ⟨D, h1.kept hg hne, h2, h3⟩
theorem Cnt.lt {w : World} {b n : Nat} {L : List ByteArray} (h : Cnt w b n L) : b < w.heap.size := by
  obtain ⟨D, h1, h2, h3⟩ := h
  exact h1.lt
theorem Cnt.look {w : World} {b n : Nat} {L : List ByteArray} (h : Cnt w b n L) {s : ByteArray} (hs : s.size ≤ maxLen) :
    (Instr.lookup 74 (.map (some b)) (.string s) false).run Try.prog w = .ok (.int .i64 (cnt s L : Int)) w := by
  obtain ⟨D, h1, h2, h3⟩ := h
  obtain ⟨c, hrun, hat, _⟩ := h1.lookup_int count_law Try.underlying74 Try.underlying3 (count_zero _) (kl_ok hs)
  rw [h3] at hat
  simp only [DataW.lit.injEq, Lit.int.injEq, true_and] at hat
  subst hat
  exact hrun
theorem cnt_wf (c : Int) (h : 0 ≤ c ∧ c ≤ 1000000) : (Lit.int .i64 c).wf = true := by
  have e1 : IntKind.i64.min = -9223372036854775808 := by decide
  have e2 : IntKind.i64.max = 9223372036854775807 := by decide
  simp [Lit.wf, e1, e2]
  omega
theorem count_set {w : World} {ops : Array Oper} {rest : List Oper} {o : Oper} {a : Act} {Q : Exit → Act → World → Prop} {b n : Nat} {L : List ByteArray} (h : Cnt w b n L) (hn : n < 1000000) (hL : L.length < 1000000) {s : ByteArray} (hs : s.size ≤ maxLen)
    (hg : o.guard = none) (m x v : Operand) (hop : o.op = Op.mapUpdate 74 m x v) (hm : a.eval m = .map (some b)) (hx : a.eval x = .string s) (hv : a.eval v = .int .i64 ((cnt s L : Int) + 1))
    (hK : ∀ w', Cnt w' b (n + 1) (L ++ [s]) → w.grownBy w' (some b) → wpList Try.prog ops Q rest (a.put o.dst undef) w') : wpList Try.prog ops Q (o :: rest) a w := by
  obtain ⟨D, h1, h2, h3⟩ := h
  have hc := cnt_le s L
  refine wpList_mapUpdate_own w hg m x v 74 hop 9 3 count_law Try.underlying74 _ b n D hm h1 (by unfold maxLen; omega) _ _ (kl s) hx hv (kl_ok hs) (.lit (.int .i64 ((cnt s L : Int) + 1))) []
    (plainElem_int Try.underlying3 (cnt_wf _ (by omega))) fun w' hw' hgr => hK w' ⟨_, hw', h2.put _ _, fun t => ?_⟩ hgr
  by_cases e : t = s
  · subst e
    rw [atKey_put_same h2 (by trivial), cnt_append, cnt_self]
    simp
  · rw [atKey_put_other (fun k => e (kl_inj k)), h3, cnt_append, cnt_other (Ne.symm e)]
    simp
end Go.Proofs.Ytaeemeoffnhgfaa
