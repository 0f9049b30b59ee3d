/-
  Words for slices of cells of the call's own; append onto them. No conditions.
-/
import Derived.Test.YtoligmmjmghgnaaIndexCell
import Derived.Test.YtoligmmjmghgnaaQBox
import Derived.Test.YtoligmmjmghgnaaRegKit14
namespace Go.Proofs.Ytoligmmjmghgnaa
open Go.RowKit
attribute [local go_sem ↓] Go.wp_at_zero Go.wp_at_succ

def OwnC (w : World) (B : Nat) (A : Option Addr) (n c : Nat) (l : List Cl) : Prop := Own w B 29 6 A n c (cls l)
theorem OwnC.len {w : World} {B n c : Nat} {A : Option Addr} {l : List Cl} (h : OwnC w B A n c l) : l.length = n := by
  have := h.1
  rw [cls_len] at this
  omega
theorem OwnC.rd {w : World} {B n c : Nat} {A : Option Addr} {l : List Cl} (h : OwnC w B A n c l) : Rd w w.heap.size A (cls l) := Own.rd h (by omega)
theorem OwnC.below {w w' : World} {B n c : Nat} {A : Option Addr} {l : List Cl} (h : OwnC w B A n c l) (hb : Below w.heap.size w w') : OwnC w' B A n c l := Own.below h hb
theorem OwnC.lower {w : World} {B B' n c : Nat} {A : Option Addr} {l : List Cl} (h : OwnC w B A n c l) (hB : B' ≤ B) : OwnC w B' A n c l := Own.lower h hB
theorem OwnC.le {w : World} {B n c : Nat} {A : Option Addr} {l : List Cl} (h : OwnC w B A n c l) : n ≤ c := by
  rcases h.2 with ⟨_, h2⟩ | ⟨g, cap, cur, hv, hb, hg, h3, h4, h5, h6⟩
  · omega
  · injection hv with _ _ hc
    omega
theorem OwnC.nil {w : World} {B : Nat} : OwnC w B none 0 0 [] := Own.nil
theorem cells_app {w : World} {ops : Array Oper} {rest : List Oper} {o : Oper} {a : Act} {Q : Exit → Act → World → Prop} (hw : Region.wanted o (yielded ops a.tmps) = true) (s x : Operand)
    (ho : o.op = .call { callee := .builtin .append, args := #[s, x], argTypes := #[26, 26] })
    (B : Nat) (A : Option Addr) (n c N : Nat) (L add : List Cl) (hs : a.eval s = .slice A n c) (hown : OwnC w B A n c L) (A2 : Option Addr) (m c2 : Nat) (hx : a.eval x = .slice A2 m c2) (hr : Rd w w.heap.size A2 (cls add)) (hm : add.length = m)
    (hN : n + m = N) (hl : N ≤ 1000000) (hB : B ≤ w.heap.size)
    (h : ∀ A' c' w', Hid (OwnC w' B A' N c' (L ++ add)) → Hid (w.grownBy w' (blk A)) → wpList Try.prog ops Q rest (a.put o.dst (.slice A' N c')) w') : wpList Try.prog ops Q (o :: rest) a w := by
  obtain ⟨i0, hi0, hz0, hz1, hz2⟩ := info_parts cellInfo
  subst hN
  refine wpList_app_g hw s x 26 ho B 29 i0 zeroCell 6 72 Try.underlying26 hi0 hz0 hz1 hz2 rfl (by decide) A n c (cls L) hs hown w.heap.size A2 m c2 (cls add) hx hr (by rw [cls_len, hm]) (cls_one add) (by unfold maxLen; omega) (by omega) hB ?_
  intro A' c' w' h1 h2 _
  exact h A' c' w' (Lib.hid (by unfold OwnC; rw [show cls (L ++ add) = cls L ++ cls add from List.flatMap_append]; exact h1)) (Lib.hid h2)
theorem cells_app3 {w : World} {ops : Array Oper} {rest : List Oper} {o : Oper} {a : Act} {Q : Exit → Act → World → Prop} (hw : Region.wanted o (yielded ops a.tmps) = true) (s x : Operand)
    (ho : o.op = .call { callee := .builtin .append, args := #[s, x], argTypes := #[26, 26] })
    (B : Nat) (A : Option Addr) (n c N : Nat) (L add : List Cl) (hs : a.eval s = .slice A n c) (hown : OwnC w B A n c L) (A2 : Option Addr) (m c2 : Nat) (hx : a.eval x = .slice A2 m c2) (hr : Rd w w.heap.size A2 (cls add)) (hm : add.length = m)
    (hN : n + m = N) (hl : N ≤ 1000000) (hB : B ≤ w.heap.size)
    (h : ∀ A' c' w', Hid (OwnC w' B A' N c' (L ++ add)) → Hid (w.grownBy w' (blk A)) → Hid (blk A' = blk A ∨ blk A' = some w.heap.size) → wpList Try.prog ops Q rest (a.put o.dst (.slice A' N c')) w') : wpList Try.prog ops Q (o :: rest) a w := by
  obtain ⟨i0, hi0, hz0, hz1, hz2⟩ := info_parts cellInfo
  subst hN
  refine wpList_app_g hw s x 26 ho B 29 i0 zeroCell 6 72 Try.underlying26 hi0 hz0 hz1 hz2 rfl (by decide) A n c (cls L) hs hown w.heap.size A2 m c2 (cls add) hx hr (by rw [cls_len, hm]) (cls_one add) (by unfold maxLen; omega) (by omega) hB ?_
  intro A' c' w' h1 h2 h3
  exact h A' c' w' (Lib.hid (by unfold OwnC; rw [show cls (L ++ add) = cls L ++ cls add from List.flatMap_append]; exact h1)) (Lib.hid h2) (Lib.hid h3)
theorem rd_made {w : World} {g : Nat} {T : TypeId} (x : Cl) {c : Array Value} (hc : c.toList = x.vals) (hg : w.heap.size = g) : Rd (w.alloc (.cells c T)) (w.alloc (.cells c T)).heap.size (some ⟨g, 0, none⟩) (cls [x]) := by
  rw [← hg]
  have := Rd.ofBlock (heap_alloc_new w (.cells c T)) hc
  rw [show cls [x] = x.vals by simp [cls]]
  exact this
theorem rd_elem {w : World} {B k : Nat} {A : Option Addr} {l : List Cl} (h : Rd w B A (cls l)) (hk : k < l.length) : ∃ b o, A = some ⟨b, o, none⟩ ∧ b < B ∧ w.rangeAt b (o + k * 6) l[k].vals := by
  obtain ⟨b, o, e, hb, hc⟩ := h.at_ (cls_ne hk)
  exact ⟨b, o, e, hb, Rd.enc_range Cl.vals_len hc k hk⟩
theorem filter_next {α : Type} {q : α → Bool} {l : List α} {k : Nat} (hk : k < l.length) : (l.take (k + 1)).filter q = (l.take k).filter q ++ (if q l[k] then [l[k]] else []) := by
  rw [List.take_succ_eq_append_getElem hk, List.filter_append]
  congr 1
  rw [List.filter_cons, List.filter_nil]
end Go.Proofs.Ytoligmmjmghgnaa
