/-
  Parts for the walk of manifest.Apply: look-ups, calls, append, each in words of the call's own slices.
-/
import Derived.Test.YtaeemeoffnhgfaaApplyPlain
import Derived.Test.YtaeemeoffnhgfaaAppG
namespace Go.Proofs.Ytaeemeoffnhgfaa
open Go.RowKit

theorem idx_none {α : Type} {q : α → Bool} {l : List α} (h : l.findIdx? q = none) : idx q l = -1 := by unfold idx; rw [h]
theorem idx_some {α : Type} {q : α → Bool} {l : List α} {i : Nat} (h : l.findIdx? q = some i) : idx q l = (i : Int) := by unfold idx; rw [h]
theorem idx_lt {α : Type} {q : α → Bool} {l : List α} {i : Nat} (h : l.findIdx? q = some i) : i < l.length := (List.findIdx?_eq_some_iff_getElem.1 h).1
theorem indexNamed (g n c : Nat) (d : ByteArray) (A : Option Addr) (L : List Fi) (W : World) (hg : g < W.heap.size) (hc : W.cell? ⟨g, 0, none⟩ = some (.string d)) (hl : Rd W W.heap.size A (fis L)) (hL : L.length = n) (hn : n ≤ 1000000) :
    Calls Try.prog 33 #[.slice A n c, .func (.func 34) #[] #[.pointer (some ⟨g, 0, none⟩)]] W fun e w' => e = .returned (.int .i64 (idx (named d) L)) ∧ Below W.heap.size W w' := by
  subst hL
  exact indexFile_any 34 #[.pointer (some ⟨g, 0, none⟩)] (named d) W (fun args W => by kernel_rfl) (fun x W' hW' => isNamed_any x g d W' (Nat.lt_of_lt_of_le hg hW'.size) ((hW'.cell (p := ⟨g, 0, none⟩) hg).trans hc)) A c L hl (by unfold maxLen; omega)
theorem concatTwo (A A' : Option Addr) (n n' N c c' : Nat) (l l' : List Fi) (W : World) (g cg : Nat) (hN : n + n' = N) (hg : Rd W W.heap.size (some ⟨g, 0, none⟩) [.slice A n c, .slice A' n' c']) (h1 : Rd W W.heap.size A (fis l)) (h2 : Rd W W.heap.size A' (fis l')) (e1 : l.length = n) (e2 : l'.length = n') (hn : n ≤ 100000) (hn' : n' ≤ 100000) :
    Calls Try.prog 36 #[.slice (some ⟨g, 0, none⟩) 2 cg] W fun e w' => ∃ (A0 : Option Addr) (c0 : Nat), e = .returned (.slice A0 N c0) ∧ OwnF w' W.heap.size A0 N c0 (l ++ l') ∧ Below W.heap.size W w' := by
  subst hN
  have h := concat_any (some ⟨g, 0, none⟩) cg [⟨A, n, c, fis l⟩, ⟨A', n', c', fis l'⟩] W hg (fun x hx => by
    rcases List.mem_cons.1 hx with rfl | hx
    · exact ⟨h1, by rw [fis_len, e1], fis_one l⟩
    · rcases List.mem_cons.1 hx with rfl | hx
      · exact ⟨h2, by rw [fis_len, e2], fis_one l'⟩
      · cases hx) (by simp) (by simp [total]; omega)
  have et : total [⟨A, n, c, fis l⟩, ⟨A', n', c', fis l'⟩] = n + n' := by simp [total]
  have ej : joined [⟨A, n, c, fis l⟩, ⟨A', n', c', fis l'⟩] = fis (l ++ l') := by simp [joined, fis]
  rw [et, ej] at h
  exact h
theorem OwnF.le {w : World} {B n c : Nat} {A : Option Addr} {l : List Fi} (h : OwnF w B A n c l) : n ≤ c := by
  rcases h.2 with ⟨_, h2⟩ | ⟨g, cap, cur, hv, hb, hg, h3, h4, h5, h6⟩
  · omega
  · injection hv with _ _ hc
    omega
theorem apartOwn (B n c : Nat) (A : Option Addr) (l : List Fi) (w : World) (h : OwnF w B A n c l) (hn : n ≤ 1000000) :
    Calls Try.prog 37 #[.slice A n c] w fun e w' => e = .returned (.bool (apart l)) ∧ Below w.heap.size w w' := by
  have hl := h.len
  have hc := h.le
  subst hl
  exact apart_any A c l w (Own.rd h (by omega)) hn hc
theorem files_app {w : World} {ops : Array Oper} {rest : List Oper} {o : Oper} {a : Act} {Q : Exit → Act → World → Prop} (hw : Region.wanted o (yielded ops a.tmps) = true) (s x : Operand)
    (ho : o.op = .call { callee := .builtin .append, args := #[s, x], argTypes := #[25, 25] })
    (B : Nat) (A : Option Addr) (n c N : Nat) (L add : List Fi) (hs : a.eval s = .slice A n c) (hown : OwnF w B A n c L) (A2 : Option Addr) (m c2 : Nat) (hx : a.eval x = .slice A2 m c2) (hr : Rd w w.heap.size A2 (fis add)) (hm : add.length = m)
    (hN : n + m = N) (hl : N ≤ 1000000) (hB : B ≤ w.heap.size)
    (h : ∀ A' c' w', Hid (OwnF w' B A' N c' (L ++ add)) → Hid (w.grownBy w' (blk A)) → wpList Try.prog ops Q rest (a.put o.dst (.slice A' N c')) w') : wpList Try.prog ops Q (o :: rest) a w := by
  obtain ⟨i0, hi0, hz0, hz1, hz2⟩ := info_parts fileInfo
  subst hN
  refine wpList_app_g hw s x 25 ho B 23 i0 zeroFile 5 64 Try.underlying25 hi0 hz0 hz1 hz2 rfl (by decide) A n c (fis L) hs hown w.heap.size A2 m c2 (fis add) hx hr (by rw [fis_len, hm]) (fis_one add) (by unfold maxLen; omega) (by omega) hB ?_
  intro A' c' w' h1 h2 _
  exact h A' c' w' (Lib.hid (by unfold OwnF; rw [show fis (L ++ add) = fis L ++ fis add from List.flatMap_append]; exact h1)) (Lib.hid h2)
theorem may_name {f : Fi} (h : may f = true) : f.name.size ≤ 59 := by
  unfold may nm at h
  simp at h
  omega
theorem Cnt.below {w w' : World} {b n : Nat} {L : List ByteArray} (h : Cnt w b n L) (hb : Below w.heap.size w w') : Cnt w' b n L := h.kept (grownBy_below hb none) (by simp)
theorem OwnF.below {w w' : World} {B n c : Nat} {A : Option Addr} {l : List Fi} (h : OwnF w B A n c l) (hb : Below w.heap.size w w') : OwnF w' B A n c l := Own.below h hb
theorem OwnF.apart_from {w w' : World} {B n c M : Nat} {A : Option Addr} {l : List Fi} (h : OwnF w B A n c l) (hg : w.grownBy w' (some M)) (hM : M < B) : OwnF w' B A n c l := Own.grown h hg (.inr fun e => by have := (Own.lt h M e).1; omega)
/-- one element of an own slice of files -/
theorem OwnF.elem {w : World} {B n c k : Nat} {A : Option Addr} {l : List Fi} (h : OwnF w B A n c l) (hk : k < l.length) : ∃ b o, A = some ⟨b, o, none⟩ ∧ w.rangeAt b (o + k * 5) l[k].vals := by
  obtain ⟨b, o, e, _, hc⟩ := (Own.rd h (by omega)).at_ (fis_ne hk)
  exact ⟨b, o, e, Rd.enc_range Fi.vals_len hc k hk⟩
theorem rd_elem {w : World} {B k : Nat} {A : Option Addr} {l : List Fi} (h : Rd w B A (fis l)) (hk : k < l.length) : ∃ b o, A = some ⟨b, o, none⟩ ∧ w.rangeAt b (o + k * 5) l[k].vals := by
  obtain ⟨b, o, e, _, hc⟩ := h.at_ (fis_ne hk)
  exact ⟨b, o, e, Rd.enc_range Fi.vals_len hc k hk⟩
theorem nms_next {l : List Fi} {k : Nat} (hk : k < l.length) : nms (l.take (k + 1)) = nms (l.take k) ++ [l[k].name] := by
  unfold nms
  rw [List.take_succ_eq_append_getElem hk, List.map_append]
  rfl
theorem nms_len (l : List Fi) (k : Nat) (hk : k ≤ l.length) : (nms (l.take k)).length = k := by unfold nms; rw [List.length_map, List.length_take]; omega
end Go.Proofs.Ytaeemeoffnhgfaa
