/-
  Parts for the laws that apply edits, one behind the other.
-/
import Derived.Test.YtaeemeoffnhgfaaGood13
namespace Go.Proofs.Ytaeemeoffnhgfaa
open Go.RowKit

theorem SBox.range {w : World} {g n c : Nat} {A : Option Addr} {nx fl : Int} (h : SBox w g A n c nx fl) : w.rangeAt g 0 [.slice A n c, .int .u64 nx, .int .u64 fl] := fun j v hv => by
  rw [Nat.zero_add, cell_of_row w g j _ _ (0, 0) h, ← Array.getElem?_toList]
  exact hv
theorem SBox.there {w : World} {g n c : Nat} {A : Option Addr} {nx fl : Int} (h : SBox w g A n c nx fl) : w.there g 0 3 := fun j hj => by
  refine ⟨?_, frozen_of_row _ _ _ _ _ h⟩
  rw [Nat.zero_add, cell_of_row _ _ _ _ _ (0, 0) h, Array.getElem?_eq_getElem (by simpa using hj)]
  rfl
/-- what reads as files does not lie in a variable that holds a state -/
theorem SBox.not_files {w : World} {g n c b o : Nat} {A : Option Addr} {nx fl : Int} (h : SBox w g A n c nx fl) {m : List Fi} (hm : m ≠ []) (hc : ∀ j (hj : j < (fis m).length), w.cell? ⟨b, o + j, none⟩ = some (fis m)[j]) : b ≠ g := by
  rintro rfl
  obtain ⟨x, m', rfl⟩ := List.exists_cons_of_ne_nil hm
  have h0 := hc 0 (by rw [fis_len]; simp)
  have e0 : (fis (x :: m'))[0]'(by rw [fis_len]; simp) = .int .i64 x.level := rfl
  rw [e0, cell_of_row w b _ _ _ (0, 0) h] at h0
  match o, h0 with
  | 0, h0 => cases h0
  | 1, h0 => cases h0
  | 2, h0 => cases h0
  | o + 3, h0 => simp at h0
theorem SBox.setW {w : World} {g n0 c0 : Nat} {A0 : Option Addr} {x0 y0 : Int} (h : SBox w g A0 n0 c0 x0 y0) (A : Option Addr) (n c : Nat) (nx fl : Int) {A' : Option Addr} {m : List Fi} (hr : Rd w w.heap.size A' (fis m)) {M : World → Prop}
    (hM : ∀ w', Hid (SBox w' g A n c nx fl) → Hid (w.grownBy w' (some g)) → Hid (Rd w' w'.heap.size A' (fis m)) → M w') : M (w.setCells g 0 (stC A n c nx fl).toList) := by
  have hg := (setCells_block _ _ (stC A n c nx fl).toList 0 w _ h).2
  have h1 := heap_setCell_same w _ 0 _ _ (.slice A n c) h
  have h2 := heap_setCell_same _ _ 1 _ _ (.int .u64 nx) h1
  have h3 := heap_setCell_same _ _ 2 _ _ (.int .u64 fl) h2
  refine hM _ (Lib.hid h3) (Lib.hid hg) (Lib.hid fun hn => ?_)
  have hm : m ≠ [] := fun e => hn (by rw [e]; rfl)
  obtain ⟨b, o, e, hb, hc⟩ := hr hn
  have hne := h.not_files hm hc
  exact ⟨b, o, e, Nat.lt_of_lt_of_le hb hg.size, fun j hj => (World.cell?_of_block (hg.block b hb (fun e => hne (by injection e)))).trans (hc j hj)⟩
theorem made_state {w4 W : World} {B : Nat} (hb : Below B w4 W) (hB : B ≤ W.heap.size) :
    SBox (W.alloc (.cells #[.slice none 0 0, .int .u64 0, .int .u64 0] 30)) W.heap.size none 0 0 0 0 ∧ Below B w4 (W.alloc (.cells #[.slice none 0 0, .int .u64 0, .int .u64 0] 30)) ∧ B ≤ W.heap.size :=
  ⟨SBox.new _ _ _ _ _ _, hb.trans ((below_al W _).mono hB), hB⟩
theorem apply_edit {w4 : World} {A : Option Addr} {cs NS NA ND K : Nat} {S m : List Fi} {e : Ed} {nx fl r X Y : Int} (hrm : applyF nx fl e.nx e.fl S e.add e.del = (r, m)) (hK : m.length = K) (hX : (if r = 0 then e.nx else 0) = X) (hY : (if r = 0 then e.fl else 0) = Y)
    (hS : Rd w4 w4.heap.size A (fis S)) (hE : e.In w4) (eS : S.length = NS) (eA : e.add.length = NA) (eD : e.del.length = ND) (l1 : NS ≤ 100000) (l2 : NA ≤ 100000) (l3 : ND ≤ 100000) (hg : Good S) : ∀ W, Below w4.heap.size w4 W →
    Calls Try.prog 12 #[.agg #[.slice A NS cs, .int .u64 nx, .int .u64 fl], .agg #[.slice e.A NA e.c, .slice e.D ND e.d, .int .u64 e.nx, .int .u64 e.fl]] W fun e' w' =>
      ∃ (A6 : Option Addr) (c6 : Nat), e' = .returned (.tuple #[.agg #[.slice A6 K c6, .int .u64 X, .int .u64 Y], .int .i64 r]) ∧ Rd w' w'.heap.size A6 (fis m) ∧ Below W.heap.size W w' := fun W hb => by
  have hE' := hE.below hb
  have h := apply_any A e.A e.D cs e.c e.d NS NA ND S e.add e.del nx fl e.nx e.fl W ((hS.below hb).more hb.size) hE'.1 hE'.2.1 eS eA eD l1 l2 l3 (fun x hx => by have := may_name (hg.may x hx); unfold maxLen; omega)
  rw [hrm] at h
  subst hK hX hY
  exact h
/-- the state in the variable g behind i edits -/
def Run (w W : World) (g i : Nat) : Prop := w.heap.size ≤ g ∧ Below w.heap.size w W ∧ ∃ (S : List Fi) (A : Option Addr) (c : Nat) (nx fl : Int), SBox W g A S.length c nx fl ∧ Rd W W.heap.size A (fis S) ∧ S.length ≤ 40 * i ∧ Good S
theorem Run.start {w w2 : World} (hb : Below w.heap.size w w2) : Run w (w2.alloc (.cells #[.slice none 0 0, .int .u64 0, .int .u64 0] 30)) w2.heap.size 0 :=
  ⟨hb.size, hb.trans ((below_al w2 _).mono hb.size), [], none, 0, 0, 0, SBox.new _ _ _ _ _ _, Rd.nil, Nat.zero_le _, Good.nil⟩
theorem Run.next {w W : World} {g i K c : Nat} {A : Option Addr} {S : List Fi} {nx fl : Int} (hg : w.heap.size ≤ g) (hb : Below w.heap.size w W) (hK : S.length = K) (hs : SBox W g A K c nx fl) (hr : Rd W W.heap.size A (fis S)) (hl : S.length ≤ 40 * (i + 1)) (hgood : Good S) : Run w W g (i + 1) := by
  subst hK
  exact ⟨hg, hb, S, A, c, nx, fl, hs, hr, hl, hgood⟩
theorem over_once (A : Option Addr) (c N : Nat) (l : List Fi) (nx fl z : Int) (row : ByteArray) (w : World) (hl : Rd w w.heap.size A (fis l)) (hN : l.length = N) (hlen : N ≤ 100000) (ha : apart l = true) (hz : 0 < z) :
    Calls Try.prog 20 #[.agg #[.slice A N c, .int .u64 nx, .int .u64 fl], .int .i64 z, .string row, .string row] w fun e w' => ∃ (A' : Option Addr) (n' c' : Nat), e = .returned (.slice A' n' c') ∧ n' ≤ 1 ∧ Below w.heap.size w w' := by
  refine (over_any A c N l nx fl z row row w hl hN hlen).mono ?_
  rintro e w' ⟨A', n', c', rfl, ho, hb⟩
  exact ⟨A', n', c', rfl, by rw [← ho.len]; exact once_row ha hz row, hb⟩
end Go.Proofs.Ytaeemeoffnhgfaa
