/-
  The walks of the reader of bytes and of manifest.Decode. No conditions.
-/
import Derived.Test.YtaeemeoffnhgfaaByB13
import Derived.Laws.Bits64b
namespace Go.Proofs.Ytaeemeoffnhgfaa
open Go.RowKit
attribute [local go_sem ↓] Go.wp_at_zero Go.wp_at_succ

/-- the reader in block g: what is left, and whether more was asked for -/
def Rdr (w : World) (g : Nat) (s : ByteArray) (b : Bool) : Prop := w.heap[g]? = some (.cells #[.string s, .bool b] 92 (0, 0))
theorem Rdr.lt {w : World} {g : Nat} {s : ByteArray} {b : Bool} (h : Rdr w g s b) : g < w.heap.size := (Array.getElem?_eq_some_iff.1 h).1
theorem Rdr.cells {w : World} {g : Nat} {s : ByteArray} {b : Bool} (h : Rdr w g s b) : w.cell? ⟨g, 0, none⟩ = some (.string s) ∧ w.cell? ⟨g, 1, none⟩ = some (.bool b) := by
  have f := fun j => cell_of_row w g j _ _ (0, 0) h
  exact ⟨f 0, f 1⟩
theorem Rdr.free {w : World} {g : Nat} {s : ByteArray} {b : Bool} (h : Rdr w g s b) : w.frozen? ⟨g, 0, none⟩ = false ∧ w.frozen? ⟨g, 1, none⟩ = false := ⟨frozen_of_row _ _ _ _ _ h, frozen_of_row _ _ _ _ _ h⟩
theorem Rdr.set0 {w : World} {g : Nat} {s : ByteArray} {b : Bool} (h : Rdr w g s b) (s' : ByteArray) : Rdr (w.setCell ⟨g, 0, none⟩ (.string s')) g s' b := by
  unfold Rdr at *
  exact heap_setCell_same w g 0 _ _ _ h
theorem Rdr.set1 {w : World} {g : Nat} {s : ByteArray} {b : Bool} (h : Rdr w g s b) (b' : Bool) : Rdr (w.setCell ⟨g, 1, none⟩ (.bool b')) g s b' := by
  unfold Rdr at *
  exact heap_setCell_same w g 1 _ _ _ h
theorem grown_set (w : World) (g o : Nat) (v : Value) : w.grownBy (w.setCell ⟨g, o, none⟩ v) (some g) := ⟨rfl, rfl, rfl, by simp [World.setCell], fun k _ hk => heap_setCell_other w ⟨g, o, none⟩ k v (fun e => hk (by simp [e]))⟩

/-- the first n bytes, and the rest; if there are not as many: nothing, and the mark -/
def takeP (n : Nat) (st : ByteArray × Bool) : ByteArray × ByteArray × Bool := if st.1.size < n then (ByteArray.empty, st.1, true) else (st.1.extract 0 n, st.1.extract n st.1.size, st.2)

set_option maxHeartbeats 2000000 in
theorem take_any (g n : Nat) (s : ByteArray) (b : Bool) (w : World) (h : Rdr w g s b) (hn : n ≤ 100000) (hs : s.size ≤ 100000000) :
    Calls Try.prog 69 #[.pointer (some ⟨g, 0, none⟩), .int .i64 n] w fun e w' => e = .returned (.string (takeP n (s, b)).1) ∧ Rdr w' g (takeP n (s, b)).2.1 (takeP n (s, b)).2.2 ∧ w.grownBy w' (some g) := by
  obtain ⟨c0, c1⟩ := h.cells
  obtain ⟨f0, f1⟩ := h.free
  have H := Lib.hid h
  clear h
  by_cases hc : s.size < n
  · have e1 : decide ((s.size : Int) < (n : Int)) = true := decide_eq_true (by omega)
    have HT := Lib.hid (show takeP n (s, b) = (ByteArray.empty, s, true) from if_pos hc)
    go_enter Try.func69, Try.ntmps69
    go_wp2
    go_ret
    exact ⟨by rw [HT.out]; rfl, by rw [HT.out]; exact (H.out.set1 true).set0 s, grownBy_trans (grown_set _ _ _ _) (grown_set _ _ _ _)⟩
  · have e1 : decide ((s.size : Int) < (n : Int)) = false := decide_eq_false (by omega)
    have HT := Lib.hid (show takeP n (s, b) = (s.extract 0 n, s.extract n s.size, b) from if_neg hc)
    go_enter Try.func69, Try.ntmps69
    go_wp2
    go_ret
    exact ⟨by rw [HT.out]; rfl, by rw [HT.out]; exact H.out.set0 _, grown_set _ _ _ _⟩

/-- the number whose lowest byte is the first -/
def numL : List UInt8 → Nat
  | [] => 0
  | b :: l => b.toNat + 256 * numL l
theorem takeP_size (n : Nat) (s : ByteArray) (b : Bool) : (takeP n (s, b)).1.size ≤ n ∧ (takeP n (s, b)).2.1.size ≤ s.size := by
  unfold takeP
  split
  · exact ⟨Nat.zero_le _, Nat.le_refl _⟩
  · simp only [ByteArray.size_extract]
    omega
def numP (k : Nat) (st : ByteArray × Bool) : Nat × ByteArray × Bool := (numL (takeP k st).1.data.toList, (takeP k st).2)
theorem bytes_of (w : World) (x : ByteArray) : ∃ (c : Nat) (W : World), (convert 9 89 (.string x)).run Try.prog w = .ok (.slice (some ⟨w.heap.size, 0, none⟩) x.size c) W ∧ Below w.heap.size w W ∧
    (∀ i (h : i < x.data.toList.length), W.cell? ⟨w.heap.size, i, none⟩ = some (.int .u8 (x.data.toList[i].toNat : Int))) ∧ (∀ g s b, Rdr w g s b → Rdr W g s b) := by
  refine ⟨_, _, run_bytes_of_string w 9 89 5 x Try.underlying9 Try.underlying89 Try.underlying5, ?_, ?_, ?_⟩
  · exact ((Below.refl _ w).drew).alloc (Nat.le_refl _) _
  · intro i h
    have hn : ∀ o : Obj, (w.drew.alloc o).heap[w.heap.size]? = some o := fun o => heap_alloc_new w.drew o
    rw [cell_of_row _ _ i _ _ _ (hn _)]
    unfold bytesRow
    have h' : i < x.data.size := by simpa using h
    rw [Array.getElem?_append_left (by simpa using h')]
    simp
    exact ⟨_, Array.getElem?_eq_getElem h', rfl⟩
  · intro g s b hr
    have hb : Below w.heap.size w (w.drew.alloc (.cells (bytesRow x (grownCap w x.size 0 5)) 5 ((bytesRow x (grownCap w x.size 0 5)).size, (bytesRow x (grownCap w x.size 0 5)).size + 1))) := ((Below.refl _ w).drew).alloc (Nat.le_refl _) _
    exact (hb.block g hr.lt).trans hr
theorem numL_take {l : List UInt8} {i : Nat} (h : i < l.length) : numL (l.take (i + 1)) = numL (l.take i) + l[i].toNat * 256 ^ i := by
  induction l generalizing i with
  | nil => simp at h
  | cons b l ih =>
    cases i with
    | zero => simp [numL]
    | succ i =>
      have h' : i < l.length := by simpa using h
      simp only [List.take_succ_cons, numL, List.getElem_cons_succ]
      rw [ih h', Nat.mul_add, Nat.pow_succ]
      have : 256 * (l[i].toNat * 256 ^ i) = l[i].toNat * (256 ^ i * 256) := by rw [Nat.mul_comm 256, Nat.mul_assoc]
      omega
theorem numL_lt (l : List UInt8) : numL l < 256 ^ l.length := by
  induction l with
  | nil => simp [numL]
  | cons b l ih =>
    simp only [numL, List.length_cons, Nat.pow_succ]
    have := b.toNat_lt
    omega
theorem or_step {a b i : Nat} (ha : a < 256 ^ i) (hb : b < 256) (hi : i < 8) : bits .or .u64 (a : Int) (IntKind.u64.wrap (IntKind.u64.wrap (b : Int) * 2 ^ (8 * i))) = ((a + b * 256 ^ i : Nat) : Int) := by
  have h7 : 256 ^ i ≤ 256 ^ 7 := Nat.pow_le_pow_right (by omega) (by omega)
  have h8 : b * 256 ^ i ≤ 255 * 256 ^ 7 := Nat.mul_le_mul (by omega) h7
  have e8 : (256 : Nat) ^ 7 = 72057594037927936 := by decide
  rw [e8] at h7 h8
  have e2 : (2 : Nat) ^ (8 * i) = 256 ^ i := by rw [Nat.pow_mul]
  rw [wrap_nat b (by omega), show ((b : Int) * 2 ^ (8 * i)) = ((b * 2 ^ (8 * i) : Nat) : Int) by simp, e2, wrap_nat _ (by omega), bits_or_u64_nat _ _ (by omega) (by omega)]
  have h := Nat.two_pow_add_eq_or_of_lt (i := 8 * i) (b := a) (by rw [e2]; exact ha) b
  rw [e2] at h
  rw [Nat.or_comm, Nat.mul_comm b, ← h, Nat.add_comm]
def shP (st : ByteArray × Bool) : ByteArray × ByteArray × Bool := takeP (numP 1 st).1 (numP 1 st).2
set_option maxRecDepth 20000 in
set_option maxHeartbeats 2000000 in
theorem readNumber (g k : Nat) (s : ByteArray) (b : Bool) (w : World) (h : Rdr w g s b) (hk : k ≤ 8) (hs : s.size ≤ 100000000) :
    Calls Try.prog 54 #[.pointer (some ⟨g, 0, none⟩), .int .i64 k] w fun e w' => e = .returned (.int .u64 (numP k (s, b)).1) ∧ Rdr w' g (numP k (s, b)).2.1 (numP k (s, b)).2.2 ∧ w.grownBy w' (some g) := by
  have HTK := Lib.hid (take_any g k s b w h (by omega) hs)
  obtain ⟨t, ht⟩ : ∃ t, takeP k (s, b) = t := ⟨_, rfl⟩
  rw [ht] at HTK
  unfold numP
  rw [ht]
  obtain ⟨x, s', b'⟩ := t
  have hx : x.data.toList.length ≤ 8 := by
    have := (takeP_size k s b).1
    rw [ht] at this
    exact Nat.le_trans this hk
  obtain ⟨xs, hxs⟩ : ∃ xs, x.data.toList = xs := ⟨_, rfl⟩
  have hxl : x.size = xs.length := by rw [← hxs]; rfl
  rw [hxs] at hx
  go_enter Try.func54, Try.ntmps54
  go_wp2_with (go_at_call 69; refine HTK.out.mono ?_; rintro e w1 ⟨rfl, hR, hG⟩; obtain ⟨cp, W2, hcv, hb2, hcl, hrd⟩ := bytes_of w1 x; rw [hxl] at hcv; have HR := Lib.hid (hrd _ _ _ hR); have HG := Lib.hid (grownBy_trans hG (grownBy_below hb2 _)); rw [hxs] at hcl; have HCL := Lib.hid hcl; clear hR hG hrd hb2 hcl)
  go_loopw [4, 12] (fun v4 v12 wr => ∃ i : Nat, v4 = .int .u64 (numL (xs.take i) : Nat) ∧ v12 = .int .i64 (i : Int) ∧ i ≤ xs.length ∧ wr = W2) (fun _ v12 _ => xs.length - (intOf v12).toNat)
  case atStart => exact ⟨0, rfl, rfl, Nat.zero_le _, rfl⟩
  case round =>
    obtain ⟨i, rfl, rfl, hi, rfl⟩ := hrel
    by_cases hlt : i < xs.length
    · have e1 : decide ((i : Int) < (xs.length : Int)) = true := decide_eq_true (by omega)
      have k1 : (0 : Int) ≤ (i : Int) := by omega
      have k2 : (i : Int) < (xs.length : Int) := by omega
      have hc := HCL.out i hlt
      have hw8 : IntKind.i64.wrap (8 * (i : Int)) = 8 * (i : Int) := by rw [IntWalk.i64_in _ (by omega)]
      have hb9 := xs[i].toNat_lt
      have hst := or_step (a := numL (xs.take i)) (b := xs[i].toNat) (i := i) (by have := numL_lt (xs.take i); rw [List.length_take, Nat.min_eq_left (by omega)] at this; exact this) (by omega) (by omega)
      rw [← numL_take hlt, wrap_nat xs[i].toNat (by omega)] at hst
      go_wp2
      exact ⟨⟨i + 1, rfl, by first | rfl | go_num, by omega, trivial⟩, by simp [intOf]; omega⟩
    · have e1 : decide ((i : Int) < (xs.length : Int)) = false := decide_eq_false (by omega)
      have HE := Lib.hid (show numL (xs.take i) = numL x.data.toList by rw [hxs, List.take_of_length_le (by omega)])
      go_wp2
      go_ret
      exact ⟨by rw [← HE.out]; rfl, HR.out, HG.out⟩
set_option maxHeartbeats 1000000 in
theorem readShort (g : Nat) (s : ByteArray) (b : Bool) (w : World) (h : Rdr w g s b) (hs : s.size ≤ 100000000) :
    Calls Try.prog 55 #[.pointer (some ⟨g, 0, none⟩)] w fun e w' => e = .returned (.string (shP (s, b)).1) ∧ Rdr w' g (shP (s, b)).2.1 (shP (s, b)).2.2 ∧ w.grownBy w' (some g) := by
  have H1 := Lib.hid (readNumber g 1 s b w h (by omega) hs)
  unfold shP
  have hz := (takeP_size 1 s b).2
  have hl := numL_lt (takeP 1 (s, b)).1.data.toList
  have hl1 : (takeP 1 (s, b)).1.data.toList.length ≤ 1 := (takeP_size 1 s b).1
  have hN : numL (takeP 1 (s, b)).1.data.toList < 256 := by
    rcases Nat.eq_zero_or_pos (takeP 1 (s, b)).1.data.toList.length with h0 | h0
    · rw [h0] at hl; omega
    · rw [show (takeP 1 (s, b)).1.data.toList.length = 1 by omega] at hl; omega
  obtain ⟨t, ht⟩ : ∃ t, numP 1 (s, b) = t := ⟨_, rfl⟩
  have ht1 : numL (takeP 1 (s, b)).1.data.toList = t.1 := by rw [← ht]; rfl
  have ht2 : (takeP 1 (s, b)).2.1 = t.2.1 := by rw [← ht]; rfl
  rw [ht1] at hN
  rw [ht2] at hz
  rw [ht] at H1 ⊢
  obtain ⟨N, s', b'⟩ := t
  simp only at hN hz H1 ⊢
  have HT := Lib.hid (fun W (h : Rdr W g s' b') => take_any g N s' b' W h (by omega) (by omega))
  clear ht ht1 ht2 hl hl1
  have hwN : IntKind.i64.wrap (N : Int) = (N : Int) := IntWalk.i64_in _ (by omega)
  go_enter Try.func55, Try.ntmps55
  go_wp2_with (first
    | (go_at_call 54; refine H1.out.mono ?_; rintro e w1 ⟨rfl, hR, hG⟩; have HR := Lib.hid hR; have HG := Lib.hid hG; clear hR hG)
    | (go_at_call 69; refine (HT.out _ HR.out).mono ?_; rintro e w2 ⟨rfl, hR2, hG2⟩))
  go_ret
  exact ⟨rfl, hR2, grownBy_trans HG.out hG2⟩
end Go.Proofs.Ytaeemeoffnhgfaa

namespace Go.Proofs.Ytaeemeoffnhgfaa
open Go.RowKit

abbrev St := ByteArray × Bool
def fs1 (st : St) : St := (numP 1 st).2
def fs2 (st : St) : St := (shP (fs1 st)).2
def fs3 (st : St) : St := (shP (fs2 st)).2
def fs4 (st : St) : St := (shP (fs3 st)).2
def fs5 (st : St) : St := (numP 2 (fs4 st)).2
def fileP (st : St) : Fi × St := (⟨(numP 1 st).1, (shP (fs1 st)).1, (shP (fs2 st)).1, (shP (fs3 st)).1, (numP 2 (fs4 st)).1⟩, fs5 st)
def filesTo : Nat → St → List Fi × St
  | 0, st => ([], st)
  | k + 1, st => ((filesTo k st).1 ++ [(fileP (filesTo k st).2).1], (fileP (filesTo k st).2).2)
def delsTo : Nat → St → List ByteArray × St
  | 0, st => ([], st)
  | k + 1, st => ((delsTo k st).1 ++ [(shP (delsTo k st).2).1], (shP (delsTo k st).2).2)
structure Pd where
  nx : Nat
  fl : Nat
  add : List Fi
  del : List ByteArray
  bad : Bool
def parseM (t : ByteArray) : Pd :=
  let a := numP 8 (t, false)
  let b := numP 8 a.2
  let n := numP 1 b.2
  let f := filesTo n.1 n.2
  let m := numP 1 f.2
  let d := delsTo m.1 m.2
  ⟨a.1, b.1, f.1, d.1, d.2.2⟩
def okM (t : ByteArray) : Bool := !(parseM t).bad && decide (encE (parseM t).nx (parseM t).fl (parseM t).add (parseM t).del = (t, 0))

theorem numP_lt (k : Nat) (st : St) : (numP k st).1 < 256 ^ k := by
  have h1 := numL_lt (takeP k st).1.data.toList
  have h2 : (takeP k st).1.data.toList.length ≤ k := (takeP_size k st.1 st.2).1
  exact Nat.lt_of_lt_of_le h1 (Nat.pow_le_pow_right (by omega) h2)
theorem takeP_rest (k : Nat) (st : St) : (takeP k st).2.1.size ≤ st.1.size := (takeP_size k st.1 st.2).2
theorem numP_rest (k : Nat) (st : St) : (numP k st).2.1.size ≤ st.1.size := takeP_rest k st
theorem shP_rest (st : St) : (shP st).2.1.size ≤ st.1.size := Nat.le_trans (takeP_rest _ _) (numP_rest _ _)
theorem fs1_rest (st : St) : (fs1 st).1.size ≤ st.1.size := by
  unfold fs1
  exact numP_rest 1 st
theorem fs2_rest (st : St) : (fs2 st).1.size ≤ st.1.size := by
  unfold fs2
  exact Nat.le_trans (shP_rest (fs1 st)) (fs1_rest st)
theorem fs3_rest (st : St) : (fs3 st).1.size ≤ st.1.size := by
  unfold fs3
  exact Nat.le_trans (shP_rest (fs2 st)) (fs2_rest st)
theorem fs4_rest (st : St) : (fs4 st).1.size ≤ st.1.size := by
  unfold fs4
  exact Nat.le_trans (shP_rest (fs3 st)) (fs3_rest st)
theorem fs5_rest (st : St) : (fs5 st).1.size ≤ st.1.size := by
  unfold fs5
  exact Nat.le_trans (numP_rest 2 (fs4 st)) (fs4_rest st)
theorem fileP_rest (st : St) : (fileP st).2.1.size ≤ st.1.size := by
  unfold fileP
  exact fs5_rest st
theorem filesTo_rest (st : St) : ∀ k, (filesTo k st).2.1.size ≤ st.1.size
  | 0 => Nat.le_refl _
  | k + 1 => Nat.le_trans (fileP_rest (filesTo k st).2) (filesTo_rest st k)
theorem delsTo_rest (st : St) : ∀ k, (delsTo k st).2.1.size ≤ st.1.size
  | 0 => Nat.le_refl _
  | k + 1 => Nat.le_trans (shP_rest (delsTo k st).2) (delsTo_rest st k)
theorem filesTo_len (st : St) : ∀ k, (filesTo k st).1.length = k
  | 0 => rfl
  | k + 1 => by rw [filesTo, List.length_append, filesTo_len st k]; rfl
theorem delsTo_len (st : St) : ∀ k, (delsTo k st).1.length = k
  | 0 => rfl
  | k + 1 => by rw [delsTo, List.length_append, delsTo_len st k]; rfl

/-- the four cells of an edit -/
def edN (A : Option Addr) (n c : Nat) (D : Option Addr) (m d nx fl : Nat) : Array Value := #[.slice A n c, .slice D m d, .int .u64 nx, .int .u64 fl]
theorem edN_one (A : Option Addr) (n c : Nat) (D : Option Addr) (m d nx fl : Nat) : (edN A n c D m d nx fl).all (·.oneCell') = true := by simp [edN, Value.oneCell']
section
variable {T : TypeId} {w w' : World} {g n c m d nx fl : Nat} {A D : Option Addr}
theorem EBox.there (h : EBox T w g A n c D m d nx fl) : w.there g 0 4 := fun j hj => by
  refine ⟨?_, frozen_of_row _ _ _ _ _ h⟩
  rw [Nat.zero_add, cell_of_row _ _ _ _ _ (0, 0) h, Array.getElem?_eq_getElem (by simpa using hj)]
  rfl
theorem EBox.keep (h : EBox T w g A n c D m d nx fl) (hk : w'.heap[g]? = w.heap[g]?) : EBox T w' g A n c D m d nx fl := hk.trans h
theorem EBox.grown (h : EBox T w g A n c D m d nx fl) {row : Option Nat} (hg : w.grownBy w' row) (hne : row ≠ some g) : EBox T w' g A n c D m d nx fl := h.keep (hg.block _ h.lt (fun e => hne e.symm))
theorem EBox.setW (h : EBox T w g A n c D m d nx fl) (A' : Option Addr) (n' c' : Nat) (D' : Option Addr) (m' d' nx' fl' : Nat) {M : World → Prop}
    (hM : ∀ w', Hid (EBox T w' g A' n' c' D' m' d' nx' fl') → Hid (w.grownBy w' (some g)) → M w') : M (w.setCells g 0 (edN A' n' c' D' m' d' nx' fl').toList) := by
  have hg := (setCells_block _ _ (edN A' n' c' D' m' d' nx' fl').toList 0 w _ h).2
  have h1 := heap_setCell_same w _ 0 _ _ (.slice A' n' c') h
  have h2 := heap_setCell_same _ _ 1 _ _ (.slice D' m' d') h1
  have h3 := heap_setCell_same _ _ 2 _ _ (.int .u64 nx') h2
  have h4 := heap_setCell_same _ _ 3 _ _ (.int .u64 fl') h3
  exact hM _ (Lib.hid h4) (Lib.hid hg)
theorem EBox.set0 (h : EBox T w g A n c D m d nx fl) (A' : Option Addr) (n' c' : Nat) : EBox T (w.setCell ⟨g, 0, none⟩ (.slice A' n' c')) g A' n' c' D m d nx fl := by
  unfold EBox at *
  exact heap_setCell_same w g 0 _ _ _ h
theorem EBox.set1 (h : EBox T w g A n c D m d nx fl) (D' : Option Addr) (m' d' : Nat) : EBox T (w.setCell ⟨g, 1, none⟩ (.slice D' m' d')) g A n c D' m' d' nx fl := by
  unfold EBox at *
  exact heap_setCell_same w g 1 _ _ _ h
theorem EBox.free (h : EBox T w g A n c D m d nx fl) (j : Nat) : w.frozen? ⟨g, j, none⟩ = false := frozen_of_row _ _ _ _ _ h
end
theorem ed_results {fn : Func} (h : fn.results = #[.cell 2 36, .tmp 3]) (tmps : Array Value) (w : World) (g : Nat) (A : Option Addr) (n c : Nat) (D : Option Addr) (m d nx fl : Nat) (v : Value) (h4 : tmps.getD 2 undef = .pointer (some ⟨g, 0, none⟩)) (h5 : tmps.getD 3 undef = v)
    (hb : EBox 36 w g A n c D m d nx fl) : (results fn tmps).run Try.prog w = .ok (.tuple #[.agg #[.slice A n c, .slice D m d, .int .u64 nx, .int .u64 fl], v]) w := by
  rw [results_cell_tmp h, h4, h5]
  simp only [asAddr, Sem.run_pure, Result.andThen_ok, run_loadVar_mid w g 0 36 _ _ hb.range Try.underlying36 rfl (by kernel_rfl)]
theorem ed_resultsR {fn : Func} (h : fn.results = #[.cell 2 49, .tmp 3]) (tmps : Array Value) (w : World) (g : Nat) (A : Option Addr) (n c : Nat) (D : Option Addr) (m d nx fl : Nat) (v : Value) (h4 : tmps.getD 2 undef = .pointer (some ⟨g, 0, none⟩)) (h5 : tmps.getD 3 undef = v)
    (hb : EBox 49 w g A n c D m d nx fl) : (results fn tmps).run Try.prog w = .ok (.tuple #[.agg #[.slice A n c, .slice D m d, .int .u64 nx, .int .u64 fl], v]) w := by
  rw [results_cell_tmp h, h4, h5]
  simp only [asAddr, Sem.run_pure, Result.andThen_ok, run_loadVar_mid w g 0 49 _ _ hb.range Try.underlying49 rfl (by kernel_rfl)]
end Go.Proofs.Ytaeemeoffnhgfaa

namespace Go.Proofs.Ytaeemeoffnhgfaa
open Go.RowKit
attribute [local go_sem ↓] Go.wp_at_zero Go.wp_at_succ

/-- the answer's variable (nothing yet) and the reader, made behind w -/
def Dec0 (w W : World) (st : St) : Prop := Below w.heap.size w W ∧ EBox 36 W w.heap.size none 0 0 none 0 0 0 0 ∧ Rdr W (w.heap.size + 1) st.1 st.2
theorem Dec0.read {w W W' : World} {st st' : St} (h : Dec0 w W st) (hr : Rdr W' (w.heap.size + 1) st'.1 st'.2) (hg : W.grownBy W' (some (w.heap.size + 1))) : Dec0 w W' st' :=
  ⟨below_grown h.1 h.1.size hg (by omega), h.2.1.grown hg (fun e => by injection e; omega), hr⟩
theorem Dec0.other {w W W' : World} {st : St} (h : Dec0 w W st) {row : Option Nat} (hg : W.grownBy W' row) (hr : ∀ k, row = some k → w.heap.size + 1 < k) : Dec0 w W' st :=
  ⟨h.1.grown hg h.1.size (fun k hk => by have := hr k hk; omega), h.2.1.grown hg (fun e => by have := hr _ e; omega), (hg.block _ h.2.2.lt (fun e => by have := hr _ e.symm; omega)).trans h.2.2⟩
theorem Dec0.below {w W W' : World} {st : St} (h : Dec0 w W st) (hb : Below W.heap.size W W') : Dec0 w W' st := h.other (grownBy_below hb none) (fun k hk => by cases hk)
theorem Dec0.num {w W : World} {st : St} (h : Dec0 w W st) (k : Nat) (hk : k ≤ 8) (hs : st.1.size ≤ 100000) {N : Nat} {st' : St} (hp : numP k st = (N, st')) :
    Calls Try.prog 54 #[.pointer (some ⟨w.heap.size + 1, 0, none⟩), .int .i64 k] W fun e w' => e = .returned (.int .u64 N) ∧ Dec0 w w' st' ∧ W.grownBy w' (some (w.heap.size + 1)) := by
  refine (readNumber (w.heap.size + 1) k st.1 st.2 W h.2.2 hk (by omega)).mono ?_
  rw [show ((st.1, st.2) : St) = st from rfl, hp]
  rintro e w' ⟨rfl, hr, hg⟩
  exact ⟨rfl, h.read hr hg, hg⟩
theorem Dec0.sht {w W : World} {st : St} (h : Dec0 w W st) (hs : st.1.size ≤ 100000) {s : ByteArray} {st' : St} (hp : shP st = (s, st')) :
    Calls Try.prog 55 #[.pointer (some ⟨w.heap.size + 1, 0, none⟩)] W fun e w' => e = .returned (.string s) ∧ Dec0 w w' st' ∧ W.grownBy w' (some (w.heap.size + 1)) := by
  refine (readShort (w.heap.size + 1) st.1 st.2 W h.2.2 (by omega)).mono ?_
  rw [show ((st.1, st.2) : St) = st from rfl, hp]
  rintro e w' ⟨rfl, hr, hg⟩
  exact ⟨rfl, h.read hr hg, hg⟩

/-- behind some files -/
structure DecA (w W : World) (st : St) (ge : Nat) (A : Option Addr) (n c nx fl : Nat) (add : List Fi) : Prop where
  z : Dec0 w W st
  e : EBox 36 W ge A n c none 0 0 nx fl
  oa : OwnF W (ge + 1) A n c add
  lt : w.heap.size + 1 < ge
section
variable {w W W' : World} {st st' : St} {ge n c nx fl : Nat} {A : Option Addr} {add : List Fi}
theorem own_off {B n c : Nat} {A : Option Addr} {e : TypeId} {s g : Nat} {xs : List Value} (h : Own W B e s A n c xs) (hg : g < B) : blk A ≠ some g := fun e => by have := (Own.lt h _ e).1; omega
theorem DecA.read (h : DecA w W st ge A n c nx fl add) (hz : Dec0 w W' st') (hg : W.grownBy W' (some (w.heap.size + 1))) : DecA w W' st' ge A n c nx fl add :=
  ⟨hz, h.e.grown hg (fun e => by injection e; have := h.lt; omega), Own.grown h.oa hg (.inr (own_off h.oa (by have := h.lt; omega))), h.lt⟩
theorem DecA.below (h : DecA w W st ge A n c nx fl add) (hb : Below W.heap.size W W') : DecA w W' st ge A n c nx fl add :=
  ⟨h.z.below hb, h.e.below hb h.e.lt, Own.below h.oa hb, h.lt⟩
theorem DecA.put (h : DecA w W st ge A n c nx fl add) {A' : Option Addr} {n' c' : Nat} {add' : List Fi} (ho : OwnF W' (ge + 1) A' n' c' add') (hg : W.grownBy W' (blk A)) : DecA w (W'.setCell ⟨ge, 0, none⟩ (.slice A' n' c')) st ge A' n' c' nx fl add' := by
  have hlt := h.lt
  have hz := h.z.other hg (fun k hk => by have := (Own.lt h.oa k hk).1; omega)
  have he : EBox 36 W' ge A n c none 0 0 nx fl := h.e.grown hg (own_off h.oa (by omega))
  exact ⟨hz.other (grown_set _ _ _ _) (fun k hk => by injection hk; omega), he.set0 _ _ _, Own.setCell ho (own_off ho (show ge < ge + 1 by omega)) _, hlt⟩
end
theorem EBox.madeW (T : TypeId) (w : World) (v0 v1 v2 v3 : Value) (A : Option Addr) (n c : Nat) (D : Option Addr) (m d nx fl : Nat) {M : World → Prop}
    (hM : ∀ w', Hid (EBox T w' w.heap.size A n c D m d nx fl) → Hid (Below w.heap.size w w') → M w') : M ((w.alloc (.cells #[v0, v1, v2, v3] T)).setCells w.heap.size 0 (edN A n c D m d nx fl).toList) := by
  have h := heap_alloc_new w (.cells #[v0, v1, v2, v3] T)
  have hg := (setCells_block _ _ (edN A n c D m d nx fl).toList 0 _ _ h).2
  have h1 := heap_setCell_same _ _ 0 _ _ (.slice A n c) h
  have h2 := heap_setCell_same _ _ 1 _ _ (.slice D m d) h1
  have h3 := heap_setCell_same _ _ 2 _ _ (.int .u64 nx) h2
  have h4 := heap_setCell_same _ _ 3 _ _ (.int .u64 fl) h3
  exact hM _ (Lib.hid h4) (Lib.hid (below_grown (below_al w _) (by rw [World.size_alloc]; omega) hg (Nat.le_refl _)))
theorem there_made4 (T : TypeId) (w : World) (v0 v1 v2 v3 : Value) : (w.alloc (.cells #[v0, v1, v2, v3] T)).there w.heap.size 0 4 := fun j hj => by
  have h := heap_alloc_new w (.cells #[v0, v1, v2, v3] T)
  refine ⟨?_, frozen_of_row _ _ _ _ _ h⟩
  rw [Nat.zero_add, cell_of_row _ _ _ _ _ (0, 0) h, Array.getElem?_eq_getElem (by simpa using hj)]
  rfl
theorem FBox.set4 {T : TypeId} {w : World} {g : Nat} {x : Fi} (h : FBox T w g x) (z : Int) : FBox T (w.setCell ⟨g, 4, none⟩ (.int .i64 z)) g { x with many := z } := by
  unfold FBox at *
  exact heap_setCell_same w g 4 _ _ _ h
theorem i64_nat (n : Nat) (h : n < 9223372036854775808) : IntKind.i64.wrap (n : Int) = (n : Int) := IntWalk.i64_in _ (by omega)

theorem DecA.far {w W W' : World} {st : St} {ge n c nx fl g : Nat} {A : Option Addr} {add : List Fi} (h : DecA w W st ge A n c nx fl add) (hg : W.grownBy W' (some g)) (hlt : ge < g ∧ blk A ≠ some g) : DecA w W' st ge A n c nx fl add :=
  ⟨h.z.other hg (fun k hk => by injection hk with hk; have := h.lt; omega), h.e.grown hg (fun e => by injection e with e; omega), Own.grown h.oa hg (.inr hlt.2), h.lt⟩
theorem DecA.new {w W : World} {st : St} {ge n c nx fl : Nat} {A : Option Addr} {add : List Fi} (h : DecA w W st ge A n c nx fl add) : ge < W.heap.size ∧ blk A ≠ some W.heap.size := ⟨h.e.lt, fun e => by have := (Own.lt h.oa _ e).2; omega⟩
theorem fileP_eq {st a1 a2 a3 a4 a5 : St} {lv mn : Nat} {nm lo hi : ByteArray} (h1 : numP 1 st = (lv, a1)) (h2 : shP a1 = (nm, a2)) (h3 : shP a2 = (lo, a3)) (h4 : shP a3 = (hi, a4)) (h5 : numP 2 a4 = (mn, a5)) : fileP st = (⟨lv, nm, lo, hi, mn⟩, a5) := by
  have e1 : fs1 st = a1 := by unfold fs1; rw [h1]
  have e2 : fs2 st = a2 := by unfold fs2; rw [e1, h2]
  have e3 : fs3 st = a3 := by unfold fs3; rw [e2, h3]
  have e4 : fs4 st = a4 := by unfold fs4; rw [e3, h4]
  unfold fileP fs5
  rw [h1, e1, e2, e3, e4, h2, h3, h4, h5]
theorem filesTo_next (st : St) (k : Nat) {x : Fi} {s : St} (h : fileP (filesTo k st).2 = (x, s)) : filesTo (k + 1) st = ((filesTo k st).1 ++ [x], s) := by
  rw [filesTo, h]
/-- behind all files, and some texts -/
structure DecD (w W : World) (st : St) (ge B2 : Nat) (A : Option Addr) (n c : Nat) (D : Option Addr) (m d nx fl : Nat) (add : List Fi) (del : List ByteArray) : Prop where
  z : Dec0 w W st
  e : EBox 36 W ge A n c D m d nx fl
  oa : OwnF W (ge + 1) A n c add
  od : OwnS W B2 D m d del
  lt : w.heap.size + 1 < ge
  ha : ∀ k, blk A = some k → k < B2
  hB : ge < B2
  hs : B2 ≤ W.heap.size
theorem DecD.start {w W : World} {st : St} {ge n c nx fl : Nat} {A : Option Addr} {add : List Fi} (h : DecA w W st ge A n c nx fl add) : DecD w W st ge W.heap.size A n c none 0 0 nx fl add [] :=
  ⟨h.z, h.e, h.oa, Own.nil, h.lt, fun k hk => (Own.lt h.oa k hk).2, h.e.lt, Nat.le_refl _⟩
section
variable {w W W' : World} {st st' : St} {ge B2 n c m d nx fl : Nat} {A D : Option Addr} {add : List Fi} {del : List ByteArray}
theorem DecD.read (h : DecD w W st ge B2 A n c D m d nx fl add del) (hz : Dec0 w W' st') (hg : W.grownBy W' (some (w.heap.size + 1))) : DecD w W' st' ge B2 A n c D m d nx fl add del :=
  ⟨hz, h.e.grown hg (fun e => by injection e; have := h.lt; omega), Own.grown h.oa hg (.inr (own_off h.oa (by have := h.lt; omega))), Own.grown h.od hg (.inr (own_off h.od (by have := h.lt; have := h.hB; omega))), h.lt, h.ha, h.hB, Nat.le_trans h.hs hg.size⟩
theorem DecD.below (h : DecD w W st ge B2 A n c D m d nx fl add del) (hb : Below W.heap.size W W') : DecD w W' st ge B2 A n c D m d nx fl add del :=
  ⟨h.z.below hb, h.e.below hb h.e.lt, Own.below h.oa hb, Own.below h.od hb, h.lt, h.ha, h.hB, Nat.le_trans h.hs hb.size⟩
theorem DecD.off (h : DecD w W st ge B2 A n c D m d nx fl add del) : blk A = none ∨ blk A ≠ blk D := by
  cases hA : blk A with
  | none => exact .inl rfl
  | some k => exact .inr (fun e => by have h1 := h.ha k hA; have h2 := (Own.lt h.od k e.symm).1; omega)
theorem DecD.put (h : DecD w W st ge B2 A n c D m d nx fl add del) {D' : Option Addr} {m' d' : Nat} {del' : List ByteArray} (ho : OwnS W' B2 D' m' d' del') (hg : W.grownBy W' (blk D)) : DecD w (W'.setCell ⟨ge, 1, none⟩ (.slice D' m' d')) st ge B2 A n c D' m' d' nx fl add del' := by
  have hlt := h.lt
  have hB := h.hB
  have hz := h.z.other hg (fun k hk => by have := (Own.lt h.od k hk).1; omega)
  have he : EBox 36 W' ge A n c D m d nx fl := h.e.grown hg (own_off h.od hB)
  have ha := Own.grown h.oa hg h.off
  exact ⟨hz.other (grown_set _ _ _ _) (fun k hk => by injection hk; omega), he.set1 _ _ _, Own.setCell ha (own_off h.oa (show ge < ge + 1 by omega)) _, Own.setCell ho (own_off ho hB) _, hlt, h.ha, hB, by have := hg.size; have := h.hs; simp [World.setCell]; omega⟩
end
theorem delsTo_next (st : St) (k : Nat) {x : ByteArray} {s : St} (h : shP (delsTo k st).2 = (x, s)) : delsTo (k + 1) st = ((delsTo k st).1 ++ [x], s) := by
  rw [delsTo, h]
structure Ans where
  nx : Nat
  fl : Nat
  add : List Fi
  del : List ByteArray
  E : Int
def AnsOut (w : World) (r : Ans) (e : Ending) (w' : World) : Prop := ∃ (A D : Option Addr) (n c m d : Nat), e = .returned (.tuple #[.agg #[.slice A n c, .slice D m d, .int .u64 r.nx, .int .u64 r.fl], .int .i64 r.E]) ∧ Rd w' w'.heap.size A (fis r.add) ∧ Rd w' w'.heap.size D (r.del.map Value.string) ∧ r.add.length = n ∧ r.del.length = m ∧ Below w.heap.size w w'
def noAns : Ans := ⟨0, 0, [], [], 50⟩
def decM (t : ByteArray) : Ans := if okM t then ⟨(parseM t).nx, (parseM t).fl, (parseM t).add, (parseM t).del, 0⟩ else noAns
theorem decM_bad {t S : ByteArray} {E : Int} {nx fl : Nat} {F : List Fi} {G : List ByteArray} {bd : Bool} (hp : parseM t = ⟨nx, fl, F, G, bd⟩) (he : encE nx fl F G = (S, E)) (h : bd = true ∨ E ≠ 0 ∨ S ≠ t) : decM t = noAns := by
  unfold decM okM
  rw [if_neg]
  rw [hp, he]
  simp only [Bool.and_eq_true, Bool.not_eq_true', decide_eq_true_eq, Prod.mk.injEq, not_and]
  rintro h1 h2 h3
  rcases h with h | h | h
  · rw [h1] at h; cases h
  · exact h h3
  · exact h h2
theorem decM_good {t S : ByteArray} {E : Int} {nx fl : Nat} {F : List Fi} {G : List ByteArray} (hp : parseM t = ⟨nx, fl, F, G, false⟩) (he : encE nx fl F G = (S, E)) (h1 : E = 0) (h2 : S = t) : decM t = ⟨nx, fl, F, G, 0⟩ := by
  unfold decM okM
  rw [hp]
  simp only
  rw [he, h1, h2]
  simp
set_option maxRecDepth 100000 in
set_option maxHeartbeats 16000000 in
theorem decode_any (t : ByteArray) (w : World) (ht : t.size ≤ 100000) :
    Calls Try.prog 24 #[.string t] w (AnsOut w (decM t)) := by
  obtain ⟨⟨nx, st1⟩, hp1⟩ : ∃ p, numP 8 (t, false) = p := ⟨_, rfl⟩
  obtain ⟨⟨fl, st2⟩, hp2⟩ : ∃ p, numP 8 st1 = p := ⟨_, rfl⟩
  obtain ⟨⟨n, st3⟩, hp3⟩ : ∃ p, numP 1 st2 = p := ⟨_, rfl⟩
  have s1 : st1.1.size ≤ 100000 := by have := numP_rest 8 (t, false); rw [hp1] at this; exact Nat.le_trans this ht
  have s2 : st2.1.size ≤ 100000 := by have := numP_rest 8 st1; rw [hp2] at this; exact Nat.le_trans this s1
  have s3 : st3.1.size ≤ 100000 := by have := numP_rest 1 st2; rw [hp3] at this; exact Nat.le_trans this s2
  have hn : n < 256 := by have := numP_lt 1 st2; rw [hp3] at this; exact this
  have HS1 := Lib.hid s1
  have HS2 := Lib.hid s2
  have HS3 := Lib.hid s3
  have HP1 := Lib.hid hp1
  have HP2 := Lib.hid hp2
  have HP3 := Lib.hid hp3
  have hz0 : Dec0 w ((w.alloc (.cells #[.slice none 0 0, .slice none 0 0, .int .u64 0, .int .u64 0] 36)).alloc (.cells #[.string t, .bool false] 92)) (t, false) := by
    have h1 := EBox.new 36 w none 0 0 none 0 0 0 0
    have h2 := below_al (w.alloc (.cells #[.slice none 0 0, .slice none 0 0, .int .u64 0, .int .u64 0] 36)) (.cells #[.string t, .bool false] 92)
    refine ⟨(below_al w _).trans (h2.mono (by rw [World.size_alloc]; omega)), h1.below h2 h1.lt, ?_⟩
    have h3 := heap_alloc_new (w.alloc (.cells #[.slice none 0 0, .slice none 0 0, .int .u64 0, .int .u64 0] 36)) (.cells #[.string t, .bool false] 92)
    rw [World.size_alloc] at h3
    exact h3
  obtain ⟨W0, hW0⟩ : ∃ W0, (w.alloc (.cells #[.slice none 0 0, .slice none 0 0, .int .u64 0, .int .u64 0] 36)).alloc (.cells #[.string t, .bool false] 92) = W0 := ⟨_, rfl⟩
  rw [hW0] at hz0
  have HZ0 := Lib.hid hz0
  clear s1 s2 s3 hp1 hp2 hp3 hz0
  go_enter Try.func24, Try.ntmps24
  go_wp2_with (first
    | (go_at_call 54; refine (Dec0.num HA3.out.z 1 (by omega) HS2.out HP3.out).mono ?_; rintro e w4 ⟨rfl, hz, hg⟩; have HA4 := Lib.hid (HA3.out.read hz hg); clear hz hg)
    | (go_at_call 54; refine (Dec0.num HZ1.out 8 (by omega) HS1.out HP2.out).mono ?_; rintro e w2 ⟨rfl, hz, -⟩; have HZ2 := Lib.hid hz; clear hz)
    | (go_at_call 54; refine (Dec0.num HZ0.out 8 (by omega) ht HP1.out).mono ?_; rintro e w1 ⟨rfl, hz, -⟩; have HZ1 := Lib.hid hz; clear hz)
    | (show wpList _ _ _ ({ dst := none, op := Op.store _ (Operand.tmp 5) _, type := _, pos := _, after := _, guard := _ } :: _) _ _; refine wpList_store_mid rfl 36 (.tmp 5) (.tmp 16) rfl w2.heap.size 0 (edN none 0 0 none 0 0 nx fl) rfl rfl (there_made4 _ _ _ _ _ _) (by kernel_rfl) (edN_one _ _ _ _ _ _ _ _) ?_; refine EBox.madeW 36 w2 _ _ _ _ none 0 0 none 0 0 nx fl ?_; intro w3 HE3 HB3; have HA3 := Lib.hid (show DecA w w3 st2 w2.heap.size none 0 0 nx fl [] from ⟨HZ2.out.below HB3.out, HE3.out, Own.nil, HZ2.out.2.2.lt⟩)))
  go_loopw [19] (fun v19 wr => ∃ (k c : Nat) (A : Option Addr), v19 = .int .u64 (k : Nat) ∧ k ≤ n ∧ Hid (DecA w wr (filesTo k st3).2 w2.heap.size A k c nx fl (filesTo k st3).1)) (fun v19 _ => n - (intOf v19).toNat)
  case atStart => exact ⟨0, 0, none, rfl, Nat.zero_le _, HA4⟩
  case round =>
    clear HA4 HA3 HE3 HB3 HZ1 HZ2 HZ0 hW0
    obtain ⟨k, c, A, rfl, hk, HA⟩ := hrel
    rename World => wr
    by_cases hlt : k < n
    · have e1 : decide ((k : Int) < (n : Int)) = true := decide_eq_true (by omega)
      have hwk : IntKind.u64.wrap ((k : Int) + 1) = ((k + 1 : Nat) : Int) := wrap_nat (k + 1) (by omega)
      have hsk := Nat.le_trans (filesTo_rest st3 k) HS3.out
      have hlk := filesTo_len st3 k
      have HFN := Lib.hid (fun (x : Fi) (s : St) (h : fileP (filesTo k st3).2 = (x, s)) => filesTo_next st3 k h)
      obtain ⟨⟨L, sk⟩, hfk⟩ : ∃ p, filesTo k st3 = p := ⟨_, rfl⟩
      rw [hfk] at HA hsk hlk HFN
      simp only at HA hsk hlk HFN
      obtain ⟨⟨lv, a1⟩, h1⟩ : ∃ p, numP 1 sk = p := ⟨_, rfl⟩
      obtain ⟨⟨nm, a2⟩, h2⟩ : ∃ p, shP a1 = p := ⟨_, rfl⟩
      obtain ⟨⟨lo, a3⟩, h3⟩ : ∃ p, shP a2 = p := ⟨_, rfl⟩
      obtain ⟨⟨hi, a4⟩, h4⟩ : ∃ p, shP a3 = p := ⟨_, rfl⟩
      obtain ⟨⟨mn, a5⟩, h5⟩ : ∃ p, numP 2 a4 = p := ⟨_, rfl⟩
      have z1 : a1.1.size ≤ 100000 := by have := numP_rest 1 sk; rw [h1] at this; exact Nat.le_trans this hsk
      have z2 : a2.1.size ≤ 100000 := by have := shP_rest a1; rw [h2] at this; exact Nat.le_trans this z1
      have z3 : a3.1.size ≤ 100000 := by have := shP_rest a2; rw [h3] at this; exact Nat.le_trans this z2
      have z4 : a4.1.size ≤ 100000 := by have := shP_rest a3; rw [h4] at this; exact Nat.le_trans this z3
      have hlv : lv < 256 := by have := numP_lt 1 sk; rw [h1] at this; exact this
      have hmn : mn < 65536 := by have := numP_lt 2 a4; rw [h5] at this; exact this
      have hwl := i64_nat lv (by omega)
      have hwm := i64_nat mn (by omega)
      have HFP := Lib.hid (HFN.out _ _ (fileP_eq h1 h2 h3 h4 h5))
      have HN1 := Lib.hid h1
      have HN2 := Lib.hid h2
      have HN3 := Lib.hid h3
      have HN4 := Lib.hid h4
      have HN5 := Lib.hid h5
      have HL := Lib.hid hlk
      have HSK := Lib.hid (And.intro hsk (And.intro z1 (And.intro z2 (And.intro z3 z4))))
      clear hfk h1 h2 h3 h4 h5 hlk HFN hsk z1 z2 z3 z4
      go_wp2_with (first
        | (go_at_call 54; refine (Dec0.num HA9.out.z 2 (by omega) HSK.out.2.2.2.2 HN5.out).mono ?_; rintro e w10 ⟨rfl, hz, hg⟩; have HA10 := Lib.hid (HA9.out.read hz hg); have hf10 := HF9.out.keep (hg.block _ HF9.out.lt (fun e => by injection e with e; have := HA8.out.z.2.2.lt; omega)); have c4 := hf10.cells.2.2.2.2; have f4 := frozen_of_row w10 w8.heap.size 4 _ _ hf10; have HF10 := Lib.hid hf10; clear hz hg hf10; obtain ⟨W11, hW11⟩ : ∃ W, w10.setCell ⟨w8.heap.size, 4, none⟩ (.int .i64 mn) = W := ⟨_, rfl⟩; have hf11 := FBox.set4 HF10.out mn; rw [hW11] at hf11; have hg11 := grown_set w10 w8.heap.size 4 (.int .i64 mn); rw [hW11] at hg11; have HF11 := Lib.hid hf11; have HA11 := Lib.hid (HA10.out.far hg11 HLT.out); clear hf11 hg11; have c0 := HA11.out.e.cells.1)
        | (go_at_call 55; refine (Dec0.sht HA7.out.z HSK.out.2.2.2.1 HN4.out).mono ?_; rintro e w8 ⟨rfl, hz, hg⟩; have HA8 := Lib.hid (HA7.out.read hz hg); have HLT := Lib.hid HA8.out.new; clear hz hg HA7)
        | (go_at_call 55; refine (Dec0.sht HA6.out.z HSK.out.2.2.1 HN3.out).mono ?_; rintro e w7 ⟨rfl, hz, hg⟩; have HA7 := Lib.hid (HA6.out.read hz hg); clear hz hg HA6)
        | (go_at_call 55; refine (Dec0.sht HA5.out.z HSK.out.2.1 HN2.out).mono ?_; rintro e w6 ⟨rfl, hz, hg⟩; have HA6 := Lib.hid (HA5.out.read hz hg); clear hz hg HA5)
        | (go_at_call 54; refine (Dec0.num HA.out.z 1 (by omega) HSK.out.1 HN1.out).mono ?_; rintro e w5 ⟨rfl, hz, hg⟩; have HA5 := Lib.hid (HA.out.read hz hg); clear hz hg)
        | (show wpList _ _ _ ({ dst := none, op := Op.store _ (Operand.tmp 6) _, type := _, pos := _, after := _, guard := _ } :: _) _ _; refine wpList_store_mid rfl 23 (.tmp 6) (.tmp 30) rfl w8.heap.size 0 (Fi.mk lv nm lo hi 0).vals.toArray rfl rfl (FBox.there_made _ _ _ _ _ _ _) (by kernel_rfl) (all_oneCell_toArray (Fi.one (Fi.mk lv nm lo hi 0))) ?_; refine FBox.madeW 23 w8 _ _ _ _ _ (Fi.mk lv nm lo hi 0) ?_; intro w9 HF9 HB9; have HA9 := Lib.hid (HA8.out.below HB9.out))
        | (show wpList _ _ _ ({ dst := some 37, op := Op.load _ _, type := _, pos := _, after := _, guard := _ } :: _) _ _; refine wpList_load_mid rfl 23 (.tmp 6) rfl w8.heap.size 0 rfl [.int .i64 lv, .string nm, .string lo, .string hi, .int .i64 mn] _ HF11.out.range Try.underlying23 rfl (by kernel_rfl) ?_)
        | (at_builtin; go_loud (refine files_app rfl _ _ rfl (w2.heap.size + 1) A k c (k + 1) L [Fi.mk lv nm lo hi mn] rfl (OwnF.below HA11.out.oa (below_al _ _)) (some ⟨W11.heap.size, 0, none⟩) 1 1 rfl (Rd.ofBlock1 (Fi.mk lv nm lo hi mn) rfl _) rfl rfl (by omega) (by rw [World.size_alloc]; have := HA11.out.e.lt; omega) ?_); intro A8 c8 w12 HO12 HG12; have HA12 := Lib.hid (DecA.put (HA11.out.below (below_al _ _)) HO12.out HG12.out); have he12 := (HA11.out.below (below_al W11 (.cells #[.int .i64 lv, .string nm, .string lo, .string hi, .int .i64 mn] 23))).e.grown HG12.out (own_off HA11.out.oa (Nat.lt_succ_self _)); have c12 := he12.cells.1; have f12 := he12.free 0; clear he12))
      exact ⟨⟨k + 1, c8, A8, by first | rfl | go_num, by omega, by rw [HFP.out]; exact HA12⟩, by simp [intOf]; omega⟩
    · have e1 : decide ((k : Int) < (n : Int)) = false := decide_eq_false (by omega)
      have hkn : k = n := by omega
      rw [hkn] at HA
      have hs4 := Nat.le_trans (filesTo_rest st3 n) HS3.out
      have hln := filesTo_len st3 n
      obtain ⟨⟨F, st4⟩, hf⟩ : ∃ p, filesTo n st3 = p := ⟨_, rfl⟩
      rw [hf] at HA hs4 hln
      simp only at HA hs4 hln
      obtain ⟨⟨m, st5⟩, h5⟩ : ∃ p, numP 1 st4 = p := ⟨_, rfl⟩
      have hm : m < 256 := by have := numP_lt 1 st4; rw [h5] at this; exact this
      have hs5 : st5.1.size ≤ 100000 := by have := numP_rest 1 st4; rw [h5] at this; exact Nat.le_trans this hs4
      have HF := Lib.hid hf
      have HN5 := Lib.hid h5
      have HS4 := Lib.hid hs4
      have HS5 := Lib.hid hs5
      have HLN := Lib.hid hln
      clear hf h5 hs4 hs5 hln hkn
      go_wp2_with (go_at_call 54; refine (Dec0.num HA.out.z 1 (by omega) HS4.out HN5.out).mono ?_; rintro e w13 ⟨rfl, hz, hg⟩; have HA13 := Lib.hid (HA.out.read hz hg); clear hz hg)
      have HD0 := Lib.hid (DecD.start HA13.out)
      go_loopw [44] (fun v44 wq => ∃ (j d : Nat) (D : Option Addr), v44 = .int .u64 (j : Nat) ∧ j ≤ m ∧ Hid (DecD w wq (delsTo j st5).2 w2.heap.size w13.heap.size A n c D j d nx fl F (delsTo j st5).1)) (fun v44 _ => m - (intOf v44).toNat)
      case atStart => exact ⟨0, 0, none, rfl, Nat.zero_le _, HD0⟩
      case round =>
        clear HD0 HA13 HA
        obtain ⟨j, d, D, rfl, hj, HD⟩ := hrel
        rename World => wq
        by_cases hjt : j < m
        · have e2 : decide ((j : Int) < (m : Int)) = true := decide_eq_true (by omega)
          have hwj : IntKind.u64.wrap ((j : Int) + 1) = ((j + 1 : Nat) : Int) := wrap_nat (j + 1) (by omega)
          have hsk := Nat.le_trans (delsTo_rest st5 j) HS5.out
          have HFN := Lib.hid (fun (x : ByteArray) (s : St) (h : shP (delsTo j st5).2 = (x, s)) => delsTo_next st5 j h)
          obtain ⟨⟨L, sk⟩, hfk⟩ : ∃ p, delsTo j st5 = p := ⟨_, rfl⟩
          rw [hfk] at HD hsk HFN
          simp only at HD hsk HFN
          obtain ⟨⟨s, a6⟩, h6⟩ : ∃ p, shP sk = p := ⟨_, rfl⟩
          have HFP := Lib.hid (HFN.out _ _ h6)
          have HN6 := Lib.hid h6
          have HSK := Lib.hid hsk
          have HD2 := Lib.hid (HD.out.below ((Below.refl _ wq).drew))
          have hcell : ∀ W, Hid (EBox 36 W w2.heap.size A n c D j d nx fl) → W.cell? ⟨w2.heap.size, 1, none⟩ = some (.slice D j d) := fun W h => h.out.cells.2.1
          have HC := hcell _ (Lib.hid HD2.out.e)
          clear hfk h6 hsk HFN HD
          go_wp2
          refine region_wz (fun W => W.cell? ⟨w2.heap.size, 1, none⟩ = some (.slice D j d)) (some 7) (by kernel_rfl) ?_
          apply WZ.take (i := 0) (some 46) rfl rfl (by kernel_rfl) (by kernel_rfl) (by kernel_rfl) (calm_panic _) (by kernel_rfl)
          case hy => (refine .inl ⟨by kernel_rfl, fun W hC => ?_⟩; (try dsimp only at hC); go_simp; rfl)
          case hC => exact HC
          case ha => (simp only [Act.put, List.setIfInBounds_toArray, List.set_cons_zero, List.set_cons_succ]; rfl)
          apply WZ.take (i := 1) (some 47) rfl rfl (by kernel_rfl) (by kernel_rfl) (by kernel_rfl) (calm_panic _) (by kernel_rfl)
          case hy => (refine .inl ⟨by kernel_rfl, fun W hC => ?_⟩; (try dsimp only at hC); go_simp; rfl)
          case hC => exact HC
          case ha => (simp only [Act.put, List.setIfInBounds_toArray, List.set_cons_zero, List.set_cons_succ]; rfl)
          apply WZ.take (i := 2) (some 48) rfl rfl (by kernel_rfl) (by kernel_rfl) (by kernel_rfl) (calm_panic _) (by kernel_rfl)
          case hy => (refine .inl ⟨by kernel_rfl, fun W hC => ?_⟩; (try dsimp only at hC); go_simp; rfl)
          case hC => exact HC
          case ha => (simp only [Act.put, List.setIfInBounds_toArray, List.set_cons_zero, List.set_cons_succ]; rfl)
          -- 3
          refine WZ.one (i := 3) rfl (by kernel_rfl) ?_
          conv => arg 4; arg 1; whnf
          go_wp2_with (go_at_call 55; refine (Dec0.sht HD2.out.z HSK.out HN6.out).mono ?_; rintro e w14 ⟨rfl, hz, hg⟩; have HD14 := Lib.hid (HD2.out.read hz hg); clear hz hg)
          clear HC
          have HC := hcell _ (Lib.hid HD14.out.e)
          refine ⟨HC, ?_⟩
          -- 4
          refine WZ.one (i := 4) rfl (by kernel_rfl) ?_
          conv => arg 4; arg 1; whnf
          go_wp2_with fail
          have HD15 := Lib.hid (HD14.out.below (below_al w14 (.cells #[.string s] 9)))
          have HR15 := Lib.hid (Rd.madeS w14 [s] (c := #[.string s]) rfl w14.heap.size rfl)
          clear HC
          have HC := hcell _ (Lib.hid HD15.out.e)
          refine ⟨HC, ?_⟩
          -- 5
          refine WZ.one (i := 5) rfl (by kernel_rfl) ?_
          conv => arg 4; arg 1; whnf
          go_wp2_with (at_builtin; go_loud (refine texts_app rfl _ _ rfl w13.heap.size D j d (j + 1) L [s] rfl HD15.out.od (some ⟨w14.heap.size, 0, none⟩) 1 1 rfl HR15.out rfl rfl (by omega) HD15.out.hs ?_); intro D9 d9 w16 HO16 HG16)
          have HD16 := Lib.hid (DecD.put HD15.out HO16.out HG16.out)
          have he16 := HD15.out.e.grown HG16.out (own_off HD15.out.od HD15.out.hB)
          have f16 := he16.free 1
          clear HC
          have HC := hcell _ (Lib.hid he16)
          clear he16
          refine ⟨HC, ?_⟩
          apply WZ.take (i := 6) (some 52) rfl rfl (by kernel_rfl) (by kernel_rfl) (by kernel_rfl) (calm_panic _) (by kernel_rfl)
          case hy => (refine .inl ⟨by kernel_rfl, fun W hC => ?_⟩; (try dsimp only at hC); go_simp; rfl)
          case hC => exact HC
          case ha => (simp only [Act.put, List.setIfInBounds_toArray, List.set_cons_zero, List.set_cons_succ]; rfl)
          -- 7
          refine WZ.last (i := 7) rfl (by kernel_rfl) (by kernel_rfl) ?_
          conv => arg 4; arg 1; whnf
          go_wp2
          refine WZ.done (by kernel_rfl) ?_ _
          simp only [Calm, Exit.then]
          go_wp2
          exact ⟨⟨j + 1, d9, D9, by first | rfl | go_num, by omega, by rw [HFP.out]; exact HD16⟩, by simp [intOf]; omega⟩
        · have e2 : decide ((j : Int) < (m : Int)) = false := decide_eq_false (by omega)
          have hjm : j = m := by omega
          rw [hjm] at HD
          have hlm := delsTo_len st5 m
          obtain ⟨⟨G, ⟨rs, bd⟩⟩, hf⟩ : ∃ p, delsTo m st5 = p := ⟨_, rfl⟩
          rw [hf] at HD hlm
          simp only at HD hlm
          have HPD := Lib.hid (show parseM t = ⟨nx, fl, F, G, bd⟩ by unfold parseM; simp only [HP1.out, HP2.out, HP3.out, HF.out, HN5.out, hf])
          have HLM := Lib.hid hlm
          obtain ⟨⟨S, E⟩, hS⟩ : ∃ p, encE nx fl F G = p := ⟨_, rfl⟩
          have HEN := Lib.hid hS
          clear hjm hf hlm hS
          cases bd with
          | true =>
            go_wp2_with (first
              | (show wpList _ _ _ ({ dst := some 55, op := Op.load _ _, type := _, pos := _, after := _, guard := _ } :: _) _ _; refine wpList_load_mid rfl 36 (.tmp 5) rfl w2.heap.size 0 rfl [.slice A n c, .slice D m d, .int .u64 nx, .int .u64 fl] _ HD.out.e.range Try.underlying36 rfl (by kernel_rfl) ?_)
              | (go_at_call 22; refine (encode_any A D c d n m F G nx fl _ (Own.rd HD.out.oa (by omega)) HD.out.od.rd HLN.out HLM.out (by omega) (by omega) HEN.out).mono ?_; rintro e w17 ⟨rfl, hb17⟩; have HB17 := Lib.hid hb17; have HD17 := Lib.hid (HD.out.below hb17); clear hb17; have c17 := HD17.out.z.2.2.cells.2)
              | (show wpList _ _ _ ({ dst := none, op := Op.store _ (Operand.tmp 2) (Operand.tmp 72), type := _, pos := _, after := _, guard := _ } :: _) _ _; refine wpList_store_mid rfl 36 (.tmp 2) (.tmp 72) rfl w.heap.size 0 (edN none 0 0 none 0 0 0 0) rfl rfl HD17.out.z.2.1.there (by kernel_rfl) (edN_one _ _ _ _ _ _ _ _) ?_; refine HD17.out.z.2.1.setW none 0 0 none 0 0 0 0 ?_; intro w18 HZ18 HG18)
              | (show wpList _ _ _ ({ dst := some 73, op := Op.load _ _, type := _, pos := _, after := _, guard := _ } :: _) _ _; refine wpList_load_mid rfl 36 (.tmp 5) rfl w2.heap.size 0 rfl [.slice A n c, .slice D m d, .int .u64 nx, .int .u64 fl] _ HD17.out.e.range Try.underlying36 rfl (by kernel_rfl) ?_)
              | (show wpList _ _ _ ({ dst := none, op := Op.store _ (Operand.tmp 2) (Operand.tmp 73), type := _, pos := _, after := _, guard := _ } :: _) _ _; refine wpList_store_mid rfl 36 (.tmp 2) (.tmp 73) rfl w.heap.size 0 (edN A n c D m d nx fl) rfl rfl HD17.out.z.2.1.there (by kernel_rfl) (edN_one _ _ _ _ _ _ _ _) ?_; refine HD17.out.z.2.1.setW A n c D m d nx fl ?_; intro w18 HZ18 HG18))
            (try simp only [Exit.inBlock, Exit.then])
            exact bodyPost_ret (ed_results rfl _ _ _ none 0 0 none 0 0 0 0 _ rfl rfl HZ18.out) rfl ⟨none, none, 0, 0, 0, 0, by rw [decM_bad HPD.out HEN.out (by simp_all)]; rfl, by rw [decM_bad HPD.out HEN.out (by simp_all)]; exact Rd.nil, by rw [decM_bad HPD.out HEN.out (by simp_all)]; exact Rd.nil, by rw [decM_bad HPD.out HEN.out (by simp_all)]; rfl, by rw [decM_bad HPD.out HEN.out (by simp_all)]; rfl, below_grown HD17.out.z.1 HD17.out.z.1.size HG18.out (Nat.le_refl _)⟩
          | false =>
            by_cases hE : E = 0
            · have hne : (E != 0) = false := by simp [hE]
              by_cases hSt : S = t
              · skip
                go_wp2_with (first
                  | (show wpList _ _ _ ({ dst := some 55, op := Op.load _ _, type := _, pos := _, after := _, guard := _ } :: _) _ _; refine wpList_load_mid rfl 36 (.tmp 5) rfl w2.heap.size 0 rfl [.slice A n c, .slice D m d, .int .u64 nx, .int .u64 fl] _ HD.out.e.range Try.underlying36 rfl (by kernel_rfl) ?_)
                  | (go_at_call 22; refine (encode_any A D c d n m F G nx fl _ (Own.rd HD.out.oa (by omega)) HD.out.od.rd HLN.out HLM.out (by omega) (by omega) HEN.out).mono ?_; rintro e w17 ⟨rfl, hb17⟩; have HB17 := Lib.hid hb17; have HD17 := Lib.hid (HD.out.below hb17); clear hb17; have c17 := HD17.out.z.2.2.cells.2)
                  | (show wpList _ _ _ ({ dst := none, op := Op.store _ (Operand.tmp 2) (Operand.tmp 72), type := _, pos := _, after := _, guard := _ } :: _) _ _; refine wpList_store_mid rfl 36 (.tmp 2) (.tmp 72) rfl w.heap.size 0 (edN none 0 0 none 0 0 0 0) rfl rfl HD17.out.z.2.1.there (by kernel_rfl) (edN_one _ _ _ _ _ _ _ _) ?_; refine HD17.out.z.2.1.setW none 0 0 none 0 0 0 0 ?_; intro w18 HZ18 HG18)
                  | (show wpList _ _ _ ({ dst := some 73, op := Op.load _ _, type := _, pos := _, after := _, guard := _ } :: _) _ _; refine wpList_load_mid rfl 36 (.tmp 5) rfl w2.heap.size 0 rfl [.slice A n c, .slice D m d, .int .u64 nx, .int .u64 fl] _ HD17.out.e.range Try.underlying36 rfl (by kernel_rfl) ?_)
                  | (show wpList _ _ _ ({ dst := none, op := Op.store _ (Operand.tmp 2) (Operand.tmp 73), type := _, pos := _, after := _, guard := _ } :: _) _ _; refine wpList_store_mid rfl 36 (.tmp 2) (.tmp 73) rfl w.heap.size 0 (edN A n c D m d nx fl) rfl rfl HD17.out.z.2.1.there (by kernel_rfl) (edN_one _ _ _ _ _ _ _ _) ?_; refine HD17.out.z.2.1.setW A n c D m d nx fl ?_; intro w18 HZ18 HG18))
                (try simp only [Exit.inBlock, Exit.then])
                have HG := Lib.hid (decM_good HPD.out HEN.out hE hSt)
                have HBO := Lib.hid (below_grown HD17.out.z.1 HD17.out.z.1.size HG18.out (Nat.le_refl _))
                have hA := Own.rd (Own.grown HD17.out.oa HG18.out (.inr (own_off HD17.out.oa (by have := HD17.out.lt; omega)))) (by omega)
                have hD := Own.rd (Own.grown HD17.out.od HG18.out (.inr (own_off HD17.out.od (by have := HD17.out.lt; have := HD17.out.hB; omega)))) (by omega)
                exact bodyPost_ret (ed_results rfl _ _ _ A n c D m d nx fl _ rfl rfl HZ18.out) rfl ⟨A, D, n, c, m, d, by rw [HG.out]; rfl, by rw [HG.out]; exact hA, by rw [HG.out]; exact hD, by rw [HG.out]; exact HLN.out, by rw [HG.out]; exact HLM.out, HBO.out⟩
              · have hs1 : (S.toList == t.toList) = false := by rw [beq_eq_false_iff_ne]; exact fun h => hSt (toList_inj h)
                go_wp2_with (first
                  | (show wpList _ _ _ ({ dst := some 55, op := Op.load _ _, type := _, pos := _, after := _, guard := _ } :: _) _ _; refine wpList_load_mid rfl 36 (.tmp 5) rfl w2.heap.size 0 rfl [.slice A n c, .slice D m d, .int .u64 nx, .int .u64 fl] _ HD.out.e.range Try.underlying36 rfl (by kernel_rfl) ?_)
                  | (go_at_call 22; refine (encode_any A D c d n m F G nx fl _ (Own.rd HD.out.oa (by omega)) HD.out.od.rd HLN.out HLM.out (by omega) (by omega) HEN.out).mono ?_; rintro e w17 ⟨rfl, hb17⟩; have HB17 := Lib.hid hb17; have HD17 := Lib.hid (HD.out.below hb17); clear hb17; have c17 := HD17.out.z.2.2.cells.2)
                  | (show wpList _ _ _ ({ dst := none, op := Op.store _ (Operand.tmp 2) (Operand.tmp 72), type := _, pos := _, after := _, guard := _ } :: _) _ _; refine wpList_store_mid rfl 36 (.tmp 2) (.tmp 72) rfl w.heap.size 0 (edN none 0 0 none 0 0 0 0) rfl rfl HD17.out.z.2.1.there (by kernel_rfl) (edN_one _ _ _ _ _ _ _ _) ?_; refine HD17.out.z.2.1.setW none 0 0 none 0 0 0 0 ?_; intro w18 HZ18 HG18)
                  | (show wpList _ _ _ ({ dst := some 73, op := Op.load _ _, type := _, pos := _, after := _, guard := _ } :: _) _ _; refine wpList_load_mid rfl 36 (.tmp 5) rfl w2.heap.size 0 rfl [.slice A n c, .slice D m d, .int .u64 nx, .int .u64 fl] _ HD17.out.e.range Try.underlying36 rfl (by kernel_rfl) ?_)
                  | (show wpList _ _ _ ({ dst := none, op := Op.store _ (Operand.tmp 2) (Operand.tmp 73), type := _, pos := _, after := _, guard := _ } :: _) _ _; refine wpList_store_mid rfl 36 (.tmp 2) (.tmp 73) rfl w.heap.size 0 (edN A n c D m d nx fl) rfl rfl HD17.out.z.2.1.there (by kernel_rfl) (edN_one _ _ _ _ _ _ _ _) ?_; refine HD17.out.z.2.1.setW A n c D m d nx fl ?_; intro w18 HZ18 HG18))
                (try simp only [Exit.inBlock, Exit.then])
                exact bodyPost_ret (ed_results rfl _ _ _ none 0 0 none 0 0 0 0 _ rfl rfl HZ18.out) rfl ⟨none, none, 0, 0, 0, 0, by rw [decM_bad HPD.out HEN.out (by simp_all)]; rfl, by rw [decM_bad HPD.out HEN.out (by simp_all)]; exact Rd.nil, by rw [decM_bad HPD.out HEN.out (by simp_all)]; exact Rd.nil, by rw [decM_bad HPD.out HEN.out (by simp_all)]; rfl, by rw [decM_bad HPD.out HEN.out (by simp_all)]; rfl, below_grown HD17.out.z.1 HD17.out.z.1.size HG18.out (Nat.le_refl _)⟩
            · have hne : (E != 0) = true := by simp [hE]
              go_wp2_with (first
                | (show wpList _ _ _ ({ dst := some 55, op := Op.load _ _, type := _, pos := _, after := _, guard := _ } :: _) _ _; refine wpList_load_mid rfl 36 (.tmp 5) rfl w2.heap.size 0 rfl [.slice A n c, .slice D m d, .int .u64 nx, .int .u64 fl] _ HD.out.e.range Try.underlying36 rfl (by kernel_rfl) ?_)
                | (go_at_call 22; refine (encode_any A D c d n m F G nx fl _ (Own.rd HD.out.oa (by omega)) HD.out.od.rd HLN.out HLM.out (by omega) (by omega) HEN.out).mono ?_; rintro e w17 ⟨rfl, hb17⟩; have HB17 := Lib.hid hb17; have HD17 := Lib.hid (HD.out.below hb17); clear hb17; have c17 := HD17.out.z.2.2.cells.2)
                | (show wpList _ _ _ ({ dst := none, op := Op.store _ (Operand.tmp 2) (Operand.tmp 72), type := _, pos := _, after := _, guard := _ } :: _) _ _; refine wpList_store_mid rfl 36 (.tmp 2) (.tmp 72) rfl w.heap.size 0 (edN none 0 0 none 0 0 0 0) rfl rfl HD17.out.z.2.1.there (by kernel_rfl) (edN_one _ _ _ _ _ _ _ _) ?_; refine HD17.out.z.2.1.setW none 0 0 none 0 0 0 0 ?_; intro w18 HZ18 HG18)
                | (show wpList _ _ _ ({ dst := some 73, op := Op.load _ _, type := _, pos := _, after := _, guard := _ } :: _) _ _; refine wpList_load_mid rfl 36 (.tmp 5) rfl w2.heap.size 0 rfl [.slice A n c, .slice D m d, .int .u64 nx, .int .u64 fl] _ HD17.out.e.range Try.underlying36 rfl (by kernel_rfl) ?_)
                | (show wpList _ _ _ ({ dst := none, op := Op.store _ (Operand.tmp 2) (Operand.tmp 73), type := _, pos := _, after := _, guard := _ } :: _) _ _; refine wpList_store_mid rfl 36 (.tmp 2) (.tmp 73) rfl w.heap.size 0 (edN A n c D m d nx fl) rfl rfl HD17.out.z.2.1.there (by kernel_rfl) (edN_one _ _ _ _ _ _ _ _) ?_; refine HD17.out.z.2.1.setW A n c D m d nx fl ?_; intro w18 HZ18 HG18))
              (try simp only [Exit.inBlock, Exit.then])
              exact bodyPost_ret (ed_results rfl _ _ _ none 0 0 none 0 0 0 0 _ rfl rfl HZ18.out) rfl ⟨none, none, 0, 0, 0, 0, by rw [decM_bad HPD.out HEN.out (by simp_all)]; rfl, by rw [decM_bad HPD.out HEN.out (by simp_all)]; exact Rd.nil, by rw [decM_bad HPD.out HEN.out (by simp_all)]; exact Rd.nil, by rw [decM_bad HPD.out HEN.out (by simp_all)]; rfl, by rw [decM_bad HPD.out HEN.out (by simp_all)]; rfl, below_grown HD17.out.z.1 HD17.out.z.1.size HG18.out (Nat.le_refl _)⟩
end Go.Proofs.Ytaeemeoffnhgfaa
