/-
  The walks of the reader of bytes: take, number. The walks of the reader of a cell's bytes: take, text, number, flag. Blocks of cells: written whole, given back. The walk of cell.Decode. No conditions.
-/
import Derived.Test.YtiiogdgnccgehaaJD
import Derived.Laws.Bits64b
import Derived.Laws.ResultCell
namespace Go.Proofs.Ytiiogdgnccgehaa
open Go.RowKit
attribute [local go_sem ↓] Go.wp_at_zero Go.wp_at_succ

/-- the reader in block g: what is left, and whether more was asked for -/
def Rdr (w : World) (g : Nat) (s : ByteArray) (b : Bool) : Prop := w.heap[g]? = some (.cells #[.string s, .bool b] 95 (0, 0))
theorem Rdr.lt {w : World} {g : Nat} {s : ByteArray} {b : Bool} (h : Rdr w g s b) : g < w.heap.size := (Array.getElem?_eq_some_iff.1 h).1
theorem Rdr.cells {w : World} {g : Nat} {s : ByteArray} {b : Bool} (h : Rdr w g s b) : w.cell? ⟨g, 0, none⟩ = some (.string s) ∧ w.cell? ⟨g, 1, none⟩ = some (.bool b) := by
  have f := fun j => cell_of_row w g j _ _ (0, 0) h
  exact ⟨f 0, f 1⟩
theorem Rdr.free {w : World} {g : Nat} {s : ByteArray} {b : Bool} (h : Rdr w g s b) : w.frozen? ⟨g, 0, none⟩ = false ∧ w.frozen? ⟨g, 1, none⟩ = false := ⟨frozen_of_row _ _ _ _ _ h, frozen_of_row _ _ _ _ _ h⟩
theorem Rdr.set0 {w : World} {g : Nat} {s : ByteArray} {b : Bool} (h : Rdr w g s b) (s' : ByteArray) : Rdr (w.setCell ⟨g, 0, none⟩ (.string s')) g s' b := by
  unfold Rdr at *
  exact heap_setCell_same w g 0 _ _ _ h
theorem Rdr.set1 {w : World} {g : Nat} {s : ByteArray} {b : Bool} (h : Rdr w g s b) (b' : Bool) : Rdr (w.setCell ⟨g, 1, none⟩ (.bool b')) g s b' := by
  unfold Rdr at *
  exact heap_setCell_same w g 1 _ _ _ h
theorem grown_set (w : World) (g o : Nat) (v : Value) : w.grownBy (w.setCell ⟨g, o, none⟩ v) (some g) := ⟨rfl, rfl, rfl, by simp [World.setCell], fun k _ hk => heap_setCell_other w ⟨g, o, none⟩ k v (fun e => hk (by simp [e]))⟩

/-- the first n bytes, and the rest; if there are not as many: nothing, and the mark -/
def takeP (n : Nat) (st : ByteArray × Bool) : ByteArray × ByteArray × Bool := if st.1.size < n then (ByteArray.empty, st.1, true) else (st.1.extract 0 n, st.1.extract n st.1.size, st.2)

set_option maxHeartbeats 2000000 in
theorem take_any (g n : Nat) (s : ByteArray) (b : Bool) (w : World) (h : Rdr w g s b) (hn : n ≤ 100000) (_hs : s.size ≤ 100000000) :
    Calls Try.prog 41 #[.pointer (some ⟨g, 0, none⟩), .int .i64 n] w fun e w' => e = .returned (.string (takeP n (s, b)).1) ∧ Rdr w' g (takeP n (s, b)).2.1 (takeP n (s, b)).2.2 ∧ w.grownBy w' (some g) := by
  obtain ⟨c0, c1⟩ := h.cells
  obtain ⟨f0, f1⟩ := h.free
  have H := Lib.hid h
  clear h
  by_cases hc : s.size < n
  · have e1 : decide ((s.size : Int) < (n : Int)) = true := decide_eq_true (by omega)
    have HT := Lib.hid (show takeP n (s, b) = (ByteArray.empty, s, true) from if_pos hc)
    go_enter Try.func41, Try.ntmps41
    go_wp2
    go_ret
    exact ⟨by rw [HT.out]; rfl, by rw [HT.out]; exact (H.out.set1 true).set0 s, grownBy_trans (grown_set _ _ _ _) (grown_set _ _ _ _)⟩
  · have e1 : decide ((s.size : Int) < (n : Int)) = false := decide_eq_false (by omega)
    have HT := Lib.hid (show takeP n (s, b) = (s.extract 0 n, s.extract n s.size, b) from if_neg hc)
    go_enter Try.func41, Try.ntmps41
    go_wp2
    go_ret
    exact ⟨by rw [HT.out]; rfl, by rw [HT.out]; exact H.out.set0 _, grown_set _ _ _ _⟩

/-- the number whose lowest byte is the first -/
def numL : List UInt8 → Nat
  | [] => 0
  | b :: l => b.toNat + 256 * numL l
theorem takeP_size (n : Nat) (s : ByteArray) (b : Bool) : (takeP n (s, b)).1.size ≤ n ∧ (takeP n (s, b)).2.1.size ≤ s.size := by
  unfold takeP
  split
  · exact ⟨Nat.zero_le _, Nat.le_refl _⟩
  · simp only [ByteArray.size_extract]
    omega
def numP (k : Nat) (st : ByteArray × Bool) : Nat × ByteArray × Bool := (numL (takeP k st).1.data.toList, (takeP k st).2)
theorem bytes_of (w : World) (x : ByteArray) : ∃ (c : Nat) (W : World), (convert 9 90 (.string x)).run Try.prog w = .ok (.slice (some ⟨w.heap.size, 0, none⟩) x.size c) W ∧ Below w.heap.size w W ∧
    (∀ i (h : i < x.data.toList.length), W.cell? ⟨w.heap.size, i, none⟩ = some (.int .u8 (x.data.toList[i].toNat : Int))) ∧ (∀ g s b, Rdr w g s b → Rdr W g s b) := by
  refine ⟨_, _, run_bytes_of_string w 9 90 5 x Try.underlying9 Try.underlying90 Try.underlying5, ?_, ?_, ?_⟩
  · exact ((Below.refl _ w).drew).alloc (Nat.le_refl _) _
  · intro i h
    have hn : ∀ o : Obj, (w.drew.alloc o).heap[w.heap.size]? = some o := fun o => heap_alloc_new w.drew o
    rw [cell_of_row _ _ i _ _ _ (hn _)]
    unfold bytesRow
    have h' : i < x.data.size := by simpa using h
    rw [Array.getElem?_append_left (by simpa using h')]
    simp
    exact ⟨_, Array.getElem?_eq_getElem h', rfl⟩
  · intro g s b hr
    have hb : Below w.heap.size w (w.drew.alloc (.cells (bytesRow x (grownCap w x.size 0 5)) 5 ((bytesRow x (grownCap w x.size 0 5)).size, (bytesRow x (grownCap w x.size 0 5)).size + 1))) := ((Below.refl _ w).drew).alloc (Nat.le_refl _) _
    exact (hb.block g hr.lt).trans hr
theorem numL_take {l : List UInt8} {i : Nat} (h : i < l.length) : numL (l.take (i + 1)) = numL (l.take i) + l[i].toNat * 256 ^ i := by
  induction l generalizing i with
  | nil => simp at h
  | cons b l ih =>
    cases i with
    | zero => simp [numL]
    | succ i =>
      have h' : i < l.length := by simpa using h
      simp only [List.take_succ_cons, numL, List.getElem_cons_succ]
      rw [ih h', Nat.mul_add, Nat.pow_succ]
      have : 256 * (l[i].toNat * 256 ^ i) = l[i].toNat * (256 ^ i * 256) := by rw [Nat.mul_comm 256, Nat.mul_assoc]
      omega
theorem numL_lt (l : List UInt8) : numL l < 256 ^ l.length := by
  induction l with
  | nil => simp [numL]
  | cons b l ih =>
    simp only [numL, List.length_cons, Nat.pow_succ]
    have := b.toNat_lt
    omega
theorem or_step {a b i : Nat} (ha : a < 256 ^ i) (hb : b < 256) (hi : i < 8) : bits .or .u64 (a : Int) (IntKind.u64.wrap (IntKind.u64.wrap (b : Int) * 2 ^ (8 * i))) = ((a + b * 256 ^ i : Nat) : Int) := by
  have h7 : 256 ^ i ≤ 256 ^ 7 := Nat.pow_le_pow_right (by omega) (by omega)
  have h8 : b * 256 ^ i ≤ 255 * 256 ^ 7 := Nat.mul_le_mul (by omega) h7
  have e8 : (256 : Nat) ^ 7 = 72057594037927936 := by decide
  rw [e8] at h7 h8
  have e2 : (2 : Nat) ^ (8 * i) = 256 ^ i := by rw [Nat.pow_mul]
  rw [wrap_nat b (by omega), show ((b : Int) * 2 ^ (8 * i)) = ((b * 2 ^ (8 * i) : Nat) : Int) by simp, e2, wrap_nat _ (by omega), bits_or_u64_nat _ _ (by omega) (by omega)]
  have h := Nat.two_pow_add_eq_or_of_lt (i := 8 * i) (b := a) (by rw [e2]; exact ha) b
  rw [e2] at h
  rw [Nat.or_comm, Nat.mul_comm b, ← h, Nat.add_comm]
set_option maxRecDepth 20000 in
set_option maxHeartbeats 2000000 in
theorem readNumber (g k : Nat) (s : ByteArray) (b : Bool) (w : World) (h : Rdr w g s b) (hk : k ≤ 8) (hs : s.size ≤ 100000000) :
    Calls Try.prog 39 #[.pointer (some ⟨g, 0, none⟩), .int .i64 k] w fun e w' => e = .returned (.int .u64 (numP k (s, b)).1) ∧ Rdr w' g (numP k (s, b)).2.1 (numP k (s, b)).2.2 ∧ w.grownBy w' (some g) := by
  have HTK := Lib.hid (take_any g k s b w h (by omega) hs)
  obtain ⟨t, ht⟩ : ∃ t, takeP k (s, b) = t := ⟨_, rfl⟩
  rw [ht] at HTK
  unfold numP
  rw [ht]
  obtain ⟨x, s', b'⟩ := t
  have hx : x.data.toList.length ≤ 8 := by
    have := (takeP_size k s b).1
    rw [ht] at this
    exact Nat.le_trans this hk
  obtain ⟨xs, hxs⟩ : ∃ xs, x.data.toList = xs := ⟨_, rfl⟩
  have hxl : x.size = xs.length := by rw [← hxs]; rfl
  rw [hxs] at hx
  go_enter Try.func39, Try.ntmps39
  go_wp2_with (go_at_call 41; refine HTK.out.mono ?_; rintro e w1 ⟨rfl, hR, hG⟩; obtain ⟨cp, W2, hcv, hb2, hcl, hrd⟩ := bytes_of w1 x; rw [hxl] at hcv; have HR := Lib.hid (hrd _ _ _ hR); have HG := Lib.hid (grownBy_trans hG (grownBy_below hb2 _)); rw [hxs] at hcl; have HCL := Lib.hid hcl; clear hR hG hrd hb2 hcl)
  go_loopw [4, 12] (fun v4 v12 wr => ∃ i : Nat, v4 = .int .u64 (numL (xs.take i) : Nat) ∧ v12 = .int .i64 (i : Int) ∧ i ≤ xs.length ∧ wr = W2) (fun _ v12 _ => xs.length - (intOf v12).toNat)
  case atStart => exact ⟨0, rfl, rfl, Nat.zero_le _, rfl⟩
  case round =>
    obtain ⟨i, rfl, rfl, hi, rfl⟩ := hrel
    by_cases hlt : i < xs.length
    · have e1 : decide ((i : Int) < (xs.length : Int)) = true := decide_eq_true (by omega)
      have k1 : (0 : Int) ≤ (i : Int) := by omega
      have k2 : (i : Int) < (xs.length : Int) := by omega
      have hc := HCL.out i hlt
      have hw8 : IntKind.i64.wrap (8 * (i : Int)) = 8 * (i : Int) := by rw [IntWalk.i64_in _ (by omega)]
      have hb9 := xs[i].toNat_lt
      have hst := or_step (a := numL (xs.take i)) (b := xs[i].toNat) (i := i) (by have := numL_lt (xs.take i); rw [List.length_take, Nat.min_eq_left (by omega)] at this; exact this) (by omega) (by omega)
      rw [← numL_take hlt, wrap_nat xs[i].toNat (by omega)] at hst
      go_wp2
      exact ⟨⟨i + 1, rfl, by first | rfl | go_num, by omega, trivial⟩, by simp [intOf]; omega⟩
    · have e1 : decide ((i : Int) < (xs.length : Int)) = false := decide_eq_false (by omega)
      have HE := Lib.hid (show numL (xs.take i) = numL x.data.toList by rw [hxs, List.take_of_length_le (by omega)])
      go_wp2
      go_ret
      exact ⟨by rw [← HE.out]; rfl, HR.out, HG.out⟩
end Go.Proofs.Ytiiogdgnccgehaa
namespace Go.Proofs.Ytiiogdgnccgehaa
open Go.RowKit
attribute [local go_sem ↓] Go.wp_at_zero Go.wp_at_succ

/-- n bytes of 0 -/
def zB (n : Nat) : ByteArray := strOf (List.replicate n 0)
theorem zB_size (n : Nat) : (zB n).size = n := by unfold zB; rw [strOf_size, List.length_replicate]
abbrev CS := ByteArray × Int
/-- so many bytes, and what is left, and the error -/
def ctakeP (n : Nat) (st : CS) : ByteArray × CS := if st.2 = 0 then (if st.1.size < n then (zB n, (st.1, 10)) else (st.1.extract 0 n, (st.1.extract n st.1.size, 0))) else (zB n, st)
theorem ctakeP_size (n : Nat) (st : CS) : (ctakeP n st).1.size = n ∧ (ctakeP n st).2.1.size ≤ st.1.size := by
  unfold ctakeP
  split
  · split
    · exact ⟨zB_size n, Nat.le_refl _⟩
    · simp only [ByteArray.size_extract]
      omega
  · exact ⟨zB_size n, Nat.le_refl _⟩
theorem zero_string (w : World) (n : Nat) (hn : n ≤ 100000) : ∃ W1, (Instr.makeSlice 90 (.int .i64 n) (.int .i64 n)).run Try.prog w = .ok (.slice (some ⟨w.heap.size, 0, none⟩) n n) W1 ∧ Below w.heap.size w W1 ∧
    (convert 90 9 (.slice (some ⟨w.heap.size, 0, none⟩) n n)).run Try.prog W1 = .ok (.string (zB n)) W1 := by
  obtain ⟨i0, hi0, hz0, hz1, hz2⟩ := info_parts byteInfo
  have hmk := run_make (P := Try.prog) w 90 5 i0 (.int .u8 0) Try.underlying90 hi0 hz0 .i64 .i64 n n (by omega) (by omega) (by rw [hz2]; omega) (by omega)
  rw [hz1] at hmk
  have em : madeCells (Value.cells (.int .u8 0)) (Int.toNat n * 1) = ((List.replicate n (0 : Int)).map (Value.int .u8)).toArray := by
    apply Array.ext'
    rw [show Value.cells (.int .u8 0) = #[.int .u8 0] from rfl, toList_madeCells_one, Nat.mul_one, Int.toNat_natCast]
    simp
  rw [em] at hmk
  refine ⟨w.alloc (.cells ((List.replicate n (0 : Int)).map (Value.int .u8)).toArray 5), ?_, below_al w _, ?_⟩
  · rw [Int.toNat_natCast] at hmk
    exact hmk
  · have h0 : Bys (w.alloc (.cells ((List.replicate n (0 : Int)).map (Value.int .u8)).toArray 5)) w.heap.size (List.replicate n 0) := heap_alloc_new w _
    exact run_strX (c := n) h0 n (by simp)
section
variable {w : World} {g : Nat} {s : ByteArray} {e : Int}
theorem CR_set0 (h : Blk 123 w g [.string s, .int .i64 e]) (s' : ByteArray) : Blk 123 (w.setCell ⟨g, 0, none⟩ (.string s')) g [.string s', .int .i64 e] := h.set 0 _
theorem CR_set1 (h : Blk 123 w g [.string s, .int .i64 e]) (e' : Int) : Blk 123 (w.setCell ⟨g, 1, none⟩ (.int .i64 e')) g [.string s, .int .i64 e'] := h.set 1 _
end
def CRd (w : World) (g : Nat) (st : CS) : Prop := Blk 123 w g [.string st.1, .int .i64 st.2]

set_option maxHeartbeats 4000000 in
theorem ctake_any (g n : Nat) (st : CS) (w : World) (h : CRd w g st) (hn : n ≤ 100000) (hs : st.1.size ≤ 100000000) :
    Calls Try.prog 81 #[.pointer (some ⟨g, 0, none⟩), .int .i64 n] w fun e w' => e = .returned (.string (ctakeP n st).1) ∧ CRd w' g (ctakeP n st).2 ∧ w.grownBy w' (some g) := by
  obtain ⟨s, er⟩ := st
  have c0 := h.cell (j := 0) rfl
  have c1 := h.cell (j := 1) rfl
  have f0 := h.free 0
  have f1 := h.free 1
  have H := Lib.hid h
  simp only at hs c0 c1
  clear h
  by_cases he : er = 0
  · subst he
    by_cases hc : s.size < n
    · have e1 : decide ((s.size : Int) < (n : Int)) = true := decide_eq_true (by omega)
      have HT := Lib.hid (show ctakeP n (s, 0) = (zB n, (s, 10)) by unfold ctakeP; rw [if_pos rfl, if_pos hc])
      obtain ⟨W1, hm1, hb1, hc1⟩ := zero_string (w.setCell ⟨g, 1, none⟩ (.int .i64 10)) n hn
      have hzz : (w.setCell ⟨g, 1, none⟩ (.int .i64 10)).heap.size = w.heap.size := by simp [World.setCell]
      rw [hzz] at hm1 hc1
      have HB := Lib.hid hb1
      clear hb1
      go_enter Try.func81, Try.ntmps81
      go_wp2
      go_ret
      refine ⟨by rw [HT.out]; rfl, ?_, grownBy_trans (grown_set w g 1 _) (grownBy_below HB.out _)⟩
      rw [HT.out]
      exact (CR_set1 H.out 10).below HB.out (by rw [hzz]; exact H.out.lt)
    · have e1 : decide ((s.size : Int) < (n : Int)) = false := decide_eq_false (by omega)
      have HT := Lib.hid (show ctakeP n (s, 0) = (s.extract 0 n, (s.extract n s.size, 0)) by unfold ctakeP; rw [if_pos rfl, if_neg hc])
      go_enter Try.func81, Try.ntmps81
      go_wp2
      go_ret
      exact ⟨by rw [HT.out]; rfl, by rw [HT.out]; exact CR_set0 H.out _, grown_set _ _ _ _⟩
  · have e0 : (er == 0) = false := by simpa using he
    have e2 : (er != 0) = true := by simpa using he
    have HT := Lib.hid (show ctakeP n (s, er) = (zB n, (s, er)) by unfold ctakeP; rw [if_neg he])
    obtain ⟨W1, hm1, hb1, hc1⟩ := zero_string w n hn
    have HB := Lib.hid hb1
    clear hb1 he
    go_enter Try.func81, Try.ntmps81
    go_wp2
    go_ret
    exact ⟨by rw [HT.out]; rfl, by rw [HT.out]; exact Blk.below H.out HB.out H.out.lt, grownBy_below HB.out _⟩
/-- the first byte -/
def byte0 (s : ByteArray) : Nat := (s.data.toList.headD 0).toNat
def ctextP (st : CS) : ByteArray × CS := ctakeP (byte0 (ctakeP 1 st).1) (ctakeP 1 st).2
def cnumP (st : CS) : Nat × CS := (numL (ctakeP 8 st).1.data.toList, (ctakeP 8 st).2)
def cflagP (st : CS) : Bool × CS := (decide (byte0 (ctakeP 1 st).1 = 1), if (ctakeP 1 st).2.2 = 0 ∧ 1 < byte0 (ctakeP 1 st).1 then ((ctakeP 1 st).2.1, 1) else (ctakeP 1 st).2)
theorem byte0_lt (s : ByteArray) : byte0 s < 256 := by unfold byte0; exact UInt8.toNat_lt _
theorem byte0_at {s : ByteArray} (h : 0 < s.size) : (s[0]'h).toNat = byte0 s := by
  unfold byte0
  congr 1
  have h1 : s.data.toList[0]? = some (s[0]'h) := by
    rw [Array.getElem?_toList]
    exact Array.getElem?_eq_getElem h
  cases hd : s.data.toList with
  | nil => rw [hd] at h1; cases h1
  | cons b l => rw [hd] at h1; injection h1 with h1; rw [← h1]; rfl
set_option maxHeartbeats 2000000 in
theorem ctext_any (g : Nat) (st : CS) (w : World) (h : CRd w g st) (hs : st.1.size ≤ 100000000) :
    Calls Try.prog 61 #[.pointer (some ⟨g, 0, none⟩)] w fun e w' => e = .returned (.string (ctextP st).1) ∧ CRd w' g (ctextP st).2 ∧ w.grownBy w' (some g) := by
  have H1 := Lib.hid (ctake_any g 1 st w h (by omega) hs)
  have hz := ctakeP_size 1 st
  unfold ctextP
  obtain ⟨t, ht⟩ : ∃ t, ctakeP 1 st = t := ⟨_, rfl⟩
  rw [ht] at H1 hz ⊢
  obtain ⟨x, s'⟩ := t
  simp only at hz H1 ⊢
  have h0 : 0 < x.size := by omega
  have hb := byte0_at h0
  have hbl := byte0_lt x
  have i0 : (0 : Int) < (x.size : Int) := by omega
  obtain ⟨b, hbb⟩ : ∃ b, byte0 x = b := ⟨_, rfl⟩
  rw [hbb] at hb hbl ⊢
  have HT := Lib.hid (fun W (h : CRd W g s') => ctake_any g b s' W h (by omega) (by omega))
  have hwb : IntKind.i64.wrap (b : Int) = (b : Int) := IntWalk.i64_in _ (by omega)
  clear ht hbb
  go_enter Try.func61, Try.ntmps61
  go_wp2_with (first
    | (go_at_call 81; have M := HR; clear M; refine (HT.out _ HR.out).mono ?_; rintro e w2 ⟨rfl, hR2, hG2⟩)
    | (go_at_call 81; refine H1.out.mono ?_; rintro e w1 ⟨rfl, hR, hG⟩; have HR := Lib.hid hR; have HG := Lib.hid hG; clear hR hG))
  go_ret
  exact ⟨rfl, hR2, grownBy_trans HG.out hG2⟩
set_option maxRecDepth 20000 in
set_option maxHeartbeats 2000000 in
theorem cellNumber_any (x : ByteArray) (w : World) (hx : x.size = 8) :
    Calls Try.prog 82 #[.string x] w fun e w' => e = .returned (.int .u64 (numL x.data.toList : Nat)) ∧ w = w' := by
  obtain ⟨xs, hxs⟩ : ∃ xs, x.data.toList = xs := ⟨_, rfl⟩
  have hxl : xs.length = 8 := by rw [← hxs]; exact hx
  have HG := Lib.hid (fun (i : Nat) (h : i < 8) => show (x[i]'(by omega)) = xs[i]'(by omega) by
    subst hxs
    rw [Array.getElem_toList]
    rfl)
  rw [hxs]
  have HXL := Lib.hid hxl
  clear hxs
  go_enter Try.func82, Try.ntmps82
  go_wp2
  go_loopw [2, 4] (fun v2 v4 wr => ∃ i : Nat, v2 = .int .u64 (numL (xs.take i) : Nat) ∧ v4 = .int .i64 (i : Int) ∧ i ≤ 8 ∧ wr = w) (fun _ v4 _ => 8 - (intOf v4).toNat)
  case atStart => exact ⟨0, rfl, rfl, Nat.zero_le _, rfl⟩
  case round =>
    obtain ⟨i, rfl, rfl, hi, rfl⟩ := hrel
    by_cases hlt : i < 8
    · have e1 : decide ((i : Int) < 8) = true := decide_eq_true (by omega)
      have k1 : (0 : Int) ≤ (i : Int) := by omega
      have k2 : (i : Int) < (x.size : Int) := by omega
      have k3 : i < x.size := by omega
      have hw8 : IntKind.i64.wrap (8 * (i : Int)) = 8 * (i : Int) := by rw [IntWalk.i64_in _ (by omega)]
      have hw1 : IntKind.i64.wrap ((i : Int) + 1) = ((i + 1 : Nat) : Int) := by rw [IntWalk.i64_in _ (by omega)]; omega
      have hg := HG.out i hlt
      have hil : i < xs.length := by have := HXL.out; omega
      have hb9 := xs[i].toNat_lt
      have hst := or_step (a := numL (xs.take i)) (b := xs[i].toNat) (i := i) (by have := numL_lt (xs.take i); rw [List.length_take, Nat.min_eq_left (by omega)] at this; exact this) (by omega) (by omega)
      rw [← numL_take hil, wrap_nat xs[i].toNat (by omega)] at hst
      have hwb := wrap_nat xs[i].toNat (by omega)
      go_wp2
      exact ⟨⟨i + 1, rfl, by first | rfl | go_num, by omega, trivial⟩, by simp [intOf]; omega⟩
    · have e1 : decide ((i : Int) < 8) = false := decide_eq_false (by omega)
      have HE := Lib.hid (show numL (xs.take i) = numL xs by rw [List.take_of_length_le (by have := HXL.out; omega)])
      go_wp2
      go_ret
      exact ⟨by rw [← HE.out]; rfl, rfl⟩
set_option maxHeartbeats 2000000 in
theorem cnum_any (g : Nat) (st : CS) (w : World) (h : CRd w g st) (hs : st.1.size ≤ 100000000) :
    Calls Try.prog 62 #[.pointer (some ⟨g, 0, none⟩)] w fun e w' => e = .returned (.int .u64 (cnumP st).1) ∧ CRd w' g (cnumP st).2 ∧ w.grownBy w' (some g) := by
  have H1 := Lib.hid (ctake_any g 8 st w h (by omega) hs)
  have hz := ctakeP_size 8 st
  unfold cnumP
  obtain ⟨t, ht⟩ : ∃ t, ctakeP 8 st = t := ⟨_, rfl⟩
  rw [ht] at H1 hz ⊢
  obtain ⟨x, s'⟩ := t
  simp only at hz H1 ⊢
  have HN := Lib.hid (fun W => cellNumber_any x W hz.1)
  clear ht
  go_enter Try.func62, Try.ntmps62
  go_wp2_with (first
    | (go_at_call 81; refine H1.out.mono ?_; rintro e w1 ⟨rfl, hR, hG⟩; have HR := Lib.hid hR; have HG := Lib.hid hG; clear hR hG)
    | (go_at_call 82; refine (HN.out _).mono ?_; rintro e w2 ⟨rfl, rfl⟩))
  go_ret
  exact ⟨rfl, HR.out, HG.out⟩
set_option maxHeartbeats 2000000 in
theorem cflag_any (g : Nat) (st : CS) (w : World) (h : CRd w g st) (hs : st.1.size ≤ 100000000) :
    Calls Try.prog 63 #[.pointer (some ⟨g, 0, none⟩)] w fun e w' => e = .returned (.bool (cflagP st).1) ∧ CRd w' g (cflagP st).2 ∧ w.grownBy w' (some g) := by
  have H1 := Lib.hid (ctake_any g 1 st w h (by omega) hs)
  have hz := ctakeP_size 1 st
  unfold cflagP
  obtain ⟨t, ht⟩ : ∃ t, ctakeP 1 st = t := ⟨_, rfl⟩
  rw [ht] at H1 hz ⊢
  obtain ⟨x, s', er⟩ := t
  simp only at hz H1 ⊢
  have h0 : 0 < x.size := by omega
  have hb := byte0_at h0
  have hbl := byte0_lt x
  have i0 : (0 : Int) < (x.size : Int) := by omega
  obtain ⟨b, hbb⟩ : ∃ b, byte0 x = b := ⟨_, rfl⟩
  rw [hbb] at hb hbl ⊢
  clear ht hbb
  have hb1 : ((b : Int) == 1) = decide (b = 1) := by
    by_cases h : b = 1
    · simp [h]
    · have : ¬ (b : Int) = 1 := by omega
      simp [h, this]
  obtain ⟨fs, hfs⟩ : ∃ fs : CS, (if er = 0 ∧ 1 < b then (s', (1 : Int)) else (s', er)) = fs := ⟨_, rfl⟩
  rw [hfs]
  have HF := Lib.hid hfs
  clear hfs
  by_cases he : er = 0
  · subst he
    by_cases hgt : 1 < b
    · have e1 : decide ((1 : Int) < (b : Int)) = true := decide_eq_true (by omega)
      have HE := Lib.hid (show fs = (s', 1) by rw [← HF.out, if_pos ⟨rfl, hgt⟩])
      go_enter Try.func63, Try.ntmps63
      go_wp2_with (go_at_call 81; refine H1.out.mono ?_; rintro e w1 ⟨rfl, hR, hG⟩; have HR := Lib.hid hR; have HG := Lib.hid hG; have c1 := HR.out.cell (j := 1) rfl; have f1 := Blk.free HR.out 1; clear hR hG)
      go_ret
      refine ⟨by rw [← hb1]; rfl, ?_, grownBy_trans HG.out (grown_set _ _ _ _)⟩
      rw [HE.out]
      exact CR_set1 HR.out 1
    · have e1 : decide ((1 : Int) < (b : Int)) = false := decide_eq_false (by omega)
      have HE := Lib.hid (show fs = (s', 0) by rw [← HF.out, if_neg (fun h => hgt h.2)])
      go_enter Try.func63, Try.ntmps63
      go_wp2_with (go_at_call 81; refine H1.out.mono ?_; rintro e w1 ⟨rfl, hR, hG⟩; have HR := Lib.hid hR; have HG := Lib.hid hG; have c1 := HR.out.cell (j := 1) rfl; have f1 := Blk.free HR.out 1; clear hR hG)
      go_ret
      refine ⟨by rw [← hb1]; rfl, ?_, HG.out⟩
      rw [HE.out]
      exact HR.out
  · have e0 : (er == 0) = false := by simpa using he
    have HE := Lib.hid (show fs = (s', er) by rw [← HF.out, if_neg (fun h => he h.1)])
    clear he
    go_enter Try.func63, Try.ntmps63
    go_wp2_with (go_at_call 81; refine H1.out.mono ?_; rintro e w1 ⟨rfl, hR, hG⟩; have HR := Lib.hid hR; have HG := Lib.hid hG; have c1 := HR.out.cell (j := 1) rfl; have f1 := Blk.free HR.out 1; clear hR hG)
    go_ret
    refine ⟨by rw [← hb1]; rfl, ?_, HG.out⟩
    rw [HE.out]
    exact HR.out
end Go.Proofs.Ytiiogdgnccgehaa
namespace Go.Proofs.Ytiiogdgnccgehaa
open Go.RowKit
attribute [local go_sem ↓] Go.wp_at_zero Go.wp_at_succ

theorem setCells_blk (T : TypeId) (g : Nat) : ∀ (vs pre old : List Value) (w : World), Blk T w g (pre ++ old) → vs.length = old.length → Blk T (w.setCells g pre.length vs) g (pre ++ vs)
  | [], pre, old, w, h, hl => by
    have : old = [] := List.length_eq_zero_iff.1 hl.symm
    subst this
    exact h
  | v :: vs, pre, [], w, h, hl => by simp at hl
  | v :: vs, pre, o :: old, w, h, hl => by
    have h1 := h.set pre.length v
    rw [List.set_append_right _ _ (Nat.le_refl _), Nat.sub_self, List.set_cons_zero] at h1
    have h2 := setCells_blk T g vs (pre ++ [v]) old (w.setCell ⟨g, pre.length, none⟩ v) (by simpa using h1) (by simpa using hl)
    rw [List.length_append, List.length_cons, List.length_nil, List.append_assoc] at h2
    exact h2
section
variable {T : TypeId} {w w' : World} {g : Nat} {cs : List Value}
theorem Blk.there (h : Blk T w g cs) (n : Nat) (hn : n ≤ cs.length) : w.there g 0 n := fun j hj => by
  refine ⟨?_, h.free _⟩
  rw [Nat.zero_add, h.cell (j := j) (List.getElem?_eq_getElem (by omega))]
  rfl
theorem Blk.setW (h : Blk T w g cs) (vs : List Value) (hl : vs.length = cs.length) {M : World → Prop} (hM : ∀ w', Hid (Blk T w' g vs) → Hid (w.grownBy w' (some g)) → M w') : M (w.setCells g 0 vs) := by
  have h1 := setCells_blk T g vs [] cs w h hl
  exact hM _ (Lib.hid h1) (Lib.hid (setCells_block _ _ vs 0 w _ h).2)
theorem Blk.setE (h : Blk T w g cs) (vs : List Value) (hl : vs.length = cs.length) {w' : World} (hw : w.setCells g 0 vs = w') : Blk T w' g vs ∧ w.grownBy w' (some g) := by
  subst hw
  exact ⟨setCells_blk T g vs [] cs w h hl, (setCells_block _ _ vs 0 w _ h).2⟩
end
theorem there_madeB (T : TypeId) (w : World) (zs : List Value) (n : Nat) (hn : n ≤ zs.length) : (w.alloc (.cells zs.toArray T)).there w.heap.size 0 n := (Blk.new T w zs).there n hn
theorem Blk.madeW (T : TypeId) (w : World) (zs vs : List Value) (hl : vs.length = zs.length) {M : World → Prop} (hM : ∀ w', Hid (Blk T w' w.heap.size vs) → Hid (Below w.heap.size w w') → M w') : M ((w.alloc (.cells zs.toArray T)).setCells w.heap.size 0 vs) := by
  refine (Blk.new T w zs).setW vs hl ?_
  intro w' h1 h2
  exact hM w' h1 (Lib.hid (below_grown (below_al w _) (by rw [World.size_alloc]; omega) h2.out (Nat.le_refl _)))
theorem results_cell_tmp2 {fn : Func} {p u v : Tmp} {ty : TypeId} (h : fn.results = #[.cell p ty, .tmp u, .tmp v]) (tmps : Array Value) (P : Program) (w : World) :
    (results fn tmps).run P w =
      ((asAddr (tmps.getD p undef)).run P w).andThen fun a w₁ => ((loadVar ty a).run P w₁).andThen fun x w₂ => .ok (.tuple #[x, tmps.getD u undef, tmps.getD v undef]) w₂ := by
  simp only [results, h]
  simp [Sem.run_bind, Result.andThen]
theorem results_two {fn : Func} {p q : Tmp} {ty uy : TypeId} (h : fn.results = #[.cell p ty, .cell q uy]) (tmps : Array Value) (P : Program) (w : World) :
    (results fn tmps).run P w =
      ((asAddr (tmps.getD p undef)).run P w).andThen fun a w₁ => ((loadVar ty a).run P w₁).andThen fun x w₂ => ((asAddr (tmps.getD q undef)).run P w₂).andThen fun b w₃ => ((loadVar uy b).run P w₃).andThen fun y w₄ => .ok (.tuple #[x, y]) w₄ := by
  simp only [results, h]
  simp [Sem.run_bind, Result.andThen]
/-- a result's block and a word -/
theorem blk_results {fn : Func} {p u : Tmp} {T : TypeId} (h : fn.results = #[.cell p T, .tmp u]) {d : TypeDesc} (hu : Try.prog.underlying T = some d) (hd : d.isRow = true) (tmps : Array Value) (w : World) (g : Nat) (cs : List Value) (hi : (Try.prog.info? T).map (·.size) = some cs.length) (x : Value)
    (h1 : tmps.getD p undef = .pointer (some ⟨g, 0, none⟩)) (h2 : tmps.getD u undef = x) (hb : Blk T w g cs) : (results fn tmps).run Try.prog w = .ok (.tuple #[.agg cs.toArray, x]) w := by
  rw [results_cell_tmp h, h1, h2]
  simp only [asAddr, Sem.run_pure, Result.andThen_ok, run_loadVar_mid w g 0 T _ _ hb.range hu hd hi]
theorem blk_results2 {fn : Func} {p u v : Tmp} {T : TypeId} (h : fn.results = #[.cell p T, .tmp u, .tmp v]) {d : TypeDesc} (hu : Try.prog.underlying T = some d) (hd : d.isRow = true) (tmps : Array Value) (w : World) (g : Nat) (cs : List Value) (hi : (Try.prog.info? T).map (·.size) = some cs.length) (x y : Value)
    (h1 : tmps.getD p undef = .pointer (some ⟨g, 0, none⟩)) (h2 : tmps.getD u undef = x) (h3 : tmps.getD v undef = y) (hb : Blk T w g cs) : (results fn tmps).run Try.prog w = .ok (.tuple #[.agg cs.toArray, x, y]) w := by
  rw [results_cell_tmp2 h, h1, h2, h3]
  simp only [asAddr, Sem.run_pure, Result.andThen_ok, run_loadVar_mid w g 0 T _ _ hb.range hu hd hi]
theorem blk_two {fn : Func} {p q : Tmp} {T U : TypeId} (h : fn.results = #[.cell p T, .cell q U]) {d e : TypeDesc} (hu : Try.prog.underlying T = some d) (hd : d.isRow = true) (hu' : Try.prog.underlying U = some e) (hd' : e.isRow = true)
    (tmps : Array Value) (w : World) (g k : Nat) (cs ds : List Value) (hi : (Try.prog.info? T).map (·.size) = some cs.length) (hi' : (Try.prog.info? U).map (·.size) = some ds.length)
    (h1 : tmps.getD p undef = .pointer (some ⟨g, 0, none⟩)) (h2 : tmps.getD q undef = .pointer (some ⟨k, 0, none⟩)) (hb : Blk T w g cs) (hc : Blk U w k ds) : (results fn tmps).run Try.prog w = .ok (.tuple #[.agg cs.toArray, .agg ds.toArray]) w := by
  rw [results_two h, h1, h2]
  simp only [asAddr, Sem.run_pure, Result.andThen_ok, run_loadVar_mid w g 0 T _ _ hb.range hu hd hi, run_loadVar_mid w k 0 U _ _ hc.range hu' hd' hi']
end Go.Proofs.Ytiiogdgnccgehaa
namespace Go.Proofs.Ytiiogdgnccgehaa
open Go.RowKit
attribute [local go_sem ↓] Go.wp_at_zero Go.wp_at_succ

theorem ctextP_size (st : CS) : (ctextP st).2.1.size ≤ st.1.size := Nat.le_trans (ctakeP_size _ _).2 (ctakeP_size _ _).2
theorem cnumP_size (st : CS) : (cnumP st).2.1.size ≤ st.1.size := (ctakeP_size _ _).2
theorem cflagP_size (st : CS) : (cflagP st).2.1.size ≤ st.1.size := by
  unfold cflagP
  simp only
  split <;> exact (ctakeP_size _ _).2
/-- what is read of a cell's bytes -/
def cdP (s : ByteArray) : Cl × CS :=
  let a1 := ctextP (s, 0)
  let a2 := ctextP a1.2
  let a3 := cnumP a2.2
  let a4 := cnumP a3.2
  let a5 := cflagP a4.2
  let a6 := ctextP a5.2
  (⟨a1.1, a2.1, a3.1, a4.1, a5.1, a6.1⟩, a6.2)
/-- the cell, and what is behind it -/
def cellDecP (s : ByteArray) : Option (Cl × ByteArray) := if (cdP s).2.2 = 0 ∧ may (cdP s).1 = true then some ((cdP s).1, (cdP s).2.1) else none
def zv : List Value := [.string ⟨#[]⟩, .string ⟨#[]⟩, .int .u64 0, .int .u64 0, .bool false, .string ⟨#[]⟩]
/-- the answer's variable (nothing yet) and the reader, made behind w -/
structure CDS (w W : World) (st : CS) : Prop where
  bl : Below w.heap.size w W
  z : Blk 75 W w.heap.size zv
  r : CRd W (w.heap.size + 1) st
structure CDV (w W : World) (st : CS) (g : Nat) (vs : List Value) : Prop where
  c : CDS w W st
  v : Blk 75 W g vs
  lt : w.heap.size + 1 < g
section
variable {w W W' : World} {st st' : CS} {g : Nat} {vs : List Value}
theorem CDS.read (h : CDS w W st) (hr : CRd W' (w.heap.size + 1) st') (hg : W.grownBy W' (some (w.heap.size + 1))) : CDS w W' st' :=
  ⟨below_grown h.bl h.bl.size hg (by omega), h.z.grown hg (fun e => by injection e; omega), hr⟩
theorem CDS.other (h : CDS w W st) {row : Option Nat} (hg : W.grownBy W' row) (hr : ∀ k, row = some k → w.heap.size + 1 < k) : CDS w W' st :=
  ⟨h.bl.grown hg h.bl.size (fun k hk => by have := hr k hk; omega), h.z.grown hg (fun e => by have := hr _ e; omega), h.r.grown hg (fun e => by have := hr _ e; omega)⟩
theorem CDS.below (h : CDS w W st) (hb : Below W.heap.size W W') : CDS w W' st := h.other (grownBy_below hb none) (fun k hk => by cases hk)
theorem CDV.read (h : CDV w W st g vs) (hc : CDS w W' st') (hg : W.grownBy W' (some (w.heap.size + 1))) : CDV w W' st' g vs :=
  ⟨hc, h.v.grown hg (fun e => by injection e; have := h.lt; omega), h.lt⟩
theorem CDV.set (h : CDV w W st g vs) (j : Nat) (x : Value) : CDV w (W.setCell ⟨g, j, none⟩ x) st g (vs.set j x) :=
  ⟨h.c.other (grown_set W g j x) (fun k hk => by injection hk; have := h.lt; omega), h.v.set j x, h.lt⟩
theorem CDV.below (h : CDV w W st g vs) (hb : Below W.heap.size W W') : CDV w W' st g vs := ⟨h.c.below hb, h.v.below hb h.v.lt, h.lt⟩
theorem CDS.text (h : CDS w W st) (hs : st.1.size ≤ 100000000) {x : ByteArray} (hp : ctextP st = (x, st')) :
    Calls Try.prog 61 #[.pointer (some ⟨w.heap.size + 1, 0, none⟩)] W fun e w' => e = .returned (.string x) ∧ CDS w w' st' ∧ W.grownBy w' (some (w.heap.size + 1)) := by
  refine (ctext_any (w.heap.size + 1) st W h.r hs).mono ?_
  rw [hp]
  rintro e w' ⟨rfl, hr, hg⟩
  exact ⟨rfl, h.read hr hg, hg⟩
theorem CDS.num (h : CDS w W st) (hs : st.1.size ≤ 100000000) {x : Nat} (hp : cnumP st = (x, st')) :
    Calls Try.prog 62 #[.pointer (some ⟨w.heap.size + 1, 0, none⟩)] W fun e w' => e = .returned (.int .u64 x) ∧ CDS w w' st' ∧ W.grownBy w' (some (w.heap.size + 1)) := by
  refine (cnum_any (w.heap.size + 1) st W h.r hs).mono ?_
  rw [hp]
  rintro e w' ⟨rfl, hr, hg⟩
  exact ⟨rfl, h.read hr hg, hg⟩
theorem CDS.flag (h : CDS w W st) (hs : st.1.size ≤ 100000000) {x : Bool} (hp : cflagP st = (x, st')) :
    Calls Try.prog 63 #[.pointer (some ⟨w.heap.size + 1, 0, none⟩)] W fun e w' => e = .returned (.bool x) ∧ CDS w w' st' ∧ W.grownBy w' (some (w.heap.size + 1)) := by
  refine (cflag_any (w.heap.size + 1) st W h.r hs).mono ?_
  rw [hp]
  rintro e w' ⟨rfl, hr, hg⟩
  exact ⟨rfl, h.read hr hg, hg⟩
end
def CDOut (s : ByteArray) (w : World) (e : Ending) (w' : World) : Prop := ∃ (v : Cl) (r : ByteArray) (E : Int), e = .returned (.tuple #[v.agg, .string r, .int .i64 E]) ∧ Below w.heap.size w w' ∧ ((E = 0 ∧ cellDecP s = some (v, r)) ∨ (E ≠ 0 ∧ cellDecP s = none))
theorem cd_out {w w' : World} {s r : ByteArray} {v : Cl} {E : Int} (hb : Below w.heap.size w w') (h : (E = 0 ∧ cellDecP s = some (v, r)) ∨ (E ≠ 0 ∧ cellDecP s = none)) : CDOut s w (.returned (.tuple #[v.agg, .string r, .int .i64 E])) w' := ⟨v, r, E, rfl, hb, h⟩
theorem zv_one : ∀ u ∈ zv, u.oneCell' = true := by simp [zv, Value.oneCell']
set_option maxRecDepth 100000 in
set_option maxHeartbeats 8000000 in
theorem cellDecode_any (s : ByteArray) (w : World) (hs : s.size ≤ 100000) :
    Calls Try.prog 40 #[.string s] w (CDOut s w) := by
  obtain ⟨⟨row, st1⟩, h1⟩ : ∃ p, ctextP (s, 0) = p := ⟨_, rfl⟩
  obtain ⟨⟨col, st2⟩, h2⟩ : ∃ p, ctextP st1 = p := ⟨_, rfl⟩
  obtain ⟨⟨ts, st3⟩, h3⟩ : ∃ p, cnumP st2 = p := ⟨_, rfl⟩
  obtain ⟨⟨sq, st4⟩, h4⟩ : ∃ p, cnumP st3 = p := ⟨_, rfl⟩
  obtain ⟨⟨del, st5⟩, h5⟩ : ∃ p, cflagP st4 = p := ⟨_, rfl⟩
  obtain ⟨⟨val, ⟨r6, er⟩⟩, h6⟩ : ∃ p, ctextP st5 = p := ⟨_, rfl⟩
  have s1 : st1.1.size ≤ 100000 := by have := ctextP_size (s, 0); rw [h1] at this; exact Nat.le_trans this hs
  have s2 : st2.1.size ≤ 100000 := by have := ctextP_size st1; rw [h2] at this; exact Nat.le_trans this s1
  have s3 : st3.1.size ≤ 100000 := by have := cnumP_size st2; rw [h3] at this; exact Nat.le_trans this s2
  have s4 : st4.1.size ≤ 100000 := by have := cnumP_size st3; rw [h4] at this; exact Nat.le_trans this s3
  have s5 : st5.1.size ≤ 100000 := by have := cflagP_size st4; rw [h5] at this; exact Nat.le_trans this s4
  have hcd : cdP s = (⟨row, col, ts, sq, del, val⟩, (r6, er)) := by unfold cdP; simp only [h1, h2, h3, h4, h5, h6]
  have HCD := Lib.hid hcd
  have HP1 := Lib.hid h1
  have HP2 := Lib.hid h2
  have HP3 := Lib.hid h3
  have HP4 := Lib.hid h4
  have HP5 := Lib.hid h5
  have HP6 := Lib.hid h6
  have HS := Lib.hid (And.intro s1 (And.intro s2 (And.intro s3 (And.intro s4 s5))))
  have hz0 : CDS w ((w.alloc (.cells zv.toArray 75)).alloc (.cells #[.string s, .int .i64 0] 123)) (s, 0) := by
    have hb1 := Blk.new 75 w zv
    have hb2 := below_al (w.alloc (.cells zv.toArray 75)) (.cells #[.string s, .int .i64 0] 123)
    refine ⟨(below_al w _).trans (hb2.mono (by rw [World.size_alloc]; omega)), hb1.below hb2 hb1.lt, ?_⟩
    have hb3 := Blk.new 123 (w.alloc (.cells zv.toArray 75)) [.string s, .int .i64 0]
    rw [World.size_alloc] at hb3
    exact hb3
  unfold zv at hz0
  have HZ0 := Lib.hid hz0
  clear s1 s2 s3 s4 s5 h1 h2 h3 h4 h5 h6 hz0 hcd
  by_cases he : er = 0
  · cases hm : may ⟨row, col, ts, sq, del, val⟩ with
    | true =>
      have HM := Lib.hid hm
      subst he
      go_enter Try.func40, Try.ntmps40
      go_wp2_with (first
        | (go_at_call 61; refine (CDS.text HV5.out.c (by have := HS.out.2.2.2.2; omega) HP6.out).mono ?_; rintro e w7 ⟨rfl, hz, hg⟩; have hv6 := (HV5.out.read hz hg); have c5 := hv6.v.cell (j := 5) rfl; have f5 := hv6.v.free 5; have HV := Lib.hid (hv6.set 5 (.string val)); have c9 := HV.out.c.r.cell (j := 1) rfl; have c8 := HV.out.c.r.cell (j := 0) rfl; clear hz hg hv6 HV5)
        | (go_at_call 63; refine (CDS.flag HV4.out.c (by have := HS.out.2.2.2.1; omega) HP5.out).mono ?_; rintro e w6 ⟨rfl, hz, hg⟩; have hv5 := (HV4.out.read hz hg); have c4 := hv5.v.cell (j := 4) rfl; have f4 := hv5.v.free 4; have HV5 := Lib.hid (hv5.set 4 (.bool del)); clear hz hg hv5 HV4)
        | (go_at_call 62; refine (CDS.num HV3.out.c (by have := HS.out.2.2.1; omega) HP4.out).mono ?_; rintro e w5 ⟨rfl, hz, hg⟩; have hv4 := (HV3.out.read hz hg); have c2 := hv4.v.cell (j := 2) rfl; have c3 := hv4.v.cell (j := 3) rfl; have f2 := hv4.v.free 2; have f3 := hv4.v.free 3; have HV4 := Lib.hid ((hv4.set 2 (.int .u64 ts)).set 3 (.int .u64 sq)); clear hz hg hv4 HV3)
        | (go_at_call 62; refine (CDS.num HV2.out.c (by have := HS.out.2.1; omega) HP3.out).mono ?_; rintro e w4 ⟨rfl, hz, hg⟩; have HV3 := Lib.hid (HV2.out.read hz hg); clear hz hg HV2)
        | (go_at_call 61; refine (CDS.text HV1.out.c (by have := HS.out.1; omega) HP2.out).mono ?_; rintro e w3 ⟨rfl, hz, hg⟩; have hv2 := (HV1.out.read hz hg); have c1 := hv2.v.cell (j := 1) rfl; have f1 := hv2.v.free 1; have HV2 := Lib.hid (hv2.set 1 (.string col)); clear hz hg hv2 HV1)
        | (go_at_call 61; refine (CDS.text HZ0.out (by simp only; omega) HP1.out).mono ?_; rintro e w1 ⟨rfl, hz, -⟩; have HV1 := Lib.hid (show CDV w (w1.alloc (.cells #[.string row, .string ⟨#[]⟩, .int .u64 0, .int .u64 0, .bool false, .string ⟨#[]⟩] 75)) st1 w1.heap.size [.string row, .string ⟨#[]⟩, .int .u64 0, .int .u64 0, .bool false, .string ⟨#[]⟩] from ⟨hz.below (below_al w1 _), Blk.new _ _ _, Blk.lt hz.r⟩); clear hz HZ0)
        | (show wpList _ _ _ ({ dst := some 40, op := Op.load _ _, type := _, pos := _, after := _, guard := _ } :: _) _ _; refine wpList_load_mid rfl 75 (.tmp 6) rfl w1.heap.size 0 rfl [.string row, .string col, .int .u64 ts, .int .u64 sq, .bool del, .string val] _ HV.out.v.range Try.underlying75 rfl (by kernel_rfl) ?_)
        | (go_at_call 55; refine (cellMay_any ⟨row, col, ts, sq, del, val⟩ _).mono ?_; rintro e w8 ⟨rfl, hb⟩; simp only [HM.out]; have HV8 := Lib.hid (HV.out.below hb); clear hb HV)
        | (show wpList _ _ _ ({ dst := none, op := Op.store _ (Operand.tmp 2) _, type := _, pos := _, after := _, guard := _ } :: _) _ _; refine wpList_store_mid rfl 75 (.tmp 2) (.tmp 43) rfl w.heap.size 0 #[.string ⟨#[]⟩, .string ⟨#[]⟩, .int .u64 0, .int .u64 0, .bool false, .string ⟨#[]⟩] rfl rfl (HV8.out.c.z.there 6 (Nat.le_refl _)) (by kernel_rfl) (by simp [Value.oneCell']) ?_; refine HV8.out.c.z.setW zv rfl ?_; intro w9 HZ9 HG9))
      have HV := Lib.hid (HV8.out.below ((Below.refl _ w8).drew))
      have hcell : ∀ W, Hid (CRd W (w.heap.size + 1) (r6, 0)) → Hid (Blk 75 W w1.heap.size [.string row, .string col, .int .u64 ts, .int .u64 sq, .bool del, .string val]) → W.cell? ⟨w.heap.size + 1, 0, none⟩ = some (.string r6) ∧ W.rangeAt w1.heap.size 0 [.string row, .string col, .int .u64 ts, .int .u64 sq, .bool del, .string val] := fun W h k => ⟨h.out.cell (j := 0) rfl, k.out.range⟩
      have HC := hcell _ (Lib.hid HV.out.c.r) (Lib.hid HV.out.v)
      go_wp2
      refine region_wz (fun W => W.cell? ⟨w.heap.size + 1, 0, none⟩ = some (.string r6) ∧ W.rangeAt w1.heap.size 0 [.string row, .string col, .int .u64 ts, .int .u64 sq, .bool del, .string val]) (some 7) (by kernel_rfl) ?_
      apply WZ.take (i := 0) (some 44) rfl rfl (by kernel_rfl) (by kernel_rfl) (by kernel_rfl) (calm_panic _) (by kernel_rfl)
      case hy => first | (apply yieldsIf_load_mid (by kernel_rfl) _ _ rfl _ _ rfl; (case hS => (intro W hC; exact hC.1)); (case hu => exact Try.underlying75); (case hd => rfl); (case hi => kernel_rfl)) | (apply yieldsIf_load_mid (by kernel_rfl) _ _ rfl _ _ rfl; (case hS => (intro W hC; exact hC.2.1)); (case hu => exact Try.underlying75); (case hd => rfl); (case hi => kernel_rfl)) | (apply yieldsIf_load_mid (by kernel_rfl) _ _ rfl _ _ rfl; (case hS => (intro W hC; exact hC.2.2.1)); (case hu => exact Try.underlying75); (case hd => rfl); (case hi => kernel_rfl)) | (apply yieldsIf_load_mid (by kernel_rfl) _ _ rfl _ _ rfl; (case hS => (intro W hC; exact hC.2.2.2.1)); (case hu => exact Try.underlying75); (case hd => rfl); (case hi => kernel_rfl)) | (apply yieldsIf_load_mid (by kernel_rfl) _ _ rfl _ _ rfl; (case hS => (intro W hC; exact hC.2.2.2)); (case hu => exact Try.underlying75); (case hd => rfl); (case hi => kernel_rfl)) | (apply yieldsIf_load_mid (by kernel_rfl) _ _ rfl _ _ rfl; (case hS => (intro W hC; exact hC.2.2)); (case hu => exact Try.underlying75); (case hd => rfl); (case hi => kernel_rfl)) | (apply yieldsIf_load_mid (by kernel_rfl) _ _ rfl _ _ rfl; (case hS => (intro W hC; exact hC.2)); (case hu => exact Try.underlying75); (case hd => rfl); (case hi => kernel_rfl)) | (apply yieldsIf_load_mid (by kernel_rfl) _ _ rfl _ _ rfl; (case hS => (intro W hC; exact hC)); (case hu => exact Try.underlying75); (case hd => rfl); (case hi => kernel_rfl))
      case hC => exact HC
      case ha => (simp only [Act.put, List.setIfInBounds_toArray, List.set_cons_zero, List.set_cons_succ]; rfl)
      apply WZ.take (i := 1) (some 45) rfl rfl (by kernel_rfl) (by kernel_rfl) (by kernel_rfl) (calm_panic _) (by kernel_rfl)
      case hy => (refine .inl ⟨by kernel_rfl, fun W hC => ?_⟩; (try dsimp only at hC); go_simp; rfl)
      case hC => exact HC
      case ha => (simp only [Act.put, List.setIfInBounds_toArray, List.set_cons_zero, List.set_cons_succ]; rfl)
      apply WZ.take (i := 2) (some 46) rfl rfl (by kernel_rfl) (by kernel_rfl) (by kernel_rfl) (calm_panic _) (by kernel_rfl)
      case hy => (refine .inl ⟨by kernel_rfl, fun W hC => ?_⟩; (try dsimp only at hC); go_simp; rfl)
      case hC => exact HC
      case ha => (simp only [Act.put, List.setIfInBounds_toArray, List.set_cons_zero, List.set_cons_succ]; rfl)
      apply WZ.take (i := 3) (some 47) rfl rfl (by kernel_rfl) (by kernel_rfl) (by kernel_rfl) (calm_panic _) (by kernel_rfl)
      case hy => (refine .inl ⟨by kernel_rfl, fun W hC => ?_⟩; (try dsimp only at hC); go_simp; rfl)
      case hC => exact HC
      case ha => (simp only [Act.put, List.setIfInBounds_toArray, List.set_cons_zero, List.set_cons_succ]; rfl)
      apply WZ.take (i := 4) (some 48) rfl rfl (by kernel_rfl) (by kernel_rfl) (by kernel_rfl) (calm_panic _) (by kernel_rfl)
      case hy => (refine .inl ⟨by kernel_rfl, fun W hC => ?_⟩; (try dsimp only at hC); go_simp; rfl)
      case hC => exact HC
      case ha => (simp only [Act.put, List.setIfInBounds_toArray, List.set_cons_zero, List.set_cons_succ]; rfl)
      -- 5
      refine WZ.one (i := 5) rfl (by kernel_rfl) ?_
      conv => arg 4; arg 1; whnf
      have q := HV.out.c.z.there 6 (Nat.le_refl _)
      refine wpList_store_mid rfl 75 (.tmp 2) (.tmp 44) rfl w.heap.size 0 #[.string row, .string col, .int .u64 ts, .int .u64 sq, .bool del, .string val] rfl rfl q (by kernel_rfl) (by simp [Value.oneCell']) ?_
      clear q
      generalize hw9 : World.setCells _ w.heap.size 0 _ = w9
      obtain ⟨hz9, hg9⟩ := HV.out.c.z.setE (#[.string row, .string col, .int .u64 ts, .int .u64 sq, .bool del, .string val] : Array Value).toList rfl hw9
      have HZ9 := Lib.hid hz9
      have HG9 := Lib.hid hg9
      clear hw9 hz9 hg9
      go_wp2
      have hr9 : CRd w9 (w.heap.size + 1) (r6, 0) := HV.out.c.r.grown HG9.out (fun e => by injection e; omega)
      have hv9 : Blk 75 w9 w1.heap.size [.string row, .string col, .int .u64 ts, .int .u64 sq, .bool del, .string val] := HV.out.v.grown HG9.out (fun e => by injection e; have := HV.out.lt; omega)
      have HC := hcell _ (Lib.hid hr9) (Lib.hid hv9)
      refine ⟨HC, ?_⟩
      apply WZ.take (i := 6) (some 3) rfl rfl (by kernel_rfl) (by kernel_rfl) (by kernel_rfl) (calm_panic _) (by kernel_rfl)
      case hy => (refine .inl ⟨by kernel_rfl, fun W hC => ?_⟩; (try dsimp only at hC); go_simp; rfl)
      case hC => exact HC
      case ha => (simp only [Act.put, List.setIfInBounds_toArray, List.set_cons_zero, List.set_cons_succ]; rfl)
      -- 7
      refine WZ.last (i := 7) rfl (by kernel_rfl) (by kernel_rfl) ?_
      conv => arg 4; arg 1; whnf
      go_wp2
      refine WZ.done (by kernel_rfl) ?_ _
      simp only [Calm, Exit.then]
      go_wp2
      (try simp only [Exit.inBlock, Exit.then])
      refine bodyPost_ret (blk_results2 rfl Try.underlying75 rfl _ _ w.heap.size _ (by kernel_rfl) _ _ rfl rfl rfl HZ9.out) rfl ?_
      exact cd_out (v := ⟨row, col, ts, sq, del, val⟩) (r := r6) (E := 0) (below_grown HV.out.c.bl HV.out.c.bl.size HG9.out (Nat.le_refl _)) (.inl ⟨rfl, by unfold cellDecP; rw [HCD.out]; exact if_pos ⟨rfl, HM.out⟩⟩)
    | false =>
      have HM := Lib.hid hm
      subst he
      go_enter Try.func40, Try.ntmps40
      go_wp2_with (first
        | (go_at_call 61; refine (CDS.text HV5.out.c (by have := HS.out.2.2.2.2; omega) HP6.out).mono ?_; rintro e w7 ⟨rfl, hz, hg⟩; have hv6 := (HV5.out.read hz hg); have c5 := hv6.v.cell (j := 5) rfl; have f5 := hv6.v.free 5; have HV := Lib.hid (hv6.set 5 (.string val)); have c9 := HV.out.c.r.cell (j := 1) rfl; have c8 := HV.out.c.r.cell (j := 0) rfl; clear hz hg hv6 HV5)
        | (go_at_call 63; refine (CDS.flag HV4.out.c (by have := HS.out.2.2.2.1; omega) HP5.out).mono ?_; rintro e w6 ⟨rfl, hz, hg⟩; have hv5 := (HV4.out.read hz hg); have c4 := hv5.v.cell (j := 4) rfl; have f4 := hv5.v.free 4; have HV5 := Lib.hid (hv5.set 4 (.bool del)); clear hz hg hv5 HV4)
        | (go_at_call 62; refine (CDS.num HV3.out.c (by have := HS.out.2.2.1; omega) HP4.out).mono ?_; rintro e w5 ⟨rfl, hz, hg⟩; have hv4 := (HV3.out.read hz hg); have c2 := hv4.v.cell (j := 2) rfl; have c3 := hv4.v.cell (j := 3) rfl; have f2 := hv4.v.free 2; have f3 := hv4.v.free 3; have HV4 := Lib.hid ((hv4.set 2 (.int .u64 ts)).set 3 (.int .u64 sq)); clear hz hg hv4 HV3)
        | (go_at_call 62; refine (CDS.num HV2.out.c (by have := HS.out.2.1; omega) HP3.out).mono ?_; rintro e w4 ⟨rfl, hz, hg⟩; have HV3 := Lib.hid (HV2.out.read hz hg); clear hz hg HV2)
        | (go_at_call 61; refine (CDS.text HV1.out.c (by have := HS.out.1; omega) HP2.out).mono ?_; rintro e w3 ⟨rfl, hz, hg⟩; have hv2 := (HV1.out.read hz hg); have c1 := hv2.v.cell (j := 1) rfl; have f1 := hv2.v.free 1; have HV2 := Lib.hid (hv2.set 1 (.string col)); clear hz hg hv2 HV1)
        | (go_at_call 61; refine (CDS.text HZ0.out (by simp only; omega) HP1.out).mono ?_; rintro e w1 ⟨rfl, hz, -⟩; have HV1 := Lib.hid (show CDV w (w1.alloc (.cells #[.string row, .string ⟨#[]⟩, .int .u64 0, .int .u64 0, .bool false, .string ⟨#[]⟩] 75)) st1 w1.heap.size [.string row, .string ⟨#[]⟩, .int .u64 0, .int .u64 0, .bool false, .string ⟨#[]⟩] from ⟨hz.below (below_al w1 _), Blk.new _ _ _, Blk.lt hz.r⟩); clear hz HZ0)
        | (show wpList _ _ _ ({ dst := some 40, op := Op.load _ _, type := _, pos := _, after := _, guard := _ } :: _) _ _; refine wpList_load_mid rfl 75 (.tmp 6) rfl w1.heap.size 0 rfl [.string row, .string col, .int .u64 ts, .int .u64 sq, .bool del, .string val] _ HV.out.v.range Try.underlying75 rfl (by kernel_rfl) ?_)
        | (go_at_call 55; refine (cellMay_any ⟨row, col, ts, sq, del, val⟩ _).mono ?_; rintro e w8 ⟨rfl, hb⟩; simp only [HM.out]; have HV8 := Lib.hid (HV.out.below hb); clear hb HV)
        | (show wpList _ _ _ ({ dst := none, op := Op.store _ (Operand.tmp 2) _, type := _, pos := _, after := _, guard := _ } :: _) _ _; refine wpList_store_mid rfl 75 (.tmp 2) (.tmp 43) rfl w.heap.size 0 #[.string ⟨#[]⟩, .string ⟨#[]⟩, .int .u64 0, .int .u64 0, .bool false, .string ⟨#[]⟩] rfl rfl (HV8.out.c.z.there 6 (Nat.le_refl _)) (by kernel_rfl) (by simp [Value.oneCell']) ?_; refine HV8.out.c.z.setW zv rfl ?_; intro w9 HZ9 HG9))
      (try simp only [Exit.inBlock, Exit.then])
      refine bodyPost_ret (blk_results2 rfl Try.underlying75 rfl _ _ w.heap.size _ (by kernel_rfl) _ _ rfl rfl rfl HZ9.out) rfl ?_
      exact cd_out (v := ⟨⟨#[]⟩, ⟨#[]⟩, 0, 0, false, ⟨#[]⟩⟩) (below_grown HV8.out.c.bl HV8.out.c.bl.size HG9.out (Nat.le_refl _)) (.inr ⟨by omega, by unfold cellDecP; rw [HCD.out]; exact if_neg (fun h => by have h2 := h.2; rw [HM.out] at h2; cases h2)⟩)
  · have hne : (er != 0) = true := by simpa using he
    have HM := Lib.hid hs
    go_enter Try.func40, Try.ntmps40
    go_wp2_with (first
      | (go_at_call 61; refine (CDS.text HV5.out.c (by have := HS.out.2.2.2.2; omega) HP6.out).mono ?_; rintro e w7 ⟨rfl, hz, hg⟩; have hv6 := (HV5.out.read hz hg); have c5 := hv6.v.cell (j := 5) rfl; have f5 := hv6.v.free 5; have HV := Lib.hid (hv6.set 5 (.string val)); have c9 := HV.out.c.r.cell (j := 1) rfl; have c8 := HV.out.c.r.cell (j := 0) rfl; clear hz hg hv6 HV5)
      | (go_at_call 63; refine (CDS.flag HV4.out.c (by have := HS.out.2.2.2.1; omega) HP5.out).mono ?_; rintro e w6 ⟨rfl, hz, hg⟩; have hv5 := (HV4.out.read hz hg); have c4 := hv5.v.cell (j := 4) rfl; have f4 := hv5.v.free 4; have HV5 := Lib.hid (hv5.set 4 (.bool del)); clear hz hg hv5 HV4)
      | (go_at_call 62; refine (CDS.num HV3.out.c (by have := HS.out.2.2.1; omega) HP4.out).mono ?_; rintro e w5 ⟨rfl, hz, hg⟩; have hv4 := (HV3.out.read hz hg); have c2 := hv4.v.cell (j := 2) rfl; have c3 := hv4.v.cell (j := 3) rfl; have f2 := hv4.v.free 2; have f3 := hv4.v.free 3; have HV4 := Lib.hid ((hv4.set 2 (.int .u64 ts)).set 3 (.int .u64 sq)); clear hz hg hv4 HV3)
      | (go_at_call 62; refine (CDS.num HV2.out.c (by have := HS.out.2.1; omega) HP3.out).mono ?_; rintro e w4 ⟨rfl, hz, hg⟩; have HV3 := Lib.hid (HV2.out.read hz hg); clear hz hg HV2)
      | (go_at_call 61; refine (CDS.text HV1.out.c (by have := HS.out.1; omega) HP2.out).mono ?_; rintro e w3 ⟨rfl, hz, hg⟩; have hv2 := (HV1.out.read hz hg); have c1 := hv2.v.cell (j := 1) rfl; have f1 := hv2.v.free 1; have HV2 := Lib.hid (hv2.set 1 (.string col)); clear hz hg hv2 HV1)
      | (go_at_call 61; refine (CDS.text HZ0.out (by simp only; omega) HP1.out).mono ?_; rintro e w1 ⟨rfl, hz, -⟩; have HV1 := Lib.hid (show CDV w (w1.alloc (.cells #[.string row, .string ⟨#[]⟩, .int .u64 0, .int .u64 0, .bool false, .string ⟨#[]⟩] 75)) st1 w1.heap.size [.string row, .string ⟨#[]⟩, .int .u64 0, .int .u64 0, .bool false, .string ⟨#[]⟩] from ⟨hz.below (below_al w1 _), Blk.new _ _ _, Blk.lt hz.r⟩); clear hz HZ0)
      | (show wpList _ _ _ ({ dst := some 40, op := Op.load _ _, type := _, pos := _, after := _, guard := _ } :: _) _ _; refine wpList_load_mid rfl 75 (.tmp 6) rfl w1.heap.size 0 rfl [.string row, .string col, .int .u64 ts, .int .u64 sq, .bool del, .string val] _ HV.out.v.range Try.underlying75 rfl (by kernel_rfl) ?_)
      | (go_at_call 55; refine (cellMay_any ⟨row, col, ts, sq, del, val⟩ _).mono ?_; rintro e w8 ⟨rfl, hb⟩; simp only [HM.out]; have HV8 := Lib.hid (HV.out.below hb); clear hb HV)
      | (show wpList _ _ _ ({ dst := none, op := Op.store _ (Operand.tmp 2) _, type := _, pos := _, after := _, guard := _ } :: _) _ _; refine wpList_store_mid rfl 75 (.tmp 2) (.tmp 43) rfl w.heap.size 0 #[.string ⟨#[]⟩, .string ⟨#[]⟩, .int .u64 0, .int .u64 0, .bool false, .string ⟨#[]⟩] rfl rfl (HV8.out.c.z.there 6 (Nat.le_refl _)) (by kernel_rfl) (by simp [Value.oneCell']) ?_; refine HV8.out.c.z.setW zv rfl ?_; intro w9 HZ9 HG9))
    have HV0 := HV
    clear HV
    have HV := Lib.hid (HV0.out.below ((Below.refl _ _).drew))
    have hcell : ∀ W, Hid (CRd W (w.heap.size + 1) (r6, er)) → Hid (Blk 75 W w1.heap.size [.string row, .string col, .int .u64 ts, .int .u64 sq, .bool del, .string val]) → W.cell? ⟨w.heap.size + 1, 1, none⟩ = some (.int .i64 er) := fun W h _ => h.out.cell (j := 1) rfl
    have HC := hcell _ (Lib.hid HV.out.c.r) (Lib.hid HV.out.v)
    refine region_wz (fun W => W.cell? ⟨w.heap.size + 1, 1, none⟩ = some (.int .i64 er)) (some 7) (by kernel_rfl) ?_
    apply WZ.take (i := 0) (some 34) rfl rfl (by kernel_rfl) (by kernel_rfl) (by kernel_rfl) (calm_panic _) (by kernel_rfl)
    case hy => (refine .inl ⟨by kernel_rfl, fun W hC => ?_⟩; (try dsimp only at hC); go_simp; rfl)
    case hC => exact HC
    case ha => (simp only [Act.put, List.setIfInBounds_toArray, List.set_cons_zero, List.set_cons_succ]; rfl)
    apply WZ.take (i := 1) (some 35) rfl rfl (by kernel_rfl) (by kernel_rfl) (by kernel_rfl) (calm_panic _) (by kernel_rfl)
    case hy => (refine .inl ⟨by kernel_rfl, fun W hC => ?_⟩; (try dsimp only at hC); go_simp; rfl)
    case hC => exact HC
    case ha => (simp only [Act.put, List.setIfInBounds_toArray, List.set_cons_zero, List.set_cons_succ]; rfl)
    apply WZ.take (i := 2) (some 36) rfl rfl (by kernel_rfl) (by kernel_rfl) (by kernel_rfl) (calm_panic _) (by kernel_rfl)
    case hy => (refine .inl ⟨by kernel_rfl, fun W hC => ?_⟩; (try dsimp only at hC); go_simp; rfl)
    case hC => exact HC
    case ha => (simp only [Act.put, List.setIfInBounds_toArray, List.set_cons_zero, List.set_cons_succ]; rfl)
    apply WZ.take (i := 3) (some 37) rfl rfl (by kernel_rfl) (by kernel_rfl) (by kernel_rfl) (calm_panic _) (by kernel_rfl)
    case hy => (refine .inl ⟨by kernel_rfl, fun W hC => ?_⟩; (try dsimp only at hC); go_simp; rfl)
    case hC => exact HC
    case ha => (simp only [Act.put, List.setIfInBounds_toArray, List.set_cons_zero, List.set_cons_succ]; rfl)
    apply WZ.take (i := 4) (some 38) rfl rfl (by kernel_rfl) (by kernel_rfl) (by kernel_rfl) (calm_panic _) (by kernel_rfl)
    case hy => (refine .inl ⟨by kernel_rfl, fun W hC => ?_⟩; (try dsimp only at hC); go_simp; rfl)
    case hC => exact HC
    case ha => (simp only [Act.put, List.setIfInBounds_toArray, List.set_cons_zero, List.set_cons_succ]; rfl)
    -- 5
    refine WZ.one (i := 5) rfl (by kernel_rfl) ?_
    conv => arg 4; arg 1; whnf
    have q := HV.out.c.z.there 6 (Nat.le_refl _)
    refine wpList_store_mid rfl 75 (.tmp 2) (.tmp 34) rfl w.heap.size 0 #[.string ⟨#[]⟩, .string ⟨#[]⟩, .int .u64 0, .int .u64 0, .bool false, .string ⟨#[]⟩] rfl rfl q (by kernel_rfl) (by simp [Value.oneCell']) ?_
    clear q
    generalize hw9 : World.setCells _ w.heap.size 0 _ = w9
    obtain ⟨hz9, hg9⟩ := HV.out.c.z.setE (#[.string ⟨#[]⟩, .string ⟨#[]⟩, .int .u64 0, .int .u64 0, .bool false, .string ⟨#[]⟩] : Array Value).toList rfl hw9
    have HZ9 := Lib.hid hz9
    have HG9 := Lib.hid hg9
    clear hw9 hz9 hg9
    go_wp2
    have hr9 : CRd w9 (w.heap.size + 1) (r6, er) := HV.out.c.r.grown HG9.out (fun e => by injection e; omega)
    have hv9 : Blk 75 w9 w1.heap.size [.string row, .string col, .int .u64 ts, .int .u64 sq, .bool del, .string val] := HV.out.v.grown HG9.out (fun e => by injection e; have := HV.out.lt; omega)
    have HC := hcell _ (Lib.hid hr9) (Lib.hid hv9)
    refine ⟨HC, ?_⟩
    apply WZ.take (i := 6) (some 3) rfl rfl (by kernel_rfl) (by kernel_rfl) (by kernel_rfl) (calm_panic _) (by kernel_rfl)
    case hy => (refine .inl ⟨by kernel_rfl, fun W hC => ?_⟩; (try dsimp only at hC); go_simp; rfl)
    case hC => exact HC
    case ha => (simp only [Act.put, List.setIfInBounds_toArray, List.set_cons_zero, List.set_cons_succ]; rfl)
    -- 7
    refine WZ.last (i := 7) rfl (by kernel_rfl) (by kernel_rfl) ?_
    conv => arg 4; arg 1; whnf
    go_wp2
    refine WZ.done (by kernel_rfl) ?_ _
    simp only [Calm, Exit.then]
    go_wp2
    (try simp only [Exit.inBlock, Exit.then])
    refine bodyPost_ret (blk_results2 rfl Try.underlying75 rfl _ _ w.heap.size _ (by kernel_rfl) _ _ rfl rfl rfl HZ9.out) rfl ?_
    exact cd_out (v := ⟨⟨#[]⟩, ⟨#[]⟩, 0, 0, false, ⟨#[]⟩⟩) (below_grown HV.out.c.bl HV.out.c.bl.size HG9.out (Nat.le_refl _)) (.inr ⟨he, by unfold cellDecP; rw [HCD.out]; exact if_neg (fun h => he h.1)⟩)
end Go.Proofs.Ytiiogdgnccgehaa
