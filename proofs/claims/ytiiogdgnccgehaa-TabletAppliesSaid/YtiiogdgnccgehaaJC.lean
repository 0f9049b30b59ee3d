/-
  Numbers and short texts as bytes: the walks of tablet.little. Rows of bytes of my own, exact: a string's bytes appended, the bytes as a string; the walk of cell.little. The walks of cell.May and of the reference's May. The walk of slices.Concat at bytes. The walk of cell.Encode: its bytes. Commands, plain: their bytes, and which may be. No conditions.
-/
import Derived.Test.YtiiogdgnccgehaaJA
import Derived.Test.YtiiogdgnccgehaaJB
import Derived.Lib.AppendStr
import Derived.Lib.AppendZeros
import Derived.Laws.BytesString
import Derived.Lib.ConvBytes
namespace Go.Proofs.Ytiiogdgnccgehaa
open Go.RowKit
attribute [local go_sem ↓] Go.wp_at_zero Go.wp_at_succ

theorem byteInfo : (Try.prog.info? 5).map (fun i => (i.zero, i.size, i.bytes)) = some (some (.int .u8 0), 1, 1) := by kernel_rfl
/-- the bytes of a list -/
def ofL (l : List UInt8) : ByteArray := ⟨l.toArray⟩
def byteI (z : Int) : UInt8 := UInt8.ofNat z.toNat
/-- the k lowest bytes of a number, the lowest first -/
def nbI (N k : Nat) : List Int := (List.range k).map fun i => (N : Int) / 2 ^ (8 * i) % 256
def nb (N k : Nat) : ByteArray := ofL ((nbI N k).map byteI)
def sh (s : ByteArray) : ByteArray := nb s.size 1 ++ s
theorem ofL_size (l : List UInt8) : (ofL l).size = l.length := by unfold ofL; simp [ByteArray.size]
theorem nb_size (N k : Nat) : (nb N k).size = k := by unfold nb nbI; rw [ofL_size]; simp
theorem sh_size (s : ByteArray) : (sh s).size = 1 + s.size := by unfold sh; rw [ByteArray.size_append', nb_size]

/-- block g is a row of bytes -/
def Bys (w : World) (g : Nat) (ns : List Int) : Prop := w.heap[g]? = some (.cells (ns.map (Value.int .u8)).toArray 5 (0, 0))
theorem Bys.set {w : World} {g i : Nat} {ns : List Int} (h : Bys w g ns) (z : Int) : Bys (w.setCell ⟨g, i, none⟩ (.int .u8 z)) g (ns.set i z) := by
  unfold Bys at *
  rw [heap_setCell_same w g i _ _ _ h]
  congr 2
  apply Array.ext'
  simp [List.map_set]
theorem Bys.at_ {w : World} {g i : Nat} {ns : List Int} (h : Bys w g ns) (hi : i < ns.length) : w.cell? ⟨g, i, none⟩ = some (.int .u8 ns[i]) := by
  rw [cell_of_row w g i _ _ (0, 0) h]
  simp [hi]
theorem foldl_push_ofL : ∀ (ns : List Int) (b : ByteArray), ns.foldl (fun r n => r.push (UInt8.ofNat n.toNat)) b = b ++ ofL (ns.map byteI)
  | [], b => by
    apply ByteArray.ext
    simp [ofL]
  | n :: ns, b => by
    rw [List.foldl_cons, foldl_push_ofL ns]
    apply ByteArray.ext
    simp [ofL, byteI]
theorem run_strX {w : World} {g c : Nat} {ns : List Int} (h : Bys w g ns) : ∀ n, ns.length = n → (convert 90 9 (.slice (some ⟨g, 0, none⟩) n c)).run Try.prog w = .ok (.string (ofL (ns.map byteI))) w := by
  rintro n rfl
  have e : ofL (ns.map byteI) = ns.foldl (fun r n => r.push (UInt8.ofNat n.toNat)) ByteArray.empty := by
    rw [foldl_push_ofL]
    apply ByteArray.ext
    simp
  rw [e, run_convert_bytes_string w 90 9 5 _ _ _ Try.underlying90 Try.underlying5 Try.underlying9]
  refine run_bytesToString w _ ns.length c ns ?_
  have := run_loadCells_list (P := Try.prog) (w := w) (⟨g, 0, none⟩ : Addr) (ns.map (Value.int .u8)) (fun j v hv => by
    have hj := (List.getElem?_eq_some_iff.1 hv).1
    rw [List.length_map] at hj
    rw [add_at, Nat.zero_add, h.at_ hj, ← hv]
    simp [hj])
  rwa [List.length_map] at this
/-- the first k numbers are the bytes -/
def nbTo (N : Nat) (ns : List Int) (k : Nat) : Prop := ns.take k = (nbI N ns.length).take k
theorem nbTo.zero (N : Nat) (ns : List Int) : nbTo N ns 0 := by simp [nbTo]
theorem nbTo.succ {N k : Nat} {ns : List Int} (h : nbTo N ns k) (hk : k < ns.length) : nbTo N (ns.set k ((N : Int) / 2 ^ (8 * k) % 256)) (k + 1) := by
  unfold nbTo at *
  rw [List.length_set, List.take_succ_eq_append_getElem (by rw [List.length_set]; exact hk), List.take_succ_eq_append_getElem (by simp [nbI]; exact hk), List.take_set_of_le (Nat.le_refl k), h]
  congr 2
  simp [nbI]
theorem nbTo.all {N k : Nat} {ns : List Int} (h : nbTo N ns k) (hk : ns.length ≤ k) : ns = nbI N ns.length := by
  unfold nbTo at h
  rwa [List.take_of_length_le hk, List.take_of_length_le (by simp [nbI]; exact hk)] at h
theorem nb_end {N k K : Nat} {ns : List Int} (h : nbTo N ns k) (hl : ns.length = K) (hk : K ≤ k) : ofL (ns.map byteI) = nb N K := by
  have := h.all (by omega)
  rw [hl] at this
  rw [this]
  rfl

set_option maxHeartbeats 2000000 in
theorem little_u64 (N : Nat) (w : World) : Calls Try.prog 32 #[.int .u64 N, .int .i64 8] w fun e w' => e = .returned (.string (nb N 8)) ∧ Below w.heap.size w w' := by
  obtain ⟨i0, hi0, hz0, hz1, hz2⟩ := info_parts byteInfo
  have hmk := run_make (P := Try.prog) w 90 5 i0 (.int .u8 0) Try.underlying90 hi0 hz0 .i64 .i64 8 8 (by omega) (by omega) (by rw [hz2]; omega) (by omega)
  rw [hz1] at hmk
  have em : madeCells (Value.cells (.int .u8 0)) (Int.toNat 8 * 1) = ((List.replicate 8 (0 : Int)).map (Value.int .u8)).toArray := by kernel_rfl
  rw [em] at hmk
  obtain ⟨W1, hW1⟩ : ∃ W1, w.alloc (.cells ((List.replicate 8 (0 : Int)).map (Value.int .u8)).toArray 5) = W1 := ⟨_, rfl⟩
  have h0 : Bys W1 w.heap.size (List.replicate 8 0) := by rw [← hW1]; exact heap_alloc_new w _
  have hb0 : Below w.heap.size w W1 := by rw [← hW1]; exact (Below.refl _ w).alloc (Nat.le_refl _) _
  rw [hW1] at hmk
  have hmk : (Instr.makeSlice 90 (.int .i64 8) (.int .i64 8)).run Try.prog w = .ok (.slice (some ⟨w.heap.size, 0, none⟩) 8 8) W1 := hmk
  have H0 := Lib.hid (And.intro h0 hb0)
  clear h0 hb0 hW1 em
  go_enter Try.func32, Try.ntmps32
  go_wp2
  go_loopw [11] (fun i wr => ∃ (k : Nat) (ns : List Int), i = .int .i64 k ∧ k ≤ 8 ∧ Hid (Bys wr w.heap.size ns ∧ ns.length = 8 ∧ nbTo N ns k ∧ Below w.heap.size w wr)) (fun i _ => 8 - (intOf i).toNat)
  case atStart => exact ⟨0, _, rfl, by omega, Lib.hid ⟨H0.out.1, by simp, nbTo.zero _ _, H0.out.2⟩⟩
  case round =>
    obtain ⟨k, ns, rfl, hk, HS⟩ := hrel
    by_cases hlt : k < 8
    · have hd : decide ((k : Int) < 8) = true := decide_eq_true (by omega)
      have hw1 : IntKind.i64.wrap ((k : Int) + 1) = ((k + 1 : Nat) : Int) := by rw [IntWalk.i64_in _ (by omega)]; omega
      have hw8 : IntKind.i64.wrap (8 * (k : Int)) = 8 * (k : Int) := by rw [IntWalk.i64_in _ (by omega)]
      have i1 : (0 : Int) ≤ (k : Int) := by omega
      have i2 : (k : Int) < 8 := by omega
      have hc := HS.out.1.at_ (i := k) (by have := HS.out.2.1; omega)
      have hf := frozen_of_row wr w.heap.size k _ _ HS.out.1
      go_wp2
      exact ⟨⟨k + 1, ns.set k ((N : Int) / 2 ^ (8 * k) % 256), by first | rfl | go_num, by omega, Lib.hid ⟨HS.out.1.set _, by rw [List.length_set]; exact HS.out.2.1, HS.out.2.2.1.succ (by have := HS.out.2.1; omega), HS.out.2.2.2.setCell (Nat.le_refl _) _⟩⟩, by simp [intOf]; omega⟩
    · have hd : decide ((k : Int) < 8) = false := decide_eq_false (by omega)
      have HST := Lib.hid (run_strX (c := 8) HS.out.1 8 HS.out.2.1)
      have hst := HST.out
      have HE := Lib.hid (nb_end HS.out.2.2.1 HS.out.2.1 (by omega))
      rw [HE.out] at hst
      go_wp2
      go_ret
      exact ⟨rfl, HS.out.2.2.2⟩
set_option maxHeartbeats 2000000 in
theorem little_u32 (N : Nat) (w : World) : Calls Try.prog 34 #[.int .u32 N, .int .i64 4] w fun e w' => e = .returned (.string (nb N 4)) ∧ Below w.heap.size w w' := by
  obtain ⟨i0, hi0, hz0, hz1, hz2⟩ := info_parts byteInfo
  have hmk := run_make (P := Try.prog) w 90 5 i0 (.int .u8 0) Try.underlying90 hi0 hz0 .i64 .i64 4 4 (by omega) (by omega) (by rw [hz2]; omega) (by omega)
  rw [hz1] at hmk
  have em : madeCells (Value.cells (.int .u8 0)) (Int.toNat 4 * 1) = ((List.replicate 4 (0 : Int)).map (Value.int .u8)).toArray := by kernel_rfl
  rw [em] at hmk
  obtain ⟨W1, hW1⟩ : ∃ W1, w.alloc (.cells ((List.replicate 4 (0 : Int)).map (Value.int .u8)).toArray 5) = W1 := ⟨_, rfl⟩
  have h0 : Bys W1 w.heap.size (List.replicate 4 0) := by rw [← hW1]; exact heap_alloc_new w _
  have hb0 : Below w.heap.size w W1 := by rw [← hW1]; exact (Below.refl _ w).alloc (Nat.le_refl _) _
  rw [hW1] at hmk
  have hmk : (Instr.makeSlice 90 (.int .i64 4) (.int .i64 4)).run Try.prog w = .ok (.slice (some ⟨w.heap.size, 0, none⟩) 4 4) W1 := hmk
  have H0 := Lib.hid (And.intro h0 hb0)
  clear h0 hb0 hW1 em
  go_enter Try.func34, Try.ntmps34
  go_wp2
  go_loopw [11] (fun i wr => ∃ (k : Nat) (ns : List Int), i = .int .i64 k ∧ k ≤ 4 ∧ Hid (Bys wr w.heap.size ns ∧ ns.length = 4 ∧ nbTo N ns k ∧ Below w.heap.size w wr)) (fun i _ => 4 - (intOf i).toNat)
  case atStart => exact ⟨0, _, rfl, by omega, Lib.hid ⟨H0.out.1, by simp, nbTo.zero _ _, H0.out.2⟩⟩
  case round =>
    obtain ⟨k, ns, rfl, hk, HS⟩ := hrel
    by_cases hlt : k < 4
    · have hd : decide ((k : Int) < 4) = true := decide_eq_true (by omega)
      have hw1 : IntKind.i64.wrap ((k : Int) + 1) = ((k + 1 : Nat) : Int) := by rw [IntWalk.i64_in _ (by omega)]; omega
      have hw8 : IntKind.i64.wrap (8 * (k : Int)) = 8 * (k : Int) := by rw [IntWalk.i64_in _ (by omega)]
      have i1 : (0 : Int) ≤ (k : Int) := by omega
      have i2 : (k : Int) < 4 := by omega
      have hc := HS.out.1.at_ (i := k) (by have := HS.out.2.1; omega)
      have hf := frozen_of_row wr w.heap.size k _ _ HS.out.1
      go_wp2
      exact ⟨⟨k + 1, ns.set k ((N : Int) / 2 ^ (8 * k) % 256), by first | rfl | go_num, by omega, Lib.hid ⟨HS.out.1.set _, by rw [List.length_set]; exact HS.out.2.1, HS.out.2.2.1.succ (by have := HS.out.2.1; omega), HS.out.2.2.2.setCell (Nat.le_refl _) _⟩⟩, by simp [intOf]; omega⟩
    · have hd : decide ((k : Int) < 4) = false := decide_eq_false (by omega)
      have HST := Lib.hid (run_strX (c := 4) HS.out.1 4 HS.out.2.1)
      have hst := HST.out
      have HE := Lib.hid (nb_end HS.out.2.2.1 HS.out.2.1 (by omega))
      rw [HE.out] at hst
      go_wp2
      go_ret
      exact ⟨rfl, HS.out.2.2.2⟩
set_option maxHeartbeats 2000000 in
theorem little_i64 (N : Nat) (w : World) (_hN : N ≤ 100000) : Calls Try.prog 31 #[.int .i64 N, .int .i64 1] w fun e w' => e = .returned (.string (nb N 1)) ∧ Below w.heap.size w w' := by
  obtain ⟨i0, hi0, hz0, hz1, hz2⟩ := info_parts byteInfo
  have hmk := run_make (P := Try.prog) w 90 5 i0 (.int .u8 0) Try.underlying90 hi0 hz0 .i64 .i64 1 1 (by omega) (by omega) (by rw [hz2]; omega) (by omega)
  rw [hz1] at hmk
  have em : madeCells (Value.cells (.int .u8 0)) (Int.toNat 1 * 1) = ((List.replicate 1 (0 : Int)).map (Value.int .u8)).toArray := by kernel_rfl
  rw [em] at hmk
  obtain ⟨W1, hW1⟩ : ∃ W1, w.alloc (.cells ((List.replicate 1 (0 : Int)).map (Value.int .u8)).toArray 5) = W1 := ⟨_, rfl⟩
  have h0 : Bys W1 w.heap.size (List.replicate 1 0) := by rw [← hW1]; exact heap_alloc_new w _
  have hb0 : Below w.heap.size w W1 := by rw [← hW1]; exact (Below.refl _ w).alloc (Nat.le_refl _) _
  rw [hW1] at hmk
  have hmk : (Instr.makeSlice 90 (.int .i64 1) (.int .i64 1)).run Try.prog w = .ok (.slice (some ⟨w.heap.size, 0, none⟩) 1 1) W1 := hmk
  have H0 := Lib.hid (And.intro h0 hb0)
  clear h0 hb0 hW1 em
  go_enter Try.func31, Try.ntmps31
  go_wp2
  go_loopw [11] (fun i wr => ∃ (k : Nat) (ns : List Int), i = .int .i64 k ∧ k ≤ 1 ∧ Hid (Bys wr w.heap.size ns ∧ ns.length = 1 ∧ nbTo N ns k ∧ Below w.heap.size w wr)) (fun i _ => 1 - (intOf i).toNat)
  case atStart => exact ⟨0, _, rfl, by omega, Lib.hid ⟨H0.out.1, by simp, nbTo.zero _ _, H0.out.2⟩⟩
  case round =>
    obtain ⟨k, ns, rfl, hk, HS⟩ := hrel
    by_cases hlt : k < 1
    · have hd : decide ((k : Int) < 1) = true := decide_eq_true (by omega)
      have hw1 : IntKind.i64.wrap ((k : Int) + 1) = ((k + 1 : Nat) : Int) := by rw [IntWalk.i64_in _ (by omega)]; omega
      have hw8 : IntKind.i64.wrap (8 * (k : Int)) = 8 * (k : Int) := by rw [IntWalk.i64_in _ (by omega)]
      have i1 : (0 : Int) ≤ (k : Int) := by omega
      have i2 : (k : Int) < 1 := by omega
      have hc := HS.out.1.at_ (i := k) (by have := HS.out.2.1; omega)
      have hf := frozen_of_row wr w.heap.size k _ _ HS.out.1
      go_wp2
      exact ⟨⟨k + 1, ns.set k ((N : Int) / 2 ^ (8 * k) % 256), by first | rfl | go_num, by omega, Lib.hid ⟨HS.out.1.set _, by rw [List.length_set]; exact HS.out.2.1, HS.out.2.2.1.succ (by have := HS.out.2.1; omega), HS.out.2.2.2.setCell (Nat.le_refl _) _⟩⟩, by simp [intOf]; omega⟩
    · have hd : decide ((k : Int) < 1) = false := decide_eq_false (by omega)
      have HST := Lib.hid (run_strX (c := 1) HS.out.1 1 HS.out.2.1)
      have hst := HST.out
      have HE := Lib.hid (nb_end HS.out.2.2.1 HS.out.2.1 (by omega))
      rw [HE.out] at hst
      go_wp2
      go_ret
      exact ⟨rfl, HS.out.2.2.2⟩
end Go.Proofs.Ytiiogdgnccgehaa
namespace Go.Proofs.Ytiiogdgnccgehaa
open Go.RowKit
attribute [local go_sem ↓] Go.wp_at_zero Go.wp_at_succ

/-- a row of my own, of bytes -/
def Byt (w : World) (base : Nat) (A : Option Addr) (n c : Nat) (ns : List Int) : Prop := Own w base 5 1 A n c (ns.map (Value.int .u8))
theorem bytes_one (ns : List Int) : ∀ u ∈ ns.map (Value.int .u8), u.oneCell' = true := by
  intro u hu
  obtain ⟨n, _, rfl⟩ := List.mem_map.1 hu
  rfl
/-- a text's bytes, as numbers -/
def intsOf (s : ByteArray) : List Int := s.data.toList.map fun b => (b.toNat : Int)
theorem intsOf_len (s : ByteArray) : (intsOf s).length = s.size := by unfold intsOf; rw [List.length_map, Array.length_toList]; rfl
theorem strCells_ns (s : ByteArray) : Lib.strCells s = (intsOf s).map (Value.int .u8) := by simp [Lib.strCells, intsOf]
theorem Byt.len {w : World} {base n c : Nat} {A : Option Addr} {ns : List Int} (h : Byt w base A n c ns) : ns.length = n := by simpa using Own.length h
/-- numbers, as a text -/
def strOf (ns : List Int) : ByteArray := ofL (ns.map byteI)
theorem strOf_app (a b : List Int) : strOf (a ++ b) = strOf a ++ strOf b := by
  unfold strOf
  rw [List.map_append]
  apply ByteArray.ext
  simp [ofL]
theorem strOf_intsOf (s : ByteArray) : strOf (intsOf s) = s := by
  unfold strOf intsOf
  rw [List.map_map]
  have e : (byteI ∘ fun b : UInt8 => (b.toNat : Int)) = id := by
    funext b
    simp [byteI]
  rw [e, List.map_id]
  rfl
theorem strOf_nbI (N k : Nat) : strOf (nbI N k) = nb N k := rfl
theorem strOf_size (ns : List Int) : (strOf ns).size = ns.length := by unfold strOf; rw [ofL_size, List.length_map]

section
variable (w : World)
theorem wpList_app_str {ops : Array Oper} {rest : List Oper} {o : Oper} {a : Act} {Q : Exit → Act → World → Prop} (hgd : o.guard = none) (sl x : Operand)
    (ho : o.op = .call { callee := .builtin .append, args := #[sl, x], argTypes := #[90, 9] })
    (base : Nat) (A : Option Addr) (n c : Nat) (ns : List Int) (hs : a.eval sl = .slice A n c) (hown : Byt w base A n c ns) (s : ByteArray) (hx : a.eval x = .string s)
    (hn : n + s.size ≤ 100000) (hbase : base ≤ w.heap.size)
    (h : ∀ A' c' w', Byt w' base A' (n + s.size) c' (ns ++ intsOf s) → w.grownBy w' (blk A) → wpList Try.prog ops Q rest (a.put o.dst (.slice A' (n + s.size) c')) w') : wpList Try.prog ops Q (o :: rest) a w := by
  obtain ⟨i0, hi0, hz0, hz1, hz2⟩ := info_parts byteInfo
  refine Lib.wpList_append_own_string w hgd sl x 90 9 ho base 5 i0 Try.underlying90 Try.underlying9 hi0 hz0 hz1 hz2 (.slice A n c) n _ hs hown s hx (by unfold maxLen; omega) (by omega) hbase ?_
  intro v' w' h1 h2 _
  rw [ownBlock_slice] at h2
  obtain ⟨A', c', rfl⟩ : ∃ (A' : Option Addr) (c' : Nat), v' = .slice A' (n + s.size) c' := by
    rcases h1.2 with ⟨h2, h3⟩ | ⟨g, cap, cur, hv, _⟩
    · exact ⟨none, 0, by rw [h2, h3]⟩
    · exact ⟨_, _, hv⟩
  refine h A' c' w' ?_ h2
  unfold Byt
  rw [List.map_append, ← strCells_ns]
  exact h1
end
theorem run_strB {w : World} {base n c : Nat} {A : Option Addr} {ns : List Int} (h : Byt w base A n c ns) (hn : 0 < n) :
    (convert 90 9 (.slice A n c)).run Try.prog w = .ok (.string (strOf ns)) w := by
  obtain ⟨g, rfl, hg1, hg2, hc⟩ := Own.at_ h hn
  have hl := h.len
  have e : strOf ns = ns.foldl (fun r n => r.push (UInt8.ofNat n.toNat)) ByteArray.empty := by
    rw [foldl_push_ofL]
    unfold strOf
    apply ByteArray.ext
    simp
  rw [e, run_convert_bytes_string w 90 9 5 _ _ _ Try.underlying90 Try.underlying5 Try.underlying9]
  refine run_bytesToString w _ n c ns ?_
  have := run_loadCells_list (P := Try.prog) (w := w) (⟨g, 0, none⟩ : Addr) (ns.map (Value.int .u8)) (fun j v hv => by
    have hj := (List.getElem?_eq_some_iff.1 hv).1
    have h1 := (hc j hj).1
    rw [add_at, Nat.zero_add, h1, ← hv]
    exact (List.getElem?_eq_getElem hj).symm)
  rwa [List.length_map, hl] at this
theorem nbI_take {N k : Nat} (hk : k < 8) : (nbI N 8).take k ++ [(N : Int) / 2 ^ (8 * k) % 256] = (nbI N 8).take (k + 1) := by
  have hl : k < (nbI N 8).length := by simp [nbI]; exact hk
  rw [List.take_succ_eq_append_getElem hl]
  congr 2
  simp [nbI]
set_option maxHeartbeats 1000000 in
theorem cellLittle_any (base : Nat) (A : Option Addr) (n c : Nat) (ns : List Int) (N : Nat) (w : World) (h : Byt w base A n c ns) (hn : n ≤ 1000) (hbase : base ≤ w.heap.size) :
    Calls Try.prog 56 #[.slice A n c, .int .u64 N] w fun e w' => ∃ (A' : Option Addr) (c' : Nat), e = .returned (.slice A' (n + 8) c') ∧ Byt w' base A' (n + 8) c' (ns ++ nbI N 8) ∧ Below base w w' := by
  obtain ⟨i0, hi0, hz0, hz1, hz2⟩ := info_parts byteInfo
  go_enter Try.func56, Try.ntmps56
  go_wp2
  go_loopw [0, 5, 6] (fun s _ i wr => ∃ (A1 : Option Addr) (c1 k : Nat), s = .slice A1 (n + k) c1 ∧ i = .int .i64 k ∧ k ≤ 8 ∧ Hid (Byt wr base A1 (n + k) c1 (ns ++ (nbI N 8).take k)) ∧ Hid (Below base w wr) ∧ base ≤ wr.heap.size) (fun _ _ i _ => 8 - (intOf i).toNat)
  case atStart => exact ⟨A, c, 0, rfl, rfl, by omega, Lib.hid (by rw [List.take_zero, List.append_nil]; exact h), Lib.hid (Below.refl _ _), hbase⟩
  case round =>
    obtain ⟨A1, c1, k, rfl, rfl, hk, HO, HB, hbs⟩ := hrel
    by_cases hlt : k < 8
    · have hd : decide ((k : Int) < 8) = true := decide_eq_true (by omega)
      have hw1 : IntKind.i64.wrap ((k : Int) + 1) = ((k + 1 : Nat) : Int) := by rw [IntWalk.i64_in _ (by omega)]; omega
      have hw8 : IntKind.i64.wrap (8 * (k : Int)) = 8 * (k : Int) := by rw [IntWalk.i64_in _ (by omega)]
      have HT := Lib.hid (nbI_take (N := N) hlt)
      clear h
      go_wp2_with (at_builtin; refine wpList_app _ rfl _ _ _ rfl base 5 i0 (.int .u8 0) 1 1 Try.underlying90 hi0 hz0 hz1 hz2 rfl (by decide) A1 (n + k) c1 _ rfl (Own.alloc HO.out _) (wr.heap.size + 1) (some ⟨wr.heap.size, 0, none⟩) 1 1 [.int .u8 ((N : Int) / 2 ^ (8 * k) % 256)] rfl (Rd.new1 _ _ _) rfl (by simp [Value.oneCell']) (by unfold maxLen; omega) (by omega) (by rw [World.size_alloc]; omega) ?_; intro A2 c2 w2 ho2 hg2 _)
      refine ⟨⟨A2, c2, k + 1, by first | rfl | go_num, by first | rfl | go_num, by omega, Lib.hid ?_, Lib.hid ?_, by have := hg2.size; rw [World.size_alloc] at this; omega⟩, by simp [intOf]; omega⟩
      · unfold Byt
        rw [← HT.out, ← List.append_assoc, List.map_append]
        exact ho2
      · exact Own.grow (Own.alloc HO.out _) (HB.out.alloc hbs _) (by rw [World.size_alloc]; omega) (Nat.le_refl _) hg2
    · have hd : decide ((k : Int) < 8) = false := decide_eq_false (by omega)
      obtain rfl : k = 8 := by omega
      have ho := HO.out
      rw [show (nbI N 8).take 8 = nbI N 8 from List.take_of_length_le (by simp [nbI])] at ho
      have HO2 := Lib.hid ho
      clear h ho HO
      go_wp2
      go_ret
      exact ⟨A1, c1, rfl, HO2.out, HB.out⟩
end Go.Proofs.Ytiiogdgnccgehaa
namespace Go.Proofs.Ytiiogdgnccgehaa
open Go.RowKit
attribute [local go_sem ↓] Go.wp_at_zero Go.wp_at_succ

def may (c : Cl) : Bool := decide (1 ≤ c.row.size) && decide (c.row.size ≤ 40) && (decide (1 ≤ c.col.size) && decide (c.col.size ≤ 40)) && decide (c.val.size ≤ 100) && !(c.del && !decide (c.val.size = 0))
def nameOk (s : ByteArray) : Bool := decide (1 ≤ s.size) && decide (s.size ≤ 40)
theorem toList_size (s : ByteArray) : s.toList.length = s.size := by rw [ByteArray.toList_eq]; rfl
theorem empty_size (s : ByteArray) : (s.toList == []) = decide (s.size = 0) := by
  have := toList_size s
  cases h : s.toList with
  | nil => rw [h] at this; rw [← this]; rfl
  | cons x l =>
    rw [h, List.length_cons] at this
    rw [decide_eq_false (by omega : ¬ s.size = 0)]
    rfl
theorem may_eq (c : Cl) : may c = (nameOk c.row && nameOk c.col && decide (c.val.size ≤ 100) && !(c.del && !decide (c.val.size = 0))) := rfl

set_option maxHeartbeats 1000000 in
theorem name_any (s : ByteArray) (w : World) : Calls Try.prog 77 #[.string s] w fun e w' => e = .returned (.bool (nameOk s)) ∧ w = w' := by
  have he := empty_size s
  unfold nameOk
  by_cases h0 : s.size = 0
  · have h1 : (s.toList == []) = true := by rw [he, h0]; rfl
    have h2 : decide (1 ≤ s.size) = false := decide_eq_false (by omega)
    rw [h2]
    clear he
    go_enter Try.func77, Try.ntmps77
    go_wp2
    go_ret
    exact ⟨rfl, rfl⟩
  · have h1 : (s.toList == []) = false := by rw [he]; exact decide_eq_false h0
    have h2 : decide (1 ≤ s.size) = true := decide_eq_true (by omega)
    rw [h2, Bool.true_and]
    clear he
    by_cases h3 : s.size ≤ 40
    · have h4 : decide ((s.size : Int) ≤ 40) = true := decide_eq_true (by omega)
      rw [decide_eq_true h3]
      go_enter Try.func77, Try.ntmps77
      go_wp2
      go_ret
      exact ⟨rfl, rfl⟩
    · have h4 : decide ((s.size : Int) ≤ 40) = false := decide_eq_false (by omega)
      rw [decide_eq_false h3]
      go_enter Try.func77, Try.ntmps77
      go_wp2
      go_ret
      exact ⟨rfl, rfl⟩

set_option maxHeartbeats 2000000 in
theorem cellMay_any (c : Cl) (w : World) : Calls Try.prog 55 #[c.agg] w fun e w' => e = .returned (.bool (may c)) ∧ Below w.heap.size w w' := by
  rw [may_eq]
  have he := empty_size c.val
  unfold Cl.agg
  cases h1 : nameOk c.row with
  | false =>
    go_enter Try.func55, Try.ntmps55
    go_wp2_with (go_at_call 77; refine (name_any _ _).mono ?_; rintro e w' ⟨rfl, rfl⟩; simp only [h1])
    go_ret
    exact ⟨rfl, (Below.refl _ _).alloc (Nat.le_refl _) _⟩
  | true =>
    cases h2 : nameOk c.col with
    | false =>
      go_enter Try.func55, Try.ntmps55
      go_wp2_with (go_at_call 77; refine (name_any _ _).mono ?_; rintro e w' ⟨rfl, rfl⟩; simp only [h1, h2])
      go_ret
      exact ⟨rfl, (Below.refl _ _).alloc (Nat.le_refl _) _⟩
    | true =>
      by_cases h3 : c.val.size ≤ 100
      · have h4 : decide ((c.val.size : Int) ≤ 100) = true := decide_eq_true (by omega)
        rw [decide_eq_true h3]
        cases h5 : c.del with
        | false =>
          go_enter Try.func55, Try.ntmps55
          go_wp2_with (go_at_call 77; refine (name_any _ _).mono ?_; rintro e w' ⟨rfl, rfl⟩; simp only [h1, h2])
          go_ret
          exact ⟨rfl, (Below.refl _ _).alloc (Nat.le_refl _) _⟩
        | true =>
          by_cases h6 : c.val.size = 0
          · have h7 : (c.val.toList == []) = true := by rw [he, h6]; rfl
            rw [decide_eq_true h6]
            clear he
            go_enter Try.func55, Try.ntmps55
            go_wp2_with (go_at_call 77; refine (name_any _ _).mono ?_; rintro e w' ⟨rfl, rfl⟩; simp only [h1, h2])
            go_ret
            exact ⟨rfl, (Below.refl _ _).alloc (Nat.le_refl _) _⟩
          · have h7 : (c.val.toList == []) = false := by rw [he]; exact decide_eq_false h6
            rw [decide_eq_false h6]
            clear he
            go_enter Try.func55, Try.ntmps55
            go_wp2_with (go_at_call 77; refine (name_any _ _).mono ?_; rintro e w' ⟨rfl, rfl⟩; simp only [h1, h2])
            go_ret
            exact ⟨rfl, (Below.refl _ _).alloc (Nat.le_refl _) _⟩
      · have h4 : decide ((c.val.size : Int) ≤ 100) = false := decide_eq_false (by omega)
        rw [decide_eq_false h3]
        go_enter Try.func55, Try.ntmps55
        go_wp2_with (go_at_call 77; refine (name_any _ _).mono ?_; rintro e w' ⟨rfl, rfl⟩; simp only [h1, h2])
        go_ret
        exact ⟨rfl, (Below.refl _ _).alloc (Nat.le_refl _) _⟩
theorem empty_dec (s : ByteArray) : decide (s.toList = []) = decide (s.size = 0) := by
  have := empty_size s
  rw [← this]
  cases s.toList <;> rfl
theorem refMay_eq (c : Cl) : may c = (!(decide (c.row.size < 1) || decide (40 < c.row.size) || decide (c.col.size < 1) || decide (40 < c.col.size) || decide (100 < c.val.size)) && (!c.del || decide (c.val.size = 0))) := by
  unfold may
  generalize c.row.size = x
  generalize c.col.size = y
  generalize c.val.size = z
  rw [Bool.eq_iff_iff]
  cases c.del <;> simp <;> omega

set_option maxHeartbeats 4000000 in
theorem refMay_any (c : Cl) (w : World) : Calls Try.prog 28 #[c.agg] w fun e w' => e = .returned (.bool (may c)) ∧ Below w.heap.size w w' := by
  have hb := (Below.refl w.heap.size w).alloc (Nat.le_refl _) (.cells #[.string c.row, .string c.col, .int .u64 c.ts, .int .u64 c.seq, .bool c.del, .string c.val] 75)
  have HB := Lib.hid hb
  clear hb
  have he := empty_size c.val
  rw [refMay_eq]
  unfold Cl.agg
  by_cases h1 : c.row.size < 1 ∨ 40 < c.row.size ∨ c.col.size < 1 ∨ 40 < c.col.size ∨ 100 < c.val.size
  · have hr : (decide (c.row.size < 1) || decide (40 < c.row.size) || decide (c.col.size < 1) || decide (40 < c.col.size) || decide (100 < c.val.size)) = true := by simpa [or_assoc] using h1
    rw [hr]
    clear hr he
    go_enter Try.func28, Try.ntmps28
    go_wp2
    all_goals first
      | (go_ret; exact ⟨rfl, HB.out⟩)
      | (exfalso; omega)
  · have hr : (decide (c.row.size < 1) || decide (40 < c.row.size) || decide (c.col.size < 1) || decide (40 < c.col.size) || decide (100 < c.val.size)) = false := by
      simp only [Bool.or_eq_false_iff, decide_eq_false_iff_not]
      omega
    rw [hr]
    clear hr
    have k1 : decide ((c.row.size : Int) < 1) = false := decide_eq_false (by omega)
    have k2 : decide (40 < (c.row.size : Int)) = false := decide_eq_false (by omega)
    have k3 : decide ((c.col.size : Int) < 1) = false := decide_eq_false (by omega)
    have k4 : decide (40 < (c.col.size : Int)) = false := decide_eq_false (by omega)
    have k5 : decide (100 < (c.val.size : Int)) = false := decide_eq_false (by omega)
    cases hd : c.del with
    | false =>
      clear he
      go_enter Try.func28, Try.ntmps28
      rw [hd] at HB
      go_wp2
      all_goals first
        | (go_ret; exact ⟨rfl, HB.out⟩)
        | (exfalso; omega)
    | true =>
      rw [hd] at HB
      by_cases h6 : c.val.size = 0
      · have h7 : (c.val.toList == []) = true := by rw [he, h6]; rfl
        rw [decide_eq_true h6]
        clear he
        go_enter Try.func28, Try.ntmps28
        go_wp2
        all_goals first
          | (go_ret; exact ⟨rfl, HB.out⟩)
          | (exfalso; omega)
      · have h7 : (c.val.toList == []) = false := by rw [he]; exact decide_eq_false h6
        rw [decide_eq_false h6]
        clear he
        go_enter Try.func28, Try.ntmps28
        go_wp2
        all_goals first
          | (go_ret; exact ⟨rfl, HB.out⟩)
          | (exfalso; omega)
end Go.Proofs.Ytiiogdgnccgehaa
namespace Go.Proofs.Ytiiogdgnccgehaa
open Go.RowKit
attribute [local go_sem ↓] Go.wp_at_zero Go.wp_at_succ

theorem run_slice_front {P : Program} {t e : TypeId} {i : TypeInfo} (ht : P.underlying t = some (.slice e)) (hi : P.info? e = some i) (A : Option Addr) (n c k : Nat) (hk : k ≤ c) (W : World) :
    (Instr.slice t (.slice A n c) none (some (.int .i64 (k : Int))) none).run P W = .ok (.slice A k c) W := by
  have he : P.underlying t = some (.slice (P.elem t)) := by rw [ht]; simp [Program.elem, ht]
  have hee : P.elem t = e := by simp [Program.elem, ht]
  rw [run_slice_h (P := P) W t A n c he .i64 k (by omega) (by omega), hee]
  simp [sizeOf, typeInfo, hi, Result.andThen, sliced]
  intro _
  cases A <;> simp [Addr.add]
theorem zeroCells_sized {zc : Array Value} {k : Nat} (h : zc.size = k) (n : Nat) : (Builtin.zeroCells zc n).size = n * k := by simp [Builtin.zeroCells, h]

/-- slices, one behind the other: where each lies, how long it is, and its values -/
structure Sl where
  A : Option Addr
  n : Nat
  c : Nat
  vs : List Value
def Sl.val (x : Sl) : Value := .slice x.A x.n x.c
/-- all lie below block B, with elements of k cells -/
def SlsIn (w : World) (B k : Nat) (l : List Sl) : Prop := ∀ x ∈ l, Rd w B x.A x.vs ∧ x.vs.length = x.n * k ∧ ∀ u ∈ x.vs, u.oneCell' = true
def total (l : List Sl) : Nat := (l.map Sl.n).sum
def joined (l : List Sl) : List Value := l.flatMap Sl.vs
theorem total_succ {l : List Sl} {k : Nat} (h : k < l.length) : total (l.take (k + 1)) = total (l.take k) + l[k].n := by
  unfold total
  rw [List.take_succ_eq_append_getElem h, List.map_append, List.sum_append_nat]
  rfl
theorem joined_succ {l : List Sl} {k : Nat} (h : k < l.length) : joined (l.take (k + 1)) = joined (l.take k) ++ l[k].vs := by
  unfold joined
  rw [List.take_succ_eq_append_getElem h, List.flatMap_append]
  simp
theorem total_le (l : List Sl) (k : Nat) : total (l.take k) ≤ total l := by
  have : total l = total (l.take k) + total (l.drop k) := by
    unfold total
    rw [← List.sum_append_nat, ← List.map_append, List.take_append_drop]
  omega
theorem SlsIn.below {w w' : World} {B k : Nat} {l : List Sl} (h : SlsIn w B k l) (hb : Below B w w') : SlsIn w' B k l := fun x hx => ⟨(h x hx).1.below hb, (h x hx).2⟩
theorem sl_vals_at {l : List Sl} {k : Nat} (h : k < l.length) (h' : k < (l.map Sl.val).length) : (l.map Sl.val)[k] = .slice l[k].A l[k].n l[k].c := by
  rw [List.getElem_map]
  rfl

set_option maxRecDepth 10000 in
set_option maxHeartbeats 1000000 in
theorem grow_nil (N : Nat) (w : World) (hN : N ≤ 1000000) :
    Calls Try.prog 78 #[.slice none 0 0, .int .i64 N] w fun e w' => ∃ (A' : Option Addr) (c' : Nat), e = .returned (.slice A' 0 c') ∧ Own w' w.heap.size 5 1 A' 0 c' [] ∧ Below w.heap.size w w' := by
  obtain ⟨i0, hi0, hz0, hz1, hz2⟩ := info_parts byteInfo
  have hw0 : IntKind.i64.wrap ((N : Int) - 0) = (N : Int) := by rw [IntWalk.i64_in _ (by omega)]; omega
  have h1 : decide ((N : Int) < 0) = false := decide_eq_false (by omega)
  rcases Nat.eq_zero_or_pos N with h0 | h0
  · subst h0
    go_enter Try.func78, Try.ntmps78
    go_wp2
    go_ret
    exact ⟨none, 0, rfl, Own.nil, Below.refl _ _⟩
  · have h2 : decide (0 < (N : Int)) = true := decide_eq_true (by omega)
    have hs1 := fun W => run_slice_front (P := Try.prog) (t := 90) Try.underlying90 hi0 none 0 0 0 (Nat.le_refl _) W
    have hr := Lib.run_append_nil_zeros (P := Try.prog) w 90 3 90 5 i0 _ .i64 .i64 Try.underlying90 Try.underlying3 hi0 hz0 N h0 (by omega) (by omega) (by rw [hz2]; omega)
    obtain ⟨cap, hcap⟩ : ∃ cap, grownCap w N 0 5 = cap := ⟨_, rfl⟩
    have hc1 := grownCap_ge w N 0 5
    have hc2 := grownCap_le_maxLen w N 0 5 (by unfold maxLen; omega)
    rw [hcap] at hr hc1 hc2
    have hs2 := fun W => run_slice_front (P := Try.prog) (t := 90) Try.underlying90 hi0 (some ⟨w.heap.size, 0, none⟩) N cap 0 (Nat.zero_le _) W
    obtain ⟨cs, hcs⟩ : ∃ cs, (Builtin.zeroCells (Value.cells (.int .u8 0)) N ++ Builtin.zeroCells (Value.cells (.int .u8 0)) (cap - N)) = cs := ⟨_, rfl⟩
    rw [hcs] at hr
    have hsz : cs.size = cap * 1 := by
      rw [← hcs, Array.size_append, zeroCells_sized (k := 1) rfl, zeroCells_sized (k := 1) rfl, ← Nat.add_mul]
      congr 1
      omega
    have ho : Own (w.drew.alloc (.cells cs 5)) w.heap.size 5 1 (some ⟨w.heap.size, 0, none⟩) 0 cap [] :=
      ⟨by simp, .inr ⟨w.heap.size, cap, cs, rfl, Nat.le_refl _, heap_alloc_new w.drew _, Nat.zero_le _, hc2, hsz, by simp⟩⟩
    have hb : Below w.heap.size w (w.drew.alloc (.cells cs 5)) := (Below.refl _ w).drew.alloc (Nat.le_refl _) _
    have HO := Lib.hid ho
    have HB := Lib.hid hb
    have HR := Lib.hid hr
    clear ho hb hr hcs hsz hc1 hc2 hcap
    go_enter Try.func78, Try.ntmps78
    go_wp2_with (at_builtin; refine Lib.wpList_append_run _ rfl _ _ _ _ rfl _ _ rfl rfl _ _ HR.out ?_)
    go_ret
    exact ⟨_, _, rfl, HO.out, HB.out⟩
set_option maxRecDepth 10000 in
set_option maxHeartbeats 2000000 in
theorem concat_any (A : Option Addr) (c : Nat) (l : List Sl) (w : World) (hA : Rd w w.heap.size A (l.map Sl.val)) (hl : SlsIn w w.heap.size 1 l) (hlen : l.length ≤ 1000000) (hN : total l ≤ 1000000) :
    Calls Try.prog 57 #[.slice A l.length c] w fun e w' => ∃ (A' : Option Addr) (c' : Nat), e = .returned (.slice A' (total l) c') ∧ Own w' w.heap.size 5 1 A' (total l) c' (joined l) ∧ Below w.heap.size w w' := by
  obtain ⟨i0, hi0, hz0, hz1, hz2⟩ := info_parts byteInfo
  go_enter Try.func57, Try.ntmps57
  go_wp2
  go_loopw [3, 5, 11] (fun s _ i wr => ∃ k : Nat, s = .int .i64 (total (l.take k)) ∧ i = .int .i64 k ∧ k ≤ l.length ∧ wr = w) (fun _ _ i _ => l.length - (intOf i).toNat)
  case atStart => exact ⟨0, rfl, rfl, Nat.zero_le _, rfl⟩
  case round =>
    obtain ⟨k, rfl, rfl, hk, rfl⟩ := hrel
    by_cases hlt : k < l.length
    · have hd : decide ((k : Int) < (l.length : Int)) = true := decide_eq_true (by omega)
      have h1 := total_succ hlt
      have h2 := total_le l (k + 1)
      obtain ⟨b, o, rfl, hb, hc⟩ := hA.at_ (by intro e; rw [List.map_eq_nil_iff] at e; subst e; simp at hlt)
      have hck := hc k (by simpa using hlt)
      rw [sl_vals_at hlt] at hck
      have hw1 : IntKind.i64.wrap ((total (l.take k) : Int) + (l[k].n : Int)) = (total (l.take (k + 1)) : Int) := by rw [IntWalk.i64_in _ (by omega)]; omega
      have hd2 : decide ((total (l.take (k + 1)) : Int) < 0) = false := decide_eq_false (by omega)
      have hw2 : IntKind.i64.wrap ((k : Int) + 1) = ((k + 1 : Nat) : Int) := by rw [IntWalk.i64_in _ (by omega)]; omega
      have i1 : (0 : Int) ≤ (k : Int) := by omega
      have i2 : (k : Int) < (l.length : Int) := by omega
      have H1 := Lib.hid h1
      have H2 := Lib.hid h2
      clear h1 h2 hc
      go_wp2
      exact ⟨⟨k + 1, rfl, by first | rfl | go_num, by omega, by first | rfl | trivial⟩, by simp [intOf]; omega⟩
    · rename World => w0
      have hk2 : k = l.length := by omega
      subst hk2
      rw [List.take_length]
      have hd : decide ((l.length : Int) < (l.length : Int)) = false := decide_eq_false (by omega)
      go_wp2_with (go_at_call 78; refine (grow_nil (total l) _ (by omega)).mono ?_; rintro e w1 ⟨A1, c1, rfl, ho1, hb1⟩)
      go_loopw [6, 8, 27] (fun s _ i wr' => ∃ (A2 : Option Addr) (c2 k : Nat), s = .slice A2 (total (l.take k)) c2 ∧ i = .int .i64 k ∧ k ≤ l.length ∧ Own wr' w0.heap.size 5 1 A2 (total (l.take k)) c2 (joined (l.take k)) ∧ Below w0.heap.size w0 wr') (fun _ _ i _ => l.length - (intOf i).toNat)
      case atStart => exact ⟨A1, c1, 0, rfl, rfl, Nat.zero_le _, ho1, hb1⟩
      case round =>
        obtain ⟨A2, c2, k, rfl, rfl, hk, ho, hB⟩ := hrel
        clear ho1 hb1 hd
        by_cases hlt : k < l.length
        · have hd : decide ((k : Int) < (l.length : Int)) = true := decide_eq_true (by omega)
          have h1 := total_succ hlt
          have h2 := total_le l (k + 1)
          obtain ⟨b, o, rfl, hb, hc⟩ := (hA.below hB).at_ (by intro e; rw [List.map_eq_nil_iff] at e; subst e; simp at hlt)
          have hck := hc k (by simpa using hlt)
          rw [sl_vals_at hlt] at hck
          have hw2 : IntKind.i64.wrap ((k : Int) + 1) = ((k + 1 : Nat) : Int) := by rw [IntWalk.i64_in _ (by omega)]; omega
          have i1 : (0 : Int) ≤ (k : Int) := by omega
          have i2 : (k : Int) < (l.length : Int) := by omega
          obtain ⟨hr, hvl, h1c⟩ := (hl.below hB) _ (List.getElem_mem hlt)
          have HO := Lib.hid ho
          have HB := Lib.hid hB
          have H1 := Lib.hid h1
          have H3 := Lib.hid (joined_succ hlt)
          have HH := Lib.hid (And.intro hr (And.intro hvl h1c))
          have hN2 : total (l.take k) + l[k].n ≤ 1000000 := by omega
          have hsz := hB.size
          clear ho hB h1 h2 hr hvl h1c hl hA hc
          go_wp2_with (at_builtin; go_loud (refine wpList_app _ rfl _ _ _ rfl w0.heap.size 5 i0 (.int .u8 0) 1 1 Try.underlying90 hi0 hz0 hz1 hz2 rfl (by decide) A2 _ c2 _ rfl HO.out w0.heap.size l[k].A l[k].n l[k].c l[k].vs rfl HH.out.1 HH.out.2.1 HH.out.2.2 (by unfold maxLen; omega) (by omega) (by omega) ?_); intro A3 c3 w3 ho3 hg3 _)
          refine ⟨⟨A3, c3, k + 1, by rw [H1.out], by first | rfl | go_num, by omega, by rw [H1.out, H3.out]; exact ho3, Own.grow HO.out HB.out (by omega) (Nat.le_refl _) hg3⟩, by simp [intOf]; omega⟩
        · have hk2 : k = l.length := by omega
          subst hk2
          rw [List.take_length] at ho ⊢
          have hd : decide ((l.length : Int) < (l.length : Int)) = false := decide_eq_false (by omega)
          have HO := Lib.hid ho
          have HB := Lib.hid hB
          clear ho hB
          go_wp2
          go_ret
          exact ⟨A2, c2, rfl, HO.out, HB.out⟩
end Go.Proofs.Ytiiogdgnccgehaa
namespace Go.Proofs.Ytiiogdgnccgehaa
open Go.RowKit
attribute [local go_sem ↓] Go.wp_at_zero Go.wp_at_succ

/-- how many bytes a cell takes -/
def encLen (c : Cl) : Nat := 20 + c.row.size + c.col.size + c.val.size
def flagB (b : Bool) : ByteArray := nb (if b then 1 else 0) 1
/-- a cell's bytes -/
def cellB (c : Cl) : ByteArray := sh c.row ++ sh c.col ++ nb c.ts 8 ++ nb c.seq 8 ++ flagB c.del ++ sh c.val
theorem strOf_one {n : Nat} (h : n < 256) : strOf [(n : Int)] = nb n 1 := by
  unfold strOf nb nbI
  simp
  rw [Int.emod_eq_of_lt (by omega) (by omega)]
theorem cellB_of {c : Cl} {q : Int} (h1 : c.row.size < 256) (h2 : c.col.size < 256) (h3 : c.val.size < 256) (hq : q = ((if c.del then 1 else 0 : Nat) : Int)) :
    strOf ([(c.row.size : Int)] ++ intsOf c.row ++ [(c.col.size : Int)] ++ intsOf c.col ++ nbI c.ts 8 ++ nbI c.seq 8 ++ [q, (c.val.size : Int)] ++ intsOf c.val) = cellB c := by
  subst hq
  rw [show [((if c.del then 1 else 0 : Nat) : Int), (c.val.size : Int)] = [((if c.del then 1 else 0 : Nat) : Int)] ++ [(c.val.size : Int)] from rfl]
  simp only [strOf_app, strOf_intsOf, strOf_nbI, strOf_one h1, strOf_one h2, strOf_one h3]
  rw [strOf_one (show (if c.del then 1 else 0 : Nat) < 256 by split <;> omega)]
  unfold cellB sh flagB
  simp only [ByteArray.append_assoc]
def CBox (w : World) (g : Nat) (c : Cl) : Prop := w.heap[g]? = some (.cells #[.string c.row, .string c.col, .int .u64 c.ts, .int .u64 c.seq, .bool c.del, .string c.val] 75 (0, 0))
theorem CBox.lt {w : World} {g : Nat} {c : Cl} (h : CBox w g c) : g < w.heap.size := (Array.getElem?_eq_some_iff.1 h).1
theorem CBox.new (w : World) (c : Cl) : CBox (w.alloc (.cells #[.string c.row, .string c.col, .int .u64 c.ts, .int .u64 c.seq, .bool c.del, .string c.val] 75)) w.heap.size c := heap_alloc_new w _
theorem CBox.keep {w w' : World} {g : Nat} {c : Cl} (h : CBox w g c) (hk : w'.heap[g]? = w.heap[g]?) : CBox w' g c := hk.trans h
theorem CBox.below {w w' : World} {g B : Nat} {c : Cl} (h : CBox w g c) (hb : Below B w w') (hg : g < B) : CBox w' g c := h.keep (hb.block g hg)
theorem CBox.range {w : World} {g : Nat} {c : Cl} (h : CBox w g c) : w.rangeAt g 0 c.vals := fun j v hv => by
  rw [Nat.zero_add, cell_of_row w g j _ _ (0, 0) h]
  have hj : j < 6 := by
    have := (List.getElem?_eq_some_iff.1 hv).1
    simpa [Cl.vals] using this
  rw [← hv]
  match j, hj with
  | 0, _ => rfl
  | 1, _ => rfl
  | 2, _ => rfl
  | 3, _ => rfl
  | 4, _ => rfl
  | 5, _ => rfl
theorem CBox.cells {w : World} {g : Nat} {c : Cl} (h : CBox w g c) : w.cell? ⟨g, 0, none⟩ = some (.string c.row) ∧ w.cell? ⟨g, 1, none⟩ = some (.string c.col) ∧ w.cell? ⟨g, 2, none⟩ = some (.int .u64 c.ts) ∧ w.cell? ⟨g, 3, none⟩ = some (.int .u64 c.seq) ∧
    w.cell? ⟨g, 4, none⟩ = some (.bool c.del) ∧ w.cell? ⟨g, 5, none⟩ = some (.string c.val) := by
  have f := fun j => cell_of_row w g j _ _ (0, 0) h
  exact ⟨f 0, f 1, f 2, f 3, f 4, f 5⟩
theorem lit1 (w : World) (z : Int) : Byt (w.alloc (.cells #[.int .u8 z] 5)) w.heap.size (some ⟨w.heap.size, 0, none⟩) 1 1 [z] := World.ownsRow_lit w #[.int .u8 z] 1 (by omega) (by simp [maxLen]) rfl

theorem conv_bytes (s : ByteArray) (W : World) : ∃ (c' : Nat) (W' : World), (convert 9 90 (.string s)).run Try.prog W = .ok (.slice (some ⟨W.heap.size, 0, none⟩) s.size c') W' ∧ Below W.heap.size W W' ∧ W'.heap.size = W.heap.size + 1 ∧
    Rd W' (W.heap.size + 1) (some ⟨W.heap.size, 0, none⟩) (Lib.strCells s) := by
  refine ⟨_, _, Lib.run_convert_string_bytes W 9 90 5 s Try.underlying9 Try.underlying90 Try.underlying5, ⟨rfl, rfl, rfl, by rw [Lib.bytesWorld_size]; omega, fun k hk => Lib.bytesWorld_at_old W _ s k hk⟩, Lib.bytesWorld_size W _ s, fun _ => ⟨W.heap.size, 0, rfl, by omega, fun j hj => ?_⟩⟩
  have hj' : j < s.size := by rwa [Lib.strCells_length] at hj
  rw [Nat.zero_add, Lib.bytesWorld_cell W _ s j hj']
  have hl : j < s.data.toList.length := by rw [Array.length_toList]; exact hj'
  simp only [Lib.strCells, List.getElem_map]
  rw [List.getD_eq_getElem?_getD, List.getElem?_eq_getElem hl]
  rfl
theorem Rd.ofBlock {w : World} {g : Nat} {cur : Array Value} {e : TypeId} {xs : List Value} (h : w.heap[g]? = some (.cells cur e (0, 0))) (hx : cur.toList = xs) : Rd w w.heap.size (some ⟨g, 0, none⟩) xs := fun _ => ⟨g, 0, rfl, (Array.getElem?_eq_some_iff.1 h).1, fun j hj => by
  subst hx
  rw [Nat.zero_add, cell_of_row w g j cur e (0, 0) h, ← Array.getElem?_toList]
  exact List.getElem?_eq_getElem hj⟩

set_option maxHeartbeats 4000000 in
theorem cellEncode_ok (c : Cl) (w : World) (hm : may c = true) :
    Calls Try.prog 33 #[c.agg] w fun e w' => e = .returned (.tuple #[.string (cellB c), .int .i64 0]) ∧ Below w.heap.size w w' := by
  obtain ⟨i0, hi0, hz0, hz1, hz2⟩ := info_parts byteInfo
  have hsz : c.row.size ≤ 40 ∧ c.col.size ≤ 40 ∧ c.val.size ≤ 100 := by
    simp only [may, Bool.and_eq_true, decide_eq_true_eq] at hm
    omega
  have hX := CBox.new w c
  obtain ⟨W0, hW0⟩ : ∃ W0, w.alloc (.cells #[.string c.row, .string c.col, .int .u64 c.ts, .int .u64 c.seq, .bool c.del, .string c.val] 75) = W0 := ⟨_, rfl⟩
  rw [hW0] at hX
  have hB0 : Below w.heap.size w W0 := by rw [← hW0]; exact (Below.refl _ w).alloc (Nat.le_refl _) _
  have hs0 : W0.heap.size = w.heap.size + 1 := by rw [← hW0, World.size_alloc]
  obtain ⟨x0, x1, x2, x3, x4, x5⟩ := hX.cells
  have HX := Lib.hid hX
  have HB0 := Lib.hid hB0
  have HM := Lib.hid hm
  have HS := Lib.hid hs0
  obtain ⟨q1, q2, q3⟩ := hsz
  clear hX hB0 hm hs0
  unfold Cl.agg
  go_enter Try.func33, Try.ntmps33
  go_wp2_with (first
    | (go_at_call 55; refine (cellMay_any c _).mono ?_; rintro e w1 ⟨rfl, hb1⟩; simp only [HM.out]; have HX1 := Lib.hid (CBox.below (w := W0) HX.out hb1 HX.out.lt); have HB1 := Lib.hid (HB0.out.trans (hb1.mono HB0.out.size)); have hz1' := hb1.size; have y0 := HX1.out.cells.1; have z0 : ∀ o : Obj, (w1.alloc o).cell? ⟨w.heap.size, 0, none⟩ = some (.string c.row) := (fun o => (World.cell?_alloc_lt w1 o ⟨w.heap.size, 0, none⟩ HX1.out.lt).trans y0); clear hb1 x0 x1 x2 x3 x4 x5)
    | (at_builtin; refine wpList_app_str _ rfl _ _ rfl w1.heap.size (some ⟨w1.heap.size, 0, none⟩) 1 1 _ rfl (lit1 _ _) c.row rfl (by omega) (by rw [World.size_alloc]; omega) ?_; intro A2 c2 w2 ho2 hg2; clear y0 z0))
  have HD2 := Lib.hid (Own.grow (lit1 _ _) ((Below.refl w1.heap.size w1).alloc (Nat.le_refl _) _) (by rw [World.size_alloc]; omega) (Nat.le_refl _) hg2)
  have HO2 := Lib.hid ho2
  have hs2 := HD2.out.size
  have hX2 : CBox w2 w.heap.size c := HX1.out.below HD2.out HX1.out.lt
  have HX2 := Lib.hid hX2
  have HC : w2.drew.cell? ⟨w.heap.size, 1, none⟩ = some (.string c.col) := hX2.cells.2.1
  have hlt2 := hX2.lt
  clear ho2 hg2 hX2
  refine region_wz (fun W' => W'.cell? ⟨w.heap.size, 1, none⟩ = some (.string c.col)) none (by kernel_rfl) ?_
  apply WZ.take (i := 0) (some 17) rfl rfl (by kernel_rfl) (by kernel_rfl) (by kernel_rfl) (calm_panic _) (by kernel_rfl)
  case hy => (refine .inl ⟨by kernel_rfl, fun W hC => ?_⟩; (try dsimp only at hC); go_simp; rfl)
  case hC => exact HC
  case ha => (simp only [Act.put, List.setIfInBounds_toArray, List.set_cons_zero, List.set_cons_succ]; rfl)
  apply WZ.take (i := 1) (some 18) rfl rfl (by kernel_rfl) (by kernel_rfl) (by kernel_rfl) (calm_panic _) (by kernel_rfl)
  case hy => (refine .inl ⟨by kernel_rfl, fun W hC => ?_⟩; (try dsimp only at hC); go_simp; rfl)
  case hC => exact HC
  case ha => (simp only [Act.put, List.setIfInBounds_toArray, List.set_cons_zero, List.set_cons_succ]; rfl)
  apply WZ.take (i := 2) (some 19) rfl rfl (by kernel_rfl) (by kernel_rfl) (by kernel_rfl) (calm_panic _) (by kernel_rfl)
  case hy => (refine .inl ⟨by kernel_rfl, fun W hC => ?_⟩; (try dsimp only at hC); go_simp; rfl)
  case hC => exact HC
  case ha => (simp only [Act.put, List.setIfInBounds_toArray, List.set_cons_zero, List.set_cons_succ]; rfl)
  apply WZ.take (i := 3) (some 20) rfl rfl (by kernel_rfl) (by kernel_rfl) (by kernel_rfl) (calm_panic _) (by kernel_rfl)
  case hy => (refine .inl ⟨by kernel_rfl, fun W hC => ?_⟩; (try dsimp only at hC); go_simp; rfl)
  case hC => exact HC
  case ha => (simp only [Act.put, List.setIfInBounds_toArray, List.set_cons_zero, List.set_cons_succ]; rfl)
  apply WZ.take (i := 4) (some 21) rfl rfl (by kernel_rfl) (by kernel_rfl) (by kernel_rfl) (calm_panic _) (by kernel_rfl)
  case hy => (refine .inl ⟨by kernel_rfl, fun W hC => ?_⟩; (try dsimp only at hC); go_simp; rfl)
  case hC => exact HC
  case ha => (simp only [Act.put, List.setIfInBounds_toArray, List.set_cons_zero, List.set_cons_succ]; rfl)
  apply WZ.take (i := 7) (some 24) rfl rfl (by kernel_rfl) (by kernel_rfl) (by kernel_rfl) (calm_panic _) (by kernel_rfl)
  case hy => (refine .inl ⟨by kernel_rfl, fun W hC => ?_⟩; (try dsimp only at hC); go_simp; rfl)
  case hC => exact HC
  case ha => (simp only [Act.put, List.setIfInBounds_toArray, List.set_cons_zero, List.set_cons_succ]; rfl)
  apply WZ.take (i := 8) (some 25) rfl rfl (by kernel_rfl) (by kernel_rfl) (by kernel_rfl) (calm_panic _) (by kernel_rfl)
  case hy => (refine .inl ⟨by kernel_rfl, fun W hC => ?_⟩; (try dsimp only at hC); go_simp; rfl)
  case hC => exact HC
  case ha => (simp only [Act.put, List.setIfInBounds_toArray, List.set_cons_zero, List.set_cons_succ]; rfl)
  -- 5
  refine WZ.one (i := 5) rfl (by kernel_rfl) ?_
  conv => arg 4; arg 1; whnf
  go_wp2_with (fail)
  have HC := (World.cell?_alloc_lt w2 (.cells #[.int .u8 c.col.size] 5) ⟨w.heap.size, 1, none⟩ hlt2).trans HC
  have ho2' : Byt (w2.alloc (.cells #[.int .u8 c.col.size] 5)).drew w1.heap.size A2 (1 + c.row.size) c2 _ := Own.drew (Own.alloc HO2.out (.cells #[.int .u8 c.col.size] 5))
  have hd2' := (HD2.out.alloc hs2 (.cells #[.int .u8 c.col.size] 5)).drew
  have hs2' : w1.heap.size ≤ (w2.alloc (.cells #[.int .u8 c.col.size] 5)).drew.heap.size := by show _ ≤ (w2.alloc _).heap.size; rw [World.size_alloc]; omega
  have hr2' := (Rd.new1 w2 5 (.int .u8 c.col.size)).drew
  have HQ := Lib.hid (And.intro ho2' (And.intro hd2' (And.intro hs2' hr2')))
  clear ho2' hd2' hs2' hr2'
  refine ⟨HC, ?_⟩
  -- 6
  refine WZ.one (i := 6) rfl (by kernel_rfl) ?_
  conv => arg 4; arg 1; whnf
  go_wp2_with (at_builtin; go_loud (refine wpList_app _ rfl _ _ _ rfl w1.heap.size 5 i0 (.int .u8 0) 1 1 Try.underlying90 hi0 hz0 hz1 hz2 rfl (by decide) A2 (1 + c.row.size) c2 _ rfl HQ.out.1 (w2.heap.size + 1) (some ⟨w2.heap.size, 0, none⟩) 1 1 [.int .u8 c.col.size] rfl HQ.out.2.2.2 rfl (by simp [Value.oneCell']) (by unfold maxLen; omega) (by omega) HQ.out.2.2.1 ?_); intro A3 c3 w3 ho3 hg3 _)
  have HD3 := Lib.hid (Own.grow HQ.out.1 HQ.out.2.1 HQ.out.2.2.1 (Nat.le_refl _) hg3)
  have hX3 : CBox w3 w.heap.size c := HX1.out.below HD3.out HX1.out.lt
  have HC := hX3.cells.2.1
  have hs3 := HD3.out.size
  refine ⟨HC, ?_⟩
  -- 9
  refine WZ.one (i := 9) rfl (by kernel_rfl) ?_
  conv => arg 4; arg 1; whnf
  go_wp2_with (at_builtin; go_loud (refine wpList_app_str _ rfl _ _ rfl w1.heap.size A3 (1 + c.row.size + 1) c3 (_ ++ [(c.col.size : Int)]) rfl (by unfold Byt; rw [List.map_append]; exact ho3) c.col rfl (by omega) (by omega) ?_); intro A4 c4 w4 ho4 hg4)
  have HD4 := Lib.hid (Own.grow ho3 HD3.out hs3 (Nat.le_refl _) hg4)
  have hX4 : CBox w4 w.heap.size c := HX1.out.below HD4.out HX1.out.lt
  have HC := hX4.cells.2.1
  refine ⟨HC, ?_⟩
  apply WZ.take (i := 10) (some 4) rfl rfl (by kernel_rfl) (by kernel_rfl) (by kernel_rfl) (calm_panic _) (by kernel_rfl)
  case hy => (refine .inl ⟨by kernel_rfl, fun W hC => ?_⟩; (try dsimp only at hC); go_simp; rfl)
  case hC => exact HC
  case ha => (simp only [Act.put, List.setIfInBounds_toArray, List.set_cons_zero, List.set_cons_succ]; rfl)
  refine WZ.done (by kernel_rfl) ?_ _
  simp only [Calm, Exit.then]
  have hs4 := HD4.out.size
  have HX4 := Lib.hid hX4
  have HO4 := Lib.hid ho4
  have hlt4 := hX4.lt
  have HC : w4.drew.cell? ⟨w.heap.size, 2, none⟩ = some (.int .u64 c.ts) ∧ w4.drew.cell? ⟨w.heap.size, 3, none⟩ = some (.int .u64 c.seq) := ⟨hX4.cells.2.2.1, hX4.cells.2.2.2.1⟩
  clear hX4 ho4 hX3 hg3 hg4
  go_wp2
  refine region_wz (fun W' => W'.cell? ⟨w.heap.size, 2, none⟩ = some (.int .u64 c.ts) ∧ W'.cell? ⟨w.heap.size, 3, none⟩ = some (.int .u64 c.seq)) none (by kernel_rfl) ?_
  apply WZ.take (i := 0) (some 27) rfl rfl (by kernel_rfl) (by kernel_rfl) (by kernel_rfl) (calm_panic _) (by kernel_rfl)
  case hy => (refine .inl ⟨by kernel_rfl, fun W hC => ?_⟩; (try dsimp only at hC); go_simp; rfl)
  case hC => exact HC
  case ha => (simp only [Act.put, List.setIfInBounds_toArray, List.set_cons_zero, List.set_cons_succ]; rfl)
  apply WZ.take (i := 1) (some 28) rfl rfl (by kernel_rfl) (by kernel_rfl) (by kernel_rfl) (calm_panic _) (by kernel_rfl)
  case hy => (refine .inl ⟨by kernel_rfl, fun W hC => ?_⟩; (try dsimp only at hC); go_simp; rfl)
  case hC => exact HC
  case ha => (simp only [Act.put, List.setIfInBounds_toArray, List.set_cons_zero, List.set_cons_succ]; rfl)
  apply WZ.take (i := 2) (some 29) rfl rfl (by kernel_rfl) (by kernel_rfl) (by kernel_rfl) (calm_panic _) (by kernel_rfl)
  case hy => (refine .inl ⟨by kernel_rfl, fun W hC => ?_⟩; (try dsimp only at hC); go_simp; rfl)
  case hC => exact HC
  case ha => (simp only [Act.put, List.setIfInBounds_toArray, List.set_cons_zero, List.set_cons_succ]; rfl)
  apply WZ.take (i := 4) (some 31) rfl rfl (by kernel_rfl) (by kernel_rfl) (by kernel_rfl) (calm_panic _) (by kernel_rfl)
  case hy => (refine .inl ⟨by kernel_rfl, fun W hC => ?_⟩; (try dsimp only at hC); go_simp; rfl)
  case hC => exact HC
  case ha => (simp only [Act.put, List.setIfInBounds_toArray, List.set_cons_zero, List.set_cons_succ]; rfl)
  apply WZ.take (i := 5) (some 32) rfl rfl (by kernel_rfl) (by kernel_rfl) (by kernel_rfl) (calm_panic _) (by kernel_rfl)
  case hy => (refine .inl ⟨by kernel_rfl, fun W hC => ?_⟩; (try dsimp only at hC); go_simp; rfl)
  case hC => exact HC
  case ha => (simp only [Act.put, List.setIfInBounds_toArray, List.set_cons_zero, List.set_cons_succ]; rfl)
  -- 3
  refine WZ.one (i := 3) rfl (by kernel_rfl) ?_
  conv => arg 4; arg 1; whnf
  go_wp2_with (go_at_call 56; refine (cellLittle_any w1.heap.size A4 (1 + c.row.size + 1 + c.col.size) c4 _ c.ts _ (Own.drew HO4.out) (by omega) hs4).mono ?_; rintro e w5 ⟨A5, c5, rfl, ho5, hb5⟩)
  have HD5 := Lib.hid (HD4.out.trans (below_of_drew' hb5))
  have hX5 : CBox w5 w.heap.size c := HX1.out.below HD5.out HX1.out.lt
  have hs5 := HD5.out.size
  have HC : w5.cell? ⟨w.heap.size, 2, none⟩ = some (.int .u64 c.ts) ∧ w5.cell? ⟨w.heap.size, 3, none⟩ = some (.int .u64 c.seq) := ⟨hX5.cells.2.2.1, hX5.cells.2.2.2.1⟩
  have HO5 := Lib.hid ho5
  clear ho5 hX5 hb5
  refine ⟨HC, ?_⟩
  -- 6
  refine WZ.one (i := 6) rfl (by kernel_rfl) ?_
  conv => arg 4; arg 1; whnf
  go_wp2_with (go_at_call 56; refine (cellLittle_any w1.heap.size A5 (1 + c.row.size + 1 + c.col.size + 8) c5 _ c.seq _ HO5.out (by omega) hs5).mono ?_; rintro e w6 ⟨A6, c6, rfl, ho6, hb6⟩)
  have HD6 := Lib.hid (HD5.out.trans hb6)
  have hX6 : CBox w6 w.heap.size c := HX1.out.below HD6.out HX1.out.lt
  have hs6 := HD6.out.size
  have HC : w6.cell? ⟨w.heap.size, 2, none⟩ = some (.int .u64 c.ts) ∧ w6.cell? ⟨w.heap.size, 3, none⟩ = some (.int .u64 c.seq) := ⟨hX6.cells.2.2.1, hX6.cells.2.2.2.1⟩
  have HO6 := Lib.hid ho6
  have HX6 := Lib.hid hX6
  clear ho6 hX6 hb6
  refine ⟨HC, ?_⟩
  apply WZ.take (i := 7) (some 4) rfl rfl (by kernel_rfl) (by kernel_rfl) (by kernel_rfl) (calm_panic _) (by kernel_rfl)
  case hy => (refine .inl ⟨by kernel_rfl, fun W hC => ?_⟩; (try dsimp only at hC); go_simp; rfl)
  case hC => exact HC
  case ha => (simp only [Act.put, List.setIfInBounds_toArray, List.set_cons_zero, List.set_cons_succ]; rfl)
  refine WZ.done (by kernel_rfl) ?_ _
  simp only [Calm, Exit.then]
  clear HC
  obtain ⟨y0, y1, y2, y3, y4, y5⟩ := HX6.out.cells
  have z5 : ∀ o : Obj, (w6.alloc o).cell? ⟨w.heap.size, 5, none⟩ = some (.string c.val) := fun o => (World.cell?_alloc_lt w6 o ⟨w.heap.size, 5, none⟩ HX6.out.lt).trans y5
  clear y0 y1 y2 y3
  obtain ⟨ms6, hms6⟩ : ∃ ms6, [(c.row.size : Int)] ++ intsOf c.row ++ [(c.col.size : Int)] ++ intsOf c.col ++ nbI c.ts 8 ++ nbI c.seq 8 = ms6 := ⟨_, rfl⟩
  rw [hms6] at HO6
  have HMS := Lib.hid hms6
  clear hms6
  cases hdl : c.del with
  | true =>
    rw [hdl] at y4
    obtain ⟨W7, hW7⟩ : ∃ W7, w6.alloc (.cells #[.int .u8 1, .int .u8 c.val.size] 5) = W7 := ⟨_, rfl⟩
    have hW7b : W7.heap[w6.heap.size]? = some (.cells #[.int .u8 1, .int .u8 c.val.size] 5 (0, 0)) := by rw [← hW7]; exact heap_alloc_new w6 _
    have hs7 : W7.heap.size = w6.heap.size + 1 := by rw [← hW7, World.size_alloc]
    have hB7 : Below w6.heap.size w6 W7 := by rw [← hW7]; exact (Below.refl _ _).alloc (Nat.le_refl _) _
    obtain ⟨c8, w8, hcv, hb8, hs8, hr8⟩ := conv_bytes c.val W7
    have z5 := z5 (.cells #[.int .u8 1, .int .u8 c.val.size] 5)
    rw [hW7] at z5
    obtain ⟨lt_, hlt_⟩ : ∃ lt_ : List Int, lt_ = ms6 ++ [1, (c.val.size : Int)] ++ intsOf c.val := ⟨_, rfl⟩
    obtain ⟨W9, hW9⟩ : ∃ W9, w8.alloc (.cells #[.slice A6 (1 + c.row.size + 1 + c.col.size + 8 + 8) c6, .slice (some ⟨w6.heap.size, 0, none⟩) 2 2, .slice (some ⟨W7.heap.size, 0, none⟩) c.val.size c8] 90) = W9 := ⟨_, rfl⟩
    have hW9b : W9.heap[w8.heap.size]? = some (.cells #[.slice A6 (1 + c.row.size + 1 + c.col.size + 8 + 8) c6, .slice (some ⟨w6.heap.size, 0, none⟩) 2 2, .slice (some ⟨W7.heap.size, 0, none⟩) c.val.size c8] 90 (0, 0)) := by rw [← hW9]; exact heap_alloc_new w8 _
    have hB9 : Below w8.heap.size w8 W9 := by rw [← hW9]; exact (Below.refl _ _).alloc (Nat.le_refl _) _
    have hs9 : W9.heap.size = w8.heap.size + 1 := by rw [← hW9, World.size_alloc]
    obtain ⟨l, hl⟩ : ∃ l : List Sl, l = [⟨A6, 1 + c.row.size + 1 + c.col.size + 8 + 8, c6, ms6.map (Value.int .u8)⟩, ⟨some ⟨w6.heap.size, 0, none⟩, 2, 2, [.int .u8 1, .int .u8 c.val.size]⟩, ⟨some ⟨W7.heap.size, 0, none⟩, c.val.size, c8, Lib.strCells c.val⟩] := ⟨_, rfl⟩
    have hA : Rd W9 W9.heap.size (some ⟨w8.heap.size, 0, none⟩) (l.map Sl.val) := Rd.ofBlock hW9b (by rw [hl]; rfl)
    have hB68 : Below w6.heap.size w6 W9 := (hB7.trans (hb8.mono (by omega))).trans (hB9.mono (by omega))
    have hB79 : Below W7.heap.size W7 W9 := hb8.trans (hB9.mono (by omega))
    have htot : total l = encLen c := by rw [hl]; simp only [total, List.map_cons, List.map_nil, List.sum_cons, List.sum_nil, encLen]; omega
    have hsl : SlsIn W9 W9.heap.size 1 l := by
      intro x hx
      rw [hl] at hx
      simp only [List.mem_cons, List.not_mem_nil, or_false] at hx
      rcases hx with rfl | rfl | rfl
      · exact ⟨((Own.rd HO6.out (by omega)).below hB68).more (by omega), by rw [List.length_map, HO6.out.len, Nat.mul_one], bytes_one _⟩
      · exact ⟨(Rd.ofBlock hW7b rfl |>.below hB79).more (by omega), rfl, by simp [Value.oneCell']⟩
      · exact ⟨(hr8.below (hB9.mono (by omega))).more (by omega), by rw [Lib.strCells_length, Nat.mul_one], by rw [strCells_ns]; exact bytes_one _⟩
    have hj : joined l = lt_.map (Value.int .u8) := by
      rw [hl, hlt_, List.map_append, List.map_append, ← strCells_ns]
      simp [joined]
    have hl3 : l.length = 3 := by rw [hl]; rfl
    have hcc := concat_any (some ⟨w8.heap.size, 0, none⟩) 3 l W9 hA hsl (by omega) (by rw [htot]; unfold encLen; omega)
    rw [hl3, htot, hj] at hcc
    have HB := Lib.hid (HB1.out.trans ((HD6.out.trans (hB68.mono (by omega))).mono (by have := HB1.out.size; omega)))
    have HCC := Lib.hid hcc
    have hsz9 : w.heap.size ≤ W9.heap.size := HB.out.size
    have HW := Lib.hid hW9
    have HLT := Lib.hid (show strOf lt_ = cellB c by rw [hlt_, ← HMS.out]; exact cellB_of (by omega) (by omega) (by omega) (by rw [hdl]; rfl))
    clear hlt_ hl hA hsl hj hl3 hcc htot hW7b hW9b hB7 hB9 hB68 hB79 hb8 hr8 hs7 hs8 hs9 HQ HO2 HO4 HO5 HO6 HD2 HD3 HD4 HD5 HD6 HX1 HX2 HX4 HX6 HX
    go_wp2_with (go_at_call 57; refine HCC.out.mono ?_; rintro e w10 ⟨A10, c10, rfl, ho10, hb10⟩; have hstr := run_strB (ns := lt_) ho10 (by unfold encLen; omega); rw [HLT.out] at hstr; have HB10 := Lib.hid (HB.out.trans (hb10.mono hsz9)); clear ho10 hb10)
    go_ret2
    exact ⟨rfl, HB10.out⟩
  | false =>
    rw [hdl] at y4
    obtain ⟨W7, hW7⟩ : ∃ W7, w6.alloc (.cells #[.int .u8 0, .int .u8 c.val.size] 5) = W7 := ⟨_, rfl⟩
    have hW7b : W7.heap[w6.heap.size]? = some (.cells #[.int .u8 0, .int .u8 c.val.size] 5 (0, 0)) := by rw [← hW7]; exact heap_alloc_new w6 _
    have hs7 : W7.heap.size = w6.heap.size + 1 := by rw [← hW7, World.size_alloc]
    have hB7 : Below w6.heap.size w6 W7 := by rw [← hW7]; exact (Below.refl _ _).alloc (Nat.le_refl _) _
    obtain ⟨c8, w8, hcv, hb8, hs8, hr8⟩ := conv_bytes c.val W7
    have z5 := z5 (.cells #[.int .u8 0, .int .u8 c.val.size] 5)
    rw [hW7] at z5
    obtain ⟨lt_, hlt_⟩ : ∃ lt_ : List Int, lt_ = ms6 ++ [0, (c.val.size : Int)] ++ intsOf c.val := ⟨_, rfl⟩
    obtain ⟨W9, hW9⟩ : ∃ W9, w8.alloc (.cells #[.slice A6 (1 + c.row.size + 1 + c.col.size + 8 + 8) c6, .slice (some ⟨w6.heap.size, 0, none⟩) 2 2, .slice (some ⟨W7.heap.size, 0, none⟩) c.val.size c8] 90) = W9 := ⟨_, rfl⟩
    have hW9b : W9.heap[w8.heap.size]? = some (.cells #[.slice A6 (1 + c.row.size + 1 + c.col.size + 8 + 8) c6, .slice (some ⟨w6.heap.size, 0, none⟩) 2 2, .slice (some ⟨W7.heap.size, 0, none⟩) c.val.size c8] 90 (0, 0)) := by rw [← hW9]; exact heap_alloc_new w8 _
    have hB9 : Below w8.heap.size w8 W9 := by rw [← hW9]; exact (Below.refl _ _).alloc (Nat.le_refl _) _
    have hs9 : W9.heap.size = w8.heap.size + 1 := by rw [← hW9, World.size_alloc]
    obtain ⟨l, hl⟩ : ∃ l : List Sl, l = [⟨A6, 1 + c.row.size + 1 + c.col.size + 8 + 8, c6, ms6.map (Value.int .u8)⟩, ⟨some ⟨w6.heap.size, 0, none⟩, 2, 2, [.int .u8 0, .int .u8 c.val.size]⟩, ⟨some ⟨W7.heap.size, 0, none⟩, c.val.size, c8, Lib.strCells c.val⟩] := ⟨_, rfl⟩
    have hA : Rd W9 W9.heap.size (some ⟨w8.heap.size, 0, none⟩) (l.map Sl.val) := Rd.ofBlock hW9b (by rw [hl]; rfl)
    have hB68 : Below w6.heap.size w6 W9 := (hB7.trans (hb8.mono (by omega))).trans (hB9.mono (by omega))
    have hB79 : Below W7.heap.size W7 W9 := hb8.trans (hB9.mono (by omega))
    have htot : total l = encLen c := by rw [hl]; simp only [total, List.map_cons, List.map_nil, List.sum_cons, List.sum_nil, encLen]; omega
    have hsl : SlsIn W9 W9.heap.size 1 l := by
      intro x hx
      rw [hl] at hx
      simp only [List.mem_cons, List.not_mem_nil, or_false] at hx
      rcases hx with rfl | rfl | rfl
      · exact ⟨((Own.rd HO6.out (by omega)).below hB68).more (by omega), by rw [List.length_map, HO6.out.len, Nat.mul_one], bytes_one _⟩
      · exact ⟨(Rd.ofBlock hW7b rfl |>.below hB79).more (by omega), rfl, by simp [Value.oneCell']⟩
      · exact ⟨(hr8.below (hB9.mono (by omega))).more (by omega), by rw [Lib.strCells_length, Nat.mul_one], by rw [strCells_ns]; exact bytes_one _⟩
    have hj : joined l = lt_.map (Value.int .u8) := by
      rw [hl, hlt_, List.map_append, List.map_append, ← strCells_ns]
      simp [joined]
    have hl3 : l.length = 3 := by rw [hl]; rfl
    have hcc := concat_any (some ⟨w8.heap.size, 0, none⟩) 3 l W9 hA hsl (by omega) (by rw [htot]; unfold encLen; omega)
    rw [hl3, htot, hj] at hcc
    have HB := Lib.hid (HB1.out.trans ((HD6.out.trans (hB68.mono (by omega))).mono (by have := HB1.out.size; omega)))
    have HCC := Lib.hid hcc
    have hsz9 : w.heap.size ≤ W9.heap.size := HB.out.size
    have HW := Lib.hid hW9
    have HLT := Lib.hid (show strOf lt_ = cellB c by rw [hlt_, ← HMS.out]; exact cellB_of (by omega) (by omega) (by omega) (by rw [hdl]; rfl))
    clear hlt_ hl hA hsl hj hl3 hcc htot hW7b hW9b hB7 hB9 hB68 hB79 hb8 hr8 hs7 hs8 hs9 HQ HO2 HO4 HO5 HO6 HD2 HD3 HD4 HD5 HD6 HX1 HX2 HX4 HX6 HX
    go_wp2_with (go_at_call 57; refine HCC.out.mono ?_; rintro e w10 ⟨A10, c10, rfl, ho10, hb10⟩; have hstr := run_strB (ns := lt_) ho10 (by unfold encLen; omega); rw [HLT.out] at hstr; have HB10 := Lib.hid (HB.out.trans (hb10.mono hsz9)); clear ho10 hb10)
    go_ret2
    exact ⟨rfl, HB10.out⟩
theorem cellEncode_bad (c : Cl) (w : World) (hm : may c = false) :
    Calls Try.prog 33 #[c.agg] w fun e w' => e = .returned (.tuple #[.string ⟨#[]⟩, .int .i64 1]) ∧ Below w.heap.size w w' := by
  have hX := CBox.new w c
  have hb := (Below.refl w.heap.size w).alloc (Nat.le_refl _) (.cells #[.string c.row, .string c.col, .int .u64 c.ts, .int .u64 c.seq, .bool c.del, .string c.val] 75)
  have HB := Lib.hid hb
  clear hX hb
  unfold Cl.agg
  go_enter Try.func33, Try.ntmps33
  go_wp2_with (go_at_call 55; refine (cellMay_any c _).mono ?_; rintro e w1 ⟨rfl, hb1⟩; simp only [hm])
  go_ret2
  exact ⟨rfl, HB.out.trans (hb1.mono (by simp))⟩
end Go.Proofs.Ytiiogdgnccgehaa
namespace Go.Proofs.Ytiiogdgnccgehaa

structure Cmd where
  kind : Int
  client : Nat
  num : Nat
  cells : List Cl
  row : ByteArray
  job : Nat
  sum : Nat
  epoch : Nat
  files : List Nat
/-- the texts, one behind the other -/
def cat (l : List ByteArray) : ByteArray := ofL (l.flatMap fun s => s.data.toList)
theorem ofL_app (l m : List UInt8) : ofL (l ++ m) = ofL l ++ ofL m := by
  apply ByteArray.ext
  simp [ofL]
theorem ofL_data (s : ByteArray) : ofL s.data.toList = s := rfl
theorem cat_append (l m : List ByteArray) : cat (l ++ m) = cat l ++ cat m := by unfold cat; rw [List.flatMap_append, ofL_app]
theorem cat_one (s : ByteArray) : cat [s] = s := by unfold cat; simp [ofL_data]
theorem cat_nil : cat [] = ⟨#[]⟩ := rfl
theorem cat_cons (s : ByteArray) (l : List ByteArray) : cat (s :: l) = s ++ cat l := by
  rw [show s :: l = [s] ++ l from rfl, cat_append, cat_one]
theorem app_nil (s : ByteArray) : s ++ (⟨#[]⟩ : ByteArray) = s := by
  apply ByteArray.ext
  simp
theorem nil_app (s : ByteArray) : (⟨#[]⟩ : ByteArray) ++ s = s := by
  apply ByteArray.ext
  simp
theorem cat_size (l : List ByteArray) (n : Nat) (h : ∀ s ∈ l, s.size ≤ n) : (cat l).size ≤ l.length * n := by
  induction l with
  | nil => simp [cat_nil, ByteArray.size]
  | cons x l ih =>
    rw [cat_cons, ByteArray.size_append', List.length_cons, Nat.succ_mul]
    have h1 := h x (by simp)
    have h2 := ih fun s hs => h s (by simp [hs])
    omega
def batchP (client num : Nat) (cells : List Cl) : List ByteArray := [nb 1 1, nb client 8, nb num 8, nb cells.length 1] ++ cells.map cellB
def splitP (row : ByteArray) : List ByteArray := [nb 2 1, nb row.size 1, row]
def ingestP (job sum epoch : Nat) (files : List Nat) : List ByteArray := [nb 3 1, nb job 8, nb sum 4, nb epoch 8, nb files.length 1] ++ files.map fun n => nb n 4
/-- a command's parts -/
def partsC (c : Cmd) : List ByteArray := if c.kind = 1 then batchP c.client c.num c.cells else if c.kind = 2 then splitP c.row else ingestP c.job c.sum c.epoch c.files
def encB (c : Cmd) : ByteArray := cat (partsC c)
/-- nothing but what its kind has -/
def noBatch (c : Cmd) : Bool := decide (c.client = 0 ∧ c.num = 0 ∧ c.cells = [])
def noSplit (c : Cmd) : Bool := decide (c.row.size = 0)
def noIngest (c : Cmd) : Bool := decide (c.job = 0 ∧ c.sum = 0 ∧ c.epoch = 0 ∧ c.files = [])
def plainC (c : Cmd) : Bool := (decide (c.kind = 1) && noSplit c && noIngest c) || (decide (c.kind = 2) && noBatch c && noIngest c) || (decide (c.kind = 3) && noBatch c && noSplit c)
def wideC (c : Cmd) : Bool := decide (100 < c.cells.length) || decide (255 < c.files.length) || decide (255 < c.row.size)
def mayC (c : Cmd) : Bool := c.cells.all may
def encC (c : Cmd) : ByteArray × Int := if plainC c then if wideC c then (⟨#[]⟩, 71) else if mayC c then (encB c, 0) else (⟨#[]⟩, 1) else (⟨#[]⟩, 1)
theorem cellB_size {c : Cl} (h : may c = true) : (cellB c).size ≤ 200 := by
  simp only [may, Bool.and_eq_true, decide_eq_true_eq] at h
  unfold cellB flagB
  simp only [ByteArray.size_append', nb_size, sh_size]
  omega
end Go.Proofs.Ytiiogdgnccgehaa
