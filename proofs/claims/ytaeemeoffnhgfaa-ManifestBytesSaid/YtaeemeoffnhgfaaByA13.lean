/-
  An edit turned into the reference's; numbers, texts and whole edits as bytes; regions as tables. No conditions.
-/
import Derived.Test.YtaeemeoffnhgfaaFilesL
import Derived.Test.YtaeemeoffnhgfaaSmall13
import Derived.Lib.AppendStr
import Derived.Lib.AppendZeros
import Derived.Laws.BytesString
import Derived.Shelf.Strings.Builder1
import Derived.Shelf.Strings.Builder2
import Derived.Shelf.Strings.OnBuilder
import Derived.Test.YtaeemeoffnhgfaaProg
namespace Go.Proofs.Ytaeemeoffnhgfaa
open Go.RowKit
attribute [local go_sem ↓] Go.wp_at_zero Go.wp_at_succ

theorem OwnR.apart_from {w w' : World} {B n c M : Nat} {A : Option Addr} {l : List Fi} (h : OwnR w B A n c l) (hg : w.grownBy w' (some M)) (hM : M < B) : OwnR w' B A n c l := Own.grown h hg (.inr fun e => by have := (Own.lt h M e).1; omega)
/-- an edit of the reference's in a variable -/
def EBoxR (w : World) (g : Nat) (A : Option Addr) (n c : Nat) (A' : Option Addr) (n' c' : Nat) (nx fl : Int) : Prop := w.heap[g]? = some (.cells #[.slice A n c, .slice A' n' c', .int .u64 nx, .int .u64 fl] 49 (0, 0))
theorem EBoxR.there {w : World} {g n c n' c' : Nat} {A A' : Option Addr} {nx fl : Int} (h : EBoxR w g A n c A' n' c' nx fl) : w.there g 0 4 := fun j hj => by
  refine ⟨?_, frozen_of_row _ _ _ _ _ h⟩
  rw [Nat.zero_add, cell_of_row _ _ _ _ _ (0, 0) h, Array.getElem?_eq_getElem (by simpa using hj)]
  rfl
theorem EBoxR.setW {w : World} {g n0 c0 n1 c1 : Nat} {A0 A1 : Option Addr} {x0 y0 : Int} (h : EBoxR w g A0 n0 c0 A1 n1 c1 x0 y0) (A : Option Addr) (n c : Nat) (A' : Option Addr) (n' c' : Nat) (nx fl : Int) {M : World → Prop}
    (hM : ∀ w', Hid (EBoxR w' g A n c A' n' c' nx fl) → Hid (w.grownBy w' (some g)) → M w') : M (w.setCells g 0 (edC A n c A' n' c' nx fl).toList) := by
  have hg := (setCells_block _ _ (edC A n c A' n' c' nx fl).toList 0 w _ h).2
  have h1 := heap_setCell_same w _ 0 _ _ (.slice A n c) h
  have h2 := heap_setCell_same _ _ 1 _ _ (.slice A' n' c') h1
  have h3 := heap_setCell_same _ _ 2 _ _ (.int .u64 nx) h2
  have h4 := heap_setCell_same _ _ 3 _ _ (.int .u64 fl) h3
  exact hM _ (Lib.hid h4) (Lib.hid hg)
theorem edC_one (A : Option Addr) (n c : Nat) (A' : Option Addr) (n' c' : Nat) (nx fl : Int) : (edC A n c A' n' c' nx fl).all (·.oneCell') = true := by simp [edC, Value.oneCell']
theorem made_edit (w : World) (A : Option Addr) (n c : Nat) (A' : Option Addr) (n' c' : Nat) (nx fl : Int) :
    (((w.alloc (.cells #[.slice A n c, .slice A' n' c', .int .u64 nx, .int .u64 fl] 36)).alloc (.cells #[.slice none 0 0, .slice none 0 0, .int .u64 0, .int .u64 0] 49)).cell? ⟨w.heap.size, 0, none⟩ = some (.slice A n c) ∧ ((w.alloc (.cells #[.slice A n c, .slice A' n' c', .int .u64 nx, .int .u64 fl] 36)).alloc (.cells #[.slice none 0 0, .slice none 0 0, .int .u64 0, .int .u64 0] 49)).cell? ⟨w.heap.size, 1, none⟩ = some (.slice A' n' c') ∧ ((w.alloc (.cells #[.slice A n c, .slice A' n' c', .int .u64 nx, .int .u64 fl] 36)).alloc (.cells #[.slice none 0 0, .slice none 0 0, .int .u64 0, .int .u64 0] 49)).cell? ⟨w.heap.size, 2, none⟩ = some (.int .u64 nx) ∧ ((w.alloc (.cells #[.slice A n c, .slice A' n' c', .int .u64 nx, .int .u64 fl] 36)).alloc (.cells #[.slice none 0 0, .slice none 0 0, .int .u64 0, .int .u64 0] 49)).cell? ⟨w.heap.size, 3, none⟩ = some (.int .u64 fl)) ∧
    EBoxR ((w.alloc (.cells #[.slice A n c, .slice A' n' c', .int .u64 nx, .int .u64 fl] 36)).alloc (.cells #[.slice none 0 0, .slice none 0 0, .int .u64 0, .int .u64 0] 49)) (w.heap.size + 1) none 0 0 none 0 0 0 0 ∧ Below w.heap.size w ((w.alloc (.cells #[.slice A n c, .slice A' n' c', .int .u64 nx, .int .u64 fl] 36)).alloc (.cells #[.slice none 0 0, .slice none 0 0, .int .u64 0, .int .u64 0] 49)) ∧ ((w.alloc (.cells #[.slice A n c, .slice A' n' c', .int .u64 nx, .int .u64 fl] 36)).alloc (.cells #[.slice none 0 0, .slice none 0 0, .int .u64 0, .int .u64 0] 49)).heap.size = w.heap.size + 2 := by
  have hb0 := below_al w (.cells #[.slice A n c, .slice A' n' c', .int .u64 nx, .int .u64 fl] 36)
  have hb1 := below_al (w.alloc (.cells #[.slice A n c, .slice A' n' c', .int .u64 nx, .int .u64 fl] 36)) (.cells #[.slice none 0 0, .slice none 0 0, .int .u64 0, .int .u64 0] 49)
  have h0 : ((w.alloc (.cells #[.slice A n c, .slice A' n' c', .int .u64 nx, .int .u64 fl] 36)).alloc (.cells #[.slice none 0 0, .slice none 0 0, .int .u64 0, .int .u64 0] 49)).heap[w.heap.size]? = some (.cells #[.slice A n c, .slice A' n' c', .int .u64 nx, .int .u64 fl] 36 (0, 0)) := (hb1.block w.heap.size (by rw [World.size_alloc]; omega)).trans (heap_alloc_new w _)
  have f := fun j => cell_of_row _ w.heap.size j _ _ (0, 0) h0
  refine ⟨⟨f 0, f 1, f 2, f 3⟩, ?_, hb0.trans (hb1.mono hb0.size), by simp only [World.size_alloc]⟩
  have := heap_alloc_new (w.alloc (.cells #[.slice A n c, .slice A' n' c', .int .u64 nx, .int .u64 fl] 36)) (.cells #[.slice none 0 0, .slice none 0 0, .int .u64 0, .int .u64 0] 49)
  rw [World.size_alloc] at this
  exact this
set_option maxRecDepth 10000 in
set_option maxHeartbeats 4000000 in
theorem edit_any (A A' : Option Addr) (c n c' n' : Nat) (l : List Fi) (nx fl : Int) (w : World) (hl : Rd w w.heap.size A (fis l)) (hN : l.length = n) (hlen : n ≤ 100000) :
    Calls Try.prog 17 #[.agg #[.slice A n c, .slice A' n' c', .int .u64 nx, .int .u64 fl]] w fun e w' => ∃ (B : Option Addr) (d : Nat), e = .returned (.agg #[.slice B n d, .slice A' n' c', .int .u64 nx, .int .u64 fl]) ∧ OwnR w' w.heap.size B n d l ∧ Below w.heap.size w w' := by
  obtain ⟨hcs, hbx, hb2, hz2⟩ := made_edit w A n c A' n' c' nx fl
  obtain ⟨w2, hw2⟩ : ∃ w2, ((w.alloc (.cells #[.slice A n c, .slice A' n' c', .int .u64 nx, .int .u64 fl] 36)).alloc (.cells #[.slice none 0 0, .slice none 0 0, .int .u64 0, .int .u64 0] 49)) = w2 := ⟨_, rfl⟩
  rw [hw2] at hcs hbx hb2 hz2
  have HW2 := Lib.hid hw2
  have HCS := Lib.hid hcs
  have HBX := Lib.hid hbx
  have HB2 := Lib.hid hb2
  have HZ2 := Lib.hid hz2
  have HF := Lib.hid (fun W (hb : Below w2.heap.size w2 W) => filesL_any A c n l W ((hl.below (hb2.trans (hb.mono hb2.size))).more (Nat.le_trans hb2.size hb.size)) hN hlen)
  clear hcs hbx hb2 hz2 hw2 hl
  go_enter Try.func17, Try.ntmps17
  go_wp2
  rw [HW2.out]
  obtain ⟨CC, hCD⟩ : ∃ CC : World → Prop, ∀ W, CC W ↔ Below w2.heap.size w2 W := ⟨fun W => Below w2.heap.size w2 W, fun W => Iff.rfl⟩
  have hmk : ∀ W, Below w2.heap.size w2 W → W.cell? ⟨w.heap.size, 0, none⟩ = some (.slice A n c) ∧ W.cell? ⟨w.heap.size, 1, none⟩ = some (.slice A' n' c') ∧ W.cell? ⟨w.heap.size, 2, none⟩ = some (.int .u64 nx) ∧ W.cell? ⟨w.heap.size, 3, none⟩ = some (.int .u64 fl) ∧ CC W := fun W hb => by
    have hk := fun j => hb.cell (p := ⟨w.heap.size, j, none⟩) (by show w.heap.size < w2.heap.size; rw [HZ2.out]; omega)
    exact ⟨(hk 0).trans HCS.out.1, (hk 1).trans HCS.out.2.1, (hk 2).trans HCS.out.2.2.1, (hk 3).trans HCS.out.2.2.2, (hCD W).2 hb⟩
  have HB := Lib.hid ((Below.refl w2.heap.size w2).drew)
  have HC := hmk _ HB.out
  refine region_wz (fun W => W.cell? ⟨w.heap.size, 0, none⟩ = some (.slice A n c) ∧ W.cell? ⟨w.heap.size, 1, none⟩ = some (.slice A' n' c') ∧ W.cell? ⟨w.heap.size, 2, none⟩ = some (.int .u64 nx) ∧ W.cell? ⟨w.heap.size, 3, none⟩ = some (.int .u64 fl) ∧ CC W) (some 10) (by kernel_rfl) ?_
  apply WZ.take (i := 0) (some 3) rfl rfl (by kernel_rfl) (by kernel_rfl) (by kernel_rfl) (calm_panic _) (by kernel_rfl)
  case hy => (refine .inl ⟨by kernel_rfl, fun W hC => ?_⟩; (try dsimp only at hC); go_simp; rfl)
  case hC => exact HC
  case ha => (simp only [Act.put, List.setIfInBounds_toArray, List.set_cons_zero, List.set_cons_succ]; rfl)
  apply WZ.take (i := 1) (some 4) rfl rfl (by kernel_rfl) (by kernel_rfl) (by kernel_rfl) (calm_panic _) (by kernel_rfl)
  case hy => (refine .inl ⟨by kernel_rfl, fun W hC => ?_⟩; (try dsimp only at hC); go_simp; rfl)
  case hC => exact HC
  case ha => (simp only [Act.put, List.setIfInBounds_toArray, List.set_cons_zero, List.set_cons_succ]; rfl)
  apply WZ.take (i := 3) (some 6) rfl rfl (by kernel_rfl) (by kernel_rfl) (by kernel_rfl) (calm_panic _) (by kernel_rfl)
  case hy => (refine .inl ⟨by kernel_rfl, fun W hC => ?_⟩; (try dsimp only at hC); go_simp; rfl)
  case hC => exact HC
  case ha => (simp only [Act.put, List.setIfInBounds_toArray, List.set_cons_zero, List.set_cons_succ]; rfl)
  apply WZ.take (i := 4) (some 7) rfl rfl (by kernel_rfl) (by kernel_rfl) (by kernel_rfl) (calm_panic _) (by kernel_rfl)
  case hy => (refine .inl ⟨by kernel_rfl, fun W hC => ?_⟩; (try dsimp only at hC); go_simp; rfl)
  case hC => exact HC
  case ha => (simp only [Act.put, List.setIfInBounds_toArray, List.set_cons_zero, List.set_cons_succ]; rfl)
  apply WZ.take (i := 5) (some 8) rfl rfl (by kernel_rfl) (by kernel_rfl) (by kernel_rfl) (calm_panic _) (by kernel_rfl)
  case hy => (refine .inl ⟨by kernel_rfl, fun W hC => ?_⟩; (try dsimp only at hC); go_simp; rfl)
  case hC => exact HC
  case ha => (simp only [Act.put, List.setIfInBounds_toArray, List.set_cons_zero, List.set_cons_succ]; rfl)
  apply WZ.take (i := 6) (some 9) rfl rfl (by kernel_rfl) (by kernel_rfl) (by kernel_rfl) (calm_panic _) (by kernel_rfl)
  case hy => (refine .inl ⟨by kernel_rfl, fun W hC => ?_⟩; (try dsimp only at hC); go_simp; rfl)
  case hC => exact HC
  case ha => (simp only [Act.put, List.setIfInBounds_toArray, List.set_cons_zero, List.set_cons_succ]; rfl)
  apply WZ.take (i := 7) (some 10) rfl rfl (by kernel_rfl) (by kernel_rfl) (by kernel_rfl) (calm_panic _) (by kernel_rfl)
  case hy => (refine .inl ⟨by kernel_rfl, fun W hC => ?_⟩; (try dsimp only at hC); go_simp; rfl)
  case hC => exact HC
  case ha => (simp only [Act.put, List.setIfInBounds_toArray, List.set_cons_zero, List.set_cons_succ]; rfl)
  apply WZ.take (i := 8) (some 11) rfl rfl (by kernel_rfl) (by kernel_rfl) (by kernel_rfl) (calm_panic _) (by kernel_rfl)
  case hy => (refine .inl ⟨by kernel_rfl, fun W hC => ?_⟩; (try dsimp only at hC); go_simp; rfl)
  case hC => exact HC
  case ha => (simp only [Act.put, List.setIfInBounds_toArray, List.set_cons_zero, List.set_cons_succ]; rfl)
  -- 2
  refine WZ.one (i := 2) rfl (by kernel_rfl) ?_
  conv => arg 4; arg 1; whnf
  go_wp2_with (go_at_call 14; refine (HF.out _ HB.out).mono ?_; rintro e w6 ⟨B, d, rfl, ho6, hb6⟩; have HO6 := Lib.hid (Own.lower ho6 HB.out.size : OwnR w6 w2.heap.size B n d l))
  have HB6 := Lib.hid (HB.out.trans (hb6.mono HB.out.size))
  clear HB HC ho6 hb6
  have HC := hmk _ HB6.out
  refine ⟨HC, ?_⟩
  apply WZ.take (i := 9) (some 12) rfl rfl (by kernel_rfl) (by kernel_rfl) (by kernel_rfl) (calm_panic _) (by kernel_rfl)
  case hy => (refine .inl ⟨by kernel_rfl, fun W hC => ?_⟩; (try dsimp only at hC); go_simp; rfl)
  case hC => exact HC
  case ha => (simp only [Act.put, List.setIfInBounds_toArray, List.set_cons_zero, List.set_cons_succ]; rfl)
  -- 10
  refine WZ.last (i := 10) rfl (by kernel_rfl) (by kernel_rfl) ?_
  conv => arg 4; arg 1; whnf
  have hbx := (HB6.out.block (w.heap.size + 1) (by rw [HZ2.out]; omega)).trans HBX.out
  have HBY := Lib.hid (show EBoxR w6 (w.heap.size + 1) none 0 0 none 0 0 0 0 from hbx)
  clear hbx HC hmk hCD
  go_wp2_with (refine wpList_store_mid rfl 49 (.tmp 2) (.tmp 12) rfl (w.heap.size + 1) 0 (edC B n d A' n' c' nx fl) rfl rfl HBY.out.there (by kernel_rfl) (edC_one _ _ _ _ _ _ _ _) ?_; refine HBY.out.setW B n d A' n' c' nx fl ?_; intro w9 HE9 HG9)
  refine WZ.done (by kernel_rfl) ?_ _
  simp only [Calm, Exit.then]
  (try go_wp2)
  refine bodyPost_ret (results_cell_row rfl _ _ (w.heap.size + 1) _ _ _ _ rfl HE9.out Try.underlying49 rfl (by kernel_rfl)) rfl ?_
  refine ⟨B, d, rfl, Own.lower (OwnR.apart_from HO6.out HG9.out (by rw [HZ2.out]; omega)) HB2.out.size, ?_⟩
  exact below_grown (HB2.out.trans (HB6.out.mono HB2.out.size)) (Nat.le_trans HB2.out.size HB6.out.size) HG9.out (Nat.le_succ _)
theorem OwnR.rd {w : World} {B n c : Nat} {A : Option Addr} {l : List Fi} (h : OwnR w B A n c l) : Rd w w.heap.size A (fis l) := Own.rd h (by omega)
theorem edit_rd {w5 : World} {A D : Option Addr} {c NA cd nd : Nat} {l : List Fi} {nx fl : Int} (hl : Rd w5 w5.heap.size A (fis l)) (hN : l.length = NA) (hlen : NA ≤ 100000) (W : World) (hb : Below w5.heap.size w5 W) :
    Calls Try.prog 17 #[.agg #[.slice A NA c, .slice D nd cd, .int .u64 nx, .int .u64 fl]] W fun e w' => ∃ (B : Option Addr) (d : Nat), e = .returned (.agg #[.slice B NA d, .slice D nd cd, .int .u64 nx, .int .u64 fl]) ∧ Rd w' w'.heap.size B (fis l) ∧ Below W.heap.size W w' := by
  refine (edit_any A D c NA cd nd l nx fl W ((hl.below hb).more hb.size) hN hlen).mono ?_
  rintro e w' ⟨B, d, rfl, ho, hb'⟩
  exact ⟨B, d, rfl, OwnR.rd ho, hb'⟩
end Go.Proofs.Ytaeemeoffnhgfaa
namespace Go.Proofs.Ytaeemeoffnhgfaa
open Go.RowKit
attribute [local go_sem ↓] Go.wp_at_zero Go.wp_at_succ

theorem byteInfo : (Try.prog.info? 5).map (fun i => (i.zero, i.size, i.bytes)) = some (some (.int .u8 0), 1, 1) := by kernel_rfl
/-- the bytes of a list -/
def ofL (l : List UInt8) : ByteArray := ⟨l.toArray⟩
def byteI (z : Int) : UInt8 := UInt8.ofNat z.toNat
/-- the k lowest bytes of a number, the lowest first -/
def nbI (N k : Nat) : List Int := (List.range k).map fun i => (N : Int) / 2 ^ (8 * i) % 256
def nb (N k : Nat) : ByteArray := ofL ((nbI N k).map byteI)
def sh (s : ByteArray) : ByteArray := nb s.size 1 ++ s
theorem ofL_size (l : List UInt8) : (ofL l).size = l.length := by unfold ofL; simp [ByteArray.size]
theorem nb_size (N k : Nat) : (nb N k).size = k := by unfold nb nbI; rw [ofL_size]; simp
theorem sh_size (s : ByteArray) : (sh s).size = 1 + s.size := by unfold sh; rw [ByteArray.size_append', nb_size]

/-- block g is a row of bytes -/
def Bys (w : World) (g : Nat) (ns : List Int) : Prop := w.heap[g]? = some (.cells (ns.map (Value.int .u8)).toArray 5 (0, 0))
theorem Bys.set {w : World} {g i : Nat} {ns : List Int} (h : Bys w g ns) (z : Int) : Bys (w.setCell ⟨g, i, none⟩ (.int .u8 z)) g (ns.set i z) := by
  unfold Bys at *
  rw [heap_setCell_same w g i _ _ _ h]
  congr 2
  apply Array.ext'
  simp [List.map_set]
theorem Bys.at_ {w : World} {g i : Nat} {ns : List Int} (h : Bys w g ns) (hi : i < ns.length) : w.cell? ⟨g, i, none⟩ = some (.int .u8 ns[i]) := by
  rw [cell_of_row w g i _ _ (0, 0) h]
  simp [hi]
theorem foldl_push_ofL : ∀ (ns : List Int) (b : ByteArray), ns.foldl (fun r n => r.push (UInt8.ofNat n.toNat)) b = b ++ ofL (ns.map byteI)
  | [], b => by
    apply ByteArray.ext
    simp [ofL]
  | n :: ns, b => by
    rw [List.foldl_cons, foldl_push_ofL ns]
    apply ByteArray.ext
    simp [ofL, byteI]
theorem run_strX {w : World} {g c : Nat} {ns : List Int} (h : Bys w g ns) : ∀ n, ns.length = n → (convert 89 9 (.slice (some ⟨g, 0, none⟩) n c)).run Try.prog w = .ok (.string (ofL (ns.map byteI))) w := by
  rintro n rfl
  have e : ofL (ns.map byteI) = ns.foldl (fun r n => r.push (UInt8.ofNat n.toNat)) ByteArray.empty := by
    rw [foldl_push_ofL]
    apply ByteArray.ext
    simp
  rw [e, run_convert_bytes_string w 89 9 5 _ _ _ Try.underlying89 Try.underlying5 Try.underlying9]
  refine run_bytesToString w _ ns.length c ns ?_
  have := run_loadCells_list (P := Try.prog) (w := w) (⟨g, 0, none⟩ : Addr) (ns.map (Value.int .u8)) (fun j v hv => by
    have hj := (List.getElem?_eq_some_iff.1 hv).1
    rw [List.length_map] at hj
    rw [add_at, Nat.zero_add, h.at_ hj, ← hv]
    simp [hj])
  rwa [List.length_map] at this
/-- the first k numbers are the bytes -/
def nbTo (N : Nat) (ns : List Int) (k : Nat) : Prop := ns.take k = (nbI N ns.length).take k
theorem nbTo.zero (N : Nat) (ns : List Int) : nbTo N ns 0 := by simp [nbTo]
theorem nbTo.succ {N k : Nat} {ns : List Int} (h : nbTo N ns k) (hk : k < ns.length) : nbTo N (ns.set k ((N : Int) / 2 ^ (8 * k) % 256)) (k + 1) := by
  unfold nbTo at *
  rw [List.length_set, List.take_succ_eq_append_getElem (by rw [List.length_set]; exact hk), List.take_succ_eq_append_getElem (by simp [nbI]; exact hk), List.take_set_of_le (Nat.le_refl k), h]
  congr 2
  simp [nbI]
theorem nbTo.all {N k : Nat} {ns : List Int} (h : nbTo N ns k) (hk : ns.length ≤ k) : ns = nbI N ns.length := by
  unfold nbTo at h
  rwa [List.take_of_length_le hk, List.take_of_length_le (by simp [nbI]; exact hk)] at h
theorem nb_end {N k K : Nat} {ns : List Int} (h : nbTo N ns k) (hl : ns.length = K) (hk : K ≤ k) : ofL (ns.map byteI) = nb N K := by
  have := h.all (by omega)
  rw [hl] at this
  rw [this]
  rfl

set_option maxHeartbeats 2000000 in
theorem number1 (N : Nat) (w : World) : Calls Try.prog 48 #[.int .u64 N, .int .i64 1] w fun e w' => e = .returned (.string (nb N 1)) ∧ Below w.heap.size w w' := by
  obtain ⟨i0, hi0, hz0, hz1, hz2⟩ := info_parts byteInfo
  have hmk := run_make (P := Try.prog) w 89 5 i0 (.int .u8 0) Try.underlying89 hi0 hz0 .i64 .i64 1 1 (by omega) (by omega) (by rw [hz2]; omega) (by omega)
  rw [hz1] at hmk
  have em : madeCells (Value.cells (.int .u8 0)) (Int.toNat 1 * 1) = ((List.replicate 1 (0 : Int)).map (Value.int .u8)).toArray := by kernel_rfl
  rw [em] at hmk
  obtain ⟨W1, hW1⟩ : ∃ W1, w.alloc (.cells ((List.replicate 1 (0 : Int)).map (Value.int .u8)).toArray 5) = W1 := ⟨_, rfl⟩
  have h0 : Bys W1 w.heap.size (List.replicate 1 0) := by rw [← hW1]; exact heap_alloc_new w _
  have hb0 : Below w.heap.size w W1 := by rw [← hW1]; exact (Below.refl _ w).alloc (Nat.le_refl _) _
  rw [hW1] at hmk
  have hmk : (Instr.makeSlice 89 (.int .i64 1) (.int .i64 1)).run Try.prog w = .ok (.slice (some ⟨w.heap.size, 0, none⟩) 1 1) W1 := hmk
  have H0 := Lib.hid (And.intro h0 hb0)
  clear h0 hb0 hW1 em
  go_enter Try.func48, Try.ntmps48
  go_wp2
  go_loopw [11] (fun i wr => ∃ (k : Nat) (ns : List Int), i = .int .i64 k ∧ k ≤ 1 ∧ Hid (Bys wr w.heap.size ns ∧ ns.length = 1 ∧ nbTo N ns k ∧ Below w.heap.size w wr)) (fun i _ => 1 - (intOf i).toNat)
  case atStart => exact ⟨0, _, rfl, by omega, Lib.hid ⟨H0.out.1, by simp, nbTo.zero _ _, H0.out.2⟩⟩
  case round =>
    obtain ⟨k, ns, rfl, hk, HS⟩ := hrel
    by_cases hlt : k < 1
    · have hd : decide ((k : Int) < 1) = true := decide_eq_true (by omega)
      have hw1 : IntKind.i64.wrap ((k : Int) + 1) = ((k + 1 : Nat) : Int) := by rw [IntWalk.i64_in _ (by omega)]; omega
      have hw8 : IntKind.i64.wrap (8 * (k : Int)) = 8 * (k : Int) := by rw [IntWalk.i64_in _ (by omega)]
      have i1 : (0 : Int) ≤ (k : Int) := by omega
      have i2 : (k : Int) < 1 := by omega
      have hc := HS.out.1.at_ (i := k) (by have := HS.out.2.1; omega)
      have hf := frozen_of_row wr w.heap.size k _ _ HS.out.1
      go_wp2
      exact ⟨⟨k + 1, ns.set k ((N : Int) / 2 ^ (8 * k) % 256), by first | rfl | go_num, by omega, Lib.hid ⟨HS.out.1.set _, by rw [List.length_set]; exact HS.out.2.1, HS.out.2.2.1.succ (by have := HS.out.2.1; omega), HS.out.2.2.2.setCell (Nat.le_refl _) _⟩⟩, by simp [intOf]; omega⟩
    · have hd : decide ((k : Int) < 1) = false := decide_eq_false (by omega)
      have HST := Lib.hid (run_strX (c := 1) HS.out.1 1 HS.out.2.1)
      have hst := HST.out
      have HE := Lib.hid (nb_end HS.out.2.2.1 HS.out.2.1 (by omega))
      rw [HE.out] at hst
      go_wp2
      go_ret
      exact ⟨rfl, HS.out.2.2.2⟩
set_option maxHeartbeats 2000000 in
theorem number2 (N : Nat) (w : World) : Calls Try.prog 48 #[.int .u64 N, .int .i64 2] w fun e w' => e = .returned (.string (nb N 2)) ∧ Below w.heap.size w w' := by
  obtain ⟨i0, hi0, hz0, hz1, hz2⟩ := info_parts byteInfo
  have hmk := run_make (P := Try.prog) w 89 5 i0 (.int .u8 0) Try.underlying89 hi0 hz0 .i64 .i64 2 2 (by omega) (by omega) (by rw [hz2]; omega) (by omega)
  rw [hz1] at hmk
  have em : madeCells (Value.cells (.int .u8 0)) (Int.toNat 2 * 1) = ((List.replicate 2 (0 : Int)).map (Value.int .u8)).toArray := by kernel_rfl
  rw [em] at hmk
  obtain ⟨W1, hW1⟩ : ∃ W1, w.alloc (.cells ((List.replicate 2 (0 : Int)).map (Value.int .u8)).toArray 5) = W1 := ⟨_, rfl⟩
  have h0 : Bys W1 w.heap.size (List.replicate 2 0) := by rw [← hW1]; exact heap_alloc_new w _
  have hb0 : Below w.heap.size w W1 := by rw [← hW1]; exact (Below.refl _ w).alloc (Nat.le_refl _) _
  rw [hW1] at hmk
  have hmk : (Instr.makeSlice 89 (.int .i64 2) (.int .i64 2)).run Try.prog w = .ok (.slice (some ⟨w.heap.size, 0, none⟩) 2 2) W1 := hmk
  have H0 := Lib.hid (And.intro h0 hb0)
  clear h0 hb0 hW1 em
  go_enter Try.func48, Try.ntmps48
  go_wp2
  go_loopw [11] (fun i wr => ∃ (k : Nat) (ns : List Int), i = .int .i64 k ∧ k ≤ 2 ∧ Hid (Bys wr w.heap.size ns ∧ ns.length = 2 ∧ nbTo N ns k ∧ Below w.heap.size w wr)) (fun i _ => 2 - (intOf i).toNat)
  case atStart => exact ⟨0, _, rfl, by omega, Lib.hid ⟨H0.out.1, by simp, nbTo.zero _ _, H0.out.2⟩⟩
  case round =>
    obtain ⟨k, ns, rfl, hk, HS⟩ := hrel
    by_cases hlt : k < 2
    · have hd : decide ((k : Int) < 2) = true := decide_eq_true (by omega)
      have hw1 : IntKind.i64.wrap ((k : Int) + 1) = ((k + 1 : Nat) : Int) := by rw [IntWalk.i64_in _ (by omega)]; omega
      have hw8 : IntKind.i64.wrap (8 * (k : Int)) = 8 * (k : Int) := by rw [IntWalk.i64_in _ (by omega)]
      have i1 : (0 : Int) ≤ (k : Int) := by omega
      have i2 : (k : Int) < 2 := by omega
      have hc := HS.out.1.at_ (i := k) (by have := HS.out.2.1; omega)
      have hf := frozen_of_row wr w.heap.size k _ _ HS.out.1
      go_wp2
      exact ⟨⟨k + 1, ns.set k ((N : Int) / 2 ^ (8 * k) % 256), by first | rfl | go_num, by omega, Lib.hid ⟨HS.out.1.set _, by rw [List.length_set]; exact HS.out.2.1, HS.out.2.2.1.succ (by have := HS.out.2.1; omega), HS.out.2.2.2.setCell (Nat.le_refl _) _⟩⟩, by simp [intOf]; omega⟩
    · have hd : decide ((k : Int) < 2) = false := decide_eq_false (by omega)
      have HST := Lib.hid (run_strX (c := 2) HS.out.1 2 HS.out.2.1)
      have hst := HST.out
      have HE := Lib.hid (nb_end HS.out.2.2.1 HS.out.2.1 (by omega))
      rw [HE.out] at hst
      go_wp2
      go_ret
      exact ⟨rfl, HS.out.2.2.2⟩
set_option maxHeartbeats 2000000 in
theorem number8 (N : Nat) (w : World) : Calls Try.prog 48 #[.int .u64 N, .int .i64 8] w fun e w' => e = .returned (.string (nb N 8)) ∧ Below w.heap.size w w' := by
  obtain ⟨i0, hi0, hz0, hz1, hz2⟩ := info_parts byteInfo
  have hmk := run_make (P := Try.prog) w 89 5 i0 (.int .u8 0) Try.underlying89 hi0 hz0 .i64 .i64 8 8 (by omega) (by omega) (by rw [hz2]; omega) (by omega)
  rw [hz1] at hmk
  have em : madeCells (Value.cells (.int .u8 0)) (Int.toNat 8 * 1) = ((List.replicate 8 (0 : Int)).map (Value.int .u8)).toArray := by kernel_rfl
  rw [em] at hmk
  obtain ⟨W1, hW1⟩ : ∃ W1, w.alloc (.cells ((List.replicate 8 (0 : Int)).map (Value.int .u8)).toArray 5) = W1 := ⟨_, rfl⟩
  have h0 : Bys W1 w.heap.size (List.replicate 8 0) := by rw [← hW1]; exact heap_alloc_new w _
  have hb0 : Below w.heap.size w W1 := by rw [← hW1]; exact (Below.refl _ w).alloc (Nat.le_refl _) _
  rw [hW1] at hmk
  have hmk : (Instr.makeSlice 89 (.int .i64 8) (.int .i64 8)).run Try.prog w = .ok (.slice (some ⟨w.heap.size, 0, none⟩) 8 8) W1 := hmk
  have H0 := Lib.hid (And.intro h0 hb0)
  clear h0 hb0 hW1 em
  go_enter Try.func48, Try.ntmps48
  go_wp2
  go_loopw [11] (fun i wr => ∃ (k : Nat) (ns : List Int), i = .int .i64 k ∧ k ≤ 8 ∧ Hid (Bys wr w.heap.size ns ∧ ns.length = 8 ∧ nbTo N ns k ∧ Below w.heap.size w wr)) (fun i _ => 8 - (intOf i).toNat)
  case atStart => exact ⟨0, _, rfl, by omega, Lib.hid ⟨H0.out.1, by simp, nbTo.zero _ _, H0.out.2⟩⟩
  case round =>
    obtain ⟨k, ns, rfl, hk, HS⟩ := hrel
    by_cases hlt : k < 8
    · have hd : decide ((k : Int) < 8) = true := decide_eq_true (by omega)
      have hw1 : IntKind.i64.wrap ((k : Int) + 1) = ((k + 1 : Nat) : Int) := by rw [IntWalk.i64_in _ (by omega)]; omega
      have hw8 : IntKind.i64.wrap (8 * (k : Int)) = 8 * (k : Int) := by rw [IntWalk.i64_in _ (by omega)]
      have i1 : (0 : Int) ≤ (k : Int) := by omega
      have i2 : (k : Int) < 8 := by omega
      have hc := HS.out.1.at_ (i := k) (by have := HS.out.2.1; omega)
      have hf := frozen_of_row wr w.heap.size k _ _ HS.out.1
      go_wp2
      exact ⟨⟨k + 1, ns.set k ((N : Int) / 2 ^ (8 * k) % 256), by first | rfl | go_num, by omega, Lib.hid ⟨HS.out.1.set _, by rw [List.length_set]; exact HS.out.2.1, HS.out.2.2.1.succ (by have := HS.out.2.1; omega), HS.out.2.2.2.setCell (Nat.le_refl _) _⟩⟩, by simp [intOf]; omega⟩
    · have hd : decide ((k : Int) < 8) = false := decide_eq_false (by omega)
      have HST := Lib.hid (run_strX (c := 8) HS.out.1 8 HS.out.2.1)
      have hst := HST.out
      have HE := Lib.hid (nb_end HS.out.2.2.1 HS.out.2.1 (by omega))
      rw [HE.out] at hst
      go_wp2
      go_ret
      exact ⟨rfl, HS.out.2.2.2⟩

set_option maxHeartbeats 1000000 in
theorem short_any (s : ByteArray) (w : World) (hs : s.size ≤ 1000) : Calls Try.prog 49 #[.string s] w fun e w' => e = .returned (.string (sh s)) ∧ Below w.heap.size w w' := by
  have hadd : ∀ W, (Op.stringOp .add (nb s.size 1) s).run Try.prog W = .ok (.string (nb s.size 1 ++ s)) W := fun W => run_string_add_sum W _ _ (by rw [nb_size]; omega)
  go_enter Try.func49, Try.ntmps49
  go_wp2_with (go_at_call 48; refine (number1 s.size _).mono ?_; rintro e w2 ⟨rfl, hb2⟩)
  go_ret
  exact ⟨rfl, hb2⟩
end Go.Proofs.Ytaeemeoffnhgfaa

namespace Go.Proofs.Ytaeemeoffnhgfaa
open Go.RowKit
attribute [local go_sem ↓] Go.wp_at_zero Go.wp_at_succ

theorem div_lt64 {N : Nat} (h : N < 18446744073709551616) (k : Nat) : N / 256 ^ k < 18446744073709551616 := Nat.lt_of_le_of_lt (Nat.div_le_self _ _) h
theorem wrap_div {N : Nat} (h : N < 18446744073709551616) (k : Nat) : IntKind.u64.wrap (((N / 256 ^ k : Nat) : Int) / 256) = ((N / 256 ^ (k + 1) : Nat) : Int) := by
  have hh := div_lt64 h (k + 1)
  have e : ((N / 256 ^ k : Nat) : Int) / 256 = ((N / 256 ^ (k + 1) : Nat) : Int) := by
    rw [Nat.pow_succ, ← Nat.div_div_eq_div_mul]
    rfl
  rw [e]
  generalize N / 256 ^ (k + 1) = m at hh
  rw [show IntKind.u64.wrap (m : Int) = (m : Int) % 18446744073709551616 from rfl, Int.emod_eq_of_lt (by omega) (by omega)]
theorem byte_of (N k : Nat) : ((N / 256 ^ k : Nat) : Int) % 256 = (N : Int) / 2 ^ (8 * k) % 256 := by
  have h2 : (N : Int) / 2 ^ (8 * k) % 256 = ((N / 2 ^ (8 * k) % 256 : Nat) : Int) := by simp
  rw [h2, Nat.pow_mul]
  rfl

set_option maxHeartbeats 2000000 in
theorem refNumber_any (N : Nat) (hN : N < 18446744073709551616) (w : World) : Calls Try.prog 52 #[.int .u64 N, .bool false] w fun e w' => e = .returned (.string (nb N 8)) ∧ Below w.heap.size w w' := by
  obtain ⟨i0, hi0, hz0, hz1, hz2⟩ := info_parts byteInfo
  have hmk := run_make (P := Try.prog) w 89 5 i0 (.int .u8 0) Try.underlying89 hi0 hz0 .i64 .i64 8 8 (by omega) (by omega) (by rw [hz2]; omega) (by omega)
  rw [hz1] at hmk
  have em : madeCells (Value.cells (.int .u8 0)) (Int.toNat 8 * 1) = ((List.replicate 8 (0 : Int)).map (Value.int .u8)).toArray := by kernel_rfl
  rw [em] at hmk
  obtain ⟨W1, hW1⟩ : ∃ W1, w.alloc (.cells ((List.replicate 8 (0 : Int)).map (Value.int .u8)).toArray 5) = W1 := ⟨_, rfl⟩
  have h0 : Bys W1 w.heap.size (List.replicate 8 0) := by rw [← hW1]; exact heap_alloc_new w _
  have hb0 : Below w.heap.size w W1 := by rw [← hW1]; exact (Below.refl _ w).alloc (Nat.le_refl _) _
  rw [hW1] at hmk
  have hmk : (Instr.makeSlice 89 (.int .i64 8) (.int .i64 8)).run Try.prog w = .ok (.slice (some ⟨w.heap.size, 0, none⟩) 8 8) W1 := hmk
  have H0 := Lib.hid (And.intro h0 hb0)
  clear h0 hb0 hW1 em
  go_enter Try.func52, Try.ntmps52
  go_wp2
  go_loopw [0, 6, 7] (fun x i _ wr => ∃ (k m : Nat) (ns : List Int), x = .int .u64 m ∧ m = N / 256 ^ k ∧ i = .int .i64 k ∧ k ≤ 8 ∧ Hid (Bys wr w.heap.size ns ∧ ns.length = 8 ∧ nbTo N ns k ∧ Below w.heap.size w wr)) (fun _ i _ _ => 8 - (intOf i).toNat)
  case atStart => exact ⟨0, N, _, rfl, by simp, rfl, by omega, Lib.hid ⟨H0.out.1, by simp, nbTo.zero _ _, H0.out.2⟩⟩
  case round =>
    obtain ⟨k, m, ns, rfl, hm, rfl, hk, HS⟩ := hrel
    by_cases hlt : k < 8
    · have hd : decide ((k : Int) < 8) = true := decide_eq_true (by omega)
      have hw1 : IntKind.i64.wrap ((k : Int) + 1) = ((k + 1 : Nat) : Int) := by rw [IntWalk.i64_in _ (by omega)]; omega
      have i1 : (0 : Int) ≤ (k : Int) := by omega
      have i2 : (k : Int) < 8 := by omega
      have hc := HS.out.1.at_ (i := k) (by have := HS.out.2.1; omega)
      have hf := frozen_of_row wr w.heap.size k _ _ HS.out.1
      have HW : Hid (∀ (z : Int), z = IntKind.u64.wrap ((m : Int) / 256) → z = ((N / 256 ^ (k + 1) : Nat) : Int)) := Lib.hid (by rintro z rfl; rw [hm]; exact wrap_div hN k)
      have HY : Hid (∀ (z : Int), z = (m : Int) % 256 → z = (N : Int) / 2 ^ (8 * k) % 256) := Lib.hid (by rintro z rfl; rw [hm]; exact byte_of N k)
      clear hm
      go_wp2
      exact ⟨⟨k + 1, N / 256 ^ (k + 1), ns.set k ((N : Int) / 2 ^ (8 * k) % 256), by rw [HW.out _ rfl], rfl, by first | rfl | go_num, by omega, Lib.hid ⟨by rw [← HY.out _ rfl]; exact HS.out.1.set _, by rw [List.length_set]; exact HS.out.2.1, HS.out.2.2.1.succ (by have := HS.out.2.1; omega), HS.out.2.2.2.setCell (Nat.le_refl _) _⟩⟩, by simp [intOf]; omega⟩
    · have hd : decide ((k : Int) < 8) = false := decide_eq_false (by omega)
      have HST := Lib.hid (run_strX (c := 8) HS.out.1 8 HS.out.2.1)
      have hst := HST.out
      have HE := Lib.hid (nb_end HS.out.2.2.1 HS.out.2.1 (by omega))
      rw [HE.out] at hst
      go_wp2
      go_ret
      exact ⟨rfl, HS.out.2.2.2⟩
theorem nb_one (N : Nat) : ofL ([(N : Int) % 256].map byteI) = nb N 1 := by
  unfold nb nbI
  simp
theorem Bys.made (w : World) (ns : List Int) : Bys (w.alloc (.cells (ns.map (Value.int .u8)).toArray 5)) w.heap.size ns := heap_alloc_new w _
set_option maxHeartbeats 1000000 in
theorem refShort_any (s : ByteArray) (w : World) (hs : s.size ≤ 1000) : Calls Try.prog 53 #[.string s] w fun e w' => e = .returned (.string (sh s)) ∧ Below w.heap.size w w' := by
  have hadd : ∀ W, (Op.stringOp .add (nb s.size 1) s).run Try.prog W = .ok (.string (nb s.size 1 ++ s)) W := fun W => run_string_add_sum W _ _ (by rw [nb_size]; omega)
  have hst := run_strX (c := 1) (Bys.made w [(s.size : Int) % 256]) 1 rfl
  rw [nb_one] at hst
  simp only [List.map_cons, List.map_nil] at hst
  go_enter Try.func53, Try.ntmps53
  go_wp2
  go_ret
  exact ⟨rfl, (Below.refl _ w).alloc (Nat.le_refl _) _⟩
end Go.Proofs.Ytaeemeoffnhgfaa

namespace Go.Proofs.Ytaeemeoffnhgfaa
open Go.RowKit

section
variable {P : Program} {ops : Array Oper} {Q : Exit → Act → World → Prop}
/-- how many operations are left -/
def left (L : Array Bool) : Nat := L.toList.countP fun b => !b
theorem left_set {L : Array Bool} {i : Nat} (h : L.getD i true = false) : left (L.setIfInBounds i true) + 1 = left L := by
  unfold left
  have hi : i < L.size := by
    rcases Nat.lt_or_ge i L.size with h1 | h1
    · exact h1
    · simp [Array.getElem?_eq_none h1] at h
  have he : L.toList[i]'(by simpa using hi) = false := by
    simp [hi] at h
    simpa using h
  rw [Array.toList_setIfInBounds, List.countP_set (by simpa using hi)]
  have hp : 0 < L.toList.countP fun b => !b := List.countP_pos_iff.2 ⟨_, List.getElem_mem (by simpa using hi), by rw [he]; rfl⟩
  simp only [he, Bool.not_false, Bool.not_true, if_true, Bool.false_eq_true, if_false]
  omega
theorem ready_nil {md : Region.Mode} {L : Array Bool} (h : left L = 0) : Region.ready md ops L = [] := by
  refine List.eq_nil_iff_forall_not_mem.2 fun j hj => ?_
  have := left_set (mem_ready.1 hj).1
  omega
theorem wpAny_inv {md : Region.Mode} (Inv : Array Bool → Act → World → Prop)
    (hstep : ∀ L a w, Inv L a w → ∀ i ∈ Region.ready md ops L, wpOp P ops Q i (fun a' w' => Inv (L.setIfInBounds i true) a' w') a w)
    (hend : ∀ L a w, Inv L a w → Region.ready md ops L = [] → Q .normal a w) :
    ∀ (fuel : Nat) (L : Array Bool) (a : Act) (w : World), left L ≤ fuel → Inv L a w → wpAny P md ops Q fuel L a w
  | 0, L, a, w, hf, hi => ⟨ready_nil (by omega), hend L a w hi (ready_nil (by omega))⟩
  | fuel + 1, L, a, w, hf, hi => ⟨hend L a w hi, fun i hr => wpOp_mono (fun a' w' h' => wpAny_inv Inv hstep hend fuel _ a' w' (by have := left_set (mem_ready.1 hr).1; omega) h') (hstep L a w hi i hr)⟩
theorem region_inv {id : Nat} {a : Act} {w : World} (hm : P.follows .mixedOrders = true) (Inv : Array Bool → Act → World → Prop) (h0 : Inv (Array.replicate ops.size false) a w.drew)
    (hstep : ∀ L a w, Inv L a w → ∀ i ∈ Region.ready .any ops L, wpOp P ops (Calm (Q .normal)) i (fun a' w' => Inv (L.setIfInBounds i true) a' w') a w)
    (hend : ∀ L a w, Inv L a w → Region.ready .any ops L = [] → Q .normal a w) : (Code.region id ops true).wp P Q a w :=
  wp_mono (wp_region_any hm (wpAny_inv Inv hstep hend _ _ _ _ (by
    unfold left
    have := List.countP_le_length (p := fun b => !b) (l := (Array.replicate ops.size false).toList)
    simpa using this) h0)) fun _ _ _ => calm_le
end
def depsB (ops : Array Oper) : Bool := (List.range ops.size).all fun j => match ops[j]? with | some o => o.after.all fun e => decide (e.on < j) | none => true
theorem ready_all {ops : Array Oper} {md : Region.Mode} {L : Array Bool} (hr : Region.ready md ops L = []) (hs : L.size = ops.size) (hd : depsB ops = true) : ∀ j, j < ops.size → L.getD j false = true := by
  intro j
  induction j using Nat.strongRecOn with
  | ind j ih =>
    intro hj
    cases h : L.getD j false with
    | true => rfl
    | false =>
      have hm : j ∈ Region.ready md ops L := by
        refine mem_ready.2 ⟨?_, ops[j], Array.getElem?_eq_getElem hj, fun e he _ => ?_⟩
        · have hj' : j < L.size := by omega
          simp [hj'] at h ⊢
          exact h
        · have h1 := (List.all_eq_true.1 hd) j (List.mem_range.2 hj)
          rw [Array.getElem?_eq_getElem hj] at h1
          have h2 := Array.all_eq_true_iff_forall_mem.1 h1 e he
          have h3 := of_decide_eq_true h2
          exact ih e.on h3 (by omega)
      rw [hr] at hm
      cases hm
theorem no_done {n j : Nat} (h : (Array.replicate n false).getD j false = true) : False := by
  rcases Nat.lt_or_ge j n with h1 | h1
  · simp [h1] at h
  · simp [h1] at h
theorem getD_set {L : Array Bool} {i j : Nat} (h : (L.setIfInBounds i true).getD j false = true) : j = i ∨ L.getD j false = true := by
  by_cases e : j = i
  · exact .inl e
  · right
    rwa [getD_set_ne false (fun h => e h.symm)] at h

/-- what an operation gives: a value, by itself or by a call -/
def Stp (P : Program) (o : Oper) (a : Act) (w : World) (V : Value → World → Prop) : Prop :=
  (∃ v w1, (execOp a.eval o).run P w = .ok (.value v) w1 ∧ Below w.heap.size w w1 ∧ V v w1) ∨
  (∃ f args, (execOp a.eval o).run P w = .ok (.enter f args) w ∧ Calls P f args w fun e w1 => ∃ v, e = .returned v ∧ Below w.heap.size w w1 ∧ V v w1)
theorem Stp.val {P : Program} {o : Oper} {a : Act} {w : World} {V : Value → World → Prop} {ρ : Operand → Value} (hρ : a.eval = ρ) (v : Value) (w1 : World) (h : (execOp ρ o).run P w = .ok (.value v) w1) (hb : Below w.heap.size w w1) (hv : V v w1) : Stp P o a w V :=
  .inl ⟨v, w1, by rw [hρ]; exact h, hb, hv⟩
theorem Stp.pure {P : Program} {o : Oper} {a : Act} {w : World} {V : Value → World → Prop} {ρ : Operand → Value} (hρ : a.eval = ρ) (v : Value) (h : (execOp ρ o).run P w = .ok (.value v) w) (hv : V v w) : Stp P o a w V :=
  .inl ⟨v, w, by rw [hρ]; exact h, Below.refl _ _, hv⟩
theorem Stp.call {P : Program} {o : Oper} {a : Act} {w : World} {V : Value → World → Prop} (f : FuncId) (args : Array Value) (v : Value) (h : (execOp a.eval o).run P w = .ok (.enter f args) w) (hc : Calls P f args w fun e w1 => e = .returned v ∧ Below w.heap.size w w1) (hv : ∀ w1, V v w1) : Stp P o a w V :=
  .inr ⟨f, args, h, hc.mono fun e w1 h => ⟨v, h.1, h.2, hv w1⟩⟩
theorem Stp.wp {P : Program} {o : Oper} {a : Act} {w : World} {V : Value → World → Prop} (h : Stp P o a w V) (K : Act → World → Prop) (Q : Exit → Act → World → Prop) (hK : ∀ v w1, Below w.heap.size w w1 → V v w1 → K (a.put o.dst v) w1) : o.wp P a w K Q := by
  unfold Oper.wp
  rcases h with ⟨v, w1, h, hb, hv⟩ | ⟨f, args, h, hc⟩
  · rw [h, Oper.upon_value]
    exact hK v w1 hb hv
  · rw [h, Oper.upon_enter]
    refine hc.mono ?_
    rintro e w1 ⟨v, rfl, hb, hv⟩
    exact hK v w1 hb hv

theorem getD_setV {l : Array Value} {i j : Nat} (v : Value) (h : i ≠ j) : (l.setIfInBounds i v).getD j undef = l.getD j undef := by
  rw [Array.getD_eq_getD_getElem?, Array.getD_eq_getD_getElem?, Array.getElem?_setIfInBounds_ne h]
/-- where operation j's value lies -/
def dO (ds : List Nat) (j : Nat) : Nat := ds.getD j 0
def tabOk (ops : Array Oper) (ds : List Nat) (sz : Nat) : Bool :=
  decide (ops.size = ds.length) && ((List.range ops.size).all fun i => (match ops[i]? with | some o => decide (o.dst = some (dO ds i)) && o.guard.isNone | none => true) && decide (dO ds i < sz) && ((List.range ops.size).all fun j => decide (i = j) || decide (dO ds i ≠ dO ds j))) && depsB ops
structure TI (ops : Array Oper) (ds : List Nat) (a0 : Act) (w0 : World) (V : Nat → Value → World → Prop) (L : Array Bool) (a : Act) (w : World) : Prop where
  sz : L.size = ops.size
  b : Below w0.heap.size w0 w
  ts : a.tmps.size = a0.tmps.size
  df : a.defers = a0.defers
  v : ∀ j, j < ops.size → L.getD j false = true → V j (a.tmps.getD (dO ds j) undef) w
  k : ∀ t, (∀ j, j < ops.size → L.getD j false = true → dO ds j ≠ t) → a.tmps.getD t undef = a0.tmps.getD t undef
  f : ∀ j o, ops[j]? = some o → L.getD j false = true → ∀ e ∈ o.after, Region.binds .any e = true → L.getD e.on false = true
/-- whatever writes slot t waits for operation i -/
def waitsB (ops : Array Oper) (ds : List Nat) (i t : Nat) : Bool := (List.range ops.size).all fun j => decide (dO ds j ≠ t) || (match ops[j]? with | some o => o.after.any fun e => decide (e.on = i) && Region.binds .any e | none => false)
def actTab (ds : List Nat) (a0 : Act) (n : Nat) (u : Nat → Value) : Act := { tmps := ((List.range n).map fun k => if ds.contains k then u k else a0.tmps.getD k undef).toArray, defers := a0.defers }
theorem contains_dO {ds : List Nat} {j : Nat} (h : j < ds.length) : ds.contains (dO ds j) = true := by
  unfold dO
  rw [List.getD_eq_getElem?_getD, List.getElem?_eq_getElem h]
  simp
theorem TI.act {ops : Array Oper} {ds : List Nat} {a0 a : Act} {w0 w : World} {V : Nat → Value → World → Prop} {L : Array Bool} (h : TI ops ds a0 w0 V L a w) (hlen : ops.size = ds.length) (n : Nat) (hn : a0.tmps.size = n) : a = actTab ds a0 n fun k => a.tmps.getD k undef := by
  have h1 := h.ts
  have h2 := h.df
  have h3 : ∀ t, ds.contains t = false → a.tmps.getD t undef = a0.tmps.getD t undef := fun t ht => h.k t fun j hj _ => by
    rintro rfl
    rw [contains_dO (by omega)] at ht
    cases ht
  obtain ⟨t, d⟩ := a
  simp only at h1 h2 h3
  unfold actTab
  subst hn
  rw [h2]
  congr 1
  apply Array.ext
  · simp [h1]
  · intro i hi hi'
    simp only [List.getElem_toArray, List.getElem_map, List.getElem_range]
    have e : t[i] = t.getD i undef := by simp [hi]
    cases hc : ds.contains i with
    | true => simp [hi]
    | false =>
      rw [e, h3 i hc]
      simp

theorem region_tab {P : Program} {id : Nat} {ops : Array Oper} {Q : Exit → Act → World → Prop} {a : Act} {w : World} (hm : P.follows .mixedOrders = true) (ds : List Nat) (sz : Nat) (hsz : a.tmps.size = sz) (hok : tabOk ops ds sz = true) (V : Nat → Value → World → Prop)
    (hV : ∀ j v w1 w2, V j v w1 → Below w1.heap.size w1 w2 → V j v w2)
    (hstep : ∀ i o, ops[i]? = some o → ∀ a' w', Below w.heap.size w w' → (∀ t, waitsB ops ds i t = true → a'.eval (.tmp t) = a.eval (.tmp t)) → (∀ j, (o.after.any fun e => decide (e.on = j) && Region.binds .any e) = true → V j (a'.eval (.tmp (dO ds j))) w') → Stp P o a' w' (V i))
    (hend : ∀ u w', Below w.heap.size w w' → (∀ j, j < ops.size → V j (u (dO ds j)) w') → Q .normal (actTab ds a sz u) w') : (Code.region id ops true).wp P Q a w := by
  unfold tabOk at hok
  simp only [Bool.and_eq_true, List.all_eq_true, List.mem_range, decide_eq_true_eq, Bool.or_eq_true] at hok
  obtain ⟨⟨hlen, hall⟩, hdep⟩ := hok
  refine region_inv hm (TI ops ds a w V) ?_ ?_ ?_
  · exact ⟨by simp, (Below.refl _ _).drew, rfl, rfl, fun j _ h => (no_done h).elim, fun _ _ => rfl, fun j _ _ h => (no_done h).elim⟩
  · intro L a1 w1 hI i hi
    obtain ⟨hl, o, ho, hr⟩ := mem_ready.1 hi
    have hlt : i < ops.size := (Array.getElem?_eq_some_iff.1 ho).1
    obtain ⟨⟨hd, hds⟩, hinj⟩ := hall i hlt
    rw [ho] at hd
    simp only [Bool.and_eq_true, decide_eq_true_eq] at hd
    have hS := hstep i o ho a1 w1 hI.b (fun t ht => hI.k t fun j hj hd' => by
      rintro rfl
      have h1 := (List.all_eq_true.1 ht) j (List.mem_range.2 hj)
      simp only [Bool.or_eq_true, decide_eq_true_eq, ne_eq, not_true_eq_false, false_or] at h1
      rw [Array.getElem?_eq_getElem hj] at h1
      obtain ⟨e, he, h2⟩ := Array.any_eq_true'.1 h1
      simp only [Bool.and_eq_true, decide_eq_true_eq] at h2
      have h3 := hI.f j _ (Array.getElem?_eq_getElem hj) hd' e he h2.2
      rw [h2.1] at h3
      have h4 : i < L.size := by rw [hI.sz]; exact hlt
      simp [h4] at h3 hl
      rw [h3] at hl
      cases hl) (fun j hj => by
      obtain ⟨e, he, h1⟩ := Array.any_eq_true'.1 hj
      simp only [Bool.and_eq_true, decide_eq_true_eq] at h1
      obtain ⟨rfl, h2⟩ := h1
      have h3 : e.on < ops.size := by
        unfold depsB at hdep
        have h4 := (List.all_eq_true.1 hdep) i (List.mem_range.2 hlt)
        rw [ho] at h4
        have h5 := of_decide_eq_true (Array.all_eq_true_iff_forall_mem.1 h4 e he)
        omega
      exact hI.v e.on h3 (hr e he h2))
    unfold wpOp
    simp only [ho]
    have hg : o.guard = none := by
      cases h : o.guard with
      | none => rfl
      | some g => rw [h] at hd; cases hd.2
    rw [if_pos (by simp [Region.wanted, hg])]
    left
    refine hS.wp _ _ fun v w2 hb hv => ?_
    rw [hd.1]
    refine ⟨by simpa using hI.sz, hI.b.trans (hb.mono hI.b.size), by simp [Act.put, hI.ts], hI.df, fun j hj hl' => ?_, fun t ht => ?_, fun j o' ho' hd' e he hb' => ?_⟩
    · by_cases e : j = i
      · subst e
        have hs : dO ds j < a1.tmps.size := by rw [hI.ts, hsz]; exact hds
        simp only [Act.put]
        rw [show (a1.tmps.setIfInBounds (dO ds j) v).getD (dO ds j) undef = v by simp [hs]]
        exact hv
      · have hne : dO ds i ≠ dO ds j := by
          have := hinj j hj
          rcases this with h | h
          · exact absurd h.symm e
          · exact h
        simp only [Act.put]
        rw [getD_setV _ hne]
        exact hV _ _ _ _ (hI.v j hj ((getD_set hl').resolve_left e)) hb
    · have hLi : (L.setIfInBounds i true).getD i false = true := by
        have h4 : i < L.size := by rw [hI.sz]; exact hlt
        simp [h4]
      have hne : dO ds i ≠ t := ht i hlt hLi
      simp only [Act.put]
      rw [getD_setV _ hne]
      refine hI.k t fun j hj hjd => ht j hj ?_
      by_cases e : j = i
      · subst e; exact hLi
      · rw [getD_set_ne false (fun h => e h.symm)]; exact hjd
    · have h0 : L.getD e.on false = true := by
        rcases getD_set hd' with rfl | hd'
        · rw [ho] at ho'
          injection ho' with ho'
          subst ho'
          exact hr e he hb'
        · exact hI.f j o' ho' hd' e he hb'
      by_cases e' : e.on = i
      · rw [e']
        have h4 : i < L.size := by rw [hI.sz]; exact hlt
        simp [h4]
      · rw [getD_set_ne false (fun h => e' h.symm)]; exact h0
  · intro L a1 w1 hI hr
    rw [hI.act hlen sz hsz]
    exact hend _ w1 hI.b fun j hj => hI.v j hj (ready_all hr hI.sz hdep j hj)
end Go.Proofs.Ytaeemeoffnhgfaa

namespace Go.Proofs.Ytaeemeoffnhgfaa
open Go.Proofs
open Go.Shelf
def lays156_ren : Go.Shelf.Ren := ⟨fun | 156 => 50 | 165 => 66 | 166 => 67 | 169 => 68 | 240 => 74 | 241 => 75 | 276 => 78 | 277 => 79 | n => n, fun | 31 => 34 | 9 => 9 | 3 => 3 | 4 => 4 | 0 => 0 | 20 => 20 | 72 => 109 | 76 => 113 | 70 => 107 | 37 => 89 | 75 => 112 | 127 => 120 | 164 => 122 | 5 => 5 | 80 => 94 | n => n, fun | n => n⟩
theorem lays156 : Go.Proofs.Lays.n156 Try.prog lays156_ren := {
  mixed := by kernel_rfl
  f156 := Try.func50.trans (congrArg some (by kernel_rfl))
  f165 := Try.func66.trans (congrArg some (by kernel_rfl))
  f166 := Try.func67.trans (congrArg some (by kernel_rfl))
  f169 := Try.func68.trans (congrArg some (by kernel_rfl))
  f240 := Try.func74.trans (congrArg some (by kernel_rfl))
  f241 := Try.func75.trans (congrArg some (by kernel_rfl))
  f276 := Try.func78.trans (congrArg some (by kernel_rfl))
  f277 := Try.func79.trans (congrArg some (by kernel_rfl))
  t0 := Try.underlying0
  a0 := Try.isAgg0
  z0 := Try.sizeOf0
  v0 := Try.zeroValue0
  t3 := Try.underlying3
  a3 := Try.isAgg3
  z3 := Try.sizeOf3
  v3 := Try.zeroValue3
  t4 := Try.underlying4
  a4 := Try.isAgg4
  z4 := Try.sizeOf4
  v4 := Try.zeroValue4
  t9 := Try.underlying9
  a9 := Try.isAgg9
  z9 := Try.sizeOf9
  v9 := Try.zeroValue9
  t20 := Try.underlying20
  a20 := Try.isAgg20
  z20 := Try.sizeOf20
  v20 := Try.zeroValue20
  t31 := Try.underlying34
  a31 := Try.isAgg34
  z31 := Try.sizeOf34
  v31 := Try.zeroValue34
  t37 := Try.underlying89
  a37 := Try.isAgg89
  z37 := Try.sizeOf89
  v37 := Try.zeroValue89
  t70 := Try.underlying107
  a70 := Try.isAgg107
  z70 := Try.sizeOf107
  v70 := Try.zeroValue107
  t72 := Try.underlying109
  a72 := Try.isAgg109
  z72 := Try.sizeOf109
  v72 := Try.zeroValue109
  t75 := Try.underlying112
  a75 := Try.isAgg112
  z75 := Try.sizeOf112
  v75 := Try.zeroValue112
  t76 := Try.underlying113
  a76 := Try.isAgg113
  z76 := Try.sizeOf113
  v76 := Try.zeroValue113
  t127 := Try.underlying120
  a127 := Try.isAgg120
  z127 := Try.sizeOf120
  v127 := Try.zeroValue120
  t164 := Try.underlying122
  a164 := Try.isAgg122
  z164 := Try.sizeOf122
  v164 := Try.zeroValue122 }
theorem Builder_Extra_156 : Builder.Extra Try.prog lays156_ren := {
  sizeBuilder := by kernel_rfl
  liesBuilder := by kernel_rfl
  t5 := Try.underlying5
  a5 := Try.isAgg5
  z5 := Try.sizeOf5
  v5 := Try.zeroValue5
  infoByte := by kernel_rfl
  cellsByte := by kernel_rfl
  sizeByte := by kernel_rfl
  neB5 := by decide }
open Go.RowKit in
theorem strings_Join_none (a : Option Addr) (c : Nat) (sep : ByteArray) (w : World) :
    Calls Try.prog 50 #[.slice a 0 c, .string sep] w fun e w' => e = .returned (.string ⟨#[]⟩) ∧ w' = w := Any.strings_Join_none lays156 Builder_Extra_156 a c sep w
open Go.RowKit in
theorem strings_Join (bk o c : Nat) (xs : List ByteArray) (sep : ByteArray) (w : World) (hcells : ∀ (j : Nat) x, xs[j]? = some x → w.cell? ⟨bk, o + j, none⟩ = some (.string x)) (hbk : bk < w.heap.size) (hN : xs.length ≤ 140737488355328) (hcap : xs.length ≤ c) (hlen : (Lib.join (xs.map (·.data.toList)) sep.data.toList).length ≤ 140737488355328) :
    Calls Try.prog 50 #[.slice (some ⟨bk, o, none⟩) xs.length c, .string sep] w fun e w' => e = .returned (.string ⟨(Lib.join (xs.map (·.data.toList)) sep.data.toList).toArray⟩) ∧ Below w.heap.size w w' := Any.strings_Join lays156 Builder_Extra_156 bk o c xs sep w hcells hbk hN hcap hlen
end Go.Proofs.Ytaeemeoffnhgfaa

namespace Go.Proofs.Ytaeemeoffnhgfaa
open Go.RowKit
attribute [local go_sem ↓] Go.wp_at_zero Go.wp_at_succ

/-- the texts, one behind the other -/
def cat (l : List ByteArray) : ByteArray := ofL (l.flatMap fun s => s.data.toList)
def fiParts (f : Fi) : List ByteArray := [nb f.level.toNat 1, sh f.name, sh f.low, sh f.high, nb f.many.toNat 2]
def headE (nx fl n : Nat) : List ByteArray := [nb nx 8, nb fl 8, nb n 1]
def partsE (nx fl : Nat) (add : List Fi) (del : List ByteArray) : List ByteArray := headE nx fl add.length ++ add.flatMap fiParts ++ [nb del.length 1] ++ del.map sh
def encB (nx fl : Nat) (add : List Fi) (del : List ByteArray) : ByteArray := cat (partsE nx fl add del)
def badE (add : List Fi) (del : List ByteArray) : Bool := (add.any fun x => !may x) || (del.any fun s => !nm s 59)
def wideE (add : List Fi) (del : List ByteArray) : Bool := decide (255 < add.length) || decide (255 < del.length)
def encE (nx fl : Nat) (add : List Fi) (del : List ByteArray) : ByteArray × Int := if badE add del then (⟨#[]⟩, 1) else if wideE add del then (⟨#[]⟩, 71) else (encB nx fl add del, 0)

theorem ofL_app (l m : List UInt8) : ofL (l ++ m) = ofL l ++ ofL m := by
  apply ByteArray.ext
  simp [ofL]
theorem ofL_data (s : ByteArray) : ofL s.data.toList = s := rfl
theorem cat_append (l m : List ByteArray) : cat (l ++ m) = cat l ++ cat m := by unfold cat; rw [List.flatMap_append, ofL_app]
theorem cat_one (s : ByteArray) : cat [s] = s := by unfold cat; simp [ofL_data]
theorem cat_nil : cat [] = ⟨#[]⟩ := rfl
theorem cat_cons (s : ByteArray) (l : List ByteArray) : cat (s :: l) = s ++ cat l := by
  rw [show s :: l = [s] ++ l from rfl, cat_append, cat_one]
theorem app_nil (s : ByteArray) : s ++ (⟨#[]⟩ : ByteArray) = s := by
  apply ByteArray.ext
  simp
theorem join_flat : ∀ L : List (List UInt8), Lib.join L [] = L.flatten
  | [] => rfl
  | [x] => by simp [Lib.join, List.intercalate]
  | x :: y :: l => by
    have ih := join_flat (y :: l)
    simp only [Lib.join, List.intercalate] at ih ⊢
    rw [List.intersperse_cons_cons, List.flatten_cons, List.flatten_cons, ih]
    simp
theorem join_cat (l : List ByteArray) : (⟨(Lib.join (l.map (·.data.toList)) (⟨#[]⟩ : ByteArray).data.toList).toArray⟩ : ByteArray) = cat l := by
  unfold cat ofL
  rw [show (⟨#[]⟩ : ByteArray).data.toList = [] from rfl, join_flat, List.flatMap_def]
theorem join_len (l : List ByteArray) : (Lib.join (l.map (·.data.toList)) (⟨#[]⟩ : ByteArray).data.toList).length = (cat l).size := by
  rw [← join_cat]
  rfl
theorem cat_size (l : List ByteArray) (n : Nat) (h : ∀ s ∈ l, s.size ≤ n) : (cat l).size ≤ l.length * n := by
  induction l with
  | nil => simp [cat_nil, ByteArray.size]
  | cons x l ih =>
    rw [cat_cons, ByteArray.size_append', List.length_cons, Nat.succ_mul]
    have h1 := h x (by simp)
    have h2 := ih fun s hs => h s (by simp [hs])
    omega
theorem nm_size {s : ByteArray} {n : Nat} (h : nm s n = true) : 1 ≤ s.size ∧ s.size ≤ n := by
  unfold nm at h
  simp only [Bool.and_eq_true, decide_eq_true_eq] at h
  exact h
/-- what a file that may be has -/
structure FiOk (x : Fi) : Prop where
  lv : ∃ n : Nat, x.level = n ∧ n ≤ 2
  mn : ∃ n : Nat, x.many = n ∧ 1 ≤ n ∧ n ≤ 2000
  nm : x.name.size ≤ 59
  lo : x.low.size ≤ 40
  hi : x.high.size ≤ 40
theorem FiOk.of {x : Fi} (h : may x = true) : FiOk x := by
  rw [may_ref] at h
  simp only [Bool.and_eq_true, decide_eq_true_eq] at h
  obtain ⟨⟨⟨⟨⟨⟨⟨h1, h2⟩, h3⟩, h4⟩, h5⟩, _⟩, h6⟩, h7⟩ := h
  exact ⟨⟨x.level.toNat, by omega, by omega⟩, ⟨x.many.toNat, by omega, by omega, by omega⟩, (nm_size h3).2, (nm_size h4).2, (nm_size h5).2⟩
theorem badE_false {add : List Fi} {del : List ByteArray} (h : badE add del = false) : (∀ x ∈ add, may x = true) ∧ ∀ s ∈ del, nm s 59 = true := by
  unfold badE at h
  rw [Bool.or_eq_false_iff, List.any_eq_false, List.any_eq_false] at h
  exact ⟨fun x hx => by simpa using h.1 x hx, fun x hx => by simpa using h.2 x hx⟩
theorem fiParts_len (x : Fi) : (fiParts x).length = 5 := rfl
theorem fiParts_size {x : Fi} (h : FiOk x) : ∀ s ∈ fiParts x, s.size ≤ 60 := by
  intro s hs
  have h1 := h.nm
  have h2 := h.lo
  have h3 := h.hi
  unfold fiParts at hs
  simp only [List.mem_cons, List.not_mem_nil, or_false] at hs
  rcases hs with rfl | rfl | rfl | rfl | rfl <;> simp only [nb_size, sh_size] <;> omega
theorem partsE_len (nx fl : Nat) (add : List Fi) (del : List ByteArray) : (partsE nx fl add del).length = 4 + 5 * add.length + del.length := by
  have h : (add.flatMap fiParts).length = 5 * add.length := by
    induction add with
    | nil => rfl
    | cons x l ih => rw [List.flatMap_cons, List.length_append, ih, fiParts_len, List.length_cons]; omega
  unfold partsE headE
  simp only [List.length_append, List.length_cons, List.length_nil, List.length_map, h]
  omega
theorem partsE_size {nx fl : Nat} {add : List Fi} {del : List ByteArray} (h : badE add del = false) : ∀ s ∈ partsE nx fl add del, s.size ≤ 60 := by
  obtain ⟨h1, h2⟩ := badE_false h
  intro s hs
  unfold partsE headE at hs
  simp only [List.mem_append, List.mem_cons, List.not_mem_nil, or_false, List.mem_flatMap, List.mem_map] at hs
  rcases hs with ((((rfl | rfl | rfl) | ⟨x, hx, hs⟩)) | rfl) | ⟨t, ht, rfl⟩
  · simp only [nb_size]; omega
  · simp only [nb_size]; omega
  · simp only [nb_size]; omega
  · exact fiParts_size (FiOk.of (h1 x hx)) s hs
  · simp only [nb_size]; omega
  · have := (nm_size (h2 t ht)).2
    rw [sh_size]
    omega

set_option maxHeartbeats 2000000 in
theorem indexText_any (f : FuncId) (q : ByteArray → Bool) (w : World) (eg : ∀ args W, (callFunc f args).run Try.prog W = .ok (.enter f args) W) (hq : ∀ x W, Calls Try.prog f #[.string x] W fun e w' => e = .returned (.bool (q x)) ∧ Below W.heap.size W w') (A : Option Addr) (c : Nat) (l : List ByteArray) (hl : Rd w w.heap.size A (l.map Value.string)) (hlen : l.length ≤ maxLen) :
    Calls Try.prog 65 #[.slice A l.length c, .func (.func f) #[] #[]] w fun e w' => e = .returned (.int .i64 (idx q l)) ∧ Below w.heap.size w w' := by
  unfold maxLen at hlen
  have HL := Lib.hid hl
  obtain ⟨N, hN⟩ : ∃ N, l.length = N := ⟨_, rfl⟩
  have HN := Lib.hid hN
  have HQ := Lib.hid hq
  rw [hN] at hlen ⊢
  clear hl hN hq
  go_enter Try.func65, Try.ntmps65
  go_wp2
  go_loopw [8] (fun vi wr => ∃ k : Nat, k ≤ N ∧ vi = .int .i64 (k : Int) ∧ Hid (noneTo q l k) ∧ Hid (Below w.heap.size w wr)) (fun vi _ => N - (intOf vi).toNat)
  case atStart => exact ⟨0, Nat.zero_le _, rfl, Lib.hid (noneTo.zero q l), Lib.hid (Below.refl _ _)⟩
  case round =>
    obtain ⟨k, hk, rfl, HU, HB⟩ := hrel
    by_cases hlt : k < N
    · have hkl : k < l.length := by rw [HN.out]; exact hlt
      have e1 : decide ((k : Int) < (N : Int)) = true := decide_eq_true (by omega)
      have k1 : (0 : Int) ≤ (k : Int) := by omega
      have k2 : (k : Int) < (N : Int) := by omega
      have hw3 : IntKind.i64.wrap ((k : Int) + 1) = ((k + 1 : Nat) : Int) := by rw [IntWalk.i64_in _ (by omega)]; omega
      obtain ⟨b, o, rfl, hb, hc⟩ := text_elem (HL.out.below HB.out) hkl
      have HS := Lib.hid (fun h => HU.out.succ hkl h)
      have HH := Lib.hid (fun h => HU.out.hit hkl h)
      obtain ⟨x, hx⟩ : ∃ x, l[k] = x := ⟨_, rfl⟩
      rw [hx] at hc HS HH
      clear hx
      cases hqx : q x with
      | true =>
        have HF := Lib.hid (HH.out hqx)
        go_wp2_with (refine (HQ.out x _).mono ?_; rintro e w2 ⟨rfl, hb2⟩; rw [hqx])
        go_ret
        exact ⟨ret_int HF.out, HB.out.trans (hb2.mono HB.out.size)⟩
      | false =>
        have HF := Lib.hid (HS.out hqx)
        go_wp2_with (refine (HQ.out x _).mono ?_; rintro e w2 ⟨rfl, hb2⟩; rw [hqx])
        exact ⟨⟨k + 1, by omega, by first | rfl | go_num, HF, Lib.hid (HB.out.trans (hb2.mono HB.out.size))⟩, by simp [intOf]; omega⟩
    · have e1 : decide ((k : Int) < (N : Int)) = false := decide_eq_false (by omega)
      have HF := Lib.hid (HU.out.miss (by rw [HN.out]; omega))
      go_wp2
      go_ret
      exact ⟨ret_int HF.out, HB.out⟩
set_option maxHeartbeats 1000000 in
theorem notNamed_any (s : ByteArray) (w : World) : Calls Try.prog 47 #[.string s] w fun e w' => e = .returned (.bool (!nm s 59)) ∧ Below w.heap.size w w' := by
  have HN := Lib.hid (named_any s 59 (by omega) w)
  go_enter Try.func47, Try.ntmps47
  go_wp2_with (go_at_call 27; refine HN.out.mono ?_; rintro e w1 ⟨rfl, rfl⟩)
  go_ret
  exact ⟨rfl, Below.refl _ _⟩
set_option maxHeartbeats 1000000 in
theorem containsBad (A : Option Addr) (c N : Nat) (l : List ByteArray) (w : World) (hl : Rd w w.heap.size A (l.map Value.string)) (hN : l.length = N) (hlen : N ≤ maxLen) :
    Calls Try.prog 46 #[.slice A N c, .func (.func 47) #[] #[]] w fun e w' => e = .returned (.bool (l.any fun s => !nm s 59)) ∧ Below w.heap.size w w' := by
  subst hN
  have HI := Lib.hid (indexText_any 47 (fun s => !nm s 59) w (fun args W => by kernel_rfl) (fun x W => notNamed_any x W) A c l hl hlen)
  have HE := Lib.hid (idx_any (fun s => !nm s 59) l)
  clear hl
  go_enter Try.func46, Try.ntmps46
  go_wp2_with (go_at_call 65; refine HI.out.mono ?_; rintro e w1 ⟨rfl, hb1⟩)
  go_ret
  exact ⟨ret_bool HE.out, hb1⟩

/-- a variable that holds an edit -/
def EBox (T : TypeId) (w : World) (g : Nat) (A : Option Addr) (n c : Nat) (D : Option Addr) (m d : Nat) (nx fl : Nat) : Prop := w.heap[g]? = some (.cells #[.slice A n c, .slice D m d, .int .u64 nx, .int .u64 fl] T (0, 0))
theorem EBox.lt {T : TypeId} {w : World} {g n c m d nx fl : Nat} {A D : Option Addr} (h : EBox T w g A n c D m d nx fl) : g < w.heap.size := (Array.getElem?_eq_some_iff.1 h).1
theorem EBox.cells {T : TypeId} {w : World} {g n c m d nx fl : Nat} {A D : Option Addr} (h : EBox T w g A n c D m d nx fl) : w.cell? ⟨g, 0, none⟩ = some (.slice A n c) ∧ w.cell? ⟨g, 1, none⟩ = some (.slice D m d) ∧ w.cell? ⟨g, 2, none⟩ = some (.int .u64 nx) ∧ w.cell? ⟨g, 3, none⟩ = some (.int .u64 fl) := by
  have f := fun j => cell_of_row w g j _ _ (0, 0) h
  exact ⟨f 0, f 1, f 2, f 3⟩
theorem EBox.range {T : TypeId} {w : World} {g n c m d nx fl : Nat} {A D : Option Addr} (h : EBox T w g A n c D m d nx fl) : w.rangeAt g 0 [.slice A n c, .slice D m d, .int .u64 nx, .int .u64 fl] := fun j v hv => by
  rw [Nat.zero_add, cell_of_row w g j _ _ (0, 0) h, ← Array.getElem?_toList]
  exact hv
theorem EBox.below {T : TypeId} {w w' : World} {g B n c m d nx fl : Nat} {A D : Option Addr} (h : EBox T w g A n c D m d nx fl) (hb : Below B w w') (hg : g < B) : EBox T w' g A n c D m d nx fl := (hb.block g hg).trans h
theorem EBox.new (T : TypeId) (w : World) (A : Option Addr) (n c : Nat) (D : Option Addr) (m d : Nat) (nx fl : Nat) : EBox T (w.alloc (.cells #[.slice A n c, .slice D m d, .int .u64 nx, .int .u64 fl] T)) w.heap.size A n c D m d nx fl := heap_alloc_new w _
end Go.Proofs.Ytaeemeoffnhgfaa
