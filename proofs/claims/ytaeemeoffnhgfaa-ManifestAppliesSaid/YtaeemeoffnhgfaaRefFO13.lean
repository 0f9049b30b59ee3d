/-
  The walks of the reference's Find and Over, and of the law's edit.
-/
import Derived.Test.YtaeemeoffnhgfaaRefPlain13
import Derived.Test.YtaeemeoffnhgfaaRegion
namespace Go.Proofs.Ytaeemeoffnhgfaa
open Go.RowKit
attribute [local go_sem ↓] Go.wp_at_zero Go.wp_at_succ

def SBoxR (w : World) (g : Nat) (A : Option Addr) (n c : Nat) (nx fl : Int) : Prop := w.heap[g]? = some (.cells #[.slice A n c, .int .u64 nx, .int .u64 fl] 44 (0, 0))
theorem SBoxR.lt {w : World} {g n c : Nat} {A : Option Addr} {nx fl : Int} (h : SBoxR w g A n c nx fl) : g < w.heap.size := (Array.getElem?_eq_some_iff.1 h).1
theorem SBoxR.cells {w : World} {g n c : Nat} {A : Option Addr} {nx fl : Int} (h : SBoxR w g A n c nx fl) : w.cell? ⟨g, 0, none⟩ = some (.slice A n c) ∧ w.cell? ⟨g, 1, none⟩ = some (.int .u64 nx) ∧ w.cell? ⟨g, 2, none⟩ = some (.int .u64 fl) := by
  have f := fun j => cell_of_row w g j _ _ (0, 0) h
  exact ⟨f 0, f 1, f 2⟩
theorem SBoxR.below {w w' : World} {g n c : Nat} {A : Option Addr} {nx fl : Int} (h : SBoxR w g A n c nx fl) (hb : Below w.heap.size w w') : SBoxR w' g A n c nx fl := (hb.block g h.lt).trans h
theorem SBoxR.new (w : World) (A : Option Addr) (n c : Nat) (nx fl : Int) : SBoxR (w.alloc (.cells #[.slice A n c, .int .u64 nx, .int .u64 fl] 44)) w.heap.size A n c nx fl := heap_alloc_new w _
theorem sboxR_at {w wr : World} {B : Nat} {A : Option Addr} {n c : Nat} {nx fl : Int} (hb : Below B (w.alloc (.cells #[.slice A n c, .int .u64 nx, .int .u64 fl] 44)) wr) (hB : w.heap.size < B) : SBoxR wr w.heap.size A n c nx fl :=
  (hb.block w.heap.size hB).trans (SBoxR.new w A n c nx fl)
theorem SBoxR.grown {w w' : World} {g n c B e size m d : Nat} {A A' : Option Addr} {nx fl : Int} {xs : List Value} (h : SBoxR w g A n c nx fl) (ho : Own w B e size A' m d xs) (hg : w.grownBy w' (blk A')) (hB : g < B) : SBoxR w' g A n c nx fl :=
  (hg.block g h.lt (fun e => by have := (Own.lt ho g e.symm).1; omega)).trans h
theorem made_stR (w : World) (A : Option Addr) (N c : Nat) (nx fl : Int) : OwnR ((w.alloc (.cells #[.slice A N c, .int .u64 nx, .int .u64 fl] 44)).alloc (.cells #[] 76)) (w.heap.size + 1) (some ⟨w.heap.size + 1, 0, none⟩) 0 0 [] ∧ SBoxR ((w.alloc (.cells #[.slice A N c, .int .u64 nx, .int .u64 fl] 44)).alloc (.cells #[] 76)) w.heap.size A N c nx fl ∧ Below w.heap.size w ((w.alloc (.cells #[.slice A N c, .int .u64 nx, .int .u64 fl] 44)).alloc (.cells #[] 76)) := by
  have hb0 := below_al w (.cells #[.slice A N c, .int .u64 nx, .int .u64 fl] 44)
  have hb1 := below_al (w.alloc (.cells #[.slice A N c, .int .u64 nx, .int .u64 fl] 44)) (.cells #[] 76)
  refine ⟨?_, (SBoxR.new w A N c nx fl).below hb1, hb0.trans (hb1.mono hb0.size)⟩
  have := Own.new0' (w.alloc (.cells #[.slice A N c, .int .u64 nx, .int .u64 fl] 44)) 76 5
  rw [World.size_alloc] at this
  exact this
theorem rd_elemB {w : World} {B k : Nat} {A : Option Addr} {l : List Fi} (h : Rd w B A (fis l)) (hk : k < l.length) : ∃ b o, A = some ⟨b, o, none⟩ ∧ b < B ∧ w.rangeAt b (o + k * 5) l[k].vals := by
  obtain ⟨b, o, e, hb, hc⟩ := h.at_ (fis_ne hk)
  exact ⟨b, o, e, hb, Rd.enc_range Fi.vals_len hc k hk⟩
theorem bl_lt (a b : ByteArray) : Op.bytesLess a.toList b.toList = lt a b := rfl
set_option maxRecDepth 10000 in
set_option maxHeartbeats 4000000 in
theorem refFindF_any (A : Option Addr) (c N : Nat) (l : List Fi) (nx fl : Int) (row : ByteArray) (w : World) (hl : Rd w w.heap.size A (fis l)) (hN : l.length = N) (hlen : N ≤ 100000) :
    Calls Try.prog 19 #[.agg #[.slice A N c, .int .u64 nx, .int .u64 fl], .string row] w fun e w' => ∃ (A' : Option Addr) (n' c' : Nat), e = .returned (.slice A' n' c') ∧ n' ≤ N ∧ OwnR w' w.heap.size A' n' c' (l.filter (onRow row)) ∧ Below w.heap.size w w' := by
  have HL := Lib.hid hl
  have HN := Lib.hid hN
  obtain ⟨ho0, hs0, hb0⟩ := made_stR w A N c nx fl
  have HO0 := Lib.hid ho0
  have HS0 := Lib.hid hs0
  have HB0 := Lib.hid hb0
  clear hl hN ho0 hs0 hb0
  go_enter Try.func19, Try.ntmps19
  go_wp2
  go_loopw [5, 6] (fun vo vi wr => ∃ (k n : Nat) (Ao : Option Addr) (co : Nat), vo = .slice Ao n co ∧ vi = .int .i64 (k : Int) ∧ k ≤ N ∧ n ≤ k ∧ Hid (OwnR wr (w.heap.size + 1) Ao n co ((l.take k).filter (onRow row))) ∧ Hid (SBoxR wr w.heap.size A N c nx fl) ∧ Hid (Below w.heap.size w wr)) (fun _ vi _ => N - (intOf vi).toNat)
  case atStart => exact ⟨0, 0, _, 0, rfl, rfl, Nat.zero_le _, Nat.le_refl _, HO0, HS0, HB0⟩
  case round =>
    clear HO0 HS0 HB0
    obtain ⟨k, n, Ao, co, rfl, rfl, hk, hnk, HO, HS, HB⟩ := hrel
    rename World => wr
    obtain ⟨s0, s1, s2⟩ := HS.out.cells
    by_cases hlt : k < N
    · have e1 : decide ((k : Int) < (N : Int)) = true := decide_eq_true (by omega)
      have k1 : (0 : Int) ≤ (k : Int) := by omega
      have k2 : (k : Int) < (N : Int) := by omega
      have hkl : k < l.length := by rw [HN.out]; exact hlt
      obtain ⟨b, o, rfl, hbl, hr⟩ := rd_elemB (HL.out.below HB.out) hkl
      have hfn := filter_next (q := onRow row) hkl
      obtain ⟨x, hx⟩ : ∃ x, l[k] = x := ⟨_, rfl⟩
      rw [hx] at hr hfn
      have c0 : wr.cell? ⟨b, o + k * 5, none⟩ = some (.int .i64 x.level) := hr 0 _ rfl
      have c1 : wr.cell? ⟨b, o + k * 5 + 1, none⟩ = some (.string x.name) := hr 1 _ rfl
      have c2 : wr.cell? ⟨b, o + k * 5 + 2, none⟩ = some (.string x.low) := hr 2 _ rfl
      have c3 : wr.cell? ⟨b, o + k * 5 + 3, none⟩ = some (.string x.high) := hr 3 _ rfl
      have c4 : wr.cell? ⟨b, o + k * 5 + 4, none⟩ = some (.int .i64 x.many) := hr 4 _ rfl
      have HR := Lib.hid hr
      clear hr hx
      cases h1 : lt row x.low with
      | true =>
        have hq : onRow row x = false := by unfold onRow meets; rw [h1]; rfl
        rw [hq, if_neg Bool.false_ne_true, List.append_nil] at hfn
        have HFN := Lib.hid hfn
        clear hfn
        rw [← bl_lt] at h1
        go_wp2
        exact ⟨⟨k + 1, n, Ao, co, rfl, by first | rfl | go_num, by omega, by omega, Lib.hid (by rw [HFN.out]; exact HO.out), HS, HB⟩, by simp [intOf]; omega⟩
      | false =>
        have e2 := leq_list row x.high
        cases h2 : lt x.high row with
        | true =>
          have hq : onRow row x = false := by unfold onRow meets; rw [h1, h2]; rfl
          rw [hq, if_neg Bool.false_ne_true, List.append_nil] at hfn
          have HFN := Lib.hid hfn
          clear hfn
          rw [h2] at e2
          rw [← bl_lt] at h1
          clear h2
          go_wp2
          exact ⟨⟨k + 1, n, Ao, co, rfl, by first | rfl | go_num, by omega, by omega, Lib.hid (by rw [HFN.out]; exact HO.out), HS, HB⟩, by simp [intOf]; omega⟩
        | false =>
          have hq : onRow row x = true := by unfold onRow meets; rw [h1, h2]; rfl
          rw [hq, if_pos rfl] at hfn
          have HFN := Lib.hid hfn
          clear hfn
          rw [h2] at e2
          rw [← bl_lt] at h1
          clear h2
          go_wp2_with (first
            | (show wpList _ _ _ ({ dst := some 38, op := Op.load _ _, type := _, pos := _, after := _, guard := _ } :: _) _ _; refine wpList_load_mid rfl 76 (.tmp 37) rfl b (o + k * 5) rfl [.int .i64 x.level, .string x.name, .string x.low, .string x.high, .int .i64 x.many] _ HR.out Try.underlying76 rfl (by kernel_rfl) ?_)
            | fail
            | (at_builtin; show wpList _ _ _ ({ dst := some 40, op := _, type := _, pos := _, after := _, guard := _ } :: _) _ _; go_loud (refine refs_app rfl _ _ rfl (w.heap.size + 1) Ao n co (n + 1) ((l.take k).filter (onRow row)) [x] rfl (OwnR.below HO.out (below_al _ _)) (some ⟨wr.heap.size, 0, none⟩) 1 1 rfl (rd_made x rfl rfl) rfl rfl (by omega) (by rw [World.size_alloc]; have := (SBoxR.lt HS.out); omega) ?_); intro A8 c8 w8 HO8 HG8; rw [← HFN.out] at HO8; have HB8 := Lib.hid (Own.grow (OwnR.below HO.out (below_al _ _)) (HB.out.trans ((below_al _ _).mono HB.out.size)) (by rw [World.size_alloc]; have := HB.out.size; omega) (Nat.le_succ _) HG8.out); have HS8 := Lib.hid (SBoxR.grown (HS.out.below (below_al _ _)) (OwnR.below HO.out (below_al _ _)) HG8.out (Nat.lt_succ_self _))))
          exact ⟨⟨k + 1, n + 1, A8, c8, rfl, by first | rfl | go_num, by omega, by omega, HO8, HS8, HB8⟩, by simp [intOf]; omega⟩
    · have e1 : decide ((k : Int) < (N : Int)) = false := decide_eq_false (by omega)
      have ho := HO.out
      rw [List.take_of_length_le (by rw [HN.out]; omega)] at ho
      have HOF := Lib.hid ho
      clear ho
      go_wp2
      go_ret
      exact ⟨Ao, n, co, rfl, by omega, Own.lower HOF.out (Nat.le_succ _), HB.out⟩
set_option maxRecDepth 10000 in
set_option maxHeartbeats 4000000 in
theorem refOver_any (A : Option Addr) (c N : Nat) (l : List Fi) (nx fl z : Int) (lo hi : ByteArray) (w : World) (hl : Rd w w.heap.size A (fis l)) (hN : l.length = N) (hlen : N ≤ 100000) :
    Calls Try.prog 21 #[.agg #[.slice A N c, .int .u64 nx, .int .u64 fl], .int .i64 z, .string lo, .string hi] w fun e w' => ∃ (A' : Option Addr) (n' c' : Nat), e = .returned (.slice A' n' c') ∧ n' ≤ N ∧ OwnR w' w.heap.size A' n' c' (l.filter (onRows z lo hi)) ∧ Below w.heap.size w w' := by
  have HL := Lib.hid hl
  have HN := Lib.hid hN
  obtain ⟨ho0, hs0, hb0⟩ := made_stR w A N c nx fl
  have HO0 := Lib.hid ho0
  have HS0 := Lib.hid hs0
  have HB0 := Lib.hid hb0
  clear hl hN ho0 hs0 hb0
  go_enter Try.func21, Try.ntmps21
  go_wp2
  go_loopw [9, 10] (fun vo vi wr => ∃ (k n : Nat) (Ao : Option Addr) (co : Nat), vo = .slice Ao n co ∧ vi = .int .i64 (k : Int) ∧ k ≤ N ∧ n ≤ k ∧ Hid (OwnR wr (w.heap.size + 1) Ao n co ((l.take k).filter (onRows z lo hi))) ∧ Hid (SBoxR wr w.heap.size A N c nx fl) ∧ Hid (Below w.heap.size w wr)) (fun _ vi _ => N - (intOf vi).toNat)
  case atStart => exact ⟨0, 0, _, 0, rfl, rfl, Nat.zero_le _, Nat.le_refl _, HO0, HS0, HB0⟩
  case round =>
    clear HO0 HS0 HB0
    obtain ⟨k, n, Ao, co, rfl, rfl, hk, hnk, HO, HS, HB⟩ := hrel
    rename World => wr
    obtain ⟨s0, s1, s2⟩ := HS.out.cells
    by_cases hlt : k < N
    · have e1 : decide ((k : Int) < (N : Int)) = true := decide_eq_true (by omega)
      have k1 : (0 : Int) ≤ (k : Int) := by omega
      have k2 : (k : Int) < (N : Int) := by omega
      have hkl : k < l.length := by rw [HN.out]; exact hlt
      obtain ⟨b, o, rfl, hbl, hr⟩ := rd_elemB (HL.out.below HB.out) hkl
      have hfn := filter_next (q := onRows z lo hi) hkl
      obtain ⟨x, hx⟩ : ∃ x, l[k] = x := ⟨_, rfl⟩
      rw [hx] at hr hfn
      have c0 : wr.cell? ⟨b, o + k * 5, none⟩ = some (.int .i64 x.level) := hr 0 _ rfl
      have c1 : wr.cell? ⟨b, o + k * 5 + 1, none⟩ = some (.string x.name) := hr 1 _ rfl
      have c2 : wr.cell? ⟨b, o + k * 5 + 2, none⟩ = some (.string x.low) := hr 2 _ rfl
      have c3 : wr.cell? ⟨b, o + k * 5 + 3, none⟩ = some (.string x.high) := hr 3 _ rfl
      have c4 : wr.cell? ⟨b, o + k * 5 + 4, none⟩ = some (.int .i64 x.many) := hr 4 _ rfl
      have HR := Lib.hid hr
      clear hr hx
      by_cases hz : x.level = z
      · have h1 : decide (x.level = z) = true := decide_eq_true hz
        have h2 : (x.level == z) = true := by simpa using hz
        have HCM := Lib.hid (fun W => (show Calls Try.prog 41 #[.agg #[.int .i64 x.level, .string x.name, .string x.low, .string x.high, .int .i64 x.many], .agg #[.int .i64 0, .string ⟨#[]⟩, .string lo, .string hi, .int .i64 0]] W fun e w' => e = .returned (.bool (meets x lo hi)) ∧ Below W.heap.size W w' from common_any x ⟨0, ⟨#[]⟩, lo, hi, 0⟩ W))
        have hbw := Nat.lt_of_lt_of_le hbl HB.out.size
        cases hm : meets x lo hi with
        | true =>
          have hq : onRows z lo hi x = true := by unfold onRows; rw [h1, hm]; rfl
          rw [hq, if_pos rfl] at hfn
          have HFN := Lib.hid hfn
          clear hfn
          clear h1 hz
          go_wp2_with (first
            | (show wpList _ _ _ ({ dst := some 43, op := Op.load _ _, type := _, pos := _, after := _, guard := _ } :: _) _ _; refine wpList_load_mid rfl 76 (.tmp 42) rfl b (o + k * 5) rfl [.int .i64 x.level, .string x.name, .string x.low, .string x.high, .int .i64 x.many] _ HR6.out Try.underlying76 rfl (by kernel_rfl) ?_)
            | (go_at_call 41; refine (HCM.out _).mono ?_; rintro e w6 ⟨rfl, hb6⟩; rw [hm]; clear HCM; have HO6 := Lib.hid (OwnR.below HO.out hb6); have HS6 := Lib.hid (HS.out.below hb6); have HB6 := Lib.hid (HB.out.trans (hb6.mono HB.out.size)); obtain ⟨t0, t1, t2⟩ := HS6.out.cells; have HR6 := Lib.hid (rangeAt_below HR.out hb6 hbw); clear hb6)
            | (at_builtin; show wpList _ _ _ ({ dst := some 45, op := _, type := _, pos := _, after := _, guard := _ } :: _) _ _; go_loud (refine refs_app rfl _ _ rfl (w.heap.size + 1) Ao n co (n + 1) ((l.take k).filter (onRows z lo hi)) [x] rfl (OwnR.below HO6.out (below_al _ _)) (some ⟨w6.heap.size, 0, none⟩) 1 1 rfl (rd_made x rfl rfl) rfl rfl (by omega) (by rw [World.size_alloc]; have := (SBoxR.lt HS6.out); omega) ?_); intro A8 c8 w8 HO8 HG8; rw [← HFN.out] at HO8; have HB8 := Lib.hid (Own.grow (OwnR.below HO6.out (below_al _ _)) (HB6.out.trans ((below_al _ _).mono HB6.out.size)) (by rw [World.size_alloc]; have := HB6.out.size; omega) (Nat.le_succ _) HG8.out); have HS8 := Lib.hid (SBoxR.grown (HS6.out.below (below_al _ _)) (OwnR.below HO6.out (below_al _ _)) HG8.out (Nat.lt_succ_self _))))
          exact ⟨⟨k + 1, n + 1, A8, c8, rfl, by first | rfl | go_num, by omega, by omega, HO8, HS8, HB8⟩, by simp [intOf]; omega⟩
        | false =>
          have hq : onRows z lo hi x = false := by unfold onRows; rw [h1, hm]; rfl
          rw [hq, if_neg Bool.false_ne_true, List.append_nil] at hfn
          have HFN := Lib.hid hfn
          clear hfn
          clear h1 hz
          go_wp2_with (first
            | (go_at_call 41; refine (HCM.out _).mono ?_; rintro e w6 ⟨rfl, hb6⟩; rw [hm]; clear HCM; have HO6 := Lib.hid (OwnR.below HO.out hb6); have HS6 := Lib.hid (HS.out.below hb6); have HB6 := Lib.hid (HB.out.trans (hb6.mono HB.out.size)); obtain ⟨t0, t1, t2⟩ := HS6.out.cells; have HR6 := Lib.hid (rangeAt_below HR.out hb6 hbw); clear hb6))
          exact ⟨⟨k + 1, n, Ao, co, rfl, by first | rfl | go_num, by omega, by omega, Lib.hid (by rw [HFN.out]; exact HO6.out), HS6, HB6⟩, by simp [intOf]; omega⟩
      · have h1 : decide (x.level = z) = false := decide_eq_false hz
        have h2 : (x.level == z) = false := by simpa using hz
        have hq : onRows z lo hi x = false := by unfold onRows; rw [h1]; rfl
        rw [hq, if_neg Bool.false_ne_true, List.append_nil] at hfn
        have HFN := Lib.hid hfn
        clear hfn
        go_wp2
        exact ⟨⟨k + 1, n, Ao, co, rfl, by first | rfl | go_num, by omega, by omega, Lib.hid (by rw [HFN.out]; exact HO.out), HS, HB⟩, by simp [intOf]; omega⟩
    · have e1 : decide ((k : Int) < (N : Int)) = false := decide_eq_false (by omega)
      have ho := HO.out
      rw [List.take_of_length_le (by rw [HN.out]; omega)] at ho
      have HOF := Lib.hid ho
      clear ho
      go_wp2
      go_ret
      exact ⟨Ao, n, co, rfl, by omega, Own.lower HOF.out (Nat.le_succ _), HB.out⟩
theorem OwnR.apart_from {w w' : World} {B n c M : Nat} {A : Option Addr} {l : List Fi} (h : OwnR w B A n c l) (hg : w.grownBy w' (some M)) (hM : M < B) : OwnR w' B A n c l := Own.grown h hg (.inr fun e => by have := (Own.lt h M e).1; omega)
/-- an edit of the reference's in a variable -/
def EBoxR (w : World) (g : Nat) (A : Option Addr) (n c : Nat) (A' : Option Addr) (n' c' : Nat) (nx fl : Int) : Prop := w.heap[g]? = some (.cells #[.slice A n c, .slice A' n' c', .int .u64 nx, .int .u64 fl] 49 (0, 0))
theorem EBoxR.there {w : World} {g n c n' c' : Nat} {A A' : Option Addr} {nx fl : Int} (h : EBoxR w g A n c A' n' c' nx fl) : w.there g 0 4 := fun j hj => by
  refine ⟨?_, frozen_of_row _ _ _ _ _ h⟩
  rw [Nat.zero_add, cell_of_row _ _ _ _ _ (0, 0) h, Array.getElem?_eq_getElem (by simpa using hj)]
  rfl
theorem EBoxR.setW {w : World} {g n0 c0 n1 c1 : Nat} {A0 A1 : Option Addr} {x0 y0 : Int} (h : EBoxR w g A0 n0 c0 A1 n1 c1 x0 y0) (A : Option Addr) (n c : Nat) (A' : Option Addr) (n' c' : Nat) (nx fl : Int) {M : World → Prop}
    (hM : ∀ w', Hid (EBoxR w' g A n c A' n' c' nx fl) → Hid (w.grownBy w' (some g)) → M w') : M (w.setCells g 0 (edC A n c A' n' c' nx fl).toList) := by
  have hg := (setCells_block _ _ (edC A n c A' n' c' nx fl).toList 0 w _ h).2
  have h1 := heap_setCell_same w _ 0 _ _ (.slice A n c) h
  have h2 := heap_setCell_same _ _ 1 _ _ (.slice A' n' c') h1
  have h3 := heap_setCell_same _ _ 2 _ _ (.int .u64 nx) h2
  have h4 := heap_setCell_same _ _ 3 _ _ (.int .u64 fl) h3
  exact hM _ (Lib.hid h4) (Lib.hid hg)
theorem edC_one (A : Option Addr) (n c : Nat) (A' : Option Addr) (n' c' : Nat) (nx fl : Int) : (edC A n c A' n' c' nx fl).all (·.oneCell') = true := by simp [edC, Value.oneCell']
theorem made_edit (w : World) (A : Option Addr) (n c : Nat) (A' : Option Addr) (n' c' : Nat) (nx fl : Int) :
    (((w.alloc (.cells #[.slice A n c, .slice A' n' c', .int .u64 nx, .int .u64 fl] 36)).alloc (.cells #[.slice none 0 0, .slice none 0 0, .int .u64 0, .int .u64 0] 49)).cell? ⟨w.heap.size, 0, none⟩ = some (.slice A n c) ∧ ((w.alloc (.cells #[.slice A n c, .slice A' n' c', .int .u64 nx, .int .u64 fl] 36)).alloc (.cells #[.slice none 0 0, .slice none 0 0, .int .u64 0, .int .u64 0] 49)).cell? ⟨w.heap.size, 1, none⟩ = some (.slice A' n' c') ∧ ((w.alloc (.cells #[.slice A n c, .slice A' n' c', .int .u64 nx, .int .u64 fl] 36)).alloc (.cells #[.slice none 0 0, .slice none 0 0, .int .u64 0, .int .u64 0] 49)).cell? ⟨w.heap.size, 2, none⟩ = some (.int .u64 nx) ∧ ((w.alloc (.cells #[.slice A n c, .slice A' n' c', .int .u64 nx, .int .u64 fl] 36)).alloc (.cells #[.slice none 0 0, .slice none 0 0, .int .u64 0, .int .u64 0] 49)).cell? ⟨w.heap.size, 3, none⟩ = some (.int .u64 fl)) ∧
    EBoxR ((w.alloc (.cells #[.slice A n c, .slice A' n' c', .int .u64 nx, .int .u64 fl] 36)).alloc (.cells #[.slice none 0 0, .slice none 0 0, .int .u64 0, .int .u64 0] 49)) (w.heap.size + 1) none 0 0 none 0 0 0 0 ∧ Below w.heap.size w ((w.alloc (.cells #[.slice A n c, .slice A' n' c', .int .u64 nx, .int .u64 fl] 36)).alloc (.cells #[.slice none 0 0, .slice none 0 0, .int .u64 0, .int .u64 0] 49)) ∧ ((w.alloc (.cells #[.slice A n c, .slice A' n' c', .int .u64 nx, .int .u64 fl] 36)).alloc (.cells #[.slice none 0 0, .slice none 0 0, .int .u64 0, .int .u64 0] 49)).heap.size = w.heap.size + 2 := by
  have hb0 := below_al w (.cells #[.slice A n c, .slice A' n' c', .int .u64 nx, .int .u64 fl] 36)
  have hb1 := below_al (w.alloc (.cells #[.slice A n c, .slice A' n' c', .int .u64 nx, .int .u64 fl] 36)) (.cells #[.slice none 0 0, .slice none 0 0, .int .u64 0, .int .u64 0] 49)
  have h0 : ((w.alloc (.cells #[.slice A n c, .slice A' n' c', .int .u64 nx, .int .u64 fl] 36)).alloc (.cells #[.slice none 0 0, .slice none 0 0, .int .u64 0, .int .u64 0] 49)).heap[w.heap.size]? = some (.cells #[.slice A n c, .slice A' n' c', .int .u64 nx, .int .u64 fl] 36 (0, 0)) := (hb1.block w.heap.size (by rw [World.size_alloc]; omega)).trans (heap_alloc_new w _)
  have f := fun j => cell_of_row _ w.heap.size j _ _ (0, 0) h0
  refine ⟨⟨f 0, f 1, f 2, f 3⟩, ?_, hb0.trans (hb1.mono hb0.size), by simp only [World.size_alloc]⟩
  have := heap_alloc_new (w.alloc (.cells #[.slice A n c, .slice A' n' c', .int .u64 nx, .int .u64 fl] 36)) (.cells #[.slice none 0 0, .slice none 0 0, .int .u64 0, .int .u64 0] 49)
  rw [World.size_alloc] at this
  exact this
set_option maxRecDepth 10000 in
set_option maxHeartbeats 4000000 in
theorem edit_any (A A' : Option Addr) (c n c' n' : Nat) (l : List Fi) (nx fl : Int) (w : World) (hl : Rd w w.heap.size A (fis l)) (hN : l.length = n) (hlen : n ≤ 100000) :
    Calls Try.prog 17 #[.agg #[.slice A n c, .slice A' n' c', .int .u64 nx, .int .u64 fl]] w fun e w' => ∃ (B : Option Addr) (d : Nat), e = .returned (.agg #[.slice B n d, .slice A' n' c', .int .u64 nx, .int .u64 fl]) ∧ OwnR w' w.heap.size B n d l ∧ Below w.heap.size w w' := by
  obtain ⟨hcs, hbx, hb2, hz2⟩ := made_edit w A n c A' n' c' nx fl
  obtain ⟨w2, hw2⟩ : ∃ w2, ((w.alloc (.cells #[.slice A n c, .slice A' n' c', .int .u64 nx, .int .u64 fl] 36)).alloc (.cells #[.slice none 0 0, .slice none 0 0, .int .u64 0, .int .u64 0] 49)) = w2 := ⟨_, rfl⟩
  rw [hw2] at hcs hbx hb2 hz2
  have HW2 := Lib.hid hw2
  have HCS := Lib.hid hcs
  have HBX := Lib.hid hbx
  have HB2 := Lib.hid hb2
  have HZ2 := Lib.hid hz2
  have HF := Lib.hid (fun W (hb : Below w2.heap.size w2 W) => filesL_any A c n l W ((hl.below (hb2.trans (hb.mono hb2.size))).more (Nat.le_trans hb2.size hb.size)) hN hlen)
  clear hcs hbx hb2 hz2 hw2 hl
  go_enter Try.func17, Try.ntmps17
  go_wp2
  rw [HW2.out]
  obtain ⟨CC, hCD⟩ : ∃ CC : World → Prop, ∀ W, CC W ↔ Below w2.heap.size w2 W := ⟨fun W => Below w2.heap.size w2 W, fun W => Iff.rfl⟩
  have hmk : ∀ W, Below w2.heap.size w2 W → W.cell? ⟨w.heap.size, 0, none⟩ = some (.slice A n c) ∧ W.cell? ⟨w.heap.size, 1, none⟩ = some (.slice A' n' c') ∧ W.cell? ⟨w.heap.size, 2, none⟩ = some (.int .u64 nx) ∧ W.cell? ⟨w.heap.size, 3, none⟩ = some (.int .u64 fl) ∧ CC W := fun W hb => by
    have hk := fun j => hb.cell (p := ⟨w.heap.size, j, none⟩) (by show w.heap.size < w2.heap.size; rw [HZ2.out]; omega)
    exact ⟨(hk 0).trans HCS.out.1, (hk 1).trans HCS.out.2.1, (hk 2).trans HCS.out.2.2.1, (hk 3).trans HCS.out.2.2.2, (hCD W).2 hb⟩
  have HB := Lib.hid ((Below.refl w2.heap.size w2).drew)
  have HC := hmk _ HB.out
  refine region_wz (fun W => W.cell? ⟨w.heap.size, 0, none⟩ = some (.slice A n c) ∧ W.cell? ⟨w.heap.size, 1, none⟩ = some (.slice A' n' c') ∧ W.cell? ⟨w.heap.size, 2, none⟩ = some (.int .u64 nx) ∧ W.cell? ⟨w.heap.size, 3, none⟩ = some (.int .u64 fl) ∧ CC W) (some 10) (by kernel_rfl) ?_
  apply WZ.take (i := 0) (some 3) rfl rfl (by kernel_rfl) (by kernel_rfl) (by kernel_rfl) (calm_panic _) (by kernel_rfl)
  case hy => (refine .inl ⟨by kernel_rfl, fun W hC => ?_⟩; (try dsimp only at hC); go_simp; rfl)
  case hC => exact HC
  case ha => (simp only [Act.put, List.setIfInBounds_toArray, List.set_cons_zero, List.set_cons_succ]; rfl)
  apply WZ.take (i := 1) (some 4) rfl rfl (by kernel_rfl) (by kernel_rfl) (by kernel_rfl) (calm_panic _) (by kernel_rfl)
  case hy => (refine .inl ⟨by kernel_rfl, fun W hC => ?_⟩; (try dsimp only at hC); go_simp; rfl)
  case hC => exact HC
  case ha => (simp only [Act.put, List.setIfInBounds_toArray, List.set_cons_zero, List.set_cons_succ]; rfl)
  apply WZ.take (i := 3) (some 6) rfl rfl (by kernel_rfl) (by kernel_rfl) (by kernel_rfl) (calm_panic _) (by kernel_rfl)
  case hy => (refine .inl ⟨by kernel_rfl, fun W hC => ?_⟩; (try dsimp only at hC); go_simp; rfl)
  case hC => exact HC
  case ha => (simp only [Act.put, List.setIfInBounds_toArray, List.set_cons_zero, List.set_cons_succ]; rfl)
  apply WZ.take (i := 4) (some 7) rfl rfl (by kernel_rfl) (by kernel_rfl) (by kernel_rfl) (calm_panic _) (by kernel_rfl)
  case hy => (refine .inl ⟨by kernel_rfl, fun W hC => ?_⟩; (try dsimp only at hC); go_simp; rfl)
  case hC => exact HC
  case ha => (simp only [Act.put, List.setIfInBounds_toArray, List.set_cons_zero, List.set_cons_succ]; rfl)
  apply WZ.take (i := 5) (some 8) rfl rfl (by kernel_rfl) (by kernel_rfl) (by kernel_rfl) (calm_panic _) (by kernel_rfl)
  case hy => (refine .inl ⟨by kernel_rfl, fun W hC => ?_⟩; (try dsimp only at hC); go_simp; rfl)
  case hC => exact HC
  case ha => (simp only [Act.put, List.setIfInBounds_toArray, List.set_cons_zero, List.set_cons_succ]; rfl)
  apply WZ.take (i := 6) (some 9) rfl rfl (by kernel_rfl) (by kernel_rfl) (by kernel_rfl) (calm_panic _) (by kernel_rfl)
  case hy => (refine .inl ⟨by kernel_rfl, fun W hC => ?_⟩; (try dsimp only at hC); go_simp; rfl)
  case hC => exact HC
  case ha => (simp only [Act.put, List.setIfInBounds_toArray, List.set_cons_zero, List.set_cons_succ]; rfl)
  apply WZ.take (i := 7) (some 10) rfl rfl (by kernel_rfl) (by kernel_rfl) (by kernel_rfl) (calm_panic _) (by kernel_rfl)
  case hy => (refine .inl ⟨by kernel_rfl, fun W hC => ?_⟩; (try dsimp only at hC); go_simp; rfl)
  case hC => exact HC
  case ha => (simp only [Act.put, List.setIfInBounds_toArray, List.set_cons_zero, List.set_cons_succ]; rfl)
  apply WZ.take (i := 8) (some 11) rfl rfl (by kernel_rfl) (by kernel_rfl) (by kernel_rfl) (calm_panic _) (by kernel_rfl)
  case hy => (refine .inl ⟨by kernel_rfl, fun W hC => ?_⟩; (try dsimp only at hC); go_simp; rfl)
  case hC => exact HC
  case ha => (simp only [Act.put, List.setIfInBounds_toArray, List.set_cons_zero, List.set_cons_succ]; rfl)
  -- 2
  refine WZ.one (i := 2) rfl (by kernel_rfl) ?_
  conv => arg 4; arg 1; whnf
  go_wp2_with (go_at_call 14; refine (HF.out _ HB.out).mono ?_; rintro e w6 ⟨B, d, rfl, ho6, hb6⟩; have HO6 := Lib.hid (Own.lower ho6 HB.out.size : OwnR w6 w2.heap.size B n d l))
  have HB6 := Lib.hid (HB.out.trans (hb6.mono HB.out.size))
  clear HB HC ho6 hb6
  have HC := hmk _ HB6.out
  refine ⟨HC, ?_⟩
  apply WZ.take (i := 9) (some 12) rfl rfl (by kernel_rfl) (by kernel_rfl) (by kernel_rfl) (calm_panic _) (by kernel_rfl)
  case hy => (refine .inl ⟨by kernel_rfl, fun W hC => ?_⟩; (try dsimp only at hC); go_simp; rfl)
  case hC => exact HC
  case ha => (simp only [Act.put, List.setIfInBounds_toArray, List.set_cons_zero, List.set_cons_succ]; rfl)
  -- 10
  refine WZ.last (i := 10) rfl (by kernel_rfl) (by kernel_rfl) ?_
  conv => arg 4; arg 1; whnf
  have hbx := (HB6.out.block (w.heap.size + 1) (by rw [HZ2.out]; omega)).trans HBX.out
  have HBY := Lib.hid (show EBoxR w6 (w.heap.size + 1) none 0 0 none 0 0 0 0 from hbx)
  clear hbx HC hmk hCD
  go_wp2_with (refine wpList_store_mid rfl 49 (.tmp 2) (.tmp 12) rfl (w.heap.size + 1) 0 (edC B n d A' n' c' nx fl) rfl rfl HBY.out.there (by kernel_rfl) (edC_one _ _ _ _ _ _ _ _) ?_; refine HBY.out.setW B n d A' n' c' nx fl ?_; intro w9 HE9 HG9)
  refine WZ.done (by kernel_rfl) ?_ _
  simp only [Calm, Exit.then]
  (try go_wp2)
  refine bodyPost_ret (results_cell_row rfl _ _ (w.heap.size + 1) _ _ _ _ rfl HE9.out Try.underlying49 rfl (by kernel_rfl)) rfl ?_
  refine ⟨B, d, rfl, Own.lower (OwnR.apart_from HO6.out HG9.out (by rw [HZ2.out]; omega)) HB2.out.size, ?_⟩
  exact below_grown (HB2.out.trans (HB6.out.mono HB2.out.size)) (Nat.le_trans HB2.out.size HB6.out.size) HG9.out (Nat.le_succ _)
end Go.Proofs.Ytaeemeoffnhgfaa
