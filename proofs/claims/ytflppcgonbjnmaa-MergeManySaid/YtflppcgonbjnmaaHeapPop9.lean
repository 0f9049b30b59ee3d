/-
  The walks of the sources' Pop, and of the heap's Push and Pop. No conditions.
-/
import Derived.Test.YtflppcgonbjnmaaHeapPush9
import Derived.Test.YtflppcgonbjnmaaArrMore
namespace Go.Proofs.Ytflppcgonbjnmaa
open Go.RowKit
attribute [local go_sem ↓] Go.wp_at_zero Go.wp_at_succ

/-- a variable that holds a source -/
def SrcBox (w : World) (g : Nat) (s : Qs) : Prop := w.heap[g]? = some (.cells #[.pointer (some ⟨s.q, 0, none⟩), .int .i64 s.at_] 78 (0, 0))
theorem SrcBox.range {w : World} {g : Nat} {s : Qs} (h : SrcBox w g s) : w.rangeAt g 0 s.vals := fun j v hv => by
  rw [Nat.zero_add, cell_of_row w g j _ _ (0, 0) h, ← Array.getElem?_toList]
  exact hv
theorem SrcBox.lt {w : World} {g : Nat} {s : Qs} (h : SrcBox w g s) : g < w.heap.size := (Array.getElem?_eq_some_iff.1 h).1
theorem SrcBox.below {w w' : World} {g B : Nat} {s : Qs} (h : SrcBox w g s) (hb : Below B w w') (hg : g < B) : SrcBox w' g s := (hb.block g hg).trans h
theorem SrcBox.madeW (w : World) (v0 v1 : Value) (s : Qs) {M : World → Prop} (hM : ∀ w1, Hid (SrcBox w1 w.heap.size s) → Hid (Below w.heap.size w w1) → M w1) :
    M ((w.alloc (.cells #[v0, v1] 78)).setCells w.heap.size 0 s.vals.toArray.toList) := by
  have h := heap_alloc_new w (.cells #[v0, v1] 78)
  have hg := (setCells_block _ _ s.vals.toArray.toList 0 _ _ h).2
  have h1 := heap_setCell_same _ _ 0 _ _ (.pointer (some ⟨s.q, 0, none⟩)) h
  have h2 := heap_setCell_same _ _ 1 _ _ (.int .i64 s.at_) h1
  exact hM _ (Lib.hid h2) (Lib.hid (below_grown ((Below.refl _ w).alloc (Nat.le_refl _) _) (by rw [World.size_alloc]; omega) hg (Nat.le_refl _)))
theorem there_made2 (w : World) (v0 v1 : Value) : (w.alloc (.cells #[v0, v1] 78)).there w.heap.size 0 2 := fun j hj => by
  have h := heap_alloc_new w (.cells #[v0, v1] 78)
  refine ⟨?_, frozen_of_row _ _ _ _ _ h⟩
  rw [Nat.zero_add, cell_of_row _ _ _ _ _ (0, 0) h, Array.getElem?_eq_getElem (by simpa using hj)]
  rfl
set_option maxRecDepth 20000 in
set_option maxHeartbeats 4000000 in
theorem srcPop_any (B Hb g k c : Nat) (l : List Qs) (s : Qs) (w : World) (h : HSt w B Hb g (k + 1) c l) (hs : l[k]? = some s) (hmx : k + 1 ≤ 1000000) :
    Calls Try.prog 88 #[.pointer (some ⟨Hb, 0, none⟩)] w fun e w' => e = .returned (.iface 78 (.agg s.vals.toArray)) ∧ HSt w' B Hb g k c (l.take k) ∧ Kp w w' Hb g := by
  have HH := Lib.hid h
  have c0 := h.box.cell
  have HR := Lib.hid (h.arr.get hs)
  have k0 : (((k + 1 : Nat) : Int)) - 1 = (k : Int) := by omega
  have k1 : (0 : Int) ≤ (k : Int) := by omega
  have k2 : (k : Int) < ((k + 1 : Nat) : Int) := by omega
  have k3 : (k : Int) ≤ (c : Int) := by have := h.cp; omega
  have k4 : k ≤ c := by have := h.cp; omega
  clear h
  have hone := all_oneCell_toArray (Qs.one s)
  go_enter Try.func88, Try.ntmps88
  go_wp2_with (first
    | (show wpList _ _ _ ({ dst := some 21, op := Op.load _ _, type := _, pos := _, after := _, guard := _ } :: _) _ _; have HI2 := Lib.hid (show SrcBox (w1.setCell ⟨Hb, 0, none⟩ (.slice (some ⟨g, 0, none⟩) k c)) w.heap.size s from (heap_setCell_other w1 ⟨Hb, 0, none⟩ w.heap.size _ (fun e => by have h5 := HH.out.box.lt; simp at e; omega)).trans HI.out); refine wpList_load_mid rfl 78 (.tmp 4) rfl w.heap.size 0 rfl s.vals _ (HI2.out.range) Try.underlying78 rfl (by kernel_rfl) ?_)
    | (show wpList _ _ _ ({ dst := some 13, op := Op.load _ _, type := _, pos := _, after := _, guard := _ } :: _) _ _; refine wpList_load_mid rfl 78 (.tmp 12) rfl g (k * 2) rfl s.vals _ (HR.out) Try.underlying78 rfl (by kernel_rfl) ?_)
    | (show wpList _ _ _ ({ dst := none, op := Op.store _ (.tmp 4) _, type := _, pos := _, after := _, guard := _ } :: _) _ _; refine wpList_store_mid rfl 78 (.tmp 4) (.tmp 13) rfl w.heap.size 0 s.vals.toArray rfl rfl (there_made2 _ _ _) (by kernel_rfl) hone ?_; refine SrcBox.madeW w _ _ s ?_; intro w1 HI HB; have c1 := ((HH.out.box.below HB.out HH.out.box.lt).cell); have f1 := (HH.out.box.below HB.out HH.out.box.lt).free))
  go_ret
  have hB := HH.out.below HB.out
  have hb2 := hB.box.set (.slice (some ⟨g, 0, none⟩) k c)
  have hg2 : w1.grownBy (w1.setCell ⟨Hb, 0, none⟩ (.slice (some ⟨g, 0, none⟩) k c)) (some Hb) := ⟨rfl, rfl, rfl, by simp [World.setCell], fun k _ hk => heap_setCell_other w1 ⟨Hb, 0, none⟩ k _ (fun e => hk (by simp [e]))⟩
  have hmem : ∀ x, x ∈ l.take k → x ∈ l := fun x hx => List.mem_of_mem_take hx
  refine ⟨rfl, ⟨hb2, (hB.arr.take k).keep (hg2.block g hB.arr.lt (fun e => by injection e with e; exact hB.nh e.symm)), by rw [List.length_take, hB.len]; omega, fun x hx => (hB.ins x (hmem x hx)).grown hg2 ?_ hB.hb, fun x hx => hB.nq x (hmem x hx), hB.nh, hB.gb, k4, hB.cm, hB.hb⟩, (Kp.below HB.out).trans (Kp.var hg2) (.inl rfl)⟩
  obtain ⟨A, cc, h1, _⟩ := hB.ins x (hmem x hx)
  rintro e
  have h2 := hB.box
  rw [e] at h1
  unfold Box at h1 h2
  rw [h2] at h1
  injection h1 with h1
  injection h1 with _ h1
  exact absurd h1 (by decide)
theorem srcLen_any (A : Option Addr) (n c : Nat) (w : World) : Calls Try.prog 33 #[.slice A n c] w fun e w' => e = .returned (.int .i64 (n : Int)) ∧ w' = w := by
  go_enter Try.func33, Try.ntmps33
  go_wp2
  go_ret
  exact ⟨rfl, rfl⟩
theorem mPush (Hb : Nat) (w : World) : (method 234 70 (.pointer (some ⟨Hb, 0, none⟩)) "Push").run Try.prog w = .ok (89, .pointer (some ⟨Hb, 0, none⟩)) w := by
  have e : (method (Try.prog.types.size + Made.depth) 70 (.pointer (some ⟨Hb, 0, none⟩)) "Push").run Try.prog w = .ok (89, .pointer (some ⟨Hb, 0, none⟩)) w := by kernel_rfl
  rwa [hdepth] at e
theorem mPop (Hb : Nat) (w : World) : (method 234 70 (.pointer (some ⟨Hb, 0, none⟩)) "Pop").run Try.prog w = .ok (88, .pointer (some ⟨Hb, 0, none⟩)) w := by
  have e : (method (Try.prog.types.size + Made.depth) 70 (.pointer (some ⟨Hb, 0, none⟩)) "Pop").run Try.prog w = .ok (88, .pointer (some ⟨Hb, 0, none⟩)) w := by kernel_rfl
  rwa [hdepth] at e
set_option maxRecDepth 20000 in
set_option maxHeartbeats 4000000 in
theorem heapPush_any (B Hb g n c : Nat) (l : List Qs) (s : Qs) (w : World) (h : HSt w B Hb g n c l) (hs : s.In w B) (hmx : n + 1 ≤ 1000000) :
    Calls Try.prog 32 #[.iface 70 (.pointer (some ⟨Hb, 0, none⟩)), .iface 78 (.agg s.vals.toArray)] w fun e w' => e = .returned (.tuple #[]) ∧ ∃ g' c', HSt w' B Hb g' (n + 1) c' (pushL ltQ l s) ∧ Kp w w' Hb g ∧ (g' = g ∨ w.heap.size ≤ g') := by
  have HH := Lib.hid h
  have mL := mLen Hb
  have mP := mPush Hb
  have HS := Lib.hid hs
  have hl := h.len
  have k0 : (((n + 1 : Nat) : Int)) - 1 = (n : Int) := by omega
  clear h hs
  go_enter Try.func32, Try.ntmps32
  go_wp2_with (first
    | (go_at_call 33; refine (srcLen_any _ _ _ _).mono ?_; rintro e w9 ⟨rfl, rfl⟩)
    | (go_at_call 48; have hq := HM1.out; refine (up_any B Hb g' (n + 1) c' n (l ++ [s]) _ hq (by omega) hmx).mono ?_; rintro e w2 ⟨rfl, h2, hg2⟩; have HM2 := Lib.hid h2; have HG2 := Lib.hid hg2; clear h2 hg2 hq)
    | (go_at_call 89; refine (srcPush_any B Hb g n c l s _ HH.out HS.out (by omega)).mono ?_; rintro e w1 ⟨rfl, g', c', h1, hk1, hg1⟩; have HM1 := Lib.hid h1; have HK1 := Lib.hid hk1; have HG1 := Lib.hid hg1; have c1 := h1.box.cell; clear h1 hk1 hg1))
  go_end0
  refine ⟨rfl, g', c', ?_, HK1.out.trans (Kp.row HG2.out) HG1.out, HG1.out⟩
  unfold pushL
  rw [hl]
  exact HM2.out
set_option maxRecDepth 20000 in
set_option maxHeartbeats 4000000 in
theorem heapPop_any (B Hb g k c : Nat) (l : List Qs) (s : Qs) (w : World) (h : HSt w B Hb g (k + 1) c l) (hs : l[0]? = some s) (hmx : k + 1 ≤ 1000000) :
    Calls Try.prog 34 #[.iface 70 (.pointer (some ⟨Hb, 0, none⟩))] w fun e w' => e = .returned (.iface 78 (.agg s.vals.toArray)) ∧ HSt w' B Hb g k c ((popL ltQ l).take k) ∧ Kp w w' Hb g := by
  have HH := Lib.hid h
  have mL := mLen Hb
  have mS := mSwap Hb
  have mP := mPop Hb
  have hl := h.len
  have hlast := popL_last (lt := ltQ) hs
  rw [hl, Nat.add_sub_cancel] at hlast
  have hpl : popL ltQ l = downL ltQ (swp l 0 k) 0 k := by unfold popL; rw [hl, Nat.add_sub_cancel]
  have k0 : (((k + 1 : Nat) : Int)) - 1 = (k : Int) := by omega
  have c0 := h.box.cell
  rw [hpl] at hlast
  rw [hpl]
  have HLA := Lib.hid hlast
  clear hlast hpl h hs
  go_enter Try.func34, Try.ntmps34
  go_wp2_with (first
    | (go_at_call 33; refine (srcLen_any _ _ _ _).mono ?_; rintro e w9 ⟨rfl, rfl⟩)
    | (go_at_call 88; refine (srcPop_any B Hb g k c _ s _ HM2.out HLA.out hmx).mono ?_; rintro e w3 ⟨rfl, h3, hk3⟩; have HM3 := Lib.hid h3; have HK3 := Lib.hid hk3; clear h3 hk3)
    | (go_at_call 49; have hq := HM1.out; refine (down_any B Hb g (k + 1) c 0 k _ _ hq (by omega) (by omega) hmx).mono ?_; rintro e w2 ⟨b2, rfl, h2, hg2⟩; have HM2 := Lib.hid h2; have HG2 := Lib.hid hg2; have c2 := h2.box.cell; clear h2 hg2 hq)
    | (go_at_call 90; have hq := HH.out; refine (swap_any g (c * 2) (k + 1) c 0 k l _ hq.arr hq.len (by omega) (by omega) hmx).mono ?_; rintro e w1 ⟨rfl, ha1, hg1⟩; have HM1 := Lib.hid (hq.swap ha1 hg1 (swp_perm _ _ _)); have HG1 := Lib.hid hg1; have c1 := HM1.out.box.cell; clear ha1 hg1 hq))
  go_ret
  exact ⟨rfl, HM3.out, ((Kp.row HG1.out).trans (Kp.row HG2.out) (.inl rfl)).trans HK3.out (.inl rfl)⟩
end Go.Proofs.Ytflppcgonbjnmaa
