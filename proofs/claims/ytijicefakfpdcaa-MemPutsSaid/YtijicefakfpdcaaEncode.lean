/-
  The walk of cell.Encode: how long the text is.
-/
import Derived.Test.YtijicefakfpdcaaMay
import Derived.Test.YtijicefakfpdcaaConcatByte
import Derived.Test.YtijicefakfpdcaaNodePut
import Derived.Lib.ConvBytes
namespace Go.Proofs.Ytijicefakfpdcaa
open Go.RowKit
attribute [local go_sem ↓] Go.wp_at_zero Go.wp_at_succ

theorem CBox.cells {w : World} {g : Nat} {c : Cl} (h : CBox w g c) : w.cell? ⟨g, 0, none⟩ = some (.string c.row) ∧ w.cell? ⟨g, 1, none⟩ = some (.string c.col) ∧ w.cell? ⟨g, 2, none⟩ = some (.int .u64 c.ts) ∧ w.cell? ⟨g, 3, none⟩ = some (.int .u64 c.seq) ∧
    w.cell? ⟨g, 4, none⟩ = some (.bool c.del) ∧ w.cell? ⟨g, 5, none⟩ = some (.string c.val) := by
  have f := fun j => cell_of_row w g j _ _ (0, 0) h
  exact ⟨f 0, f 1, f 2, f 3, f 4, f 5⟩
theorem lit1 (w : World) (z : Int) : Byt (w.alloc (.cells #[.int .u8 z] 5)) w.heap.size (some ⟨w.heap.size, 0, none⟩) 1 1 [z] := World.ownsRow_lit w #[.int .u8 z] 1 (by omega) (by simp [maxLen]) rfl

theorem conv_bytes (s : ByteArray) (W : World) : ∃ (c' : Nat) (W' : World), (convert 9 57 (.string s)).run Try.prog W = .ok (.slice (some ⟨W.heap.size, 0, none⟩) s.size c') W' ∧ Below W.heap.size W W' ∧ W'.heap.size = W.heap.size + 1 ∧
    Rd W' (W.heap.size + 1) (some ⟨W.heap.size, 0, none⟩) (Lib.strCells s) := by
  refine ⟨_, _, Lib.run_convert_string_bytes W 9 57 5 s Try.underlying9 Try.underlying57 Try.underlying5, ⟨rfl, rfl, rfl, by rw [Lib.bytesWorld_size]; omega, fun k hk => Lib.bytesWorld_at_old W _ s k hk⟩, Lib.bytesWorld_size W _ s, fun _ => ⟨W.heap.size, 0, rfl, by omega, fun j hj => ?_⟩⟩
  have hj' : j < s.size := by rwa [Lib.strCells_length] at hj
  rw [Nat.zero_add, Lib.bytesWorld_cell W _ s j hj']
  have hl : j < s.data.toList.length := by rw [Array.length_toList]; exact hj'
  simp only [Lib.strCells, List.getElem_map]
  rw [List.getD_eq_getElem?_getD, List.getElem?_eq_getElem hl]
  rfl
theorem Rd.ofBlock {w : World} {g : Nat} {cur : Array Value} {e : TypeId} {xs : List Value} (h : w.heap[g]? = some (.cells cur e (0, 0))) (hx : cur.toList = xs) : Rd w w.heap.size (some ⟨g, 0, none⟩) xs := fun _ => ⟨g, 0, rfl, (Array.getElem?_eq_some_iff.1 h).1, fun j hj => by
  subst hx
  rw [Nat.zero_add, cell_of_row w g j cur e (0, 0) h, ← Array.getElem?_toList]
  exact List.getElem?_eq_getElem hj⟩

set_option maxHeartbeats 4000000 in
theorem cellEncode_ok (c : Cl) (w : World) (hm : may c = true) :
    Calls Try.prog 19 #[c.agg] w fun e w' => ∃ s : ByteArray, e = .returned (.tuple #[.string s, .int .i64 0]) ∧ s.size = encLen c ∧ Below w.heap.size w w' := by
  obtain ⟨i0, hi0, hz0, hz1, hz2⟩ := info_parts byteInfo
  have hsz : c.row.size ≤ 40 ∧ c.col.size ≤ 40 ∧ c.val.size ≤ 100 := by
    simp only [may, Bool.and_eq_true, decide_eq_true_eq] at hm
    omega
  have hX := CBox.new w c
  obtain ⟨W0, hW0⟩ : ∃ W0, w.alloc (.cells #[.string c.row, .string c.col, .int .u64 c.ts, .int .u64 c.seq, .bool c.del, .string c.val] 31) = W0 := ⟨_, rfl⟩
  rw [hW0] at hX
  have hB0 : Below w.heap.size w W0 := by rw [← hW0]; exact (Below.refl _ w).alloc (Nat.le_refl _) _
  have hs0 : W0.heap.size = w.heap.size + 1 := by rw [← hW0, World.size_alloc]
  obtain ⟨x0, x1, x2, x3, x4, x5⟩ := hX.cells
  have HX := Lib.hid hX
  have HB0 := Lib.hid hB0
  have HM := Lib.hid hm
  have HS := Lib.hid hs0
  obtain ⟨q1, q2, q3⟩ := hsz
  clear hX hB0 hm hs0
  unfold Cl.agg
  go_enter Try.func19, Try.ntmps19
  go_wp2_with (first
    | (go_at_call 28; refine (cellMay_any c _).mono ?_; rintro e w1 ⟨rfl, hb1⟩; simp only [HM.out]; have HX1 := Lib.hid (CBox.below (w := W0) HX.out hb1 HX.out.lt); have HB1 := Lib.hid (HB0.out.trans (hb1.mono HB0.out.size)); have hz1' := hb1.size; have y0 := HX1.out.cells.1; have z0 : ∀ o : Obj, (w1.alloc o).cell? ⟨w.heap.size, 0, none⟩ = some (.string c.row) := (fun o => (World.cell?_alloc_lt w1 o ⟨w.heap.size, 0, none⟩ HX1.out.lt).trans y0); clear hb1 x0 x1 x2 x3 x4 x5)
    | (at_builtin; refine wpList_app_str _ rfl _ _ rfl w1.heap.size (some ⟨w1.heap.size, 0, none⟩) 1 1 _ rfl (lit1 _ _) c.row rfl (by omega) (by rw [World.size_alloc]; omega) ?_; intro A2 c2 ms2 w2 hm2 ho2 hg2; clear y0 z0))
  have HD2 := Lib.hid (Own.grow (lit1 _ _) ((Below.refl w1.heap.size w1).alloc (Nat.le_refl _) _) (by rw [World.size_alloc]; omega) (Nat.le_refl _) hg2)
  have HO2 := Lib.hid ho2
  have hs2 := HD2.out.size
  have hX2 : CBox w2 w.heap.size c := HX1.out.below HD2.out HX1.out.lt
  have HX2 := Lib.hid hX2
  have HC : w2.drew.cell? ⟨w.heap.size, 1, none⟩ = some (.string c.col) := hX2.cells.2.1
  have hlt2 := hX2.lt
  clear ho2 hg2 hX2 hm2
  refine region_wz (fun W' => W'.cell? ⟨w.heap.size, 1, none⟩ = some (.string c.col)) none (by kernel_rfl) ?_
  apply WZ.take (i := 0) (some 17) rfl rfl (by kernel_rfl) (by kernel_rfl) (by kernel_rfl) (calm_panic _) (by kernel_rfl)
  case hy => (refine .inl ⟨by kernel_rfl, fun W hC => ?_⟩; (try dsimp only at hC); go_simp; rfl)
  case hC => exact HC
  case ha => (simp only [Act.put, List.setIfInBounds_toArray, List.set_cons_zero, List.set_cons_succ]; rfl)
  apply WZ.take (i := 1) (some 18) rfl rfl (by kernel_rfl) (by kernel_rfl) (by kernel_rfl) (calm_panic _) (by kernel_rfl)
  case hy => (refine .inl ⟨by kernel_rfl, fun W hC => ?_⟩; (try dsimp only at hC); go_simp; rfl)
  case hC => exact HC
  case ha => (simp only [Act.put, List.setIfInBounds_toArray, List.set_cons_zero, List.set_cons_succ]; rfl)
  apply WZ.take (i := 2) (some 19) rfl rfl (by kernel_rfl) (by kernel_rfl) (by kernel_rfl) (calm_panic _) (by kernel_rfl)
  case hy => (refine .inl ⟨by kernel_rfl, fun W hC => ?_⟩; (try dsimp only at hC); go_simp; rfl)
  case hC => exact HC
  case ha => (simp only [Act.put, List.setIfInBounds_toArray, List.set_cons_zero, List.set_cons_succ]; rfl)
  apply WZ.take (i := 3) (some 20) rfl rfl (by kernel_rfl) (by kernel_rfl) (by kernel_rfl) (calm_panic _) (by kernel_rfl)
  case hy => (refine .inl ⟨by kernel_rfl, fun W hC => ?_⟩; (try dsimp only at hC); go_simp; rfl)
  case hC => exact HC
  case ha => (simp only [Act.put, List.setIfInBounds_toArray, List.set_cons_zero, List.set_cons_succ]; rfl)
  apply WZ.take (i := 4) (some 21) rfl rfl (by kernel_rfl) (by kernel_rfl) (by kernel_rfl) (calm_panic _) (by kernel_rfl)
  case hy => (refine .inl ⟨by kernel_rfl, fun W hC => ?_⟩; (try dsimp only at hC); go_simp; rfl)
  case hC => exact HC
  case ha => (simp only [Act.put, List.setIfInBounds_toArray, List.set_cons_zero, List.set_cons_succ]; rfl)
  apply WZ.take (i := 7) (some 24) rfl rfl (by kernel_rfl) (by kernel_rfl) (by kernel_rfl) (calm_panic _) (by kernel_rfl)
  case hy => (refine .inl ⟨by kernel_rfl, fun W hC => ?_⟩; (try dsimp only at hC); go_simp; rfl)
  case hC => exact HC
  case ha => (simp only [Act.put, List.setIfInBounds_toArray, List.set_cons_zero, List.set_cons_succ]; rfl)
  apply WZ.take (i := 8) (some 25) rfl rfl (by kernel_rfl) (by kernel_rfl) (by kernel_rfl) (calm_panic _) (by kernel_rfl)
  case hy => (refine .inl ⟨by kernel_rfl, fun W hC => ?_⟩; (try dsimp only at hC); go_simp; rfl)
  case hC => exact HC
  case ha => (simp only [Act.put, List.setIfInBounds_toArray, List.set_cons_zero, List.set_cons_succ]; rfl)
  -- 5
  refine WZ.one (i := 5) rfl (by kernel_rfl) ?_
  conv => arg 4; arg 1; whnf
  go_wp2_with (fail)
  have HC := (World.cell?_alloc_lt w2 (.cells #[.int .u8 c.col.size] 5) ⟨w.heap.size, 1, none⟩ hlt2).trans HC
  have ho2' : Byt (w2.alloc (.cells #[.int .u8 c.col.size] 5)).drew w1.heap.size A2 (1 + c.row.size) c2 _ := Own.drew (Own.alloc HO2.out (.cells #[.int .u8 c.col.size] 5))
  have hd2' := (HD2.out.alloc hs2 (.cells #[.int .u8 c.col.size] 5)).drew
  have hs2' : w1.heap.size ≤ (w2.alloc (.cells #[.int .u8 c.col.size] 5)).drew.heap.size := by show _ ≤ (w2.alloc _).heap.size; rw [World.size_alloc]; omega
  have hr2' := (Rd.new1 w2 5 (.int .u8 c.col.size)).drew
  have HQ := Lib.hid (And.intro ho2' (And.intro hd2' (And.intro hs2' hr2')))
  clear ho2' hd2' hs2' hr2'
  refine ⟨HC, ?_⟩
  -- 6
  refine WZ.one (i := 6) rfl (by kernel_rfl) ?_
  conv => arg 4; arg 1; whnf
  go_wp2_with (at_builtin; go_loud (refine wpList_app _ rfl _ _ _ rfl w1.heap.size 5 i0 (.int .u8 0) 1 1 Try.underlying57 hi0 hz0 hz1 hz2 rfl (by decide) A2 (1 + c.row.size) c2 _ rfl HQ.out.1 (w2.heap.size + 1) (some ⟨w2.heap.size, 0, none⟩) 1 1 [.int .u8 c.col.size] rfl HQ.out.2.2.2 rfl (by simp [Value.oneCell']) (by unfold maxLen; omega) (by omega) HQ.out.2.2.1 ?_); intro A3 c3 w3 ho3 hg3 _)
  have HD3 := Lib.hid (Own.grow HQ.out.1 HQ.out.2.1 HQ.out.2.2.1 (Nat.le_refl _) hg3)
  have hX3 : CBox w3 w.heap.size c := HX1.out.below HD3.out HX1.out.lt
  have HC := hX3.cells.2.1
  have hs3 := HD3.out.size
  refine ⟨HC, ?_⟩
  -- 9
  refine WZ.one (i := 9) rfl (by kernel_rfl) ?_
  conv => arg 4; arg 1; whnf
  go_wp2_with (at_builtin; go_loud (refine wpList_app_str _ rfl _ _ rfl w1.heap.size A3 (1 + c.row.size + 1) c3 (_ ++ [(c.col.size : Int)]) rfl (by unfold Byt; rw [List.map_append]; exact ho3) c.col rfl (by omega) (by omega) ?_); intro A4 c4 ms4 w4 hm4 ho4 hg4)
  have HD4 := Lib.hid (Own.grow ho3 HD3.out hs3 (Nat.le_refl _) hg4)
  have hX4 : CBox w4 w.heap.size c := HX1.out.below HD4.out HX1.out.lt
  have HC := hX4.cells.2.1
  refine ⟨HC, ?_⟩
  apply WZ.take (i := 10) (some 4) rfl rfl (by kernel_rfl) (by kernel_rfl) (by kernel_rfl) (calm_panic _) (by kernel_rfl)
  case hy => (refine .inl ⟨by kernel_rfl, fun W hC => ?_⟩; (try dsimp only at hC); go_simp; rfl)
  case hC => exact HC
  case ha => (simp only [Act.put, List.setIfInBounds_toArray, List.set_cons_zero, List.set_cons_succ]; rfl)
  refine WZ.done (by kernel_rfl) ?_ _
  simp only [Calm, Exit.then]
  have hs4 := HD4.out.size
  have HX4 := Lib.hid hX4
  have HO4 := Lib.hid ho4
  have hlt4 := hX4.lt
  have HC : w4.drew.cell? ⟨w.heap.size, 2, none⟩ = some (.int .u64 c.ts) ∧ w4.drew.cell? ⟨w.heap.size, 3, none⟩ = some (.int .u64 c.seq) := ⟨hX4.cells.2.2.1, hX4.cells.2.2.2.1⟩
  clear hX4 ho4 hX3 hg3 hg4 hm4
  go_wp2
  refine region_wz (fun W' => W'.cell? ⟨w.heap.size, 2, none⟩ = some (.int .u64 c.ts) ∧ W'.cell? ⟨w.heap.size, 3, none⟩ = some (.int .u64 c.seq)) none (by kernel_rfl) ?_
  apply WZ.take (i := 0) (some 27) rfl rfl (by kernel_rfl) (by kernel_rfl) (by kernel_rfl) (calm_panic _) (by kernel_rfl)
  case hy => (refine .inl ⟨by kernel_rfl, fun W hC => ?_⟩; (try dsimp only at hC); go_simp; rfl)
  case hC => exact HC
  case ha => (simp only [Act.put, List.setIfInBounds_toArray, List.set_cons_zero, List.set_cons_succ]; rfl)
  apply WZ.take (i := 1) (some 28) rfl rfl (by kernel_rfl) (by kernel_rfl) (by kernel_rfl) (calm_panic _) (by kernel_rfl)
  case hy => (refine .inl ⟨by kernel_rfl, fun W hC => ?_⟩; (try dsimp only at hC); go_simp; rfl)
  case hC => exact HC
  case ha => (simp only [Act.put, List.setIfInBounds_toArray, List.set_cons_zero, List.set_cons_succ]; rfl)
  apply WZ.take (i := 2) (some 29) rfl rfl (by kernel_rfl) (by kernel_rfl) (by kernel_rfl) (calm_panic _) (by kernel_rfl)
  case hy => (refine .inl ⟨by kernel_rfl, fun W hC => ?_⟩; (try dsimp only at hC); go_simp; rfl)
  case hC => exact HC
  case ha => (simp only [Act.put, List.setIfInBounds_toArray, List.set_cons_zero, List.set_cons_succ]; rfl)
  apply WZ.take (i := 4) (some 31) rfl rfl (by kernel_rfl) (by kernel_rfl) (by kernel_rfl) (calm_panic _) (by kernel_rfl)
  case hy => (refine .inl ⟨by kernel_rfl, fun W hC => ?_⟩; (try dsimp only at hC); go_simp; rfl)
  case hC => exact HC
  case ha => (simp only [Act.put, List.setIfInBounds_toArray, List.set_cons_zero, List.set_cons_succ]; rfl)
  apply WZ.take (i := 5) (some 32) rfl rfl (by kernel_rfl) (by kernel_rfl) (by kernel_rfl) (calm_panic _) (by kernel_rfl)
  case hy => (refine .inl ⟨by kernel_rfl, fun W hC => ?_⟩; (try dsimp only at hC); go_simp; rfl)
  case hC => exact HC
  case ha => (simp only [Act.put, List.setIfInBounds_toArray, List.set_cons_zero, List.set_cons_succ]; rfl)
  -- 3
  refine WZ.one (i := 3) rfl (by kernel_rfl) ?_
  conv => arg 4; arg 1; whnf
  go_wp2_with (go_at_call 29; refine (little_any w1.heap.size A4 (1 + c.row.size + 1 + c.col.size) c4 _ c.ts _ (Own.drew HO4.out) (by omega) hs4).mono ?_; rintro e w5 ⟨A5, c5, ms5, rfl, ho5, hb5⟩)
  have HD5 := Lib.hid (HD4.out.trans (below_of_drew' hb5))
  have hX5 : CBox w5 w.heap.size c := HX1.out.below HD5.out HX1.out.lt
  have hs5 := HD5.out.size
  have HC : w5.cell? ⟨w.heap.size, 2, none⟩ = some (.int .u64 c.ts) ∧ w5.cell? ⟨w.heap.size, 3, none⟩ = some (.int .u64 c.seq) := ⟨hX5.cells.2.2.1, hX5.cells.2.2.2.1⟩
  have HO5 := Lib.hid ho5
  clear ho5 hX5 hb5
  refine ⟨HC, ?_⟩
  -- 6
  refine WZ.one (i := 6) rfl (by kernel_rfl) ?_
  conv => arg 4; arg 1; whnf
  go_wp2_with (go_at_call 29; refine (little_any w1.heap.size A5 (1 + c.row.size + 1 + c.col.size + 8) c5 _ c.seq _ HO5.out (by omega) hs5).mono ?_; rintro e w6 ⟨A6, c6, ms6, rfl, ho6, hb6⟩)
  have HD6 := Lib.hid (HD5.out.trans hb6)
  have hX6 : CBox w6 w.heap.size c := HX1.out.below HD6.out HX1.out.lt
  have hs6 := HD6.out.size
  have HC : w6.cell? ⟨w.heap.size, 2, none⟩ = some (.int .u64 c.ts) ∧ w6.cell? ⟨w.heap.size, 3, none⟩ = some (.int .u64 c.seq) := ⟨hX6.cells.2.2.1, hX6.cells.2.2.2.1⟩
  have HO6 := Lib.hid ho6
  have HX6 := Lib.hid hX6
  clear ho6 hX6 hb6
  refine ⟨HC, ?_⟩
  apply WZ.take (i := 7) (some 4) rfl rfl (by kernel_rfl) (by kernel_rfl) (by kernel_rfl) (calm_panic _) (by kernel_rfl)
  case hy => (refine .inl ⟨by kernel_rfl, fun W hC => ?_⟩; (try dsimp only at hC); go_simp; rfl)
  case hC => exact HC
  case ha => (simp only [Act.put, List.setIfInBounds_toArray, List.set_cons_zero, List.set_cons_succ]; rfl)
  refine WZ.done (by kernel_rfl) ?_ _
  simp only [Calm, Exit.then]
  clear HC
  obtain ⟨y0, y1, y2, y3, y4, y5⟩ := HX6.out.cells
  have z5 : ∀ o : Obj, (w6.alloc o).cell? ⟨w.heap.size, 5, none⟩ = some (.string c.val) := fun o => (World.cell?_alloc_lt w6 o ⟨w.heap.size, 5, none⟩ HX6.out.lt).trans y5
  clear y0 y1 y2 y3
  cases hdl : c.del with
  | true =>
    rw [hdl] at y4
    obtain ⟨W7, hW7⟩ : ∃ W7, w6.alloc (.cells #[.int .u8 1, .int .u8 c.val.size] 5) = W7 := ⟨_, rfl⟩
    have hW7b : W7.heap[w6.heap.size]? = some (.cells #[.int .u8 1, .int .u8 c.val.size] 5 (0, 0)) := by rw [← hW7]; exact heap_alloc_new w6 _
    have hs7 : W7.heap.size = w6.heap.size + 1 := by rw [← hW7, World.size_alloc]
    have hB7 : Below w6.heap.size w6 W7 := by rw [← hW7]; exact (Below.refl _ _).alloc (Nat.le_refl _) _
    obtain ⟨c8, w8, hcv, hb8, hs8, hr8⟩ := conv_bytes c.val W7
    have z5 := z5 (.cells #[.int .u8 1, .int .u8 c.val.size] 5)
    rw [hW7] at z5
    obtain ⟨lt_, hlt_⟩ : ∃ lt_ : List Int, lt_ = ms6 ++ [1, (c.val.size : Int)] ++ c.val.data.toList.map (fun b => (b.toNat : Int)) := ⟨_, rfl⟩
    obtain ⟨W9, hW9⟩ : ∃ W9, w8.alloc (.cells #[.slice A6 (1 + c.row.size + 1 + c.col.size + 8 + 8) c6, .slice (some ⟨w6.heap.size, 0, none⟩) 2 2, .slice (some ⟨W7.heap.size, 0, none⟩) c.val.size c8] 57) = W9 := ⟨_, rfl⟩
    have hW9b : W9.heap[w8.heap.size]? = some (.cells #[.slice A6 (1 + c.row.size + 1 + c.col.size + 8 + 8) c6, .slice (some ⟨w6.heap.size, 0, none⟩) 2 2, .slice (some ⟨W7.heap.size, 0, none⟩) c.val.size c8] 57 (0, 0)) := by rw [← hW9]; exact heap_alloc_new w8 _
    have hB9 : Below w8.heap.size w8 W9 := by rw [← hW9]; exact (Below.refl _ _).alloc (Nat.le_refl _) _
    have hs9 : W9.heap.size = w8.heap.size + 1 := by rw [← hW9, World.size_alloc]
    obtain ⟨l, hl⟩ : ∃ l : List Sl, l = [⟨A6, 1 + c.row.size + 1 + c.col.size + 8 + 8, c6, ms6.map (Value.int .u8)⟩, ⟨some ⟨w6.heap.size, 0, none⟩, 2, 2, [.int .u8 1, .int .u8 c.val.size]⟩, ⟨some ⟨W7.heap.size, 0, none⟩, c.val.size, c8, Lib.strCells c.val⟩] := ⟨_, rfl⟩
    have hA : Rd W9 W9.heap.size (some ⟨w8.heap.size, 0, none⟩) (l.map Sl.val) := Rd.ofBlock hW9b (by rw [hl]; rfl)
    have hB68 : Below w6.heap.size w6 W9 := (hB7.trans (hb8.mono (by omega))).trans (hB9.mono (by omega))
    have hB79 : Below W7.heap.size W7 W9 := hb8.trans (hB9.mono (by omega))
    have htot : total l = encLen c := by rw [hl]; simp only [total, List.map_cons, List.map_nil, List.sum_cons, List.sum_nil, encLen]; omega
    have hsl : SlsIn W9 W9.heap.size 1 l := by
      intro x hx
      rw [hl] at hx
      simp only [List.mem_cons, List.not_mem_nil, or_false] at hx
      rcases hx with rfl | rfl | rfl
      · exact ⟨((Own.rd HO6.out (by omega)).below hB68).more (by omega), by rw [List.length_map, HO6.out.len, Nat.mul_one], bytes_one _⟩
      · exact ⟨(Rd.ofBlock hW7b rfl |>.below hB79).more (by omega), rfl, by simp [Value.oneCell']⟩
      · exact ⟨(hr8.below (hB9.mono (by omega))).more (by omega), by rw [Lib.strCells_length, Nat.mul_one], by rw [strCells_ns]; exact bytes_one _⟩
    have hj : joined l = lt_.map (Value.int .u8) := by
      rw [hl, hlt_, List.map_append, List.map_append, ← strCells_ns]
      simp [joined]
    have hl3 : l.length = 3 := by rw [hl]; rfl
    have hcc := concat_any (some ⟨w8.heap.size, 0, none⟩) 3 l W9 hA hsl (by omega) (by rw [htot]; unfold encLen; omega)
    rw [hl3, htot, hj] at hcc
    have HB := Lib.hid (HB1.out.trans ((HD6.out.trans (hB68.mono (by omega))).mono (by have := HB1.out.size; omega)))
    have HCC := Lib.hid hcc
    have hsz9 : w.heap.size ≤ W9.heap.size := HB.out.size
    have HW := Lib.hid hW9
    clear hlt_ hl hA hsl hj hl3 hcc htot hW7b hW9b hB7 hB9 hB68 hB79 hb8 hr8 hs7 hs8 hs9 HQ HO2 HO4 HO5 HO6 HD2 HD3 HD4 HD5 HD6 HX1 HX2 HX4 HX6 HX
    go_wp2_with (go_at_call 30; refine HCC.out.mono ?_; rintro e w10 ⟨A10, c10, rfl, ho10, hb10⟩; obtain ⟨str, hst, hstr⟩ := run_str (ns := lt_) ho10 (by unfold encLen; omega); have HB10 := Lib.hid (HB.out.trans (hb10.mono hsz9)); have HST := Lib.hid hst; clear ho10 hb10 hst)
    go_ret2
    exact ⟨str, rfl, HST.out, HB10.out⟩
  | false =>
    rw [hdl] at y4
    obtain ⟨W7, hW7⟩ : ∃ W7, w6.alloc (.cells #[.int .u8 0, .int .u8 c.val.size] 5) = W7 := ⟨_, rfl⟩
    have hW7b : W7.heap[w6.heap.size]? = some (.cells #[.int .u8 0, .int .u8 c.val.size] 5 (0, 0)) := by rw [← hW7]; exact heap_alloc_new w6 _
    have hs7 : W7.heap.size = w6.heap.size + 1 := by rw [← hW7, World.size_alloc]
    have hB7 : Below w6.heap.size w6 W7 := by rw [← hW7]; exact (Below.refl _ _).alloc (Nat.le_refl _) _
    obtain ⟨c8, w8, hcv, hb8, hs8, hr8⟩ := conv_bytes c.val W7
    have z5 := z5 (.cells #[.int .u8 0, .int .u8 c.val.size] 5)
    rw [hW7] at z5
    obtain ⟨lt_, hlt_⟩ : ∃ lt_ : List Int, lt_ = ms6 ++ [0, (c.val.size : Int)] ++ c.val.data.toList.map (fun b => (b.toNat : Int)) := ⟨_, rfl⟩
    obtain ⟨W9, hW9⟩ : ∃ W9, w8.alloc (.cells #[.slice A6 (1 + c.row.size + 1 + c.col.size + 8 + 8) c6, .slice (some ⟨w6.heap.size, 0, none⟩) 2 2, .slice (some ⟨W7.heap.size, 0, none⟩) c.val.size c8] 57) = W9 := ⟨_, rfl⟩
    have hW9b : W9.heap[w8.heap.size]? = some (.cells #[.slice A6 (1 + c.row.size + 1 + c.col.size + 8 + 8) c6, .slice (some ⟨w6.heap.size, 0, none⟩) 2 2, .slice (some ⟨W7.heap.size, 0, none⟩) c.val.size c8] 57 (0, 0)) := by rw [← hW9]; exact heap_alloc_new w8 _
    have hB9 : Below w8.heap.size w8 W9 := by rw [← hW9]; exact (Below.refl _ _).alloc (Nat.le_refl _) _
    have hs9 : W9.heap.size = w8.heap.size + 1 := by rw [← hW9, World.size_alloc]
    obtain ⟨l, hl⟩ : ∃ l : List Sl, l = [⟨A6, 1 + c.row.size + 1 + c.col.size + 8 + 8, c6, ms6.map (Value.int .u8)⟩, ⟨some ⟨w6.heap.size, 0, none⟩, 2, 2, [.int .u8 0, .int .u8 c.val.size]⟩, ⟨some ⟨W7.heap.size, 0, none⟩, c.val.size, c8, Lib.strCells c.val⟩] := ⟨_, rfl⟩
    have hA : Rd W9 W9.heap.size (some ⟨w8.heap.size, 0, none⟩) (l.map Sl.val) := Rd.ofBlock hW9b (by rw [hl]; rfl)
    have hB68 : Below w6.heap.size w6 W9 := (hB7.trans (hb8.mono (by omega))).trans (hB9.mono (by omega))
    have hB79 : Below W7.heap.size W7 W9 := hb8.trans (hB9.mono (by omega))
    have htot : total l = encLen c := by rw [hl]; simp only [total, List.map_cons, List.map_nil, List.sum_cons, List.sum_nil, encLen]; omega
    have hsl : SlsIn W9 W9.heap.size 1 l := by
      intro x hx
      rw [hl] at hx
      simp only [List.mem_cons, List.not_mem_nil, or_false] at hx
      rcases hx with rfl | rfl | rfl
      · exact ⟨((Own.rd HO6.out (by omega)).below hB68).more (by omega), by rw [List.length_map, HO6.out.len, Nat.mul_one], bytes_one _⟩
      · exact ⟨(Rd.ofBlock hW7b rfl |>.below hB79).more (by omega), rfl, by simp [Value.oneCell']⟩
      · exact ⟨(hr8.below (hB9.mono (by omega))).more (by omega), by rw [Lib.strCells_length, Nat.mul_one], by rw [strCells_ns]; exact bytes_one _⟩
    have hj : joined l = lt_.map (Value.int .u8) := by
      rw [hl, hlt_, List.map_append, List.map_append, ← strCells_ns]
      simp [joined]
    have hl3 : l.length = 3 := by rw [hl]; rfl
    have hcc := concat_any (some ⟨w8.heap.size, 0, none⟩) 3 l W9 hA hsl (by omega) (by rw [htot]; unfold encLen; omega)
    rw [hl3, htot, hj] at hcc
    have HB := Lib.hid (HB1.out.trans ((HD6.out.trans (hB68.mono (by omega))).mono (by have := HB1.out.size; omega)))
    have HCC := Lib.hid hcc
    have hsz9 : w.heap.size ≤ W9.heap.size := HB.out.size
    have HW := Lib.hid hW9
    clear hlt_ hl hA hsl hj hl3 hcc htot hW7b hW9b hB7 hB9 hB68 hB79 hb8 hr8 hs7 hs8 hs9 HQ HO2 HO4 HO5 HO6 HD2 HD3 HD4 HD5 HD6 HX1 HX2 HX4 HX6 HX
    go_wp2_with (go_at_call 30; refine HCC.out.mono ?_; rintro e w10 ⟨A10, c10, rfl, ho10, hb10⟩; obtain ⟨str, hst, hstr⟩ := run_str (ns := lt_) ho10 (by unfold encLen; omega); have HB10 := Lib.hid (HB.out.trans (hb10.mono hsz9)); have HST := Lib.hid hst; clear ho10 hb10 hst)
    go_ret2
    exact ⟨str, rfl, HST.out, HB10.out⟩
theorem cellEncode_bad (c : Cl) (w : World) (hm : may c = false) :
    Calls Try.prog 19 #[c.agg] w fun e w' => e = .returned (.tuple #[.string ⟨#[]⟩, .int .i64 1]) ∧ Below w.heap.size w w' := by
  have hX := CBox.new w c
  have hb := (Below.refl w.heap.size w).alloc (Nat.le_refl _) (.cells #[.string c.row, .string c.col, .int .u64 c.ts, .int .u64 c.seq, .bool c.del, .string c.val] 31)
  have HB := Lib.hid hb
  clear hX hb
  unfold Cl.agg
  go_enter Try.func19, Try.ntmps19
  go_wp2_with (go_at_call 28; refine (cellMay_any c _).mono ?_; rintro e w1 ⟨rfl, hb1⟩; simp only [hm])
  go_ret2
  exact ⟨rfl, HB.out.trans (hb1.mono (by simp))⟩
end Go.Proofs.Ytijicefakfpdcaa
