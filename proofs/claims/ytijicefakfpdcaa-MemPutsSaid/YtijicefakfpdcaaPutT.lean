/-
  The walk of a cell that is put into a table.
-/
import Derived.Test.YtijicefakfpdcaaTable12
namespace Go.Proofs.Ytijicefakfpdcaa
open Go Go.RowKit
attribute [local go_sem ↓] Go.wp_at_zero Go.wp_at_succ

theorem Tbl.putted {w w1 w2 : World} {S : List Nat} {tb : Nat} {T T' : Tr} {l : List Cl} {c : Cl} (h : Tbl w1 S tb T l) (hp : Put c T T' w1 w2) (hm : Mv S S w w1) :
    Tab w2 tb T.ptr l.length (bytesOf l) ∧ T'.In w2 ∧ T'.blocks.Nodup ∧ T'.cells = insH c l ∧ tb ∉ T'.blocks ∧ Mv S (tb :: T'.blocks) w w2 := by
  have ht := hp.mv.block tb h.tab.lt h.out
  refine ⟨h.tab.keep ht, hp.lies, hp.nodup, by rw [hp.cells, h.cells], hp.mv.out h.tab.lt h.out, hm.trans (hp.mv.wide (fun k hk => by rw [h.s]; simp [hk]) (fun k hk => ?_))⟩
  rcases List.mem_cons.1 hk with rfl | hk
  · exact .inr ⟨by rw [h.s]; simp, h.tab.lt⟩
  · exact .inl hk

set_option maxHeartbeats 4000000 in
theorem putT_bad (w : World) (S : List Nat) (tb : Nat) (T : Tr) (l : List Cl) (c : Cl) (h : Tbl w S tb T l) (hm : may c = false) :
    Calls Try.prog 7 #[.pointer (some ⟨tb, 0, none⟩), c.agg] w fun e w' => ∃ S' T', e = .returned (.int .i64 (putE l c)) ∧ Tbl w' S' tb T' (put l c) ∧ Mv S S' w w' := by
  obtain ⟨W0, hW0⟩ : ∃ W0, w.alloc (.cells #[.string c.row, .string c.col, .int .u64 c.ts, .int .u64 c.seq, .bool c.del, .string c.val] 31) = W0 := ⟨_, rfl⟩
  have hX := CBox.new w c
  rw [hW0] at hX
  have hB0 : Below w.heap.size w W0 := by rw [← hW0]; exact (Below.refl _ w).alloc (Nat.le_refl _) _
  have HX := Lib.hid hX
  have HB0 := Lib.hid hB0
  have HM := Lib.hid hm
  have HT := Lib.hid h
  obtain ⟨x0, x1, x2, x3, x4, x5⟩ := hX.cells
  clear hX hB0 h hm
  unfold Cl.agg
  go_enter Try.func7, Try.ntmps7
  go_wp2_with (go_at_call 19; refine (cellEncode_bad c _ HM.out).mono ?_; rintro e w1 ⟨rfl, hb1⟩)
  go_ret
  have hb := HB0.out.trans (hb1.mono HB0.out.size)
  refine ⟨S, T, by unfold putE; rw [HM.out]; rfl, ?_, Mv.of_below hb HT.out.lt⟩
  unfold put
  rw [HM.out]
  exact HT.out.below hb

set_option maxHeartbeats 4000000 in
theorem putT_twice (w : World) (S : List Nat) (tb : Nat) (T : Tr) (l : List Cl) (c : Cl) (h : Tbl w S tb T l) (hm : may c = true) (hh : has c l = true) :
    Calls Try.prog 7 #[.pointer (some ⟨tb, 0, none⟩), c.agg] w fun e w' => ∃ S' T', e = .returned (.int .i64 (putE l c)) ∧ Tbl w' S' tb T' (put l c) ∧ Mv S S' w w' := by
  obtain ⟨W0, hW0⟩ : ∃ W0, w.alloc (.cells #[.string c.row, .string c.col, .int .u64 c.ts, .int .u64 c.seq, .bool c.del, .string c.val] 31) = W0 := ⟨_, rfl⟩
  have hX := CBox.new w c
  rw [hW0] at hX
  have hB0 : Below w.heap.size w W0 := by rw [← hW0]; exact (Below.refl _ w).alloc (Nat.le_refl _) _
  have HX := Lib.hid hX
  have HB0 := Lib.hid hB0
  have HM := Lib.hid hm
  have HT := Lib.hid h
  obtain ⟨x0, x1, x2, x3, x4, x5⟩ := hX.cells
  clear hX hB0 h hm
  unfold Cl.agg
  go_enter Try.func7, Try.ntmps7
  go_wp2_with (go_at_call 19; refine (cellEncode_ok c _ HM.out).mono ?_; rintro e w1 ⟨str, rfl, hst, hb1⟩; have hB1 := HB0.out.trans (hb1.mono HB0.out.size); have hX1 := HX.out.below hb1 HX.out.lt; have hT1 := HT.out.below hB1; have HX1 := Lib.hid hX1; have HB1 := Lib.hid hB1; have HT1 := Lib.hid hT1; have HST := Lib.hid hst; have HC : w1.drew.rangeAt w.heap.size 0 c.vals ∧ w1.drew.cell? ⟨tb, 0, none⟩ = some (.pointer T.ptr) := ⟨hX1.range, hT1.tab.at_.1⟩; clear x0 x1 x2 x3 x4 x5 hb1 hB1 hX1 hT1 hst)
  refine region_wz (fun W' => W'.rangeAt w.heap.size 0 c.vals ∧ W'.cell? ⟨tb, 0, none⟩ = some (.pointer T.ptr)) none (by kernel_rfl) ?_
  apply WZ.take (i := 0) (some 18) rfl rfl (by kernel_rfl) (by kernel_rfl) (by kernel_rfl) (calm_panic _) (by kernel_rfl)
  case hy => (refine .inl ⟨by kernel_rfl, fun W hC => ?_⟩; (try dsimp only at hC); go_simp; rfl)
  case hC => exact HC
  case ha => (simp only [Act.put, List.setIfInBounds_toArray, List.set_cons_zero, List.set_cons_succ]; rfl)
  apply WZ.take (i := 1) (some 19) rfl rfl (by kernel_rfl) (by kernel_rfl) (by kernel_rfl) (calm_panic _) (by kernel_rfl)
  case hy => (refine .inl ⟨by kernel_rfl, fun W hC => ?_⟩; (try dsimp only at hC); go_simp; rfl)
  case hC => exact HC
  case ha => (simp only [Act.put, List.setIfInBounds_toArray, List.set_cons_zero, List.set_cons_succ]; rfl)
  apply WZ.take (i := 2) (some 20) rfl rfl (by kernel_rfl) (by kernel_rfl) (by kernel_rfl) (calm_panic _) (by kernel_rfl)
  case hy => (refine .inl ⟨by kernel_rfl, fun W hC => ?_⟩; (try dsimp only at hC); go_simp; rfl)
  case hC => exact HC
  case ha => (simp only [Act.put, List.setIfInBounds_toArray, List.set_cons_zero, List.set_cons_succ]; rfl)
  apply WZ.take (i := 3) (some 21) rfl rfl (by kernel_rfl) (by kernel_rfl) (by kernel_rfl) (calm_panic _) (by kernel_rfl)
  case hy => (refine .inl ⟨by kernel_rfl, fun W hC => ?_⟩; (try dsimp only at hC); go_simp; rfl)
  case hC => exact HC
  case ha => (simp only [Act.put, List.setIfInBounds_toArray, List.set_cons_zero, List.set_cons_succ]; rfl)
  apply WZ.take (i := 4) (some 22) rfl rfl (by kernel_rfl) (by kernel_rfl) (by kernel_rfl) (calm_panic _) (by kernel_rfl)
  case hy => first | (apply yieldsIf_load_mid (by kernel_rfl) _ _ rfl _ _ rfl; (case hS => (intro W hC; exact (show World.rangeAt _ _ _ (Cl.vals _) from hC.1))); (case hu => exact Try.underlying31); (case hd => rfl); (case hi => kernel_rfl)) | (apply yieldsIf_load_mid (by kernel_rfl) _ _ rfl _ _ rfl; (case hS => (intro W hC; exact (show World.rangeAt _ _ _ (Cl.vals _) from hC.2.1))); (case hu => exact Try.underlying31); (case hd => rfl); (case hi => kernel_rfl)) | (apply yieldsIf_load_mid (by kernel_rfl) _ _ rfl _ _ rfl; (case hS => (intro W hC; exact (show World.rangeAt _ _ _ (Cl.vals _) from hC.2.2.1))); (case hu => exact Try.underlying31); (case hd => rfl); (case hi => kernel_rfl)) | (apply yieldsIf_load_mid (by kernel_rfl) _ _ rfl _ _ rfl; (case hS => (intro W hC; exact (show World.rangeAt _ _ _ (Cl.vals _) from hC.2.2.2.1))); (case hu => exact Try.underlying31); (case hd => rfl); (case hi => kernel_rfl)) | (apply yieldsIf_load_mid (by kernel_rfl) _ _ rfl _ _ rfl; (case hS => (intro W hC; exact (show World.rangeAt _ _ _ (Cl.vals _) from hC.2.2.2))); (case hu => exact Try.underlying31); (case hd => rfl); (case hi => kernel_rfl)) | (apply yieldsIf_load_mid (by kernel_rfl) _ _ rfl _ _ rfl; (case hS => (intro W hC; exact (show World.rangeAt _ _ _ (Cl.vals _) from hC.2.2))); (case hu => exact Try.underlying31); (case hd => rfl); (case hi => kernel_rfl)) | (apply yieldsIf_load_mid (by kernel_rfl) _ _ rfl _ _ rfl; (case hS => (intro W hC; exact (show World.rangeAt _ _ _ (Cl.vals _) from hC.2))); (case hu => exact Try.underlying31); (case hd => rfl); (case hi => kernel_rfl)) | (apply yieldsIf_load_mid (by kernel_rfl) _ _ rfl _ _ rfl; (case hS => (intro W hC; exact (show World.rangeAt _ _ _ (Cl.vals _) from hC))); (case hu => exact Try.underlying31); (case hd => rfl); (case hi => kernel_rfl))
  case hC => exact HC
  case ha => (simp only [Act.put, List.setIfInBounds_toArray, List.set_cons_zero, List.set_cons_succ]; rfl)
  -- 5
  refine WZ.one (i := 5) rfl (by kernel_rfl) ?_
  conv => arg 4; arg 1; whnf
  go_wp2_with (go_at_call 20; refine (put_any c T w1.drew HT1.out.lies.drew HT1.out.nodup (by rw [HT1.out.cells]; exact HT1.out.up)).mono ?_; rintro e w2 ⟨T', rfl, hp⟩; obtain ⟨p1, p2, p3, p4, p5, p6⟩ := Tbl.putted (w := w) (w1 := w1.drew) (HT1.out.keep fun k _ => rfl) hp (Mv.drewN (Mv.of_below HB1.out HT.out.lt) 1))
  have hx2 := hp.mv.block w.heap.size HX1.out.lt (fun e => by have := HT.out.lies.lt _ e; omega)
  have HC : w2.rangeAt w.heap.size 0 c.vals ∧ w2.cell? ⟨tb, 0, none⟩ = some (.pointer T.ptr) := ⟨(CBox.keep (w := w1.drew) HX1.out hx2).range, p1.at_.1⟩
  have HP := Lib.hid (And.intro p1 (And.intro p2 (And.intro p3 (And.intro p4 (And.intro p5 p6)))))
  clear hp hx2 p1 p2 p3 p4 p5 p6
  refine ⟨HC, ?_⟩
  apply WZ.take (i := 6) (some 17) rfl rfl (by kernel_rfl) (by kernel_rfl) (by kernel_rfl) (calm_panic _) (by kernel_rfl)
  case hy => (refine .inl ⟨by kernel_rfl, fun W hC => ?_⟩; (try dsimp only at hC); go_simp; rfl)
  case hC => exact HC
  case ha => (simp only [Act.put, List.setIfInBounds_toArray, List.set_cons_zero, List.set_cons_succ]; rfl)
  apply WZ.take (i := 7) (some 24) rfl rfl (by kernel_rfl) (by kernel_rfl) (by kernel_rfl) (calm_panic _) (by kernel_rfl)
  case hy => (refine .inl ⟨by kernel_rfl, fun W hC => ?_⟩; (try dsimp only at hC); go_simp; rfl)
  case hC => exact HC
  case ha => (simp only [Act.put, List.setIfInBounds_toArray, List.set_cons_zero, List.set_cons_succ]; rfl)
  apply WZ.take (i := 8) (some 25) rfl rfl (by kernel_rfl) (by kernel_rfl) (by kernel_rfl) (calm_panic _) (by kernel_rfl)
  case hy => (refine .inl ⟨by kernel_rfl, fun W hC => ?_⟩; (try dsimp only at hC); go_simp; rfl)
  case hC => exact HC
  case ha => (simp only [Act.put, List.setIfInBounds_toArray, List.set_cons_zero, List.set_cons_succ]; rfl)
  apply WZ.take (i := 9) (some 7) rfl rfl (by kernel_rfl) (by kernel_rfl) (by kernel_rfl) (calm_panic _) (by kernel_rfl)
  case hy => (refine .inl ⟨by kernel_rfl, fun W hC => ?_⟩; (try dsimp only at hC); go_simp; rfl)
  case hC => exact HC
  case ha => (simp only [Act.put, List.setIfInBounds_toArray, List.set_cons_zero, List.set_cons_succ]; rfl)
  apply WZ.take (i := 10) (some 8) rfl rfl (by kernel_rfl) (by kernel_rfl) (by kernel_rfl) (calm_panic _) (by kernel_rfl)
  case hy => (refine .inl ⟨by kernel_rfl, fun W hC => ?_⟩; (try dsimp only at hC); go_simp; rfl)
  case hC => exact HC
  case ha => (simp only [Act.put, List.setIfInBounds_toArray, List.set_cons_zero, List.set_cons_succ]; rfl)
  refine WZ.done (by kernel_rfl) ?_ _
  simp only [Calm, Exit.then]
  clear HC
  have g0 := HP.out.1.at_.1
  have f0 := HP.out.1.free 0
  have hcl := HT.out.cells
  rw [hcl, hh]
  clear hcl
  go_wp2
  go_ret
  have hpl : put l c = l := put_not (by unfold isPut; rw [hh]; simp)
  have hil : insH c l = l := by unfold insH; rw [hh]; rfl
  obtain ⟨p1, p2, p3, p4, p5, p6⟩ := HP.out
  refine ⟨tb :: T'.blocks, T', by unfold putE; rw [HM.out, hh]; rfl, ⟨?_, p2.far p5 _, p3, ?_, ?_, p5, rfl⟩, p6.setCell (by simp) _⟩
  · rw [hpl]; exact p1.root _
  · rw [hpl, p4, hil]
  · rw [hpl]; exact HT.out.up
set_option maxHeartbeats 4000000 in
theorem putT_new (w : World) (S : List Nat) (tb : Nat) (T : Tr) (l : List Cl) (c : Cl) (h : Tbl w S tb T l) (hm : may c = true) (hh : has c l = false) (hl : l.length ≤ 1000) (hy : bytesOf l ≤ 1000000) :
    Calls Try.prog 7 #[.pointer (some ⟨tb, 0, none⟩), c.agg] w fun e w' => ∃ S' T', e = .returned (.int .i64 (putE l c)) ∧ Tbl w' S' tb T' (put l c) ∧ Mv S S' w w' := by
  have hen := encLen_le hm
  obtain ⟨W0, hW0⟩ : ∃ W0, w.alloc (.cells #[.string c.row, .string c.col, .int .u64 c.ts, .int .u64 c.seq, .bool c.del, .string c.val] 31) = W0 := ⟨_, rfl⟩
  have hX := CBox.new w c
  rw [hW0] at hX
  have hB0 : Below w.heap.size w W0 := by rw [← hW0]; exact (Below.refl _ w).alloc (Nat.le_refl _) _
  have HX := Lib.hid hX
  have HB0 := Lib.hid hB0
  have HM := Lib.hid hm
  have HT := Lib.hid h
  obtain ⟨x0, x1, x2, x3, x4, x5⟩ := hX.cells
  clear hX hB0 h hm
  unfold Cl.agg
  go_enter Try.func7, Try.ntmps7
  go_wp2_with (go_at_call 19; refine (cellEncode_ok c _ HM.out).mono ?_; rintro e w1 ⟨str, rfl, hst, hb1⟩; have hB1 := HB0.out.trans (hb1.mono HB0.out.size); have hX1 := HX.out.below hb1 HX.out.lt; have hT1 := HT.out.below hB1; have HX1 := Lib.hid hX1; have HB1 := Lib.hid hB1; have HT1 := Lib.hid hT1; have HST := Lib.hid hst; have HC : w1.drew.rangeAt w.heap.size 0 c.vals ∧ w1.drew.cell? ⟨tb, 0, none⟩ = some (.pointer T.ptr) := ⟨hX1.range, hT1.tab.at_.1⟩; clear x0 x1 x2 x3 x4 x5 hb1 hB1 hX1 hT1 hst)
  refine region_wz (fun W' => W'.rangeAt w.heap.size 0 c.vals ∧ W'.cell? ⟨tb, 0, none⟩ = some (.pointer T.ptr)) none (by kernel_rfl) ?_
  apply WZ.take (i := 0) (some 18) rfl rfl (by kernel_rfl) (by kernel_rfl) (by kernel_rfl) (calm_panic _) (by kernel_rfl)
  case hy => (refine .inl ⟨by kernel_rfl, fun W hC => ?_⟩; (try dsimp only at hC); go_simp; rfl)
  case hC => exact HC
  case ha => (simp only [Act.put, List.setIfInBounds_toArray, List.set_cons_zero, List.set_cons_succ]; rfl)
  apply WZ.take (i := 1) (some 19) rfl rfl (by kernel_rfl) (by kernel_rfl) (by kernel_rfl) (calm_panic _) (by kernel_rfl)
  case hy => (refine .inl ⟨by kernel_rfl, fun W hC => ?_⟩; (try dsimp only at hC); go_simp; rfl)
  case hC => exact HC
  case ha => (simp only [Act.put, List.setIfInBounds_toArray, List.set_cons_zero, List.set_cons_succ]; rfl)
  apply WZ.take (i := 2) (some 20) rfl rfl (by kernel_rfl) (by kernel_rfl) (by kernel_rfl) (calm_panic _) (by kernel_rfl)
  case hy => (refine .inl ⟨by kernel_rfl, fun W hC => ?_⟩; (try dsimp only at hC); go_simp; rfl)
  case hC => exact HC
  case ha => (simp only [Act.put, List.setIfInBounds_toArray, List.set_cons_zero, List.set_cons_succ]; rfl)
  apply WZ.take (i := 3) (some 21) rfl rfl (by kernel_rfl) (by kernel_rfl) (by kernel_rfl) (calm_panic _) (by kernel_rfl)
  case hy => (refine .inl ⟨by kernel_rfl, fun W hC => ?_⟩; (try dsimp only at hC); go_simp; rfl)
  case hC => exact HC
  case ha => (simp only [Act.put, List.setIfInBounds_toArray, List.set_cons_zero, List.set_cons_succ]; rfl)
  apply WZ.take (i := 4) (some 22) rfl rfl (by kernel_rfl) (by kernel_rfl) (by kernel_rfl) (calm_panic _) (by kernel_rfl)
  case hy => first | (apply yieldsIf_load_mid (by kernel_rfl) _ _ rfl _ _ rfl; (case hS => (intro W hC; exact (show World.rangeAt _ _ _ (Cl.vals _) from hC.1))); (case hu => exact Try.underlying31); (case hd => rfl); (case hi => kernel_rfl)) | (apply yieldsIf_load_mid (by kernel_rfl) _ _ rfl _ _ rfl; (case hS => (intro W hC; exact (show World.rangeAt _ _ _ (Cl.vals _) from hC.2.1))); (case hu => exact Try.underlying31); (case hd => rfl); (case hi => kernel_rfl)) | (apply yieldsIf_load_mid (by kernel_rfl) _ _ rfl _ _ rfl; (case hS => (intro W hC; exact (show World.rangeAt _ _ _ (Cl.vals _) from hC.2.2.1))); (case hu => exact Try.underlying31); (case hd => rfl); (case hi => kernel_rfl)) | (apply yieldsIf_load_mid (by kernel_rfl) _ _ rfl _ _ rfl; (case hS => (intro W hC; exact (show World.rangeAt _ _ _ (Cl.vals _) from hC.2.2.2.1))); (case hu => exact Try.underlying31); (case hd => rfl); (case hi => kernel_rfl)) | (apply yieldsIf_load_mid (by kernel_rfl) _ _ rfl _ _ rfl; (case hS => (intro W hC; exact (show World.rangeAt _ _ _ (Cl.vals _) from hC.2.2.2))); (case hu => exact Try.underlying31); (case hd => rfl); (case hi => kernel_rfl)) | (apply yieldsIf_load_mid (by kernel_rfl) _ _ rfl _ _ rfl; (case hS => (intro W hC; exact (show World.rangeAt _ _ _ (Cl.vals _) from hC.2.2))); (case hu => exact Try.underlying31); (case hd => rfl); (case hi => kernel_rfl)) | (apply yieldsIf_load_mid (by kernel_rfl) _ _ rfl _ _ rfl; (case hS => (intro W hC; exact (show World.rangeAt _ _ _ (Cl.vals _) from hC.2))); (case hu => exact Try.underlying31); (case hd => rfl); (case hi => kernel_rfl)) | (apply yieldsIf_load_mid (by kernel_rfl) _ _ rfl _ _ rfl; (case hS => (intro W hC; exact (show World.rangeAt _ _ _ (Cl.vals _) from hC))); (case hu => exact Try.underlying31); (case hd => rfl); (case hi => kernel_rfl))
  case hC => exact HC
  case ha => (simp only [Act.put, List.setIfInBounds_toArray, List.set_cons_zero, List.set_cons_succ]; rfl)
  -- 5
  refine WZ.one (i := 5) rfl (by kernel_rfl) ?_
  conv => arg 4; arg 1; whnf
  go_wp2_with (go_at_call 20; refine (put_any c T w1.drew HT1.out.lies.drew HT1.out.nodup (by rw [HT1.out.cells]; exact HT1.out.up)).mono ?_; rintro e w2 ⟨T', rfl, hp⟩; obtain ⟨p1, p2, p3, p4, p5, p6⟩ := Tbl.putted (w := w) (w1 := w1.drew) (HT1.out.keep fun k _ => rfl) hp (Mv.drewN (Mv.of_below HB1.out HT.out.lt) 1))
  have hx2 := hp.mv.block w.heap.size HX1.out.lt (fun e => by have := HT.out.lies.lt _ e; omega)
  have HC : w2.rangeAt w.heap.size 0 c.vals ∧ w2.cell? ⟨tb, 0, none⟩ = some (.pointer T.ptr) := ⟨(CBox.keep (w := w1.drew) HX1.out hx2).range, p1.at_.1⟩
  have HP := Lib.hid (And.intro p1 (And.intro p2 (And.intro p3 (And.intro p4 (And.intro p5 p6)))))
  clear hp hx2 p1 p2 p3 p4 p5 p6
  refine ⟨HC, ?_⟩
  apply WZ.take (i := 6) (some 17) rfl rfl (by kernel_rfl) (by kernel_rfl) (by kernel_rfl) (calm_panic _) (by kernel_rfl)
  case hy => (refine .inl ⟨by kernel_rfl, fun W hC => ?_⟩; (try dsimp only at hC); go_simp; rfl)
  case hC => exact HC
  case ha => (simp only [Act.put, List.setIfInBounds_toArray, List.set_cons_zero, List.set_cons_succ]; rfl)
  apply WZ.take (i := 7) (some 24) rfl rfl (by kernel_rfl) (by kernel_rfl) (by kernel_rfl) (calm_panic _) (by kernel_rfl)
  case hy => (refine .inl ⟨by kernel_rfl, fun W hC => ?_⟩; (try dsimp only at hC); go_simp; rfl)
  case hC => exact HC
  case ha => (simp only [Act.put, List.setIfInBounds_toArray, List.set_cons_zero, List.set_cons_succ]; rfl)
  apply WZ.take (i := 8) (some 25) rfl rfl (by kernel_rfl) (by kernel_rfl) (by kernel_rfl) (calm_panic _) (by kernel_rfl)
  case hy => (refine .inl ⟨by kernel_rfl, fun W hC => ?_⟩; (try dsimp only at hC); go_simp; rfl)
  case hC => exact HC
  case ha => (simp only [Act.put, List.setIfInBounds_toArray, List.set_cons_zero, List.set_cons_succ]; rfl)
  apply WZ.take (i := 9) (some 7) rfl rfl (by kernel_rfl) (by kernel_rfl) (by kernel_rfl) (calm_panic _) (by kernel_rfl)
  case hy => (refine .inl ⟨by kernel_rfl, fun W hC => ?_⟩; (try dsimp only at hC); go_simp; rfl)
  case hC => exact HC
  case ha => (simp only [Act.put, List.setIfInBounds_toArray, List.set_cons_zero, List.set_cons_succ]; rfl)
  apply WZ.take (i := 10) (some 8) rfl rfl (by kernel_rfl) (by kernel_rfl) (by kernel_rfl) (calm_panic _) (by kernel_rfl)
  case hy => (refine .inl ⟨by kernel_rfl, fun W hC => ?_⟩; (try dsimp only at hC); go_simp; rfl)
  case hC => exact HC
  case ha => (simp only [Act.put, List.setIfInBounds_toArray, List.set_cons_zero, List.set_cons_succ]; rfl)
  refine WZ.done (by kernel_rfl) ?_ _
  simp only [Calm, Exit.then]
  clear HC
  have g0 := HP.out.1.at_.1
  have f0 := HP.out.1.free 0
  have hcl := HT.out.cells
  rw [hcl, hh]
  clear hcl
  obtain ⟨hpl, _, _⟩ := put_is (show isPut l c = true by unfold isPut; rw [HM.out, hh]; rfl)
  have HPL := Lib.hid hpl
  clear hpl
  have t1 := HP.out.1.root T'.ptr
  have g1 := t1.at_.2.1
  have f1 := t1.free 1
  have t2 := t1.many ((l.length : Int) + 1)
  have g2 := t2.at_.2.2
  have f2 := t2.free 2
  have t3 := t2.bytes ((bytesOf l : Int) + (str.size : Int))
  have HT3 := Lib.hid t3
  have hw1 : wrap64 ((l.length : Int) + 1) = (l.length : Int) + 1 := by unfold wrap64; omega
  have hsz : str.size ≤ 200 := by rw [HST.out]; exact hen
  have hw2 : wrap64 ((bytesOf l : Int) + (str.size : Int)) = (bytesOf l : Int) + (str.size : Int) := by unfold wrap64; omega
  have hw1' : IntKind.i64.wrap ((l.length : Int) + 1) = (l.length : Int) + 1 := by rw [IntWalk.i64_in _ (by omega)]
  have hw2' : IntKind.i64.wrap ((bytesOf l : Int) + (str.size : Int)) = (bytesOf l : Int) + (str.size : Int) := by rw [IntWalk.i64_in _ (by omega)]
  clear t1 t2 t3
  go_wp2
  go_ret
  obtain ⟨p1, p2, p3, p4, p5, p6⟩ := HP.out
  have hil : insH c l = ins c l := by unfold insH; rw [hh]; rfl
  refine ⟨tb :: T'.blocks, T', by unfold putE; rw [HM.out, hh]; rfl, ⟨?_, ((p2.far p5 _).far p5 _).far p5 _, p3, ?_, ?_, p5, rfl⟩, ((p6.setCell (by simp) _).setCell (by simp) _).setCell (by simp) _⟩
  · rw [HPL.out, length_ins, bytesOf_ins, ← HST.out]
    exact HT3.out
  · rw [HPL.out, p4, hil]
  · rw [HPL.out]; exact up_ins HT.out.up hh
theorem putT_any (w : World) (S : List Nat) (tb : Nat) (T : Tr) (l : List Cl) (c : Cl) (h : Tbl w S tb T l) (hl : l.length ≤ 1000) (hy : bytesOf l ≤ 1000000) :
    Calls Try.prog 7 #[.pointer (some ⟨tb, 0, none⟩), c.agg] w fun e w' => ∃ S' T', e = .returned (.int .i64 (putE l c)) ∧ Tbl w' S' tb T' (put l c) ∧ Mv S S' w w' := by
  cases hm : may c with
  | false => exact putT_bad w S tb T l c h hm
  | true =>
    cases hh : has c l with
    | true => exact putT_twice w S tb T l c h hm hh
    | false => exact putT_new w S tb T l c h hm hh hl hy
end Go.Proofs.Ytijicefakfpdcaa
