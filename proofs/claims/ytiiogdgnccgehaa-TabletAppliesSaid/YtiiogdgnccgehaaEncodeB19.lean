/-
  The walk of tablet.Encode at batches. No conditions.
-/
import Derived.Test.YtiiogdgnccgehaaEncodeA19
namespace Go.Proofs.Ytiiogdgnccgehaa
open Go.RowKit
attribute [local go_sem ↓] Go.wp_at_zero Go.wp_at_succ


set_option maxRecDepth 20000 in
set_option maxHeartbeats 8000000 in
theorem encode_un1 (cmd : Cmd) (A : Option Addr) (k : Nat) (D : Option Addr) (m : Nat) (w : World) (hin : CmdIn w w.heap.size cmd A k D m) (hk : cmd.kind = 1) (hpin : CmdIn w w.heap.size cmd.plain A k none 0) (hsame : sameC cmd cmd.plain = false) :
    Calls Try.prog 12 #[.agg (cmd.vs A k D m).toArray] w fun e w' => e = .returned (.tuple #[.string ⟨#[]⟩, .int .i64 1]) ∧ Below w.heap.size w w' := by
  have HX := Lib.hid (Blk.new 27 w (cmd.vs A k D m))
  have HB0 := Lib.hid (below_al w (.cells (cmd.vs A k D m).toArray 27))
  obtain ⟨W0, hW0⟩ : ∃ W0, w.alloc (.cells (cmd.vs A k D m).toArray 27) = W0 := ⟨_, rfl⟩
  rw [hW0] at HX HB0
  have HPL := Lib.hid (fun W => plain_1 cmd A k D m W hk)
  have HSM := Lib.hid (fun (W : World) (h : Below w.heap.size w W) => same_any cmd cmd.plain A k D m A k none 0 W ⟨(hin.rc.below h).more h.size, (hin.rf.below h).more h.size, hin.lc, hin.lf, hin.lk, hin.lm⟩ ⟨((hpin).rc.below h).more h.size, ((hpin).rf.below h).more h.size, (hpin).lc, (hpin).lf, (hpin).lk, (hpin).lm⟩)
  rw [hsame] at HSM
  have hkc : decide (cmd.kind < 1) = false := by rw [hk]; rfl
  have hkd : decide (3 < cmd.kind) = false := by rw [hk]; rfl
  have HK := Lib.hid hk
  obtain ⟨PS, hPS⟩ : ∃ PS, cmd.plain.vs A k none 0 = PS := ⟨_, rfl⟩
  have hcc : (cmd.vs A k D m)[0]? = some (.int .i64 cmd.kind) := rfl
  rw [hPS] at HPL HSM
  have HW0 := Lib.hid hW0
  have hsz0 : W0.heap.size = w.heap.size + 1 := by rw [← hW0, World.size_alloc]
  have hCC : ∀ W W', Below W.heap.size W W' → (fun W' => W'.rangeAt w.heap.size 0 (cmd.vs A k D m) ∧ W'.cell? ⟨w.heap.size, 0, none⟩ = some (.int .i64 cmd.kind) ∧ Below W0.heap.size W0 W') W → (fun W' => W'.rangeAt w.heap.size 0 (cmd.vs A k D m) ∧ W'.cell? ⟨w.heap.size, 0, none⟩ = some (.int .i64 cmd.kind) ∧ Below W0.heap.size W0 W') W' := by
    rintro W W' hb ⟨h1, h2, h3⟩
    have hl : w.heap.size < W.heap.size := by have := h3.size; omega
    exact ⟨rangeAt_below h1 hb hl, (hb.cell (p := ⟨w.heap.size, 0, none⟩) hl).trans h2, h3.trans (hb.mono h3.size)⟩
  have HC := hCC _ _ ((Below.refl W0.heap.size W0).drew) ⟨HX.out.range, HX.out.cell hcc, Below.refl _ _⟩
  have HCC := Lib.hid hCC
  have HIN := Lib.hid hin
  clear hPS hin hk hsame hcc hCC
  go_enter Try.func12, Try.ntmps12
  go_wp2_with (rw [HW0.out])
  refine region_wz (fun W' => W'.rangeAt w.heap.size 0 (cmd.vs A k D m) ∧ W'.cell? ⟨w.heap.size, 0, none⟩ = some (.int .i64 cmd.kind) ∧ Below W0.heap.size W0 W') none (by kernel_rfl) ?_
  apply WZ.take (i := 0) (some 12) rfl rfl (by kernel_rfl) (by kernel_rfl) (by kernel_rfl) (calm_panic _) (by kernel_rfl)
  case hy => (refine .inl ⟨by kernel_rfl, fun W hC => ?_⟩; (try dsimp only at hC); go_simp; (try simp only [hkc,hkd]); rfl)
  case hC => exact HC
  case ha => (simp only [Act.put, List.setIfInBounds_toArray, List.set_cons_zero, List.set_cons_succ]; rfl)
  apply WZ.take (i := 1) (some 13) rfl rfl (by kernel_rfl) (by kernel_rfl) (by kernel_rfl) (calm_panic _) (by kernel_rfl)
  case hy => (refine .inl ⟨by kernel_rfl, fun W hC => ?_⟩; (try dsimp only at hC); go_simp; (try simp only [hkc,hkd]); rfl)
  case hC => exact HC
  case ha => (simp only [Act.put, List.setIfInBounds_toArray, List.set_cons_zero, List.set_cons_succ]; rfl)
  apply WZ.take (i := 2) (some 14) rfl rfl (by kernel_rfl) (by kernel_rfl) (by kernel_rfl) (calm_panic _) (by kernel_rfl)
  case hy => (refine .inl ⟨by kernel_rfl, fun W hC => ?_⟩; (try dsimp only at hC); go_simp; (try simp only [hkc,hkd]); rfl)
  case hC => exact HC
  case ha => (simp only [Act.put, List.setIfInBounds_toArray, List.set_cons_zero, List.set_cons_succ]; rfl)
  apply WZ.take (i := 3) (some 15) rfl rfl (by kernel_rfl) (by kernel_rfl) (by kernel_rfl) (calm_panic _) (by kernel_rfl)
  case hy => (refine .inl ⟨by kernel_rfl, fun W hC => ?_⟩; (try dsimp only at hC); go_simp; (try simp only [hkc,hkd]); rfl)
  case hC => exact HC
  case ha => (simp only [Act.put, List.setIfInBounds_toArray, List.set_cons_zero, List.set_cons_succ]; rfl)
  apply WZ.take (i := 4) (some 16) rfl rfl (by kernel_rfl) (by kernel_rfl) (by kernel_rfl) (calm_panic _) (by kernel_rfl)
  case hy => (refine .inl ⟨by kernel_rfl, fun W hC => ?_⟩; (try dsimp only at hC); go_simp; (try simp only [hkc,hkd]); rfl)
  case hC => exact HC
  case ha => (simp only [Act.put, List.setIfInBounds_toArray, List.set_cons_zero, List.set_cons_succ]; rfl)
  apply WZ.take (i := 5) (some 17) rfl rfl (by kernel_rfl) (by kernel_rfl) (by kernel_rfl) (calm_panic _) (by kernel_rfl)
  case hy => (refine .inl ⟨by kernel_rfl, fun W hC => ?_⟩; (try dsimp only at hC); go_simp; (try simp only [hkc,hkd]); rfl)
  case hC => exact HC
  case ha => (simp only [Act.put, List.setIfInBounds_toArray, List.set_cons_zero, List.set_cons_succ]; rfl)
  apply WZ.take (i := 6) (some 18) rfl rfl (by kernel_rfl) (by kernel_rfl) (by kernel_rfl) (calm_panic _) (by kernel_rfl)
  case hy => (refine .inl ⟨by kernel_rfl, fun W hC => ?_⟩; (try dsimp only at hC); go_simp; (try simp only [hkc,hkd]); rfl)
  case hC => exact HC
  case ha => (simp only [Act.put, List.setIfInBounds_toArray, List.set_cons_zero, List.set_cons_succ]; rfl)
  apply WZ.take (i := 7) (some 19) rfl rfl (by kernel_rfl) (by kernel_rfl) (by kernel_rfl) (calm_panic _) (by kernel_rfl)
  case hy => (refine .inl ⟨by kernel_rfl, fun W hC => ?_⟩; (try dsimp only at hC); go_simp; (try simp only [hkc,hkd]); rfl)
  case hC => exact HC
  case ha => (simp only [Act.put, List.setIfInBounds_toArray, List.set_cons_zero, List.set_cons_succ]; rfl)
  apply WZ.take (i := 8) (some 20) rfl rfl (by kernel_rfl) (by kernel_rfl) (by kernel_rfl) (calm_panic _) (by kernel_rfl)
  case hy => (refine .inl ⟨by kernel_rfl, fun W hC => ?_⟩; (try dsimp only at hC); go_simp; (try simp only [hkc,hkd]); rfl)
  case hC => exact HC
  case ha => (simp only [Act.put, List.setIfInBounds_toArray, List.set_cons_zero, List.set_cons_succ]; rfl)
  apply WZ.take (i := 9) (some 21) rfl rfl (by kernel_rfl) (by kernel_rfl) (by kernel_rfl) (calm_panic _) (by kernel_rfl)
  case hy => first | (apply yieldsIf_load_mid (by kernel_rfl) _ _ rfl _ _ rfl; (case hS => (intro W hC; exact hC.1)); (case hu => exact Try.underlying27); (case hd => rfl); (case hi => kernel_rfl)) | (apply yieldsIf_load_mid (by kernel_rfl) _ _ rfl _ _ rfl; (case hS => (intro W hC; exact hC.2.1)); (case hu => exact Try.underlying27); (case hd => rfl); (case hi => kernel_rfl)) | (apply yieldsIf_load_mid (by kernel_rfl) _ _ rfl _ _ rfl; (case hS => (intro W hC; exact hC.2.2.1)); (case hu => exact Try.underlying27); (case hd => rfl); (case hi => kernel_rfl)) | (apply yieldsIf_load_mid (by kernel_rfl) _ _ rfl _ _ rfl; (case hS => (intro W hC; exact hC.2.2.2.1)); (case hu => exact Try.underlying27); (case hd => rfl); (case hi => kernel_rfl)) | (apply yieldsIf_load_mid (by kernel_rfl) _ _ rfl _ _ rfl; (case hS => (intro W hC; exact hC.2.2.2)); (case hu => exact Try.underlying27); (case hd => rfl); (case hi => kernel_rfl)) | (apply yieldsIf_load_mid (by kernel_rfl) _ _ rfl _ _ rfl; (case hS => (intro W hC; exact hC.2.2)); (case hu => exact Try.underlying27); (case hd => rfl); (case hi => kernel_rfl)) | (apply yieldsIf_load_mid (by kernel_rfl) _ _ rfl _ _ rfl; (case hS => (intro W hC; exact hC.2)); (case hu => exact Try.underlying27); (case hd => rfl); (case hi => kernel_rfl)) | (apply yieldsIf_load_mid (by kernel_rfl) _ _ rfl _ _ rfl; (case hS => (intro W hC; exact hC)); (case hu => exact Try.underlying27); (case hd => rfl); (case hi => kernel_rfl))
  case hC => exact HC
  case ha => (simp only [Act.put, List.setIfInBounds_toArray, List.set_cons_zero, List.set_cons_succ]; rfl)
  apply WZ.take (i := 10) (some 22) rfl rfl (by kernel_rfl) (by kernel_rfl) (by kernel_rfl) (calm_panic _) (by kernel_rfl)
  case hy => first | (apply yieldsIf_load_mid (by kernel_rfl) _ _ rfl _ _ rfl; (case hS => (intro W hC; exact hC.1)); (case hu => exact Try.underlying27); (case hd => rfl); (case hi => kernel_rfl)) | (apply yieldsIf_load_mid (by kernel_rfl) _ _ rfl _ _ rfl; (case hS => (intro W hC; exact hC.2.1)); (case hu => exact Try.underlying27); (case hd => rfl); (case hi => kernel_rfl)) | (apply yieldsIf_load_mid (by kernel_rfl) _ _ rfl _ _ rfl; (case hS => (intro W hC; exact hC.2.2.1)); (case hu => exact Try.underlying27); (case hd => rfl); (case hi => kernel_rfl)) | (apply yieldsIf_load_mid (by kernel_rfl) _ _ rfl _ _ rfl; (case hS => (intro W hC; exact hC.2.2.2.1)); (case hu => exact Try.underlying27); (case hd => rfl); (case hi => kernel_rfl)) | (apply yieldsIf_load_mid (by kernel_rfl) _ _ rfl _ _ rfl; (case hS => (intro W hC; exact hC.2.2.2)); (case hu => exact Try.underlying27); (case hd => rfl); (case hi => kernel_rfl)) | (apply yieldsIf_load_mid (by kernel_rfl) _ _ rfl _ _ rfl; (case hS => (intro W hC; exact hC.2.2)); (case hu => exact Try.underlying27); (case hd => rfl); (case hi => kernel_rfl)) | (apply yieldsIf_load_mid (by kernel_rfl) _ _ rfl _ _ rfl; (case hS => (intro W hC; exact hC.2)); (case hu => exact Try.underlying27); (case hd => rfl); (case hi => kernel_rfl)) | (apply yieldsIf_load_mid (by kernel_rfl) _ _ rfl _ _ rfl; (case hS => (intro W hC; exact hC)); (case hu => exact Try.underlying27); (case hd => rfl); (case hi => kernel_rfl))
  case hC => exact HC
  case ha => (simp only [Act.put, List.setIfInBounds_toArray, List.set_cons_zero, List.set_cons_succ]; rfl)
  -- 11
  refine WZ.one (i := 11) rfl (by kernel_rfl) ?_
  conv => arg 4; arg 1; whnf
  go_wp2_with (go_at_call 30; refine (HPL.out _).mono ?_; rintro e w1 ⟨rfl, hb1⟩)
  have HC' := HCC.out _ _ hb1 HC
  clear HC hb1
  have HC := HC'
  clear HC'
  refine ⟨HC, ?_⟩
  -- 12
  refine WZ.one (i := 12) rfl (by kernel_rfl) ?_
  conv => arg 4; arg 1; whnf
  go_wp2_with (go_at_call 29; refine (HSM.out _ (HB0.out.trans (HC.2.2.mono HB0.out.size))).mono ?_; rintro e w2 ⟨rfl, hb2⟩)
  have HC' := HCC.out _ _ hb2 HC
  clear HC hb2
  have HC := HC'
  clear HC'
  refine ⟨HC, ?_⟩
  apply WZ.take (i := 13) (some 25) rfl rfl (by kernel_rfl) (by kernel_rfl) (by kernel_rfl) (calm_panic _) (by kernel_rfl)
  case hy => (refine .inl ⟨by kernel_rfl, fun W hC => ?_⟩; (try dsimp only at hC); go_simp; (try simp only [hkc,hkd]); rfl)
  case hC => exact HC
  case ha => (simp only [Act.put, List.setIfInBounds_toArray, List.set_cons_zero, List.set_cons_succ]; rfl)
  apply WZ.take (i := 14) (some 26) rfl rfl (by kernel_rfl) (by kernel_rfl) (by kernel_rfl) (calm_panic _) (by kernel_rfl)
  case hy => (refine .inl ⟨by kernel_rfl, fun W hC => ?_⟩; (try dsimp only at hC); go_simp; (try simp only [hkc,hkd]); rfl)
  case hC => exact HC
  case ha => (simp only [Act.put, List.setIfInBounds_toArray, List.set_cons_zero, List.set_cons_succ]; rfl)
  apply WZ.take (i := 15) (some 11) rfl rfl (by kernel_rfl) (by kernel_rfl) (by kernel_rfl) (calm_panic _) (by kernel_rfl)
  case hy => (refine .inl ⟨by kernel_rfl, fun W hC => ?_⟩; (try dsimp only at hC); go_simp; (try simp only [hkc,hkd]); rfl)
  case hC => exact HC
  case ha => (simp only [Act.put, List.setIfInBounds_toArray, List.set_cons_zero, List.set_cons_succ]; rfl)
  refine WZ.done (by kernel_rfl) ?_ _
  simp only [Calm, Exit.then]
  go_wp2
  go_ret2
  exact ⟨rfl, HB0.out.trans (HC.2.2.mono HB0.out.size)⟩
set_option maxRecDepth 20000 in
set_option maxHeartbeats 8000000 in
theorem encode_wide1 (cmd : Cmd) (A : Option Addr) (k : Nat) (D : Option Addr) (m : Nat) (w : World) (hin : CmdIn w w.heap.size cmd A k D m) (hk : cmd.kind = 1) (hpin : CmdIn w w.heap.size cmd.plain A k none 0) (hsame : sameC cmd cmd.plain = true) (hwide : wideC cmd = true) :
    Calls Try.prog 12 #[.agg (cmd.vs A k D m).toArray] w fun e w' => e = .returned (.tuple #[.string ⟨#[]⟩, .int .i64 71]) ∧ Below w.heap.size w w' := by
  have HX := Lib.hid (Blk.new 27 w (cmd.vs A k D m))
  have HB0 := Lib.hid (below_al w (.cells (cmd.vs A k D m).toArray 27))
  obtain ⟨W0, hW0⟩ : ∃ W0, w.alloc (.cells (cmd.vs A k D m).toArray 27) = W0 := ⟨_, rfl⟩
  rw [hW0] at HX HB0
  have HPL := Lib.hid (fun W => plain_1 cmd A k D m W hk)
  have HSM := Lib.hid (fun (W : World) (h : Below w.heap.size w W) => same_any cmd cmd.plain A k D m A k none 0 W ⟨(hin.rc.below h).more h.size, (hin.rf.below h).more h.size, hin.lc, hin.lf, hin.lk, hin.lm⟩ ⟨((hpin).rc.below h).more h.size, ((hpin).rf.below h).more h.size, (hpin).lc, (hpin).lf, (hpin).lk, (hpin).lm⟩)
  rw [hsame] at HSM
  have hkc : decide (cmd.kind < 1) = false := by rw [hk]; rfl
  have hkd : decide (3 < cmd.kind) = false := by rw [hk]; rfl
  have HK := Lib.hid hk
  obtain ⟨PS, hPS⟩ : ∃ PS, cmd.plain.vs A k none 0 = PS := ⟨_, rfl⟩
  have hcc : (cmd.vs A k D m)[0]? = some (.int .i64 cmd.kind) := rfl
  rw [hPS] at HPL HSM
  have HW0 := Lib.hid hW0
  have hsz0 : W0.heap.size = w.heap.size + 1 := by rw [← hW0, World.size_alloc]
  have hCC : ∀ W W', Below W.heap.size W W' → (fun W' => W'.rangeAt w.heap.size 0 (cmd.vs A k D m) ∧ W'.cell? ⟨w.heap.size, 0, none⟩ = some (.int .i64 cmd.kind) ∧ Below W0.heap.size W0 W') W → (fun W' => W'.rangeAt w.heap.size 0 (cmd.vs A k D m) ∧ W'.cell? ⟨w.heap.size, 0, none⟩ = some (.int .i64 cmd.kind) ∧ Below W0.heap.size W0 W') W' := by
    rintro W W' hb ⟨h1, h2, h3⟩
    have hl : w.heap.size < W.heap.size := by have := h3.size; omega
    exact ⟨rangeAt_below h1 hb hl, (hb.cell (p := ⟨w.heap.size, 0, none⟩) hl).trans h2, h3.trans (hb.mono h3.size)⟩
  have HC := hCC _ _ ((Below.refl W0.heap.size W0).drew) ⟨HX.out.range, HX.out.cell hcc, Below.refl _ _⟩
  have HCC := Lib.hid hCC
  have HIN := Lib.hid hin
  clear hPS hin hk hsame hcc hCC
  go_enter Try.func12, Try.ntmps12
  go_wp2_with (rw [HW0.out])
  refine region_wz (fun W' => W'.rangeAt w.heap.size 0 (cmd.vs A k D m) ∧ W'.cell? ⟨w.heap.size, 0, none⟩ = some (.int .i64 cmd.kind) ∧ Below W0.heap.size W0 W') none (by kernel_rfl) ?_
  apply WZ.take (i := 0) (some 12) rfl rfl (by kernel_rfl) (by kernel_rfl) (by kernel_rfl) (calm_panic _) (by kernel_rfl)
  case hy => (refine .inl ⟨by kernel_rfl, fun W hC => ?_⟩; (try dsimp only at hC); go_simp; (try simp only [hkc,hkd]); rfl)
  case hC => exact HC
  case ha => (simp only [Act.put, List.setIfInBounds_toArray, List.set_cons_zero, List.set_cons_succ]; rfl)
  apply WZ.take (i := 1) (some 13) rfl rfl (by kernel_rfl) (by kernel_rfl) (by kernel_rfl) (calm_panic _) (by kernel_rfl)
  case hy => (refine .inl ⟨by kernel_rfl, fun W hC => ?_⟩; (try dsimp only at hC); go_simp; (try simp only [hkc,hkd]); rfl)
  case hC => exact HC
  case ha => (simp only [Act.put, List.setIfInBounds_toArray, List.set_cons_zero, List.set_cons_succ]; rfl)
  apply WZ.take (i := 2) (some 14) rfl rfl (by kernel_rfl) (by kernel_rfl) (by kernel_rfl) (calm_panic _) (by kernel_rfl)
  case hy => (refine .inl ⟨by kernel_rfl, fun W hC => ?_⟩; (try dsimp only at hC); go_simp; (try simp only [hkc,hkd]); rfl)
  case hC => exact HC
  case ha => (simp only [Act.put, List.setIfInBounds_toArray, List.set_cons_zero, List.set_cons_succ]; rfl)
  apply WZ.take (i := 3) (some 15) rfl rfl (by kernel_rfl) (by kernel_rfl) (by kernel_rfl) (calm_panic _) (by kernel_rfl)
  case hy => (refine .inl ⟨by kernel_rfl, fun W hC => ?_⟩; (try dsimp only at hC); go_simp; (try simp only [hkc,hkd]); rfl)
  case hC => exact HC
  case ha => (simp only [Act.put, List.setIfInBounds_toArray, List.set_cons_zero, List.set_cons_succ]; rfl)
  apply WZ.take (i := 4) (some 16) rfl rfl (by kernel_rfl) (by kernel_rfl) (by kernel_rfl) (calm_panic _) (by kernel_rfl)
  case hy => (refine .inl ⟨by kernel_rfl, fun W hC => ?_⟩; (try dsimp only at hC); go_simp; (try simp only [hkc,hkd]); rfl)
  case hC => exact HC
  case ha => (simp only [Act.put, List.setIfInBounds_toArray, List.set_cons_zero, List.set_cons_succ]; rfl)
  apply WZ.take (i := 5) (some 17) rfl rfl (by kernel_rfl) (by kernel_rfl) (by kernel_rfl) (calm_panic _) (by kernel_rfl)
  case hy => (refine .inl ⟨by kernel_rfl, fun W hC => ?_⟩; (try dsimp only at hC); go_simp; (try simp only [hkc,hkd]); rfl)
  case hC => exact HC
  case ha => (simp only [Act.put, List.setIfInBounds_toArray, List.set_cons_zero, List.set_cons_succ]; rfl)
  apply WZ.take (i := 6) (some 18) rfl rfl (by kernel_rfl) (by kernel_rfl) (by kernel_rfl) (calm_panic _) (by kernel_rfl)
  case hy => (refine .inl ⟨by kernel_rfl, fun W hC => ?_⟩; (try dsimp only at hC); go_simp; (try simp only [hkc,hkd]); rfl)
  case hC => exact HC
  case ha => (simp only [Act.put, List.setIfInBounds_toArray, List.set_cons_zero, List.set_cons_succ]; rfl)
  apply WZ.take (i := 7) (some 19) rfl rfl (by kernel_rfl) (by kernel_rfl) (by kernel_rfl) (calm_panic _) (by kernel_rfl)
  case hy => (refine .inl ⟨by kernel_rfl, fun W hC => ?_⟩; (try dsimp only at hC); go_simp; (try simp only [hkc,hkd]); rfl)
  case hC => exact HC
  case ha => (simp only [Act.put, List.setIfInBounds_toArray, List.set_cons_zero, List.set_cons_succ]; rfl)
  apply WZ.take (i := 8) (some 20) rfl rfl (by kernel_rfl) (by kernel_rfl) (by kernel_rfl) (calm_panic _) (by kernel_rfl)
  case hy => (refine .inl ⟨by kernel_rfl, fun W hC => ?_⟩; (try dsimp only at hC); go_simp; (try simp only [hkc,hkd]); rfl)
  case hC => exact HC
  case ha => (simp only [Act.put, List.setIfInBounds_toArray, List.set_cons_zero, List.set_cons_succ]; rfl)
  apply WZ.take (i := 9) (some 21) rfl rfl (by kernel_rfl) (by kernel_rfl) (by kernel_rfl) (calm_panic _) (by kernel_rfl)
  case hy => first | (apply yieldsIf_load_mid (by kernel_rfl) _ _ rfl _ _ rfl; (case hS => (intro W hC; exact hC.1)); (case hu => exact Try.underlying27); (case hd => rfl); (case hi => kernel_rfl)) | (apply yieldsIf_load_mid (by kernel_rfl) _ _ rfl _ _ rfl; (case hS => (intro W hC; exact hC.2.1)); (case hu => exact Try.underlying27); (case hd => rfl); (case hi => kernel_rfl)) | (apply yieldsIf_load_mid (by kernel_rfl) _ _ rfl _ _ rfl; (case hS => (intro W hC; exact hC.2.2.1)); (case hu => exact Try.underlying27); (case hd => rfl); (case hi => kernel_rfl)) | (apply yieldsIf_load_mid (by kernel_rfl) _ _ rfl _ _ rfl; (case hS => (intro W hC; exact hC.2.2.2.1)); (case hu => exact Try.underlying27); (case hd => rfl); (case hi => kernel_rfl)) | (apply yieldsIf_load_mid (by kernel_rfl) _ _ rfl _ _ rfl; (case hS => (intro W hC; exact hC.2.2.2)); (case hu => exact Try.underlying27); (case hd => rfl); (case hi => kernel_rfl)) | (apply yieldsIf_load_mid (by kernel_rfl) _ _ rfl _ _ rfl; (case hS => (intro W hC; exact hC.2.2)); (case hu => exact Try.underlying27); (case hd => rfl); (case hi => kernel_rfl)) | (apply yieldsIf_load_mid (by kernel_rfl) _ _ rfl _ _ rfl; (case hS => (intro W hC; exact hC.2)); (case hu => exact Try.underlying27); (case hd => rfl); (case hi => kernel_rfl)) | (apply yieldsIf_load_mid (by kernel_rfl) _ _ rfl _ _ rfl; (case hS => (intro W hC; exact hC)); (case hu => exact Try.underlying27); (case hd => rfl); (case hi => kernel_rfl))
  case hC => exact HC
  case ha => (simp only [Act.put, List.setIfInBounds_toArray, List.set_cons_zero, List.set_cons_succ]; rfl)
  apply WZ.take (i := 10) (some 22) rfl rfl (by kernel_rfl) (by kernel_rfl) (by kernel_rfl) (calm_panic _) (by kernel_rfl)
  case hy => first | (apply yieldsIf_load_mid (by kernel_rfl) _ _ rfl _ _ rfl; (case hS => (intro W hC; exact hC.1)); (case hu => exact Try.underlying27); (case hd => rfl); (case hi => kernel_rfl)) | (apply yieldsIf_load_mid (by kernel_rfl) _ _ rfl _ _ rfl; (case hS => (intro W hC; exact hC.2.1)); (case hu => exact Try.underlying27); (case hd => rfl); (case hi => kernel_rfl)) | (apply yieldsIf_load_mid (by kernel_rfl) _ _ rfl _ _ rfl; (case hS => (intro W hC; exact hC.2.2.1)); (case hu => exact Try.underlying27); (case hd => rfl); (case hi => kernel_rfl)) | (apply yieldsIf_load_mid (by kernel_rfl) _ _ rfl _ _ rfl; (case hS => (intro W hC; exact hC.2.2.2.1)); (case hu => exact Try.underlying27); (case hd => rfl); (case hi => kernel_rfl)) | (apply yieldsIf_load_mid (by kernel_rfl) _ _ rfl _ _ rfl; (case hS => (intro W hC; exact hC.2.2.2)); (case hu => exact Try.underlying27); (case hd => rfl); (case hi => kernel_rfl)) | (apply yieldsIf_load_mid (by kernel_rfl) _ _ rfl _ _ rfl; (case hS => (intro W hC; exact hC.2.2)); (case hu => exact Try.underlying27); (case hd => rfl); (case hi => kernel_rfl)) | (apply yieldsIf_load_mid (by kernel_rfl) _ _ rfl _ _ rfl; (case hS => (intro W hC; exact hC.2)); (case hu => exact Try.underlying27); (case hd => rfl); (case hi => kernel_rfl)) | (apply yieldsIf_load_mid (by kernel_rfl) _ _ rfl _ _ rfl; (case hS => (intro W hC; exact hC)); (case hu => exact Try.underlying27); (case hd => rfl); (case hi => kernel_rfl))
  case hC => exact HC
  case ha => (simp only [Act.put, List.setIfInBounds_toArray, List.set_cons_zero, List.set_cons_succ]; rfl)
  -- 11
  refine WZ.one (i := 11) rfl (by kernel_rfl) ?_
  conv => arg 4; arg 1; whnf
  go_wp2_with (go_at_call 30; refine (HPL.out _).mono ?_; rintro e w1 ⟨rfl, hb1⟩)
  have HC' := HCC.out _ _ hb1 HC
  clear HC hb1
  have HC := HC'
  clear HC'
  refine ⟨HC, ?_⟩
  -- 12
  refine WZ.one (i := 12) rfl (by kernel_rfl) ?_
  conv => arg 4; arg 1; whnf
  go_wp2_with (go_at_call 29; refine (HSM.out _ (HB0.out.trans (HC.2.2.mono HB0.out.size))).mono ?_; rintro e w2 ⟨rfl, hb2⟩)
  have HC' := HCC.out _ _ hb2 HC
  clear HC hb2
  have HC := HC'
  clear HC'
  refine ⟨HC, ?_⟩
  apply WZ.take (i := 13) (some 25) rfl rfl (by kernel_rfl) (by kernel_rfl) (by kernel_rfl) (calm_panic _) (by kernel_rfl)
  case hy => (refine .inl ⟨by kernel_rfl, fun W hC => ?_⟩; (try dsimp only at hC); go_simp; (try simp only [hkc,hkd]); rfl)
  case hC => exact HC
  case ha => (simp only [Act.put, List.setIfInBounds_toArray, List.set_cons_zero, List.set_cons_succ]; rfl)
  apply WZ.take (i := 14) (some 26) rfl rfl (by kernel_rfl) (by kernel_rfl) (by kernel_rfl) (calm_panic _) (by kernel_rfl)
  case hy => (refine .inl ⟨by kernel_rfl, fun W hC => ?_⟩; (try dsimp only at hC); go_simp; (try simp only [hkc,hkd]); rfl)
  case hC => exact HC
  case ha => (simp only [Act.put, List.setIfInBounds_toArray, List.set_cons_zero, List.set_cons_succ]; rfl)
  apply WZ.take (i := 15) (some 11) rfl rfl (by kernel_rfl) (by kernel_rfl) (by kernel_rfl) (calm_panic _) (by kernel_rfl)
  case hy => (refine .inl ⟨by kernel_rfl, fun W hC => ?_⟩; (try dsimp only at hC); go_simp; (try simp only [hkc,hkd]); rfl)
  case hC => exact HC
  case ha => (simp only [Act.put, List.setIfInBounds_toArray, List.set_cons_zero, List.set_cons_succ]; rfl)
  refine WZ.done (by kernel_rfl) ?_ _
  simp only [Calm, Exit.then]
  have hX2 : Blk 27 w2 w.heap.size (cmd.vs A k D m) := HX.out.below HC.2.2 HX.out.lt
  have q0 := hX2.cell (j := 0) rfl
  have q1 := hX2.cell (j := 1) rfl
  have q2 := hX2.cell (j := 2) rfl
  have q3 := hX2.cell (j := 3) rfl
  have q4 := hX2.cell (j := 4) rfl
  have q5 := hX2.cell (j := 5) rfl
  have q6 := hX2.cell (j := 6) rfl
  have q7 := hX2.cell (j := 7) rfl
  have q8 := hX2.cell (j := 8) rfl
  have HX2 := Lib.hid hX2
  have HB2 := Lib.hid (HB0.out.trans (HC.2.2.mono HB0.out.size))
  clear hX2 HC HCC HSM HPL HX HW0
  cases w1 : decide ((100 : Int) < (cmd.cells.length : Int)) with
  | true =>
    go_wp2
    go_ret2
    exact ⟨rfl, HB2.out⟩
  | false =>
    cases w3 : decide ((255 : Int) < (cmd.files.length : Int)) with
    | true =>
      go_wp2
      go_ret2
      exact ⟨rfl, HB2.out⟩
    | false =>
      have w4 : decide ((255 : Int) < (cmd.row.size : Int)) = true := by
        unfold wideC at hwide
        simp only [Bool.or_eq_true, decide_eq_true_eq] at hwide
        have h1 := of_decide_eq_false w1
        have h3 := of_decide_eq_false w3
        exact decide_eq_true (by omega)
      go_wp2
      go_ret2
      exact ⟨rfl, HB2.out⟩
def headB (client num n : Nat) : List ByteArray := [nb 1 1, nb client 8, nb num 8, nb n 1]
def allTo {α : Type} (p : α → Bool) (l : List α) (k : Nat) : Prop := ∀ j (h : j < l.length), j < k → p l[j] = true
theorem allTo.zero {α : Type} (p : α → Bool) (l : List α) : allTo p l 0 := fun j h hj => by omega
theorem allTo.succ {α : Type} {p : α → Bool} {l : List α} {k : Nat} (h : allTo p l k) (hk : k < l.length) (hp : p l[k] = true) : allTo p l (k + 1) := fun j hj hjk => by
  by_cases e : j = k
  · subst e; exact hp
  · exact h j hj (by omega)
theorem allTo.all {α : Type} {p : α → Bool} {l : List α} {k : Nat} (h : allTo p l k) (hk : l.length ≤ k) : l.all p = true := by
  rw [List.all_eq_true]
  intro x hx
  obtain ⟨j, hj, rfl⟩ := List.getElem_of_mem hx
  exact h j hj (by omega)
theorem all_not {α : Type} {p : α → Bool} {l : List α} {k : Nat} (hk : k < l.length) (hp : p l[k] = false) : l.all p = false := by
  rw [← Bool.not_eq_true, List.all_eq_true]
  intro h
  rw [h _ (List.getElem_mem hk)] at hp
  cases hp
/-- a batch's bytes, or that a cell may not be -/
def batchR (client num : Nat) (cells : List Cl) : ByteArray × Int := if cells.all may then (cat (batchP client num cells), 0) else (⟨#[]⟩, 1)
set_option maxRecDepth 20000 in
set_option maxHeartbeats 16000000 in
theorem encode_ok1 (cmd : Cmd) (A : Option Addr) (k : Nat) (D : Option Addr) (m : Nat) (w : World) (hin : CmdIn w w.heap.size cmd A k D m) (hk : cmd.kind = 1) (hpin : CmdIn w w.heap.size cmd.plain A k none 0) (hsame : sameC cmd cmd.plain = true) (hwide : wideC cmd = false) :
    Calls Try.prog 12 #[.agg (cmd.vs A k D m).toArray] w fun e w' => e = .returned (.tuple #[.string (batchR cmd.client cmd.num cmd.cells).1, .int .i64 (batchR cmd.client cmd.num cmd.cells).2]) ∧ Below w.heap.size w w' := by
  have HX := Lib.hid (Blk.new 27 w (cmd.vs A k D m))
  have HB0 := Lib.hid (below_al w (.cells (cmd.vs A k D m).toArray 27))
  obtain ⟨W0, hW0⟩ : ∃ W0, w.alloc (.cells (cmd.vs A k D m).toArray 27) = W0 := ⟨_, rfl⟩
  rw [hW0] at HX HB0
  have HPL := Lib.hid (fun W => plain_1 cmd A k D m W hk)
  have HSM := Lib.hid (fun (W : World) (h : Below w.heap.size w W) => same_any cmd cmd.plain A k D m A k none 0 W ⟨(hin.rc.below h).more h.size, (hin.rf.below h).more h.size, hin.lc, hin.lf, hin.lk, hin.lm⟩ ⟨((hpin).rc.below h).more h.size, ((hpin).rf.below h).more h.size, (hpin).lc, (hpin).lf, (hpin).lk, (hpin).lm⟩)
  rw [hsame] at HSM
  have hkc : decide (cmd.kind < 1) = false := by rw [hk]; rfl
  have hkd : decide (3 < cmd.kind) = false := by rw [hk]; rfl
  have HK := Lib.hid hk
  obtain ⟨PS, hPS⟩ : ∃ PS, cmd.plain.vs A k none 0 = PS := ⟨_, rfl⟩
  have hcc : (cmd.vs A k D m)[0]? = some (.int .i64 cmd.kind) := rfl
  rw [hPS] at HPL HSM
  have HW0 := Lib.hid hW0
  have hsz0 : W0.heap.size = w.heap.size + 1 := by rw [← hW0, World.size_alloc]
  have hCC : ∀ W W', Below W.heap.size W W' → (fun W' => W'.rangeAt w.heap.size 0 (cmd.vs A k D m) ∧ W'.cell? ⟨w.heap.size, 0, none⟩ = some (.int .i64 cmd.kind) ∧ Below W0.heap.size W0 W') W → (fun W' => W'.rangeAt w.heap.size 0 (cmd.vs A k D m) ∧ W'.cell? ⟨w.heap.size, 0, none⟩ = some (.int .i64 cmd.kind) ∧ Below W0.heap.size W0 W') W' := by
    rintro W W' hb ⟨h1, h2, h3⟩
    have hl : w.heap.size < W.heap.size := by have := h3.size; omega
    exact ⟨rangeAt_below h1 hb hl, (hb.cell (p := ⟨w.heap.size, 0, none⟩) hl).trans h2, h3.trans (hb.mono h3.size)⟩
  have HC := hCC _ _ ((Below.refl W0.heap.size W0).drew) ⟨HX.out.range, HX.out.cell hcc, Below.refl _ _⟩
  have HCC := Lib.hid hCC
  have HIN := Lib.hid hin
  clear hPS hin hk hsame hcc hCC
  go_enter Try.func12, Try.ntmps12
  go_wp2_with (rw [HW0.out])
  refine region_wz (fun W' => W'.rangeAt w.heap.size 0 (cmd.vs A k D m) ∧ W'.cell? ⟨w.heap.size, 0, none⟩ = some (.int .i64 cmd.kind) ∧ Below W0.heap.size W0 W') none (by kernel_rfl) ?_
  apply WZ.take (i := 0) (some 12) rfl rfl (by kernel_rfl) (by kernel_rfl) (by kernel_rfl) (calm_panic _) (by kernel_rfl)
  case hy => (refine .inl ⟨by kernel_rfl, fun W hC => ?_⟩; (try dsimp only at hC); go_simp; (try simp only [hkc,hkd]); rfl)
  case hC => exact HC
  case ha => (simp only [Act.put, List.setIfInBounds_toArray, List.set_cons_zero, List.set_cons_succ]; rfl)
  apply WZ.take (i := 1) (some 13) rfl rfl (by kernel_rfl) (by kernel_rfl) (by kernel_rfl) (calm_panic _) (by kernel_rfl)
  case hy => (refine .inl ⟨by kernel_rfl, fun W hC => ?_⟩; (try dsimp only at hC); go_simp; (try simp only [hkc,hkd]); rfl)
  case hC => exact HC
  case ha => (simp only [Act.put, List.setIfInBounds_toArray, List.set_cons_zero, List.set_cons_succ]; rfl)
  apply WZ.take (i := 2) (some 14) rfl rfl (by kernel_rfl) (by kernel_rfl) (by kernel_rfl) (calm_panic _) (by kernel_rfl)
  case hy => (refine .inl ⟨by kernel_rfl, fun W hC => ?_⟩; (try dsimp only at hC); go_simp; (try simp only [hkc,hkd]); rfl)
  case hC => exact HC
  case ha => (simp only [Act.put, List.setIfInBounds_toArray, List.set_cons_zero, List.set_cons_succ]; rfl)
  apply WZ.take (i := 3) (some 15) rfl rfl (by kernel_rfl) (by kernel_rfl) (by kernel_rfl) (calm_panic _) (by kernel_rfl)
  case hy => (refine .inl ⟨by kernel_rfl, fun W hC => ?_⟩; (try dsimp only at hC); go_simp; (try simp only [hkc,hkd]); rfl)
  case hC => exact HC
  case ha => (simp only [Act.put, List.setIfInBounds_toArray, List.set_cons_zero, List.set_cons_succ]; rfl)
  apply WZ.take (i := 4) (some 16) rfl rfl (by kernel_rfl) (by kernel_rfl) (by kernel_rfl) (calm_panic _) (by kernel_rfl)
  case hy => (refine .inl ⟨by kernel_rfl, fun W hC => ?_⟩; (try dsimp only at hC); go_simp; (try simp only [hkc,hkd]); rfl)
  case hC => exact HC
  case ha => (simp only [Act.put, List.setIfInBounds_toArray, List.set_cons_zero, List.set_cons_succ]; rfl)
  apply WZ.take (i := 5) (some 17) rfl rfl (by kernel_rfl) (by kernel_rfl) (by kernel_rfl) (calm_panic _) (by kernel_rfl)
  case hy => (refine .inl ⟨by kernel_rfl, fun W hC => ?_⟩; (try dsimp only at hC); go_simp; (try simp only [hkc,hkd]); rfl)
  case hC => exact HC
  case ha => (simp only [Act.put, List.setIfInBounds_toArray, List.set_cons_zero, List.set_cons_succ]; rfl)
  apply WZ.take (i := 6) (some 18) rfl rfl (by kernel_rfl) (by kernel_rfl) (by kernel_rfl) (calm_panic _) (by kernel_rfl)
  case hy => (refine .inl ⟨by kernel_rfl, fun W hC => ?_⟩; (try dsimp only at hC); go_simp; (try simp only [hkc,hkd]); rfl)
  case hC => exact HC
  case ha => (simp only [Act.put, List.setIfInBounds_toArray, List.set_cons_zero, List.set_cons_succ]; rfl)
  apply WZ.take (i := 7) (some 19) rfl rfl (by kernel_rfl) (by kernel_rfl) (by kernel_rfl) (calm_panic _) (by kernel_rfl)
  case hy => (refine .inl ⟨by kernel_rfl, fun W hC => ?_⟩; (try dsimp only at hC); go_simp; (try simp only [hkc,hkd]); rfl)
  case hC => exact HC
  case ha => (simp only [Act.put, List.setIfInBounds_toArray, List.set_cons_zero, List.set_cons_succ]; rfl)
  apply WZ.take (i := 8) (some 20) rfl rfl (by kernel_rfl) (by kernel_rfl) (by kernel_rfl) (calm_panic _) (by kernel_rfl)
  case hy => (refine .inl ⟨by kernel_rfl, fun W hC => ?_⟩; (try dsimp only at hC); go_simp; (try simp only [hkc,hkd]); rfl)
  case hC => exact HC
  case ha => (simp only [Act.put, List.setIfInBounds_toArray, List.set_cons_zero, List.set_cons_succ]; rfl)
  apply WZ.take (i := 9) (some 21) rfl rfl (by kernel_rfl) (by kernel_rfl) (by kernel_rfl) (calm_panic _) (by kernel_rfl)
  case hy => first | (apply yieldsIf_load_mid (by kernel_rfl) _ _ rfl _ _ rfl; (case hS => (intro W hC; exact hC.1)); (case hu => exact Try.underlying27); (case hd => rfl); (case hi => kernel_rfl)) | (apply yieldsIf_load_mid (by kernel_rfl) _ _ rfl _ _ rfl; (case hS => (intro W hC; exact hC.2.1)); (case hu => exact Try.underlying27); (case hd => rfl); (case hi => kernel_rfl)) | (apply yieldsIf_load_mid (by kernel_rfl) _ _ rfl _ _ rfl; (case hS => (intro W hC; exact hC.2.2.1)); (case hu => exact Try.underlying27); (case hd => rfl); (case hi => kernel_rfl)) | (apply yieldsIf_load_mid (by kernel_rfl) _ _ rfl _ _ rfl; (case hS => (intro W hC; exact hC.2.2.2.1)); (case hu => exact Try.underlying27); (case hd => rfl); (case hi => kernel_rfl)) | (apply yieldsIf_load_mid (by kernel_rfl) _ _ rfl _ _ rfl; (case hS => (intro W hC; exact hC.2.2.2)); (case hu => exact Try.underlying27); (case hd => rfl); (case hi => kernel_rfl)) | (apply yieldsIf_load_mid (by kernel_rfl) _ _ rfl _ _ rfl; (case hS => (intro W hC; exact hC.2.2)); (case hu => exact Try.underlying27); (case hd => rfl); (case hi => kernel_rfl)) | (apply yieldsIf_load_mid (by kernel_rfl) _ _ rfl _ _ rfl; (case hS => (intro W hC; exact hC.2)); (case hu => exact Try.underlying27); (case hd => rfl); (case hi => kernel_rfl)) | (apply yieldsIf_load_mid (by kernel_rfl) _ _ rfl _ _ rfl; (case hS => (intro W hC; exact hC)); (case hu => exact Try.underlying27); (case hd => rfl); (case hi => kernel_rfl))
  case hC => exact HC
  case ha => (simp only [Act.put, List.setIfInBounds_toArray, List.set_cons_zero, List.set_cons_succ]; rfl)
  apply WZ.take (i := 10) (some 22) rfl rfl (by kernel_rfl) (by kernel_rfl) (by kernel_rfl) (calm_panic _) (by kernel_rfl)
  case hy => first | (apply yieldsIf_load_mid (by kernel_rfl) _ _ rfl _ _ rfl; (case hS => (intro W hC; exact hC.1)); (case hu => exact Try.underlying27); (case hd => rfl); (case hi => kernel_rfl)) | (apply yieldsIf_load_mid (by kernel_rfl) _ _ rfl _ _ rfl; (case hS => (intro W hC; exact hC.2.1)); (case hu => exact Try.underlying27); (case hd => rfl); (case hi => kernel_rfl)) | (apply yieldsIf_load_mid (by kernel_rfl) _ _ rfl _ _ rfl; (case hS => (intro W hC; exact hC.2.2.1)); (case hu => exact Try.underlying27); (case hd => rfl); (case hi => kernel_rfl)) | (apply yieldsIf_load_mid (by kernel_rfl) _ _ rfl _ _ rfl; (case hS => (intro W hC; exact hC.2.2.2.1)); (case hu => exact Try.underlying27); (case hd => rfl); (case hi => kernel_rfl)) | (apply yieldsIf_load_mid (by kernel_rfl) _ _ rfl _ _ rfl; (case hS => (intro W hC; exact hC.2.2.2)); (case hu => exact Try.underlying27); (case hd => rfl); (case hi => kernel_rfl)) | (apply yieldsIf_load_mid (by kernel_rfl) _ _ rfl _ _ rfl; (case hS => (intro W hC; exact hC.2.2)); (case hu => exact Try.underlying27); (case hd => rfl); (case hi => kernel_rfl)) | (apply yieldsIf_load_mid (by kernel_rfl) _ _ rfl _ _ rfl; (case hS => (intro W hC; exact hC.2)); (case hu => exact Try.underlying27); (case hd => rfl); (case hi => kernel_rfl)) | (apply yieldsIf_load_mid (by kernel_rfl) _ _ rfl _ _ rfl; (case hS => (intro W hC; exact hC)); (case hu => exact Try.underlying27); (case hd => rfl); (case hi => kernel_rfl))
  case hC => exact HC
  case ha => (simp only [Act.put, List.setIfInBounds_toArray, List.set_cons_zero, List.set_cons_succ]; rfl)
  -- 11
  refine WZ.one (i := 11) rfl (by kernel_rfl) ?_
  conv => arg 4; arg 1; whnf
  go_wp2_with (go_at_call 30; refine (HPL.out _).mono ?_; rintro e w1 ⟨rfl, hb1⟩)
  have HC' := HCC.out _ _ hb1 HC
  clear HC hb1
  have HC := HC'
  clear HC'
  refine ⟨HC, ?_⟩
  -- 12
  refine WZ.one (i := 12) rfl (by kernel_rfl) ?_
  conv => arg 4; arg 1; whnf
  go_wp2_with (go_at_call 29; refine (HSM.out _ (HB0.out.trans (HC.2.2.mono HB0.out.size))).mono ?_; rintro e w2 ⟨rfl, hb2⟩)
  have HC' := HCC.out _ _ hb2 HC
  clear HC hb2
  have HC := HC'
  clear HC'
  refine ⟨HC, ?_⟩
  apply WZ.take (i := 13) (some 25) rfl rfl (by kernel_rfl) (by kernel_rfl) (by kernel_rfl) (calm_panic _) (by kernel_rfl)
  case hy => (refine .inl ⟨by kernel_rfl, fun W hC => ?_⟩; (try dsimp only at hC); go_simp; (try simp only [hkc,hkd]); rfl)
  case hC => exact HC
  case ha => (simp only [Act.put, List.setIfInBounds_toArray, List.set_cons_zero, List.set_cons_succ]; rfl)
  apply WZ.take (i := 14) (some 26) rfl rfl (by kernel_rfl) (by kernel_rfl) (by kernel_rfl) (calm_panic _) (by kernel_rfl)
  case hy => (refine .inl ⟨by kernel_rfl, fun W hC => ?_⟩; (try dsimp only at hC); go_simp; (try simp only [hkc,hkd]); rfl)
  case hC => exact HC
  case ha => (simp only [Act.put, List.setIfInBounds_toArray, List.set_cons_zero, List.set_cons_succ]; rfl)
  apply WZ.take (i := 15) (some 11) rfl rfl (by kernel_rfl) (by kernel_rfl) (by kernel_rfl) (calm_panic _) (by kernel_rfl)
  case hy => (refine .inl ⟨by kernel_rfl, fun W hC => ?_⟩; (try dsimp only at hC); go_simp; (try simp only [hkc,hkd]); rfl)
  case hC => exact HC
  case ha => (simp only [Act.put, List.setIfInBounds_toArray, List.set_cons_zero, List.set_cons_succ]; rfl)
  refine WZ.done (by kernel_rfl) ?_ _
  simp only [Calm, Exit.then]
  have hX2 : Blk 27 w2 w.heap.size (cmd.vs A k D m) := HX.out.below HC.2.2 HX.out.lt
  have q0 := hX2.cell (j := 0) rfl
  have q1 := hX2.cell (j := 1) rfl
  have q2 := hX2.cell (j := 2) rfl
  have q3 := hX2.cell (j := 3) rfl
  have q4 := hX2.cell (j := 4) rfl
  have q5 := hX2.cell (j := 5) rfl
  have q6 := hX2.cell (j := 6) rfl
  have q7 := hX2.cell (j := 7) rfl
  have q8 := hX2.cell (j := 8) rfl
  have HX2 := Lib.hid hX2
  have HB2 := Lib.hid (HB0.out.trans (HC.2.2.mono HB0.out.size))
  clear hX2 HC HCC HSM HPL HX HW0
  unfold wideC at hwide
  simp only [Bool.or_eq_false_iff, decide_eq_false_iff_not] at hwide
  obtain ⟨⟨h1, h2⟩, h3⟩ := hwide
  have w1 : decide ((100 : Int) < (cmd.cells.length : Int)) = false := decide_eq_false (by omega)
  have w3 : decide ((255 : Int) < (cmd.files.length : Int)) = false := decide_eq_false (by omega)
  have w4 : decide ((255 : Int) < (cmd.row.size : Int)) = false := decide_eq_false (by omega)
  have k1 : (cmd.kind == 1) = true := by rw [HK.out]; rfl
  go_wp2_with (go_at_call 31; refine (littleInt cmd.kind 1 HK.out (by omega) _).mono ?_; rintro e w3' ⟨rfl, hb3⟩; have HX3 := Lib.hid (HX2.out.below hb3 HX2.out.lt); have HB3 := Lib.hid (HB2.out.trans (hb3.mono HB2.out.size)); clear hb3 q0 q1 q2 q3 q4 q5 q6 q7 q8; have z0 := fun o => (HX3.out.below (below_al w3' o) HX3.out.lt).cell (j := 0) rfl)
  clear z0
  have HO := Lib.hid (show OwnS (w3'.alloc (.cells #[.string (nb 1 1)] 9)) (w.heap.size + 1) (some ⟨w3'.heap.size, 0, none⟩) 1 1 [nb 1 1] from Own.lower (OwnS.made w3' [nb 1 1] 1 rfl (by omega) rfl) HX3.out.lt)
  have HX4 := Lib.hid (HX3.out.below (below_al w3' (.cells #[.string (nb 1 1)] 9)) HX3.out.lt)
  have HB4 := Lib.hid (HB3.out.trans ((below_al w3' (.cells #[.string (nb 1 1)] 9)).mono HB3.out.size))
  obtain ⟨W4, hW4⟩ : ∃ W4, w3'.alloc (.cells #[.string (nb 1 1)] 9) = W4 := ⟨_, rfl⟩
  have hz4 : w3'.heap.size < W4.heap.size := by rw [← hW4, World.size_alloc]; omega
  rw [hW4] at HO HX4 HB4
  have HW4 := Lib.hid hW4
  clear hW4
  rw [HW4.out]
  obtain ⟨N, hN⟩ : ∃ N, cmd.cells.length = N := ⟨_, rfl⟩
  have HN := Lib.hid hN
  have hmk : ∀ W, Below W4.heap.size W4 W → W.cell? ⟨w.heap.size, 1, none⟩ = some (.int .u64 cmd.client) ∧ W.cell? ⟨w.heap.size, 2, none⟩ = some (.int .u64 cmd.num) ∧ W.cell? ⟨w.heap.size, 3, none⟩ = some (.slice A cmd.cells.length k) := fun W hb => ⟨(HX4.out.below hb HX4.out.lt).cell (j := 1) rfl, (HX4.out.below hb HX4.out.lt).cell (j := 2) rfl, (HX4.out.below hb HX4.out.lt).cell (j := 3) rfl⟩
  rw [hN] at hmk
  have hn100 : N ≤ 100 := by omega
  clear hN
  have HB := Lib.hid ((Below.refl W4.heap.size W4).drew)
  have HC := hmk _ HB.out
  have hlt := HX4.out.lt
  refine region_wz (fun W => W.cell? ⟨w.heap.size, 1, none⟩ = some (.int .u64 cmd.client) ∧ W.cell? ⟨w.heap.size, 2, none⟩ = some (.int .u64 cmd.num) ∧ W.cell? ⟨w.heap.size, 3, none⟩ = some (.slice A N k)) none (by kernel_rfl) ?_
  apply WZ.take (i := 0) (some 52) rfl rfl (by kernel_rfl) (by kernel_rfl) (by kernel_rfl) (calm_panic _) (by kernel_rfl)
  case hy => (refine .inl ⟨by kernel_rfl, fun W hC => ?_⟩; (try dsimp only at hC); go_simp; rfl)
  case hC => exact HC
  case ha => (simp only [Act.put, List.setIfInBounds_toArray, List.set_cons_zero, List.set_cons_succ]; rfl)
  apply WZ.take (i := 1) (some 53) rfl rfl (by kernel_rfl) (by kernel_rfl) (by kernel_rfl) (calm_panic _) (by kernel_rfl)
  case hy => (refine .inl ⟨by kernel_rfl, fun W hC => ?_⟩; (try dsimp only at hC); go_simp; rfl)
  case hC => exact HC
  case ha => (simp only [Act.put, List.setIfInBounds_toArray, List.set_cons_zero, List.set_cons_succ]; rfl)
  apply WZ.take (i := 2) (some 54) rfl rfl (by kernel_rfl) (by kernel_rfl) (by kernel_rfl) (calm_panic _) (by kernel_rfl)
  case hy => (refine .inl ⟨by kernel_rfl, fun W hC => ?_⟩; (try dsimp only at hC); go_simp; rfl)
  case hC => exact HC
  case ha => (simp only [Act.put, List.setIfInBounds_toArray, List.set_cons_zero, List.set_cons_succ]; rfl)
  apply WZ.take (i := 4) (some 56) rfl rfl (by kernel_rfl) (by kernel_rfl) (by kernel_rfl) (calm_panic _) (by kernel_rfl)
  case hy => (refine .inl ⟨by kernel_rfl, fun W hC => ?_⟩; (try dsimp only at hC); go_simp; rfl)
  case hC => exact HC
  case ha => (simp only [Act.put, List.setIfInBounds_toArray, List.set_cons_zero, List.set_cons_succ]; rfl)
  apply WZ.take (i := 5) (some 57) rfl rfl (by kernel_rfl) (by kernel_rfl) (by kernel_rfl) (calm_panic _) (by kernel_rfl)
  case hy => (refine .inl ⟨by kernel_rfl, fun W hC => ?_⟩; (try dsimp only at hC); go_simp; rfl)
  case hC => exact HC
  case ha => (simp only [Act.put, List.setIfInBounds_toArray, List.set_cons_zero, List.set_cons_succ]; rfl)
  apply WZ.take (i := 7) (some 59) rfl rfl (by kernel_rfl) (by kernel_rfl) (by kernel_rfl) (calm_panic _) (by kernel_rfl)
  case hy => (refine .inl ⟨by kernel_rfl, fun W hC => ?_⟩; (try dsimp only at hC); go_simp; rfl)
  case hC => exact HC
  case ha => (simp only [Act.put, List.setIfInBounds_toArray, List.set_cons_zero, List.set_cons_succ]; rfl)
  apply WZ.take (i := 8) (some 60) rfl rfl (by kernel_rfl) (by kernel_rfl) (by kernel_rfl) (calm_panic _) (by kernel_rfl)
  case hy => (refine .inl ⟨by kernel_rfl, fun W hC => ?_⟩; (try dsimp only at hC); go_simp; rfl)
  case hC => exact HC
  case ha => (simp only [Act.put, List.setIfInBounds_toArray, List.set_cons_zero, List.set_cons_succ]; rfl)
  apply WZ.take (i := 9) (some 61) rfl rfl (by kernel_rfl) (by kernel_rfl) (by kernel_rfl) (calm_panic _) (by kernel_rfl)
  case hy => (refine .inl ⟨by kernel_rfl, fun W hC => ?_⟩; (try dsimp only at hC); go_simp; rfl)
  case hC => exact HC
  case ha => (simp only [Act.put, List.setIfInBounds_toArray, List.set_cons_zero, List.set_cons_succ]; rfl)
  -- 3
  refine WZ.one (i := 3) rfl (by kernel_rfl) ?_
  conv => arg 4; arg 1; whnf
  go_wp2_with (go_at_call 32; refine (little_u64 cmd.client _).mono ?_; rintro e w5 ⟨rfl, hb9⟩)
  have HB9 := Lib.hid (HB.out.trans (hb9.mono HB.out.size))
  clear HB HC hb9
  have HB := HB9
  clear HB9
  have HC := hmk _ HB.out
  refine ⟨HC, ?_⟩
  -- 6
  refine WZ.one (i := 6) rfl (by kernel_rfl) ?_
  conv => arg 4; arg 1; whnf
  go_wp2_with (go_at_call 32; refine (little_u64 cmd.num _).mono ?_; rintro e w6 ⟨rfl, hb9⟩)
  have HB9 := Lib.hid (HB.out.trans (hb9.mono HB.out.size))
  clear HB HC hb9
  have HB := HB9
  clear HB9
  have HC := hmk _ HB.out
  refine ⟨HC, ?_⟩
  -- 10
  refine WZ.one (i := 10) rfl (by kernel_rfl) ?_
  conv => arg 4; arg 1; whnf
  go_wp2_with (go_at_call 31; refine (littleInt (N : Int) N rfl (by omega) _).mono ?_; rintro e w7 ⟨rfl, hb9⟩)
  have HB9 := Lib.hid (HB.out.trans (hb9.mono HB.out.size))
  clear HB HC hb9
  have HB := HB9
  clear HB9
  have HC := hmk _ HB.out
  refine ⟨HC, ?_⟩
  -- 11
  refine WZ.one (i := 11) rfl (by kernel_rfl) ?_
  conv => arg 4; arg 1; whnf
  go_wp2_with fail
  have HR := Lib.hid (Rd.madeS w7 [nb cmd.client 8, nb cmd.num 8, nb N 1] rfl w7.heap.size rfl)
  have hb9 := below_al w7 (.cells #[.string (nb cmd.client 8), .string (nb cmd.num 8), .string (nb N 1)] 9)
  have HB9 := Lib.hid (HB.out.trans (hb9.mono HB.out.size))
  clear HB HC hb9
  have HB := HB9
  clear HB9
  have HC := hmk _ HB.out
  refine ⟨HC, ?_⟩
  -- 12
  refine WZ.one (i := 12) rfl (by kernel_rfl) ?_
  conv => arg 4; arg 1; whnf
  go_wp2_with (at_builtin; go_loud (refine texts_app rfl _ _ rfl (w.heap.size + 1) (some ⟨w3'.heap.size, 0, none⟩) 1 1 4 _ [nb cmd.client 8, nb cmd.num 8, nb N 1] rfl (OwnS.below HO.out HB.out) (some ⟨w7.heap.size, 0, none⟩) 3 3 rfl HR.out rfl rfl (by omega) (by have := HB.out.size; omega) ?_); intro A8 c8 w8 HO8 HG8)
  have hX8 := ((HX4.out.below HB.out HX4.out.lt).grown HG8.out (fun e => by have e : w3'.heap.size = w.heap.size := Option.some.inj e; have := HX3.out.lt; omega))
  have HC9 := And.intro (hX8.cell (j := 1) rfl) (And.intro (hX8.cell (j := 2) rfl) (hX8.cell (j := 3) rfl))
  rw [HN.out] at HC9
  have HB6 := Lib.hid (Own.grow (OwnS.below HO.out HB.out) (HB4.out.trans (HB.out.mono HB4.out.size)) (by have := HB.out.size; omega) (Nat.le_succ _) HG8.out)
  have HX8 := Lib.hid hX8
  clear HC hX8
  have HC := HC9
  clear HC9
  refine ⟨HC, ?_⟩
  apply WZ.take (i := 13) (some 4) rfl rfl (by kernel_rfl) (by kernel_rfl) (by kernel_rfl) (calm_panic _) (by kernel_rfl)
  case hy => (refine .inl ⟨by kernel_rfl, fun W hC => ?_⟩; (try dsimp only at hC); go_simp; rfl)
  case hC => exact HC
  case ha => (simp only [Act.put, List.setIfInBounds_toArray, List.set_cons_zero, List.set_cons_succ]; rfl)
  refine WZ.done (by kernel_rfl) ?_ _
  simp only [Calm, Exit.then]
  obtain ⟨y1, y2, y3⟩ := HC
  have HO1 := Lib.hid (show OwnS w8 (w.heap.size + 1) A8 4 c8 (headB cmd.client cmd.num N ++ (cmd.cells.take 0).map cellB) from HO8.out)
  have HRC := Lib.hid HIN.out.rc
  have hs8 := HX8.out.lt
  clear hmk HB HR HO8 HG8 HX4 HB4 HO HX3 HB3
  go_wp2_with fail
  clear y1 y2 y3
  go_loopw [4, 68] (fun v4 v68 wr => ∃ (i n : Nat) (Ao : Option Addr) (co : Nat), v4 = .slice Ao n co ∧ v68 = .int .i64 (i : Int) ∧ i ≤ N ∧ n = i + 4 ∧ Hid (OwnS wr (w.heap.size + 1) Ao n co (headB cmd.client cmd.num N ++ (cmd.cells.take i).map cellB)) ∧ Hid (allTo may cmd.cells i) ∧ Hid (Below w.heap.size w wr) ∧ w.heap.size + 1 ≤ wr.heap.size) (fun _ v68 _ => N - (intOf v68).toNat)
  case atStart => exact ⟨0, 4, _, _, rfl, rfl, Nat.zero_le _, rfl, HO1, Lib.hid (allTo.zero _ _), HB6, hs8⟩
  case round =>
    clear HO1 HB6 HX8
    obtain ⟨i, n, Ao, co, rfl, rfl, hi, hni, HO, HA, HB, hsz⟩ := hrel
    have HNI := Lib.hid hni
    have hn200 : n ≤ 200 := by omega
    clear hni
    rename World => wr
    by_cases hit : i < N
    · have hil : i < cmd.cells.length := by rw [HN.out]; exact hit
      have e1 : decide ((i : Int) < (N : Int)) = true := decide_eq_true (by omega)
      have k3 : (0 : Int) ≤ (i : Int) := by omega
      have k4 : (i : Int) < (N : Int) := by omega
      have hw3 : IntKind.i64.wrap ((i : Int) + 1) = ((i + 1 : Nat) : Int) := by rw [IntWalk.i64_in _ (by omega)]; omega
      obtain ⟨b, o, rfl, hb, hc⟩ := (HRC.out.below HB.out).at_ (vals_ne hil)
      obtain ⟨z0, z1, z2, z3, z4, z5⟩ := Rd.cell_at (_B := 0) hc i hil
      have HAS := Lib.hid (fun h => HA.out.succ hil h)
      have HAN := Lib.hid (fun h => all_not (p := may) hil h)
      have HTK := Lib.hid (take_mapS (f := cellB) hil)
      obtain ⟨x, hx⟩ : ∃ x, cmd.cells[i] = x := ⟨_, rfl⟩
      rw [hx] at z0 z1 z2 z3 z4 z5 HAS HAN HTK
      clear hc hx
      cases hmx : may x with
      | false =>
        have HF := Lib.hid (show batchR cmd.client cmd.num cmd.cells = (⟨#[]⟩, 1) by unfold batchR; rw [HAN.out hmx]; rfl)
        go_wp2_with (go_at_call 33; refine (cellEncode_bad x _ hmx).mono ?_; rintro e w9 ⟨rfl, hb9⟩)
        go_ret2
        rw [HF.out]
        exact ⟨rfl, (HB.out.trans ((below_al wr _).mono HB.out.size)).trans (hb9.mono (Nat.le_trans HB.out.size (below_al wr _).size))⟩
      | true =>
        have HA2 := Lib.hid (HAS.out hmx)
        go_wp2_with (first
          | (go_at_call 33; refine (cellEncode_ok x _ hmx).mono ?_; rintro e w9 ⟨rfl, hb9⟩; have HB9 := Lib.hid ((below_al wr _).trans (hb9.mono (below_al wr _).size)); clear hb9)
          | (at_builtin; go_loud (refine texts_app rfl _ _ rfl (w.heap.size + 1) Ao n co (n + 1) _ [cellB x] rfl (OwnS.below (OwnS.below HO.out HB9.out) (below_al _ _)) (some ⟨w9.heap.size, 0, none⟩) 1 1 rfl (Rd.madeS _ [cellB x] rfl _ rfl) rfl rfl (by omega) (by rw [World.size_alloc]; have := HB9.out.size; omega) ?_); intro A9 c9 w10 HO9 HG9; have HB10 := Lib.hid (Own.grow (OwnS.below (OwnS.below HO.out HB9.out) (below_al _ _)) ((HB.out.trans (HB9.out.mono HB.out.size)).trans ((below_al w9 (.cells #[.string (cellB x)] 9)).mono (Nat.le_trans HB.out.size HB9.out.size))) (by rw [World.size_alloc]; have := HB9.out.size; omega) (Nat.le_succ _) HG9.out)))
        have ho9 := HO9.out
        rw [List.append_assoc, ← HTK.out] at ho9
        exact ⟨⟨i + 1, n + 1, A9, c9, rfl, by first | rfl | go_num, by omega, by have := HNI.out; omega, Lib.hid ho9, HA2, HB10, by have := HG9.out.size; rw [World.size_alloc] at this; have := HB9.out.size; omega⟩, by simp [intOf]; omega⟩
    · have e1 : decide ((i : Int) < (N : Int)) = false := decide_eq_false (by omega)
      have hall := HA.out.all (by rw [HN.out]; omega)
      have HF := Lib.hid (show batchR cmd.client cmd.num cmd.cells = (cat (batchP cmd.client cmd.num cmd.cells), 0) by unfold batchR; rw [hall]; rfl)
      have ho := HO.out
      rw [List.take_of_length_le (by rw [HN.out]; omega)] at ho
      rw [show headB cmd.client cmd.num N ++ cmd.cells.map cellB = batchP cmd.client cmd.num cmd.cells by unfold headB batchP; rw [HN.out]] at ho
      have hsz2 := cat_size (batchP cmd.client cmd.num cmd.cells) 300 (by
        intro s hs
        unfold batchP at hs
        simp only [List.mem_append, List.mem_cons, List.not_mem_nil, or_false, List.mem_map] at hs
        rcases hs with (rfl | rfl | rfl | rfl) | ⟨y, hy, rfl⟩
        · rw [nb_size]; omega
        · rw [nb_size]; omega
        · rw [nb_size]; omega
        · rw [nb_size]; omega
        · have := cellB_size (List.all_eq_true.1 hall y hy); omega)
      have hl104 : (batchP cmd.client cmd.num cmd.cells).length ≤ 200 := by unfold batchP; rw [List.length_append, List.length_map, HN.out]; simp; omega
      have HJ := Lib.hid (join_own ho (by have := HNI.out; omega) (by omega) (by
        have := Nat.mul_le_mul_right 300 hl104
        omega))
      clear ho hsz2 hall hl104
      go_wp2_with (go_at_call 35; refine HJ.out.mono ?_; rintro e w7 ⟨rfl, hb7⟩)
      go_ret2
      rw [HF.out]
      exact ⟨rfl, HB.out.trans (hb7.mono HB.out.size)⟩
end Go.Proofs.Ytiiogdgnccgehaa
