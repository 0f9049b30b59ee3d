/-
  The walk of tablet.Encode at splits. No conditions.
-/
import Derived.Test.YtiiogdgnccgehaaJD
namespace Go.Proofs.Ytiiogdgnccgehaa
open Go.RowKit
attribute [local go_sem ↓] Go.wp_at_zero Go.wp_at_succ


theorem littleInt (z : Int) (n : Nat) (hz : z = (n : Int)) (hn : n ≤ 100000) (w : World) : Calls Try.prog 31 #[.int .i64 z, .int .i64 1] w fun e w' => e = .returned (.string (nb n 1)) ∧ Below w.heap.size w w' := by
  subst hz
  exact little_i64 n w hn
set_option maxRecDepth 20000 in
set_option maxHeartbeats 8000000 in
theorem encode_un2 (cmd : Cmd) (A : Option Addr) (k : Nat) (D : Option Addr) (m : Nat) (w : World) (hin : CmdIn w w.heap.size cmd A k D m) (hk : cmd.kind = 2) (hpin : CmdIn w w.heap.size cmd.plain none 0 none 0) (hsame : sameC cmd cmd.plain = false) :
    Calls Try.prog 12 #[.agg (cmd.vs A k D m).toArray] w fun e w' => e = .returned (.tuple #[.string ⟨#[]⟩, .int .i64 1]) ∧ Below w.heap.size w w' := by
  have HX := Lib.hid (Blk.new 27 w (cmd.vs A k D m))
  have HB0 := Lib.hid (below_al w (.cells (cmd.vs A k D m).toArray 27))
  obtain ⟨W0, hW0⟩ : ∃ W0, w.alloc (.cells (cmd.vs A k D m).toArray 27) = W0 := ⟨_, rfl⟩
  rw [hW0] at HX HB0
  have HPL := Lib.hid (fun W => plain_2 cmd A k D m W hk)
  have HSM := Lib.hid (fun (W : World) (h : Below w.heap.size w W) => same_any cmd cmd.plain A k D m none 0 none 0 W ⟨(hin.rc.below h).more h.size, (hin.rf.below h).more h.size, hin.lc, hin.lf, hin.lk, hin.lm⟩ ⟨((hpin).rc.below h).more h.size, ((hpin).rf.below h).more h.size, (hpin).lc, (hpin).lf, (hpin).lk, (hpin).lm⟩)
  rw [hsame] at HSM
  have hkc : decide (cmd.kind < 1) = false := by rw [hk]; rfl
  have hkd : decide (3 < cmd.kind) = false := by rw [hk]; rfl
  have HK := Lib.hid hk
  obtain ⟨PS, hPS⟩ : ∃ PS, cmd.plain.vs none 0 none 0 = PS := ⟨_, rfl⟩
  have hcc : (cmd.vs A k D m)[0]? = some (.int .i64 cmd.kind) := rfl
  rw [hPS] at HPL HSM
  have HW0 := Lib.hid hW0
  have hsz0 : W0.heap.size = w.heap.size + 1 := by rw [← hW0, World.size_alloc]
  have hCC : ∀ W W', Below W.heap.size W W' → (fun W' => W'.rangeAt w.heap.size 0 (cmd.vs A k D m) ∧ W'.cell? ⟨w.heap.size, 0, none⟩ = some (.int .i64 cmd.kind) ∧ Below W0.heap.size W0 W') W → (fun W' => W'.rangeAt w.heap.size 0 (cmd.vs A k D m) ∧ W'.cell? ⟨w.heap.size, 0, none⟩ = some (.int .i64 cmd.kind) ∧ Below W0.heap.size W0 W') W' := by
    rintro W W' hb ⟨h1, h2, h3⟩
    have hl : w.heap.size < W.heap.size := by have := h3.size; omega
    exact ⟨rangeAt_below h1 hb hl, (hb.cell (p := ⟨w.heap.size, 0, none⟩) hl).trans h2, h3.trans (hb.mono h3.size)⟩
  have HC := hCC _ _ ((Below.refl W0.heap.size W0).drew) ⟨HX.out.range, HX.out.cell hcc, Below.refl _ _⟩
  have HCC := Lib.hid hCC
  have HIN := Lib.hid hin
  clear hPS hin hk hsame hcc hCC
  go_enter Try.func12, Try.ntmps12
  go_wp2_with (rw [HW0.out])
  refine region_wz (fun W' => W'.rangeAt w.heap.size 0 (cmd.vs A k D m) ∧ W'.cell? ⟨w.heap.size, 0, none⟩ = some (.int .i64 cmd.kind) ∧ Below W0.heap.size W0 W') none (by kernel_rfl) ?_
  apply WZ.take (i := 0) (some 12) rfl rfl (by kernel_rfl) (by kernel_rfl) (by kernel_rfl) (calm_panic _) (by kernel_rfl)
  case hy => (refine .inl ⟨by kernel_rfl, fun W hC => ?_⟩; (try dsimp only at hC); go_simp; (try simp only [hkc,hkd]); rfl)
  case hC => exact HC
  case ha => (simp only [Act.put, List.setIfInBounds_toArray, List.set_cons_zero, List.set_cons_succ]; rfl)
  apply WZ.take (i := 1) (some 13) rfl rfl (by kernel_rfl) (by kernel_rfl) (by kernel_rfl) (calm_panic _) (by kernel_rfl)
  case hy => (refine .inl ⟨by kernel_rfl, fun W hC => ?_⟩; (try dsimp only at hC); go_simp; (try simp only [hkc,hkd]); rfl)
  case hC => exact HC
  case ha => (simp only [Act.put, List.setIfInBounds_toArray, List.set_cons_zero, List.set_cons_succ]; rfl)
  apply WZ.take (i := 2) (some 14) rfl rfl (by kernel_rfl) (by kernel_rfl) (by kernel_rfl) (calm_panic _) (by kernel_rfl)
  case hy => (refine .inl ⟨by kernel_rfl, fun W hC => ?_⟩; (try dsimp only at hC); go_simp; (try simp only [hkc,hkd]); rfl)
  case hC => exact HC
  case ha => (simp only [Act.put, List.setIfInBounds_toArray, List.set_cons_zero, List.set_cons_succ]; rfl)
  apply WZ.take (i := 3) (some 15) rfl rfl (by kernel_rfl) (by kernel_rfl) (by kernel_rfl) (calm_panic _) (by kernel_rfl)
  case hy => (refine .inl ⟨by kernel_rfl, fun W hC => ?_⟩; (try dsimp only at hC); go_simp; (try simp only [hkc,hkd]); rfl)
  case hC => exact HC
  case ha => (simp only [Act.put, List.setIfInBounds_toArray, List.set_cons_zero, List.set_cons_succ]; rfl)
  apply WZ.take (i := 4) (some 16) rfl rfl (by kernel_rfl) (by kernel_rfl) (by kernel_rfl) (calm_panic _) (by kernel_rfl)
  case hy => (refine .inl ⟨by kernel_rfl, fun W hC => ?_⟩; (try dsimp only at hC); go_simp; (try simp only [hkc,hkd]); rfl)
  case hC => exact HC
  case ha => (simp only [Act.put, List.setIfInBounds_toArray, List.set_cons_zero, List.set_cons_succ]; rfl)
  apply WZ.take (i := 5) (some 17) rfl rfl (by kernel_rfl) (by kernel_rfl) (by kernel_rfl) (calm_panic _) (by kernel_rfl)
  case hy => (refine .inl ⟨by kernel_rfl, fun W hC => ?_⟩; (try dsimp only at hC); go_simp; (try simp only [hkc,hkd]); rfl)
  case hC => exact HC
  case ha => (simp only [Act.put, List.setIfInBounds_toArray, List.set_cons_zero, List.set_cons_succ]; rfl)
  apply WZ.take (i := 6) (some 18) rfl rfl (by kernel_rfl) (by kernel_rfl) (by kernel_rfl) (calm_panic _) (by kernel_rfl)
  case hy => (refine .inl ⟨by kernel_rfl, fun W hC => ?_⟩; (try dsimp only at hC); go_simp; (try simp only [hkc,hkd]); rfl)
  case hC => exact HC
  case ha => (simp only [Act.put, List.setIfInBounds_toArray, List.set_cons_zero, List.set_cons_succ]; rfl)
  apply WZ.take (i := 7) (some 19) rfl rfl (by kernel_rfl) (by kernel_rfl) (by kernel_rfl) (calm_panic _) (by kernel_rfl)
  case hy => (refine .inl ⟨by kernel_rfl, fun W hC => ?_⟩; (try dsimp only at hC); go_simp; (try simp only [hkc,hkd]); rfl)
  case hC => exact HC
  case ha => (simp only [Act.put, List.setIfInBounds_toArray, List.set_cons_zero, List.set_cons_succ]; rfl)
  apply WZ.take (i := 8) (some 20) rfl rfl (by kernel_rfl) (by kernel_rfl) (by kernel_rfl) (calm_panic _) (by kernel_rfl)
  case hy => (refine .inl ⟨by kernel_rfl, fun W hC => ?_⟩; (try dsimp only at hC); go_simp; (try simp only [hkc,hkd]); rfl)
  case hC => exact HC
  case ha => (simp only [Act.put, List.setIfInBounds_toArray, List.set_cons_zero, List.set_cons_succ]; rfl)
  apply WZ.take (i := 9) (some 21) rfl rfl (by kernel_rfl) (by kernel_rfl) (by kernel_rfl) (calm_panic _) (by kernel_rfl)
  case hy => first | (apply yieldsIf_load_mid (by kernel_rfl) _ _ rfl _ _ rfl; (case hS => (intro W hC; exact hC.1)); (case hu => exact Try.underlying27); (case hd => rfl); (case hi => kernel_rfl)) | (apply yieldsIf_load_mid (by kernel_rfl) _ _ rfl _ _ rfl; (case hS => (intro W hC; exact hC.2.1)); (case hu => exact Try.underlying27); (case hd => rfl); (case hi => kernel_rfl)) | (apply yieldsIf_load_mid (by kernel_rfl) _ _ rfl _ _ rfl; (case hS => (intro W hC; exact hC.2.2.1)); (case hu => exact Try.underlying27); (case hd => rfl); (case hi => kernel_rfl)) | (apply yieldsIf_load_mid (by kernel_rfl) _ _ rfl _ _ rfl; (case hS => (intro W hC; exact hC.2.2.2.1)); (case hu => exact Try.underlying27); (case hd => rfl); (case hi => kernel_rfl)) | (apply yieldsIf_load_mid (by kernel_rfl) _ _ rfl _ _ rfl; (case hS => (intro W hC; exact hC.2.2.2)); (case hu => exact Try.underlying27); (case hd => rfl); (case hi => kernel_rfl)) | (apply yieldsIf_load_mid (by kernel_rfl) _ _ rfl _ _ rfl; (case hS => (intro W hC; exact hC.2.2)); (case hu => exact Try.underlying27); (case hd => rfl); (case hi => kernel_rfl)) | (apply yieldsIf_load_mid (by kernel_rfl) _ _ rfl _ _ rfl; (case hS => (intro W hC; exact hC.2)); (case hu => exact Try.underlying27); (case hd => rfl); (case hi => kernel_rfl)) | (apply yieldsIf_load_mid (by kernel_rfl) _ _ rfl _ _ rfl; (case hS => (intro W hC; exact hC)); (case hu => exact Try.underlying27); (case hd => rfl); (case hi => kernel_rfl))
  case hC => exact HC
  case ha => (simp only [Act.put, List.setIfInBounds_toArray, List.set_cons_zero, List.set_cons_succ]; rfl)
  apply WZ.take (i := 10) (some 22) rfl rfl (by kernel_rfl) (by kernel_rfl) (by kernel_rfl) (calm_panic _) (by kernel_rfl)
  case hy => first | (apply yieldsIf_load_mid (by kernel_rfl) _ _ rfl _ _ rfl; (case hS => (intro W hC; exact hC.1)); (case hu => exact Try.underlying27); (case hd => rfl); (case hi => kernel_rfl)) | (apply yieldsIf_load_mid (by kernel_rfl) _ _ rfl _ _ rfl; (case hS => (intro W hC; exact hC.2.1)); (case hu => exact Try.underlying27); (case hd => rfl); (case hi => kernel_rfl)) | (apply yieldsIf_load_mid (by kernel_rfl) _ _ rfl _ _ rfl; (case hS => (intro W hC; exact hC.2.2.1)); (case hu => exact Try.underlying27); (case hd => rfl); (case hi => kernel_rfl)) | (apply yieldsIf_load_mid (by kernel_rfl) _ _ rfl _ _ rfl; (case hS => (intro W hC; exact hC.2.2.2.1)); (case hu => exact Try.underlying27); (case hd => rfl); (case hi => kernel_rfl)) | (apply yieldsIf_load_mid (by kernel_rfl) _ _ rfl _ _ rfl; (case hS => (intro W hC; exact hC.2.2.2)); (case hu => exact Try.underlying27); (case hd => rfl); (case hi => kernel_rfl)) | (apply yieldsIf_load_mid (by kernel_rfl) _ _ rfl _ _ rfl; (case hS => (intro W hC; exact hC.2.2)); (case hu => exact Try.underlying27); (case hd => rfl); (case hi => kernel_rfl)) | (apply yieldsIf_load_mid (by kernel_rfl) _ _ rfl _ _ rfl; (case hS => (intro W hC; exact hC.2)); (case hu => exact Try.underlying27); (case hd => rfl); (case hi => kernel_rfl)) | (apply yieldsIf_load_mid (by kernel_rfl) _ _ rfl _ _ rfl; (case hS => (intro W hC; exact hC)); (case hu => exact Try.underlying27); (case hd => rfl); (case hi => kernel_rfl))
  case hC => exact HC
  case ha => (simp only [Act.put, List.setIfInBounds_toArray, List.set_cons_zero, List.set_cons_succ]; rfl)
  -- 11
  refine WZ.one (i := 11) rfl (by kernel_rfl) ?_
  conv => arg 4; arg 1; whnf
  go_wp2_with (go_at_call 30; refine (HPL.out _).mono ?_; rintro e w1 ⟨rfl, hb1⟩)
  have HC' := HCC.out _ _ hb1 HC
  clear HC hb1
  have HC := HC'
  clear HC'
  refine ⟨HC, ?_⟩
  -- 12
  refine WZ.one (i := 12) rfl (by kernel_rfl) ?_
  conv => arg 4; arg 1; whnf
  go_wp2_with (go_at_call 29; refine (HSM.out _ (HB0.out.trans (HC.2.2.mono HB0.out.size))).mono ?_; rintro e w2 ⟨rfl, hb2⟩)
  have HC' := HCC.out _ _ hb2 HC
  clear HC hb2
  have HC := HC'
  clear HC'
  refine ⟨HC, ?_⟩
  apply WZ.take (i := 13) (some 25) rfl rfl (by kernel_rfl) (by kernel_rfl) (by kernel_rfl) (calm_panic _) (by kernel_rfl)
  case hy => (refine .inl ⟨by kernel_rfl, fun W hC => ?_⟩; (try dsimp only at hC); go_simp; (try simp only [hkc,hkd]); rfl)
  case hC => exact HC
  case ha => (simp only [Act.put, List.setIfInBounds_toArray, List.set_cons_zero, List.set_cons_succ]; rfl)
  apply WZ.take (i := 14) (some 26) rfl rfl (by kernel_rfl) (by kernel_rfl) (by kernel_rfl) (calm_panic _) (by kernel_rfl)
  case hy => (refine .inl ⟨by kernel_rfl, fun W hC => ?_⟩; (try dsimp only at hC); go_simp; (try simp only [hkc,hkd]); rfl)
  case hC => exact HC
  case ha => (simp only [Act.put, List.setIfInBounds_toArray, List.set_cons_zero, List.set_cons_succ]; rfl)
  apply WZ.take (i := 15) (some 11) rfl rfl (by kernel_rfl) (by kernel_rfl) (by kernel_rfl) (calm_panic _) (by kernel_rfl)
  case hy => (refine .inl ⟨by kernel_rfl, fun W hC => ?_⟩; (try dsimp only at hC); go_simp; (try simp only [hkc,hkd]); rfl)
  case hC => exact HC
  case ha => (simp only [Act.put, List.setIfInBounds_toArray, List.set_cons_zero, List.set_cons_succ]; rfl)
  refine WZ.done (by kernel_rfl) ?_ _
  simp only [Calm, Exit.then]
  go_wp2
  go_ret2
  exact ⟨rfl, HB0.out.trans (HC.2.2.mono HB0.out.size)⟩
set_option maxRecDepth 20000 in
set_option maxHeartbeats 8000000 in
theorem encode_wide2 (cmd : Cmd) (A : Option Addr) (k : Nat) (D : Option Addr) (m : Nat) (w : World) (hin : CmdIn w w.heap.size cmd A k D m) (hk : cmd.kind = 2) (hpin : CmdIn w w.heap.size cmd.plain none 0 none 0) (hsame : sameC cmd cmd.plain = true) (hwide : wideC cmd = true) :
    Calls Try.prog 12 #[.agg (cmd.vs A k D m).toArray] w fun e w' => e = .returned (.tuple #[.string ⟨#[]⟩, .int .i64 71]) ∧ Below w.heap.size w w' := by
  have HX := Lib.hid (Blk.new 27 w (cmd.vs A k D m))
  have HB0 := Lib.hid (below_al w (.cells (cmd.vs A k D m).toArray 27))
  obtain ⟨W0, hW0⟩ : ∃ W0, w.alloc (.cells (cmd.vs A k D m).toArray 27) = W0 := ⟨_, rfl⟩
  rw [hW0] at HX HB0
  have HPL := Lib.hid (fun W => plain_2 cmd A k D m W hk)
  have HSM := Lib.hid (fun (W : World) (h : Below w.heap.size w W) => same_any cmd cmd.plain A k D m none 0 none 0 W ⟨(hin.rc.below h).more h.size, (hin.rf.below h).more h.size, hin.lc, hin.lf, hin.lk, hin.lm⟩ ⟨((hpin).rc.below h).more h.size, ((hpin).rf.below h).more h.size, (hpin).lc, (hpin).lf, (hpin).lk, (hpin).lm⟩)
  rw [hsame] at HSM
  have hkc : decide (cmd.kind < 1) = false := by rw [hk]; rfl
  have hkd : decide (3 < cmd.kind) = false := by rw [hk]; rfl
  have HK := Lib.hid hk
  obtain ⟨PS, hPS⟩ : ∃ PS, cmd.plain.vs none 0 none 0 = PS := ⟨_, rfl⟩
  have hcc : (cmd.vs A k D m)[0]? = some (.int .i64 cmd.kind) := rfl
  rw [hPS] at HPL HSM
  have HW0 := Lib.hid hW0
  have hsz0 : W0.heap.size = w.heap.size + 1 := by rw [← hW0, World.size_alloc]
  have hCC : ∀ W W', Below W.heap.size W W' → (fun W' => W'.rangeAt w.heap.size 0 (cmd.vs A k D m) ∧ W'.cell? ⟨w.heap.size, 0, none⟩ = some (.int .i64 cmd.kind) ∧ Below W0.heap.size W0 W') W → (fun W' => W'.rangeAt w.heap.size 0 (cmd.vs A k D m) ∧ W'.cell? ⟨w.heap.size, 0, none⟩ = some (.int .i64 cmd.kind) ∧ Below W0.heap.size W0 W') W' := by
    rintro W W' hb ⟨h1, h2, h3⟩
    have hl : w.heap.size < W.heap.size := by have := h3.size; omega
    exact ⟨rangeAt_below h1 hb hl, (hb.cell (p := ⟨w.heap.size, 0, none⟩) hl).trans h2, h3.trans (hb.mono h3.size)⟩
  have HC := hCC _ _ ((Below.refl W0.heap.size W0).drew) ⟨HX.out.range, HX.out.cell hcc, Below.refl _ _⟩
  have HCC := Lib.hid hCC
  have HIN := Lib.hid hin
  clear hPS hin hk hsame hcc hCC
  go_enter Try.func12, Try.ntmps12
  go_wp2_with (rw [HW0.out])
  refine region_wz (fun W' => W'.rangeAt w.heap.size 0 (cmd.vs A k D m) ∧ W'.cell? ⟨w.heap.size, 0, none⟩ = some (.int .i64 cmd.kind) ∧ Below W0.heap.size W0 W') none (by kernel_rfl) ?_
  apply WZ.take (i := 0) (some 12) rfl rfl (by kernel_rfl) (by kernel_rfl) (by kernel_rfl) (calm_panic _) (by kernel_rfl)
  case hy => (refine .inl ⟨by kernel_rfl, fun W hC => ?_⟩; (try dsimp only at hC); go_simp; (try simp only [hkc,hkd]); rfl)
  case hC => exact HC
  case ha => (simp only [Act.put, List.setIfInBounds_toArray, List.set_cons_zero, List.set_cons_succ]; rfl)
  apply WZ.take (i := 1) (some 13) rfl rfl (by kernel_rfl) (by kernel_rfl) (by kernel_rfl) (calm_panic _) (by kernel_rfl)
  case hy => (refine .inl ⟨by kernel_rfl, fun W hC => ?_⟩; (try dsimp only at hC); go_simp; (try simp only [hkc,hkd]); rfl)
  case hC => exact HC
  case ha => (simp only [Act.put, List.setIfInBounds_toArray, List.set_cons_zero, List.set_cons_succ]; rfl)
  apply WZ.take (i := 2) (some 14) rfl rfl (by kernel_rfl) (by kernel_rfl) (by kernel_rfl) (calm_panic _) (by kernel_rfl)
  case hy => (refine .inl ⟨by kernel_rfl, fun W hC => ?_⟩; (try dsimp only at hC); go_simp; (try simp only [hkc,hkd]); rfl)
  case hC => exact HC
  case ha => (simp only [Act.put, List.setIfInBounds_toArray, List.set_cons_zero, List.set_cons_succ]; rfl)
  apply WZ.take (i := 3) (some 15) rfl rfl (by kernel_rfl) (by kernel_rfl) (by kernel_rfl) (calm_panic _) (by kernel_rfl)
  case hy => (refine .inl ⟨by kernel_rfl, fun W hC => ?_⟩; (try dsimp only at hC); go_simp; (try simp only [hkc,hkd]); rfl)
  case hC => exact HC
  case ha => (simp only [Act.put, List.setIfInBounds_toArray, List.set_cons_zero, List.set_cons_succ]; rfl)
  apply WZ.take (i := 4) (some 16) rfl rfl (by kernel_rfl) (by kernel_rfl) (by kernel_rfl) (calm_panic _) (by kernel_rfl)
  case hy => (refine .inl ⟨by kernel_rfl, fun W hC => ?_⟩; (try dsimp only at hC); go_simp; (try simp only [hkc,hkd]); rfl)
  case hC => exact HC
  case ha => (simp only [Act.put, List.setIfInBounds_toArray, List.set_cons_zero, List.set_cons_succ]; rfl)
  apply WZ.take (i := 5) (some 17) rfl rfl (by kernel_rfl) (by kernel_rfl) (by kernel_rfl) (calm_panic _) (by kernel_rfl)
  case hy => (refine .inl ⟨by kernel_rfl, fun W hC => ?_⟩; (try dsimp only at hC); go_simp; (try simp only [hkc,hkd]); rfl)
  case hC => exact HC
  case ha => (simp only [Act.put, List.setIfInBounds_toArray, List.set_cons_zero, List.set_cons_succ]; rfl)
  apply WZ.take (i := 6) (some 18) rfl rfl (by kernel_rfl) (by kernel_rfl) (by kernel_rfl) (calm_panic _) (by kernel_rfl)
  case hy => (refine .inl ⟨by kernel_rfl, fun W hC => ?_⟩; (try dsimp only at hC); go_simp; (try simp only [hkc,hkd]); rfl)
  case hC => exact HC
  case ha => (simp only [Act.put, List.setIfInBounds_toArray, List.set_cons_zero, List.set_cons_succ]; rfl)
  apply WZ.take (i := 7) (some 19) rfl rfl (by kernel_rfl) (by kernel_rfl) (by kernel_rfl) (calm_panic _) (by kernel_rfl)
  case hy => (refine .inl ⟨by kernel_rfl, fun W hC => ?_⟩; (try dsimp only at hC); go_simp; (try simp only [hkc,hkd]); rfl)
  case hC => exact HC
  case ha => (simp only [Act.put, List.setIfInBounds_toArray, List.set_cons_zero, List.set_cons_succ]; rfl)
  apply WZ.take (i := 8) (some 20) rfl rfl (by kernel_rfl) (by kernel_rfl) (by kernel_rfl) (calm_panic _) (by kernel_rfl)
  case hy => (refine .inl ⟨by kernel_rfl, fun W hC => ?_⟩; (try dsimp only at hC); go_simp; (try simp only [hkc,hkd]); rfl)
  case hC => exact HC
  case ha => (simp only [Act.put, List.setIfInBounds_toArray, List.set_cons_zero, List.set_cons_succ]; rfl)
  apply WZ.take (i := 9) (some 21) rfl rfl (by kernel_rfl) (by kernel_rfl) (by kernel_rfl) (calm_panic _) (by kernel_rfl)
  case hy => first | (apply yieldsIf_load_mid (by kernel_rfl) _ _ rfl _ _ rfl; (case hS => (intro W hC; exact hC.1)); (case hu => exact Try.underlying27); (case hd => rfl); (case hi => kernel_rfl)) | (apply yieldsIf_load_mid (by kernel_rfl) _ _ rfl _ _ rfl; (case hS => (intro W hC; exact hC.2.1)); (case hu => exact Try.underlying27); (case hd => rfl); (case hi => kernel_rfl)) | (apply yieldsIf_load_mid (by kernel_rfl) _ _ rfl _ _ rfl; (case hS => (intro W hC; exact hC.2.2.1)); (case hu => exact Try.underlying27); (case hd => rfl); (case hi => kernel_rfl)) | (apply yieldsIf_load_mid (by kernel_rfl) _ _ rfl _ _ rfl; (case hS => (intro W hC; exact hC.2.2.2.1)); (case hu => exact Try.underlying27); (case hd => rfl); (case hi => kernel_rfl)) | (apply yieldsIf_load_mid (by kernel_rfl) _ _ rfl _ _ rfl; (case hS => (intro W hC; exact hC.2.2.2)); (case hu => exact Try.underlying27); (case hd => rfl); (case hi => kernel_rfl)) | (apply yieldsIf_load_mid (by kernel_rfl) _ _ rfl _ _ rfl; (case hS => (intro W hC; exact hC.2.2)); (case hu => exact Try.underlying27); (case hd => rfl); (case hi => kernel_rfl)) | (apply yieldsIf_load_mid (by kernel_rfl) _ _ rfl _ _ rfl; (case hS => (intro W hC; exact hC.2)); (case hu => exact Try.underlying27); (case hd => rfl); (case hi => kernel_rfl)) | (apply yieldsIf_load_mid (by kernel_rfl) _ _ rfl _ _ rfl; (case hS => (intro W hC; exact hC)); (case hu => exact Try.underlying27); (case hd => rfl); (case hi => kernel_rfl))
  case hC => exact HC
  case ha => (simp only [Act.put, List.setIfInBounds_toArray, List.set_cons_zero, List.set_cons_succ]; rfl)
  apply WZ.take (i := 10) (some 22) rfl rfl (by kernel_rfl) (by kernel_rfl) (by kernel_rfl) (calm_panic _) (by kernel_rfl)
  case hy => first | (apply yieldsIf_load_mid (by kernel_rfl) _ _ rfl _ _ rfl; (case hS => (intro W hC; exact hC.1)); (case hu => exact Try.underlying27); (case hd => rfl); (case hi => kernel_rfl)) | (apply yieldsIf_load_mid (by kernel_rfl) _ _ rfl _ _ rfl; (case hS => (intro W hC; exact hC.2.1)); (case hu => exact Try.underlying27); (case hd => rfl); (case hi => kernel_rfl)) | (apply yieldsIf_load_mid (by kernel_rfl) _ _ rfl _ _ rfl; (case hS => (intro W hC; exact hC.2.2.1)); (case hu => exact Try.underlying27); (case hd => rfl); (case hi => kernel_rfl)) | (apply yieldsIf_load_mid (by kernel_rfl) _ _ rfl _ _ rfl; (case hS => (intro W hC; exact hC.2.2.2.1)); (case hu => exact Try.underlying27); (case hd => rfl); (case hi => kernel_rfl)) | (apply yieldsIf_load_mid (by kernel_rfl) _ _ rfl _ _ rfl; (case hS => (intro W hC; exact hC.2.2.2)); (case hu => exact Try.underlying27); (case hd => rfl); (case hi => kernel_rfl)) | (apply yieldsIf_load_mid (by kernel_rfl) _ _ rfl _ _ rfl; (case hS => (intro W hC; exact hC.2.2)); (case hu => exact Try.underlying27); (case hd => rfl); (case hi => kernel_rfl)) | (apply yieldsIf_load_mid (by kernel_rfl) _ _ rfl _ _ rfl; (case hS => (intro W hC; exact hC.2)); (case hu => exact Try.underlying27); (case hd => rfl); (case hi => kernel_rfl)) | (apply yieldsIf_load_mid (by kernel_rfl) _ _ rfl _ _ rfl; (case hS => (intro W hC; exact hC)); (case hu => exact Try.underlying27); (case hd => rfl); (case hi => kernel_rfl))
  case hC => exact HC
  case ha => (simp only [Act.put, List.setIfInBounds_toArray, List.set_cons_zero, List.set_cons_succ]; rfl)
  -- 11
  refine WZ.one (i := 11) rfl (by kernel_rfl) ?_
  conv => arg 4; arg 1; whnf
  go_wp2_with (go_at_call 30; refine (HPL.out _).mono ?_; rintro e w1 ⟨rfl, hb1⟩)
  have HC' := HCC.out _ _ hb1 HC
  clear HC hb1
  have HC := HC'
  clear HC'
  refine ⟨HC, ?_⟩
  -- 12
  refine WZ.one (i := 12) rfl (by kernel_rfl) ?_
  conv => arg 4; arg 1; whnf
  go_wp2_with (go_at_call 29; refine (HSM.out _ (HB0.out.trans (HC.2.2.mono HB0.out.size))).mono ?_; rintro e w2 ⟨rfl, hb2⟩)
  have HC' := HCC.out _ _ hb2 HC
  clear HC hb2
  have HC := HC'
  clear HC'
  refine ⟨HC, ?_⟩
  apply WZ.take (i := 13) (some 25) rfl rfl (by kernel_rfl) (by kernel_rfl) (by kernel_rfl) (calm_panic _) (by kernel_rfl)
  case hy => (refine .inl ⟨by kernel_rfl, fun W hC => ?_⟩; (try dsimp only at hC); go_simp; (try simp only [hkc,hkd]); rfl)
  case hC => exact HC
  case ha => (simp only [Act.put, List.setIfInBounds_toArray, List.set_cons_zero, List.set_cons_succ]; rfl)
  apply WZ.take (i := 14) (some 26) rfl rfl (by kernel_rfl) (by kernel_rfl) (by kernel_rfl) (calm_panic _) (by kernel_rfl)
  case hy => (refine .inl ⟨by kernel_rfl, fun W hC => ?_⟩; (try dsimp only at hC); go_simp; (try simp only [hkc,hkd]); rfl)
  case hC => exact HC
  case ha => (simp only [Act.put, List.setIfInBounds_toArray, List.set_cons_zero, List.set_cons_succ]; rfl)
  apply WZ.take (i := 15) (some 11) rfl rfl (by kernel_rfl) (by kernel_rfl) (by kernel_rfl) (calm_panic _) (by kernel_rfl)
  case hy => (refine .inl ⟨by kernel_rfl, fun W hC => ?_⟩; (try dsimp only at hC); go_simp; (try simp only [hkc,hkd]); rfl)
  case hC => exact HC
  case ha => (simp only [Act.put, List.setIfInBounds_toArray, List.set_cons_zero, List.set_cons_succ]; rfl)
  refine WZ.done (by kernel_rfl) ?_ _
  simp only [Calm, Exit.then]
  have hX2 : Blk 27 w2 w.heap.size (cmd.vs A k D m) := HX.out.below HC.2.2 HX.out.lt
  have q0 := hX2.cell (j := 0) rfl
  have q1 := hX2.cell (j := 1) rfl
  have q2 := hX2.cell (j := 2) rfl
  have q3 := hX2.cell (j := 3) rfl
  have q4 := hX2.cell (j := 4) rfl
  have q5 := hX2.cell (j := 5) rfl
  have q6 := hX2.cell (j := 6) rfl
  have q7 := hX2.cell (j := 7) rfl
  have q8 := hX2.cell (j := 8) rfl
  have HX2 := Lib.hid hX2
  have HB2 := Lib.hid (HB0.out.trans (HC.2.2.mono HB0.out.size))
  clear hX2 HC HCC HSM HPL HX HW0
  cases w1 : decide ((100 : Int) < (cmd.cells.length : Int)) with
  | true =>
    go_wp2
    go_ret2
    exact ⟨rfl, HB2.out⟩
  | false =>
    cases w3 : decide ((255 : Int) < (cmd.files.length : Int)) with
    | true =>
      go_wp2
      go_ret2
      exact ⟨rfl, HB2.out⟩
    | false =>
      have w4 : decide ((255 : Int) < (cmd.row.size : Int)) = true := by
        unfold wideC at hwide
        simp only [Bool.or_eq_true, decide_eq_true_eq] at hwide
        have h1 := of_decide_eq_false w1
        have h3 := of_decide_eq_false w3
        exact decide_eq_true (by omega)
      go_wp2
      go_ret2
      exact ⟨rfl, HB2.out⟩
set_option maxRecDepth 20000 in
set_option maxHeartbeats 8000000 in
theorem encode_ok2 (cmd : Cmd) (A : Option Addr) (k : Nat) (D : Option Addr) (m : Nat) (w : World) (hin : CmdIn w w.heap.size cmd A k D m) (hk : cmd.kind = 2) (hpin : CmdIn w w.heap.size cmd.plain none 0 none 0) (hsame : sameC cmd cmd.plain = true) (hwide : wideC cmd = false) :
    Calls Try.prog 12 #[.agg (cmd.vs A k D m).toArray] w fun e w' => e = .returned (.tuple #[.string (cat (splitP cmd.row)), .int .i64 0]) ∧ Below w.heap.size w w' := by
  have HX := Lib.hid (Blk.new 27 w (cmd.vs A k D m))
  have HB0 := Lib.hid (below_al w (.cells (cmd.vs A k D m).toArray 27))
  obtain ⟨W0, hW0⟩ : ∃ W0, w.alloc (.cells (cmd.vs A k D m).toArray 27) = W0 := ⟨_, rfl⟩
  rw [hW0] at HX HB0
  have HPL := Lib.hid (fun W => plain_2 cmd A k D m W hk)
  have HSM := Lib.hid (fun (W : World) (h : Below w.heap.size w W) => same_any cmd cmd.plain A k D m none 0 none 0 W ⟨(hin.rc.below h).more h.size, (hin.rf.below h).more h.size, hin.lc, hin.lf, hin.lk, hin.lm⟩ ⟨((hpin).rc.below h).more h.size, ((hpin).rf.below h).more h.size, (hpin).lc, (hpin).lf, (hpin).lk, (hpin).lm⟩)
  rw [hsame] at HSM
  have hkc : decide (cmd.kind < 1) = false := by rw [hk]; rfl
  have hkd : decide (3 < cmd.kind) = false := by rw [hk]; rfl
  have HK := Lib.hid hk
  obtain ⟨PS, hPS⟩ : ∃ PS, cmd.plain.vs none 0 none 0 = PS := ⟨_, rfl⟩
  have hcc : (cmd.vs A k D m)[0]? = some (.int .i64 cmd.kind) := rfl
  rw [hPS] at HPL HSM
  have HW0 := Lib.hid hW0
  have hsz0 : W0.heap.size = w.heap.size + 1 := by rw [← hW0, World.size_alloc]
  have hCC : ∀ W W', Below W.heap.size W W' → (fun W' => W'.rangeAt w.heap.size 0 (cmd.vs A k D m) ∧ W'.cell? ⟨w.heap.size, 0, none⟩ = some (.int .i64 cmd.kind) ∧ Below W0.heap.size W0 W') W → (fun W' => W'.rangeAt w.heap.size 0 (cmd.vs A k D m) ∧ W'.cell? ⟨w.heap.size, 0, none⟩ = some (.int .i64 cmd.kind) ∧ Below W0.heap.size W0 W') W' := by
    rintro W W' hb ⟨h1, h2, h3⟩
    have hl : w.heap.size < W.heap.size := by have := h3.size; omega
    exact ⟨rangeAt_below h1 hb hl, (hb.cell (p := ⟨w.heap.size, 0, none⟩) hl).trans h2, h3.trans (hb.mono h3.size)⟩
  have HC := hCC _ _ ((Below.refl W0.heap.size W0).drew) ⟨HX.out.range, HX.out.cell hcc, Below.refl _ _⟩
  have HCC := Lib.hid hCC
  have HIN := Lib.hid hin
  clear hPS hin hk hsame hcc hCC
  go_enter Try.func12, Try.ntmps12
  go_wp2_with (rw [HW0.out])
  refine region_wz (fun W' => W'.rangeAt w.heap.size 0 (cmd.vs A k D m) ∧ W'.cell? ⟨w.heap.size, 0, none⟩ = some (.int .i64 cmd.kind) ∧ Below W0.heap.size W0 W') none (by kernel_rfl) ?_
  apply WZ.take (i := 0) (some 12) rfl rfl (by kernel_rfl) (by kernel_rfl) (by kernel_rfl) (calm_panic _) (by kernel_rfl)
  case hy => (refine .inl ⟨by kernel_rfl, fun W hC => ?_⟩; (try dsimp only at hC); go_simp; (try simp only [hkc,hkd]); rfl)
  case hC => exact HC
  case ha => (simp only [Act.put, List.setIfInBounds_toArray, List.set_cons_zero, List.set_cons_succ]; rfl)
  apply WZ.take (i := 1) (some 13) rfl rfl (by kernel_rfl) (by kernel_rfl) (by kernel_rfl) (calm_panic _) (by kernel_rfl)
  case hy => (refine .inl ⟨by kernel_rfl, fun W hC => ?_⟩; (try dsimp only at hC); go_simp; (try simp only [hkc,hkd]); rfl)
  case hC => exact HC
  case ha => (simp only [Act.put, List.setIfInBounds_toArray, List.set_cons_zero, List.set_cons_succ]; rfl)
  apply WZ.take (i := 2) (some 14) rfl rfl (by kernel_rfl) (by kernel_rfl) (by kernel_rfl) (calm_panic _) (by kernel_rfl)
  case hy => (refine .inl ⟨by kernel_rfl, fun W hC => ?_⟩; (try dsimp only at hC); go_simp; (try simp only [hkc,hkd]); rfl)
  case hC => exact HC
  case ha => (simp only [Act.put, List.setIfInBounds_toArray, List.set_cons_zero, List.set_cons_succ]; rfl)
  apply WZ.take (i := 3) (some 15) rfl rfl (by kernel_rfl) (by kernel_rfl) (by kernel_rfl) (calm_panic _) (by kernel_rfl)
  case hy => (refine .inl ⟨by kernel_rfl, fun W hC => ?_⟩; (try dsimp only at hC); go_simp; (try simp only [hkc,hkd]); rfl)
  case hC => exact HC
  case ha => (simp only [Act.put, List.setIfInBounds_toArray, List.set_cons_zero, List.set_cons_succ]; rfl)
  apply WZ.take (i := 4) (some 16) rfl rfl (by kernel_rfl) (by kernel_rfl) (by kernel_rfl) (calm_panic _) (by kernel_rfl)
  case hy => (refine .inl ⟨by kernel_rfl, fun W hC => ?_⟩; (try dsimp only at hC); go_simp; (try simp only [hkc,hkd]); rfl)
  case hC => exact HC
  case ha => (simp only [Act.put, List.setIfInBounds_toArray, List.set_cons_zero, List.set_cons_succ]; rfl)
  apply WZ.take (i := 5) (some 17) rfl rfl (by kernel_rfl) (by kernel_rfl) (by kernel_rfl) (calm_panic _) (by kernel_rfl)
  case hy => (refine .inl ⟨by kernel_rfl, fun W hC => ?_⟩; (try dsimp only at hC); go_simp; (try simp only [hkc,hkd]); rfl)
  case hC => exact HC
  case ha => (simp only [Act.put, List.setIfInBounds_toArray, List.set_cons_zero, List.set_cons_succ]; rfl)
  apply WZ.take (i := 6) (some 18) rfl rfl (by kernel_rfl) (by kernel_rfl) (by kernel_rfl) (calm_panic _) (by kernel_rfl)
  case hy => (refine .inl ⟨by kernel_rfl, fun W hC => ?_⟩; (try dsimp only at hC); go_simp; (try simp only [hkc,hkd]); rfl)
  case hC => exact HC
  case ha => (simp only [Act.put, List.setIfInBounds_toArray, List.set_cons_zero, List.set_cons_succ]; rfl)
  apply WZ.take (i := 7) (some 19) rfl rfl (by kernel_rfl) (by kernel_rfl) (by kernel_rfl) (calm_panic _) (by kernel_rfl)
  case hy => (refine .inl ⟨by kernel_rfl, fun W hC => ?_⟩; (try dsimp only at hC); go_simp; (try simp only [hkc,hkd]); rfl)
  case hC => exact HC
  case ha => (simp only [Act.put, List.setIfInBounds_toArray, List.set_cons_zero, List.set_cons_succ]; rfl)
  apply WZ.take (i := 8) (some 20) rfl rfl (by kernel_rfl) (by kernel_rfl) (by kernel_rfl) (calm_panic _) (by kernel_rfl)
  case hy => (refine .inl ⟨by kernel_rfl, fun W hC => ?_⟩; (try dsimp only at hC); go_simp; (try simp only [hkc,hkd]); rfl)
  case hC => exact HC
  case ha => (simp only [Act.put, List.setIfInBounds_toArray, List.set_cons_zero, List.set_cons_succ]; rfl)
  apply WZ.take (i := 9) (some 21) rfl rfl (by kernel_rfl) (by kernel_rfl) (by kernel_rfl) (calm_panic _) (by kernel_rfl)
  case hy => first | (apply yieldsIf_load_mid (by kernel_rfl) _ _ rfl _ _ rfl; (case hS => (intro W hC; exact hC.1)); (case hu => exact Try.underlying27); (case hd => rfl); (case hi => kernel_rfl)) | (apply yieldsIf_load_mid (by kernel_rfl) _ _ rfl _ _ rfl; (case hS => (intro W hC; exact hC.2.1)); (case hu => exact Try.underlying27); (case hd => rfl); (case hi => kernel_rfl)) | (apply yieldsIf_load_mid (by kernel_rfl) _ _ rfl _ _ rfl; (case hS => (intro W hC; exact hC.2.2.1)); (case hu => exact Try.underlying27); (case hd => rfl); (case hi => kernel_rfl)) | (apply yieldsIf_load_mid (by kernel_rfl) _ _ rfl _ _ rfl; (case hS => (intro W hC; exact hC.2.2.2.1)); (case hu => exact Try.underlying27); (case hd => rfl); (case hi => kernel_rfl)) | (apply yieldsIf_load_mid (by kernel_rfl) _ _ rfl _ _ rfl; (case hS => (intro W hC; exact hC.2.2.2)); (case hu => exact Try.underlying27); (case hd => rfl); (case hi => kernel_rfl)) | (apply yieldsIf_load_mid (by kernel_rfl) _ _ rfl _ _ rfl; (case hS => (intro W hC; exact hC.2.2)); (case hu => exact Try.underlying27); (case hd => rfl); (case hi => kernel_rfl)) | (apply yieldsIf_load_mid (by kernel_rfl) _ _ rfl _ _ rfl; (case hS => (intro W hC; exact hC.2)); (case hu => exact Try.underlying27); (case hd => rfl); (case hi => kernel_rfl)) | (apply yieldsIf_load_mid (by kernel_rfl) _ _ rfl _ _ rfl; (case hS => (intro W hC; exact hC)); (case hu => exact Try.underlying27); (case hd => rfl); (case hi => kernel_rfl))
  case hC => exact HC
  case ha => (simp only [Act.put, List.setIfInBounds_toArray, List.set_cons_zero, List.set_cons_succ]; rfl)
  apply WZ.take (i := 10) (some 22) rfl rfl (by kernel_rfl) (by kernel_rfl) (by kernel_rfl) (calm_panic _) (by kernel_rfl)
  case hy => first | (apply yieldsIf_load_mid (by kernel_rfl) _ _ rfl _ _ rfl; (case hS => (intro W hC; exact hC.1)); (case hu => exact Try.underlying27); (case hd => rfl); (case hi => kernel_rfl)) | (apply yieldsIf_load_mid (by kernel_rfl) _ _ rfl _ _ rfl; (case hS => (intro W hC; exact hC.2.1)); (case hu => exact Try.underlying27); (case hd => rfl); (case hi => kernel_rfl)) | (apply yieldsIf_load_mid (by kernel_rfl) _ _ rfl _ _ rfl; (case hS => (intro W hC; exact hC.2.2.1)); (case hu => exact Try.underlying27); (case hd => rfl); (case hi => kernel_rfl)) | (apply yieldsIf_load_mid (by kernel_rfl) _ _ rfl _ _ rfl; (case hS => (intro W hC; exact hC.2.2.2.1)); (case hu => exact Try.underlying27); (case hd => rfl); (case hi => kernel_rfl)) | (apply yieldsIf_load_mid (by kernel_rfl) _ _ rfl _ _ rfl; (case hS => (intro W hC; exact hC.2.2.2)); (case hu => exact Try.underlying27); (case hd => rfl); (case hi => kernel_rfl)) | (apply yieldsIf_load_mid (by kernel_rfl) _ _ rfl _ _ rfl; (case hS => (intro W hC; exact hC.2.2)); (case hu => exact Try.underlying27); (case hd => rfl); (case hi => kernel_rfl)) | (apply yieldsIf_load_mid (by kernel_rfl) _ _ rfl _ _ rfl; (case hS => (intro W hC; exact hC.2)); (case hu => exact Try.underlying27); (case hd => rfl); (case hi => kernel_rfl)) | (apply yieldsIf_load_mid (by kernel_rfl) _ _ rfl _ _ rfl; (case hS => (intro W hC; exact hC)); (case hu => exact Try.underlying27); (case hd => rfl); (case hi => kernel_rfl))
  case hC => exact HC
  case ha => (simp only [Act.put, List.setIfInBounds_toArray, List.set_cons_zero, List.set_cons_succ]; rfl)
  -- 11
  refine WZ.one (i := 11) rfl (by kernel_rfl) ?_
  conv => arg 4; arg 1; whnf
  go_wp2_with (go_at_call 30; refine (HPL.out _).mono ?_; rintro e w1 ⟨rfl, hb1⟩)
  have HC' := HCC.out _ _ hb1 HC
  clear HC hb1
  have HC := HC'
  clear HC'
  refine ⟨HC, ?_⟩
  -- 12
  refine WZ.one (i := 12) rfl (by kernel_rfl) ?_
  conv => arg 4; arg 1; whnf
  go_wp2_with (go_at_call 29; refine (HSM.out _ (HB0.out.trans (HC.2.2.mono HB0.out.size))).mono ?_; rintro e w2 ⟨rfl, hb2⟩)
  have HC' := HCC.out _ _ hb2 HC
  clear HC hb2
  have HC := HC'
  clear HC'
  refine ⟨HC, ?_⟩
  apply WZ.take (i := 13) (some 25) rfl rfl (by kernel_rfl) (by kernel_rfl) (by kernel_rfl) (calm_panic _) (by kernel_rfl)
  case hy => (refine .inl ⟨by kernel_rfl, fun W hC => ?_⟩; (try dsimp only at hC); go_simp; (try simp only [hkc,hkd]); rfl)
  case hC => exact HC
  case ha => (simp only [Act.put, List.setIfInBounds_toArray, List.set_cons_zero, List.set_cons_succ]; rfl)
  apply WZ.take (i := 14) (some 26) rfl rfl (by kernel_rfl) (by kernel_rfl) (by kernel_rfl) (calm_panic _) (by kernel_rfl)
  case hy => (refine .inl ⟨by kernel_rfl, fun W hC => ?_⟩; (try dsimp only at hC); go_simp; (try simp only [hkc,hkd]); rfl)
  case hC => exact HC
  case ha => (simp only [Act.put, List.setIfInBounds_toArray, List.set_cons_zero, List.set_cons_succ]; rfl)
  apply WZ.take (i := 15) (some 11) rfl rfl (by kernel_rfl) (by kernel_rfl) (by kernel_rfl) (calm_panic _) (by kernel_rfl)
  case hy => (refine .inl ⟨by kernel_rfl, fun W hC => ?_⟩; (try dsimp only at hC); go_simp; (try simp only [hkc,hkd]); rfl)
  case hC => exact HC
  case ha => (simp only [Act.put, List.setIfInBounds_toArray, List.set_cons_zero, List.set_cons_succ]; rfl)
  refine WZ.done (by kernel_rfl) ?_ _
  simp only [Calm, Exit.then]
  have hX2 : Blk 27 w2 w.heap.size (cmd.vs A k D m) := HX.out.below HC.2.2 HX.out.lt
  have q0 := hX2.cell (j := 0) rfl
  have q1 := hX2.cell (j := 1) rfl
  have q2 := hX2.cell (j := 2) rfl
  have q3 := hX2.cell (j := 3) rfl
  have q4 := hX2.cell (j := 4) rfl
  have q5 := hX2.cell (j := 5) rfl
  have q6 := hX2.cell (j := 6) rfl
  have q7 := hX2.cell (j := 7) rfl
  have q8 := hX2.cell (j := 8) rfl
  have HX2 := Lib.hid hX2
  have HB2 := Lib.hid (HB0.out.trans (HC.2.2.mono HB0.out.size))
  clear hX2 HC HCC HSM HPL HX HW0
  unfold wideC at hwide
  simp only [Bool.or_eq_false_iff, decide_eq_false_iff_not] at hwide
  obtain ⟨⟨h1, h2⟩, h3⟩ := hwide
  have w1 : decide ((100 : Int) < (cmd.cells.length : Int)) = false := decide_eq_false (by omega)
  have w3 : decide ((255 : Int) < (cmd.files.length : Int)) = false := decide_eq_false (by omega)
  have w4 : decide ((255 : Int) < (cmd.row.size : Int)) = false := decide_eq_false (by omega)
  have k1 : (cmd.kind == 1) = false := by rw [HK.out]; rfl
  have k2 : (cmd.kind == 2) = true := by rw [HK.out]; rfl
  go_wp2_with (go_at_call 31; refine (littleInt cmd.kind 2 HK.out (by omega) _).mono ?_; rintro e w3' ⟨rfl, hb3⟩; have HX3 := Lib.hid (HX2.out.below hb3 HX2.out.lt); have HB3 := Lib.hid (HB2.out.trans (hb3.mono HB2.out.size)); clear hb3 q0 q1 q2 q3 q4 q5 q6 q7 q8; have z0 := fun o => (HX3.out.below (below_al w3' o) HX3.out.lt).cell (j := 0) rfl)
  clear z0
  have HO := Lib.hid (show OwnS (w3'.alloc (.cells #[.string (nb 2 1)] 9)) (w.heap.size + 1) (some ⟨w3'.heap.size, 0, none⟩) 1 1 [nb 2 1] from Own.lower (OwnS.made w3' [nb 2 1] 1 rfl (by omega) rfl) HX3.out.lt)
  have HX4 := Lib.hid (HX3.out.below (below_al w3' (.cells #[.string (nb 2 1)] 9)) HX3.out.lt)
  have HB4 := Lib.hid (HB3.out.trans ((below_al w3' (.cells #[.string (nb 2 1)] 9)).mono HB3.out.size))
  obtain ⟨W4, hW4⟩ : ∃ W4, w3'.alloc (.cells #[.string (nb 2 1)] 9) = W4 := ⟨_, rfl⟩
  have hz4 : w3'.heap.size < W4.heap.size := by rw [← hW4, World.size_alloc]; omega
  rw [hW4] at HO HX4 HB4
  have HW4 := Lib.hid hW4
  clear hW4
  rw [HW4.out]
  have hmk : ∀ W, Below W4.heap.size W4 W → W.cell? ⟨w.heap.size, 4, none⟩ = some (.string cmd.row) := fun W hb => (HX4.out.below hb HX4.out.lt).cell (j := 4) rfl
  have HB := Lib.hid ((Below.refl W4.heap.size W4).drew)
  have HC := hmk _ HB.out
  have hlt := HX4.out.lt
  refine region_wz (fun W => W.cell? ⟨w.heap.size, 4, none⟩ = some (.string cmd.row)) none (by kernel_rfl) ?_
  apply WZ.take (i := 0) (some 87) rfl rfl (by kernel_rfl) (by kernel_rfl) (by kernel_rfl) (calm_panic _) (by kernel_rfl)
  case hy => (refine .inl ⟨by kernel_rfl, fun W hC => ?_⟩; (try dsimp only at hC); go_simp; rfl)
  case hC => exact HC
  case ha => (simp only [Act.put, List.setIfInBounds_toArray, List.set_cons_zero, List.set_cons_succ]; rfl)
  apply WZ.take (i := 1) (some 88) rfl rfl (by kernel_rfl) (by kernel_rfl) (by kernel_rfl) (calm_panic _) (by kernel_rfl)
  case hy => (refine .inl ⟨by kernel_rfl, fun W hC => ?_⟩; (try dsimp only at hC); go_simp; rfl)
  case hC => exact HC
  case ha => (simp only [Act.put, List.setIfInBounds_toArray, List.set_cons_zero, List.set_cons_succ]; rfl)
  apply WZ.take (i := 2) (some 89) rfl rfl (by kernel_rfl) (by kernel_rfl) (by kernel_rfl) (calm_panic _) (by kernel_rfl)
  case hy => (refine .inl ⟨by kernel_rfl, fun W hC => ?_⟩; (try dsimp only at hC); go_simp; rfl)
  case hC => exact HC
  case ha => (simp only [Act.put, List.setIfInBounds_toArray, List.set_cons_zero, List.set_cons_succ]; rfl)
  apply WZ.take (i := 3) (some 90) rfl rfl (by kernel_rfl) (by kernel_rfl) (by kernel_rfl) (calm_panic _) (by kernel_rfl)
  case hy => (refine .inl ⟨by kernel_rfl, fun W hC => ?_⟩; (try dsimp only at hC); go_simp; rfl)
  case hC => exact HC
  case ha => (simp only [Act.put, List.setIfInBounds_toArray, List.set_cons_zero, List.set_cons_succ]; rfl)
  apply WZ.take (i := 5) (some 92) rfl rfl (by kernel_rfl) (by kernel_rfl) (by kernel_rfl) (calm_panic _) (by kernel_rfl)
  case hy => (refine .inl ⟨by kernel_rfl, fun W hC => ?_⟩; (try dsimp only at hC); go_simp; rfl)
  case hC => exact HC
  case ha => (simp only [Act.put, List.setIfInBounds_toArray, List.set_cons_zero, List.set_cons_succ]; rfl)
  apply WZ.take (i := 6) (some 93) rfl rfl (by kernel_rfl) (by kernel_rfl) (by kernel_rfl) (calm_panic _) (by kernel_rfl)
  case hy => (refine .inl ⟨by kernel_rfl, fun W hC => ?_⟩; (try dsimp only at hC); go_simp; rfl)
  case hC => exact HC
  case ha => (simp only [Act.put, List.setIfInBounds_toArray, List.set_cons_zero, List.set_cons_succ]; rfl)
  -- 4
  refine WZ.one (i := 4) rfl (by kernel_rfl) ?_
  conv => arg 4; arg 1; whnf
  go_wp2_with (go_at_call 31; refine (littleInt (cmd.row.size : Int) cmd.row.size rfl (by omega) _).mono ?_; rintro e w5 ⟨rfl, hb9⟩)
  have HB9 := Lib.hid (HB.out.trans (hb9.mono HB.out.size))
  clear HB HC hb9
  have HB := HB9
  clear HB9
  have HC := hmk _ HB.out
  refine ⟨HC, ?_⟩
  -- 7
  refine WZ.one (i := 7) rfl (by kernel_rfl) ?_
  conv => arg 4; arg 1; whnf
  go_wp2_with fail
  have HR := Lib.hid (Rd.madeS w5 [nb cmd.row.size 1, cmd.row] rfl w5.heap.size rfl)
  have hb9 := below_al w5 (.cells #[.string (nb cmd.row.size 1), .string cmd.row] 9)
  have HB9 := Lib.hid (HB.out.trans (hb9.mono HB.out.size))
  clear HB HC hb9
  have HB := HB9
  clear HB9
  have HC := hmk _ HB.out
  refine ⟨HC, ?_⟩
  -- 8
  refine WZ.one (i := 8) rfl (by kernel_rfl) ?_
  conv => arg 4; arg 1; whnf
  go_wp2_with (at_builtin; go_loud (refine texts_app rfl _ _ rfl (w.heap.size + 1) (some ⟨w3'.heap.size, 0, none⟩) 1 1 3 _ [nb cmd.row.size 1, cmd.row] rfl (OwnS.below HO.out HB.out) (some ⟨w5.heap.size, 0, none⟩) 2 2 rfl HR.out rfl rfl (by omega) (by have := HB.out.size; omega) ?_); intro A8 c8 w6 HO8 HG8)
  have HC9 := ((HX4.out.below HB.out HX4.out.lt).grown HG8.out (fun e => by have e : w3'.heap.size = w.heap.size := Option.some.inj e; have := HX3.out.lt; omega)).cell (j := 4) rfl
  have HB6 := Lib.hid (Own.grow (OwnS.below HO.out HB.out) (HB4.out.trans (HB.out.mono HB4.out.size)) (by have := HB.out.size; omega) (Nat.le_succ _) HG8.out)
  clear HC
  have HC := HC9
  refine ⟨HC, ?_⟩
  apply WZ.take (i := 9) (some 4) rfl rfl (by kernel_rfl) (by kernel_rfl) (by kernel_rfl) (calm_panic _) (by kernel_rfl)
  case hy => (refine .inl ⟨by kernel_rfl, fun W hC => ?_⟩; (try dsimp only at hC); go_simp; rfl)
  case hC => exact HC
  case ha => (simp only [Act.put, List.setIfInBounds_toArray, List.set_cons_zero, List.set_cons_succ]; rfl)
  refine WZ.done (by kernel_rfl) ?_ _
  simp only [Calm, Exit.then]
  have ho8 := HO8.out
  rw [show [nb 2 1] ++ [nb cmd.row.size 1, cmd.row] = splitP cmd.row from rfl] at ho8
  have hsz := cat_size (splitP cmd.row) 300 (by
    intro s hs
    unfold splitP at hs
    simp only [List.mem_cons, List.not_mem_nil, or_false] at hs
    rcases hs with rfl | rfl | rfl
    · rw [nb_size]; omega
    · rw [nb_size]; omega
    · omega)
  have HJ := Lib.hid (join_own ho8 (by omega) (by omega) (by unfold splitP at hsz ⊢; simp only [List.length_cons, List.length_nil] at hsz; omega))
  clear ho8 hsz HC hmk
  go_wp2_with (go_at_call 35; refine HJ.out.mono ?_; rintro e w7 ⟨rfl, hb7⟩)
  go_ret2
  exact ⟨rfl, HB6.out.trans (hb7.mono HB6.out.size)⟩
end Go.Proofs.Ytiiogdgnccgehaa
