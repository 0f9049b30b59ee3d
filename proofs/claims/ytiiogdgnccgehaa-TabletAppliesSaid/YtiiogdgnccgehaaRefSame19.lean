/-
  States held against one another by the reference; states turned to its type. No conditions.
-/
import Derived.Test.YtiiogdgnccgehaaRefBatch19
import Derived.Deep.CutBlock
namespace Go.Proofs.Ytiiogdgnccgehaa
open Go.RowKit
attribute [local go_sem ↓] Go.wp_at_zero Go.wp_at_succ
theorem neq_jb (y : Jb) (W : World) : (binOp .neq 67 (.agg #[.int .u64 y.id, .int .u32 y.sum, .int .u64 y.seq]) (.agg #[.int .u64 y.id, .int .u32 y.sum, .int .u64 y.seq])).run Try.prog W = .ok (.bool false) W := by
  go_simp
theorem neq_kl (y : Kl) (W : World) : (binOp .neq 106 (.agg #[.int .u64 y.id, .int .u64 y.num, .int .i64 y.e]) (.agg #[.int .u64 y.id, .int .u64 y.num, .int .i64 y.e])).run Try.prog W = .ok (.bool false) W := by
  go_simp
theorem sameTexts_true (A B : Option Addr) (c d N : Nat) (l : List ByteArray) (hN : l.length = N) (w : World) (hl : Rd w w.heap.size A (txs l)) (hm : Rd w w.heap.size B (txs l)) (hlen : N ≤ maxLen) :
    Calls Try.prog 50 #[.slice A N c, .slice B N d] w fun e w' => e = .returned (.bool true) ∧ Below w.heap.size w w' := by
  subst hN
  refine (sameTexts_any A B c d l l w hl hm hlen hlen).mono ?_
  rw [decide_eq_true rfl]
  exact fun e w' h => h
/-- both states, told -/
structure SP (w W : World) (v1 v2 : List Value) : Prop where
  bl : Below w.heap.size w W
  a : Blk 51 W w.heap.size v1
  b : Blk 51 W (w.heap.size + 1) v2
theorem SP.below {w W W' : World} {v1 v2 : List Value} (h : SP w W v1 v2) (hb : Below W.heap.size W W') : SP w W' v1 v2 := ⟨h.bl.trans (hb.mono h.bl.size), h.a.below hb h.a.lt, h.b.below hb h.b.lt⟩
theorem SP.drew {w W : World} {v1 v2 : List Value} (h : SP w W v1 v2) : SP w W.drew v1 v2 := ⟨h.bl.drew, h.a, h.b⟩
set_option maxRecDepth 100000 in
set_option maxHeartbeats 8000000 in
theorem sameState_true (s : Sta) (xs ys : SA) (w : World) (h1 : StaIn w w.heap.size s xs) (h2 : StaIn w w.heap.size s ys) (hb : s.borders.length ≤ 1000) (hj : s.jobs.length ≤ 1000) (hk : s.clients.length ≤ 1000) :
    Calls Try.prog 20 #[.agg (s.vs xs).toArray, .agg (s.vs ys).toArray] w fun e w' => e = .returned (.bool true) ∧ Below w.heap.size w w' := by
  obtain ⟨NB, hNB⟩ : ∃ N, s.borders.length = N := ⟨_, rfl⟩
  obtain ⟨NJ, hNJ⟩ : ∃ N, s.jobs.length = N := ⟨_, rfl⟩
  obtain ⟨NK, hNK⟩ : ∃ N, s.clients.length = N := ⟨_, rfl⟩
  unfold Sta.vs
  rw [hNB] at hb ⊢
  rw [hNJ] at hj ⊢
  rw [hNK] at hk ⊢
  have HNB := Lib.hid hNB
  have HNJ := Lib.hid hNJ
  have HNK := Lib.hid hNK
  have HX1 := Lib.hid h1.rj
  have HX2 := Lib.hid h2.rj
  have HF1 := Lib.hid h1.rc
  have HF2 := Lib.hid h2.rc
  have HT1 := Lib.hid h1.rb
  have HT2 := Lib.hid h2.rb
  obtain ⟨b1, b2, b3⟩ := two_blocks w 51 51 [.int .u64 s.index, .int .u64 s.epoch, .slice xs.A NB xs.a, .slice xs.D NJ xs.d, .slice xs.F NK xs.f] [.int .u64 s.index, .int .u64 s.epoch, .slice ys.A NB ys.a, .slice ys.D NJ ys.d, .slice ys.F NK ys.f]
  have HP0 := Lib.hid (SP.mk b3 b1 b2)
  have x0 := HP0.out.a.cell (j := 0) rfl
  have x1 := HP0.out.a.cell (j := 1) rfl
  have x2 := HP0.out.a.cell (j := 2) rfl
  have y0 := HP0.out.b.cell (j := 0) rfl
  have y1 := HP0.out.b.cell (j := 1) rfl
  have y2 := HP0.out.b.cell (j := 2) rfl
  clear h1 h2 hNB hNJ hNK b1 b2 b3
  go_enter Try.func20, Try.ntmps20
  go_wp2_with (go_at_call 50; go_loud (refine (sameTexts_true xs.A ys.A xs.a ys.a NB s.borders HNB.out _ ((HT1.out.below HP0.out.bl).more HP0.out.bl.size) ((HT2.out.below HP0.out.bl).more HP0.out.bl.size) (by unfold maxLen; omega)).mono ?_); rintro e w1 ⟨rfl, hb1⟩; have HP := Lib.hid (HP0.out.below hb1); have x3 := HP.out.a.cell (j := 3) rfl; have y3 := HP.out.b.cell (j := 3) rfl; have x4 := HP.out.a.cell (j := 4) rfl; have y4 := HP.out.b.cell (j := 4) rfl; clear hb1)
  go_loopw [5] (fun vi wr => ∃ k : Nat, k ≤ NJ ∧ vi = .int .i64 (k : Int) ∧ Hid (SP w wr [.int .u64 s.index, .int .u64 s.epoch, .slice xs.A NB xs.a, .slice xs.D NJ xs.d, .slice xs.F NK xs.f] [.int .u64 s.index, .int .u64 s.epoch, .slice ys.A NB ys.a, .slice ys.D NJ ys.d, .slice ys.F NK ys.f])) (fun vi _ => NJ - (intOf vi).toNat)
  case atStart => exact ⟨0, Nat.zero_le _, rfl, HP⟩
  case round =>
    clear HP
    obtain ⟨k, hk, rfl, HP⟩ := hrel
    rename World => wr
    have d3 := HP.out.a.cell (j := 3) rfl
    by_cases hlt : k < NJ
    · have hkl : k < s.jobs.length := by rw [HNJ.out]; exact hlt
      have e1 : decide ((k : Int) < (NJ : Int)) = true := decide_eq_true (by omega)
      have k1 : (0 : Int) ≤ (k : Int) := by omega
      have k2 : (k : Int) < (NJ : Int) := by omega
      have hw3 : IntKind.i64.wrap ((k : Int) + 1) = ((k + 1 : Nat) : Int) := by rw [IntWalk.i64_in _ (by omega)]; omega
      obtain ⟨b, o, hA, hb0, hc⟩ := HX1.out.at_ (jbs_ne hkl)
      obtain ⟨b', o', hA', hb0', hc'⟩ := HX2.out.at_ (jbs_ne hkl)
      have r1 := Rd.enc_range Jb.vs_len hc k hkl
      have r2 := Rd.enc_range Jb.vs_len hc' k hkl
      obtain ⟨y, hy⟩ : ∃ y, s.jobs[k] = y := ⟨_, rfl⟩
      rw [hy] at r1 r2
      rw [hA] at d3
      have HA := Lib.hid hA
      have HA' := Lib.hid hA'
      have hcell : ∀ W, Hid (SP w W [.int .u64 s.index, .int .u64 s.epoch, .slice xs.A NB xs.a, .slice xs.D NJ xs.d, .slice xs.F NK xs.f] [.int .u64 s.index, .int .u64 s.epoch, .slice ys.A NB ys.a, .slice ys.D NJ ys.d, .slice ys.F NK ys.f]) → W.cell? ⟨w.heap.size, 3, none⟩ = some (.slice (some ⟨b, o, none⟩) NJ xs.d) ∧ W.cell? ⟨w.heap.size + 1, 3, none⟩ = some (.slice (some ⟨b', o', none⟩) NJ ys.d) ∧ W.rangeAt b (o + k * 3) [.int .u64 y.id, .int .u32 y.sum, .int .u64 y.seq] ∧ W.rangeAt b' (o' + k * 3) [.int .u64 y.id, .int .u32 y.sum, .int .u64 y.seq] := fun W h => ⟨by rw [← HA.out]; exact h.out.a.cell (j := 3) rfl, by rw [← HA'.out]; exact h.out.b.cell (j := 3) rfl, rangeAt_below r1 h.out.bl hb0, rangeAt_below r2 h.out.bl hb0'⟩
      have hne := neq_jb y
      clear hA hA' hc hc' hy
      go_wp2
      have HP0 := HP
      clear HP
      have HP := Lib.hid HP0.out.drew
      have HC := hcell _ HP
      refine region_wz (fun W => W.cell? ⟨w.heap.size, 3, none⟩ = some (.slice (some ⟨b, o, none⟩) NJ xs.d) ∧ W.cell? ⟨w.heap.size + 1, 3, none⟩ = some (.slice (some ⟨b', o', none⟩) NJ ys.d) ∧ W.rangeAt b (o + k * 3) [.int .u64 y.id, .int .u32 y.sum, .int .u64 y.seq] ∧ W.rangeAt b' (o' + k * 3) [.int .u64 y.id, .int .u32 y.sum, .int .u64 y.seq]) none (by kernel_rfl) ?_
      apply WZ.take (i := 0) (some 52) rfl rfl (by kernel_rfl) (by kernel_rfl) (by kernel_rfl) (calm_panic _) (by kernel_rfl)
      case hy => (refine .inl ⟨by kernel_rfl, fun W hC => ?_⟩; (try dsimp only at hC); go_simp; (try simp only [hne]); rfl)
      case hC => exact HC
      case ha => (simp only [Act.put, List.setIfInBounds_toArray, List.set_cons_zero, List.set_cons_succ]; rfl)
      apply WZ.take (i := 1) (some 53) rfl rfl (by kernel_rfl) (by kernel_rfl) (by kernel_rfl) (calm_panic _) (by kernel_rfl)
      case hy => (refine .inl ⟨by kernel_rfl, fun W hC => ?_⟩; (try dsimp only at hC); go_simp; (try simp only [hne]); rfl)
      case hC => exact HC
      case ha => (simp only [Act.put, List.setIfInBounds_toArray, List.set_cons_zero, List.set_cons_succ]; rfl)
      apply WZ.take (i := 2) (some 54) rfl rfl (by kernel_rfl) (by kernel_rfl) (by kernel_rfl) (calm_panic _) (by kernel_rfl)
      case hy => (refine .inl ⟨by kernel_rfl, fun W hC => ?_⟩; (try dsimp only at hC); go_simp; (try simp only [hne]); rfl)
      case hC => exact HC
      case ha => (simp only [Act.put, List.setIfInBounds_toArray, List.set_cons_zero, List.set_cons_succ]; rfl)
      apply WZ.take (i := 3) (some 55) rfl rfl (by kernel_rfl) (by kernel_rfl) (by kernel_rfl) (calm_panic _) (by kernel_rfl)
      case hy => (refine .inl ⟨by kernel_rfl, fun W hC => ?_⟩; (try dsimp only at hC); go_simp; (try simp only [hne]); rfl)
      case hC => exact HC
      case ha => (simp only [Act.put, List.setIfInBounds_toArray, List.set_cons_zero, List.set_cons_succ]; rfl)
      apply WZ.take (i := 4) (some 56) rfl rfl (by kernel_rfl) (by kernel_rfl) (by kernel_rfl) (calm_panic _) (by kernel_rfl)
      case hy => first | (apply yieldsIf_load_mid (by kernel_rfl) _ _ rfl _ _ rfl; (case hS => (intro W hC; exact hC.1)); (case hu => exact Try.underlying67); (case hd => rfl); (case hi => kernel_rfl)) | (apply yieldsIf_load_mid (by kernel_rfl) _ _ rfl _ _ rfl; (case hS => (intro W hC; exact hC.2.1)); (case hu => exact Try.underlying67); (case hd => rfl); (case hi => kernel_rfl)) | (apply yieldsIf_load_mid (by kernel_rfl) _ _ rfl _ _ rfl; (case hS => (intro W hC; exact hC.2.2.1)); (case hu => exact Try.underlying67); (case hd => rfl); (case hi => kernel_rfl)) | (apply yieldsIf_load_mid (by kernel_rfl) _ _ rfl _ _ rfl; (case hS => (intro W hC; exact hC.2.2.2.1)); (case hu => exact Try.underlying67); (case hd => rfl); (case hi => kernel_rfl)) | (apply yieldsIf_load_mid (by kernel_rfl) _ _ rfl _ _ rfl; (case hS => (intro W hC; exact hC.2.2.2)); (case hu => exact Try.underlying67); (case hd => rfl); (case hi => kernel_rfl)) | (apply yieldsIf_load_mid (by kernel_rfl) _ _ rfl _ _ rfl; (case hS => (intro W hC; exact hC.2.2)); (case hu => exact Try.underlying67); (case hd => rfl); (case hi => kernel_rfl)) | (apply yieldsIf_load_mid (by kernel_rfl) _ _ rfl _ _ rfl; (case hS => (intro W hC; exact hC.2)); (case hu => exact Try.underlying67); (case hd => rfl); (case hi => kernel_rfl)) | (apply yieldsIf_load_mid (by kernel_rfl) _ _ rfl _ _ rfl; (case hS => (intro W hC; exact hC)); (case hu => exact Try.underlying67); (case hd => rfl); (case hi => kernel_rfl))
      case hC => exact HC
      case ha => (simp only [Act.put, List.setIfInBounds_toArray, List.set_cons_zero, List.set_cons_succ]; rfl)
      apply WZ.take (i := 5) (some 57) rfl rfl (by kernel_rfl) (by kernel_rfl) (by kernel_rfl) (calm_panic _) (by kernel_rfl)
      case hy => (refine .inl ⟨by kernel_rfl, fun W hC => ?_⟩; (try dsimp only at hC); go_simp; (try simp only [hne]); rfl)
      case hC => exact HC
      case ha => (simp only [Act.put, List.setIfInBounds_toArray, List.set_cons_zero, List.set_cons_succ]; rfl)
      apply WZ.take (i := 6) (some 58) rfl rfl (by kernel_rfl) (by kernel_rfl) (by kernel_rfl) (calm_panic _) (by kernel_rfl)
      case hy => (refine .inl ⟨by kernel_rfl, fun W hC => ?_⟩; (try dsimp only at hC); go_simp; (try simp only [hne]); rfl)
      case hC => exact HC
      case ha => (simp only [Act.put, List.setIfInBounds_toArray, List.set_cons_zero, List.set_cons_succ]; rfl)
      apply WZ.take (i := 7) (some 59) rfl rfl (by kernel_rfl) (by kernel_rfl) (by kernel_rfl) (calm_panic _) (by kernel_rfl)
      case hy => (refine .inl ⟨by kernel_rfl, fun W hC => ?_⟩; (try dsimp only at hC); go_simp; (try simp only [hne]); rfl)
      case hC => exact HC
      case ha => (simp only [Act.put, List.setIfInBounds_toArray, List.set_cons_zero, List.set_cons_succ]; rfl)
      apply WZ.take (i := 8) (some 60) rfl rfl (by kernel_rfl) (by kernel_rfl) (by kernel_rfl) (calm_panic _) (by kernel_rfl)
      case hy => (refine .inl ⟨by kernel_rfl, fun W hC => ?_⟩; (try dsimp only at hC); go_simp; (try simp only [hne]); rfl)
      case hC => exact HC
      case ha => (simp only [Act.put, List.setIfInBounds_toArray, List.set_cons_zero, List.set_cons_succ]; rfl)
      apply WZ.take (i := 9) (some 61) rfl rfl (by kernel_rfl) (by kernel_rfl) (by kernel_rfl) (calm_panic _) (by kernel_rfl)
      case hy => first | (apply yieldsIf_load_mid (by kernel_rfl) _ _ rfl _ _ rfl; (case hS => (intro W hC; exact hC.1)); (case hu => exact Try.underlying67); (case hd => rfl); (case hi => kernel_rfl)) | (apply yieldsIf_load_mid (by kernel_rfl) _ _ rfl _ _ rfl; (case hS => (intro W hC; exact hC.2.1)); (case hu => exact Try.underlying67); (case hd => rfl); (case hi => kernel_rfl)) | (apply yieldsIf_load_mid (by kernel_rfl) _ _ rfl _ _ rfl; (case hS => (intro W hC; exact hC.2.2.1)); (case hu => exact Try.underlying67); (case hd => rfl); (case hi => kernel_rfl)) | (apply yieldsIf_load_mid (by kernel_rfl) _ _ rfl _ _ rfl; (case hS => (intro W hC; exact hC.2.2.2.1)); (case hu => exact Try.underlying67); (case hd => rfl); (case hi => kernel_rfl)) | (apply yieldsIf_load_mid (by kernel_rfl) _ _ rfl _ _ rfl; (case hS => (intro W hC; exact hC.2.2.2)); (case hu => exact Try.underlying67); (case hd => rfl); (case hi => kernel_rfl)) | (apply yieldsIf_load_mid (by kernel_rfl) _ _ rfl _ _ rfl; (case hS => (intro W hC; exact hC.2.2)); (case hu => exact Try.underlying67); (case hd => rfl); (case hi => kernel_rfl)) | (apply yieldsIf_load_mid (by kernel_rfl) _ _ rfl _ _ rfl; (case hS => (intro W hC; exact hC.2)); (case hu => exact Try.underlying67); (case hd => rfl); (case hi => kernel_rfl)) | (apply yieldsIf_load_mid (by kernel_rfl) _ _ rfl _ _ rfl; (case hS => (intro W hC; exact hC)); (case hu => exact Try.underlying67); (case hd => rfl); (case hi => kernel_rfl))
      case hC => exact HC
      case ha => (simp only [Act.put, List.setIfInBounds_toArray, List.set_cons_zero, List.set_cons_succ]; rfl)
      apply WZ.take (i := 10) (some 62) rfl rfl (by kernel_rfl) (by kernel_rfl) (by kernel_rfl) (calm_panic _) (by kernel_rfl)
      case hy => (refine .inl ⟨by kernel_rfl, fun W hC => ?_⟩; (try dsimp only at hC); go_simp; (try simp only [hne]); rfl)
      case hC => exact HC
      case ha => (simp only [Act.put, List.setIfInBounds_toArray, List.set_cons_zero, List.set_cons_succ]; rfl)
      refine WZ.done (by kernel_rfl) ?_ _
      simp only [Calm, Exit.then]
      go_wp2
      exact ⟨⟨k + 1, by omega, by first | rfl | go_num, HP⟩, by simp [intOf]; omega⟩
    · have e1 : decide ((k : Int) < (NJ : Int)) = false := decide_eq_false (by omega)
      go_wp2
      go_loopw [6] (fun vi wr => ∃ k : Nat, k ≤ NK ∧ vi = .int .i64 (k : Int) ∧ Hid (SP w wr [.int .u64 s.index, .int .u64 s.epoch, .slice xs.A NB xs.a, .slice xs.D NJ xs.d, .slice xs.F NK xs.f] [.int .u64 s.index, .int .u64 s.epoch, .slice ys.A NB ys.a, .slice ys.D NJ ys.d, .slice ys.F NK ys.f])) (fun vi _ => NK - (intOf vi).toNat)
      case atStart => exact ⟨0, Nat.zero_le _, rfl, HP⟩
      case round =>
        clear HP
        obtain ⟨k, hk, rfl, HP⟩ := hrel
        rename World => wr
        have d3 := HP.out.a.cell (j := 4) rfl
        by_cases hlt : k < NK
        · have hkl : k < s.clients.length := by rw [HNK.out]; exact hlt
          have e1 : decide ((k : Int) < (NK : Int)) = true := decide_eq_true (by omega)
          have k1 : (0 : Int) ≤ (k : Int) := by omega
          have k2 : (k : Int) < (NK : Int) := by omega
          have hw3 : IntKind.i64.wrap ((k : Int) + 1) = ((k + 1 : Nat) : Int) := by rw [IntWalk.i64_in _ (by omega)]; omega
          obtain ⟨b, o, hA, hb0, hc⟩ := HF1.out.at_ (kls_ne hkl)
          obtain ⟨b', o', hA', hb0', hc'⟩ := HF2.out.at_ (kls_ne hkl)
          have r1 := Rd.enc_range Kl.vs_len hc k hkl
          have r2 := Rd.enc_range Kl.vs_len hc' k hkl
          obtain ⟨y, hy⟩ : ∃ y, s.clients[k] = y := ⟨_, rfl⟩
          rw [hy] at r1 r2
          rw [hA] at d3
          have HA := Lib.hid hA
          have HA' := Lib.hid hA'
          have hcell : ∀ W, Hid (SP w W [.int .u64 s.index, .int .u64 s.epoch, .slice xs.A NB xs.a, .slice xs.D NJ xs.d, .slice xs.F NK xs.f] [.int .u64 s.index, .int .u64 s.epoch, .slice ys.A NB ys.a, .slice ys.D NJ ys.d, .slice ys.F NK ys.f]) → W.cell? ⟨w.heap.size, 4, none⟩ = some (.slice (some ⟨b, o, none⟩) NK xs.f) ∧ W.cell? ⟨w.heap.size + 1, 4, none⟩ = some (.slice (some ⟨b', o', none⟩) NK ys.f) ∧ W.rangeAt b (o + k * 3) [.int .u64 y.id, .int .u64 y.num, .int .i64 y.e] ∧ W.rangeAt b' (o' + k * 3) [.int .u64 y.id, .int .u64 y.num, .int .i64 y.e] := fun W h => ⟨by rw [← HA.out]; exact h.out.a.cell (j := 4) rfl, by rw [← HA'.out]; exact h.out.b.cell (j := 4) rfl, rangeAt_below r1 h.out.bl hb0, rangeAt_below r2 h.out.bl hb0'⟩
          have hne := neq_kl y
          clear hA hA' hc hc' hy
          go_wp2
          have HP0 := HP
          clear HP
          have HP := Lib.hid HP0.out.drew
          have HC := hcell _ HP
          refine region_wz (fun W => W.cell? ⟨w.heap.size, 4, none⟩ = some (.slice (some ⟨b, o, none⟩) NK xs.f) ∧ W.cell? ⟨w.heap.size + 1, 4, none⟩ = some (.slice (some ⟨b', o', none⟩) NK ys.f) ∧ W.rangeAt b (o + k * 3) [.int .u64 y.id, .int .u64 y.num, .int .i64 y.e] ∧ W.rangeAt b' (o' + k * 3) [.int .u64 y.id, .int .u64 y.num, .int .i64 y.e]) none (by kernel_rfl) ?_
          apply WZ.take (i := 0) (some 70) rfl rfl (by kernel_rfl) (by kernel_rfl) (by kernel_rfl) (calm_panic _) (by kernel_rfl)
          case hy => (refine .inl ⟨by kernel_rfl, fun W hC => ?_⟩; (try dsimp only at hC); go_simp; (try simp only [hne]); rfl)
          case hC => exact HC
          case ha => (simp only [Act.put, List.setIfInBounds_toArray, List.set_cons_zero, List.set_cons_succ]; rfl)
          apply WZ.take (i := 1) (some 71) rfl rfl (by kernel_rfl) (by kernel_rfl) (by kernel_rfl) (calm_panic _) (by kernel_rfl)
          case hy => (refine .inl ⟨by kernel_rfl, fun W hC => ?_⟩; (try dsimp only at hC); go_simp; (try simp only [hne]); rfl)
          case hC => exact HC
          case ha => (simp only [Act.put, List.setIfInBounds_toArray, List.set_cons_zero, List.set_cons_succ]; rfl)
          apply WZ.take (i := 2) (some 72) rfl rfl (by kernel_rfl) (by kernel_rfl) (by kernel_rfl) (calm_panic _) (by kernel_rfl)
          case hy => (refine .inl ⟨by kernel_rfl, fun W hC => ?_⟩; (try dsimp only at hC); go_simp; (try simp only [hne]); rfl)
          case hC => exact HC
          case ha => (simp only [Act.put, List.setIfInBounds_toArray, List.set_cons_zero, List.set_cons_succ]; rfl)
          apply WZ.take (i := 3) (some 73) rfl rfl (by kernel_rfl) (by kernel_rfl) (by kernel_rfl) (calm_panic _) (by kernel_rfl)
          case hy => (refine .inl ⟨by kernel_rfl, fun W hC => ?_⟩; (try dsimp only at hC); go_simp; (try simp only [hne]); rfl)
          case hC => exact HC
          case ha => (simp only [Act.put, List.setIfInBounds_toArray, List.set_cons_zero, List.set_cons_succ]; rfl)
          apply WZ.take (i := 4) (some 74) rfl rfl (by kernel_rfl) (by kernel_rfl) (by kernel_rfl) (calm_panic _) (by kernel_rfl)
          case hy => first | (apply yieldsIf_load_mid (by kernel_rfl) _ _ rfl _ _ rfl; (case hS => (intro W hC; exact hC.1)); (case hu => exact Try.underlying106); (case hd => rfl); (case hi => kernel_rfl)) | (apply yieldsIf_load_mid (by kernel_rfl) _ _ rfl _ _ rfl; (case hS => (intro W hC; exact hC.2.1)); (case hu => exact Try.underlying106); (case hd => rfl); (case hi => kernel_rfl)) | (apply yieldsIf_load_mid (by kernel_rfl) _ _ rfl _ _ rfl; (case hS => (intro W hC; exact hC.2.2.1)); (case hu => exact Try.underlying106); (case hd => rfl); (case hi => kernel_rfl)) | (apply yieldsIf_load_mid (by kernel_rfl) _ _ rfl _ _ rfl; (case hS => (intro W hC; exact hC.2.2.2.1)); (case hu => exact Try.underlying106); (case hd => rfl); (case hi => kernel_rfl)) | (apply yieldsIf_load_mid (by kernel_rfl) _ _ rfl _ _ rfl; (case hS => (intro W hC; exact hC.2.2.2)); (case hu => exact Try.underlying106); (case hd => rfl); (case hi => kernel_rfl)) | (apply yieldsIf_load_mid (by kernel_rfl) _ _ rfl _ _ rfl; (case hS => (intro W hC; exact hC.2.2)); (case hu => exact Try.underlying106); (case hd => rfl); (case hi => kernel_rfl)) | (apply yieldsIf_load_mid (by kernel_rfl) _ _ rfl _ _ rfl; (case hS => (intro W hC; exact hC.2)); (case hu => exact Try.underlying106); (case hd => rfl); (case hi => kernel_rfl)) | (apply yieldsIf_load_mid (by kernel_rfl) _ _ rfl _ _ rfl; (case hS => (intro W hC; exact hC)); (case hu => exact Try.underlying106); (case hd => rfl); (case hi => kernel_rfl))
          case hC => exact HC
          case ha => (simp only [Act.put, List.setIfInBounds_toArray, List.set_cons_zero, List.set_cons_succ]; rfl)
          apply WZ.take (i := 5) (some 75) rfl rfl (by kernel_rfl) (by kernel_rfl) (by kernel_rfl) (calm_panic _) (by kernel_rfl)
          case hy => (refine .inl ⟨by kernel_rfl, fun W hC => ?_⟩; (try dsimp only at hC); go_simp; (try simp only [hne]); rfl)
          case hC => exact HC
          case ha => (simp only [Act.put, List.setIfInBounds_toArray, List.set_cons_zero, List.set_cons_succ]; rfl)
          apply WZ.take (i := 6) (some 76) rfl rfl (by kernel_rfl) (by kernel_rfl) (by kernel_rfl) (calm_panic _) (by kernel_rfl)
          case hy => (refine .inl ⟨by kernel_rfl, fun W hC => ?_⟩; (try dsimp only at hC); go_simp; (try simp only [hne]); rfl)
          case hC => exact HC
          case ha => (simp only [Act.put, List.setIfInBounds_toArray, List.set_cons_zero, List.set_cons_succ]; rfl)
          apply WZ.take (i := 7) (some 77) rfl rfl (by kernel_rfl) (by kernel_rfl) (by kernel_rfl) (calm_panic _) (by kernel_rfl)
          case hy => (refine .inl ⟨by kernel_rfl, fun W hC => ?_⟩; (try dsimp only at hC); go_simp; (try simp only [hne]); rfl)
          case hC => exact HC
          case ha => (simp only [Act.put, List.setIfInBounds_toArray, List.set_cons_zero, List.set_cons_succ]; rfl)
          apply WZ.take (i := 8) (some 78) rfl rfl (by kernel_rfl) (by kernel_rfl) (by kernel_rfl) (calm_panic _) (by kernel_rfl)
          case hy => (refine .inl ⟨by kernel_rfl, fun W hC => ?_⟩; (try dsimp only at hC); go_simp; (try simp only [hne]); rfl)
          case hC => exact HC
          case ha => (simp only [Act.put, List.setIfInBounds_toArray, List.set_cons_zero, List.set_cons_succ]; rfl)
          apply WZ.take (i := 9) (some 79) rfl rfl (by kernel_rfl) (by kernel_rfl) (by kernel_rfl) (calm_panic _) (by kernel_rfl)
          case hy => first | (apply yieldsIf_load_mid (by kernel_rfl) _ _ rfl _ _ rfl; (case hS => (intro W hC; exact hC.1)); (case hu => exact Try.underlying106); (case hd => rfl); (case hi => kernel_rfl)) | (apply yieldsIf_load_mid (by kernel_rfl) _ _ rfl _ _ rfl; (case hS => (intro W hC; exact hC.2.1)); (case hu => exact Try.underlying106); (case hd => rfl); (case hi => kernel_rfl)) | (apply yieldsIf_load_mid (by kernel_rfl) _ _ rfl _ _ rfl; (case hS => (intro W hC; exact hC.2.2.1)); (case hu => exact Try.underlying106); (case hd => rfl); (case hi => kernel_rfl)) | (apply yieldsIf_load_mid (by kernel_rfl) _ _ rfl _ _ rfl; (case hS => (intro W hC; exact hC.2.2.2.1)); (case hu => exact Try.underlying106); (case hd => rfl); (case hi => kernel_rfl)) | (apply yieldsIf_load_mid (by kernel_rfl) _ _ rfl _ _ rfl; (case hS => (intro W hC; exact hC.2.2.2)); (case hu => exact Try.underlying106); (case hd => rfl); (case hi => kernel_rfl)) | (apply yieldsIf_load_mid (by kernel_rfl) _ _ rfl _ _ rfl; (case hS => (intro W hC; exact hC.2.2)); (case hu => exact Try.underlying106); (case hd => rfl); (case hi => kernel_rfl)) | (apply yieldsIf_load_mid (by kernel_rfl) _ _ rfl _ _ rfl; (case hS => (intro W hC; exact hC.2)); (case hu => exact Try.underlying106); (case hd => rfl); (case hi => kernel_rfl)) | (apply yieldsIf_load_mid (by kernel_rfl) _ _ rfl _ _ rfl; (case hS => (intro W hC; exact hC)); (case hu => exact Try.underlying106); (case hd => rfl); (case hi => kernel_rfl))
          case hC => exact HC
          case ha => (simp only [Act.put, List.setIfInBounds_toArray, List.set_cons_zero, List.set_cons_succ]; rfl)
          apply WZ.take (i := 10) (some 80) rfl rfl (by kernel_rfl) (by kernel_rfl) (by kernel_rfl) (calm_panic _) (by kernel_rfl)
          case hy => (refine .inl ⟨by kernel_rfl, fun W hC => ?_⟩; (try dsimp only at hC); go_simp; (try simp only [hne]); rfl)
          case hC => exact HC
          case ha => (simp only [Act.put, List.setIfInBounds_toArray, List.set_cons_zero, List.set_cons_succ]; rfl)
          refine WZ.done (by kernel_rfl) ?_ _
          simp only [Calm, Exit.then]
          go_wp2
          exact ⟨⟨k + 1, by omega, by first | rfl | go_num, HP⟩, by simp [intOf]; omega⟩
        · have e1 : decide ((k : Int) < (NK : Int)) = false := decide_eq_false (by omega)
          go_wp2
          go_ret
          exact ⟨rfl, HP.out.bl⟩
end Go.Proofs.Ytiiogdgnccgehaa
