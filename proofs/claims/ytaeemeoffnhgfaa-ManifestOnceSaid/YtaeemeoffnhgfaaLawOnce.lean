/-
  The walk of the law ManifestOnce.
-/
import Derived.Test.YtaeemeoffnhgfaaEditsKit
import Derived.Test.YtaeemeoffnhgfaaRegion
namespace Go.Proofs.Ytaeemeoffnhgfaa
open Go.RowKit
attribute [local go_sem ↓] Go.wp_at_zero Go.wp_at_succ


set_option maxRecDepth 10000 in
set_option maxHeartbeats 4000000 in
theorem once_wide (A : Option Addr) (cap N : Nat) (row : ByteArray) (w : World) (h : 10 < N ∨ 100 < row.size) :
    Calls Try.prog 6 #[.slice A N cap, .string row] w fun e w' => e = .returned (.bool true) ∧ Below w.heap.size w w' := by
  by_cases h1 : 10 < N
  · have e1 : decide ((10 : Int) < (N : Int)) = true := decide_eq_true (by omega)
    go_enter Try.func6, Try.ntmps6
    go_wp2_with (go_at_call 11; refine (shown_any _).mono ?_; rintro e w2 ⟨rfl, hb2⟩)
    go_ret
    exact ⟨rfl, hb2⟩
  · have e1 : decide ((10 : Int) < (N : Int)) = false := decide_eq_false (by omega)
    have e2 : decide ((100 : Int) < (row.size : Int)) = true := decide_eq_true (by omega)
    go_enter Try.func6, Try.ntmps6
    go_wp2_with (go_at_call 11; refine (shown_any _).mono ?_; rintro e w2 ⟨rfl, hb2⟩)
    go_ret
    exact ⟨rfl, hb2⟩
set_option maxRecDepth 10000 in
set_option maxHeartbeats 8000000 in
theorem once_any (A0 : Option Addr) (cap N : Nat) (L : List Ed) (row : ByteArray) (w : World) (hl : Rd w w.heap.size A0 (eds L)) (he : ∀ e ∈ L, e.In w) (hN : L.length = N) (h10 : N ≤ 10) (h100 : row.size ≤ 100) :
    Calls Try.prog 6 #[.slice A0 N cap, .string row] w fun e w' => e = .returned (.bool true) ∧ Below w.heap.size w w' := by
  have HL := Lib.hid hl
  have HE := Lib.hid he
  have HN := Lib.hid hN
  have e1 : decide ((10 : Int) < (N : Int)) = false := decide_eq_false (by omega)
  have e2 : decide ((100 : Int) < (row.size : Int)) = false := decide_eq_false (by omega)
  clear hl he hN
  go_enter Try.func6, Try.ntmps6
  go_wp2_with (go_at_call 11; refine (shown_any _).mono ?_; rintro e w2 ⟨rfl, hb2⟩; have HB2 := Lib.hid hb2; clear hb2)
  clear e1 e2
  go_loopw [6] (fun vi wr => ∃ i : Nat, vi = .int .i64 (i : Int) ∧ i ≤ N ∧ Hid (Run w wr w2.heap.size i)) (fun vi _ => N - (intOf vi).toNat)
  case atStart => exact ⟨0, rfl, Nat.zero_le _, Lib.hid (Run.start HB2.out)⟩
  case round =>
    obtain ⟨i, rfl, hi, HRUN⟩ := hrel
    rename World => wr
    by_cases hlt : i < N
    · have e1 : decide ((i : Int) < (N : Int)) = true := decide_eq_true (by omega)
      have k1 : (0 : Int) ≤ (i : Int) := by omega
      have k2 : (i : Int) < (N : Int) := by omega
      have hil : i < L.length := by rw [HN.out]; exact hlt
      obtain ⟨hgw, hbw, S, A, c, nx, fl, hs, hr, hsl, hgood⟩ := HRUN.out
      obtain ⟨b, o, rfl, hbl, hre⟩ := ed_elem (HL.out.below hbw) hil
      have hein := (HE.out _ (List.getElem_mem hil)).below hbw
      obtain ⟨e, he⟩ : ∃ e, L[i] = e := ⟨_, rfl⟩
      rw [he] at hre hein
      unfold Ed.vals at hre
      obtain ⟨NS, hNS⟩ : ∃ n, S.length = n := ⟨_, rfl⟩
      obtain ⟨NA, hNA⟩ : ∃ n, e.add.length = n := ⟨_, rfl⟩
      obtain ⟨ND, hND⟩ : ∃ n, e.del.length = n := ⟨_, rfl⟩
      rw [hNA, hND] at hre
      rw [hNS] at hs hsl
      have hsmall := small_any e.A e.D e.c e.d NA ND e.add e.del e.nx e.fl wr hein.1 hein.2.1 hNA hND (hNA ▸ hein.2.2.1) (hND ▸ hein.2.2.2)
      have HSM := Lib.hid hsmall
      have HRE := Lib.hid hre
      have HIN := Lib.hid hein
      have HS := Lib.hid hs
      have HRS0 := Lib.hid hr
      have HGW := Lib.hid hgw
      have HBWr := Lib.hid hbw
      have HGOODS := Lib.hid hgood
      have HNS := Lib.hid hNS
      have HNA := Lib.hid hNA
      have HND := Lib.hid hND
      have hbs := Nat.lt_of_lt_of_le hbl hbw.size
      clear hsmall hre hein hs hr hgw hbw hgood he HRUN hNS hNA hND
      cases hsm : smallE e.add e.del with
      | false =>
        go_wp2_with (first
          | (show wpList _ _ _ ({ dst := some 34, op := Op.load _ _, type := _, pos := _, after := _, guard := _ } :: _) _ _; refine wpList_load_mid rfl 36 (.tmp 33) rfl b (o + i * 4) rfl [.slice e.A NA e.c, .slice e.D ND e.d, .int .u64 e.nx, .int .u64 e.fl] _ HRE.out Try.underlying36 rfl (by kernel_rfl) ?_)
          | (go_at_call 15; refine HSM.out.mono ?_; rintro e' w4 ⟨rfl, hb4⟩; rw [hsm])
          | (go_at_call 11; refine (shown_any _).mono ?_; rintro e' w5 ⟨rfl, hb5⟩))
        go_ret
        exact ⟨rfl, (HBWr.out.trans (hb4.mono HBWr.out.size)).trans (hb5.mono (Nat.le_trans HBWr.out.size hb4.size))⟩
      | true =>
        obtain ⟨p1, p2, p3⟩ := smallE_parts hsm
        rw [HNA.out] at p2
        rw [HND.out] at p3
        go_wp2_with (first
          | (show wpList _ _ _ ({ dst := some 34, op := Op.load _ _, type := _, pos := _, after := _, guard := _ } :: _) _ _; refine wpList_load_mid rfl 36 (.tmp 33) rfl b (o + i * 4) rfl [.slice e.A NA e.c, .slice e.D ND e.d, .int .u64 e.nx, .int .u64 e.fl] _ HRE.out Try.underlying36 rfl (by kernel_rfl) ?_)
          | (go_at_call 15; refine HSM.out.mono ?_; rintro e' w4 ⟨rfl, hb4⟩; rw [hsm]))
        have HS4 := Lib.hid (SBox.below HS.out hb4)
        have HRS := Lib.hid ((HRS0.out.below hb4).more hb4.size)
        have HIN4 := Lib.hid (HIN.out.below hb4)
        have HBW := Lib.hid (HBWr.out.trans (hb4.mono HBWr.out.size))
        have hre4 := rangeAt_below HRE.out hb4 hbs
        have hlen : NS ≤ 40 * (i + 1) := by omega
        have HLENS := Lib.hid (show S.length ≤ 40 * (i + 1) by rw [HNS.out]; exact hlen)
        obtain ⟨rm, hrm⟩ : ∃ rm, applyF nx fl e.nx e.fl S e.add e.del = rm := ⟨_, rfl⟩
        obtain ⟨r, m⟩ := rm
        obtain ⟨K, hK⟩ : ∃ K, m.length = K := ⟨_, rfl⟩
        obtain ⟨X, hX⟩ : ∃ X, (if r = 0 then e.nx else 0) = X := ⟨_, rfl⟩
        obtain ⟨Y, hY⟩ : ∃ Y, (if r = 0 then e.fl else 0) = Y := ⟨_, rfl⟩
        have hap := apply_edit (w4 := w4) (cs := c) hrm hK hX hY HRS.out HIN4.out HNS.out HNA.out HND.out (by omega) (by omega) (by omega) HGOODS.out
        have HAP := Lib.hid hap
        have HK := Lib.hid hK
        obtain ⟨CC, hCD⟩ : ∃ CC : World → Prop, ∀ W, CC W ↔ Below w4.heap.size w4 W := ⟨fun W => Below w4.heap.size w4 W, fun W => Iff.rfl⟩
        have hmk : ∀ W, Below w4.heap.size w4 W → W.rangeAt w2.heap.size 0 [.slice A NS c, .int .u64 nx, .int .u64 fl] ∧ W.rangeAt b (o + i * 4) [.slice e.A NA e.c, .slice e.D ND e.d, .int .u64 e.nx, .int .u64 e.fl] ∧ CC W := fun W hb => ⟨(SBox.below HS4.out hb).range, rangeAt_below hre4 hb (Nat.lt_of_lt_of_le hbs hb4.size), (hCD W).2 hb⟩
        have HB := Lib.hid ((Below.refl w4.heap.size w4).drew)
        have HC := hmk _ HB.out
        by_cases hr0 : r = 0
        · subst hr0
          have hgd := HGOODS.out.apply hrm
          have HGOOD := Lib.hid hgd.1
          have HLEN := Lib.hid (show m.length ≤ 40 * (i + 1) by have := hgd.2; rw [HNS.out, HNA.out] at this; omega)
          clear hgd hap hK hX hY hrm HS HRS0 HIN HRE HSM hb4
          refine region_wz (fun W' => W'.rangeAt w2.heap.size 0 [.slice A NS c, .int .u64 nx, .int .u64 fl] ∧ W'.rangeAt b (o + i * 4) [.slice e.A NA e.c, .slice e.D ND e.d, .int .u64 e.nx, .int .u64 e.fl] ∧ CC W') none (by kernel_rfl) ?_
          apply WZ.take (i := 0) (some 39) rfl rfl (by kernel_rfl) (by kernel_rfl) (by kernel_rfl) (calm_panic _) (by kernel_rfl)
          case hy => first | (apply yieldsIf_load_mid (by kernel_rfl) _ _ rfl _ _ rfl; (case hS => (intro W hC; exact hC.1)); (case hu => exact Try.underlying30); (case hd => rfl); (case hi => kernel_rfl)) | (apply yieldsIf_load_mid (by kernel_rfl) _ _ rfl _ _ rfl; (case hS => (intro W hC; exact hC.2.1)); (case hu => exact Try.underlying30); (case hd => rfl); (case hi => kernel_rfl)) | (apply yieldsIf_load_mid (by kernel_rfl) _ _ rfl _ _ rfl; (case hS => (intro W hC; exact hC.2.2.1)); (case hu => exact Try.underlying30); (case hd => rfl); (case hi => kernel_rfl)) | (apply yieldsIf_load_mid (by kernel_rfl) _ _ rfl _ _ rfl; (case hS => (intro W hC; exact hC.2.2.2.1)); (case hu => exact Try.underlying30); (case hd => rfl); (case hi => kernel_rfl)) | (apply yieldsIf_load_mid (by kernel_rfl) _ _ rfl _ _ rfl; (case hS => (intro W hC; exact hC.2.2.2)); (case hu => exact Try.underlying30); (case hd => rfl); (case hi => kernel_rfl)) | (apply yieldsIf_load_mid (by kernel_rfl) _ _ rfl _ _ rfl; (case hS => (intro W hC; exact hC.2.2)); (case hu => exact Try.underlying30); (case hd => rfl); (case hi => kernel_rfl)) | (apply yieldsIf_load_mid (by kernel_rfl) _ _ rfl _ _ rfl; (case hS => (intro W hC; exact hC.2)); (case hu => exact Try.underlying30); (case hd => rfl); (case hi => kernel_rfl)) | (apply yieldsIf_load_mid (by kernel_rfl) _ _ rfl _ _ rfl; (case hS => (intro W hC; exact hC)); (case hu => exact Try.underlying30); (case hd => rfl); (case hi => kernel_rfl))
          case hC => exact HC
          case ha => (simp only [Act.put, List.setIfInBounds_toArray, List.set_cons_zero, List.set_cons_succ]; rfl)
          apply WZ.take (i := 1) (some 40) rfl rfl (by kernel_rfl) (by kernel_rfl) (by kernel_rfl) (calm_panic _) (by kernel_rfl)
          case hy => (refine .inl ⟨by kernel_rfl, fun W hC => ?_⟩; (try dsimp only at hC); go_simp; rfl)
          case hC => exact HC
          case ha => (simp only [Act.put, List.setIfInBounds_toArray, List.set_cons_zero, List.set_cons_succ]; rfl)
          apply WZ.take (i := 2) (some 41) rfl rfl (by kernel_rfl) (by kernel_rfl) (by kernel_rfl) (calm_panic _) (by kernel_rfl)
          case hy => (refine .inl ⟨by kernel_rfl, fun W hC => ?_⟩; (try dsimp only at hC); go_simp; rfl)
          case hC => exact HC
          case ha => (simp only [Act.put, List.setIfInBounds_toArray, List.set_cons_zero, List.set_cons_succ]; rfl)
          apply WZ.take (i := 3) (some 42) rfl rfl (by kernel_rfl) (by kernel_rfl) (by kernel_rfl) (calm_panic _) (by kernel_rfl)
          case hy => (refine .inl ⟨by kernel_rfl, fun W hC => ?_⟩; (try dsimp only at hC); go_simp; rfl)
          case hC => exact HC
          case ha => (simp only [Act.put, List.setIfInBounds_toArray, List.set_cons_zero, List.set_cons_succ]; rfl)
          apply WZ.take (i := 4) (some 43) rfl rfl (by kernel_rfl) (by kernel_rfl) (by kernel_rfl) (calm_panic _) (by kernel_rfl)
          case hy => first | (apply yieldsIf_load_mid (by kernel_rfl) _ _ rfl _ _ rfl; (case hS => (intro W hC; exact hC.1)); (case hu => exact Try.underlying36); (case hd => rfl); (case hi => kernel_rfl)) | (apply yieldsIf_load_mid (by kernel_rfl) _ _ rfl _ _ rfl; (case hS => (intro W hC; exact hC.2.1)); (case hu => exact Try.underlying36); (case hd => rfl); (case hi => kernel_rfl)) | (apply yieldsIf_load_mid (by kernel_rfl) _ _ rfl _ _ rfl; (case hS => (intro W hC; exact hC.2.2.1)); (case hu => exact Try.underlying36); (case hd => rfl); (case hi => kernel_rfl)) | (apply yieldsIf_load_mid (by kernel_rfl) _ _ rfl _ _ rfl; (case hS => (intro W hC; exact hC.2.2.2.1)); (case hu => exact Try.underlying36); (case hd => rfl); (case hi => kernel_rfl)) | (apply yieldsIf_load_mid (by kernel_rfl) _ _ rfl _ _ rfl; (case hS => (intro W hC; exact hC.2.2.2)); (case hu => exact Try.underlying36); (case hd => rfl); (case hi => kernel_rfl)) | (apply yieldsIf_load_mid (by kernel_rfl) _ _ rfl _ _ rfl; (case hS => (intro W hC; exact hC.2.2)); (case hu => exact Try.underlying36); (case hd => rfl); (case hi => kernel_rfl)) | (apply yieldsIf_load_mid (by kernel_rfl) _ _ rfl _ _ rfl; (case hS => (intro W hC; exact hC.2)); (case hu => exact Try.underlying36); (case hd => rfl); (case hi => kernel_rfl)) | (apply yieldsIf_load_mid (by kernel_rfl) _ _ rfl _ _ rfl; (case hS => (intro W hC; exact hC)); (case hu => exact Try.underlying36); (case hd => rfl); (case hi => kernel_rfl))
          case hC => exact HC
          case ha => (simp only [Act.put, List.setIfInBounds_toArray, List.set_cons_zero, List.set_cons_succ]; rfl)
          refine WZ.two (i := 5) (j := 9) rfl rfl (by kernel_rfl) ?_ ?_
          · conv => arg 4; arg 1; whnf
            go_wp2_with (go_at_call 12; refine (HAP.out _ HB.out).mono ?_; rintro e' w6 ⟨A6, c6, rfl, hr6, hb6⟩; have HR6 := Lib.hid hr6)
            try (have HT2 := Lib.hid (SBox.below HT.out hb6); clear HT; have HT := HT2; clear HT2)
            have HB2 := Lib.hid (HB.out.trans (hb6.mono HB.out.size))
            clear HB HC hb6 hr6
            have HB := HB2
            clear HB2
            have HC := hmk _ HB.out
            refine ⟨HC, ?_⟩
            apply WZ.take (i := 6) (some 38) rfl rfl (by kernel_rfl) (by kernel_rfl) (by kernel_rfl) (calm_panic _) (by kernel_rfl)
            case hy => (refine .inl ⟨by kernel_rfl, fun W hC => ?_⟩; (try dsimp only at hC); go_simp; rfl)
            case hC => exact HC
            case ha => (simp only [Act.put, List.setIfInBounds_toArray, List.set_cons_zero, List.set_cons_succ]; rfl)
            apply WZ.take (i := 7) (some 45) rfl rfl (by kernel_rfl) (by kernel_rfl) (by kernel_rfl) (calm_panic _) (by kernel_rfl)
            case hy => (refine .inl ⟨by kernel_rfl, fun W hC => ?_⟩; (try dsimp only at hC); go_simp; rfl)
            case hC => exact HC
            case ha => (simp only [Act.put, List.setIfInBounds_toArray, List.set_cons_zero, List.set_cons_succ]; rfl)
            apply WZ.take (i := 8) (some 46) rfl rfl (by kernel_rfl) (by kernel_rfl) (by kernel_rfl) (calm_panic _) (by kernel_rfl)
            case hy => (refine .inl ⟨by kernel_rfl, fun W hC => ?_⟩; (try dsimp only at hC); go_simp; rfl)
            case hC => exact HC
            case ha => (simp only [Act.put, List.setIfInBounds_toArray, List.set_cons_zero, List.set_cons_succ]; rfl)
            -- 9
            refine WZ.one (i := 9) rfl (by kernel_rfl) ?_
            conv => arg 4; arg 1; whnf
            go_wp2_with fail
            have hMS := made_state HB.out HB.out.size
            try (have HR62 := Lib.hid (HR6.out.allocS (.cells #[.slice none 0 0, .int .u64 0, .int .u64 0] 30)); clear HR6; have HR6 := HR62; clear HR62)
            first
              | have HT := Lib.hid (show SBox (w4.drew.alloc (.cells #[.slice none 0 0, .int .u64 0, .int .u64 0] 30)) w4.heap.size none 0 0 0 0 from hMS.1)
              | have HT := Lib.hid hMS.1
            have HGE := Lib.hid hMS.2.2
            have HB2 := Lib.hid hMS.2.1
            clear HB HC hMS
            have HB := HB2
            clear HB2
            have HC := hmk _ HB.out
            refine ⟨HC, ?_⟩
            -- 10
            refine WZ.one (i := 10) rfl (by kernel_rfl) ?_
            conv => arg 4; arg 1; whnf
            go_wp2_with (refine wpList_store_mid rfl 30 (.tmp 7) (.tmp 45) rfl _ 0 (stC A6 K c6 X Y) rfl rfl HT.out.there (by kernel_rfl) (stC_one _ _ _ _ _) ?_; refine HT.out.setW A6 K c6 X Y HR6.out ?_; intro w9 HT9 HG9 HR9)
            have HB2 := Lib.hid (below_grown HB.out HB.out.size HG9.out HGE.out)
            clear HB HC HT HG9 HGE HR6
            have HB := HB2
            clear HB2
            have HC := hmk _ HB.out
            refine ⟨HC, ?_⟩
            apply WZ.take (i := 11) (some 8) rfl rfl (by kernel_rfl) (by kernel_rfl) (by kernel_rfl) (calm_panic _) (by kernel_rfl)
            case hy => (refine .inl ⟨by kernel_rfl, fun W hC => ?_⟩; (try dsimp only at hC); go_simp; rfl)
            case hC => exact HC
            case ha => (simp only [Act.put, List.setIfInBounds_toArray, List.set_cons_zero, List.set_cons_succ]; rfl)
            refine WZ.done (by kernel_rfl) ?_ _
            simp only [Calm, Exit.then]
            have HS9 := Lib.hid (SBox.below HS4.out HB.out)
            obtain ⟨f0, f1, f2⟩ := HT9.out.cells
            clear HC hmk hCD
            go_wp2_with (show wpList _ _ _ ({ dst := none, op := Op.store _ (Operand.tmp 5) _, type := _, pos := _, after := _, guard := _ } :: _) _ _; refine wpList_store_mid rfl 30 (.tmp 5) (.tmp 49) rfl w2.heap.size 0 (stC A6 K c6 X Y) rfl rfl HS9.out.there (by kernel_rfl) (stC_one _ _ _ _ _) ?_; refine HS9.out.setW A6 K c6 X Y HR9.out ?_; intro wF HSF HGF HRF)
            exact ⟨⟨i + 1, by first | rfl | go_num, by omega, Lib.hid (Run.next HGW.out (below_grown (HBW.out.trans (HB.out.mono HBW.out.size)) (Nat.le_trans HBW.out.size HB.out.size) HGF.out HGW.out) HK.out HSF.out HRF.out HLEN.out HGOOD.out)⟩, by simp [intOf]; omega⟩
          · conv => arg 4; arg 1; whnf
            go_wp2_with fail
            have hMS := made_state HB.out HB.out.size
            try (have HR62 := Lib.hid (HR6.out.allocS (.cells #[.slice none 0 0, .int .u64 0, .int .u64 0] 30)); clear HR6; have HR6 := HR62; clear HR62)
            first
              | have HT := Lib.hid (show SBox (w4.drew.alloc (.cells #[.slice none 0 0, .int .u64 0, .int .u64 0] 30)) w4.heap.size none 0 0 0 0 from hMS.1)
              | have HT := Lib.hid hMS.1
            have HGE := Lib.hid hMS.2.2
            have HB2 := Lib.hid hMS.2.1
            clear HB HC hMS
            have HB := HB2
            clear HB2
            have HC := hmk _ HB.out
            refine ⟨HC, ?_⟩
            -- 5
            refine WZ.one (i := 5) rfl (by kernel_rfl) ?_
            conv => arg 4; arg 1; whnf
            go_wp2_with (go_at_call 12; refine (HAP.out _ HB.out).mono ?_; rintro e' w6 ⟨A6, c6, rfl, hr6, hb6⟩; have HR6 := Lib.hid hr6)
            try (have HT2 := Lib.hid (SBox.below HT.out hb6); clear HT; have HT := HT2; clear HT2)
            have HB2 := Lib.hid (HB.out.trans (hb6.mono HB.out.size))
            clear HB HC hb6 hr6
            have HB := HB2
            clear HB2
            have HC := hmk _ HB.out
            refine ⟨HC, ?_⟩
            apply WZ.take (i := 6) (some 38) rfl rfl (by kernel_rfl) (by kernel_rfl) (by kernel_rfl) (calm_panic _) (by kernel_rfl)
            case hy => (refine .inl ⟨by kernel_rfl, fun W hC => ?_⟩; (try dsimp only at hC); go_simp; rfl)
            case hC => exact HC
            case ha => (simp only [Act.put, List.setIfInBounds_toArray, List.set_cons_zero, List.set_cons_succ]; rfl)
            apply WZ.take (i := 7) (some 45) rfl rfl (by kernel_rfl) (by kernel_rfl) (by kernel_rfl) (calm_panic _) (by kernel_rfl)
            case hy => (refine .inl ⟨by kernel_rfl, fun W hC => ?_⟩; (try dsimp only at hC); go_simp; rfl)
            case hC => exact HC
            case ha => (simp only [Act.put, List.setIfInBounds_toArray, List.set_cons_zero, List.set_cons_succ]; rfl)
            apply WZ.take (i := 8) (some 46) rfl rfl (by kernel_rfl) (by kernel_rfl) (by kernel_rfl) (calm_panic _) (by kernel_rfl)
            case hy => (refine .inl ⟨by kernel_rfl, fun W hC => ?_⟩; (try dsimp only at hC); go_simp; rfl)
            case hC => exact HC
            case ha => (simp only [Act.put, List.setIfInBounds_toArray, List.set_cons_zero, List.set_cons_succ]; rfl)
            -- 10
            refine WZ.one (i := 10) rfl (by kernel_rfl) ?_
            conv => arg 4; arg 1; whnf
            go_wp2_with (refine wpList_store_mid rfl 30 (.tmp 7) (.tmp 45) rfl _ 0 (stC A6 K c6 X Y) rfl rfl HT.out.there (by kernel_rfl) (stC_one _ _ _ _ _) ?_; refine HT.out.setW A6 K c6 X Y HR6.out ?_; intro w9 HT9 HG9 HR9)
            have HB2 := Lib.hid (below_grown HB.out HB.out.size HG9.out HGE.out)
            clear HB HC HT HG9 HGE HR6
            have HB := HB2
            clear HB2
            have HC := hmk _ HB.out
            refine ⟨HC, ?_⟩
            apply WZ.take (i := 11) (some 8) rfl rfl (by kernel_rfl) (by kernel_rfl) (by kernel_rfl) (calm_panic _) (by kernel_rfl)
            case hy => (refine .inl ⟨by kernel_rfl, fun W hC => ?_⟩; (try dsimp only at hC); go_simp; rfl)
            case hC => exact HC
            case ha => (simp only [Act.put, List.setIfInBounds_toArray, List.set_cons_zero, List.set_cons_succ]; rfl)
            refine WZ.done (by kernel_rfl) ?_ _
            simp only [Calm, Exit.then]
            have HS9 := Lib.hid (SBox.below HS4.out HB.out)
            obtain ⟨f0, f1, f2⟩ := HT9.out.cells
            clear HC hmk hCD
            go_wp2_with (show wpList _ _ _ ({ dst := none, op := Op.store _ (Operand.tmp 5) _, type := _, pos := _, after := _, guard := _ } :: _) _ _; refine wpList_store_mid rfl 30 (.tmp 5) (.tmp 49) rfl w2.heap.size 0 (stC A6 K c6 X Y) rfl rfl HS9.out.there (by kernel_rfl) (stC_one _ _ _ _ _) ?_; refine HS9.out.setW A6 K c6 X Y HR9.out ?_; intro wF HSF HGF HRF)
            exact ⟨⟨i + 1, by first | rfl | go_num, by omega, Lib.hid (Run.next HGW.out (below_grown (HBW.out.trans (HB.out.mono HBW.out.size)) (Nat.le_trans HBW.out.size HB.out.size) HGF.out HGW.out) HK.out HSF.out HRF.out HLEN.out HGOOD.out)⟩, by simp [intOf]; omega⟩
        · have e4 : (r == 0) = false := by simpa using hr0
          clear hap hK hX hY hrm HS HRS0 HIN HRE HSM hb4 hr0
          refine region_wz (fun W' => W'.rangeAt w2.heap.size 0 [.slice A NS c, .int .u64 nx, .int .u64 fl] ∧ W'.rangeAt b (o + i * 4) [.slice e.A NA e.c, .slice e.D ND e.d, .int .u64 e.nx, .int .u64 e.fl] ∧ CC W') none (by kernel_rfl) ?_
          apply WZ.take (i := 0) (some 39) rfl rfl (by kernel_rfl) (by kernel_rfl) (by kernel_rfl) (calm_panic _) (by kernel_rfl)
          case hy => first | (apply yieldsIf_load_mid (by kernel_rfl) _ _ rfl _ _ rfl; (case hS => (intro W hC; exact hC.1)); (case hu => exact Try.underlying30); (case hd => rfl); (case hi => kernel_rfl)) | (apply yieldsIf_load_mid (by kernel_rfl) _ _ rfl _ _ rfl; (case hS => (intro W hC; exact hC.2.1)); (case hu => exact Try.underlying30); (case hd => rfl); (case hi => kernel_rfl)) | (apply yieldsIf_load_mid (by kernel_rfl) _ _ rfl _ _ rfl; (case hS => (intro W hC; exact hC.2.2.1)); (case hu => exact Try.underlying30); (case hd => rfl); (case hi => kernel_rfl)) | (apply yieldsIf_load_mid (by kernel_rfl) _ _ rfl _ _ rfl; (case hS => (intro W hC; exact hC.2.2.2.1)); (case hu => exact Try.underlying30); (case hd => rfl); (case hi => kernel_rfl)) | (apply yieldsIf_load_mid (by kernel_rfl) _ _ rfl _ _ rfl; (case hS => (intro W hC; exact hC.2.2.2)); (case hu => exact Try.underlying30); (case hd => rfl); (case hi => kernel_rfl)) | (apply yieldsIf_load_mid (by kernel_rfl) _ _ rfl _ _ rfl; (case hS => (intro W hC; exact hC.2.2)); (case hu => exact Try.underlying30); (case hd => rfl); (case hi => kernel_rfl)) | (apply yieldsIf_load_mid (by kernel_rfl) _ _ rfl _ _ rfl; (case hS => (intro W hC; exact hC.2)); (case hu => exact Try.underlying30); (case hd => rfl); (case hi => kernel_rfl)) | (apply yieldsIf_load_mid (by kernel_rfl) _ _ rfl _ _ rfl; (case hS => (intro W hC; exact hC)); (case hu => exact Try.underlying30); (case hd => rfl); (case hi => kernel_rfl))
          case hC => exact HC
          case ha => (simp only [Act.put, List.setIfInBounds_toArray, List.set_cons_zero, List.set_cons_succ]; rfl)
          apply WZ.take (i := 1) (some 40) rfl rfl (by kernel_rfl) (by kernel_rfl) (by kernel_rfl) (calm_panic _) (by kernel_rfl)
          case hy => (refine .inl ⟨by kernel_rfl, fun W hC => ?_⟩; (try dsimp only at hC); go_simp; rfl)
          case hC => exact HC
          case ha => (simp only [Act.put, List.setIfInBounds_toArray, List.set_cons_zero, List.set_cons_succ]; rfl)
          apply WZ.take (i := 2) (some 41) rfl rfl (by kernel_rfl) (by kernel_rfl) (by kernel_rfl) (calm_panic _) (by kernel_rfl)
          case hy => (refine .inl ⟨by kernel_rfl, fun W hC => ?_⟩; (try dsimp only at hC); go_simp; rfl)
          case hC => exact HC
          case ha => (simp only [Act.put, List.setIfInBounds_toArray, List.set_cons_zero, List.set_cons_succ]; rfl)
          apply WZ.take (i := 3) (some 42) rfl rfl (by kernel_rfl) (by kernel_rfl) (by kernel_rfl) (calm_panic _) (by kernel_rfl)
          case hy => (refine .inl ⟨by kernel_rfl, fun W hC => ?_⟩; (try dsimp only at hC); go_simp; rfl)
          case hC => exact HC
          case ha => (simp only [Act.put, List.setIfInBounds_toArray, List.set_cons_zero, List.set_cons_succ]; rfl)
          apply WZ.take (i := 4) (some 43) rfl rfl (by kernel_rfl) (by kernel_rfl) (by kernel_rfl) (calm_panic _) (by kernel_rfl)
          case hy => first | (apply yieldsIf_load_mid (by kernel_rfl) _ _ rfl _ _ rfl; (case hS => (intro W hC; exact hC.1)); (case hu => exact Try.underlying36); (case hd => rfl); (case hi => kernel_rfl)) | (apply yieldsIf_load_mid (by kernel_rfl) _ _ rfl _ _ rfl; (case hS => (intro W hC; exact hC.2.1)); (case hu => exact Try.underlying36); (case hd => rfl); (case hi => kernel_rfl)) | (apply yieldsIf_load_mid (by kernel_rfl) _ _ rfl _ _ rfl; (case hS => (intro W hC; exact hC.2.2.1)); (case hu => exact Try.underlying36); (case hd => rfl); (case hi => kernel_rfl)) | (apply yieldsIf_load_mid (by kernel_rfl) _ _ rfl _ _ rfl; (case hS => (intro W hC; exact hC.2.2.2.1)); (case hu => exact Try.underlying36); (case hd => rfl); (case hi => kernel_rfl)) | (apply yieldsIf_load_mid (by kernel_rfl) _ _ rfl _ _ rfl; (case hS => (intro W hC; exact hC.2.2.2)); (case hu => exact Try.underlying36); (case hd => rfl); (case hi => kernel_rfl)) | (apply yieldsIf_load_mid (by kernel_rfl) _ _ rfl _ _ rfl; (case hS => (intro W hC; exact hC.2.2)); (case hu => exact Try.underlying36); (case hd => rfl); (case hi => kernel_rfl)) | (apply yieldsIf_load_mid (by kernel_rfl) _ _ rfl _ _ rfl; (case hS => (intro W hC; exact hC.2)); (case hu => exact Try.underlying36); (case hd => rfl); (case hi => kernel_rfl)) | (apply yieldsIf_load_mid (by kernel_rfl) _ _ rfl _ _ rfl; (case hS => (intro W hC; exact hC)); (case hu => exact Try.underlying36); (case hd => rfl); (case hi => kernel_rfl))
          case hC => exact HC
          case ha => (simp only [Act.put, List.setIfInBounds_toArray, List.set_cons_zero, List.set_cons_succ]; rfl)
          refine WZ.two (i := 5) (j := 9) rfl rfl (by kernel_rfl) ?_ ?_
          · conv => arg 4; arg 1; whnf
            go_wp2_with (go_at_call 12; refine (HAP.out _ HB.out).mono ?_; rintro e' w6 ⟨A6, c6, rfl, hr6, hb6⟩; have HR6 := Lib.hid hr6)
            try (have HT2 := Lib.hid (SBox.below HT.out hb6); clear HT; have HT := HT2; clear HT2)
            have HB2 := Lib.hid (HB.out.trans (hb6.mono HB.out.size))
            clear HB HC hb6 hr6
            have HB := HB2
            clear HB2
            have HC := hmk _ HB.out
            refine ⟨HC, ?_⟩
            apply WZ.take (i := 6) (some 38) rfl rfl (by kernel_rfl) (by kernel_rfl) (by kernel_rfl) (calm_panic _) (by kernel_rfl)
            case hy => (refine .inl ⟨by kernel_rfl, fun W hC => ?_⟩; (try dsimp only at hC); go_simp; rfl)
            case hC => exact HC
            case ha => (simp only [Act.put, List.setIfInBounds_toArray, List.set_cons_zero, List.set_cons_succ]; rfl)
            apply WZ.take (i := 7) (some 45) rfl rfl (by kernel_rfl) (by kernel_rfl) (by kernel_rfl) (calm_panic _) (by kernel_rfl)
            case hy => (refine .inl ⟨by kernel_rfl, fun W hC => ?_⟩; (try dsimp only at hC); go_simp; rfl)
            case hC => exact HC
            case ha => (simp only [Act.put, List.setIfInBounds_toArray, List.set_cons_zero, List.set_cons_succ]; rfl)
            apply WZ.take (i := 8) (some 46) rfl rfl (by kernel_rfl) (by kernel_rfl) (by kernel_rfl) (calm_panic _) (by kernel_rfl)
            case hy => (refine .inl ⟨by kernel_rfl, fun W hC => ?_⟩; (try dsimp only at hC); go_simp; rfl)
            case hC => exact HC
            case ha => (simp only [Act.put, List.setIfInBounds_toArray, List.set_cons_zero, List.set_cons_succ]; rfl)
            -- 9
            refine WZ.one (i := 9) rfl (by kernel_rfl) ?_
            conv => arg 4; arg 1; whnf
            go_wp2_with fail
            have hMS := made_state HB.out HB.out.size
            try (have HR62 := Lib.hid (HR6.out.allocS (.cells #[.slice none 0 0, .int .u64 0, .int .u64 0] 30)); clear HR6; have HR6 := HR62; clear HR62)
            first
              | have HT := Lib.hid (show SBox (w4.drew.alloc (.cells #[.slice none 0 0, .int .u64 0, .int .u64 0] 30)) w4.heap.size none 0 0 0 0 from hMS.1)
              | have HT := Lib.hid hMS.1
            have HGE := Lib.hid hMS.2.2
            have HB2 := Lib.hid hMS.2.1
            clear HB HC hMS
            have HB := HB2
            clear HB2
            have HC := hmk _ HB.out
            refine ⟨HC, ?_⟩
            -- 10
            refine WZ.one (i := 10) rfl (by kernel_rfl) ?_
            conv => arg 4; arg 1; whnf
            go_wp2_with (refine wpList_store_mid rfl 30 (.tmp 7) (.tmp 45) rfl _ 0 (stC A6 K c6 X Y) rfl rfl HT.out.there (by kernel_rfl) (stC_one _ _ _ _ _) ?_; refine HT.out.setW A6 K c6 X Y HR6.out ?_; intro w9 HT9 HG9 HR9)
            have HB2 := Lib.hid (below_grown HB.out HB.out.size HG9.out HGE.out)
            clear HB HC HT HG9 HGE HR6
            have HB := HB2
            clear HB2
            have HC := hmk _ HB.out
            refine ⟨HC, ?_⟩
            apply WZ.take (i := 11) (some 8) rfl rfl (by kernel_rfl) (by kernel_rfl) (by kernel_rfl) (calm_panic _) (by kernel_rfl)
            case hy => (refine .inl ⟨by kernel_rfl, fun W hC => ?_⟩; (try dsimp only at hC); go_simp; rfl)
            case hC => exact HC
            case ha => (simp only [Act.put, List.setIfInBounds_toArray, List.set_cons_zero, List.set_cons_succ]; rfl)
            refine WZ.done (by kernel_rfl) ?_ _
            simp only [Calm, Exit.then]
            have HS9 := Lib.hid (SBox.below HS4.out HB.out)
            obtain ⟨f0, f1, f2⟩ := HT9.out.cells
            clear HC hmk hCD
            go_wp2
            exact ⟨⟨i + 1, by first | rfl | go_num, by omega, Lib.hid (Run.next HGW.out (HBW.out.trans (HB.out.mono HBW.out.size)) HNS.out HS9.out ((HRS.out.below HB.out).more HB.out.size) HLENS.out HGOODS.out)⟩, by simp [intOf]; omega⟩
          · conv => arg 4; arg 1; whnf
            go_wp2_with fail
            have hMS := made_state HB.out HB.out.size
            try (have HR62 := Lib.hid (HR6.out.allocS (.cells #[.slice none 0 0, .int .u64 0, .int .u64 0] 30)); clear HR6; have HR6 := HR62; clear HR62)
            first
              | have HT := Lib.hid (show SBox (w4.drew.alloc (.cells #[.slice none 0 0, .int .u64 0, .int .u64 0] 30)) w4.heap.size none 0 0 0 0 from hMS.1)
              | have HT := Lib.hid hMS.1
            have HGE := Lib.hid hMS.2.2
            have HB2 := Lib.hid hMS.2.1
            clear HB HC hMS
            have HB := HB2
            clear HB2
            have HC := hmk _ HB.out
            refine ⟨HC, ?_⟩
            -- 5
            refine WZ.one (i := 5) rfl (by kernel_rfl) ?_
            conv => arg 4; arg 1; whnf
            go_wp2_with (go_at_call 12; refine (HAP.out _ HB.out).mono ?_; rintro e' w6 ⟨A6, c6, rfl, hr6, hb6⟩; have HR6 := Lib.hid hr6)
            try (have HT2 := Lib.hid (SBox.below HT.out hb6); clear HT; have HT := HT2; clear HT2)
            have HB2 := Lib.hid (HB.out.trans (hb6.mono HB.out.size))
            clear HB HC hb6 hr6
            have HB := HB2
            clear HB2
            have HC := hmk _ HB.out
            refine ⟨HC, ?_⟩
            apply WZ.take (i := 6) (some 38) rfl rfl (by kernel_rfl) (by kernel_rfl) (by kernel_rfl) (calm_panic _) (by kernel_rfl)
            case hy => (refine .inl ⟨by kernel_rfl, fun W hC => ?_⟩; (try dsimp only at hC); go_simp; rfl)
            case hC => exact HC
            case ha => (simp only [Act.put, List.setIfInBounds_toArray, List.set_cons_zero, List.set_cons_succ]; rfl)
            apply WZ.take (i := 7) (some 45) rfl rfl (by kernel_rfl) (by kernel_rfl) (by kernel_rfl) (calm_panic _) (by kernel_rfl)
            case hy => (refine .inl ⟨by kernel_rfl, fun W hC => ?_⟩; (try dsimp only at hC); go_simp; rfl)
            case hC => exact HC
            case ha => (simp only [Act.put, List.setIfInBounds_toArray, List.set_cons_zero, List.set_cons_succ]; rfl)
            apply WZ.take (i := 8) (some 46) rfl rfl (by kernel_rfl) (by kernel_rfl) (by kernel_rfl) (calm_panic _) (by kernel_rfl)
            case hy => (refine .inl ⟨by kernel_rfl, fun W hC => ?_⟩; (try dsimp only at hC); go_simp; rfl)
            case hC => exact HC
            case ha => (simp only [Act.put, List.setIfInBounds_toArray, List.set_cons_zero, List.set_cons_succ]; rfl)
            -- 10
            refine WZ.one (i := 10) rfl (by kernel_rfl) ?_
            conv => arg 4; arg 1; whnf
            go_wp2_with (refine wpList_store_mid rfl 30 (.tmp 7) (.tmp 45) rfl _ 0 (stC A6 K c6 X Y) rfl rfl HT.out.there (by kernel_rfl) (stC_one _ _ _ _ _) ?_; refine HT.out.setW A6 K c6 X Y HR6.out ?_; intro w9 HT9 HG9 HR9)
            have HB2 := Lib.hid (below_grown HB.out HB.out.size HG9.out HGE.out)
            clear HB HC HT HG9 HGE HR6
            have HB := HB2
            clear HB2
            have HC := hmk _ HB.out
            refine ⟨HC, ?_⟩
            apply WZ.take (i := 11) (some 8) rfl rfl (by kernel_rfl) (by kernel_rfl) (by kernel_rfl) (calm_panic _) (by kernel_rfl)
            case hy => (refine .inl ⟨by kernel_rfl, fun W hC => ?_⟩; (try dsimp only at hC); go_simp; rfl)
            case hC => exact HC
            case ha => (simp only [Act.put, List.setIfInBounds_toArray, List.set_cons_zero, List.set_cons_succ]; rfl)
            refine WZ.done (by kernel_rfl) ?_ _
            simp only [Calm, Exit.then]
            have HS9 := Lib.hid (SBox.below HS4.out HB.out)
            obtain ⟨f0, f1, f2⟩ := HT9.out.cells
            clear HC hmk hCD
            go_wp2
            exact ⟨⟨i + 1, by first | rfl | go_num, by omega, Lib.hid (Run.next HGW.out (HBW.out.trans (HB.out.mono HBW.out.size)) HNS.out HS9.out ((HRS.out.below HB.out).more HB.out.size) HLENS.out HGOODS.out)⟩, by simp [intOf]; omega⟩
    · have e1 : decide ((i : Int) < (N : Int)) = false := decide_eq_false (by omega)
      obtain ⟨hgw, hbw, S, A, c, nx, fl, hs, hr, hsl, hgood⟩ := HRUN.out
      obtain ⟨NS, hNS⟩ : ∃ n, S.length = n := ⟨_, rfl⟩
      rw [hNS] at hs hsl
      have HS := Lib.hid hs
      have HRS := Lib.hid hr
      have HBW := Lib.hid hbw
      have HGOOD := Lib.hid hgood
      have HNS := Lib.hid hNS
      obtain ⟨s0, s1, s2⟩ := hs.cells
      clear hgw hbw hs hr hgood hNS HRUN
      go_wp2
      clear s0 s1 s2 e1
      go_loopw [9] (fun vp wp => ∃ p : Nat, vp = .int .i64 (p : Int) ∧ p ≤ NS ∧ Hid (Below wr.heap.size wr wp)) (fun vp _ => NS - (intOf vp).toNat)
      case atStart => exact ⟨0, rfl, Nat.zero_le _, Lib.hid (Below.refl _ _)⟩
      case round =>
        obtain ⟨p, rfl, hp, HP⟩ := hrel
        rename World => wp
        obtain ⟨s0, s1, s2⟩ := (SBox.below HS.out HP.out).cells
        by_cases hpt : p < NS
        · have e2 : decide ((p : Int) < (NS : Int)) = true := decide_eq_true (by omega)
          go_wp2
          clear s0 s1 s2 e2
          go_loopw [10] (fun vq wq => ∃ q : Nat, vq = .int .i64 (q : Int) ∧ q ≤ p ∧ Hid (Below wr.heap.size wr wq)) (fun vq _ => p - (intOf vq).toNat)
          case atStart => exact ⟨0, rfl, Nat.zero_le _, HP⟩
          case round =>
            obtain ⟨q, rfl, hq, HQ⟩ := hrel
            rename World => wq
            by_cases hqt : q < p
            · have e3 : decide ((q : Int) < (p : Int)) = true := decide_eq_true (by omega)
              have k1 : (0 : Int) ≤ (p : Int) := by omega
              have k2 : (p : Int) < (NS : Int) := by omega
              have k3 : (0 : Int) ≤ (q : Int) := by omega
              have k4 : (q : Int) < (NS : Int) := by omega
              have hpS : p < S.length := by rw [HNS.out]; exact hpt
              have hqS : q < S.length := by rw [HNS.out]; omega
              obtain ⟨b, o, rfl, hx⟩ := rd_elem (HRS.out.below HQ.out) hpS
              obtain ⟨b', o', hA', hy⟩ := rd_elem (HRS.out.below HQ.out) hqS
              have hbo : b = b' ∧ o = o' := by cases hA'; exact ⟨rfl, rfl⟩
              obtain ⟨rfl, rfl⟩ := hbo
              have hu := (List.pairwise_iff_getElem.1 HGOOD.out.uniq) q p hqS hpS hqt
              obtain ⟨x, hx'⟩ : ∃ x, S[p] = x := ⟨_, rfl⟩
              obtain ⟨y, hy'⟩ : ∃ y, S[q] = y := ⟨_, rfl⟩
              rw [hx'] at hx hu
              rw [hy'] at hy hu
              have hne : (x.name.toList == y.name.toList) = false := by rw [beq_name, decide_eq_false (Ne.symm hu)]
              have hx1 : wq.cell? ⟨b, o + p * 5 + 1, none⟩ = some (.string x.name) := hx 1 _ rfl
              have hy1 : wq.cell? ⟨b, o + q * 5 + 1, none⟩ = some (.string y.name) := hy 1 _ rfl
              have HC := And.intro ((SBox.below HS.out HQ.out).cells.1) (And.intro hx1 hy1)
              clear hx hy hx' hy' hA' hu hx1 hy1
              go_wp2
              refine region_wz (fun W => W.cell? ⟨w2.heap.size, 0, none⟩ = some (.slice (some ⟨b, o, none⟩) NS c) ∧ W.cell? ⟨b, o + p * 5 + 1, none⟩ = some (.string x.name) ∧ W.cell? ⟨b, o + q * 5 + 1, none⟩ = some (.string y.name)) none (by kernel_rfl) ?_
              apply WZ.take (i := 0) (some 62) rfl rfl (by kernel_rfl) (by kernel_rfl) (by kernel_rfl) (calm_panic _) (by kernel_rfl)
              case hy => (refine .inl ⟨by kernel_rfl, fun W hC => ?_⟩; (try dsimp only at hC); go_simp; (try simp only [hne]); rfl)
              case hC => exact HC
              case ha => (simp only [Act.put, List.setIfInBounds_toArray, List.set_cons_zero, List.set_cons_succ]; rfl)
              apply WZ.take (i := 1) (some 63) rfl rfl (by kernel_rfl) (by kernel_rfl) (by kernel_rfl) (calm_panic _) (by kernel_rfl)
              case hy => (refine .inl ⟨by kernel_rfl, fun W hC => ?_⟩; (try dsimp only at hC); go_simp; (try simp only [hne]); rfl)
              case hC => exact HC
              case ha => (simp only [Act.put, List.setIfInBounds_toArray, List.set_cons_zero, List.set_cons_succ]; rfl)
              apply WZ.take (i := 2) (some 64) rfl rfl (by kernel_rfl) (by kernel_rfl) (by kernel_rfl) (calm_panic _) (by kernel_rfl)
              case hy => (refine .inl ⟨by kernel_rfl, fun W hC => ?_⟩; (try dsimp only at hC); go_simp; (try simp only [hne]); rfl)
              case hC => exact HC
              case ha => (simp only [Act.put, List.setIfInBounds_toArray, List.set_cons_zero, List.set_cons_succ]; rfl)
              apply WZ.take (i := 3) (some 65) rfl rfl (by kernel_rfl) (by kernel_rfl) (by kernel_rfl) (calm_panic _) (by kernel_rfl)
              case hy => (refine .inl ⟨by kernel_rfl, fun W hC => ?_⟩; (try dsimp only at hC); go_simp; (try simp only [hne]); rfl)
              case hC => exact HC
              case ha => (simp only [Act.put, List.setIfInBounds_toArray, List.set_cons_zero, List.set_cons_succ]; rfl)
              apply WZ.take (i := 4) (some 66) rfl rfl (by kernel_rfl) (by kernel_rfl) (by kernel_rfl) (calm_panic _) (by kernel_rfl)
              case hy => (refine .inl ⟨by kernel_rfl, fun W hC => ?_⟩; (try dsimp only at hC); go_simp; (try simp only [hne]); rfl)
              case hC => exact HC
              case ha => (simp only [Act.put, List.setIfInBounds_toArray, List.set_cons_zero, List.set_cons_succ]; rfl)
              apply WZ.take (i := 5) (some 67) rfl rfl (by kernel_rfl) (by kernel_rfl) (by kernel_rfl) (calm_panic _) (by kernel_rfl)
              case hy => (refine .inl ⟨by kernel_rfl, fun W hC => ?_⟩; (try dsimp only at hC); go_simp; (try simp only [hne]); rfl)
              case hC => exact HC
              case ha => (simp only [Act.put, List.setIfInBounds_toArray, List.set_cons_zero, List.set_cons_succ]; rfl)
              apply WZ.take (i := 6) (some 68) rfl rfl (by kernel_rfl) (by kernel_rfl) (by kernel_rfl) (calm_panic _) (by kernel_rfl)
              case hy => (refine .inl ⟨by kernel_rfl, fun W hC => ?_⟩; (try dsimp only at hC); go_simp; (try simp only [hne]); rfl)
              case hC => exact HC
              case ha => (simp only [Act.put, List.setIfInBounds_toArray, List.set_cons_zero, List.set_cons_succ]; rfl)
              apply WZ.take (i := 7) (some 69) rfl rfl (by kernel_rfl) (by kernel_rfl) (by kernel_rfl) (calm_panic _) (by kernel_rfl)
              case hy => (refine .inl ⟨by kernel_rfl, fun W hC => ?_⟩; (try dsimp only at hC); go_simp; (try simp only [hne]); rfl)
              case hC => exact HC
              case ha => (simp only [Act.put, List.setIfInBounds_toArray, List.set_cons_zero, List.set_cons_succ]; rfl)
              apply WZ.take (i := 8) (some 70) rfl rfl (by kernel_rfl) (by kernel_rfl) (by kernel_rfl) (calm_panic _) (by kernel_rfl)
              case hy => (refine .inl ⟨by kernel_rfl, fun W hC => ?_⟩; (try dsimp only at hC); go_simp; (try simp only [hne]); rfl)
              case hC => exact HC
              case ha => (simp only [Act.put, List.setIfInBounds_toArray, List.set_cons_zero, List.set_cons_succ]; rfl)
              apply WZ.take (i := 9) (some 71) rfl rfl (by kernel_rfl) (by kernel_rfl) (by kernel_rfl) (calm_panic _) (by kernel_rfl)
              case hy => (refine .inl ⟨by kernel_rfl, fun W hC => ?_⟩; (try dsimp only at hC); go_simp; (try simp only [hne]); rfl)
              case hC => exact HC
              case ha => (simp only [Act.put, List.setIfInBounds_toArray, List.set_cons_zero, List.set_cons_succ]; rfl)
              apply WZ.take (i := 10) (some 72) rfl rfl (by kernel_rfl) (by kernel_rfl) (by kernel_rfl) (calm_panic _) (by kernel_rfl)
              case hy => (refine .inl ⟨by kernel_rfl, fun W hC => ?_⟩; (try dsimp only at hC); go_simp; (try simp only [hne]); rfl)
              case hC => exact HC
              case ha => (simp only [Act.put, List.setIfInBounds_toArray, List.set_cons_zero, List.set_cons_succ]; rfl)
              apply WZ.take (i := 11) (some 73) rfl rfl (by kernel_rfl) (by kernel_rfl) (by kernel_rfl) (calm_panic _) (by kernel_rfl)
              case hy => (refine .inl ⟨by kernel_rfl, fun W hC => ?_⟩; (try dsimp only at hC); go_simp; (try simp only [hne]); rfl)
              case hC => exact HC
              case ha => (simp only [Act.put, List.setIfInBounds_toArray, List.set_cons_zero, List.set_cons_succ]; rfl)
              apply WZ.take (i := 12) (some 74) rfl rfl (by kernel_rfl) (by kernel_rfl) (by kernel_rfl) (calm_panic _) (by kernel_rfl)
              case hy => (refine .inl ⟨by kernel_rfl, fun W hC => ?_⟩; (try dsimp only at hC); go_simp; (try simp only [hne]); rfl)
              case hC => exact HC
              case ha => (simp only [Act.put, List.setIfInBounds_toArray, List.set_cons_zero, List.set_cons_succ]; rfl)
              refine WZ.done (by kernel_rfl) ?_ _
              simp only [Calm, Exit.then]
              go_wp2
              exact ⟨⟨q + 1, by first | rfl | go_num, by omega, Lib.hid (by first | exact HQ.out | exact HQ.out.drew)⟩, by simp [intOf]; omega⟩
            · have e3 : decide ((q : Int) < (p : Int)) = false := decide_eq_false (by omega)
              go_wp2
              exact ⟨⟨p + 1, by first | rfl | go_num, by omega, HQ⟩, by simp [intOf]; omega⟩
        · have e2 : decide ((p : Int) < (NS : Int)) = false := decide_eq_false (by omega)
          have hrp := (HRS.out.below HP.out).more HP.out.size
          have ho1 := over_once A c NS S nx fl 1 row wp hrp HNS.out (by omega) HGOOD.out.ap (by omega)
          have ho2 := fun W (hb : Below wp.heap.size wp W) => over_once A c NS S nx fl 2 row W ((hrp.below hb).more hb.size) HNS.out (by omega) HGOOD.out.ap (by omega)
          have HO1 := Lib.hid ho1
          have HO2 := Lib.hid ho2
          clear ho1 ho2 hrp
          go_wp2_with (first
            | (go_at_call 20; have M := HO1; clear M; refine HO1.out.mono ?_; rintro e w7 ⟨A7, n7, c7, rfl, hn7, hb7⟩; have HB7 := Lib.hid hb7; have e7 : decide ((n7 : Int) ≤ 1) = true := decide_eq_true (by omega); clear hb7 s0 s1 s2 HO1; obtain ⟨s0, s1, s2⟩ := (SBox.below (SBox.below HS.out HP.out) HB7.out).cells)
            | (go_at_call 20; have M := HO2; clear M; refine (HO2.out _ HB7.out).mono ?_; rintro e w8 ⟨A8, n8, c8, rfl, hn8, hb8⟩; have HB8 := Lib.hid hb8; have e8 : decide ((n8 : Int) ≤ 1) = true := decide_eq_true (by omega); clear hb8 HO2))
          go_ret
          exact ⟨rfl, ((HBW.out.trans (HP.out.mono HBW.out.size)).trans (HB7.out.mono (Nat.le_trans HBW.out.size HP.out.size))).trans (HB8.out.mono (Nat.le_trans (Nat.le_trans HBW.out.size HP.out.size) HB7.out.size))⟩
end Go.Proofs.Ytaeemeoffnhgfaa
