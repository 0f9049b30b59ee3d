/-
  The walk of the law ManifestFinds.
-/
import Derived.Test.YtaeemeoffnhgfaaEditsKit
import Derived.Test.YtaeemeoffnhgfaaRegion
namespace Go.Proofs.Ytaeemeoffnhgfaa
open Go.RowKit
attribute [local go_sem ↓] Go.wp_at_zero Go.wp_at_succ


def levelsOf (S : List Fi) (row : ByteArray) : Nat → List Fi
  | 0 => []
  | k + 1 => levelsOf S row k ++ S.filter (onRows (k : Int) row row)
theorem levelsOf_three {S : List Fi} (h : Good S) {row : ByteArray} : levelsOf S row 3 = S.filter (onRow row) := by
  rw [h.finds row]
  rfl
theorem over_at (A : Option Addr) (c N : Nat) (l : List Fi) (nx fl z : Int) (row : ByteArray) (w : World) (hl : Rd w w.heap.size A (fis l)) (hN : l.length = N) (hlen : N ≤ 100000) :
    Calls Try.prog 20 #[.agg #[.slice A N c, .int .u64 nx, .int .u64 fl], .int .i64 z, .string row, .string row] w fun e w' => ∃ (A' : Option Addr) (n' c' : Nat), e = .returned (.slice A' n' c') ∧ n' ≤ N ∧ OwnF w' w.heap.size A' n' c' (l.filter (onRows z row row)) ∧ Below w.heap.size w w' := by
  refine (over_any A c N l nx fl z row row w hl hN hlen).mono ?_
  rintro e w' ⟨A', n', c', rfl, ho, hb⟩
  exact ⟨A', n', c', rfl, by rw [← ho.len, ← hN]; exact List.length_filter_le _ _, ho, hb⟩
theorem over_none (A : Option Addr) (c N : Nat) (l : List Fi) (nx fl : Int) (row : ByteArray) (w : World) (hl : Rd w w.heap.size A (fis l)) (hN : l.length = N) (hlen : N ≤ 100000) (hg : Good l) :
    Calls Try.prog 20 #[.agg #[.slice A N c, .int .u64 nx, .int .u64 fl], .int .i64 3, .string row, .string row] w fun e w' => ∃ (A' : Option Addr) (c' : Nat), e = .returned (.slice A' 0 c') ∧ Below w.heap.size w w' := by
  refine (over_any A c N l nx fl 3 row row w hl hN hlen).mono ?_
  rintro e w' ⟨A', n', c', rfl, ho, hb⟩
  have h := ho.len
  rw [hg.over3] at h
  subst h
  exact ⟨A', c', rfl, hb⟩
theorem find_at (A : Option Addr) (c N : Nat) (l : List Fi) (nx fl : Int) (row : ByteArray) (w : World) (hl : Rd w w.heap.size A (fis l)) (hN : l.length = N) (hlen : N ≤ 100000) :
    Calls Try.prog 18 #[.agg #[.slice A N c, .int .u64 nx, .int .u64 fl], .string row] w fun e w' => ∃ (A' : Option Addr) (n' c' : Nat), e = .returned (.slice A' n' c') ∧ n' ≤ N ∧ OwnF w' w.heap.size A' n' c' (l.filter (onRow row)) ∧ Below w.heap.size w w' := by
  refine (find_any A c N l nx fl row w hl hN hlen).mono ?_
  rintro e w' ⟨A', n', c', rfl, ho, hb⟩
  exact ⟨A', n', c', rfl, by rw [← ho.len, ← hN]; exact List.length_filter_le _ _, ho, hb⟩
set_option maxRecDepth 10000 in
set_option maxHeartbeats 4000000 in
theorem finds_wide (A : Option Addr) (cap N : Nat) (row : ByteArray) (w : World) (h : 10 < N ∨ 100 < row.size) :
    Calls Try.prog 7 #[.slice A N cap, .string row] w fun e w' => e = .returned (.bool true) ∧ Below w.heap.size w w' := by
  by_cases h1 : 10 < N
  · have e1 : decide ((10 : Int) < (N : Int)) = true := decide_eq_true (by omega)
    go_enter Try.func7, Try.ntmps7
    go_wp2_with (go_at_call 11; refine (shown_any _).mono ?_; rintro e w2 ⟨rfl, hb2⟩)
    go_ret
    exact ⟨rfl, hb2⟩
  · have e1 : decide ((10 : Int) < (N : Int)) = false := decide_eq_false (by omega)
    have e2 : decide ((100 : Int) < (row.size : Int)) = true := decide_eq_true (by omega)
    go_enter Try.func7, Try.ntmps7
    go_wp2_with (go_at_call 11; refine (shown_any _).mono ?_; rintro e w2 ⟨rfl, hb2⟩)
    go_ret
    exact ⟨rfl, hb2⟩
set_option maxRecDepth 10000 in
set_option maxHeartbeats 8000000 in
theorem finds_any (A0 : Option Addr) (cap N : Nat) (L : List Ed) (row : ByteArray) (w : World) (hl : Rd w w.heap.size A0 (eds L)) (he : ∀ e ∈ L, e.In w) (hN : L.length = N) (h10 : N ≤ 10) (h100 : row.size ≤ 100) :
    Calls Try.prog 7 #[.slice A0 N cap, .string row] w fun e w' => e = .returned (.bool true) ∧ Below w.heap.size w w' := by
  have HL := Lib.hid hl
  have HE := Lib.hid he
  have HN := Lib.hid hN
  have e1 : decide ((10 : Int) < (N : Int)) = false := decide_eq_false (by omega)
  have e2 : decide ((100 : Int) < (row.size : Int)) = false := decide_eq_false (by omega)
  clear hl he hN
  go_enter Try.func7, Try.ntmps7
  go_wp2_with (go_at_call 11; refine (shown_any _).mono ?_; rintro e w2 ⟨rfl, hb2⟩; have HB2 := Lib.hid hb2; clear hb2)
  clear e1 e2
  go_loopw [6] (fun vi wr => ∃ i : Nat, vi = .int .i64 (i : Int) ∧ i ≤ N ∧ Hid (Run w wr w2.heap.size i)) (fun vi _ => N - (intOf vi).toNat)
  case atStart => exact ⟨0, rfl, Nat.zero_le _, Lib.hid (Run.start HB2.out)⟩
  case round =>
    obtain ⟨i, rfl, hi, HRUN⟩ := hrel
    rename World => wr
    by_cases hlt : i < N
    · have e1 : decide ((i : Int) < (N : Int)) = true := decide_eq_true (by omega)
      have k1 : (0 : Int) ≤ (i : Int) := by omega
      have k2 : (i : Int) < (N : Int) := by omega
      have hil : i < L.length := by rw [HN.out]; exact hlt
      obtain ⟨hgw, hbw, S, A, c, nx, fl, hs, hr, hsl, hgood⟩ := HRUN.out
      obtain ⟨b, o, rfl, hbl, hre⟩ := ed_elem (HL.out.below hbw) hil
      have hein := (HE.out _ (List.getElem_mem hil)).below hbw
      obtain ⟨e, he⟩ : ∃ e, L[i] = e := ⟨_, rfl⟩
      rw [he] at hre hein
      unfold Ed.vals at hre
      obtain ⟨NS, hNS⟩ : ∃ n, S.length = n := ⟨_, rfl⟩
      obtain ⟨NA, hNA⟩ : ∃ n, e.add.length = n := ⟨_, rfl⟩
      obtain ⟨ND, hND⟩ : ∃ n, e.del.length = n := ⟨_, rfl⟩
      rw [hNA, hND] at hre
      rw [hNS] at hs hsl
      have hsmall := small_any e.A e.D e.c e.d NA ND e.add e.del e.nx e.fl wr hein.1 hein.2.1 hNA hND (hNA ▸ hein.2.2.1) (hND ▸ hein.2.2.2)
      have HSM := Lib.hid hsmall
      have HRE := Lib.hid hre
      have HIN := Lib.hid hein
      have HS := Lib.hid hs
      have HRS0 := Lib.hid hr
      have HGW := Lib.hid hgw
      have HBWr := Lib.hid hbw
      have HGOODS := Lib.hid hgood
      have HNS := Lib.hid hNS
      have HNA := Lib.hid hNA
      have HND := Lib.hid hND
      have hbs := Nat.lt_of_lt_of_le hbl hbw.size
      clear hsmall hre hein hs hr hgw hbw hgood he HRUN hNS hNA hND
      cases hsm : smallE e.add e.del with
      | false =>
        go_wp2_with (first
          | (show wpList _ _ _ ({ dst := some 34, op := Op.load _ _, type := _, pos := _, after := _, guard := _ } :: _) _ _; refine wpList_load_mid rfl 36 (.tmp 33) rfl b (o + i * 4) rfl [.slice e.A NA e.c, .slice e.D ND e.d, .int .u64 e.nx, .int .u64 e.fl] _ HRE.out Try.underlying36 rfl (by kernel_rfl) ?_)
          | (go_at_call 15; refine HSM.out.mono ?_; rintro e' w4 ⟨rfl, hb4⟩; rw [hsm])
          | (go_at_call 11; refine (shown_any _).mono ?_; rintro e' w5 ⟨rfl, hb5⟩))
        go_ret
        exact ⟨rfl, (HBWr.out.trans (hb4.mono HBWr.out.size)).trans (hb5.mono (Nat.le_trans HBWr.out.size hb4.size))⟩
      | true =>
        obtain ⟨p1, p2, p3⟩ := smallE_parts hsm
        rw [HNA.out] at p2
        rw [HND.out] at p3
        go_wp2_with (first
          | (show wpList _ _ _ ({ dst := some 34, op := Op.load _ _, type := _, pos := _, after := _, guard := _ } :: _) _ _; refine wpList_load_mid rfl 36 (.tmp 33) rfl b (o + i * 4) rfl [.slice e.A NA e.c, .slice e.D ND e.d, .int .u64 e.nx, .int .u64 e.fl] _ HRE.out Try.underlying36 rfl (by kernel_rfl) ?_)
          | (go_at_call 15; refine HSM.out.mono ?_; rintro e' w4 ⟨rfl, hb4⟩; rw [hsm]))
        have HS4 := Lib.hid (SBox.below HS.out hb4)
        have HRS := Lib.hid ((HRS0.out.below hb4).more hb4.size)
        have HIN4 := Lib.hid (HIN.out.below hb4)
        have HBW := Lib.hid (HBWr.out.trans (hb4.mono HBWr.out.size))
        have hre4 := rangeAt_below HRE.out hb4 hbs
        have hlen : NS ≤ 40 * (i + 1) := by omega
        have HLENS := Lib.hid (show S.length ≤ 40 * (i + 1) by rw [HNS.out]; exact hlen)
        obtain ⟨rm, hrm⟩ : ∃ rm, applyF nx fl e.nx e.fl S e.add e.del = rm := ⟨_, rfl⟩
        obtain ⟨r, m⟩ := rm
        obtain ⟨K, hK⟩ : ∃ K, m.length = K := ⟨_, rfl⟩
        obtain ⟨X, hX⟩ : ∃ X, (if r = 0 then e.nx else 0) = X := ⟨_, rfl⟩
        obtain ⟨Y, hY⟩ : ∃ Y, (if r = 0 then e.fl else 0) = Y := ⟨_, rfl⟩
        have hap := apply_edit (w4 := w4) (cs := c) hrm hK hX hY HRS.out HIN4.out HNS.out HNA.out HND.out (by omega) (by omega) (by omega) HGOODS.out
        have HAP := Lib.hid hap
        have HK := Lib.hid hK
        obtain ⟨CC, hCD⟩ : ∃ CC : World → Prop, ∀ W, CC W ↔ Below w4.heap.size w4 W := ⟨fun W => Below w4.heap.size w4 W, fun W => Iff.rfl⟩
        have hmk : ∀ W, Below w4.heap.size w4 W → W.rangeAt w2.heap.size 0 [.slice A NS c, .int .u64 nx, .int .u64 fl] ∧ W.rangeAt b (o + i * 4) [.slice e.A NA e.c, .slice e.D ND e.d, .int .u64 e.nx, .int .u64 e.fl] ∧ CC W := fun W hb => ⟨(SBox.below HS4.out hb).range, rangeAt_below hre4 hb (Nat.lt_of_lt_of_le hbs hb4.size), (hCD W).2 hb⟩
        have HB := Lib.hid ((Below.refl w4.heap.size w4).drew)
        have HC := hmk _ HB.out
        by_cases hr0 : r = 0
        · subst hr0
          have hgd := HGOODS.out.apply hrm
          have HGOOD := Lib.hid hgd.1
          have HLEN := Lib.hid (show m.length ≤ 40 * (i + 1) by have := hgd.2; rw [HNS.out, HNA.out] at this; omega)
          clear hgd hap hK hX hY hrm HS HRS0 HIN HRE HSM hb4
          refine region_wz (fun W' => W'.rangeAt w2.heap.size 0 [.slice A NS c, .int .u64 nx, .int .u64 fl] ∧ W'.rangeAt b (o + i * 4) [.slice e.A NA e.c, .slice e.D ND e.d, .int .u64 e.nx, .int .u64 e.fl] ∧ CC W') none (by kernel_rfl) ?_
          apply WZ.take (i := 0) (some 39) rfl rfl (by kernel_rfl) (by kernel_rfl) (by kernel_rfl) (calm_panic _) (by kernel_rfl)
          case hy => first | (apply yieldsIf_load_mid (by kernel_rfl) _ _ rfl _ _ rfl; (case hS => (intro W hC; exact hC.1)); (case hu => exact Try.underlying30); (case hd => rfl); (case hi => kernel_rfl)) | (apply yieldsIf_load_mid (by kernel_rfl) _ _ rfl _ _ rfl; (case hS => (intro W hC; exact hC.2.1)); (case hu => exact Try.underlying30); (case hd => rfl); (case hi => kernel_rfl)) | (apply yieldsIf_load_mid (by kernel_rfl) _ _ rfl _ _ rfl; (case hS => (intro W hC; exact hC.2.2.1)); (case hu => exact Try.underlying30); (case hd => rfl); (case hi => kernel_rfl)) | (apply yieldsIf_load_mid (by kernel_rfl) _ _ rfl _ _ rfl; (case hS => (intro W hC; exact hC.2.2.2.1)); (case hu => exact Try.underlying30); (case hd => rfl); (case hi => kernel_rfl)) | (apply yieldsIf_load_mid (by kernel_rfl) _ _ rfl _ _ rfl; (case hS => (intro W hC; exact hC.2.2.2)); (case hu => exact Try.underlying30); (case hd => rfl); (case hi => kernel_rfl)) | (apply yieldsIf_load_mid (by kernel_rfl) _ _ rfl _ _ rfl; (case hS => (intro W hC; exact hC.2.2)); (case hu => exact Try.underlying30); (case hd => rfl); (case hi => kernel_rfl)) | (apply yieldsIf_load_mid (by kernel_rfl) _ _ rfl _ _ rfl; (case hS => (intro W hC; exact hC.2)); (case hu => exact Try.underlying30); (case hd => rfl); (case hi => kernel_rfl)) | (apply yieldsIf_load_mid (by kernel_rfl) _ _ rfl _ _ rfl; (case hS => (intro W hC; exact hC)); (case hu => exact Try.underlying30); (case hd => rfl); (case hi => kernel_rfl))
          case hC => exact HC
          case ha => (simp only [Act.put, List.setIfInBounds_toArray, List.set_cons_zero, List.set_cons_succ]; rfl)
          apply WZ.take (i := 1) (some 40) rfl rfl (by kernel_rfl) (by kernel_rfl) (by kernel_rfl) (calm_panic _) (by kernel_rfl)
          case hy => (refine .inl ⟨by kernel_rfl, fun W hC => ?_⟩; (try dsimp only at hC); go_simp; rfl)
          case hC => exact HC
          case ha => (simp only [Act.put, List.setIfInBounds_toArray, List.set_cons_zero, List.set_cons_succ]; rfl)
          apply WZ.take (i := 2) (some 41) rfl rfl (by kernel_rfl) (by kernel_rfl) (by kernel_rfl) (calm_panic _) (by kernel_rfl)
          case hy => (refine .inl ⟨by kernel_rfl, fun W hC => ?_⟩; (try dsimp only at hC); go_simp; rfl)
          case hC => exact HC
          case ha => (simp only [Act.put, List.setIfInBounds_toArray, List.set_cons_zero, List.set_cons_succ]; rfl)
          apply WZ.take (i := 3) (some 42) rfl rfl (by kernel_rfl) (by kernel_rfl) (by kernel_rfl) (calm_panic _) (by kernel_rfl)
          case hy => (refine .inl ⟨by kernel_rfl, fun W hC => ?_⟩; (try dsimp only at hC); go_simp; rfl)
          case hC => exact HC
          case ha => (simp only [Act.put, List.setIfInBounds_toArray, List.set_cons_zero, List.set_cons_succ]; rfl)
          apply WZ.take (i := 4) (some 43) rfl rfl (by kernel_rfl) (by kernel_rfl) (by kernel_rfl) (calm_panic _) (by kernel_rfl)
          case hy => first | (apply yieldsIf_load_mid (by kernel_rfl) _ _ rfl _ _ rfl; (case hS => (intro W hC; exact hC.1)); (case hu => exact Try.underlying36); (case hd => rfl); (case hi => kernel_rfl)) | (apply yieldsIf_load_mid (by kernel_rfl) _ _ rfl _ _ rfl; (case hS => (intro W hC; exact hC.2.1)); (case hu => exact Try.underlying36); (case hd => rfl); (case hi => kernel_rfl)) | (apply yieldsIf_load_mid (by kernel_rfl) _ _ rfl _ _ rfl; (case hS => (intro W hC; exact hC.2.2.1)); (case hu => exact Try.underlying36); (case hd => rfl); (case hi => kernel_rfl)) | (apply yieldsIf_load_mid (by kernel_rfl) _ _ rfl _ _ rfl; (case hS => (intro W hC; exact hC.2.2.2.1)); (case hu => exact Try.underlying36); (case hd => rfl); (case hi => kernel_rfl)) | (apply yieldsIf_load_mid (by kernel_rfl) _ _ rfl _ _ rfl; (case hS => (intro W hC; exact hC.2.2.2)); (case hu => exact Try.underlying36); (case hd => rfl); (case hi => kernel_rfl)) | (apply yieldsIf_load_mid (by kernel_rfl) _ _ rfl _ _ rfl; (case hS => (intro W hC; exact hC.2.2)); (case hu => exact Try.underlying36); (case hd => rfl); (case hi => kernel_rfl)) | (apply yieldsIf_load_mid (by kernel_rfl) _ _ rfl _ _ rfl; (case hS => (intro W hC; exact hC.2)); (case hu => exact Try.underlying36); (case hd => rfl); (case hi => kernel_rfl)) | (apply yieldsIf_load_mid (by kernel_rfl) _ _ rfl _ _ rfl; (case hS => (intro W hC; exact hC)); (case hu => exact Try.underlying36); (case hd => rfl); (case hi => kernel_rfl))
          case hC => exact HC
          case ha => (simp only [Act.put, List.setIfInBounds_toArray, List.set_cons_zero, List.set_cons_succ]; rfl)
          refine WZ.two (i := 5) (j := 9) rfl rfl (by kernel_rfl) ?_ ?_
          · conv => arg 4; arg 1; whnf
            go_wp2_with (go_at_call 12; refine (HAP.out _ HB.out).mono ?_; rintro e' w6 ⟨A6, c6, rfl, hr6, hb6⟩; have HR6 := Lib.hid hr6)
            try (have HT2 := Lib.hid (SBox.below HT.out hb6); clear HT; have HT := HT2; clear HT2)
            have HB2 := Lib.hid (HB.out.trans (hb6.mono HB.out.size))
            clear HB HC hb6 hr6
            have HB := HB2
            clear HB2
            have HC := hmk _ HB.out
            refine ⟨HC, ?_⟩
            apply WZ.take (i := 6) (some 38) rfl rfl (by kernel_rfl) (by kernel_rfl) (by kernel_rfl) (calm_panic _) (by kernel_rfl)
            case hy => (refine .inl ⟨by kernel_rfl, fun W hC => ?_⟩; (try dsimp only at hC); go_simp; rfl)
            case hC => exact HC
            case ha => (simp only [Act.put, List.setIfInBounds_toArray, List.set_cons_zero, List.set_cons_succ]; rfl)
            apply WZ.take (i := 7) (some 45) rfl rfl (by kernel_rfl) (by kernel_rfl) (by kernel_rfl) (calm_panic _) (by kernel_rfl)
            case hy => (refine .inl ⟨by kernel_rfl, fun W hC => ?_⟩; (try dsimp only at hC); go_simp; rfl)
            case hC => exact HC
            case ha => (simp only [Act.put, List.setIfInBounds_toArray, List.set_cons_zero, List.set_cons_succ]; rfl)
            apply WZ.take (i := 8) (some 46) rfl rfl (by kernel_rfl) (by kernel_rfl) (by kernel_rfl) (calm_panic _) (by kernel_rfl)
            case hy => (refine .inl ⟨by kernel_rfl, fun W hC => ?_⟩; (try dsimp only at hC); go_simp; rfl)
            case hC => exact HC
            case ha => (simp only [Act.put, List.setIfInBounds_toArray, List.set_cons_zero, List.set_cons_succ]; rfl)
            -- 9
            refine WZ.one (i := 9) rfl (by kernel_rfl) ?_
            conv => arg 4; arg 1; whnf
            go_wp2_with fail
            have hMS := made_state HB.out HB.out.size
            try (have HR62 := Lib.hid (HR6.out.allocS (.cells #[.slice none 0 0, .int .u64 0, .int .u64 0] 30)); clear HR6; have HR6 := HR62; clear HR62)
            first
              | have HT := Lib.hid (show SBox (w4.drew.alloc (.cells #[.slice none 0 0, .int .u64 0, .int .u64 0] 30)) w4.heap.size none 0 0 0 0 from hMS.1)
              | have HT := Lib.hid hMS.1
            have HGE := Lib.hid hMS.2.2
            have HB2 := Lib.hid hMS.2.1
            clear HB HC hMS
            have HB := HB2
            clear HB2
            have HC := hmk _ HB.out
            refine ⟨HC, ?_⟩
            -- 10
            refine WZ.one (i := 10) rfl (by kernel_rfl) ?_
            conv => arg 4; arg 1; whnf
            go_wp2_with (refine wpList_store_mid rfl 30 (.tmp 7) (.tmp 45) rfl _ 0 (stC A6 K c6 X Y) rfl rfl HT.out.there (by kernel_rfl) (stC_one _ _ _ _ _) ?_; refine HT.out.setW A6 K c6 X Y HR6.out ?_; intro w9 HT9 HG9 HR9)
            have HB2 := Lib.hid (below_grown HB.out HB.out.size HG9.out HGE.out)
            clear HB HC HT HG9 HGE HR6
            have HB := HB2
            clear HB2
            have HC := hmk _ HB.out
            refine ⟨HC, ?_⟩
            apply WZ.take (i := 11) (some 8) rfl rfl (by kernel_rfl) (by kernel_rfl) (by kernel_rfl) (calm_panic _) (by kernel_rfl)
            case hy => (refine .inl ⟨by kernel_rfl, fun W hC => ?_⟩; (try dsimp only at hC); go_simp; rfl)
            case hC => exact HC
            case ha => (simp only [Act.put, List.setIfInBounds_toArray, List.set_cons_zero, List.set_cons_succ]; rfl)
            refine WZ.done (by kernel_rfl) ?_ _
            simp only [Calm, Exit.then]
            have HS9 := Lib.hid (SBox.below HS4.out HB.out)
            obtain ⟨f0, f1, f2⟩ := HT9.out.cells
            clear HC hmk hCD
            go_wp2_with (show wpList _ _ _ ({ dst := none, op := Op.store _ (Operand.tmp 5) _, type := _, pos := _, after := _, guard := _ } :: _) _ _; refine wpList_store_mid rfl 30 (.tmp 5) (.tmp 49) rfl w2.heap.size 0 (stC A6 K c6 X Y) rfl rfl HS9.out.there (by kernel_rfl) (stC_one _ _ _ _ _) ?_; refine HS9.out.setW A6 K c6 X Y HR9.out ?_; intro wF HSF HGF HRF)
            exact ⟨⟨i + 1, by first | rfl | go_num, by omega, Lib.hid (Run.next HGW.out (below_grown (HBW.out.trans (HB.out.mono HBW.out.size)) (Nat.le_trans HBW.out.size HB.out.size) HGF.out HGW.out) HK.out HSF.out HRF.out HLEN.out HGOOD.out)⟩, by simp [intOf]; omega⟩
          · conv => arg 4; arg 1; whnf
            go_wp2_with fail
            have hMS := made_state HB.out HB.out.size
            try (have HR62 := Lib.hid (HR6.out.allocS (.cells #[.slice none 0 0, .int .u64 0, .int .u64 0] 30)); clear HR6; have HR6 := HR62; clear HR62)
            first
              | have HT := Lib.hid (show SBox (w4.drew.alloc (.cells #[.slice none 0 0, .int .u64 0, .int .u64 0] 30)) w4.heap.size none 0 0 0 0 from hMS.1)
              | have HT := Lib.hid hMS.1
            have HGE := Lib.hid hMS.2.2
            have HB2 := Lib.hid hMS.2.1
            clear HB HC hMS
            have HB := HB2
            clear HB2
            have HC := hmk _ HB.out
            refine ⟨HC, ?_⟩
            -- 5
            refine WZ.one (i := 5) rfl (by kernel_rfl) ?_
            conv => arg 4; arg 1; whnf
            go_wp2_with (go_at_call 12; refine (HAP.out _ HB.out).mono ?_; rintro e' w6 ⟨A6, c6, rfl, hr6, hb6⟩; have HR6 := Lib.hid hr6)
            try (have HT2 := Lib.hid (SBox.below HT.out hb6); clear HT; have HT := HT2; clear HT2)
            have HB2 := Lib.hid (HB.out.trans (hb6.mono HB.out.size))
            clear HB HC hb6 hr6
            have HB := HB2
            clear HB2
            have HC := hmk _ HB.out
            refine ⟨HC, ?_⟩
            apply WZ.take (i := 6) (some 38) rfl rfl (by kernel_rfl) (by kernel_rfl) (by kernel_rfl) (calm_panic _) (by kernel_rfl)
            case hy => (refine .inl ⟨by kernel_rfl, fun W hC => ?_⟩; (try dsimp only at hC); go_simp; rfl)
            case hC => exact HC
            case ha => (simp only [Act.put, List.setIfInBounds_toArray, List.set_cons_zero, List.set_cons_succ]; rfl)
            apply WZ.take (i := 7) (some 45) rfl rfl (by kernel_rfl) (by kernel_rfl) (by kernel_rfl) (calm_panic _) (by kernel_rfl)
            case hy => (refine .inl ⟨by kernel_rfl, fun W hC => ?_⟩; (try dsimp only at hC); go_simp; rfl)
            case hC => exact HC
            case ha => (simp only [Act.put, List.setIfInBounds_toArray, List.set_cons_zero, List.set_cons_succ]; rfl)
            apply WZ.take (i := 8) (some 46) rfl rfl (by kernel_rfl) (by kernel_rfl) (by kernel_rfl) (calm_panic _) (by kernel_rfl)
            case hy => (refine .inl ⟨by kernel_rfl, fun W hC => ?_⟩; (try dsimp only at hC); go_simp; rfl)
            case hC => exact HC
            case ha => (simp only [Act.put, List.setIfInBounds_toArray, List.set_cons_zero, List.set_cons_succ]; rfl)
            -- 10
            refine WZ.one (i := 10) rfl (by kernel_rfl) ?_
            conv => arg 4; arg 1; whnf
            go_wp2_with (refine wpList_store_mid rfl 30 (.tmp 7) (.tmp 45) rfl _ 0 (stC A6 K c6 X Y) rfl rfl HT.out.there (by kernel_rfl) (stC_one _ _ _ _ _) ?_; refine HT.out.setW A6 K c6 X Y HR6.out ?_; intro w9 HT9 HG9 HR9)
            have HB2 := Lib.hid (below_grown HB.out HB.out.size HG9.out HGE.out)
            clear HB HC HT HG9 HGE HR6
            have HB := HB2
            clear HB2
            have HC := hmk _ HB.out
            refine ⟨HC, ?_⟩
            apply WZ.take (i := 11) (some 8) rfl rfl (by kernel_rfl) (by kernel_rfl) (by kernel_rfl) (calm_panic _) (by kernel_rfl)
            case hy => (refine .inl ⟨by kernel_rfl, fun W hC => ?_⟩; (try dsimp only at hC); go_simp; rfl)
            case hC => exact HC
            case ha => (simp only [Act.put, List.setIfInBounds_toArray, List.set_cons_zero, List.set_cons_succ]; rfl)
            refine WZ.done (by kernel_rfl) ?_ _
            simp only [Calm, Exit.then]
            have HS9 := Lib.hid (SBox.below HS4.out HB.out)
            obtain ⟨f0, f1, f2⟩ := HT9.out.cells
            clear HC hmk hCD
            go_wp2_with (show wpList _ _ _ ({ dst := none, op := Op.store _ (Operand.tmp 5) _, type := _, pos := _, after := _, guard := _ } :: _) _ _; refine wpList_store_mid rfl 30 (.tmp 5) (.tmp 49) rfl w2.heap.size 0 (stC A6 K c6 X Y) rfl rfl HS9.out.there (by kernel_rfl) (stC_one _ _ _ _ _) ?_; refine HS9.out.setW A6 K c6 X Y HR9.out ?_; intro wF HSF HGF HRF)
            exact ⟨⟨i + 1, by first | rfl | go_num, by omega, Lib.hid (Run.next HGW.out (below_grown (HBW.out.trans (HB.out.mono HBW.out.size)) (Nat.le_trans HBW.out.size HB.out.size) HGF.out HGW.out) HK.out HSF.out HRF.out HLEN.out HGOOD.out)⟩, by simp [intOf]; omega⟩
        · have e4 : (r == 0) = false := by simpa using hr0
          clear hap hK hX hY hrm HS HRS0 HIN HRE HSM hb4 hr0
          refine region_wz (fun W' => W'.rangeAt w2.heap.size 0 [.slice A NS c, .int .u64 nx, .int .u64 fl] ∧ W'.rangeAt b (o + i * 4) [.slice e.A NA e.c, .slice e.D ND e.d, .int .u64 e.nx, .int .u64 e.fl] ∧ CC W') none (by kernel_rfl) ?_
          apply WZ.take (i := 0) (some 39) rfl rfl (by kernel_rfl) (by kernel_rfl) (by kernel_rfl) (calm_panic _) (by kernel_rfl)
          case hy => first | (apply yieldsIf_load_mid (by kernel_rfl) _ _ rfl _ _ rfl; (case hS => (intro W hC; exact hC.1)); (case hu => exact Try.underlying30); (case hd => rfl); (case hi => kernel_rfl)) | (apply yieldsIf_load_mid (by kernel_rfl) _ _ rfl _ _ rfl; (case hS => (intro W hC; exact hC.2.1)); (case hu => exact Try.underlying30); (case hd => rfl); (case hi => kernel_rfl)) | (apply yieldsIf_load_mid (by kernel_rfl) _ _ rfl _ _ rfl; (case hS => (intro W hC; exact hC.2.2.1)); (case hu => exact Try.underlying30); (case hd => rfl); (case hi => kernel_rfl)) | (apply yieldsIf_load_mid (by kernel_rfl) _ _ rfl _ _ rfl; (case hS => (intro W hC; exact hC.2.2.2.1)); (case hu => exact Try.underlying30); (case hd => rfl); (case hi => kernel_rfl)) | (apply yieldsIf_load_mid (by kernel_rfl) _ _ rfl _ _ rfl; (case hS => (intro W hC; exact hC.2.2.2)); (case hu => exact Try.underlying30); (case hd => rfl); (case hi => kernel_rfl)) | (apply yieldsIf_load_mid (by kernel_rfl) _ _ rfl _ _ rfl; (case hS => (intro W hC; exact hC.2.2)); (case hu => exact Try.underlying30); (case hd => rfl); (case hi => kernel_rfl)) | (apply yieldsIf_load_mid (by kernel_rfl) _ _ rfl _ _ rfl; (case hS => (intro W hC; exact hC.2)); (case hu => exact Try.underlying30); (case hd => rfl); (case hi => kernel_rfl)) | (apply yieldsIf_load_mid (by kernel_rfl) _ _ rfl _ _ rfl; (case hS => (intro W hC; exact hC)); (case hu => exact Try.underlying30); (case hd => rfl); (case hi => kernel_rfl))
          case hC => exact HC
          case ha => (simp only [Act.put, List.setIfInBounds_toArray, List.set_cons_zero, List.set_cons_succ]; rfl)
          apply WZ.take (i := 1) (some 40) rfl rfl (by kernel_rfl) (by kernel_rfl) (by kernel_rfl) (calm_panic _) (by kernel_rfl)
          case hy => (refine .inl ⟨by kernel_rfl, fun W hC => ?_⟩; (try dsimp only at hC); go_simp; rfl)
          case hC => exact HC
          case ha => (simp only [Act.put, List.setIfInBounds_toArray, List.set_cons_zero, List.set_cons_succ]; rfl)
          apply WZ.take (i := 2) (some 41) rfl rfl (by kernel_rfl) (by kernel_rfl) (by kernel_rfl) (calm_panic _) (by kernel_rfl)
          case hy => (refine .inl ⟨by kernel_rfl, fun W hC => ?_⟩; (try dsimp only at hC); go_simp; rfl)
          case hC => exact HC
          case ha => (simp only [Act.put, List.setIfInBounds_toArray, List.set_cons_zero, List.set_cons_succ]; rfl)
          apply WZ.take (i := 3) (some 42) rfl rfl (by kernel_rfl) (by kernel_rfl) (by kernel_rfl) (calm_panic _) (by kernel_rfl)
          case hy => (refine .inl ⟨by kernel_rfl, fun W hC => ?_⟩; (try dsimp only at hC); go_simp; rfl)
          case hC => exact HC
          case ha => (simp only [Act.put, List.setIfInBounds_toArray, List.set_cons_zero, List.set_cons_succ]; rfl)
          apply WZ.take (i := 4) (some 43) rfl rfl (by kernel_rfl) (by kernel_rfl) (by kernel_rfl) (calm_panic _) (by kernel_rfl)
          case hy => first | (apply yieldsIf_load_mid (by kernel_rfl) _ _ rfl _ _ rfl; (case hS => (intro W hC; exact hC.1)); (case hu => exact Try.underlying36); (case hd => rfl); (case hi => kernel_rfl)) | (apply yieldsIf_load_mid (by kernel_rfl) _ _ rfl _ _ rfl; (case hS => (intro W hC; exact hC.2.1)); (case hu => exact Try.underlying36); (case hd => rfl); (case hi => kernel_rfl)) | (apply yieldsIf_load_mid (by kernel_rfl) _ _ rfl _ _ rfl; (case hS => (intro W hC; exact hC.2.2.1)); (case hu => exact Try.underlying36); (case hd => rfl); (case hi => kernel_rfl)) | (apply yieldsIf_load_mid (by kernel_rfl) _ _ rfl _ _ rfl; (case hS => (intro W hC; exact hC.2.2.2.1)); (case hu => exact Try.underlying36); (case hd => rfl); (case hi => kernel_rfl)) | (apply yieldsIf_load_mid (by kernel_rfl) _ _ rfl _ _ rfl; (case hS => (intro W hC; exact hC.2.2.2)); (case hu => exact Try.underlying36); (case hd => rfl); (case hi => kernel_rfl)) | (apply yieldsIf_load_mid (by kernel_rfl) _ _ rfl _ _ rfl; (case hS => (intro W hC; exact hC.2.2)); (case hu => exact Try.underlying36); (case hd => rfl); (case hi => kernel_rfl)) | (apply yieldsIf_load_mid (by kernel_rfl) _ _ rfl _ _ rfl; (case hS => (intro W hC; exact hC.2)); (case hu => exact Try.underlying36); (case hd => rfl); (case hi => kernel_rfl)) | (apply yieldsIf_load_mid (by kernel_rfl) _ _ rfl _ _ rfl; (case hS => (intro W hC; exact hC)); (case hu => exact Try.underlying36); (case hd => rfl); (case hi => kernel_rfl))
          case hC => exact HC
          case ha => (simp only [Act.put, List.setIfInBounds_toArray, List.set_cons_zero, List.set_cons_succ]; rfl)
          refine WZ.two (i := 5) (j := 9) rfl rfl (by kernel_rfl) ?_ ?_
          · conv => arg 4; arg 1; whnf
            go_wp2_with (go_at_call 12; refine (HAP.out _ HB.out).mono ?_; rintro e' w6 ⟨A6, c6, rfl, hr6, hb6⟩; have HR6 := Lib.hid hr6)
            try (have HT2 := Lib.hid (SBox.below HT.out hb6); clear HT; have HT := HT2; clear HT2)
            have HB2 := Lib.hid (HB.out.trans (hb6.mono HB.out.size))
            clear HB HC hb6 hr6
            have HB := HB2
            clear HB2
            have HC := hmk _ HB.out
            refine ⟨HC, ?_⟩
            apply WZ.take (i := 6) (some 38) rfl rfl (by kernel_rfl) (by kernel_rfl) (by kernel_rfl) (calm_panic _) (by kernel_rfl)
            case hy => (refine .inl ⟨by kernel_rfl, fun W hC => ?_⟩; (try dsimp only at hC); go_simp; rfl)
            case hC => exact HC
            case ha => (simp only [Act.put, List.setIfInBounds_toArray, List.set_cons_zero, List.set_cons_succ]; rfl)
            apply WZ.take (i := 7) (some 45) rfl rfl (by kernel_rfl) (by kernel_rfl) (by kernel_rfl) (calm_panic _) (by kernel_rfl)
            case hy => (refine .inl ⟨by kernel_rfl, fun W hC => ?_⟩; (try dsimp only at hC); go_simp; rfl)
            case hC => exact HC
            case ha => (simp only [Act.put, List.setIfInBounds_toArray, List.set_cons_zero, List.set_cons_succ]; rfl)
            apply WZ.take (i := 8) (some 46) rfl rfl (by kernel_rfl) (by kernel_rfl) (by kernel_rfl) (calm_panic _) (by kernel_rfl)
            case hy => (refine .inl ⟨by kernel_rfl, fun W hC => ?_⟩; (try dsimp only at hC); go_simp; rfl)
            case hC => exact HC
            case ha => (simp only [Act.put, List.setIfInBounds_toArray, List.set_cons_zero, List.set_cons_succ]; rfl)
            -- 9
            refine WZ.one (i := 9) rfl (by kernel_rfl) ?_
            conv => arg 4; arg 1; whnf
            go_wp2_with fail
            have hMS := made_state HB.out HB.out.size
            try (have HR62 := Lib.hid (HR6.out.allocS (.cells #[.slice none 0 0, .int .u64 0, .int .u64 0] 30)); clear HR6; have HR6 := HR62; clear HR62)
            first
              | have HT := Lib.hid (show SBox (w4.drew.alloc (.cells #[.slice none 0 0, .int .u64 0, .int .u64 0] 30)) w4.heap.size none 0 0 0 0 from hMS.1)
              | have HT := Lib.hid hMS.1
            have HGE := Lib.hid hMS.2.2
            have HB2 := Lib.hid hMS.2.1
            clear HB HC hMS
            have HB := HB2
            clear HB2
            have HC := hmk _ HB.out
            refine ⟨HC, ?_⟩
            -- 10
            refine WZ.one (i := 10) rfl (by kernel_rfl) ?_
            conv => arg 4; arg 1; whnf
            go_wp2_with (refine wpList_store_mid rfl 30 (.tmp 7) (.tmp 45) rfl _ 0 (stC A6 K c6 X Y) rfl rfl HT.out.there (by kernel_rfl) (stC_one _ _ _ _ _) ?_; refine HT.out.setW A6 K c6 X Y HR6.out ?_; intro w9 HT9 HG9 HR9)
            have HB2 := Lib.hid (below_grown HB.out HB.out.size HG9.out HGE.out)
            clear HB HC HT HG9 HGE HR6
            have HB := HB2
            clear HB2
            have HC := hmk _ HB.out
            refine ⟨HC, ?_⟩
            apply WZ.take (i := 11) (some 8) rfl rfl (by kernel_rfl) (by kernel_rfl) (by kernel_rfl) (calm_panic _) (by kernel_rfl)
            case hy => (refine .inl ⟨by kernel_rfl, fun W hC => ?_⟩; (try dsimp only at hC); go_simp; rfl)
            case hC => exact HC
            case ha => (simp only [Act.put, List.setIfInBounds_toArray, List.set_cons_zero, List.set_cons_succ]; rfl)
            refine WZ.done (by kernel_rfl) ?_ _
            simp only [Calm, Exit.then]
            have HS9 := Lib.hid (SBox.below HS4.out HB.out)
            obtain ⟨f0, f1, f2⟩ := HT9.out.cells
            clear HC hmk hCD
            go_wp2
            exact ⟨⟨i + 1, by first | rfl | go_num, by omega, Lib.hid (Run.next HGW.out (HBW.out.trans (HB.out.mono HBW.out.size)) HNS.out HS9.out ((HRS.out.below HB.out).more HB.out.size) HLENS.out HGOODS.out)⟩, by simp [intOf]; omega⟩
          · conv => arg 4; arg 1; whnf
            go_wp2_with fail
            have hMS := made_state HB.out HB.out.size
            try (have HR62 := Lib.hid (HR6.out.allocS (.cells #[.slice none 0 0, .int .u64 0, .int .u64 0] 30)); clear HR6; have HR6 := HR62; clear HR62)
            first
              | have HT := Lib.hid (show SBox (w4.drew.alloc (.cells #[.slice none 0 0, .int .u64 0, .int .u64 0] 30)) w4.heap.size none 0 0 0 0 from hMS.1)
              | have HT := Lib.hid hMS.1
            have HGE := Lib.hid hMS.2.2
            have HB2 := Lib.hid hMS.2.1
            clear HB HC hMS
            have HB := HB2
            clear HB2
            have HC := hmk _ HB.out
            refine ⟨HC, ?_⟩
            -- 5
            refine WZ.one (i := 5) rfl (by kernel_rfl) ?_
            conv => arg 4; arg 1; whnf
            go_wp2_with (go_at_call 12; refine (HAP.out _ HB.out).mono ?_; rintro e' w6 ⟨A6, c6, rfl, hr6, hb6⟩; have HR6 := Lib.hid hr6)
            try (have HT2 := Lib.hid (SBox.below HT.out hb6); clear HT; have HT := HT2; clear HT2)
            have HB2 := Lib.hid (HB.out.trans (hb6.mono HB.out.size))
            clear HB HC hb6 hr6
            have HB := HB2
            clear HB2
            have HC := hmk _ HB.out
            refine ⟨HC, ?_⟩
            apply WZ.take (i := 6) (some 38) rfl rfl (by kernel_rfl) (by kernel_rfl) (by kernel_rfl) (calm_panic _) (by kernel_rfl)
            case hy => (refine .inl ⟨by kernel_rfl, fun W hC => ?_⟩; (try dsimp only at hC); go_simp; rfl)
            case hC => exact HC
            case ha => (simp only [Act.put, List.setIfInBounds_toArray, List.set_cons_zero, List.set_cons_succ]; rfl)
            apply WZ.take (i := 7) (some 45) rfl rfl (by kernel_rfl) (by kernel_rfl) (by kernel_rfl) (calm_panic _) (by kernel_rfl)
            case hy => (refine .inl ⟨by kernel_rfl, fun W hC => ?_⟩; (try dsimp only at hC); go_simp; rfl)
            case hC => exact HC
            case ha => (simp only [Act.put, List.setIfInBounds_toArray, List.set_cons_zero, List.set_cons_succ]; rfl)
            apply WZ.take (i := 8) (some 46) rfl rfl (by kernel_rfl) (by kernel_rfl) (by kernel_rfl) (calm_panic _) (by kernel_rfl)
            case hy => (refine .inl ⟨by kernel_rfl, fun W hC => ?_⟩; (try dsimp only at hC); go_simp; rfl)
            case hC => exact HC
            case ha => (simp only [Act.put, List.setIfInBounds_toArray, List.set_cons_zero, List.set_cons_succ]; rfl)
            -- 10
            refine WZ.one (i := 10) rfl (by kernel_rfl) ?_
            conv => arg 4; arg 1; whnf
            go_wp2_with (refine wpList_store_mid rfl 30 (.tmp 7) (.tmp 45) rfl _ 0 (stC A6 K c6 X Y) rfl rfl HT.out.there (by kernel_rfl) (stC_one _ _ _ _ _) ?_; refine HT.out.setW A6 K c6 X Y HR6.out ?_; intro w9 HT9 HG9 HR9)
            have HB2 := Lib.hid (below_grown HB.out HB.out.size HG9.out HGE.out)
            clear HB HC HT HG9 HGE HR6
            have HB := HB2
            clear HB2
            have HC := hmk _ HB.out
            refine ⟨HC, ?_⟩
            apply WZ.take (i := 11) (some 8) rfl rfl (by kernel_rfl) (by kernel_rfl) (by kernel_rfl) (calm_panic _) (by kernel_rfl)
            case hy => (refine .inl ⟨by kernel_rfl, fun W hC => ?_⟩; (try dsimp only at hC); go_simp; rfl)
            case hC => exact HC
            case ha => (simp only [Act.put, List.setIfInBounds_toArray, List.set_cons_zero, List.set_cons_succ]; rfl)
            refine WZ.done (by kernel_rfl) ?_ _
            simp only [Calm, Exit.then]
            have HS9 := Lib.hid (SBox.below HS4.out HB.out)
            obtain ⟨f0, f1, f2⟩ := HT9.out.cells
            clear HC hmk hCD
            go_wp2
            exact ⟨⟨i + 1, by first | rfl | go_num, by omega, Lib.hid (Run.next HGW.out (HBW.out.trans (HB.out.mono HBW.out.size)) HNS.out HS9.out ((HRS.out.below HB.out).more HB.out.size) HLENS.out HGOODS.out)⟩, by simp [intOf]; omega⟩
    · have e1 : decide ((i : Int) < (N : Int)) = false := decide_eq_false (by omega)
      obtain ⟨hgw, hbw, S, A, c, nx, fl, hs, hr, hsl, hgood⟩ := HRUN.out
      obtain ⟨NS, hNS⟩ : ∃ n, S.length = n := ⟨_, rfl⟩
      rw [hNS] at hs hsl
      have HS := Lib.hid hs
      have HRS := Lib.hid hr
      have HBW := Lib.hid hbw
      have HGOOD := Lib.hid hgood
      have HNS := Lib.hid hNS
      have hn9 : OwnF (wr.alloc (.cells #[] 23)) wr.heap.size (some ⟨wr.heap.size, 0, none⟩) 0 0 [] := Own.new0' wr _ 5
      have HN9 := Lib.hid hn9
      have HB9 := Lib.hid (below_al wr (.cells #[] 23))
      clear hgw hbw hs hr hgood hNS HRUN hn9
      go_wp2
      clear e1
      go_loopw [9, 10] (fun v9 v10 wq => ∃ (k n9 : Nat) (A9 : Option Addr) (c9 : Nat), v9 = .slice A9 n9 c9 ∧ v10 = .int .i64 (k : Int) ∧ k ≤ 3 ∧ n9 ≤ k * NS ∧ Hid (OwnF wq wr.heap.size A9 n9 c9 (levelsOf S row k)) ∧ Hid (Below wr.heap.size wr wq)) (fun _ vk _ => 3 - (intOf vk).toNat)
      case atStart => exact ⟨0, 0, _, 0, rfl, rfl, by omega, Nat.zero_le _, HN9, HB9⟩
      case round =>
        obtain ⟨k, n9, A9, c9, rfl, rfl, hk, hk9, HO, HQ⟩ := hrel
        rename World => wq
        clear HN9 HB9
        obtain ⟨s0, s1, s2⟩ := (SBox.below HS.out HQ.out).cells
        have hrq := (HRS.out.below HQ.out).more HQ.out.size
        have hn9 : n9 ≤ 3000 := by
          have h1 := Nat.mul_le_mul hk (show NS ≤ 400 by omega)
          omega
        by_cases hk3 : k < 3
        · have e2 : decide ((k : Int) < 3) = true := decide_eq_true (by omega)
          have hov := over_at A c NS S nx fl (k : Int) row wq hrq HNS.out (by omega)
          have HOV := Lib.hid hov
          clear hov hrq
          go_wp2_with (first
            | (go_at_call 20; refine HOV.out.mono ?_; rintro e w6 ⟨A6, n6, c6, rfl, hn6, ho6, hb6⟩; have HO6 := Lib.hid ho6; have HB6 := Lib.hid hb6; obtain ⟨N9, hN9⟩ : ∃ q, n9 + n6 = q := ⟨_, rfl⟩; have HN9 := Lib.hid hN9; clear ho6 hb6 hN9)
            | (at_builtin; go_loud (refine files_app rfl _ _ rfl wr.heap.size A9 n9 c9 N9 (levelsOf S row k) (S.filter (onRows (k : Int) row row)) rfl (OwnF.below HO.out HB6.out) A6 n6 c6 rfl (Own.rd HO6.out (by omega)) (OwnF.len HO6.out) HN9.out (by have := HN9.out; omega) (Nat.le_trans HQ.out.size HB6.out.size) ?_); intro A8 c8 w8 HO8 HG8; have HB8 := Lib.hid (Own.grow (OwnF.below HO.out HB6.out) (HQ.out.trans (HB6.out.mono HQ.out.size)) (Nat.le_trans HQ.out.size HB6.out.size) (Nat.le_refl _) HG8.out)))
          exact ⟨⟨k + 1, N9, A8, c8, rfl, by first | rfl | go_num, by omega, by have := HN9.out; rw [Nat.succ_mul]; omega, HO8, HB8⟩, by simp [intOf]; omega⟩
        · have e2 : decide ((k : Int) < 3) = false := decide_eq_false (by omega)
          have hk4 : k = 3 := by omega
          have ho := HO.out
          rw [hk4, levelsOf_three HGOOD.out] at ho
          have HOF := Lib.hid ho
          have hfd := find_at A c NS S nx fl row wq hrq HNS.out (by omega)
          have hov := fun W (hb : Below wq.heap.size wq W) => over_none A c NS S nx fl row W ((hrq.below hb).more hb.size) HNS.out (by omega) HGOOD.out
          have HFD := Lib.hid hfd
          have HOV := Lib.hid hov
          clear ho hfd hov hrq hk4
          go_wp2_with (first
            | (go_at_call 18; refine HFD.out.mono ?_; rintro e w6 ⟨A6, n6, c6, rfl, hn6, ho6, hb6⟩; have HO6 := Lib.hid ho6; have HB6 := Lib.hid hb6; clear ho6 hb6)
            | (go_at_call 14; have M := HO6; clear M; refine (filesL_any A6 c6 n6 _ _ (Own.rd HO6.out (by omega)) (OwnF.len HO6.out) (by omega)).mono ?_; rintro e w7 ⟨A7, c7, rfl, ho7, hb7⟩; have HO7 := Lib.hid ho7; have HB7 := Lib.hid (HB6.out.trans (hb7.mono HB6.out.size)); have HL6 := Lib.hid (OwnF.len HO6.out); clear ho7 hb7 HO6)
            | (go_at_call 14; refine (filesL_any A9 c9 n9 _ _ (Own.rd (OwnF.below HOF.out HB7.out) (by omega)) (OwnF.len HOF.out) (by omega)).mono ?_; rintro e w8 ⟨A8, c8, rfl, ho8, hb8⟩; have HO8 := Lib.hid ho8; have HB8 := Lib.hid (HB7.out.trans (hb8.mono HB7.out.size)); have HO78 := Lib.hid (OwnR.below HO7.out hb8); clear ho8 hb8)
            | (go_at_call 13; refine (sameFiles_any A7 A8 c7 c8 n6 n9 _ _ _ _ (Own.rd HO78.out (by omega)) (Own.rd HO8.out (by omega)) (OwnR.len HO78.out) (OwnR.len HO8.out) (by omega) (by omega)).mono ?_; rw [decide_eq_true rfl]; rintro e wa ⟨rfl, hba⟩; have HBA := Lib.hid (HB8.out.trans (hba.mono HB8.out.size)); clear hba s0 s1 s2; obtain ⟨s0, s1, s2⟩ := (SBox.below (SBox.below HS.out HQ.out) HBA.out).cells)
            | (go_at_call 20; refine (HOV.out _ HBA.out).mono ?_; rintro e wb ⟨Ab, cb, rfl, hbb⟩; have HBB := Lib.hid (HBA.out.trans (hbb.mono HBA.out.size)); clear hbb))
          go_ret
          exact ⟨rfl, (HBW.out.trans (HQ.out.mono HBW.out.size)).trans (HBB.out.mono (Nat.le_trans HBW.out.size HQ.out.size))⟩
end Go.Proofs.Ytaeemeoffnhgfaa
