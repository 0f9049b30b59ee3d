/-
  The walk of the law TabletBytes. No conditions.
-/
import Derived.Test.YtiiogdgnccgehaaSameCmd19
import Derived.Test.YtiiogdgnccgehaaRefDecD19
import Derived.Test.YtiiogdgnccgehaaJK
namespace Go.Proofs.Ytiiogdgnccgehaa
open Go.RowKit
attribute [local go_sem ↓] Go.wp_at_zero Go.wp_at_succ
set_option maxRecDepth 100000 in
set_option maxHeartbeats 4000000 in
theorem bytes_bad (c : Cmd) (A : Option Addr) (k : Nat) (D : Option Addr) (m : Nat) (t : ByteArray) (w : World) (hin : CmdIn w w.heap.size c A k D m) (hbd : bndC c = false) :
    Calls Try.prog 3 #[.agg (c.vs A k D m).toArray, .string t] w fun e w' => e = .returned (.bool true) ∧ Below w.heap.size w w' := by
  have HX := Lib.hid (Blk.new 27 w (c.vs A k D m))
  have HB := Lib.hid (below_al w (.cells (c.vs A k D m).toArray 27))
  have HIN := Lib.hid hin
  clear hin
  go_enter Try.func3, Try.ntmps3
  go_wp2_with (first
    | ((with_reducible show wpList _ _ _ ({ dst := some 15, op := Op.load _ _, type := _, pos := _, after := _, guard := _ } :: _) _ _); go_loud (refine wpList_load_mid rfl 27 (.tmp 2) rfl w.heap.size 0 rfl (c.vs A k D m) _ HX.out.range Try.underlying27 rfl (by kernel_rfl) ?_))
    | (go_at_call 10; go_loud (refine (bounded_any c A k D m _ (HIN.out.grown HB.out)).mono ?_); rw [hbd]; rintro e w1 ⟨rfl, hb1⟩; have HB1 := Lib.hid (HB.out.trans (hb1.mono HB.out.size)); have HX1 := Lib.hid (HX.out.below hb1 HX.out.lt); clear hb1)
    | (go_at_call 11; go_loud (refine (shown_any _).mono ?_); rintro e w2 ⟨rfl, hb2⟩; have HB2 := Lib.hid (HB1.out.trans (hb2.mono HB1.out.size)); have HX2 := Lib.hid (HX1.out.below hb2 HX1.out.lt); clear hb2)
    )
  go_ret
  exact ⟨rfl, HB2.out⟩
set_option maxRecDepth 100000 in
set_option maxHeartbeats 4000000 in
theorem bytes_long (c : Cmd) (A : Option Addr) (k : Nat) (D : Option Addr) (m : Nat) (t : ByteArray) (w : World) (hin : CmdIn w w.heap.size c A k D m) (hbd : bndC c = true) (ht : 600 < t.size) :
    Calls Try.prog 3 #[.agg (c.vs A k D m).toArray, .string t] w fun e w' => e = .returned (.bool true) ∧ Below w.heap.size w w' := by
  have e1 : decide ((600 : Int) < (t.size : Int)) = true := decide_eq_true (by omega)
  have HX := Lib.hid (Blk.new 27 w (c.vs A k D m))
  have HB := Lib.hid (below_al w (.cells (c.vs A k D m).toArray 27))
  have HIN := Lib.hid hin
  clear hin
  go_enter Try.func3, Try.ntmps3
  go_wp2_with (first
    | ((with_reducible show wpList _ _ _ ({ dst := some 15, op := Op.load _ _, type := _, pos := _, after := _, guard := _ } :: _) _ _); go_loud (refine wpList_load_mid rfl 27 (.tmp 2) rfl w.heap.size 0 rfl (c.vs A k D m) _ HX.out.range Try.underlying27 rfl (by kernel_rfl) ?_))
    | (go_at_call 10; go_loud (refine (bounded_any c A k D m _ (HIN.out.grown HB.out)).mono ?_); rw [hbd]; rintro e w1 ⟨rfl, hb1⟩; have HB1 := Lib.hid (HB.out.trans (hb1.mono HB.out.size)); have HX1 := Lib.hid (HX.out.below hb1 HX.out.lt); clear hb1)
    | (go_at_call 11; go_loud (refine (shown_any _).mono ?_); rintro e w2 ⟨rfl, hb2⟩; have HB2 := Lib.hid (HB1.out.trans (hb2.mono HB1.out.size)); have HX2 := Lib.hid (HX1.out.below hb2 HX1.out.lt); clear hb2)
    )
  go_ret
  exact ⟨rfl, HB2.out⟩
set_option maxRecDepth 100000 in
set_option maxHeartbeats 8000000 in
theorem bytes_any (c : Cmd) (A : Option Addr) (k : Nat) (D : Option Addr) (m : Nat) (t : ByteArray) (w : World) (hin : CmdIn w w.heap.size c A k D m) (hfc : fitsC c) (hbd : bndC c = true) (ht : t.size ≤ 600) :
    Calls Try.prog 3 #[.agg (c.vs A k D m).toArray, .string t] w fun e w' => e = .returned (.bool true) ∧ Below w.heap.size w w' := by
  have e1 : decide ((600 : Int) < (t.size : Int)) = false := decide_eq_false (by omega)
  have HX := Lib.hid (Blk.new 27 w (c.vs A k D m))
  have HB := Lib.hid (below_al w (.cells (c.vs A k D m).toArray 27))
  have HIN := Lib.hid hin
  clear hin
  have hsz := encT_size c
  have hcs := encC_cases c
  obtain ⟨⟨S, E⟩, hS⟩ : ∃ p, encC c = p := ⟨_, rfl⟩
  rw [hS] at hsz hcs
  have HEN := Lib.hid hS
  have HCS := Lib.hid hcs
  have HFC := Lib.hid hfc
  obtain ⟨⟨X, G⟩, hdm⟩ : ∃ r, decC t = r := ⟨_, rfl⟩
  have HDM := Lib.hid hdm
  clear hS hdm hcs hfc
  go_enter Try.func3, Try.ntmps3
  go_upto_region 3 with (first
    | ((with_reducible show wpList _ _ _ ({ dst := some 15, op := Op.load _ _, type := _, pos := _, after := _, guard := _ } :: _) _ _); go_loud (refine wpList_load_mid rfl 27 (.tmp 2) rfl w.heap.size 0 rfl (c.vs A k D m) _ HX.out.range Try.underlying27 rfl (by kernel_rfl) ?_))
    | (go_at_call 10; go_loud (refine (bounded_any c A k D m _ (HIN.out.grown HB.out)).mono ?_); rw [hbd]; rintro e w1 ⟨rfl, hb1⟩; have HB1 := Lib.hid (HB.out.trans (hb1.mono HB.out.size)); have HX1 := Lib.hid (HX.out.below hb1 HX.out.lt); clear hb1)
    | (go_at_call 11; go_loud (refine (shown_any _).mono ?_); rintro e w2 ⟨rfl, hb2⟩; have HB2 := Lib.hid (HB1.out.trans (hb2.mono HB1.out.size)); have HX2 := Lib.hid (HX1.out.below hb2 HX1.out.lt); clear hb2)
    )
  clear e1 hbd
  have HDCM := Lib.hid (fun W => by have := decode_any t W (by omega); unfold DecOut at this; rw [HDM.out] at this; exact this)
  have HDCR := Lib.hid (fun W => by have := refDecode_any t W (by omega); unfold DecOut at this; rw [HDM.out] at this; exact this)
  have HENC := Lib.hid (fun W h => by have := encode_any c A k D m W h; rw [HEN.out] at this; exact this)
  have HENR := Lib.hid (fun W h => by have := refEncode_any c A k D m W h HFC.out; rw [HEN.out] at this; exact this)
  go_upto_region 7 with (first
    | ((with_reducible show wpList _ _ _ ({ dst := none, op := Op.store _ (Operand.tmp 11) _, type := _, pos := _, after := _, guard := _ } :: _) _ _); go_loud (refine wpList_store_mid rfl 34 (.tmp 11) (.tmp 47) rfl w8.heap.size 0 (X.vs A6 k6 D6 m6).toArray rfl rfl (there_madeB 34 w8 zcv 9 (Nat.le_refl _)) (by kernel_rfl) (by simp [Value.oneCell', Cmd.vs]) ?_); refine Blk.madeW 34 w8 zcv (X.vs A6 k6 D6 m6) rfl ?_; intro w9 HE9 HB9)
    | (go_at_call 16; have hq := HB7.out; clear hq; go_loud (refine (HDCR.out _).mono ?_); rintro e w8 ⟨A6, k6, D6, m6, rfl, hci, hb, _, _⟩; have HB8 := Lib.hid hb; have HI6 := Lib.hid hci; clear hci hb)
    | ((with_reducible show wpList _ _ _ ({ dst := none, op := Op.store _ (Operand.tmp 9) _, type := _, pos := _, after := _, guard := _ } :: _) _ _); go_loud (refine wpList_store_mid rfl 27 (.tmp 9) (.tmp 42) rfl w6.heap.size 0 (X.vs A5 k5 D5 m5).toArray rfl rfl (there_madeB 27 w6 zcv 9 (Nat.le_refl _)) (by kernel_rfl) (by simp [Value.oneCell', Cmd.vs]) ?_); refine Blk.madeW 27 w6 zcv (X.vs A5 k5 D5 m5) rfl ?_; intro w7 HE7 HB7)
    | (go_at_call 15; have hq := HB5.out; clear hq; go_loud (refine (HDCM.out _).mono ?_); rintro e w6 ⟨A5, k5, D5, m5, rfl, hci, hb, _, _⟩; have HB6 := Lib.hid (HB5.out.trans (hb.mono HB5.out.size)); have HX6 := Lib.hid (HX5.out.below hb HX5.out.lt); have HI5 := Lib.hid hci; clear hci hb)
    | (go_at_call 13; have hq := HB4.out; clear hq; go_loud (refine (HENR.out _ (HIN.out.grown HB4.out)).mono ?_); rintro e w5 ⟨rfl, hb⟩; have HB5 := Lib.hid (HB4.out.trans (hb.mono HB4.out.size)); have HX5 := Lib.hid (HX4.out.below hb HX4.out.lt); clear hb)
    | (go_at_call 14; have hq := HB3.out; clear hq; go_loud (refine (its_any c A k D m _).mono ?_); rintro e w4 ⟨rfl, hb⟩; have HB4 := Lib.hid (HB3.out.trans (hb.mono HB3.out.size)); have HX4 := Lib.hid (HX3.out.below hb HX3.out.lt); clear hb)
    | ((with_reducible show wpList _ _ _ ({ dst := some 34, op := Op.load _ _, type := _, pos := _, after := _, guard := _ } :: _) _ _); go_loud (refine wpList_load_mid rfl 27 (.tmp 2) rfl w.heap.size 0 rfl (c.vs A k D m) _ HX3.out.range Try.underlying27 rfl (by kernel_rfl) ?_))
    | (go_at_call 12; have hq := HB2.out; clear hq; go_loud (refine (HENC.out _ (HIN.out.grown HB2.out)).mono ?_); rintro e w3 ⟨rfl, hb⟩; have HB3 := Lib.hid (HB2.out.trans (hb.mono HB2.out.size)); have HX3 := Lib.hid (HX2.out.below hb HX2.out.lt); clear hb)
    | ((with_reducible show wpList _ _ _ ({ dst := some 29, op := Op.load _ _, type := _, pos := _, after := _, guard := _ } :: _) _ _); go_loud (refine wpList_load_mid rfl 27 (.tmp 2) rfl w.heap.size 0 rfl (c.vs A k D m) _ HX2.out.range Try.underlying27 rfl (by kernel_rfl) ?_)))
  have HG9 := Lib.hid (((HE7.out.below HB8.out HE7.out.lt).below HB9.out (Nat.lt_of_lt_of_le HE7.out.lt HB8.out.size)))
  have HBL := Lib.hid (HB6.out.trans ((HB7.out.mono HB6.out.size).trans ((HB8.out.mono (Nat.le_trans HB6.out.size HB7.out.size)).trans (HB9.out.mono (Nat.le_trans HB6.out.size (Nat.le_trans HB7.out.size HB8.out.size))))))
  have HXE := Lib.hid (((HX6.out.below HB7.out HX6.out.lt).below HB8.out (Nat.lt_of_lt_of_le HX6.out.lt HB7.out.size)).below HB9.out (Nat.lt_of_lt_of_le HX6.out.lt (Nat.le_trans HB7.out.size HB8.out.size)))
  have HI59 := Lib.hid (((HI5.out.grown HB7.out).grown HB8.out).grown HB9.out)
  have HI69 := Lib.hid (HI6.out.grown HB9.out)
  have HSE := Lib.hid (fun W (hb : Below w9.heap.size w9 W) => sameCommand_true X A5 k5 D5 m5 A6 k6 D6 m6 W (HI59.out.grown hb) (HI69.out.grown hb))
  obtain ⟨CC, hCD⟩ : ∃ CC : World → Prop, ∀ W, CC W ↔ Below w9.heap.size w9 W := ⟨fun W => Below w9.heap.size w9 W, fun W => Iff.rfl⟩
  have hmk : ∀ W, Below w9.heap.size w9 W → W.rangeAt w6.heap.size 0 (X.vs A5 k5 D5 m5) ∧ W.rangeAt w8.heap.size 0 (X.vs A6 k6 D6 m6) ∧ CC W := fun W hb => ⟨(HG9.out.below hb HG9.out.lt).range, (HE9.out.below hb HE9.out.lt).range, (hCD W).2 hb⟩
  have HBZ := Lib.hid ((Below.refl w9.heap.size w9).drew)
  have HC := hmk _ HBZ.out
  clear HI5 HI6 HE7 HB7 HB8 HB9 HDCM HDCR HB6 HB5 HX5 HX4 HX3 HB4 HB3 HX2 HB2 HX1 HB1 HX6 HENC HENR
  refine region_wz (fun W => W.rangeAt w6.heap.size 0 (X.vs A5 k5 D5 m5) ∧ W.rangeAt w8.heap.size 0 (X.vs A6 k6 D6 m6) ∧ CC W) none (by kernel_rfl) ?_
  apply WZ.take (i := 0) (some 49) rfl rfl (by kernel_rfl) (by kernel_rfl) (by kernel_rfl) (calm_panic _) (by kernel_rfl)
  case hy => (refine .inl ⟨by kernel_rfl, fun W hC => ?_⟩; (try dsimp only at hC); go_simp; (try simp only [bne_self_eq_false]); rfl)
  case hC => exact HC
  case ha => (simp only [Act.put, List.setIfInBounds_toArray, List.set_cons_zero, List.set_cons_succ]; rfl)
  apply WZ.take (i := 1) (some 50) rfl rfl (by kernel_rfl) (by kernel_rfl) (by kernel_rfl) (calm_panic _) (by kernel_rfl)
  case hy => (refine .inl ⟨by kernel_rfl, fun W hC => ?_⟩; (try dsimp only at hC); go_simp; (try simp only [bne_self_eq_false]); rfl)
  case hC => exact HC
  case ha => (simp only [Act.put, List.setIfInBounds_toArray, List.set_cons_zero, List.set_cons_succ]; rfl)
  apply WZ.take (i := 2) (some 51) rfl rfl (by kernel_rfl) (by kernel_rfl) (by kernel_rfl) (calm_panic _) (by kernel_rfl)
  case hy => (refine .inl ⟨by kernel_rfl, fun W hC => ?_⟩; (try dsimp only at hC); go_simp; (try simp only [bne_self_eq_false]); rfl)
  case hC => exact HC
  case ha => (simp only [Act.put, List.setIfInBounds_toArray, List.set_cons_zero, List.set_cons_succ]; rfl)
  apply WZ.take (i := 3) (some 52) rfl rfl (by kernel_rfl) (by kernel_rfl) (by kernel_rfl) (calm_panic _) (by kernel_rfl)
  case hy => (refine .inl ⟨by kernel_rfl, fun W hC => ?_⟩; (try dsimp only at hC); go_simp; (try simp only [bne_self_eq_false]); rfl)
  case hC => exact HC
  case ha => (simp only [Act.put, List.setIfInBounds_toArray, List.set_cons_zero, List.set_cons_succ]; rfl)
  apply WZ.take (i := 4) (some 53) rfl rfl (by kernel_rfl) (by kernel_rfl) (by kernel_rfl) (calm_panic _) (by kernel_rfl)
  case hy => (refine .inl ⟨by kernel_rfl, fun W hC => ?_⟩; (try dsimp only at hC); go_simp; (try simp only [bne_self_eq_false]); rfl)
  case hC => exact HC
  case ha => (simp only [Act.put, List.setIfInBounds_toArray, List.set_cons_zero, List.set_cons_succ]; rfl)
  apply WZ.take (i := 5) (some 54) rfl rfl (by kernel_rfl) (by kernel_rfl) (by kernel_rfl) (calm_panic _) (by kernel_rfl)
  case hy => (refine .inl ⟨by kernel_rfl, fun W hC => ?_⟩; (try dsimp only at hC); go_simp; (try simp only [bne_self_eq_false]); rfl)
  case hC => exact HC
  case ha => (simp only [Act.put, List.setIfInBounds_toArray, List.set_cons_zero, List.set_cons_succ]; rfl)
  apply WZ.take (i := 6) (some 55) rfl rfl (by kernel_rfl) (by kernel_rfl) (by kernel_rfl) (calm_panic _) (by kernel_rfl)
  case hy => (refine .inl ⟨by kernel_rfl, fun W hC => ?_⟩; (try dsimp only at hC); go_simp; (try simp only [bne_self_eq_false]); rfl)
  case hC => exact HC
  case ha => (simp only [Act.put, List.setIfInBounds_toArray, List.set_cons_zero, List.set_cons_succ]; rfl)
  apply WZ.take (i := 7) (some 56) rfl rfl (by kernel_rfl) (by kernel_rfl) (by kernel_rfl) (calm_panic _) (by kernel_rfl)
  case hy => (refine .inl ⟨by kernel_rfl, fun W hC => ?_⟩; (try dsimp only at hC); go_simp; (try simp only [bne_self_eq_false]); rfl)
  case hC => exact HC
  case ha => (simp only [Act.put, List.setIfInBounds_toArray, List.set_cons_zero, List.set_cons_succ]; rfl)
  apply WZ.take (i := 8) (some 57) rfl rfl (by kernel_rfl) (by kernel_rfl) (by kernel_rfl) (calm_panic _) (by kernel_rfl)
  case hy => (refine .inl ⟨by kernel_rfl, fun W hC => ?_⟩; (try dsimp only at hC); go_simp; (try simp only [bne_self_eq_false]); rfl)
  case hC => exact HC
  case ha => (simp only [Act.put, List.setIfInBounds_toArray, List.set_cons_zero, List.set_cons_succ]; rfl)
  apply WZ.take (i := 9) (some 58) rfl rfl (by kernel_rfl) (by kernel_rfl) (by kernel_rfl) (calm_panic _) (by kernel_rfl)
  case hy => first | (apply yieldsIf_load_mid (by kernel_rfl) _ _ rfl _ _ rfl; (case hS => (intro W hC; exact hC.1)); (case hu => exact Try.underlying27); (case hd => rfl); (case hi => kernel_rfl)) | (apply yieldsIf_load_mid (by kernel_rfl) _ _ rfl _ _ rfl; (case hS => (intro W hC; exact hC.2.1)); (case hu => exact Try.underlying27); (case hd => rfl); (case hi => kernel_rfl)) | (apply yieldsIf_load_mid (by kernel_rfl) _ _ rfl _ _ rfl; (case hS => (intro W hC; exact hC.2.2.1)); (case hu => exact Try.underlying27); (case hd => rfl); (case hi => kernel_rfl)) | (apply yieldsIf_load_mid (by kernel_rfl) _ _ rfl _ _ rfl; (case hS => (intro W hC; exact hC.2.2.2.1)); (case hu => exact Try.underlying27); (case hd => rfl); (case hi => kernel_rfl)) | (apply yieldsIf_load_mid (by kernel_rfl) _ _ rfl _ _ rfl; (case hS => (intro W hC; exact hC.2.2.2)); (case hu => exact Try.underlying27); (case hd => rfl); (case hi => kernel_rfl)) | (apply yieldsIf_load_mid (by kernel_rfl) _ _ rfl _ _ rfl; (case hS => (intro W hC; exact hC.2.2)); (case hu => exact Try.underlying27); (case hd => rfl); (case hi => kernel_rfl)) | (apply yieldsIf_load_mid (by kernel_rfl) _ _ rfl _ _ rfl; (case hS => (intro W hC; exact hC.2)); (case hu => exact Try.underlying27); (case hd => rfl); (case hi => kernel_rfl)) | (apply yieldsIf_load_mid (by kernel_rfl) _ _ rfl _ _ rfl; (case hS => (intro W hC; exact hC)); (case hu => exact Try.underlying27); (case hd => rfl); (case hi => kernel_rfl))
  case hC => exact HC
  case ha => (simp only [Act.put, List.setIfInBounds_toArray, List.set_cons_zero, List.set_cons_succ]; rfl)
  apply WZ.take (i := 11) (some 60) rfl rfl (by kernel_rfl) (by kernel_rfl) (by kernel_rfl) (calm_panic _) (by kernel_rfl)
  case hy => first | (apply yieldsIf_load_mid (by kernel_rfl) _ _ rfl _ _ rfl; (case hS => (intro W hC; exact hC.1)); (case hu => exact Try.underlying34); (case hd => rfl); (case hi => kernel_rfl)) | (apply yieldsIf_load_mid (by kernel_rfl) _ _ rfl _ _ rfl; (case hS => (intro W hC; exact hC.2.1)); (case hu => exact Try.underlying34); (case hd => rfl); (case hi => kernel_rfl)) | (apply yieldsIf_load_mid (by kernel_rfl) _ _ rfl _ _ rfl; (case hS => (intro W hC; exact hC.2.2.1)); (case hu => exact Try.underlying34); (case hd => rfl); (case hi => kernel_rfl)) | (apply yieldsIf_load_mid (by kernel_rfl) _ _ rfl _ _ rfl; (case hS => (intro W hC; exact hC.2.2.2.1)); (case hu => exact Try.underlying34); (case hd => rfl); (case hi => kernel_rfl)) | (apply yieldsIf_load_mid (by kernel_rfl) _ _ rfl _ _ rfl; (case hS => (intro W hC; exact hC.2.2.2)); (case hu => exact Try.underlying34); (case hd => rfl); (case hi => kernel_rfl)) | (apply yieldsIf_load_mid (by kernel_rfl) _ _ rfl _ _ rfl; (case hS => (intro W hC; exact hC.2.2)); (case hu => exact Try.underlying34); (case hd => rfl); (case hi => kernel_rfl)) | (apply yieldsIf_load_mid (by kernel_rfl) _ _ rfl _ _ rfl; (case hS => (intro W hC; exact hC.2)); (case hu => exact Try.underlying34); (case hd => rfl); (case hi => kernel_rfl)) | (apply yieldsIf_load_mid (by kernel_rfl) _ _ rfl _ _ rfl; (case hS => (intro W hC; exact hC)); (case hu => exact Try.underlying34); (case hd => rfl); (case hi => kernel_rfl))
  case hC => exact HC
  case ha => (simp only [Act.put, List.setIfInBounds_toArray, List.set_cons_zero, List.set_cons_succ]; rfl)
  -- 10
  refine WZ.one (i := 10) rfl (by kernel_rfl) ?_
  conv => arg 4; arg 1; whnf
  go_wp2_with (go_at_call 14; go_loud (refine (its_any X A5 k5 D5 m5 _).mono ?_); rintro e' w9 ⟨rfl, hb9⟩)
  have HBY := Lib.hid (HBZ.out.trans (hb9.mono HBZ.out.size))
  clear HBZ HC hb9
  have HBZ := HBY
  clear HBY
  have HC := hmk _ HBZ.out
  refine ⟨HC, ?_⟩
  -- 12
  refine WZ.one (i := 12) rfl (by kernel_rfl) ?_
  conv => arg 4; arg 1; whnf
  go_wp2_with (go_at_call 17; go_loud (refine (HSE.out _ HBZ.out).mono ?_); rintro e' w10 ⟨rfl, hb9⟩)
  have HBY := Lib.hid (HBZ.out.trans (hb9.mono HBZ.out.size))
  clear HBZ HC hb9
  have HBZ := HBY
  clear HBY
  have HC := hmk _ HBZ.out
  refine ⟨HC, ?_⟩
  apply WZ.take (i := 13) (some 62) rfl rfl (by kernel_rfl) (by kernel_rfl) (by kernel_rfl) (calm_panic _) (by kernel_rfl)
  case hy => (refine .inl ⟨by kernel_rfl, fun W hC => ?_⟩; (try dsimp only at hC); go_simp; (try simp only [bne_self_eq_false]); rfl)
  case hC => exact HC
  case ha => (simp only [Act.put, List.setIfInBounds_toArray, List.set_cons_zero, List.set_cons_succ]; rfl)
  apply WZ.take (i := 14) (some 63) rfl rfl (by kernel_rfl) (by kernel_rfl) (by kernel_rfl) (calm_panic _) (by kernel_rfl)
  case hy => (refine .inl ⟨by kernel_rfl, fun W hC => ?_⟩; (try dsimp only at hC); go_simp; (try simp only [bne_self_eq_false]); rfl)
  case hC => exact HC
  case ha => (simp only [Act.put, List.setIfInBounds_toArray, List.set_cons_zero, List.set_cons_succ]; rfl)
  apply WZ.take (i := 15) (some 64) rfl rfl (by kernel_rfl) (by kernel_rfl) (by kernel_rfl) (calm_panic _) (by kernel_rfl)
  case hy => (refine .inl ⟨by kernel_rfl, fun W hC => ?_⟩; (try dsimp only at hC); go_simp; (try simp only [bne_self_eq_false]); rfl)
  case hC => exact HC
  case ha => (simp only [Act.put, List.setIfInBounds_toArray, List.set_cons_zero, List.set_cons_succ]; rfl)
  apply WZ.take (i := 16) (some 65) rfl rfl (by kernel_rfl) (by kernel_rfl) (by kernel_rfl) (calm_panic _) (by kernel_rfl)
  case hy => (refine .inl ⟨by kernel_rfl, fun W hC => ?_⟩; (try dsimp only at hC); go_simp; (try simp only [bne_self_eq_false]); rfl)
  case hC => exact HC
  case ha => (simp only [Act.put, List.setIfInBounds_toArray, List.set_cons_zero, List.set_cons_succ]; rfl)
  apply WZ.take (i := 17) (some 66) rfl rfl (by kernel_rfl) (by kernel_rfl) (by kernel_rfl) (calm_panic _) (by kernel_rfl)
  case hy => (refine .inl ⟨by kernel_rfl, fun W hC => ?_⟩; (try dsimp only at hC); go_simp; (try simp only [bne_self_eq_false]); rfl)
  case hC => exact HC
  case ha => (simp only [Act.put, List.setIfInBounds_toArray, List.set_cons_zero, List.set_cons_succ]; rfl)
  apply WZ.take (i := 18) (some 67) rfl rfl (by kernel_rfl) (by kernel_rfl) (by kernel_rfl) (calm_panic _) (by kernel_rfl)
  case hy => (refine .inl ⟨by kernel_rfl, fun W hC => ?_⟩; (try dsimp only at hC); go_simp; (try simp only [bne_self_eq_false]); rfl)
  case hC => exact HC
  case ha => (simp only [Act.put, List.setIfInBounds_toArray, List.set_cons_zero, List.set_cons_succ]; rfl)
  apply WZ.take (i := 19) (some 68) rfl rfl (by kernel_rfl) (by kernel_rfl) (by kernel_rfl) (calm_panic _) (by kernel_rfl)
  case hy => (refine .inl ⟨by kernel_rfl, fun W hC => ?_⟩; (try dsimp only at hC); go_simp; (try simp only [bne_self_eq_false]); rfl)
  case hC => exact HC
  case ha => (simp only [Act.put, List.setIfInBounds_toArray, List.set_cons_zero, List.set_cons_succ]; rfl)
  refine WZ.done (by kernel_rfl) ?_ _
  simp only [Calm, Exit.then]
  have HBK := Lib.hid (HBL.out.trans (HBZ.out.mono HBL.out.size))
  have HXK := Lib.hid (HXE.out.below HBZ.out HXE.out.lt)
  clear HC hmk hCD HBZ HSE HBL HXE HG9 HE9 HI59 HI69
  by_cases hE : E = 0
  · have hne : (E != 0) = false := by simp [hE]
    have hEN := HEN.out
    rw [hE] at hEN
    have hde := decC_of HFC.out hEN
    have HDS := Lib.hid (fun W => by have := decode_any S W (by omega); unfold DecOut at this; rw [hde] at this; exact this)
    clear hEN hde
    go_upto_region 12 with (first
      | ((with_reducible show wpList _ _ _ ({ dst := none, op := Op.store _ (Operand.tmp 13) _, type := _, pos := _, after := _, guard := _ } :: _) _ _); go_loud (refine wpList_store_mid rfl 27 (.tmp 13) (.tmp 76) rfl w11.heap.size 0 (c.vs A7 k7 D7 m7).toArray rfl rfl (there_madeB 27 w11 zcv 9 (Nat.le_refl _)) (by kernel_rfl) (by simp [Value.oneCell', Cmd.vs]) ?_); refine Blk.madeW 27 w11 zcv (c.vs A7 k7 D7 m7) rfl ?_; intro w12 HE12 HB12)
      | (go_at_call 15; go_loud (refine (HDS.out _).mono ?_); rintro e w11 ⟨A7, k7, D7, m7, rfl, hci, hb, _, _⟩; have HB11 := Lib.hid (HBK.out.trans (hb.mono HBK.out.size)); have HX11 := Lib.hid (HXK.out.below hb HXK.out.lt); have HI7 := Lib.hid hci; clear hci hb))
    have HBQ := Lib.hid (HB11.out.trans (HB12.out.mono HB11.out.size))
    have HXQ := Lib.hid (HX11.out.below HB12.out HX11.out.lt)
    have HI79 := Lib.hid (HI7.out.grown HB12.out)
    have HI9 := Lib.hid (HIN.out.grown HBQ.out)
    have HSE := Lib.hid (fun W (hb : Below w12.heap.size w12 W) => sameCommand_true c A7 k7 D7 m7 A k D m W (HI79.out.grown hb) (HI9.out.grown hb))
    obtain ⟨CC, hCD⟩ : ∃ CC : World → Prop, ∀ W, CC W ↔ Below w12.heap.size w12 W := ⟨fun W => Below w12.heap.size w12 W, fun W => Iff.rfl⟩
    have hmk : ∀ W, Below w12.heap.size w12 W → W.rangeAt w11.heap.size 0 (c.vs A7 k7 D7 m7) ∧ W.rangeAt w.heap.size 0 (c.vs A k D m) ∧ CC W := fun W hb => ⟨(HE12.out.below hb HE12.out.lt).range, (HXQ.out.below hb HXQ.out.lt).range, (hCD W).2 hb⟩
    have HBZ := Lib.hid ((Below.refl w12.heap.size w12).drew)
    have HC := hmk _ HBZ.out
    clear HI7 HB11 HX11 HB12 HXK HBK HDS
    refine region_wz (fun W => W.rangeAt w11.heap.size 0 (c.vs A7 k7 D7 m7) ∧ W.rangeAt w.heap.size 0 (c.vs A k D m) ∧ CC W) none (by kernel_rfl) ?_
    apply WZ.take (i := 0) (some 78) rfl rfl (by kernel_rfl) (by kernel_rfl) (by kernel_rfl) (calm_panic _) (by kernel_rfl)
    case hy => (refine .inl ⟨by kernel_rfl, fun W hC => ?_⟩; (try dsimp only at hC); go_simp; rfl)
    case hC => exact HC
    case ha => (simp only [Act.put, List.setIfInBounds_toArray, List.set_cons_zero, List.set_cons_succ]; rfl)
    apply WZ.take (i := 1) (some 79) rfl rfl (by kernel_rfl) (by kernel_rfl) (by kernel_rfl) (calm_panic _) (by kernel_rfl)
    case hy => (refine .inl ⟨by kernel_rfl, fun W hC => ?_⟩; (try dsimp only at hC); go_simp; rfl)
    case hC => exact HC
    case ha => (simp only [Act.put, List.setIfInBounds_toArray, List.set_cons_zero, List.set_cons_succ]; rfl)
    apply WZ.take (i := 2) (some 80) rfl rfl (by kernel_rfl) (by kernel_rfl) (by kernel_rfl) (calm_panic _) (by kernel_rfl)
    case hy => (refine .inl ⟨by kernel_rfl, fun W hC => ?_⟩; (try dsimp only at hC); go_simp; rfl)
    case hC => exact HC
    case ha => (simp only [Act.put, List.setIfInBounds_toArray, List.set_cons_zero, List.set_cons_succ]; rfl)
    apply WZ.take (i := 3) (some 81) rfl rfl (by kernel_rfl) (by kernel_rfl) (by kernel_rfl) (calm_panic _) (by kernel_rfl)
    case hy => first | (apply yieldsIf_load_mid (by kernel_rfl) _ _ rfl _ _ rfl; (case hS => (intro W hC; exact hC.1)); (case hu => exact Try.underlying27); (case hd => rfl); (case hi => kernel_rfl)) | (apply yieldsIf_load_mid (by kernel_rfl) _ _ rfl _ _ rfl; (case hS => (intro W hC; exact hC.2.1)); (case hu => exact Try.underlying27); (case hd => rfl); (case hi => kernel_rfl)) | (apply yieldsIf_load_mid (by kernel_rfl) _ _ rfl _ _ rfl; (case hS => (intro W hC; exact hC.2.2.1)); (case hu => exact Try.underlying27); (case hd => rfl); (case hi => kernel_rfl)) | (apply yieldsIf_load_mid (by kernel_rfl) _ _ rfl _ _ rfl; (case hS => (intro W hC; exact hC.2.2.2.1)); (case hu => exact Try.underlying27); (case hd => rfl); (case hi => kernel_rfl)) | (apply yieldsIf_load_mid (by kernel_rfl) _ _ rfl _ _ rfl; (case hS => (intro W hC; exact hC.2.2.2)); (case hu => exact Try.underlying27); (case hd => rfl); (case hi => kernel_rfl)) | (apply yieldsIf_load_mid (by kernel_rfl) _ _ rfl _ _ rfl; (case hS => (intro W hC; exact hC.2.2)); (case hu => exact Try.underlying27); (case hd => rfl); (case hi => kernel_rfl)) | (apply yieldsIf_load_mid (by kernel_rfl) _ _ rfl _ _ rfl; (case hS => (intro W hC; exact hC.2)); (case hu => exact Try.underlying27); (case hd => rfl); (case hi => kernel_rfl)) | (apply yieldsIf_load_mid (by kernel_rfl) _ _ rfl _ _ rfl; (case hS => (intro W hC; exact hC)); (case hu => exact Try.underlying27); (case hd => rfl); (case hi => kernel_rfl))
    case hC => exact HC
    case ha => (simp only [Act.put, List.setIfInBounds_toArray, List.set_cons_zero, List.set_cons_succ]; rfl)
    apply WZ.take (i := 5) (some 83) rfl rfl (by kernel_rfl) (by kernel_rfl) (by kernel_rfl) (calm_panic _) (by kernel_rfl)
    case hy => first | (apply yieldsIf_load_mid (by kernel_rfl) _ _ rfl _ _ rfl; (case hS => (intro W hC; exact hC.1)); (case hu => exact Try.underlying27); (case hd => rfl); (case hi => kernel_rfl)) | (apply yieldsIf_load_mid (by kernel_rfl) _ _ rfl _ _ rfl; (case hS => (intro W hC; exact hC.2.1)); (case hu => exact Try.underlying27); (case hd => rfl); (case hi => kernel_rfl)) | (apply yieldsIf_load_mid (by kernel_rfl) _ _ rfl _ _ rfl; (case hS => (intro W hC; exact hC.2.2.1)); (case hu => exact Try.underlying27); (case hd => rfl); (case hi => kernel_rfl)) | (apply yieldsIf_load_mid (by kernel_rfl) _ _ rfl _ _ rfl; (case hS => (intro W hC; exact hC.2.2.2.1)); (case hu => exact Try.underlying27); (case hd => rfl); (case hi => kernel_rfl)) | (apply yieldsIf_load_mid (by kernel_rfl) _ _ rfl _ _ rfl; (case hS => (intro W hC; exact hC.2.2.2)); (case hu => exact Try.underlying27); (case hd => rfl); (case hi => kernel_rfl)) | (apply yieldsIf_load_mid (by kernel_rfl) _ _ rfl _ _ rfl; (case hS => (intro W hC; exact hC.2.2)); (case hu => exact Try.underlying27); (case hd => rfl); (case hi => kernel_rfl)) | (apply yieldsIf_load_mid (by kernel_rfl) _ _ rfl _ _ rfl; (case hS => (intro W hC; exact hC.2)); (case hu => exact Try.underlying27); (case hd => rfl); (case hi => kernel_rfl)) | (apply yieldsIf_load_mid (by kernel_rfl) _ _ rfl _ _ rfl; (case hS => (intro W hC; exact hC)); (case hu => exact Try.underlying27); (case hd => rfl); (case hi => kernel_rfl))
    case hC => exact HC
    case ha => (simp only [Act.put, List.setIfInBounds_toArray, List.set_cons_zero, List.set_cons_succ]; rfl)
    -- 4
    refine WZ.one (i := 4) rfl (by kernel_rfl) ?_
    conv => arg 4; arg 1; whnf
    go_wp2_with (go_at_call 14; go_loud (refine (its_any c A7 k7 D7 m7 _).mono ?_); rintro e' w13 ⟨rfl, hb9⟩)
    have HBY := Lib.hid (HBZ.out.trans (hb9.mono HBZ.out.size))
    clear HBZ HC hb9
    have HBZ := HBY
    clear HBY
    have HC := hmk _ HBZ.out
    refine ⟨HC, ?_⟩
    -- 6
    refine WZ.one (i := 6) rfl (by kernel_rfl) ?_
    conv => arg 4; arg 1; whnf
    go_wp2_with (go_at_call 14; go_loud (refine (its_any c A k D m _).mono ?_); rintro e' w14 ⟨rfl, hb9⟩)
    have HBY := Lib.hid (HBZ.out.trans (hb9.mono HBZ.out.size))
    clear HBZ HC hb9
    have HBZ := HBY
    clear HBY
    have HC := hmk _ HBZ.out
    refine ⟨HC, ?_⟩
    -- 7
    refine WZ.one (i := 7) rfl (by kernel_rfl) ?_
    conv => arg 4; arg 1; whnf
    go_wp2_with (go_at_call 17; go_loud (refine (HSE.out _ HBZ.out).mono ?_); rintro e' w15 ⟨rfl, hb9⟩)
    have HBY := Lib.hid (HBZ.out.trans (hb9.mono HBZ.out.size))
    clear HBZ HC hb9
    have HBZ := HBY
    clear HBY
    have HC := hmk _ HBZ.out
    refine ⟨HC, ?_⟩
    apply WZ.take (i := 8) (some 86) rfl rfl (by kernel_rfl) (by kernel_rfl) (by kernel_rfl) (calm_panic _) (by kernel_rfl)
    case hy => (refine .inl ⟨by kernel_rfl, fun W hC => ?_⟩; (try dsimp only at hC); go_simp; rfl)
    case hC => exact HC
    case ha => (simp only [Act.put, List.setIfInBounds_toArray, List.set_cons_zero, List.set_cons_succ]; rfl)
    apply WZ.take (i := 9) (some 4) rfl rfl (by kernel_rfl) (by kernel_rfl) (by kernel_rfl) (calm_panic _) (by kernel_rfl)
    case hy => (refine .inl ⟨by kernel_rfl, fun W hC => ?_⟩; (try dsimp only at hC); go_simp; rfl)
    case hC => exact HC
    case ha => (simp only [Act.put, List.setIfInBounds_toArray, List.set_cons_zero, List.set_cons_succ]; rfl)
    refine WZ.done (by kernel_rfl) ?_ _
    simp only [Calm, Exit.then]
    have HBF := Lib.hid (HBQ.out.trans (HBZ.out.mono HBQ.out.size))
    clear HC hmk hCD HBZ
    go_wp2
    go_ret
    exact ⟨rfl, HBF.out⟩
  · have hne : (E != 0) = true := by simp [hE]
    have hSe : S = ⟨#[]⟩ := by
      rcases HCS.out with h | h
      · exact absurd h.1 hE
      · exact h.2
    subst hSe
    go_wp2
    go_ret
    exact ⟨rfl, HBK.out⟩
end Go.Proofs.Ytiiogdgnccgehaa
