/-
  The walk of the reference's Decode at splits. No conditions.
-/
import Derived.Test.YtiiogdgnccgehaaRefDec19
namespace Go.Proofs.Ytiiogdgnccgehaa
open Go.RowKit
attribute [local go_sem ↓] Go.wp_at_zero Go.wp_at_succ

set_option maxRecDepth 100000 in
set_option maxHeartbeats 16000000 in
theorem refDecode_2 (t : ByteArray) (w : World) (ht : t.size ≤ 100000) (hk2 : numR t 0 1 = 2) : Calls Try.prog 16 #[.string t] w (DecOut t w) := by
  obtain ⟨M, hM⟩ : ∃ M, min 2 t.size = M := ⟨_, rfl⟩
  have hrow : t.extract (min 2 t.size) t.size = t.extract M t.size := by rw [hM]
  have HPR := Lib.hid (show parseR t = some ⟨2, 0, 0, [], t.extract M t.size, 0, 0, 0, []⟩ by unfold parseR; rw [if_neg (by omega), if_pos hk2, hrow])
  have HP1 := Lib.hid hk2
  have hmi : min (2 : Int) (t.size : Int) = (M : Int) := by omega
  have g4 : (M : Int) ≤ (t.size : Int) := by omega
  have g5 : (0 : Int) ≤ (M : Int) := by omega
  clear hk2 hrow hM
  obtain ⟨⟨S, E⟩, hS⟩ : ∃ p, encC ⟨2, 0, 0, [], t.extract M t.size, 0, 0, 0, []⟩ = p := ⟨_, rfl⟩
  have HEN := Lib.hid hS
  clear hS
  by_cases hE : E = 0
  · have hne : (E != 0) = false := by simp [hE]
    by_cases hSt : S = t
    · have HES := Lib.hid (show encC ⟨2, 0, 0, [], t.extract M t.size, 0, 0, 0, []⟩ = (t, 0) by rw [HEN.out, hE, hSt])
      have hs1 : (S.toList == t.toList) = true := by rw [hSt]; exact beq_self_eq_true _
      clear hE hSt
      go_enter Try.func16, Try.ntmps16
      go_upto_region 16 with (go_at_call 42; go_loud (refine (refnumZ t (za := 0) (zn := 1) 0 1 rfl rfl 2 HP1.out _ (by omega) (by omega) (by omega)).mono ?_); rintro e w1 ⟨rfl, hb⟩; have HV0 := Lib.hid (RDV.start hb [.int .i64 2, .int .u64 0, .int .u64 0, .slice none 0 0, .string ⟨#[]⟩, .int .u64 0, .int .u32 0, .int .u64 0, .slice none 0 0]); clear hb)
      generalize hW1 : w1.alloc _ = W1
      have hv : RDV w W1 w1.heap.size [.int .i64 2, .int .u64 0, .int .u64 0, .slice none 0 0, .string ⟨#[]⟩, .int .u64 0, .int .u32 0, .int .u64 0, .slice none 0 0] := by rw [← hW1]; exact HV0.out
      have c4 := hv.v.cell (j := 4) rfl
      have f4 := hv.v.free 4
      have HV := Lib.hid (hv.set 4 (.string (t.extract M t.size)))
      clear hW1 HV0 hv
      go_upto_region 25 with fail
      clear c4 f4
      go_wp2_with (first
        | (show wpList _ _ _ ({ dst := some 94, op := Op.load _ _, type := _, pos := _, after := _, guard := _ } :: _) _ _; go_loud (refine wpList_load_mid rfl 34 (.tmp 4) rfl w1.heap.size 0 rfl [.int .i64 2, .int .u64 0, .int .u64 0, .slice none 0 0, .string (t.extract M t.size), .int .u64 0, .int .u32 0, .int .u64 0, .slice none 0 0] _ HV.out.v.range Try.underlying34 rfl (by kernel_rfl) ?_))
        | (go_at_call 13; go_loud (refine (refEncode_any ⟨2, 0, 0, [], t.extract M t.size, 0, 0, 0, []⟩ none 0 none 0 _ (nil_in _ _ _ rfl rfl) (parseR_fits HPR.out)).mono ?_); rw [HEN.out]; rintro e w17 ⟨rfl, hb⟩; have HB17 := Lib.hid hb; have HV17 := Lib.hid (HV.out.below hb); clear hb)
        | (show wpList _ _ _ ({ dst := none, op := Op.store _ (Operand.tmp 2) (Operand.tmp 105), type := _, pos := _, after := _, guard := _ } :: _) _ _; go_loud (refine wpList_store_mid rfl 34 (.tmp 2) (.tmp 105) rfl w.heap.size 0 #[.int .i64 0, .int .u64 0, .int .u64 0, .slice none 0 0, .string ⟨#[]⟩, .int .u64 0, .int .u32 0, .int .u64 0, .slice none 0 0] rfl rfl (HV17.out.z.there 9 (Nat.le_refl _)) (by kernel_rfl) (by simp [Value.oneCell']) ?_; refine HV17.out.z.setW zcv rfl ?_; intro w18 HZ18 HG18))
        | (show wpList _ _ _ ({ dst := some 106, op := Op.load _ _, type := _, pos := _, after := _, guard := _ } :: _) _ _; go_loud (refine wpList_load_mid rfl 34 (.tmp 4) rfl w1.heap.size 0 rfl [.int .i64 2, .int .u64 0, .int .u64 0, .slice none 0 0, .string (t.extract M t.size), .int .u64 0, .int .u32 0, .int .u64 0, .slice none 0 0] _ HV17.out.v.range Try.underlying34 rfl (by kernel_rfl) ?_))
        | (show wpList _ _ _ ({ dst := none, op := Op.store _ (Operand.tmp 2) (Operand.tmp 106), type := _, pos := _, after := _, guard := _ } :: _) _ _; go_loud (refine wpList_store_mid rfl 34 (.tmp 2) (.tmp 106) rfl w.heap.size 0 #[.int .i64 2, .int .u64 0, .int .u64 0, .slice none 0 0, .string (t.extract M t.size), .int .u64 0, .int .u32 0, .int .u64 0, .slice none 0 0] rfl rfl (HV17.out.z.there 9 (Nat.le_refl _)) (by kernel_rfl) (by simp [Value.oneCell']) ?_; refine HV17.out.z.setW [.int .i64 2, .int .u64 0, .int .u64 0, .slice none 0 0, .string (t.extract M t.size), .int .u64 0, .int .u32 0, .int .u64 0, .slice none 0 0] rfl ?_; intro w18 HZ18 HG18)))
      (try simp only [Exit.inBlock, Exit.then])
      refine bodyPost_ret (blk_results rfl Try.underlying34 rfl _ _ w.heap.size _ (by kernel_rfl) _ rfl rfl HZ18.out) rfl ?_
      exact rdec_fin (c := ⟨2, 0, 0, [], t.extract M t.size, 0, 0, 0, []⟩) (A := none) (k := 0) (D := none) (m := 0) HPR.out HES.out (nil_in _ _ _ rfl rfl) (below_grown HV17.out.bl HV17.out.bl.size HG18.out (Nat.le_refl _)) (by first | (intro b h; cases h; done) | (intro b h; have := (Own.lt HO.out _ h).1; have := HV.out.lt; omega)) (by first | (intro b h; cases h; done) | (intro b h; have := (Own.lt HO.out _ h).1; have := HV.out.lt; omega))
    · have hs1 : (S.toList == t.toList) = false := by rw [beq_eq_false_iff_ne]; exact fun h => hSt (toList_inj h)
      have HNE := Lib.hid (show S ≠ t from hSt)
      clear hE hSt
      go_enter Try.func16, Try.ntmps16
      go_upto_region 16 with (go_at_call 42; go_loud (refine (refnumZ t (za := 0) (zn := 1) 0 1 rfl rfl 2 HP1.out _ (by omega) (by omega) (by omega)).mono ?_); rintro e w1 ⟨rfl, hb⟩; have HV0 := Lib.hid (RDV.start hb [.int .i64 2, .int .u64 0, .int .u64 0, .slice none 0 0, .string ⟨#[]⟩, .int .u64 0, .int .u32 0, .int .u64 0, .slice none 0 0]); clear hb)
      generalize hW1 : w1.alloc _ = W1
      have hv : RDV w W1 w1.heap.size [.int .i64 2, .int .u64 0, .int .u64 0, .slice none 0 0, .string ⟨#[]⟩, .int .u64 0, .int .u32 0, .int .u64 0, .slice none 0 0] := by rw [← hW1]; exact HV0.out
      have c4 := hv.v.cell (j := 4) rfl
      have f4 := hv.v.free 4
      have HV := Lib.hid (hv.set 4 (.string (t.extract M t.size)))
      clear hW1 HV0 hv
      go_upto_region 25 with fail
      clear c4 f4
      go_wp2_with (first
        | (show wpList _ _ _ ({ dst := some 94, op := Op.load _ _, type := _, pos := _, after := _, guard := _ } :: _) _ _; go_loud (refine wpList_load_mid rfl 34 (.tmp 4) rfl w1.heap.size 0 rfl [.int .i64 2, .int .u64 0, .int .u64 0, .slice none 0 0, .string (t.extract M t.size), .int .u64 0, .int .u32 0, .int .u64 0, .slice none 0 0] _ HV.out.v.range Try.underlying34 rfl (by kernel_rfl) ?_))
        | (go_at_call 13; go_loud (refine (refEncode_any ⟨2, 0, 0, [], t.extract M t.size, 0, 0, 0, []⟩ none 0 none 0 _ (nil_in _ _ _ rfl rfl) (parseR_fits HPR.out)).mono ?_); rw [HEN.out]; rintro e w17 ⟨rfl, hb⟩; have HB17 := Lib.hid hb; have HV17 := Lib.hid (HV.out.below hb); clear hb)
        | (show wpList _ _ _ ({ dst := none, op := Op.store _ (Operand.tmp 2) (Operand.tmp 105), type := _, pos := _, after := _, guard := _ } :: _) _ _; go_loud (refine wpList_store_mid rfl 34 (.tmp 2) (.tmp 105) rfl w.heap.size 0 #[.int .i64 0, .int .u64 0, .int .u64 0, .slice none 0 0, .string ⟨#[]⟩, .int .u64 0, .int .u32 0, .int .u64 0, .slice none 0 0] rfl rfl (HV17.out.z.there 9 (Nat.le_refl _)) (by kernel_rfl) (by simp [Value.oneCell']) ?_; refine HV17.out.z.setW zcv rfl ?_; intro w18 HZ18 HG18))
        | (show wpList _ _ _ ({ dst := some 106, op := Op.load _ _, type := _, pos := _, after := _, guard := _ } :: _) _ _; go_loud (refine wpList_load_mid rfl 34 (.tmp 4) rfl w1.heap.size 0 rfl [.int .i64 2, .int .u64 0, .int .u64 0, .slice none 0 0, .string (t.extract M t.size), .int .u64 0, .int .u32 0, .int .u64 0, .slice none 0 0] _ HV17.out.v.range Try.underlying34 rfl (by kernel_rfl) ?_))
        | (show wpList _ _ _ ({ dst := none, op := Op.store _ (Operand.tmp 2) (Operand.tmp 106), type := _, pos := _, after := _, guard := _ } :: _) _ _; go_loud (refine wpList_store_mid rfl 34 (.tmp 2) (.tmp 106) rfl w.heap.size 0 #[.int .i64 2, .int .u64 0, .int .u64 0, .slice none 0 0, .string (t.extract M t.size), .int .u64 0, .int .u32 0, .int .u64 0, .slice none 0 0] rfl rfl (HV17.out.z.there 9 (Nat.le_refl _)) (by kernel_rfl) (by simp [Value.oneCell']) ?_; refine HV17.out.z.setW [.int .i64 2, .int .u64 0, .int .u64 0, .slice none 0 0, .string (t.extract M t.size), .int .u64 0, .int .u32 0, .int .u64 0, .slice none 0 0] rfl ?_; intro w18 HZ18 HG18)))
      (try simp only [Exit.inBlock, Exit.then])
      refine bodyPost_ret (blk_results rfl Try.underlying34 rfl _ _ w.heap.size _ (by kernel_rfl) _ rfl rfl HZ18.out) rfl ?_
      exact dec_bad (rdec_not HPR.out HEN.out (by first | exact .inl HNE.out | exact .inr HNE.out)) (below_grown HV17.out.bl HV17.out.bl.size HG18.out (Nat.le_refl _))
  · have hne : (E != 0) = true := by simp [hE]
    have HNE := Lib.hid (show E ≠ 0 from hE)
    clear hE
    go_enter Try.func16, Try.ntmps16
    go_upto_region 16 with (go_at_call 42; go_loud (refine (refnumZ t (za := 0) (zn := 1) 0 1 rfl rfl 2 HP1.out _ (by omega) (by omega) (by omega)).mono ?_); rintro e w1 ⟨rfl, hb⟩; have HV0 := Lib.hid (RDV.start hb [.int .i64 2, .int .u64 0, .int .u64 0, .slice none 0 0, .string ⟨#[]⟩, .int .u64 0, .int .u32 0, .int .u64 0, .slice none 0 0]); clear hb)
    generalize hW1 : w1.alloc _ = W1
    have hv : RDV w W1 w1.heap.size [.int .i64 2, .int .u64 0, .int .u64 0, .slice none 0 0, .string ⟨#[]⟩, .int .u64 0, .int .u32 0, .int .u64 0, .slice none 0 0] := by rw [← hW1]; exact HV0.out
    have c4 := hv.v.cell (j := 4) rfl
    have f4 := hv.v.free 4
    have HV := Lib.hid (hv.set 4 (.string (t.extract M t.size)))
    clear hW1 HV0 hv
    go_upto_region 25 with fail
    clear c4 f4
    go_wp2_with (first
      | (show wpList _ _ _ ({ dst := some 94, op := Op.load _ _, type := _, pos := _, after := _, guard := _ } :: _) _ _; go_loud (refine wpList_load_mid rfl 34 (.tmp 4) rfl w1.heap.size 0 rfl [.int .i64 2, .int .u64 0, .int .u64 0, .slice none 0 0, .string (t.extract M t.size), .int .u64 0, .int .u32 0, .int .u64 0, .slice none 0 0] _ HV.out.v.range Try.underlying34 rfl (by kernel_rfl) ?_))
      | (go_at_call 13; go_loud (refine (refEncode_any ⟨2, 0, 0, [], t.extract M t.size, 0, 0, 0, []⟩ none 0 none 0 _ (nil_in _ _ _ rfl rfl) (parseR_fits HPR.out)).mono ?_); rw [HEN.out]; rintro e w17 ⟨rfl, hb⟩; have HB17 := Lib.hid hb; have HV17 := Lib.hid (HV.out.below hb); clear hb)
      | (show wpList _ _ _ ({ dst := none, op := Op.store _ (Operand.tmp 2) (Operand.tmp 105), type := _, pos := _, after := _, guard := _ } :: _) _ _; go_loud (refine wpList_store_mid rfl 34 (.tmp 2) (.tmp 105) rfl w.heap.size 0 #[.int .i64 0, .int .u64 0, .int .u64 0, .slice none 0 0, .string ⟨#[]⟩, .int .u64 0, .int .u32 0, .int .u64 0, .slice none 0 0] rfl rfl (HV17.out.z.there 9 (Nat.le_refl _)) (by kernel_rfl) (by simp [Value.oneCell']) ?_; refine HV17.out.z.setW zcv rfl ?_; intro w18 HZ18 HG18))
      | (show wpList _ _ _ ({ dst := some 106, op := Op.load _ _, type := _, pos := _, after := _, guard := _ } :: _) _ _; go_loud (refine wpList_load_mid rfl 34 (.tmp 4) rfl w1.heap.size 0 rfl [.int .i64 2, .int .u64 0, .int .u64 0, .slice none 0 0, .string (t.extract M t.size), .int .u64 0, .int .u32 0, .int .u64 0, .slice none 0 0] _ HV17.out.v.range Try.underlying34 rfl (by kernel_rfl) ?_))
      | (show wpList _ _ _ ({ dst := none, op := Op.store _ (Operand.tmp 2) (Operand.tmp 106), type := _, pos := _, after := _, guard := _ } :: _) _ _; go_loud (refine wpList_store_mid rfl 34 (.tmp 2) (.tmp 106) rfl w.heap.size 0 #[.int .i64 2, .int .u64 0, .int .u64 0, .slice none 0 0, .string (t.extract M t.size), .int .u64 0, .int .u32 0, .int .u64 0, .slice none 0 0] rfl rfl (HV17.out.z.there 9 (Nat.le_refl _)) (by kernel_rfl) (by simp [Value.oneCell']) ?_; refine HV17.out.z.setW [.int .i64 2, .int .u64 0, .int .u64 0, .slice none 0 0, .string (t.extract M t.size), .int .u64 0, .int .u32 0, .int .u64 0, .slice none 0 0] rfl ?_; intro w18 HZ18 HG18)))
    (try simp only [Exit.inBlock, Exit.then])
    refine bodyPost_ret (blk_results rfl Try.underlying34 rfl _ _ w.heap.size _ (by kernel_rfl) _ rfl rfl HZ18.out) rfl ?_
    exact dec_bad (rdec_not HPR.out HEN.out (by first | exact .inl HNE.out | exact .inr HNE.out)) (below_grown HV17.out.bl HV17.out.bl.size HG18.out (Nat.le_refl _))
end Go.Proofs.Ytiiogdgnccgehaa
