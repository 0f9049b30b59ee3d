/-
  The walk of the reference's Decode of a cell. No conditions.
-/
import Derived.Test.YtiiogdgnccgehaaRefRead19
namespace Go.Proofs.Ytiiogdgnccgehaa
open Go.RowKit
attribute [local go_sem ↓] Go.wp_at_zero Go.wp_at_succ

/-- the answer's variable (nothing yet) and the cell, made behind w -/
structure RDS (w W : World) (vs : List Value) : Prop where
  bl : Below w.heap.size w W
  z : Blk 75 W w.heap.size zv
  v : Blk 75 W (w.heap.size + 1) vs
section
variable {w W W' : World} {vs : List Value}
theorem RDS.below (h : RDS w W vs) (hb : Below W.heap.size W W') : RDS w W' vs := ⟨h.bl.trans (hb.mono h.bl.size), h.z.below hb h.z.lt, h.v.below hb h.v.lt⟩
theorem RDS.set (h : RDS w W vs) (j : Nat) (x : Value) : RDS w (W.setCell ⟨w.heap.size + 1, j, none⟩ x) (vs.set j x) :=
  ⟨h.bl.grown (grown_set W _ j x) h.bl.size (fun k hk => by injection hk; omega), h.z.grown (grown_set W _ j x) (fun e => by injection e; omega), h.v.set j x⟩
theorem RDS.start (w : World) : RDS w ((w.alloc (.cells zv.toArray 75)).alloc (.cells zv.toArray 75)) zv := by
  have hb1 := Blk.new 75 w zv
  have hb2 := below_al (w.alloc (.cells zv.toArray 75)) (.cells zv.toArray 75)
  have hb3 := Blk.new 75 (w.alloc (.cells zv.toArray 75)) zv
  rw [World.size_alloc] at hb3
  exact ⟨(below_al w _).trans (hb2.mono (by rw [World.size_alloc]; omega)), hb1.below hb2 hb1.lt, hb3⟩
end
theorem shortV_some {s x r : ByteArray} (h : shortR s = some (x, r)) : shortV s = .tuple #[.string x, .string r, .bool true] := by unfold shortV; rw [h]
theorem shortV_none {s : ByteArray} (h : shortR s = none) : shortV s = .tuple #[.string ⟨#[]⟩, .string ⟨#[]⟩, .bool false] := by unfold shortV; rw [h]
def RDOut (s : ByteArray) (w : World) (e : Ending) (w' : World) : Prop := ∃ (v : Cl) (r : ByteArray) (E : Int), e = .returned (.tuple #[v.agg, .string r, .int .i64 E]) ∧ Below w.heap.size w w' ∧ ((E = 0 ∧ refCellP s = some (v, r)) ∨ (E ≠ 0 ∧ refCellP s = none))
theorem rd_out {w w' : World} {s r : ByteArray} {v : Cl} {E : Int} (hb : Below w.heap.size w w') (h : (E = 0 ∧ refCellP s = some (v, r)) ∨ (E ≠ 0 ∧ refCellP s = none)) : RDOut s w (.returned (.tuple #[v.agg, .string r, .int .i64 E])) w' := ⟨v, r, E, rfl, hb, h⟩
set_option maxRecDepth 100000 in
set_option maxHeartbeats 16000000 in
theorem refcellDec_any (s : ByteArray) (w : World) (hs : s.size ≤ 100000) :
    Calls Try.prog 43 #[.string s] w (RDOut s w) := by
  have hv0 := RDS.start w
  unfold zv at hv0
  have HV0 := Lib.hid hv0
  clear hv0
  cases h1 : shortR s with
  | none =>
    have HP1 := Lib.hid (shortV_none h1)
    have HNO := Lib.hid (show refCellP s = none by unfold refCellP; simp only [h1])
    clear h1
    go_enter Try.func43, Try.ntmps43
    go_wp2_with (first
      | (show wpList _ _ _ ({ dst := none, op := Op.store _ (Operand.tmp 2) _, type := _, pos := _, after := _, guard := _ } :: _) _ _; go_loud (refine wpList_store_mid rfl 75 (.tmp 2) (.tmp 21) rfl w.heap.size 0 #[.string ⟨#[]⟩, .string ⟨#[]⟩, .int .u64 0, .int .u64 0, .bool false, .string ⟨#[]⟩] rfl rfl (HV1.out.z.there 6 (Nat.le_refl _)) (by kernel_rfl) (by simp [Value.oneCell']) ?_; refine HV1.out.z.setW [.string ⟨#[]⟩, .string ⟨#[]⟩, .int .u64 0, .int .u64 0, .bool false, .string ⟨#[]⟩] rfl ?_; intro w9 HZ9 HG9))
      | (show wpList _ _ _ ({ dst := some 71, op := Op.load _ _, type := _, pos := _, after := _, guard := _ } :: _) _ _; go_loud (refine wpList_load_mid rfl 75 (.tmp 5) rfl (w.heap.size + 1) 0 rfl [.string row, .string col, .int .u64 ts, .int .u64 sq, .bool del, .string val] _ HV8.out.v.range Try.underlying75 rfl (by kernel_rfl) ?_))
      | (go_at_call 28; go_loud (refine (refMay_any ⟨row, col, ts, sq, del, val⟩ _).mono ?_; rintro e w8 ⟨rfl, hb⟩; simp only [HM.out]; have HV8 := Lib.hid (HV6.out.below hb); clear hb HV6))
      | (show wpList _ _ _ ({ dst := some 67, op := Op.load _ _, type := _, pos := _, after := _, guard := _ } :: _) _ _; go_loud (refine wpList_load_mid rfl 75 (.tmp 5) rfl (w.heap.size + 1) 0 rfl [.string row, .string col, .int .u64 ts, .int .u64 sq, .bool del, .string val] _ HV6.out.v.range Try.underlying75 rfl (by kernel_rfl) ?_))
      | (have hgate := HV4; clear hgate; go_at_call 64; refine (refshort_any (s2.extract 17 s2.size) _ HS.out.2.2.1).mono ?_; rw [HP3.out]; rintro e w7 ⟨rfl, hb⟩; have hv5 := HV4.out.below hb; have c5 := hv5.v.cell (j := 5) rfl; have f5 := hv5.v.free 5; have HV5 := Lib.hid hv5; have HV6 := Lib.hid (hv5.set 5 (.string val)); clear hb HV4 hv5)
      | (have hgate := HV4; clear hgate; go_at_call 64; refine (refshort_any (s2.extract 17 s2.size) _ HS.out.2.2.1).mono ?_; rw [HP3.out]; rintro e w7 ⟨rfl, hb⟩; have HV5 := Lib.hid (HV4.out.below hb); clear hb HV4)
      | (have hgate := HV2c; clear hgate; go_at_call 65; refine (refvalue_any (s2.extract 8 s2.size) _ HS.out.2.2.2.1 HS.out.2.2.2.2.1).mono ?_; rw [HQ.out.2]; rintro e w6 ⟨rfl, hb⟩; have hv3 := HV2c.out.below hb; have c3 := hv3.v.cell (j := 3) rfl; have f3 := hv3.v.free 3; have c4 := hv3.v.cell (j := 4) rfl; have f4 := hv3.v.free 4; have HV3 := Lib.hid (hv3.set 3 (.int .u64 sq)); have HV4 := Lib.hid (HV3.out.set 4 (.bool del)); clear hb HV2c hv3)
      | (have hgate := HV2b; clear hgate; go_at_call 65; refine (refvalue_any s2 _ HS.out.2.2.2.2.2 HS.out.2.1).mono ?_; rw [HQ.out.1]; rintro e w5 ⟨rfl, hb⟩; have hv2 := HV2b.out.below hb; have c2 := hv2.v.cell (j := 2) rfl; have f2 := hv2.v.free 2; have HV2c := Lib.hid (hv2.set 2 (.int .u64 ts)); clear hb HV2b hv2)
      | (have hgate := HV1; clear hgate; go_at_call 64; refine (refshort_any s1 _ HS.out.1).mono ?_; rw [HP2.out]; rintro e w4 ⟨rfl, hb⟩; have hv1 := HV1.out.below hb; have c0 := hv1.v.cell (j := 0) rfl; have f0 := hv1.v.free 0; have c1 := hv1.v.cell (j := 1) rfl; have f1 := hv1.v.free 1; have HV2 := Lib.hid hv1; have HV2b := Lib.hid ((hv1.set 0 (.string row)).set 1 (.string col)); clear hb HV1 hv1)
      | (have hgate := HV1; clear hgate; go_at_call 64; refine (refshort_any s1 _ HS.out.1).mono ?_; rw [HP2.out]; rintro e w4 ⟨rfl, hb⟩; have HV2 := Lib.hid (HV1.out.below hb); clear hb HV1)
      | (go_at_call 64; go_loud (refine (refshort_any s _ (by omega)).mono ?_); rw [HP1.out]; rintro e w3 ⟨rfl, hb⟩; have HV1 := Lib.hid (HV0.out.below hb); clear hb HV0))
    (try simp only [Exit.inBlock, Exit.then])
    refine bodyPost_ret (blk_results2 rfl Try.underlying75 rfl _ _ w.heap.size _ (by kernel_rfl) _ _ rfl rfl rfl HZ9.out) rfl ?_
    exact rd_out (v := ⟨⟨#[]⟩, ⟨#[]⟩, 0, 0, false, ⟨#[]⟩⟩) (below_grown HV1.out.bl HV1.out.bl.size HG9.out (Nat.le_refl _)) (.inr ⟨by omega, HNO.out⟩)
  | some p1 =>
  obtain ⟨row, s1⟩ := p1
  have HP1 := Lib.hid (shortV_some h1)
  have z1 := (shortR_size h1).1
  cases h2 : shortR s1 with
  | none =>
    have HP2 := Lib.hid (shortV_none h2)
    have HNO := Lib.hid (show refCellP s = none by unfold refCellP; simp only [h1, h2])
    have HS := Lib.hid (show s1.size ≤ 1000000 ∧ True from ⟨by omega, trivial⟩)
    clear h1 h2
    go_enter Try.func43, Try.ntmps43
    go_wp2_with (first
      | (show wpList _ _ _ ({ dst := none, op := Op.store _ (Operand.tmp 2) _, type := _, pos := _, after := _, guard := _ } :: _) _ _; go_loud (refine wpList_store_mid rfl 75 (.tmp 2) (.tmp 35) rfl w.heap.size 0 #[.string ⟨#[]⟩, .string ⟨#[]⟩, .int .u64 0, .int .u64 0, .bool false, .string ⟨#[]⟩] rfl rfl (HV2.out.z.there 6 (Nat.le_refl _)) (by kernel_rfl) (by simp [Value.oneCell']) ?_; refine HV2.out.z.setW [.string ⟨#[]⟩, .string ⟨#[]⟩, .int .u64 0, .int .u64 0, .bool false, .string ⟨#[]⟩] rfl ?_; intro w9 HZ9 HG9))
      | (show wpList _ _ _ ({ dst := some 71, op := Op.load _ _, type := _, pos := _, after := _, guard := _ } :: _) _ _; go_loud (refine wpList_load_mid rfl 75 (.tmp 5) rfl (w.heap.size + 1) 0 rfl [.string row, .string col, .int .u64 ts, .int .u64 sq, .bool del, .string val] _ HV8.out.v.range Try.underlying75 rfl (by kernel_rfl) ?_))
      | (go_at_call 28; go_loud (refine (refMay_any ⟨row, col, ts, sq, del, val⟩ _).mono ?_; rintro e w8 ⟨rfl, hb⟩; simp only [HM.out]; have HV8 := Lib.hid (HV6.out.below hb); clear hb HV6))
      | (show wpList _ _ _ ({ dst := some 67, op := Op.load _ _, type := _, pos := _, after := _, guard := _ } :: _) _ _; go_loud (refine wpList_load_mid rfl 75 (.tmp 5) rfl (w.heap.size + 1) 0 rfl [.string row, .string col, .int .u64 ts, .int .u64 sq, .bool del, .string val] _ HV6.out.v.range Try.underlying75 rfl (by kernel_rfl) ?_))
      | (have hgate := HV4; clear hgate; go_at_call 64; refine (refshort_any (s2.extract 17 s2.size) _ HS.out.2.2.1).mono ?_; rw [HP3.out]; rintro e w7 ⟨rfl, hb⟩; have hv5 := HV4.out.below hb; have c5 := hv5.v.cell (j := 5) rfl; have f5 := hv5.v.free 5; have HV5 := Lib.hid hv5; have HV6 := Lib.hid (hv5.set 5 (.string val)); clear hb HV4 hv5)
      | (have hgate := HV4; clear hgate; go_at_call 64; refine (refshort_any (s2.extract 17 s2.size) _ HS.out.2.2.1).mono ?_; rw [HP3.out]; rintro e w7 ⟨rfl, hb⟩; have HV5 := Lib.hid (HV4.out.below hb); clear hb HV4)
      | (have hgate := HV2c; clear hgate; go_at_call 65; refine (refvalue_any (s2.extract 8 s2.size) _ HS.out.2.2.2.1 HS.out.2.2.2.2.1).mono ?_; rw [HQ.out.2]; rintro e w6 ⟨rfl, hb⟩; have hv3 := HV2c.out.below hb; have c3 := hv3.v.cell (j := 3) rfl; have f3 := hv3.v.free 3; have c4 := hv3.v.cell (j := 4) rfl; have f4 := hv3.v.free 4; have HV3 := Lib.hid (hv3.set 3 (.int .u64 sq)); have HV4 := Lib.hid (HV3.out.set 4 (.bool del)); clear hb HV2c hv3)
      | (have hgate := HV2b; clear hgate; go_at_call 65; refine (refvalue_any s2 _ HS.out.2.2.2.2.2 HS.out.2.1).mono ?_; rw [HQ.out.1]; rintro e w5 ⟨rfl, hb⟩; have hv2 := HV2b.out.below hb; have c2 := hv2.v.cell (j := 2) rfl; have f2 := hv2.v.free 2; have HV2c := Lib.hid (hv2.set 2 (.int .u64 ts)); clear hb HV2b hv2)
      | (have hgate := HV1; clear hgate; go_at_call 64; refine (refshort_any s1 _ HS.out.1).mono ?_; rw [HP2.out]; rintro e w4 ⟨rfl, hb⟩; have hv1 := HV1.out.below hb; have c0 := hv1.v.cell (j := 0) rfl; have f0 := hv1.v.free 0; have c1 := hv1.v.cell (j := 1) rfl; have f1 := hv1.v.free 1; have HV2 := Lib.hid hv1; have HV2b := Lib.hid ((hv1.set 0 (.string row)).set 1 (.string col)); clear hb HV1 hv1)
      | (have hgate := HV1; clear hgate; go_at_call 64; refine (refshort_any s1 _ HS.out.1).mono ?_; rw [HP2.out]; rintro e w4 ⟨rfl, hb⟩; have HV2 := Lib.hid (HV1.out.below hb); clear hb HV1)
      | (go_at_call 64; go_loud (refine (refshort_any s _ (by omega)).mono ?_); rw [HP1.out]; rintro e w3 ⟨rfl, hb⟩; have HV1 := Lib.hid (HV0.out.below hb); clear hb HV0))
    (try simp only [Exit.inBlock, Exit.then])
    refine bodyPost_ret (blk_results2 rfl Try.underlying75 rfl _ _ w.heap.size _ (by kernel_rfl) _ _ rfl rfl rfl HZ9.out) rfl ?_
    exact rd_out (v := ⟨⟨#[]⟩, ⟨#[]⟩, 0, 0, false, ⟨#[]⟩⟩) (below_grown HV2.out.bl HV2.out.bl.size HG9.out (Nat.le_refl _)) (.inr ⟨by omega, HNO.out⟩)
  | some p2 =>
  obtain ⟨col, s2⟩ := p2
  have HP2 := Lib.hid (shortV_some h2)
  have z2 := (shortR_size h2).1
  by_cases h17 : s2.size < 17
  · have HNO := Lib.hid (show refCellP s = none by unfold refCellP; simp only [h1, h2]; rw [if_pos h17])
    have HS := Lib.hid (show s1.size ≤ 1000000 ∧ True from ⟨by omega, trivial⟩)
    have e1 : decide ((s2.size : Int) < 17) = true := decide_eq_true (by omega)
    clear h1 h2
    go_enter Try.func43, Try.ntmps43
    go_wp2_with (first
      | (show wpList _ _ _ ({ dst := none, op := Op.store _ (Operand.tmp 2) _, type := _, pos := _, after := _, guard := _ } :: _) _ _; go_loud (refine wpList_store_mid rfl 75 (.tmp 2) (.tmp 35) rfl w.heap.size 0 #[.string ⟨#[]⟩, .string ⟨#[]⟩, .int .u64 0, .int .u64 0, .bool false, .string ⟨#[]⟩] rfl rfl (HV2.out.z.there 6 (Nat.le_refl _)) (by kernel_rfl) (by simp [Value.oneCell']) ?_; refine HV2.out.z.setW [.string ⟨#[]⟩, .string ⟨#[]⟩, .int .u64 0, .int .u64 0, .bool false, .string ⟨#[]⟩] rfl ?_; intro w9 HZ9 HG9))
      | (show wpList _ _ _ ({ dst := some 71, op := Op.load _ _, type := _, pos := _, after := _, guard := _ } :: _) _ _; go_loud (refine wpList_load_mid rfl 75 (.tmp 5) rfl (w.heap.size + 1) 0 rfl [.string row, .string col, .int .u64 ts, .int .u64 sq, .bool del, .string val] _ HV8.out.v.range Try.underlying75 rfl (by kernel_rfl) ?_))
      | (go_at_call 28; go_loud (refine (refMay_any ⟨row, col, ts, sq, del, val⟩ _).mono ?_; rintro e w8 ⟨rfl, hb⟩; simp only [HM.out]; have HV8 := Lib.hid (HV6.out.below hb); clear hb HV6))
      | (show wpList _ _ _ ({ dst := some 67, op := Op.load _ _, type := _, pos := _, after := _, guard := _ } :: _) _ _; go_loud (refine wpList_load_mid rfl 75 (.tmp 5) rfl (w.heap.size + 1) 0 rfl [.string row, .string col, .int .u64 ts, .int .u64 sq, .bool del, .string val] _ HV6.out.v.range Try.underlying75 rfl (by kernel_rfl) ?_))
      | (have hgate := HV4; clear hgate; go_at_call 64; refine (refshort_any (s2.extract 17 s2.size) _ HS.out.2.2.1).mono ?_; rw [HP3.out]; rintro e w7 ⟨rfl, hb⟩; have hv5 := HV4.out.below hb; have c5 := hv5.v.cell (j := 5) rfl; have f5 := hv5.v.free 5; have HV5 := Lib.hid hv5; have HV6 := Lib.hid (hv5.set 5 (.string val)); clear hb HV4 hv5)
      | (have hgate := HV4; clear hgate; go_at_call 64; refine (refshort_any (s2.extract 17 s2.size) _ HS.out.2.2.1).mono ?_; rw [HP3.out]; rintro e w7 ⟨rfl, hb⟩; have HV5 := Lib.hid (HV4.out.below hb); clear hb HV4)
      | (have hgate := HV2c; clear hgate; go_at_call 65; refine (refvalue_any (s2.extract 8 s2.size) _ HS.out.2.2.2.1 HS.out.2.2.2.2.1).mono ?_; rw [HQ.out.2]; rintro e w6 ⟨rfl, hb⟩; have hv3 := HV2c.out.below hb; have c3 := hv3.v.cell (j := 3) rfl; have f3 := hv3.v.free 3; have c4 := hv3.v.cell (j := 4) rfl; have f4 := hv3.v.free 4; have HV3 := Lib.hid (hv3.set 3 (.int .u64 sq)); have HV4 := Lib.hid (HV3.out.set 4 (.bool del)); clear hb HV2c hv3)
      | (have hgate := HV2b; clear hgate; go_at_call 65; refine (refvalue_any s2 _ HS.out.2.2.2.2.2 HS.out.2.1).mono ?_; rw [HQ.out.1]; rintro e w5 ⟨rfl, hb⟩; have hv2 := HV2b.out.below hb; have c2 := hv2.v.cell (j := 2) rfl; have f2 := hv2.v.free 2; have HV2c := Lib.hid (hv2.set 2 (.int .u64 ts)); clear hb HV2b hv2)
      | (have hgate := HV1; clear hgate; go_at_call 64; refine (refshort_any s1 _ HS.out.1).mono ?_; rw [HP2.out]; rintro e w4 ⟨rfl, hb⟩; have hv1 := HV1.out.below hb; have c0 := hv1.v.cell (j := 0) rfl; have f0 := hv1.v.free 0; have c1 := hv1.v.cell (j := 1) rfl; have f1 := hv1.v.free 1; have HV2 := Lib.hid hv1; have HV2b := Lib.hid ((hv1.set 0 (.string row)).set 1 (.string col)); clear hb HV1 hv1)
      | (have hgate := HV1; clear hgate; go_at_call 64; refine (refshort_any s1 _ HS.out.1).mono ?_; rw [HP2.out]; rintro e w4 ⟨rfl, hb⟩; have HV2 := Lib.hid (HV1.out.below hb); clear hb HV1)
      | (go_at_call 64; go_loud (refine (refshort_any s _ (by omega)).mono ?_); rw [HP1.out]; rintro e w3 ⟨rfl, hb⟩; have HV1 := Lib.hid (HV0.out.below hb); clear hb HV0))
    (try simp only [Exit.inBlock, Exit.then])
    refine bodyPost_ret (blk_results2 rfl Try.underlying75 rfl _ _ w.heap.size _ (by kernel_rfl) _ _ rfl rfl rfl HZ9.out) rfl ?_
    exact rd_out (v := ⟨⟨#[]⟩, ⟨#[]⟩, 0, 0, false, ⟨#[]⟩⟩) (below_grown HV2.out.bl HV2.out.bl.size HG9.out (Nat.le_refl _)) (.inr ⟨by omega, HNO.out⟩)
  have e1 : decide ((s2.size : Int) < 17) = false := decide_eq_false (by omega)
  have hs8 : (s2.extract 8 s2.size).size = s2.size - 8 := by rw [ByteArray.size_extract]; omega
  have hs17 : (s2.extract 17 s2.size).size = s2.size - 17 := by rw [ByteArray.size_extract]; omega
  have HS := Lib.hid (show s1.size ≤ 1000000 ∧ s2.size ≤ 1000000 ∧ (s2.extract 17 s2.size).size ≤ 1000000 ∧ 8 ≤ (s2.extract 8 s2.size).size ∧ (s2.extract 8 s2.size).size ≤ 1000000 ∧ 8 ≤ s2.size from ⟨by omega, by omega, by omega, by omega, by omega, by omega⟩)
  obtain ⟨ts, hts⟩ : ∃ ts, numR s2 0 8 = ts := ⟨_, rfl⟩
  obtain ⟨sq, hsq⟩ : ∃ sq, numR (s2.extract 8 s2.size) 0 8 = sq := ⟨_, rfl⟩
  have HQ := Lib.hid (And.intro hts hsq)
  have hbg := byteAt_get (s := s2) (i := 16) (by omega)
  have k8 : (8 : Int) ≤ (s2.size : Int) := by omega
  have k16 : (16 : Int) < (s2.size : Int) := by omega
  have k17 : (17 : Int) ≤ (s2.size : Int) := by omega
  clear hs8 hs17
  obtain ⟨del, hdel⟩ : ∃ del, decide (byteAt s2 16 = 1) = del := ⟨_, rfl⟩
  by_cases hfl : 1 < byteAt s2 16
  · have HNO := Lib.hid (show refCellP s = none by unfold refCellP; simp only [h1, h2]; rw [if_neg h17, if_pos hfl])
    have e2 : decide ((1 : Int) < ((s2[16].toNat : Nat) : Int)) = true := decide_eq_true (by omega)
    clear h1 h2 hts hsq hbg hfl hdel
    go_enter Try.func43, Try.ntmps43
    go_wp2_with (first
      | (show wpList _ _ _ ({ dst := none, op := Op.store _ (Operand.tmp 2) _, type := _, pos := _, after := _, guard := _ } :: _) _ _; go_loud (refine wpList_store_mid rfl 75 (.tmp 2) (.tmp 50) rfl w.heap.size 0 #[.string ⟨#[]⟩, .string ⟨#[]⟩, .int .u64 0, .int .u64 0, .bool false, .string ⟨#[]⟩] rfl rfl (HV3.out.z.there 6 (Nat.le_refl _)) (by kernel_rfl) (by simp [Value.oneCell']) ?_; refine HV3.out.z.setW [.string ⟨#[]⟩, .string ⟨#[]⟩, .int .u64 0, .int .u64 0, .bool false, .string ⟨#[]⟩] rfl ?_; intro w9 HZ9 HG9))
      | (show wpList _ _ _ ({ dst := some 71, op := Op.load _ _, type := _, pos := _, after := _, guard := _ } :: _) _ _; go_loud (refine wpList_load_mid rfl 75 (.tmp 5) rfl (w.heap.size + 1) 0 rfl [.string row, .string col, .int .u64 ts, .int .u64 sq, .bool del, .string val] _ HV8.out.v.range Try.underlying75 rfl (by kernel_rfl) ?_))
      | (go_at_call 28; go_loud (refine (refMay_any ⟨row, col, ts, sq, del, val⟩ _).mono ?_; rintro e w8 ⟨rfl, hb⟩; simp only [HM.out]; have HV8 := Lib.hid (HV6.out.below hb); clear hb HV6))
      | (show wpList _ _ _ ({ dst := some 67, op := Op.load _ _, type := _, pos := _, after := _, guard := _ } :: _) _ _; go_loud (refine wpList_load_mid rfl 75 (.tmp 5) rfl (w.heap.size + 1) 0 rfl [.string row, .string col, .int .u64 ts, .int .u64 sq, .bool del, .string val] _ HV6.out.v.range Try.underlying75 rfl (by kernel_rfl) ?_))
      | (have hgate := HV4; clear hgate; go_at_call 64; refine (refshort_any (s2.extract 17 s2.size) _ HS.out.2.2.1).mono ?_; rw [HP3.out]; rintro e w7 ⟨rfl, hb⟩; have hv5 := HV4.out.below hb; have c5 := hv5.v.cell (j := 5) rfl; have f5 := hv5.v.free 5; have HV5 := Lib.hid hv5; have HV6 := Lib.hid (hv5.set 5 (.string val)); clear hb HV4 hv5)
      | (have hgate := HV4; clear hgate; go_at_call 64; refine (refshort_any (s2.extract 17 s2.size) _ HS.out.2.2.1).mono ?_; rw [HP3.out]; rintro e w7 ⟨rfl, hb⟩; have HV5 := Lib.hid (HV4.out.below hb); clear hb HV4)
      | (have hgate := HV2c; clear hgate; go_at_call 65; refine (refvalue_any (s2.extract 8 s2.size) _ HS.out.2.2.2.1 HS.out.2.2.2.2.1).mono ?_; rw [HQ.out.2]; rintro e w6 ⟨rfl, hb⟩; have hv3 := HV2c.out.below hb; have c3 := hv3.v.cell (j := 3) rfl; have f3 := hv3.v.free 3; have c4 := hv3.v.cell (j := 4) rfl; have f4 := hv3.v.free 4; have HV3 := Lib.hid (hv3.set 3 (.int .u64 sq)); have HV4 := Lib.hid (HV3.out.set 4 (.bool del)); clear hb HV2c hv3)
      | (have hgate := HV2b; clear hgate; go_at_call 65; refine (refvalue_any s2 _ HS.out.2.2.2.2.2 HS.out.2.1).mono ?_; rw [HQ.out.1]; rintro e w5 ⟨rfl, hb⟩; have hv2 := HV2b.out.below hb; have c2 := hv2.v.cell (j := 2) rfl; have f2 := hv2.v.free 2; have HV2c := Lib.hid (hv2.set 2 (.int .u64 ts)); clear hb HV2b hv2)
      | (have hgate := HV1; clear hgate; go_at_call 64; refine (refshort_any s1 _ HS.out.1).mono ?_; rw [HP2.out]; rintro e w4 ⟨rfl, hb⟩; have hv1 := HV1.out.below hb; have c0 := hv1.v.cell (j := 0) rfl; have f0 := hv1.v.free 0; have c1 := hv1.v.cell (j := 1) rfl; have f1 := hv1.v.free 1; have HV2 := Lib.hid hv1; have HV2b := Lib.hid ((hv1.set 0 (.string row)).set 1 (.string col)); clear hb HV1 hv1)
      | (have hgate := HV1; clear hgate; go_at_call 64; refine (refshort_any s1 _ HS.out.1).mono ?_; rw [HP2.out]; rintro e w4 ⟨rfl, hb⟩; have HV2 := Lib.hid (HV1.out.below hb); clear hb HV1)
      | (go_at_call 64; go_loud (refine (refshort_any s _ (by omega)).mono ?_); rw [HP1.out]; rintro e w3 ⟨rfl, hb⟩; have HV1 := Lib.hid (HV0.out.below hb); clear hb HV0))
    (try simp only [Exit.inBlock, Exit.then])
    refine bodyPost_ret (blk_results2 rfl Try.underlying75 rfl _ _ w.heap.size _ (by kernel_rfl) _ _ rfl rfl rfl HZ9.out) rfl ?_
    exact rd_out (v := ⟨⟨#[]⟩, ⟨#[]⟩, 0, 0, false, ⟨#[]⟩⟩) (below_grown HV3.out.bl HV3.out.bl.size HG9.out (Nat.le_refl _)) (.inr ⟨by omega, HNO.out⟩)
  have e2 : decide ((1 : Int) < ((s2[16].toNat : Nat) : Int)) = false := decide_eq_false (by omega)
  have e3 : (((s2[16].toNat : Nat) : Int) == 1) = del := by
    rw [← hdel, hbg]
    by_cases h : s2[16].toNat = 1
    · rw [h]; rfl
    · rw [decide_eq_false h, beq_eq_false_iff_ne]; omega
  cases h3 : shortR (s2.extract 17 s2.size) with
  | none =>
    have HP3 := Lib.hid (shortV_none h3)
    have HNO := Lib.hid (show refCellP s = none by unfold refCellP; simp only [h1, h2, h3]; rw [if_neg h17, if_neg hfl])
    clear h1 h2 h3 hts hsq hbg hfl hdel
    go_enter Try.func43, Try.ntmps43
    go_wp2_with (first
      | (show wpList _ _ _ ({ dst := none, op := Op.store _ (Operand.tmp 2) _, type := _, pos := _, after := _, guard := _ } :: _) _ _; go_loud (refine wpList_store_mid rfl 75 (.tmp 2) (.tmp 64) rfl w.heap.size 0 #[.string ⟨#[]⟩, .string ⟨#[]⟩, .int .u64 0, .int .u64 0, .bool false, .string ⟨#[]⟩] rfl rfl (HV5.out.z.there 6 (Nat.le_refl _)) (by kernel_rfl) (by simp [Value.oneCell']) ?_; refine HV5.out.z.setW [.string ⟨#[]⟩, .string ⟨#[]⟩, .int .u64 0, .int .u64 0, .bool false, .string ⟨#[]⟩] rfl ?_; intro w9 HZ9 HG9))
      | (show wpList _ _ _ ({ dst := some 71, op := Op.load _ _, type := _, pos := _, after := _, guard := _ } :: _) _ _; go_loud (refine wpList_load_mid rfl 75 (.tmp 5) rfl (w.heap.size + 1) 0 rfl [.string row, .string col, .int .u64 ts, .int .u64 sq, .bool del, .string val] _ HV8.out.v.range Try.underlying75 rfl (by kernel_rfl) ?_))
      | (go_at_call 28; go_loud (refine (refMay_any ⟨row, col, ts, sq, del, val⟩ _).mono ?_; rintro e w8 ⟨rfl, hb⟩; simp only [HM.out]; have HV8 := Lib.hid (HV6.out.below hb); clear hb HV6))
      | (show wpList _ _ _ ({ dst := some 67, op := Op.load _ _, type := _, pos := _, after := _, guard := _ } :: _) _ _; go_loud (refine wpList_load_mid rfl 75 (.tmp 5) rfl (w.heap.size + 1) 0 rfl [.string row, .string col, .int .u64 ts, .int .u64 sq, .bool del, .string val] _ HV6.out.v.range Try.underlying75 rfl (by kernel_rfl) ?_))
      | (have hgate := HV4; clear hgate; go_at_call 64; refine (refshort_any (s2.extract 17 s2.size) _ HS.out.2.2.1).mono ?_; rw [HP3.out]; rintro e w7 ⟨rfl, hb⟩; have hv5 := HV4.out.below hb; have c5 := hv5.v.cell (j := 5) rfl; have f5 := hv5.v.free 5; have HV5 := Lib.hid hv5; have HV6 := Lib.hid (hv5.set 5 (.string val)); clear hb HV4 hv5)
      | (have hgate := HV4; clear hgate; go_at_call 64; refine (refshort_any (s2.extract 17 s2.size) _ HS.out.2.2.1).mono ?_; rw [HP3.out]; rintro e w7 ⟨rfl, hb⟩; have HV5 := Lib.hid (HV4.out.below hb); clear hb HV4)
      | (have hgate := HV2c; clear hgate; go_at_call 65; refine (refvalue_any (s2.extract 8 s2.size) _ HS.out.2.2.2.1 HS.out.2.2.2.2.1).mono ?_; rw [HQ.out.2]; rintro e w6 ⟨rfl, hb⟩; have hv3 := HV2c.out.below hb; have c3 := hv3.v.cell (j := 3) rfl; have f3 := hv3.v.free 3; have c4 := hv3.v.cell (j := 4) rfl; have f4 := hv3.v.free 4; have HV3 := Lib.hid (hv3.set 3 (.int .u64 sq)); have HV4 := Lib.hid (HV3.out.set 4 (.bool del)); clear hb HV2c hv3)
      | (have hgate := HV2b; clear hgate; go_at_call 65; refine (refvalue_any s2 _ HS.out.2.2.2.2.2 HS.out.2.1).mono ?_; rw [HQ.out.1]; rintro e w5 ⟨rfl, hb⟩; have hv2 := HV2b.out.below hb; have c2 := hv2.v.cell (j := 2) rfl; have f2 := hv2.v.free 2; have HV2c := Lib.hid (hv2.set 2 (.int .u64 ts)); clear hb HV2b hv2)
      | (have hgate := HV1; clear hgate; go_at_call 64; refine (refshort_any s1 _ HS.out.1).mono ?_; rw [HP2.out]; rintro e w4 ⟨rfl, hb⟩; have hv1 := HV1.out.below hb; have c0 := hv1.v.cell (j := 0) rfl; have f0 := hv1.v.free 0; have c1 := hv1.v.cell (j := 1) rfl; have f1 := hv1.v.free 1; have HV2 := Lib.hid hv1; have HV2b := Lib.hid ((hv1.set 0 (.string row)).set 1 (.string col)); clear hb HV1 hv1)
      | (have hgate := HV1; clear hgate; go_at_call 64; refine (refshort_any s1 _ HS.out.1).mono ?_; rw [HP2.out]; rintro e w4 ⟨rfl, hb⟩; have HV2 := Lib.hid (HV1.out.below hb); clear hb HV1)
      | (go_at_call 64; go_loud (refine (refshort_any s _ (by omega)).mono ?_); rw [HP1.out]; rintro e w3 ⟨rfl, hb⟩; have HV1 := Lib.hid (HV0.out.below hb); clear hb HV0))
    (try simp only [Exit.inBlock, Exit.then])
    refine bodyPost_ret (blk_results2 rfl Try.underlying75 rfl _ _ w.heap.size _ (by kernel_rfl) _ _ rfl rfl rfl HZ9.out) rfl ?_
    exact rd_out (v := ⟨⟨#[]⟩, ⟨#[]⟩, 0, 0, false, ⟨#[]⟩⟩) (below_grown HV5.out.bl HV5.out.bl.size HG9.out (Nat.le_refl _)) (.inr ⟨by omega, HNO.out⟩)
  | some p3 =>
  obtain ⟨val, s3⟩ := p3
  have HP3 := Lib.hid (shortV_some h3)
  cases hm : may ⟨row, col, ts, sq, del, val⟩ with
  | false =>
    have HM := Lib.hid hm
    have HNO := Lib.hid (show refCellP s = none by unfold refCellP; simp only [h1, h2, h3]; rw [if_neg h17, if_neg hfl]; simp only [hts, hsq, hdel]; rw [if_neg (by rw [hm]; simp)])
    clear h1 h2 h3 hts hsq hbg hfl hdel hm
    go_enter Try.func43, Try.ntmps43
    go_wp2_with (first
      | (show wpList _ _ _ ({ dst := none, op := Op.store _ (Operand.tmp 2) _, type := _, pos := _, after := _, guard := _ } :: _) _ _; go_loud (refine wpList_store_mid rfl 75 (.tmp 2) (.tmp 70) rfl w.heap.size 0 #[.string ⟨#[]⟩, .string ⟨#[]⟩, .int .u64 0, .int .u64 0, .bool false, .string ⟨#[]⟩] rfl rfl (HV8.out.z.there 6 (Nat.le_refl _)) (by kernel_rfl) (by simp [Value.oneCell']) ?_; refine HV8.out.z.setW [.string ⟨#[]⟩, .string ⟨#[]⟩, .int .u64 0, .int .u64 0, .bool false, .string ⟨#[]⟩] rfl ?_; intro w9 HZ9 HG9))
      | (show wpList _ _ _ ({ dst := some 71, op := Op.load _ _, type := _, pos := _, after := _, guard := _ } :: _) _ _; go_loud (refine wpList_load_mid rfl 75 (.tmp 5) rfl (w.heap.size + 1) 0 rfl [.string row, .string col, .int .u64 ts, .int .u64 sq, .bool del, .string val] _ HV8.out.v.range Try.underlying75 rfl (by kernel_rfl) ?_))
      | (go_at_call 28; go_loud (refine (refMay_any ⟨row, col, ts, sq, del, val⟩ _).mono ?_; rintro e w8 ⟨rfl, hb⟩; simp only [HM.out]; have HV8 := Lib.hid (HV6.out.below hb); clear hb HV6))
      | (show wpList _ _ _ ({ dst := some 67, op := Op.load _ _, type := _, pos := _, after := _, guard := _ } :: _) _ _; go_loud (refine wpList_load_mid rfl 75 (.tmp 5) rfl (w.heap.size + 1) 0 rfl [.string row, .string col, .int .u64 ts, .int .u64 sq, .bool del, .string val] _ HV6.out.v.range Try.underlying75 rfl (by kernel_rfl) ?_))
      | (have hgate := HV4; clear hgate; go_at_call 64; refine (refshort_any (s2.extract 17 s2.size) _ HS.out.2.2.1).mono ?_; rw [HP3.out]; rintro e w7 ⟨rfl, hb⟩; have hv5 := HV4.out.below hb; have c5 := hv5.v.cell (j := 5) rfl; have f5 := hv5.v.free 5; have HV5 := Lib.hid hv5; have HV6 := Lib.hid (hv5.set 5 (.string val)); clear hb HV4 hv5)
      | (have hgate := HV4; clear hgate; go_at_call 64; refine (refshort_any (s2.extract 17 s2.size) _ HS.out.2.2.1).mono ?_; rw [HP3.out]; rintro e w7 ⟨rfl, hb⟩; have HV5 := Lib.hid (HV4.out.below hb); clear hb HV4)
      | (have hgate := HV2c; clear hgate; go_at_call 65; refine (refvalue_any (s2.extract 8 s2.size) _ HS.out.2.2.2.1 HS.out.2.2.2.2.1).mono ?_; rw [HQ.out.2]; rintro e w6 ⟨rfl, hb⟩; have hv3 := HV2c.out.below hb; have c3 := hv3.v.cell (j := 3) rfl; have f3 := hv3.v.free 3; have c4 := hv3.v.cell (j := 4) rfl; have f4 := hv3.v.free 4; have HV3 := Lib.hid (hv3.set 3 (.int .u64 sq)); have HV4 := Lib.hid (HV3.out.set 4 (.bool del)); clear hb HV2c hv3)
      | (have hgate := HV2b; clear hgate; go_at_call 65; refine (refvalue_any s2 _ HS.out.2.2.2.2.2 HS.out.2.1).mono ?_; rw [HQ.out.1]; rintro e w5 ⟨rfl, hb⟩; have hv2 := HV2b.out.below hb; have c2 := hv2.v.cell (j := 2) rfl; have f2 := hv2.v.free 2; have HV2c := Lib.hid (hv2.set 2 (.int .u64 ts)); clear hb HV2b hv2)
      | (have hgate := HV1; clear hgate; go_at_call 64; refine (refshort_any s1 _ HS.out.1).mono ?_; rw [HP2.out]; rintro e w4 ⟨rfl, hb⟩; have hv1 := HV1.out.below hb; have c0 := hv1.v.cell (j := 0) rfl; have f0 := hv1.v.free 0; have c1 := hv1.v.cell (j := 1) rfl; have f1 := hv1.v.free 1; have HV2 := Lib.hid hv1; have HV2b := Lib.hid ((hv1.set 0 (.string row)).set 1 (.string col)); clear hb HV1 hv1)
      | (have hgate := HV1; clear hgate; go_at_call 64; refine (refshort_any s1 _ HS.out.1).mono ?_; rw [HP2.out]; rintro e w4 ⟨rfl, hb⟩; have HV2 := Lib.hid (HV1.out.below hb); clear hb HV1)
      | (go_at_call 64; go_loud (refine (refshort_any s _ (by omega)).mono ?_); rw [HP1.out]; rintro e w3 ⟨rfl, hb⟩; have HV1 := Lib.hid (HV0.out.below hb); clear hb HV0))
    (try simp only [Exit.inBlock, Exit.then])
    refine bodyPost_ret (blk_results2 rfl Try.underlying75 rfl _ _ w.heap.size _ (by kernel_rfl) _ _ rfl rfl rfl HZ9.out) rfl ?_
    exact rd_out (v := ⟨⟨#[]⟩, ⟨#[]⟩, 0, 0, false, ⟨#[]⟩⟩) (below_grown HV8.out.bl HV8.out.bl.size HG9.out (Nat.le_refl _)) (.inr ⟨by omega, HNO.out⟩)
  | true =>
    have HM := Lib.hid hm
    have HYE := Lib.hid (show refCellP s = some (⟨row, col, ts, sq, del, val⟩, s3) by unfold refCellP; simp only [h1, h2, h3]; rw [if_neg h17, if_neg hfl]; simp only [hts, hsq, hdel]; rw [if_pos hm])
    clear h1 h2 h3 hts hsq hbg hfl hdel hm
    go_enter Try.func43, Try.ntmps43
    go_wp2_with (first
      | (show wpList _ _ _ ({ dst := none, op := Op.store _ (Operand.tmp 2) _, type := _, pos := _, after := _, guard := _ } :: _) _ _; go_loud (refine wpList_store_mid rfl 75 (.tmp 2) (.tmp 71) rfl w.heap.size 0 #[.string row, .string col, .int .u64 ts, .int .u64 sq, .bool del, .string val] rfl rfl (HV8.out.z.there 6 (Nat.le_refl _)) (by kernel_rfl) (by simp [Value.oneCell']) ?_; refine HV8.out.z.setW [.string row, .string col, .int .u64 ts, .int .u64 sq, .bool del, .string val] rfl ?_; intro w9 HZ9 HG9))
      | (show wpList _ _ _ ({ dst := some 71, op := Op.load _ _, type := _, pos := _, after := _, guard := _ } :: _) _ _; go_loud (refine wpList_load_mid rfl 75 (.tmp 5) rfl (w.heap.size + 1) 0 rfl [.string row, .string col, .int .u64 ts, .int .u64 sq, .bool del, .string val] _ HV8.out.v.range Try.underlying75 rfl (by kernel_rfl) ?_))
      | (go_at_call 28; go_loud (refine (refMay_any ⟨row, col, ts, sq, del, val⟩ _).mono ?_; rintro e w8 ⟨rfl, hb⟩; simp only [HM.out]; have HV8 := Lib.hid (HV6.out.below hb); clear hb HV6))
      | (show wpList _ _ _ ({ dst := some 67, op := Op.load _ _, type := _, pos := _, after := _, guard := _ } :: _) _ _; go_loud (refine wpList_load_mid rfl 75 (.tmp 5) rfl (w.heap.size + 1) 0 rfl [.string row, .string col, .int .u64 ts, .int .u64 sq, .bool del, .string val] _ HV6.out.v.range Try.underlying75 rfl (by kernel_rfl) ?_))
      | (have hgate := HV4; clear hgate; go_at_call 64; refine (refshort_any (s2.extract 17 s2.size) _ HS.out.2.2.1).mono ?_; rw [HP3.out]; rintro e w7 ⟨rfl, hb⟩; have hv5 := HV4.out.below hb; have c5 := hv5.v.cell (j := 5) rfl; have f5 := hv5.v.free 5; have HV5 := Lib.hid hv5; have HV6 := Lib.hid (hv5.set 5 (.string val)); clear hb HV4 hv5)
      | (have hgate := HV4; clear hgate; go_at_call 64; refine (refshort_any (s2.extract 17 s2.size) _ HS.out.2.2.1).mono ?_; rw [HP3.out]; rintro e w7 ⟨rfl, hb⟩; have HV5 := Lib.hid (HV4.out.below hb); clear hb HV4)
      | (have hgate := HV2c; clear hgate; go_at_call 65; refine (refvalue_any (s2.extract 8 s2.size) _ HS.out.2.2.2.1 HS.out.2.2.2.2.1).mono ?_; rw [HQ.out.2]; rintro e w6 ⟨rfl, hb⟩; have hv3 := HV2c.out.below hb; have c3 := hv3.v.cell (j := 3) rfl; have f3 := hv3.v.free 3; have c4 := hv3.v.cell (j := 4) rfl; have f4 := hv3.v.free 4; have HV3 := Lib.hid (hv3.set 3 (.int .u64 sq)); have HV4 := Lib.hid (HV3.out.set 4 (.bool del)); clear hb HV2c hv3)
      | (have hgate := HV2b; clear hgate; go_at_call 65; refine (refvalue_any s2 _ HS.out.2.2.2.2.2 HS.out.2.1).mono ?_; rw [HQ.out.1]; rintro e w5 ⟨rfl, hb⟩; have hv2 := HV2b.out.below hb; have c2 := hv2.v.cell (j := 2) rfl; have f2 := hv2.v.free 2; have HV2c := Lib.hid (hv2.set 2 (.int .u64 ts)); clear hb HV2b hv2)
      | (have hgate := HV1; clear hgate; go_at_call 64; refine (refshort_any s1 _ HS.out.1).mono ?_; rw [HP2.out]; rintro e w4 ⟨rfl, hb⟩; have hv1 := HV1.out.below hb; have c0 := hv1.v.cell (j := 0) rfl; have f0 := hv1.v.free 0; have c1 := hv1.v.cell (j := 1) rfl; have f1 := hv1.v.free 1; have HV2 := Lib.hid hv1; have HV2b := Lib.hid ((hv1.set 0 (.string row)).set 1 (.string col)); clear hb HV1 hv1)
      | (have hgate := HV1; clear hgate; go_at_call 64; refine (refshort_any s1 _ HS.out.1).mono ?_; rw [HP2.out]; rintro e w4 ⟨rfl, hb⟩; have HV2 := Lib.hid (HV1.out.below hb); clear hb HV1)
      | (go_at_call 64; go_loud (refine (refshort_any s _ (by omega)).mono ?_); rw [HP1.out]; rintro e w3 ⟨rfl, hb⟩; have HV1 := Lib.hid (HV0.out.below hb); clear hb HV0))
    (try simp only [Exit.inBlock, Exit.then])
    refine bodyPost_ret (blk_results2 rfl Try.underlying75 rfl _ _ w.heap.size _ (by kernel_rfl) _ _ rfl rfl rfl HZ9.out) rfl ?_
    exact rd_out (v := ⟨row, col, ts, sq, del, val⟩) (below_grown HV8.out.bl HV8.out.bl.size HG9.out (Nat.le_refl _)) (.inl ⟨rfl, HYE.out⟩)
end Go.Proofs.Ytiiogdgnccgehaa
