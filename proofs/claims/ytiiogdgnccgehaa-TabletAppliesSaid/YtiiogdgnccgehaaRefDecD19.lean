/-
  The walk of the reference's Decode at batches; refDecode_any. No conditions.
-/
import Derived.Test.YtiiogdgnccgehaaRefDecC19
namespace Go.Proofs.Ytiiogdgnccgehaa
open Go.RowKit
attribute [local go_sem ↓] Go.wp_at_zero Go.wp_at_succ

theorem refcellDec_some {s r : ByteArray} {c : Cl} (w : World) (hs : s.size ≤ 100000) (h : refCellP s = some (c, r)) : Calls Try.prog 43 #[.string s] w fun e w' => e = .returned (.tuple #[.agg #[.string c.row, .string c.col, .int .u64 c.ts, .int .u64 c.seq, .bool c.del, .string c.val], .string r, .int .i64 0]) ∧ Below w.heap.size w w' := by
  refine (refcellDec_any s w hs).mono ?_
  rintro e w' ⟨v, r', E, rfl, hb, h1 | h1⟩
  · rw [h] at h1
    obtain ⟨rfl, h1⟩ := h1
    injection h1 with h1
    injection h1 with h1 h2
    subst h1 h2
    exact ⟨rfl, hb⟩
  · rw [h] at h1
    cases h1.2
theorem refcellDec_none {s : ByteArray} (w : World) (hs : s.size ≤ 100000) (h : refCellP s = none) : Calls Try.prog 43 #[.string s] w fun e w' => ∃ (c : Cl) (r : ByteArray) (E : Int), e = .returned (.tuple #[.agg #[.string c.row, .string c.col, .int .u64 c.ts, .int .u64 c.seq, .bool c.del, .string c.val], .string r, .int .i64 E]) ∧ Below w.heap.size w w' ∧ E ≠ 0 := by
  refine (refcellDec_any s w hs).mono ?_
  rintro e w' ⟨v, r', E, rfl, hb, h1 | h1⟩
  · rw [h] at h1
    cases h1.2
  · exact ⟨v, r', E, rfl, hb, h1.1⟩
set_option maxRecDepth 100000 in
set_option maxHeartbeats 16000000 in
theorem refDecode_1 (t : ByteArray) (w : World) (ht : t.size ≤ 100000) (hk1 : numR t 0 1 = 1) : Calls Try.prog 16 #[.string t] w (DecOut t w) := by
  obtain ⟨client, hp2⟩ : ∃ x, numR t 1 8 = x := ⟨_, rfl⟩
  obtain ⟨num, hp3⟩ : ∃ x, numR t 9 8 = x := ⟨_, rfl⟩
  obtain ⟨n, hp5⟩ : ∃ x, numR t 17 1 = x := ⟨_, rfl⟩
  have hn : n < 256 := by have := numR_lt t 17 1; rw [hp5] at this; exact this
  have hwn : IntKind.i64.wrap (n : Int) = (n : Int) := IntWalk.i64_in _ (by omega)
  obtain ⟨M, hM⟩ : ∃ M, min 18 t.size = M := ⟨_, rfl⟩
  have hmi : min (18 : Int) (t.size : Int) = (M : Int) := by omega
  have g4 : (M : Int) ≤ (t.size : Int) := by omega
  have g5 : (0 : Int) ≤ (M : Int) := by omega
  have HR0 := Lib.hid (show (t.extract M t.size).size ≤ 100000 by rw [ByteArray.size_extract]; omega)
  have HPN := Lib.hid (fun (h : cellsR n (t.extract M t.size) = none) => show decC t = (zeroC, 50) from rdec_none (by unfold parseR; rw [if_pos hk1, hp5, hM, h]))
  have HPF := Lib.hid (fun (L : List Cl) (r : ByteArray) (h : cellsR n (t.extract M t.size) = some (L, r)) => show parseR t = some ⟨1, client, num, L, ⟨#[]⟩, 0, 0, 0, []⟩ by unfold parseR; rw [if_pos hk1, hp5, hM, h, hp2, hp3])
  have HP1 := Lib.hid hk1
  have HP2 := Lib.hid hp2
  have HP3 := Lib.hid hp3
  have HP5 := Lib.hid hp5
  clear hk1 hp2 hp3 hp5 hM
  go_enter Try.func16, Try.ntmps16
  go_wp2_with (first
    | (have hgate := HV2; clear hgate; go_at_call 42; go_loud (refine (refnumZ t (za := 9) (zn := 8) 9 8 rfl rfl num HP3.out _ (by omega) (by omega) (by omega)).mono ?_); rintro e w3 ⟨rfl, hb⟩; have hv := HV2.out.below hb; have c2 := hv.v.cell (j := 2) rfl; have f2 := hv.v.free 2; have HV := Lib.hid (hv.set 2 (.int .u64 num)); clear hb hv HV2)
    | (have hgate := HV1; clear hgate; go_at_call 42; go_loud (refine (refnumZ t (za := 1) (zn := 8) 1 8 rfl rfl client HP2.out _ (by omega) (by omega) (by omega)).mono ?_); rintro e w2 ⟨rfl, hb⟩; have hv := HV1.out.below hb; have c1 := hv.v.cell (j := 1) rfl; have f1 := hv.v.free 1; have HV2 := Lib.hid (hv.set 1 (.int .u64 client)); clear hb hv HV1)
    | (go_at_call 42; go_loud (refine (refnumZ t (za := 0) (zn := 1) 0 1 rfl rfl 1 HP1.out _ (by omega) (by omega) (by omega)).mono ?_); rintro e w1 ⟨rfl, hb⟩; have HV1 := Lib.hid (RDV.start hb [.int .i64 1, .int .u64 0, .int .u64 0, .slice none 0 0, .string ⟨#[]⟩, .int .u64 0, .int .u32 0, .int .u64 0, .slice none 0 0]); clear hb))
  go_loopw [5, 6] (fun v5 v6 wr => ∃ (i c : Nat) (A : Option Addr) (L : List Cl) (r : ByteArray), v5 = .string r ∧ v6 = .int .i64 (i : Nat) ∧ i ≤ n ∧ cellsR i (t.extract M t.size) = some (L, r) ∧ Hid (RDV w wr w1.heap.size [.int .i64 1, .int .u64 client, .int .u64 num, .slice A i c, .string ⟨#[]⟩, .int .u64 0, .int .u32 0, .int .u64 0, .slice none 0 0]) ∧ Hid (OwnC wr (w1.heap.size + 1) A i c L)) (fun _ v6 _ => n - (intOf v6).toNat)
  case atStart => exact ⟨0, 0, none, [], _, rfl, rfl, Nat.zero_le _, rfl, HV, Lib.hid OwnC.nil⟩
  case round =>
    clear HV
    obtain ⟨i, c, A, L, r, rfl, rfl, hi, hcl, HVr, HOr⟩ := hrel
    rename World => wr
    have hsz := cellsR_fits i _ L r hcl
    have HRS := Lib.hid (Nat.le_trans hsz.2.2 HR0.out)
    have HLL := Lib.hid hsz.2.1
    have HCL := Lib.hid hcl
    clear hsz hcl
    by_cases hlt : i < n
    · have e1 : decide ((i : Int) < (n : Int)) = true := decide_eq_true (by omega)
      have hwi : IntKind.i64.wrap ((i : Int) + 1) = ((i + 1 : Nat) : Int) := by rw [IntWalk.i64_in _ (by omega)]; omega
      cases hd : refCellP r with
      | none =>
        have HDB := Lib.hid (HPN.out (by have := cellsR_stop HCL.out hd (n - i - 1); rw [show i + 1 + (n - i - 1) = n by omega] at this; exact this))
        have HD := Lib.hid hd
        clear hd
        go_wp2_with (first
          | (go_at_call 43; go_loud (refine (refcellDec_none _ HRS.out HD.out).mono ?_); rintro e w5 ⟨x, r', E, rfl, hb, hE⟩; go_loud (have hne : (E != 0) = true := by simpa using hE); go_loud (have HV17 := Lib.hid ((HV.out.below hb).below (below_al w5 (.cells #[.string x.row, .string x.col, .int .u64 x.ts, .int .u64 x.seq, .bool x.del, .string x.val] 75)))); clear hb hE)
          | (go_at_call 42; go_loud (refine (refnumZ t (za := 17) (zn := 1) 17 1 rfl rfl n HP5.out _ (by omega) (by omega) (by omega)).mono ?_); rintro e w9 ⟨rfl, hb⟩; have HV := Lib.hid (HVr.out.below hb); clear hb HVr HOr)
          | (show wpList _ _ _ ({ dst := none, op := Op.store _ (Operand.tmp 2) _, type := _, pos := _, after := _, guard := _ } :: _) _ _; go_loud (refine wpList_store_mid rfl 34 (.tmp 2) (.tmp 47) rfl w.heap.size 0 #[.int .i64 0, .int .u64 0, .int .u64 0, .slice none 0 0, .string ⟨#[]⟩, .int .u64 0, .int .u32 0, .int .u64 0, .slice none 0 0] rfl rfl (HV17.out.z.there 9 (Nat.le_refl _)) (by kernel_rfl) (by simp [Value.oneCell']) ?_; refine HV17.out.z.setW zcv rfl ?_; intro w18 HZ18 HG18)))
        (try simp only [Exit.inBlock, Exit.then])
        refine bodyPost_ret (blk_results rfl Try.underlying34 rfl _ _ w.heap.size _ (by kernel_rfl) _ rfl rfl HZ18.out) rfl ?_
        exact dec_bad HDB.out (below_grown HV17.out.bl HV17.out.bl.size HG18.out (Nat.le_refl _))
      | some xr =>
        obtain ⟨x, r'⟩ := xr
        have HNX := Lib.hid (cellsR_next HCL.out hd)
        have HD := Lib.hid hd
        clear hd
        go_wp2_with (first
          | (go_at_call 43; go_loud (refine (refcellDec_some _ HRS.out HD.out).mono ?_); rintro e w5 ⟨rfl, hb⟩; have HV6 := Lib.hid ((HV.out.below hb).below (below_al w5 (.cells #[.string x.row, .string x.col, .int .u64 x.ts, .int .u64 x.seq, .bool x.del, .string x.val] 75))); have HO6 := Lib.hid ((HO.out.below hb).below (below_al w5 (.cells #[.string x.row, .string x.col, .int .u64 x.ts, .int .u64 x.seq, .bool x.del, .string x.val] 75))); have c3 := HV6.out.v.cell (j := 3) rfl; clear hb HV HO)
          | (go_at_call 42; go_loud (refine (refnumZ t (za := 17) (zn := 1) 17 1 rfl rfl n HP5.out _ (by omega) (by omega) (by omega)).mono ?_); rintro e w9 ⟨rfl, hb⟩; have HV := Lib.hid (HVr.out.below hb); have HO := Lib.hid (HOr.out.below hb); clear hb HVr HOr)
          | (at_builtin; go_loud (refine cells_app rfl _ _ rfl (w1.heap.size + 1) A i c (i + 1) L [x] rfl (HO6.out.below (below_al _ _)) (some ⟨w5.heap.size + 1, 0, none⟩) 1 1 rfl (rd_two w5 _ _ _ (vals [x]) rfl) rfl rfl (by omega) (by rw [World.size_alloc]; have := HV6.out.v.lt; omega) ?_); intro A8 c8 w8 HO8 HG8; go_loud (have hv8 := (HV6.out.below (below_al _ (.cells #[.string x.row, .string x.col, .int .u64 x.ts, .int .u64 x.seq, .bool x.del, .string x.val] 75))).own HG8.out (fun k hk => by have := (Own.lt HO6.out _ hk).1; omega)); go_loud (have f8 := hv8.v.free 3; have g3 := hv8.v.cell (j := 3) rfl; have HV8 := Lib.hid (hv8.set 3 (.slice A8 (i + 1) c8))); go_loud (have HO9 := Lib.hid (show OwnC (w8.setCell ⟨w1.heap.size, 3, none⟩ (.slice A8 (i + 1) c8)) (w1.heap.size + 1) A8 (i + 1) c8 (L ++ [x]) from Own.setCell HO8.out (own_off HO8.out (Nat.lt_succ_self _)) _)); clear hv8))
        exact ⟨⟨i + 1, c8, A8, L ++ [x], r', rfl, by first | rfl | go_num, by omega, HNX.out, HV8, HO9⟩, by simp [intOf]; omega⟩
    · have e1 : decide ((i : Int) < (n : Int)) = false := decide_eq_false (by omega)
      have hin : i = n := by omega
      subst hin
      have HPR := Lib.hid (HPF.out L r HCL.out)
      clear HPF HPN HCL
      obtain ⟨m, hm⟩ : ∃ m, L.length = m := ⟨_, rfl⟩
      have hmn : m = i := by rw [← hm]; exact HLL.out
      subst hmn
      subst hm
      obtain ⟨⟨S, E⟩, hS⟩ : ∃ p, encC ⟨1, client, num, L, ⟨#[]⟩, 0, 0, 0, []⟩ = p := ⟨_, rfl⟩
      have HEN := Lib.hid hS
      clear hS
      by_cases hE : E = 0
      · have hne : (E != 0) = false := by simp [hE]
        by_cases hSt : S = t
        · have HES := Lib.hid (show encC ⟨1, client, num, L, ⟨#[]⟩, 0, 0, 0, []⟩ = (t, 0) by rw [HEN.out, hE, hSt])
          have hs1 : (S.toList == t.toList) = true := by rw [hSt]; exact beq_self_eq_true _
          clear hE hSt
          go_upto_region 25 with (go_at_call 42; go_loud (refine (refnumZ t (za := 17) (zn := 1) 17 1 rfl rfl L.length HP5.out _ (by omega) (by omega) (by omega)).mono ?_); rintro e w9 ⟨rfl, hb⟩; have HV := Lib.hid (HVr.out.below hb); have HO := Lib.hid (HOr.out.below hb); clear hb HVr HOr)
          go_wp2_with (first
            | (show wpList _ _ _ ({ dst := some 94, op := Op.load _ _, type := _, pos := _, after := _, guard := _ } :: _) _ _; go_loud (refine wpList_load_mid rfl 34 (.tmp 4) rfl w1.heap.size 0 rfl [.int .i64 1, .int .u64 client, .int .u64 num, .slice A L.length c, .string ⟨#[]⟩, .int .u64 0, .int .u32 0, .int .u64 0, .slice none 0 0] _ HV.out.v.range Try.underlying34 rfl (by kernel_rfl) ?_))
            | (go_at_call 13; go_loud (refine (refEncode_any ⟨1, client, num, L, ⟨#[]⟩, 0, 0, 0, []⟩ A c none 0 _ (cells_in HO.out _ rfl rfl) (parseR_fits HPR.out)).mono ?_); rw [HEN.out]; rintro e w17 ⟨rfl, hb⟩; have HB17 := Lib.hid hb; have HV17 := Lib.hid (HV.out.below hb); clear hb)
            | (show wpList _ _ _ ({ dst := none, op := Op.store _ (Operand.tmp 2) (Operand.tmp 105), type := _, pos := _, after := _, guard := _ } :: _) _ _; go_loud (refine wpList_store_mid rfl 34 (.tmp 2) (.tmp 105) rfl w.heap.size 0 #[.int .i64 0, .int .u64 0, .int .u64 0, .slice none 0 0, .string ⟨#[]⟩, .int .u64 0, .int .u32 0, .int .u64 0, .slice none 0 0] rfl rfl (HV17.out.z.there 9 (Nat.le_refl _)) (by kernel_rfl) (by simp [Value.oneCell']) ?_; refine HV17.out.z.setW zcv rfl ?_; intro w18 HZ18 HG18))
            | (show wpList _ _ _ ({ dst := some 106, op := Op.load _ _, type := _, pos := _, after := _, guard := _ } :: _) _ _; go_loud (refine wpList_load_mid rfl 34 (.tmp 4) rfl w1.heap.size 0 rfl [.int .i64 1, .int .u64 client, .int .u64 num, .slice A L.length c, .string ⟨#[]⟩, .int .u64 0, .int .u32 0, .int .u64 0, .slice none 0 0] _ HV17.out.v.range Try.underlying34 rfl (by kernel_rfl) ?_))
            | (show wpList _ _ _ ({ dst := none, op := Op.store _ (Operand.tmp 2) (Operand.tmp 106), type := _, pos := _, after := _, guard := _ } :: _) _ _; go_loud (refine wpList_store_mid rfl 34 (.tmp 2) (.tmp 106) rfl w.heap.size 0 #[.int .i64 1, .int .u64 client, .int .u64 num, .slice A L.length c, .string ⟨#[]⟩, .int .u64 0, .int .u32 0, .int .u64 0, .slice none 0 0] rfl rfl (HV17.out.z.there 9 (Nat.le_refl _)) (by kernel_rfl) (by simp [Value.oneCell']) ?_; refine HV17.out.z.setW [.int .i64 1, .int .u64 client, .int .u64 num, .slice A L.length c, .string ⟨#[]⟩, .int .u64 0, .int .u32 0, .int .u64 0, .slice none 0 0] rfl ?_; intro w18 HZ18 HG18)))
          (try simp only [Exit.inBlock, Exit.then])
          refine bodyPost_ret (blk_results rfl Try.underlying34 rfl _ _ w.heap.size _ (by kernel_rfl) _ rfl rfl HZ18.out) rfl ?_
          exact rdec_fin (c := ⟨1, client, num, L, ⟨#[]⟩, 0, 0, 0, []⟩) (A := A) (k := c) (D := none) (m := 0) HPR.out HES.out (cells_in (show OwnC w18 (w1.heap.size + 1) A L.length c L from Own.grown (HO.out.below HB17.out) HG18.out (.inr (own_off HO.out (by have := HV.out.lt; omega)))) _ rfl rfl) (below_grown HV17.out.bl HV17.out.bl.size HG18.out (Nat.le_refl _)) (by first | (intro b h; cases h; done) | (intro b h; have := (Own.lt HO.out _ h).1; have := HV.out.lt; omega)) (by first | (intro b h; cases h; done) | (intro b h; have := (Own.lt HO.out _ h).1; have := HV.out.lt; omega))
        · have hs1 : (S.toList == t.toList) = false := by rw [beq_eq_false_iff_ne]; exact fun h => hSt (toList_inj h)
          have HNE := Lib.hid (show S ≠ t from hSt)
          clear hE hSt
          go_upto_region 25 with (go_at_call 42; go_loud (refine (refnumZ t (za := 17) (zn := 1) 17 1 rfl rfl L.length HP5.out _ (by omega) (by omega) (by omega)).mono ?_); rintro e w9 ⟨rfl, hb⟩; have HV := Lib.hid (HVr.out.below hb); have HO := Lib.hid (HOr.out.below hb); clear hb HVr HOr)
          go_wp2_with (first
            | (show wpList _ _ _ ({ dst := some 94, op := Op.load _ _, type := _, pos := _, after := _, guard := _ } :: _) _ _; go_loud (refine wpList_load_mid rfl 34 (.tmp 4) rfl w1.heap.size 0 rfl [.int .i64 1, .int .u64 client, .int .u64 num, .slice A L.length c, .string ⟨#[]⟩, .int .u64 0, .int .u32 0, .int .u64 0, .slice none 0 0] _ HV.out.v.range Try.underlying34 rfl (by kernel_rfl) ?_))
            | (go_at_call 13; go_loud (refine (refEncode_any ⟨1, client, num, L, ⟨#[]⟩, 0, 0, 0, []⟩ A c none 0 _ (cells_in HO.out _ rfl rfl) (parseR_fits HPR.out)).mono ?_); rw [HEN.out]; rintro e w17 ⟨rfl, hb⟩; have HB17 := Lib.hid hb; have HV17 := Lib.hid (HV.out.below hb); clear hb)
            | (show wpList _ _ _ ({ dst := none, op := Op.store _ (Operand.tmp 2) (Operand.tmp 105), type := _, pos := _, after := _, guard := _ } :: _) _ _; go_loud (refine wpList_store_mid rfl 34 (.tmp 2) (.tmp 105) rfl w.heap.size 0 #[.int .i64 0, .int .u64 0, .int .u64 0, .slice none 0 0, .string ⟨#[]⟩, .int .u64 0, .int .u32 0, .int .u64 0, .slice none 0 0] rfl rfl (HV17.out.z.there 9 (Nat.le_refl _)) (by kernel_rfl) (by simp [Value.oneCell']) ?_; refine HV17.out.z.setW zcv rfl ?_; intro w18 HZ18 HG18))
            | (show wpList _ _ _ ({ dst := some 106, op := Op.load _ _, type := _, pos := _, after := _, guard := _ } :: _) _ _; go_loud (refine wpList_load_mid rfl 34 (.tmp 4) rfl w1.heap.size 0 rfl [.int .i64 1, .int .u64 client, .int .u64 num, .slice A L.length c, .string ⟨#[]⟩, .int .u64 0, .int .u32 0, .int .u64 0, .slice none 0 0] _ HV17.out.v.range Try.underlying34 rfl (by kernel_rfl) ?_))
            | (show wpList _ _ _ ({ dst := none, op := Op.store _ (Operand.tmp 2) (Operand.tmp 106), type := _, pos := _, after := _, guard := _ } :: _) _ _; go_loud (refine wpList_store_mid rfl 34 (.tmp 2) (.tmp 106) rfl w.heap.size 0 #[.int .i64 1, .int .u64 client, .int .u64 num, .slice A L.length c, .string ⟨#[]⟩, .int .u64 0, .int .u32 0, .int .u64 0, .slice none 0 0] rfl rfl (HV17.out.z.there 9 (Nat.le_refl _)) (by kernel_rfl) (by simp [Value.oneCell']) ?_; refine HV17.out.z.setW [.int .i64 1, .int .u64 client, .int .u64 num, .slice A L.length c, .string ⟨#[]⟩, .int .u64 0, .int .u32 0, .int .u64 0, .slice none 0 0] rfl ?_; intro w18 HZ18 HG18)))
          (try simp only [Exit.inBlock, Exit.then])
          refine bodyPost_ret (blk_results rfl Try.underlying34 rfl _ _ w.heap.size _ (by kernel_rfl) _ rfl rfl HZ18.out) rfl ?_
          exact dec_bad (rdec_not HPR.out HEN.out (by first | exact .inl HNE.out | exact .inr HNE.out)) (below_grown HV17.out.bl HV17.out.bl.size HG18.out (Nat.le_refl _))
      · have hne : (E != 0) = true := by simp [hE]
        have HNE := Lib.hid (show E ≠ 0 from hE)
        clear hE
        go_upto_region 25 with (go_at_call 42; go_loud (refine (refnumZ t (za := 17) (zn := 1) 17 1 rfl rfl L.length HP5.out _ (by omega) (by omega) (by omega)).mono ?_); rintro e w9 ⟨rfl, hb⟩; have HV := Lib.hid (HVr.out.below hb); have HO := Lib.hid (HOr.out.below hb); clear hb HVr HOr)
        go_wp2_with (first
          | (show wpList _ _ _ ({ dst := some 94, op := Op.load _ _, type := _, pos := _, after := _, guard := _ } :: _) _ _; go_loud (refine wpList_load_mid rfl 34 (.tmp 4) rfl w1.heap.size 0 rfl [.int .i64 1, .int .u64 client, .int .u64 num, .slice A L.length c, .string ⟨#[]⟩, .int .u64 0, .int .u32 0, .int .u64 0, .slice none 0 0] _ HV.out.v.range Try.underlying34 rfl (by kernel_rfl) ?_))
          | (go_at_call 13; go_loud (refine (refEncode_any ⟨1, client, num, L, ⟨#[]⟩, 0, 0, 0, []⟩ A c none 0 _ (cells_in HO.out _ rfl rfl) (parseR_fits HPR.out)).mono ?_); rw [HEN.out]; rintro e w17 ⟨rfl, hb⟩; have HB17 := Lib.hid hb; have HV17 := Lib.hid (HV.out.below hb); clear hb)
          | (show wpList _ _ _ ({ dst := none, op := Op.store _ (Operand.tmp 2) (Operand.tmp 105), type := _, pos := _, after := _, guard := _ } :: _) _ _; go_loud (refine wpList_store_mid rfl 34 (.tmp 2) (.tmp 105) rfl w.heap.size 0 #[.int .i64 0, .int .u64 0, .int .u64 0, .slice none 0 0, .string ⟨#[]⟩, .int .u64 0, .int .u32 0, .int .u64 0, .slice none 0 0] rfl rfl (HV17.out.z.there 9 (Nat.le_refl _)) (by kernel_rfl) (by simp [Value.oneCell']) ?_; refine HV17.out.z.setW zcv rfl ?_; intro w18 HZ18 HG18))
          | (show wpList _ _ _ ({ dst := some 106, op := Op.load _ _, type := _, pos := _, after := _, guard := _ } :: _) _ _; go_loud (refine wpList_load_mid rfl 34 (.tmp 4) rfl w1.heap.size 0 rfl [.int .i64 1, .int .u64 client, .int .u64 num, .slice A L.length c, .string ⟨#[]⟩, .int .u64 0, .int .u32 0, .int .u64 0, .slice none 0 0] _ HV17.out.v.range Try.underlying34 rfl (by kernel_rfl) ?_))
          | (show wpList _ _ _ ({ dst := none, op := Op.store _ (Operand.tmp 2) (Operand.tmp 106), type := _, pos := _, after := _, guard := _ } :: _) _ _; go_loud (refine wpList_store_mid rfl 34 (.tmp 2) (.tmp 106) rfl w.heap.size 0 #[.int .i64 1, .int .u64 client, .int .u64 num, .slice A L.length c, .string ⟨#[]⟩, .int .u64 0, .int .u32 0, .int .u64 0, .slice none 0 0] rfl rfl (HV17.out.z.there 9 (Nat.le_refl _)) (by kernel_rfl) (by simp [Value.oneCell']) ?_; refine HV17.out.z.setW [.int .i64 1, .int .u64 client, .int .u64 num, .slice A L.length c, .string ⟨#[]⟩, .int .u64 0, .int .u32 0, .int .u64 0, .slice none 0 0] rfl ?_; intro w18 HZ18 HG18)))
        (try simp only [Exit.inBlock, Exit.then])
        refine bodyPost_ret (blk_results rfl Try.underlying34 rfl _ _ w.heap.size _ (by kernel_rfl) _ rfl rfl HZ18.out) rfl ?_
        exact dec_bad (rdec_not HPR.out HEN.out (by first | exact .inl HNE.out | exact .inr HNE.out)) (below_grown HV17.out.bl HV17.out.bl.size HG18.out (Nat.le_refl _))
theorem refDecode_any (t : ByteArray) (w : World) (ht : t.size ≤ 100000) : Calls Try.prog 16 #[.string t] w (DecOut t w) := by
  by_cases h1 : numR t 0 1 = 1
  · exact refDecode_1 t w ht h1
  · by_cases h2 : numR t 0 1 = 2
    · exact refDecode_2 t w ht h2
    · by_cases h3 : numR t 0 1 = 3
      · exact refDecode_3 t w ht h3
      · exact refDecode_0 t w ht h1 h2 h3
end Go.Proofs.Ytiiogdgnccgehaa
