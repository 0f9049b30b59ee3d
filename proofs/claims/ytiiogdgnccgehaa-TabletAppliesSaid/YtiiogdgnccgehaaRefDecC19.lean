/-
  The walk of the reference's Decode at ingests. No conditions.
-/
import Derived.Test.YtiiogdgnccgehaaRefDecB19
namespace Go.Proofs.Ytiiogdgnccgehaa
open Go.RowKit
attribute [local go_sem ↓] Go.wp_at_zero Go.wp_at_succ

set_option maxRecDepth 100000 in
set_option maxHeartbeats 16000000 in
theorem refDecode_3 (t : ByteArray) (w : World) (ht : t.size ≤ 100000) (hk3 : numR t 0 1 = 3) : Calls Try.prog 16 #[.string t] w (DecOut t w) := by
  obtain ⟨job, hp2⟩ : ∃ x, numR t 1 8 = x := ⟨_, rfl⟩
  obtain ⟨sum, hp3⟩ : ∃ x, numR t 9 4 = x := ⟨_, rfl⟩
  obtain ⟨epoch, hp4⟩ : ∃ x, numR t 13 8 = x := ⟨_, rfl⟩
  obtain ⟨n, hp5⟩ : ∃ x, numR t 21 1 = x := ⟨_, rfl⟩
  have hn : n < 256 := by have := numR_lt t 21 1; rw [hp5] at this; exact this
  have hsm : sum < 256 ^ 4 := by have := numR_lt t 9 4; rw [hp3] at this; exact this
  have hws : IntKind.u32.wrap (sum : Int) = (sum : Int) := u32_nat sum (by omega)
  have hwn : IntKind.i64.wrap (n : Int) = (n : Int) := IntWalk.i64_in _ (by omega)
  obtain ⟨F, hF⟩ : ∃ F, (List.range n).map (fun i => numR t (22 + 4 * i) 4) = F := ⟨_, rfl⟩
  have hfl : F.length = n := by rw [← hF]; simp
  have HFX := Lib.hid (fun (i : Nat) (h : i < F.length) => show F[i] = numR t (22 + 4 * i) 4 by subst hF; simp)
  have HPR := Lib.hid (show parseR t = some ⟨3, 0, 0, [], ⟨#[]⟩, job, sum, epoch, F⟩ by unfold parseR; rw [if_neg (by omega), if_neg (by omega), if_pos hk3, hp2, hp3, hp4, hp5, hF])
  have HFL := Lib.hid hfl
  have HP1 := Lib.hid hk3
  have HP2 := Lib.hid hp2
  have HP3 := Lib.hid hp3
  have HP4 := Lib.hid hp4
  have HP5 := Lib.hid hp5
  clear hk3 hp2 hp3 hp4 hp5 hsm hF hfl
  go_enter Try.func16, Try.ntmps16
  go_wp2_with (first
    | (have hgate := HV3; clear hgate; go_at_call 42; go_loud (refine (refnumZ t (za := 13) (zn := 8) 13 8 rfl rfl epoch HP4.out _ (by omega) (by omega) (by omega)).mono ?_); rintro e w4 ⟨rfl, hb⟩; have hv := HV3.out.below hb; have c7 := hv.v.cell (j := 7) rfl; have f7 := hv.v.free 7; have HV := Lib.hid (hv.set 7 (.int .u64 epoch)); clear hb hv HV3)
    | (have hgate := HV2; clear hgate; go_at_call 42; go_loud (refine (refnumZ t (za := 9) (zn := 4) 9 4 rfl rfl sum HP3.out _ (by omega) (by omega) (by omega)).mono ?_); rintro e w3 ⟨rfl, hb⟩; have hv := HV2.out.below hb; have c6 := hv.v.cell (j := 6) rfl; have f6 := hv.v.free 6; have HV3 := Lib.hid (hv.set 6 (.int .u32 sum)); clear hb hv HV2)
    | (have hgate := HV1; clear hgate; go_at_call 42; go_loud (refine (refnumZ t (za := 1) (zn := 8) 1 8 rfl rfl job HP2.out _ (by omega) (by omega) (by omega)).mono ?_); rintro e w2 ⟨rfl, hb⟩; have hv := HV1.out.below hb; have c5 := hv.v.cell (j := 5) rfl; have f5 := hv.v.free 5; have HV2 := Lib.hid (hv.set 5 (.int .u64 job)); clear hb hv HV1)
    | (go_at_call 42; go_loud (refine (refnumZ t (za := 0) (zn := 1) 0 1 rfl rfl 3 HP1.out _ (by omega) (by omega) (by omega)).mono ?_); rintro e w1 ⟨rfl, hb⟩; have HV1 := Lib.hid (RDV.start hb [.int .i64 3, .int .u64 0, .int .u64 0, .slice none 0 0, .string ⟨#[]⟩, .int .u64 0, .int .u32 0, .int .u64 0, .slice none 0 0]); clear hb))
  go_loopw [10] (fun v10 wr => ∃ (i c : Nat) (D : Option Addr), v10 = .int .i64 (i : Nat) ∧ i ≤ n ∧ Hid (RDV w wr w1.heap.size [.int .i64 3, .int .u64 0, .int .u64 0, .slice none 0 0, .string ⟨#[]⟩, .int .u64 job, .int .u32 sum, .int .u64 epoch, .slice D i c]) ∧ Hid (OwnU wr (w1.heap.size + 1) D i c (F.take i))) (fun v10 _ => n - (intOf v10).toNat)
  case atStart => exact ⟨0, 0, none, rfl, Nat.zero_le _, HV, Lib.hid OwnU.nil⟩
  case round =>
    clear HV
    obtain ⟨i, c, D, rfl, hi, HVr, HOr⟩ := hrel
    rename World => wr
    by_cases hlt : i < n
    · have e1 : decide ((i : Int) < (n : Int)) = true := decide_eq_true (by omega)
      have hwi : IntKind.i64.wrap ((i : Int) + 1) = ((i + 1 : Nat) : Int) := by rw [IntWalk.i64_in _ (by omega)]; omega
      have hw4 : IntKind.i64.wrap (4 * (i : Int)) = 4 * (i : Int) := IntWalk.i64_in _ (by omega)
      have hw5 : IntKind.i64.wrap (22 + 4 * (i : Int)) = 22 + 4 * (i : Int) := IntWalk.i64_in _ (by omega)
      have hil : i < F.length := by rw [HFL.out]; exact hlt
      have htk := List.take_succ_eq_append_getElem hil
      rw [HFX.out i hil] at htk
      obtain ⟨x, hx⟩ : ∃ x, numR t (22 + 4 * i) 4 = x := ⟨_, rfl⟩
      rw [hx] at htk
      have hx4 : x < 256 ^ 4 := by have := numR_lt t (22 + 4 * i) 4; rw [hx] at this; exact this
      have hwx : IntKind.u32.wrap (x : Int) = (x : Int) := u32_nat x (by omega)
      obtain ⟨L, hL⟩ : ∃ L, F.take i = L := ⟨_, rfl⟩
      rw [hL] at htk HOr
      have HTK := Lib.hid htk
      have HX := Lib.hid hx
      clear htk hx hL hx4
      go_wp2_with (go_at_call 42; go_loud (refine (refnumZ t (za := 21) (zn := 1) 21 1 rfl rfl n HP5.out _ (by omega) (by omega) (by omega)).mono ?_); rintro e w9 ⟨rfl, hb⟩; have HV := Lib.hid (HVr.out.below hb); have HO := Lib.hid (HOr.out.below hb); clear hb HVr HOr)
      have HV2 := Lib.hid (HV.out.below ((Below.refl _ w9).drew))
      have HO2 := Lib.hid (HO.out.below ((Below.refl _ w9).drew))
      have hcell : ∀ W, Hid (Blk 34 W w1.heap.size [.int .i64 3, .int .u64 0, .int .u64 0, .slice none 0 0, .string ⟨#[]⟩, .int .u64 job, .int .u32 sum, .int .u64 epoch, .slice D i c]) → W.cell? ⟨w1.heap.size, 8, none⟩ = some (.slice D i c) := fun W h => h.out.cell (j := 8) rfl
      have HC := hcell _ (Lib.hid HV2.out.v)
      clear HV HO
      refine region_wz (fun W => W.cell? ⟨w1.heap.size, 8, none⟩ = some (.slice D i c)) (some 11) (by kernel_rfl) ?_
      apply WZ.take (i := 0) (some 82) rfl rfl (by kernel_rfl) (by kernel_rfl) (by kernel_rfl) (calm_panic _) (by kernel_rfl)
      case hy => (refine .inl ⟨by kernel_rfl, fun W hC => ?_⟩; (try dsimp only at hC); go_simp; rfl)
      case hC => exact HC
      case ha => (simp only [Act.put, List.setIfInBounds_toArray, List.set_cons_zero, List.set_cons_succ]; rfl)
      apply WZ.take (i := 1) (some 83) rfl rfl (by kernel_rfl) (by kernel_rfl) (by kernel_rfl) (calm_panic _) (by kernel_rfl)
      case hy => (refine .inl ⟨by kernel_rfl, fun W hC => ?_⟩; (try dsimp only at hC); go_simp; rfl)
      case hC => exact HC
      case ha => (simp only [Act.put, List.setIfInBounds_toArray, List.set_cons_zero, List.set_cons_succ]; rfl)
      apply WZ.take (i := 2) (some 84) rfl rfl (by kernel_rfl) (by kernel_rfl) (by kernel_rfl) (calm_panic _) (by kernel_rfl)
      case hy => (refine .inl ⟨by kernel_rfl, fun W hC => ?_⟩; (try dsimp only at hC); go_simp; rfl)
      case hC => exact HC
      case ha => (simp only [Act.put, List.setIfInBounds_toArray, List.set_cons_zero, List.set_cons_succ]; rfl)
      apply WZ.take (i := 3) (some 85) rfl rfl (by kernel_rfl) (by kernel_rfl) (by kernel_rfl) (calm_panic _) (by kernel_rfl)
      case hy => (refine .inl ⟨by kernel_rfl, fun W hC => ?_⟩; (try dsimp only at hC); go_simp; rfl)
      case hC => exact HC
      case ha => (simp only [Act.put, List.setIfInBounds_toArray, List.set_cons_zero, List.set_cons_succ]; rfl)
      apply WZ.take (i := 4) (some 86) rfl rfl (by kernel_rfl) (by kernel_rfl) (by kernel_rfl) (calm_panic _) (by kernel_rfl)
      case hy => (refine .inl ⟨by kernel_rfl, fun W hC => ?_⟩; (try dsimp only at hC); go_simp; rfl)
      case hC => exact HC
      case ha => (simp only [Act.put, List.setIfInBounds_toArray, List.set_cons_zero, List.set_cons_succ]; rfl)
      apply WZ.take (i := 5) (some 87) rfl rfl (by kernel_rfl) (by kernel_rfl) (by kernel_rfl) (calm_panic _) (by kernel_rfl)
      case hy => (refine .inl ⟨by kernel_rfl, fun W hC => ?_⟩; (try dsimp only at hC); go_simp; rfl)
      case hC => exact HC
      case ha => (simp only [Act.put, List.setIfInBounds_toArray, List.set_cons_zero, List.set_cons_succ]; rfl)
      -- 6
      refine WZ.one (i := 6) rfl (by kernel_rfl) ?_
      conv => arg 4; arg 1; whnf
      go_wp2_with (go_at_call 42; go_loud (refine (refnumZ t (za := 22 + 4 * (i : Int)) (zn := 4) (22 + 4 * i) 4 (by omega) rfl x HX.out _ (by omega) (by omega) (by omega)).mono ?_); rintro e w6 ⟨rfl, hb⟩; have HV6 := Lib.hid (HV2.out.below hb); have HO6 := Lib.hid (HO2.out.below hb); clear hb)
      clear HC
      have HC := hcell _ (Lib.hid HV6.out.v)
      refine ⟨HC, ?_⟩
      apply WZ.take (i := 7) (some 89) rfl rfl (by kernel_rfl) (by kernel_rfl) (by kernel_rfl) (calm_panic _) (by kernel_rfl)
      case hy => (refine .inl ⟨by kernel_rfl, fun W hC => ?_⟩; (try dsimp only at hC); go_simp; rfl)
      case hC => exact HC
      case ha => (simp only [Act.put, List.setIfInBounds_toArray, List.set_cons_zero, List.set_cons_succ]; rfl)
      -- 8
      refine WZ.one (i := 8) rfl (by kernel_rfl) ?_
      conv => arg 4; arg 1; whnf
      go_wp2_with fail
      have HV7 := Lib.hid (HV6.out.below (below_al w6 (.cells #[.int .u32 x] 24)))
      have HO7 := Lib.hid (HO6.out.below (below_al w6 (.cells #[.int .u32 x] 24)))
      have HR7 := Lib.hid ((Rd.ofBlock (heap_alloc_new w6 (.cells #[.int .u32 x] 24)) (xs := u32s [x]) rfl))
      clear HC
      have HC := hcell _ (Lib.hid HV7.out.v)
      refine ⟨HC, ?_⟩
      -- 9
      refine WZ.one (i := 9) rfl (by kernel_rfl) ?_
      conv => arg 4; arg 1; whnf
      go_wp2_with (at_builtin; go_loud (refine nums_app rfl _ _ rfl (w1.heap.size + 1) D i c (i + 1) L [x] rfl HO7.out (some ⟨w6.heap.size, 0, none⟩) 1 1 rfl HR7.out rfl rfl (by omega) HV7.out.v.lt ?_); intro D8 c8 w8 HO8 HG8)
      have hv8 := HV7.out.own HG8.out (fun k hk => by have := (Own.lt HO7.out _ hk).1; omega)
      have f8 := hv8.v.free 8
      have HV8 := Lib.hid (hv8.set 8 (.slice D8 (i + 1) c8))
      have HO9 := Lib.hid (show OwnU (w8.setCell ⟨w1.heap.size, 8, none⟩ (.slice D8 (i + 1) c8)) (w1.heap.size + 1) D8 (i + 1) c8 (L ++ [x]) from Own.setCell HO8.out (own_off HO8.out (Nat.lt_succ_self _)) _)
      clear HC
      have HC := hcell _ (Lib.hid hv8.v)
      clear hv8
      refine ⟨HC, ?_⟩
      apply WZ.take (i := 10) (some 92) rfl rfl (by kernel_rfl) (by kernel_rfl) (by kernel_rfl) (calm_panic _) (by kernel_rfl)
      case hy => (refine .inl ⟨by kernel_rfl, fun W hC => ?_⟩; (try dsimp only at hC); go_simp; rfl)
      case hC => exact HC
      case ha => (simp only [Act.put, List.setIfInBounds_toArray, List.set_cons_zero, List.set_cons_succ]; rfl)
      -- 11
      refine WZ.last (i := 11) rfl (by kernel_rfl) (by kernel_rfl) ?_
      conv => arg 4; arg 1; whnf
      go_wp2
      refine WZ.done (by kernel_rfl) ?_ _
      simp only [Calm, Exit.then]
      go_wp2
      exact ⟨⟨i + 1, c8, D8, by first | rfl | go_num, by omega, HV8, by rw [HTK.out]; exact HO9⟩, by simp [intOf]; omega⟩
    · have e1 : decide ((i : Int) < (n : Int)) = false := decide_eq_false (by omega)
      have hin : i = n := by omega
      subst hin
      rw [List.take_of_length_le (by rw [HFL.out]; exact Nat.le_refl _)] at HOr
      clear HFX
      obtain ⟨m, hm⟩ : ∃ m, F.length = m := ⟨_, rfl⟩
      have hmn : m = i := by rw [← hm]; exact HFL.out
      subst hmn
      subst hm
      obtain ⟨⟨S, E⟩, hS⟩ : ∃ p, encC ⟨3, 0, 0, [], ⟨#[]⟩, job, sum, epoch, F⟩ = p := ⟨_, rfl⟩
      have HEN := Lib.hid hS
      clear hS
      by_cases hE : E = 0
      · have hne : (E != 0) = false := by simp [hE]
        by_cases hSt : S = t
        · have HES := Lib.hid (show encC ⟨3, 0, 0, [], ⟨#[]⟩, job, sum, epoch, F⟩ = (t, 0) by rw [HEN.out, hE, hSt])
          have hs1 : (S.toList == t.toList) = true := by rw [hSt]; exact beq_self_eq_true _
          clear hE hSt
          go_upto_region 25 with (go_at_call 42; go_loud (refine (refnumZ t (za := 21) (zn := 1) 21 1 rfl rfl F.length HP5.out _ (by omega) (by omega) (by omega)).mono ?_); rintro e w9 ⟨rfl, hb⟩; have HV := Lib.hid (HVr.out.below hb); have HO := Lib.hid (HOr.out.below hb); clear hb HVr HOr)
          go_wp2_with (first
            | (show wpList _ _ _ ({ dst := some 94, op := Op.load _ _, type := _, pos := _, after := _, guard := _ } :: _) _ _; go_loud (refine wpList_load_mid rfl 34 (.tmp 4) rfl w1.heap.size 0 rfl [.int .i64 3, .int .u64 0, .int .u64 0, .slice none 0 0, .string ⟨#[]⟩, .int .u64 job, .int .u32 sum, .int .u64 epoch, .slice D F.length c] _ HV.out.v.range Try.underlying34 rfl (by kernel_rfl) ?_))
            | (go_at_call 13; go_loud (refine (refEncode_any ⟨3, 0, 0, [], ⟨#[]⟩, job, sum, epoch, F⟩ none 0 D c _ (files_in HO.out _ rfl rfl) (parseR_fits HPR.out)).mono ?_); rw [HEN.out]; rintro e w17 ⟨rfl, hb⟩; have HB17 := Lib.hid hb; have HV17 := Lib.hid (HV.out.below hb); clear hb)
            | (show wpList _ _ _ ({ dst := none, op := Op.store _ (Operand.tmp 2) (Operand.tmp 105), type := _, pos := _, after := _, guard := _ } :: _) _ _; go_loud (refine wpList_store_mid rfl 34 (.tmp 2) (.tmp 105) rfl w.heap.size 0 #[.int .i64 0, .int .u64 0, .int .u64 0, .slice none 0 0, .string ⟨#[]⟩, .int .u64 0, .int .u32 0, .int .u64 0, .slice none 0 0] rfl rfl (HV17.out.z.there 9 (Nat.le_refl _)) (by kernel_rfl) (by simp [Value.oneCell']) ?_; refine HV17.out.z.setW zcv rfl ?_; intro w18 HZ18 HG18))
            | (show wpList _ _ _ ({ dst := some 106, op := Op.load _ _, type := _, pos := _, after := _, guard := _ } :: _) _ _; go_loud (refine wpList_load_mid rfl 34 (.tmp 4) rfl w1.heap.size 0 rfl [.int .i64 3, .int .u64 0, .int .u64 0, .slice none 0 0, .string ⟨#[]⟩, .int .u64 job, .int .u32 sum, .int .u64 epoch, .slice D F.length c] _ HV17.out.v.range Try.underlying34 rfl (by kernel_rfl) ?_))
            | (show wpList _ _ _ ({ dst := none, op := Op.store _ (Operand.tmp 2) (Operand.tmp 106), type := _, pos := _, after := _, guard := _ } :: _) _ _; go_loud (refine wpList_store_mid rfl 34 (.tmp 2) (.tmp 106) rfl w.heap.size 0 #[.int .i64 3, .int .u64 0, .int .u64 0, .slice none 0 0, .string ⟨#[]⟩, .int .u64 job, .int .u32 sum, .int .u64 epoch, .slice D F.length c] rfl rfl (HV17.out.z.there 9 (Nat.le_refl _)) (by kernel_rfl) (by simp [Value.oneCell']) ?_; refine HV17.out.z.setW [.int .i64 3, .int .u64 0, .int .u64 0, .slice none 0 0, .string ⟨#[]⟩, .int .u64 job, .int .u32 sum, .int .u64 epoch, .slice D F.length c] rfl ?_; intro w18 HZ18 HG18)))
          (try simp only [Exit.inBlock, Exit.then])
          refine bodyPost_ret (blk_results rfl Try.underlying34 rfl _ _ w.heap.size _ (by kernel_rfl) _ rfl rfl HZ18.out) rfl ?_
          exact rdec_fin (c := ⟨3, 0, 0, [], ⟨#[]⟩, job, sum, epoch, F⟩) (A := none) (k := 0) (D := D) (m := c) HPR.out HES.out (files_in (show OwnU w18 (w1.heap.size + 1) D F.length c F from Own.grown (HO.out.below HB17.out) HG18.out (.inr (own_off HO.out (by have := HV.out.lt; omega)))) _ rfl rfl) (below_grown HV17.out.bl HV17.out.bl.size HG18.out (Nat.le_refl _)) (by first | (intro b h; cases h; done) | (intro b h; have := (Own.lt HO.out _ h).1; have := HV.out.lt; omega)) (by first | (intro b h; cases h; done) | (intro b h; have := (Own.lt HO.out _ h).1; have := HV.out.lt; omega))
        · have hs1 : (S.toList == t.toList) = false := by rw [beq_eq_false_iff_ne]; exact fun h => hSt (toList_inj h)
          have HNE := Lib.hid (show S ≠ t from hSt)
          clear hE hSt
          go_upto_region 25 with (go_at_call 42; go_loud (refine (refnumZ t (za := 21) (zn := 1) 21 1 rfl rfl F.length HP5.out _ (by omega) (by omega) (by omega)).mono ?_); rintro e w9 ⟨rfl, hb⟩; have HV := Lib.hid (HVr.out.below hb); have HO := Lib.hid (HOr.out.below hb); clear hb HVr HOr)
          go_wp2_with (first
            | (show wpList _ _ _ ({ dst := some 94, op := Op.load _ _, type := _, pos := _, after := _, guard := _ } :: _) _ _; go_loud (refine wpList_load_mid rfl 34 (.tmp 4) rfl w1.heap.size 0 rfl [.int .i64 3, .int .u64 0, .int .u64 0, .slice none 0 0, .string ⟨#[]⟩, .int .u64 job, .int .u32 sum, .int .u64 epoch, .slice D F.length c] _ HV.out.v.range Try.underlying34 rfl (by kernel_rfl) ?_))
            | (go_at_call 13; go_loud (refine (refEncode_any ⟨3, 0, 0, [], ⟨#[]⟩, job, sum, epoch, F⟩ none 0 D c _ (files_in HO.out _ rfl rfl) (parseR_fits HPR.out)).mono ?_); rw [HEN.out]; rintro e w17 ⟨rfl, hb⟩; have HB17 := Lib.hid hb; have HV17 := Lib.hid (HV.out.below hb); clear hb)
            | (show wpList _ _ _ ({ dst := none, op := Op.store _ (Operand.tmp 2) (Operand.tmp 105), type := _, pos := _, after := _, guard := _ } :: _) _ _; go_loud (refine wpList_store_mid rfl 34 (.tmp 2) (.tmp 105) rfl w.heap.size 0 #[.int .i64 0, .int .u64 0, .int .u64 0, .slice none 0 0, .string ⟨#[]⟩, .int .u64 0, .int .u32 0, .int .u64 0, .slice none 0 0] rfl rfl (HV17.out.z.there 9 (Nat.le_refl _)) (by kernel_rfl) (by simp [Value.oneCell']) ?_; refine HV17.out.z.setW zcv rfl ?_; intro w18 HZ18 HG18))
            | (show wpList _ _ _ ({ dst := some 106, op := Op.load _ _, type := _, pos := _, after := _, guard := _ } :: _) _ _; go_loud (refine wpList_load_mid rfl 34 (.tmp 4) rfl w1.heap.size 0 rfl [.int .i64 3, .int .u64 0, .int .u64 0, .slice none 0 0, .string ⟨#[]⟩, .int .u64 job, .int .u32 sum, .int .u64 epoch, .slice D F.length c] _ HV17.out.v.range Try.underlying34 rfl (by kernel_rfl) ?_))
            | (show wpList _ _ _ ({ dst := none, op := Op.store _ (Operand.tmp 2) (Operand.tmp 106), type := _, pos := _, after := _, guard := _ } :: _) _ _; go_loud (refine wpList_store_mid rfl 34 (.tmp 2) (.tmp 106) rfl w.heap.size 0 #[.int .i64 3, .int .u64 0, .int .u64 0, .slice none 0 0, .string ⟨#[]⟩, .int .u64 job, .int .u32 sum, .int .u64 epoch, .slice D F.length c] rfl rfl (HV17.out.z.there 9 (Nat.le_refl _)) (by kernel_rfl) (by simp [Value.oneCell']) ?_; refine HV17.out.z.setW [.int .i64 3, .int .u64 0, .int .u64 0, .slice none 0 0, .string ⟨#[]⟩, .int .u64 job, .int .u32 sum, .int .u64 epoch, .slice D F.length c] rfl ?_; intro w18 HZ18 HG18)))
          (try simp only [Exit.inBlock, Exit.then])
          refine bodyPost_ret (blk_results rfl Try.underlying34 rfl _ _ w.heap.size _ (by kernel_rfl) _ rfl rfl HZ18.out) rfl ?_
          exact dec_bad (rdec_not HPR.out HEN.out (by first | exact .inl HNE.out | exact .inr HNE.out)) (below_grown HV17.out.bl HV17.out.bl.size HG18.out (Nat.le_refl _))
      · have hne : (E != 0) = true := by simp [hE]
        have HNE := Lib.hid (show E ≠ 0 from hE)
        clear hE
        go_upto_region 25 with (go_at_call 42; go_loud (refine (refnumZ t (za := 21) (zn := 1) 21 1 rfl rfl F.length HP5.out _ (by omega) (by omega) (by omega)).mono ?_); rintro e w9 ⟨rfl, hb⟩; have HV := Lib.hid (HVr.out.below hb); have HO := Lib.hid (HOr.out.below hb); clear hb HVr HOr)
        go_wp2_with (first
          | (show wpList _ _ _ ({ dst := some 94, op := Op.load _ _, type := _, pos := _, after := _, guard := _ } :: _) _ _; go_loud (refine wpList_load_mid rfl 34 (.tmp 4) rfl w1.heap.size 0 rfl [.int .i64 3, .int .u64 0, .int .u64 0, .slice none 0 0, .string ⟨#[]⟩, .int .u64 job, .int .u32 sum, .int .u64 epoch, .slice D F.length c] _ HV.out.v.range Try.underlying34 rfl (by kernel_rfl) ?_))
          | (go_at_call 13; go_loud (refine (refEncode_any ⟨3, 0, 0, [], ⟨#[]⟩, job, sum, epoch, F⟩ none 0 D c _ (files_in HO.out _ rfl rfl) (parseR_fits HPR.out)).mono ?_); rw [HEN.out]; rintro e w17 ⟨rfl, hb⟩; have HB17 := Lib.hid hb; have HV17 := Lib.hid (HV.out.below hb); clear hb)
          | (show wpList _ _ _ ({ dst := none, op := Op.store _ (Operand.tmp 2) (Operand.tmp 105), type := _, pos := _, after := _, guard := _ } :: _) _ _; go_loud (refine wpList_store_mid rfl 34 (.tmp 2) (.tmp 105) rfl w.heap.size 0 #[.int .i64 0, .int .u64 0, .int .u64 0, .slice none 0 0, .string ⟨#[]⟩, .int .u64 0, .int .u32 0, .int .u64 0, .slice none 0 0] rfl rfl (HV17.out.z.there 9 (Nat.le_refl _)) (by kernel_rfl) (by simp [Value.oneCell']) ?_; refine HV17.out.z.setW zcv rfl ?_; intro w18 HZ18 HG18))
          | (show wpList _ _ _ ({ dst := some 106, op := Op.load _ _, type := _, pos := _, after := _, guard := _ } :: _) _ _; go_loud (refine wpList_load_mid rfl 34 (.tmp 4) rfl w1.heap.size 0 rfl [.int .i64 3, .int .u64 0, .int .u64 0, .slice none 0 0, .string ⟨#[]⟩, .int .u64 job, .int .u32 sum, .int .u64 epoch, .slice D F.length c] _ HV17.out.v.range Try.underlying34 rfl (by kernel_rfl) ?_))
          | (show wpList _ _ _ ({ dst := none, op := Op.store _ (Operand.tmp 2) (Operand.tmp 106), type := _, pos := _, after := _, guard := _ } :: _) _ _; go_loud (refine wpList_store_mid rfl 34 (.tmp 2) (.tmp 106) rfl w.heap.size 0 #[.int .i64 3, .int .u64 0, .int .u64 0, .slice none 0 0, .string ⟨#[]⟩, .int .u64 job, .int .u32 sum, .int .u64 epoch, .slice D F.length c] rfl rfl (HV17.out.z.there 9 (Nat.le_refl _)) (by kernel_rfl) (by simp [Value.oneCell']) ?_; refine HV17.out.z.setW [.int .i64 3, .int .u64 0, .int .u64 0, .slice none 0 0, .string ⟨#[]⟩, .int .u64 job, .int .u32 sum, .int .u64 epoch, .slice D F.length c] rfl ?_; intro w18 HZ18 HG18)))
        (try simp only [Exit.inBlock, Exit.then])
        refine bodyPost_ret (blk_results rfl Try.underlying34 rfl _ _ w.heap.size _ (by kernel_rfl) _ rfl rfl HZ18.out) rfl ?_
        exact dec_bad (rdec_not HPR.out HEN.out (by first | exact .inl HNE.out | exact .inr HNE.out)) (below_grown HV17.out.bl HV17.out.bl.size HG18.out (Nat.le_refl _))
end Go.Proofs.Ytiiogdgnccgehaa
