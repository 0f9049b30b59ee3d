/-
  The walk of manifest.Apply, where the edit may be.
-/
import Derived.Test.YtaeemeoffnhgfaaApplyKit
namespace Go.Proofs.Ytaeemeoffnhgfaa
open Go.RowKit
attribute [local go_sem ↓] Go.wp_at_zero Go.wp_at_succ

set_option maxRecDepth 10000 in
set_option maxHeartbeats 16000000 in
theorem apply_ok (A1 A2 A3 : Option Addr) (c1 c2 c3 : Nat) (ls add : List Fi) (del : List ByteArray) (nx fl nx' fl' : Int) (w : World) (h1 : Rd w w.heap.size A1 (fis ls)) (h2 : Rd w w.heap.size A2 (fis add)) (h3 : Rd w w.heap.size A3 (del.map Value.string))
    (l1 : ls.length ≤ 100000) (l2 : add.length ≤ 100000) (l3 : del.length ≤ 100000) (hnm : ∀ x ∈ ls, x.name.size ≤ maxLen)
    (hq : (add.any (fun x => !may x)) = false) (hx : nx ≤ nx') (hf : fl ≤ fl') :
    Calls Try.prog 12 #[stV A1 ls.length c1 nx fl, edV A2 add.length c2 A3 del.length c3 nx' fl'] w (AppOut w nx' fl' (applyM ls add del)) := by
  have hc := fun W hb => containsWrong A2 c2 add W ((Rd.below h2 hb).more hb.size) (by omega)
  have hcl := fun W (hb : Below w.heap.size w W) => cloneFi_any A1 c1 ls W ((Rd.below h1 hb).more hb.size) (by omega)
  have hm := ApB.made w (stC A1 ls.length c1 nx fl) (edC A2 add.length c2 A3 del.length c3 nx' fl')
  unfold stV edV
  unfold stC edC at hm ⊢
  simp only [hq] at hc
  have e1 : decide (nx' < nx) = false := decide_eq_false (by omega)
  have e2 : decide (fl' < fl) = false := decide_eq_false (by omega)
  have HC := Lib.hid hc
  have HCL := Lib.hid hcl
  have HM := Lib.hid hm
  have HQ := Lib.hid hq
  have HNM := Lib.hid hnm
  have H2 := Lib.hid h2
  have H3 := Lib.hid h3
  have hmm := @run_makeMap Try.prog
  clear h1 h2 h3 hm hq hc hcl hnm hx hf
  obtain ⟨N1, hN1⟩ : ∃ n, ls.length = n := ⟨_, rfl⟩
  obtain ⟨N2, hN2⟩ : ∃ n, add.length = n := ⟨_, rfl⟩
  obtain ⟨N3, hN3⟩ : ∃ n, del.length = n := ⟨_, rfl⟩
  have HN1 := Lib.hid hN1
  have HN2 := Lib.hid hN2
  have HN3 := Lib.hid hN3
  simp only [hN1, hN2, hN3] at HM HC HCL ⊢
  rw [hN1] at l1
  rw [hN2] at l2
  rw [hN3] at l3
  clear hN1 hN2 hN3
  go_enter Try.func12, Try.ntmps12
  go_wp2_with (first
    | (go_at_call 28; refine (HC.out _ HM.out.1).mono ?_; rintro e w1 ⟨rfl, hb1⟩; have HM1 := Lib.hid (ApB.below HM.out hb1 HM.out.2.1); obtain ⟨c20, c21, c22⟩ := ApB.st HM1.out; obtain ⟨-, -, c32, c33⟩ := ApB.ed HM1.out)
    | (go_at_call 30; refine (HCL.out _ HM1.out.1).mono ?_; rintro e w2 ⟨A6, c6, rfl, ho2, hb2⟩; have HO2 := Lib.hid (show OwnF w2 w1.heap.size A6 N1 c6 ls from ho2); have HB2 := Lib.hid hb2; clear ho2 hb2 hb1)
    | (go_at_call 31; refine (sortOwn w1.heap.size N1 c6 A6 ls w2 HO2.out (by omega)).mono ?_; rintro e w3 ⟨rfl, m, hm, ho3, hg3⟩; have HS := Lib.hid (srt_eq hm); have HO3 := Lib.hid ho3; have HB3 := Lib.hid (Own.grow HO2.out HB2.out HB2.out.size (Nat.le_refl _) hg3); have HMM := Lib.hid hm; clear hm ho3 hg3; have HM3 := Lib.hid (ApB.below HM1.out HB3.out HM1.out.2.1); obtain ⟨-, d31, -, -⟩ := ApB.ed HM3.out))
  clear HC HCL HM
  go_loopw [6, 41] (fun v6 vi wr => ∃ (k n : Nat) (A : Option Addr) (c : Nat) (L : List Fi), v6 = .slice A n c ∧ vi = .int .i64 (k : Int) ∧ k ≤ N3 ∧ n ≤ N1 ∧ Hid (delAll m (del.take k) = some L) ∧ Hid (OwnF wr w1.heap.size A n c L) ∧ Hid (Below w1.heap.size w1 wr)) (fun _ vi _ => N3 - (intOf vi).toNat)
  case atStart => exact ⟨0, N1, A6, c6, m, rfl, rfl, Nat.zero_le _, Nat.le_refl _, Lib.hid rfl, HO3, HB3⟩
  case round =>
    obtain ⟨k, n, A, c, L, rfl, rfl, hk, hn, HD, HO, HB⟩ := hrel
    rename World => wr
    clear HO2 HO3 HB2 HB3 d31 c20 c21 c22 c32 c33 HM3
    have HMr := Lib.hid (ApB.below HM1.out HB.out HM1.out.2.1)
    by_cases hlt : k < N3
    · have e3 : decide ((k : Int) < (N3 : Int)) = true := decide_eq_true (by omega)
      have k1 : (0 : Int) ≤ (k : Int) := by omega
      have k2 : (k : Int) < (N3 : Int) := by omega
      have hkd : k < del.length := by rw [HN3.out]; exact hlt
      obtain ⟨b, o, rfl, hb, hcl⟩ := (H3.out.below HMr.out.1).at_ (by intro h; have := congrArg List.length h; rw [List.length_map] at this; simp at this; rw [this] at hkd; simp at hkd)
      have hcell := hcl k (by rw [List.length_map]; exact hkd)
      rw [List.getElem_map] at hcell
      obtain ⟨d, hd⟩ : ∃ d, del[k] = d := ⟨_, rfl⟩
      rw [hd] at hcell
      have hal := (Below.refl wr.heap.size wr).alloc (Nat.le_refl _) (.cells #[.string d] 9)
      have hix := indexNamed wr.heap.size n c d A L (wr.alloc (.cells #[.string d] 9)) (by rw [World.size_alloc]; omega) (Box.new wr 9 (.string d)).cell (((Own.rd HO.out (by omega)).below hal).more hal.size) HO.out.len (by omega)
      have HAL := Lib.hid hal
      have HIX := Lib.hid hix
      clear hcl hix hal
      cases hfi : L.findIdx? (named d) with
      | none =>
        have HI := Lib.hid (idx_none hfi)
        have HF := Lib.hid (applyM_none (add := add) (by rw [HS.out]; exact delAll_none HD.out hkd (by rw [hd]; exact hfi)) : applyM ls add del = (3, []))
        clear hfi hd
        go_wp2_with (first
          | (go_at_call 33; refine HIX.out.mono ?_; rintro e w5 ⟨rfl, hb5⟩; rw [HI.out]; have HM5 := Lib.hid (ApB.below HMr.out (HAL.out.trans (hb5.mono HAL.out.size)) HMr.out.2.1))
          | (show wpList _ _ _ ({ dst := none, op := Op.store _ (Operand.tmp 4) _, type := _, pos := _, after := _, guard := _ } :: _) _ _; refine wpList_store_mid rfl 30 (.tmp 4) (.tmp 50) rfl (w.heap.size + 1 + 1) 0 (stC none 0 0 0 0) rfl rfl HM5.out.there (by kernel_rfl) (stC_one _ _ _ _ _) ?_; refine HM5.out.putW none 0 0 0 0 ?_; intro w6 HB6 d0 d1 d2))
        (try simp only [Exit.inBlock, Exit.then])
        exact bodyPost_ret (app_results rfl _ _ _ none 0 0 0 0 _ rfl rfl d0 d1 d2) rfl (AppOut.bad HF.out (by decide) rfl HB6.out.1)
      | some i =>
        have HI := Lib.hid (idx_some hfi)
        have hin : i < n := by have := idx_lt hfi; rw [HO.out.len] at this; exact this
        have HF := Lib.hid (delAll_next HD.out hkd (by rw [hd]; exact hfi))
        have hw3 : IntKind.i64.wrap ((i : Int) + 1) = (i : Int) + 1 := IntWalk.i64_in _ (by omega)
        have k3 : decide ((i : Int) < 0) = false := decide_eq_false (by omega)
        clear hfi hd
        go_wp2_with (first
          | (go_at_call 33; refine HIX.out.mono ?_; rintro e w5 ⟨rfl, hb5⟩; rw [HI.out]; have HB5 := Lib.hid (HAL.out.trans (hb5.mono HAL.out.size)); have HO5 := Lib.hid (show OwnF w5 w1.heap.size A n c L from Own.below HO.out HB5.out))
          | (go_at_call 35; refine (deleteOwn w1.heap.size n c i _ A L w5 HO5.out (by omega) hin (by first | rfl | omega)).mono ?_; rintro e w6 ⟨rfl, ho6, hg6⟩; have HO6 := Lib.hid ho6; have HB6 := Lib.hid (Own.grow HO5.out (HB.out.trans (HB5.out.mono HB.out.size)) (Nat.le_trans HB.out.size HB5.out.size) (Nat.le_refl _) hg6); clear ho6 hg6))
        exact ⟨⟨k + 1, n - 1, A, c, L.eraseIdx i, rfl, by first | rfl | go_num, by omega, by omega, HF, HO6, HB6⟩, by simp [intOf]; omega⟩
    · have e3 : decide ((k : Int) < (N3 : Int)) = false := decide_eq_false (by omega)
      have HDL := Lib.hid (delAll_all HD.out (by rw [HN3.out]; omega))
      have HLN := Lib.hid (OwnF.len HO.out)
      obtain ⟨NQ, hNQ⟩ : ∃ q, n + N2 = q := ⟨_, rfl⟩
      obtain ⟨Q, hQ⟩ : ∃ Q, L ++ add = Q := ⟨_, rfl⟩
      have hql : Q.length = NQ := by rw [← hQ, List.length_append, HLN.out, HN2.out, hNQ]
      have HQL := Lib.hid hql
      have HQE := Lib.hid hQ
      have hqs : ∀ x ∈ Q, x.name.size ≤ maxLen := fun x hx => by
        rw [← hQ] at hx
        rcases List.mem_append.1 hx with hx | hx
        · exact HNM.out x (HMM.out.2.2.mem_iff.2 ((delAll_sub HDL.out).subset hx))
        · have h1 := List.any_eq_false.1 HQ.out x hx
          have h2 := may_name (f := x) (by simpa using h1)
          unfold maxLen
          omega
      have HQS := Lib.hid hqs
      have hal := (Below.refl wr.heap.size wr).alloc (Nat.le_refl _) (.map #[] 0)
      have HMm := Lib.hid (ApB.below HMr.out hal HMr.out.2.1)
      obtain ⟨c30, -, -, -⟩ := ApB.ed HMm.out
      have hal2 := hal.alloc (by rw [World.size_alloc]; omega) (.cells #[.slice A n c, .slice A2 N2 c2] 25)
      have hcc := concatTwo A A2 n N2 NQ c c2 L add ((wr.alloc (.map #[] 0)).alloc (.cells #[.slice A n c, .slice A2 N2 c2] 25)) (wr.heap.size + 1) 2 hNQ
        (by have := Rd.ofBlock (heap_alloc_new (wr.alloc (.map #[] 0)) (.cells #[.slice A n c, .slice A2 N2 c2] 25)) rfl; simp only [World.size_alloc] at this ⊢; exact this)
        (((Own.rd HO.out (by omega)).below hal2).more hal2.size) ((H2.out.below (HMr.out.1.trans (hal2.mono HMr.out.1.size))).more (Nat.le_trans HMr.out.1.size hal2.size)) HLN.out HN2.out (by omega) (by omega)
      rw [hQ] at hcc
      have hct := ((Cnt.made wr).below ((Below.refl _ _).alloc (Nat.le_refl _) (.cells #[.slice A n c, .slice A2 N2 c2] 25)))
      have HCC := Lib.hid hcc
      have HAL2 := Lib.hid hal2
      have HCT := Lib.hid hct
      have hws : wr.heap.size + 1 ≤ ((wr.alloc (.map #[] 0)).alloc (.cells #[.slice A n c, .slice A2 N2 c2] 25)).heap.size := by simp only [World.size_alloc]; omega
      have HWS := Lib.hid hws
      clear hal hal2 hcc hct hws hqs hql hQ
      go_wp2_with (first
        | (go_at_call 36; refine HCC.out.mono ?_; rintro e w5 ⟨A7, c7, rfl, ho7, hb7⟩; have HO7 := Lib.hid (show OwnF w5 (wr.heap.size + 1) A7 NQ c7 Q from Own.lower ho7 HWS.out); have HB7 := Lib.hid (HAL2.out.trans (hb7.mono HAL2.out.size)); have HC7 := Lib.hid (Cnt.below HCT.out hb7); clear ho7 hb7))
      clear HCC HAL2 HCT HWS c30 HMm
      go_loopw [64] (fun vj wq => ∃ j : Nat, vj = .int .i64 (j : Int) ∧ j ≤ NQ ∧ Hid (Cnt wq wr.heap.size j (nms (Q.take j))) ∧ Hid (Below wr.heap.size wr wq) ∧ Hid (OwnF wq (wr.heap.size + 1) A7 NQ c7 Q)) (fun vj _ => NQ - (intOf vj).toNat)
      case atStart => exact ⟨0, rfl, Nat.zero_le _, HC7, HB7, HO7⟩
      case round =>
        obtain ⟨j, rfl, hj, HCJ, HBJ, HOJ⟩ := hrel
        rename World => wq
        clear HC7 HB7 HO7
        by_cases hjt : j < NQ
        · have e4 : decide ((j : Int) < (NQ : Int)) = true := decide_eq_true (by omega)
          have k1 : (0 : Int) ≤ (j : Int) := by omega
          have k2 : (j : Int) < (NQ : Int) := by omega
          have hjq : j < Q.length := by rw [HQL.out]; exact hjt
          obtain ⟨b7, o7, rfl, hr7⟩ := OwnF.elem HOJ.out hjq
          have hsz := HQS.out _ (List.getElem_mem hjq)
          have hnx := nms_next hjq
          obtain ⟨x, hx⟩ : ∃ x, Q[j] = x := ⟨_, rfl⟩
          rw [hx] at hr7 hsz hnx
          have HR7 := Lib.hid hr7
          have HNX := Lib.hid hnx
          have hcle := cnt_le x.name (nms (Q.take j))
          have hnl := nms_len Q j (by omega)
          obtain ⟨ct, hct⟩ : ∃ ct, cnt x.name (nms (Q.take j)) = ct := ⟨_, rfl⟩
          have HCT := Lib.hid hct
          rw [hct, hnl] at hcle
          have HNL := Lib.hid hnl
          have hw4 : IntKind.i64.wrap ((ct : Int) + 1) = (ct : Int) + 1 := IntWalk.i64_in _ (by omega)
          clear hr7 hx hnx hct hnl
          go_wp2_with (first
            | (show wpList _ _ _ ({ dst := some 67, op := Op.load _ _, type := _, pos := _, after := _, guard := _ } :: _) _ _; refine wpList_load_mid rfl 23 (.tmp 66) rfl b7 (o7 + j * 5) rfl x.vals _ HR7.out Try.underlying23 rfl (by kernel_rfl) ?_)
            | (show wpList _ _ _ ({ dst := none, op := Op.store _ (Operand.tmp 12) _, type := _, pos := _, after := _, guard := _ } :: _) _ _; refine wpList_store_mid rfl 23 (.tmp 12) (.tmp 67) rfl wq.heap.size 0 x.vals.toArray rfl rfl (FBox.there_made _ _ _ _ _ _ _) (by kernel_rfl) (all_oneCell_toArray (Fi.one x)) ?_; refine FBox.madeW 23 wq _ _ _ _ _ x ?_; intro w6 HG6 HB6; have HC6 := Lib.hid (Cnt.below HCJ.out HB6.out); have HO6 := Lib.hid (OwnF.below HOJ.out HB6.out); obtain ⟨-, d1, -, -, -⟩ := HG6.out.cells; have hlook := Cnt.look HC6.out hsz; rw [HCT.out] at hlook)
            | (at_mapUpdate; refine count_set HC6.out (by omega) (by rw [HNL.out]; omega) hsz rfl _ _ _ rfl rfl rfl (by rw [HCT.out]; rfl) ?_; intro w8 hc8 hg8; rw [← HNX.out] at hc8; have HC8 := Lib.hid hc8; have HB8 := Lib.hid (below_grown (HBJ.out.trans (HB6.out.mono HBJ.out.size)) (Nat.le_trans HBJ.out.size HB6.out.size) hg8 (Nat.le_refl _)); have HO8 := Lib.hid (OwnF.apart_from HO6.out hg8 (Nat.lt_succ_self _)); clear hc8 hg8))
          exact ⟨⟨j + 1, by first | rfl | go_num, by omega, HC8, HB8, HO8⟩, by simp [intOf]; omega⟩
        · have e4 : decide ((j : Int) < (NQ : Int)) = false := decide_eq_false (by omega)
          have hcq := HCJ.out
          rw [List.take_of_length_le (by rw [HQL.out]; omega)] at hcq
          have HCQ := Lib.hid hcq
          have HMq := Lib.hid (ApB.below HMr.out HBJ.out HMr.out.2.1)
          obtain ⟨c30, -, -, -⟩ := ApB.ed HMq.out
          have HOq := Lib.hid (OwnF.below HO.out HBJ.out)
          have HBq := Lib.hid (HB.out.trans (HBJ.out.mono HB.out.size))
          clear hcq HCJ HOJ HO HMr
          go_wp2
          clear c30
          go_loopw [77] (fun vp wp => ∃ p : Nat, vp = .int .i64 (p : Int) ∧ p ≤ N2 ∧ Hid (onceTo add Q p) ∧ Hid (Below wq.heap.size wq wp)) (fun vp _ => N2 - (intOf vp).toNat)
          case atStart => exact ⟨0, rfl, Nat.zero_le _, Lib.hid (onceTo.zero add Q), Lib.hid (Below.refl _ _)⟩
          case round =>
            obtain ⟨p, rfl, hp, HU, HBP⟩ := hrel
            rename World => wp
            have HMp := Lib.hid (ApB.below HMq.out HBP.out HMq.out.2.1)
            by_cases hpt : p < N2
            · have e5 : decide ((p : Int) < (N2 : Int)) = true := decide_eq_true (by omega)
              have k1 : (0 : Int) ≤ (p : Int) := by omega
              have k2 : (p : Int) < (N2 : Int) := by omega
              have hpa : p < add.length := by rw [HN2.out]; exact hpt
              obtain ⟨b8, o8, rfl, hr8⟩ := rd_elem (H2.out.below HMp.out.1) hpa
              have hsz : add[p].name.size ≤ maxLen := HQS.out _ (by rw [← HQE.out]; exact List.mem_append_right _ (List.getElem_mem hpa))
              have HUS := Lib.hid (fun h => HU.out.succ hpa h)
              have HHI := Lib.hid (fun h => twice_hit (l := Q) hpa h)
              obtain ⟨y, hy⟩ : ∃ y, add[p] = y := ⟨_, rfl⟩
              rw [hy] at hr8 hsz HUS HHI
              have HR8 := Lib.hid hr8
              obtain ⟨ct, hct⟩ : ∃ ct, cnt y.name (nms Q) = ct := ⟨_, rfl⟩
              have HCT := Lib.hid hct
              clear hr8 hy hct
              by_cases hc1 : 1 < ct
              · have e6 : decide ((1 : Int) < (ct : Int)) = true := decide_eq_true (by omega)
                have HF := Lib.hid (applyM_twice (by rw [HS.out]; exact HDL.out) (by rw [HQE.out]; exact HHI.out (by rw [HCT.out]; exact hc1)) : applyM ls add del = (4, []))
                go_wp2_with (first
                  | (show wpList _ _ _ ({ dst := some 80, op := Op.load _ _, type := _, pos := _, after := _, guard := _ } :: _) _ _; refine wpList_load_mid rfl 23 (.tmp 79) rfl b8 (o8 + p * 5) rfl y.vals _ HR8.out Try.underlying23 rfl (by kernel_rfl) ?_)
                  | (show wpList _ _ _ ({ dst := none, op := Op.store _ (Operand.tmp 14) _, type := _, pos := _, after := _, guard := _ } :: _) _ _; refine wpList_store_mid rfl 23 (.tmp 14) (.tmp 80) rfl wp.heap.size 0 y.vals.toArray rfl rfl (FBox.there_made _ _ _ _ _ _ _) (by kernel_rfl) (all_oneCell_toArray (Fi.one y)) ?_; refine FBox.madeW 23 wp _ _ _ _ _ y ?_; intro w6 HG6 HB6; have HM6 := Lib.hid (ApB.below HMp.out HB6.out HMp.out.2.1); obtain ⟨-, d1, -, -, -⟩ := HG6.out.cells; have hlook := Cnt.look (Cnt.below HCQ.out (HBP.out.trans (HB6.out.mono HBP.out.size))) hsz; rw [HCT.out] at hlook)
                  | (show wpList _ _ _ ({ dst := none, op := Op.store _ (Operand.tmp 4) _, type := _, pos := _, after := _, guard := _ } :: _) _ _; refine wpList_store_mid rfl 30 (.tmp 4) (.tmp 86) rfl (w.heap.size + 1 + 1) 0 (stC none 0 0 0 0) rfl rfl HM6.out.there (by kernel_rfl) (stC_one _ _ _ _ _) ?_; refine HM6.out.putW none 0 0 0 0 ?_; intro w9 HB9 f0 f1 f2))
                (try simp only [Exit.inBlock, Exit.then])
                exact bodyPost_ret (app_results rfl _ _ _ none 0 0 0 0 _ rfl rfl f0 f1 f2) rfl (AppOut.bad HF.out (by decide) rfl HB9.out.1)
              · have e6 : decide ((1 : Int) < (ct : Int)) = false := decide_eq_false (by omega)
                have HUX := Lib.hid (HUS.out (by rw [HCT.out]; exact hc1))
                go_wp2_with (first
                  | (show wpList _ _ _ ({ dst := some 80, op := Op.load _ _, type := _, pos := _, after := _, guard := _ } :: _) _ _; refine wpList_load_mid rfl 23 (.tmp 79) rfl b8 (o8 + p * 5) rfl y.vals _ HR8.out Try.underlying23 rfl (by kernel_rfl) ?_)
                  | (show wpList _ _ _ ({ dst := none, op := Op.store _ (Operand.tmp 14) _, type := _, pos := _, after := _, guard := _ } :: _) _ _; refine wpList_store_mid rfl 23 (.tmp 14) (.tmp 80) rfl wp.heap.size 0 y.vals.toArray rfl rfl (FBox.there_made _ _ _ _ _ _ _) (by kernel_rfl) (all_oneCell_toArray (Fi.one y)) ?_; refine FBox.madeW 23 wp _ _ _ _ _ y ?_; intro w6 HG6 HB6; have HM6 := Lib.hid (ApB.below HMp.out HB6.out HMp.out.2.1); obtain ⟨-, d1, -, -, -⟩ := HG6.out.cells; have hlook := Cnt.look (Cnt.below HCQ.out (HBP.out.trans (HB6.out.mono HBP.out.size))) hsz; rw [HCT.out] at hlook)
                  | (show wpList _ _ _ ({ dst := none, op := Op.store _ (Operand.tmp 4) _, type := _, pos := _, after := _, guard := _ } :: _) _ _; refine wpList_store_mid rfl 30 (.tmp 4) (.tmp 86) rfl (w.heap.size + 1 + 1) 0 (stC none 0 0 0 0) rfl rfl HM6.out.there (by kernel_rfl) (stC_one _ _ _ _ _) ?_; refine HM6.out.putW none 0 0 0 0 ?_; intro w9 HB9 f0 f1 f2))
                exact ⟨⟨p + 1, by first | rfl | go_num, by omega, HUX, Lib.hid (HBP.out.trans (HB6.out.mono HBP.out.size))⟩, by simp [intOf]; omega⟩
            · have e5 : decide ((p : Int) < (N2 : Int)) = false := decide_eq_false (by omega)
              have HTW := Lib.hid (HU.out.all (by rw [HN2.out]; omega))
              obtain ⟨c30, -, -, -⟩ := ApB.ed HMp.out
              have HOp := Lib.hid (OwnF.below HOq.out HBP.out)
              have HBp := Lib.hid (HBq.out.trans (HBP.out.mono HBq.out.size))
              have HR2 := Lib.hid ((H2.out.below HMp.out.1).more HMp.out.1.size)
              have hn2 := HN2.out
              go_wp2_with (first
                | (at_builtin; refine files_app rfl _ _ rfl w1.heap.size A n c NQ L add rfl HOp.out A2 N2 c2 rfl HR2.out HN2.out hNQ (by omega) HBp.out.size ?_; rw [HQE.out]; intro A8 c8 w11 HO8 HG8; have HB8 := Lib.hid (Own.grow HOp.out HBp.out HBp.out.size (Nat.le_refl _) HG8.out); clear c30)
                | (go_at_call 31; refine (sortOwn w1.heap.size NQ c8 A8 Q w11 HO8.out (by omega)).mono ?_; rintro e w12 ⟨rfl, m2, hm2, ho12, hg12⟩; have HS2 := Lib.hid (srt_eq hm2); have HO12 := Lib.hid ho12; have HB12 := Lib.hid (Own.grow HO8.out HB8.out HB8.out.size (Nat.le_refl _) hg12); clear hm2 ho12 hg12; cases hap : apart m2)
                | (go_at_call 37; refine (apartOwn w1.heap.size NQ c8 A8 m2 w12 HO12.out (by omega)).mono ?_; rintro e w13 ⟨rfl, hb13⟩; rw [hap]; have HM13 := Lib.hid (ApB.below HM1.out (HB12.out.trans (hb13.mono HB12.out.size)) HM1.out.2.1); have HO13 := Lib.hid (OwnF.below HO12.out hb13); obtain ⟨-, -, c32, c33⟩ := ApB.ed HM13.out)
                | (show wpList _ _ _ ({ dst := none, op := Op.store _ (Operand.tmp 4) (Operand.tmp 97), type := _, pos := _, after := _, guard := _ } :: _) _ _; refine wpList_store_mid rfl 30 (.tmp 4) (.tmp 97) rfl (w.heap.size + 1 + 1) 0 (stC none 0 0 0 0) rfl rfl HM13.out.there (by kernel_rfl) (stC_one _ _ _ _ _) ?_; refine HM13.out.putW none 0 0 0 0 ?_; intro w14 HB14 f0 f1 f2)
                | (show wpList _ _ _ ({ dst := none, op := Op.store _ (Operand.tmp 4) (Operand.tmp 103), type := _, pos := _, after := _, guard := _ } :: _) _ _; refine wpList_store_mid rfl 30 (.tmp 4) (.tmp 103) rfl (w.heap.size + 1 + 1) 0 (stC A8 NQ c8 nx' fl') rfl rfl HM13.out.there (by kernel_rfl) (stC_one _ _ _ _ _) ?_; refine HM13.out.putW A8 NQ c8 nx' fl' ?_; intro w14 HB14 f0 f1 f2))
              · have HF := Lib.hid (applyM_order (by rw [HS.out]; exact HDL.out) (by rw [HQE.out]; exact HTW.out) (by rw [HQE.out, HS2.out]; exact hap) : applyM ls add del = (40, []))
                (try simp only [Exit.inBlock, Exit.then])
                exact bodyPost_ret (app_results rfl _ _ _ none 0 0 0 0 _ rfl rfl f0 f1 f2) rfl (AppOut.bad HF.out (by decide) rfl HB14.out.1)
              · have HF := Lib.hid (applyM_ok (by rw [HS.out]; exact HDL.out) (by rw [HQE.out]; exact HTW.out) (by rw [HQE.out, HS2.out]; exact hap) : applyM ls add del = (0, srt (L ++ add)))
                have HRM := Lib.hid (show applyM ls add del = (0, m2) by rw [HF.out, HQE.out, HS2.out])
                have HO14 := Lib.hid (OwnF.apart_from HO13.out HB14.out.2 (Nat.lt_of_lt_of_le (Nat.lt_succ_self _) HM1.out.2.1))
                (try simp only [Exit.inBlock, Exit.then])
                refine bodyPost_ret (app_results rfl _ _ _ A8 NQ c8 nx' fl' _ rfl rfl f0 f1 f2) rfl ?_
                rw [HRM.out]
                refine ⟨A8, c8, ?_, Own.rd HO14.out (by omega), HB14.out.1⟩
                rw [show ((0 : Int), m2).2.length = NQ from OwnF.len HO14.out]
                rfl
end Go.Proofs.Ytaeemeoffnhgfaa
