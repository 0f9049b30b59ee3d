/-
  The walk of the law TabletApplies. No conditions.
-/
import Derived.Test.YtiiogdgnccgehaaAppKit19
import Derived.Deep.DeepCutAuto
namespace Go.Proofs.Ytiiogdgnccgehaa
open Go.RowKit
attribute [local go_sem ↓] Go.wp_at_zero Go.wp_at_succ
theorem bnew {B : Nat} {w W : World} (h : Below B w W) (hB : B ≤ w.heap.size) (T : TypeId) (vs : List Value) : Blk T (W.alloc (.cells vs.toArray T)) W.heap.size vs ∧ Below B w (W.alloc (.cells vs.toArray T)) ∧ B ≤ W.heap.size :=
  ⟨Blk.new T W vs, h.trans ((below_al W _).mono (Nat.le_trans hB h.size)), Nat.le_trans hB h.size⟩
set_option maxRecDepth 100000 in
set_option maxHeartbeats 8000000 in
theorem applies_wide (A : Option Addr) (c N : Nat) (B : Option Addr) (d M : Nat) (w : World) (h : 40 < N ∨ 40 < M) : Calls Try.prog 4 #[.slice A N c, .slice B M d] w fun e w' => e = .returned (.bool true) ∧ Below w.heap.size w w' := by
  by_cases hn : 40 < N
  · have e1 : decide ((40 : Int) < (N : Int)) = true := decide_eq_true (by omega)
    clear h hn
    go_enter Try.func4, Try.ntmps4
    go_wp2_with (go_at_call 11; refine (shown_any _).mono ?_; rintro e w2 ⟨rfl, hb2⟩)
    go_ret
    exact ⟨rfl, hb2⟩
  · have e1 : decide ((40 : Int) < (N : Int)) = false := decide_eq_false (by omega)
    have e2 : decide ((40 : Int) < (M : Int)) = true := decide_eq_true (by omega)
    clear h hn
    go_enter Try.func4, Try.ntmps4
    go_wp2_with (go_at_call 11; refine (shown_any _).mono ?_; rintro e w2 ⟨rfl, hb2⟩)
    go_ret
    exact ⟨rfl, hb2⟩
set_option maxRecDepth 100000 in
set_option maxHeartbeats 16000000 in
theorem applies_any (A : Option Addr) (c : Nat) (l : List CA) (Bt : Option Addr) (d : Nat) (tx : List ByteArray) (w : World) (hl : Rd w w.heap.size A (cas l)) (hok : ∀ x ∈ l, x.ok w) (hlen : l.length ≤ 40) (htx : Rd w w.heap.size Bt (txs tx)) (hlt' : tx.length ≤ 40) : Calls Try.prog 4 #[.slice A l.length c, .slice Bt tx.length d] w fun e w' => e = .returned (.bool true) ∧ Below w.heap.size w w' := by
  have e1 : decide ((40 : Int) < (l.length : Int)) = false := decide_eq_false (by omega)
  have e2 : decide ((40 : Int) < (tx.length : Int)) = false := decide_eq_false (by omega)
  have HL := Lib.hid hl
  have HOK := Lib.hid hok
  have HTX := Lib.hid htx
  clear hl hok htx
  obtain ⟨N, hN⟩ : ∃ N, l.length = N := ⟨_, rfl⟩
  obtain ⟨M, hM⟩ : ∃ M, tx.length = M := ⟨_, rfl⟩
  have HN := Lib.hid hN
  have HM := Lib.hid hM
  rw [hN] at hlen e1 ⊢
  rw [hM] at hlt' e2 ⊢
  clear hN hM
  go_enter Try.func4, Try.ntmps4
  go_wp2_with (first
    | (go_at_call 11; refine (shown_any _).mono ?_; rintro e w2 ⟨rfl, hb2⟩; have HB2 := Lib.hid hb2; clear hb2)
    | ((with_reducible show wpList _ _ _ ({ dst := none, op := Op.store _ (Operand.tmp 6) _, type := _, pos := _, after := _, guard := _ } :: _) _ _); go_loud (refine wpList_store_mid rfl 51 (.tmp 6) (.tmp 32) rfl w3.heap.size 0 #[.int .u64 0, .int .u64 0, .slice none 0 0, .slice none 0 0, .slice none 0 0] rfl rfl (there_madeB 51 w3 staz 5 (Nat.le_refl _)) (by kernel_rfl) (by simp [Value.oneCell']) ?_); refine Blk.madeZ 51 w3 staz (emptyS.vs nowhere) rfl ?_; intro w4 HT4 HL4 HZ4)
    | ((with_reducible show wpList _ _ _ ({ dst := none, op := Op.store _ (Operand.tmp 5) _, type := _, pos := _, after := _, guard := _ } :: _) _ _); go_loud (refine wpList_store_mid rfl 47 (.tmp 5) (.tmp 31) rfl w2.heap.size 0 #[.int .u64 0, .int .u64 0, .slice none 0 0, .slice none 0 0, .slice none 0 0] rfl rfl (there_madeB 47 w2 staz 5 (Nat.le_refl _)) (by kernel_rfl) (by simp [Value.oneCell']) ?_); refine Blk.madeZ 47 w2 staz (emptyS.vs nowhere) rfl ?_; intro w3 HT3 HL3 HZ3))
  have HO := Lib.hid (AP2.start HB2.out HT3.out HL3.out HZ3.out HT4.out HL4.out)
  rw [HZ3.out]
  obtain ⟨g, hg⟩ : ∃ g, w2.heap.size = g := ⟨_, rfl⟩
  rw [hg] at HO ⊢
  clear hg HT3 HL3 HZ3 HT4 HL4 HZ4 HB2 e1 e2
  go_loopw [7] (fun iv wr => ∃ (k : Nat) (s : Sta) (xs ys : SA), iv = .int .i64 k ∧ k ≤ N ∧ Hid (AP2 w wr g s xs ys k)) (fun iv _ => N - (intOf iv).toNat)
  case atStart => exact ⟨0, emptyS, nowhere, nowhere, rfl, Nat.zero_le _, HO⟩
  case round =>
    clear HO
    obtain ⟨k, s, xs, ys, rfl, hk, HI⟩ := hrel
    rename World => wr
    by_cases hlt : k < N
    · have hkl : k < l.length := by rw [HN.out]; exact hlt
      have d1 : decide ((k : Int) < (N : Int)) = true := decide_eq_true (by omega)
      have k1 : (0 : Int) ≤ (k : Int) := by omega
      have k2 : (k : Int) < (N : Int) := by omega
      have hw3 : IntKind.i64.wrap ((k : Int) + 1) = ((k + 1 : Nat) : Int) := by rw [IntWalk.i64_in _ (by omega)]; omega
      obtain ⟨b, o, rfl, hb0, hra⟩ := ca_at HL.out hkl
      have hxk := HOK.out _ (List.getElem_mem hkl)
      obtain ⟨x, hx⟩ : ∃ x, l[k] = x := ⟨_, rfl⟩
      rw [hx] at hra hxk
      have HR := Lib.hid (fun (W : World) (hb : Below w.heap.size w W) => show W.rangeAt b (o + k * 9) (x.c.vs x.A x.k x.D x.m) from rangeAt_below hra hb hb0)
      have HX := Lib.hid hxk
      clear hx hra hxk
      cases hbd : bndC x.c with
      | false =>
        go_wp2_with (first
          | ((with_reducible show wpList _ _ _ ({ dst := some 42, op := Op.load _ _, type := _, pos := _, after := _, guard := _ } :: _) _ _); go_loud (refine wpList_load_mid rfl 27 (.tmp 41) rfl b (o + k * 9) rfl (x.c.vs x.A x.k x.D x.m) _ (HR.out _ HI.out.bl) Try.underlying27 rfl (by kernel_rfl) ?_))
          | (go_at_call 10; go_loud (refine (bounded_any x.c x.A x.k x.D x.m _ (ca_in HX.out HI.out.bl)).mono ?_); rw [hbd]; rintro e w4 ⟨rfl, hb4⟩; have HI4 := Lib.hid (HI.out.below hb4); clear hb4)
          | (go_at_call 11; refine (shown_any _).mono ?_; rintro e w5 ⟨rfl, hb5⟩))
        go_ret
        exact ⟨rfl, HI4.out.bl.trans (hb5.mono HI4.out.bl.size)⟩
      | true =>
        have hsz := encT_size x.c
        obtain ⟨⟨S, E⟩, hS⟩ : ∃ p, encC x.c = p := ⟨_, rfl⟩
        rw [hS] at hsz
        have HEN := Lib.hid hS
        have HSZ := Lib.hid hsz
        clear hS hsz
        go_upto_region 11 with (first
          | ((with_reducible show wpList _ _ _ ({ dst := some 42, op := Op.load _ _, type := _, pos := _, after := _, guard := _ } :: _) _ _); go_loud (refine wpList_load_mid rfl 27 (.tmp 41) rfl b (o + k * 9) rfl (x.c.vs x.A x.k x.D x.m) _ (HR.out _ HI.out.bl) Try.underlying27 rfl (by kernel_rfl) ?_))
          | (go_at_call 10; go_loud (refine (bounded_any x.c x.A x.k x.D x.m _ (ca_in HX.out HI.out.bl)).mono ?_); rw [hbd]; rintro e w4 ⟨rfl, hb4⟩; have HI4 := Lib.hid (HI.out.below hb4); clear hb4)
          | ((with_reducible show wpList _ _ _ ({ dst := some 50, op := Op.load _ _, type := _, pos := _, after := _, guard := _ } :: _) _ _); go_loud (refine wpList_load_mid rfl 27 (.tmp 49) rfl b (o + k * 9) rfl (x.c.vs x.A x.k x.D x.m) _ (HR.out _ HI4.out.bl) Try.underlying27 rfl (by kernel_rfl) ?_))
          | (go_at_call 12; go_loud (refine (encode_any x.c x.A x.k x.D x.m _ (ca_in HX.out HI4.out.bl)).mono ?_); rw [HEN.out]; rintro e w5 ⟨rfl, hb5⟩; have HI5 := Lib.hid (HI4.out.below hb5); clear hb5))
        clear HI HI4 hbd
        obtain ⟨y, hy⟩ : ∃ y, tx.getD k ⟨#[]⟩ = y := ⟨_, rfl⟩
        have HY := Lib.hid (fun (h : k < tx.length) => show tx[k] = y by rw [← hy, List.getD_eq_getElem?_getD, List.getElem?_eq_getElem h]; rfl)
        obtain ⟨bb, hbb⟩ : ∃ bb, decide (E ≠ 0 ∧ k < M ∧ y.size ≤ 300) = bb := ⟨_, rfl⟩
        have HBB := Lib.hid hbb
        clear hy hbb
        show Code.wp _ _ _ ({ tmps := _, defers := [] } : Act) _
        go_cut [69] (fun s69 wx => s69 = .bool bb ∧ wx = w5)
        case first =>
          by_cases hE : E = 0
          · have hne : (E != 0) = false := by simp [hE]
            have hfb : bb = false := by rw [← HBB.out]; exact decide_eq_false (fun h => h.1 hE)
            subst hfb
            clear hE
            go_wp2_with fail
            go_meet
            exact ⟨rfl, rfl⟩
          · have hne : (E != 0) = true := by simp [hE]
            by_cases hkM : k < M
            · have d2 : decide ((k : Int) < (M : Int)) = true := decide_eq_true (by omega)
              have k3 : (k : Int) < (M : Int) := by omega
              have hkt : k < tx.length := by rw [HM.out]; exact hkM
              obtain ⟨bt, ot, rfl, hbt, hc⟩ := text_elem HTX.out hkt
              have c1 := (HI5.out.bl.cell (p := ⟨bt, ot + k, none⟩) hbt).trans hc
              rw [HY.out hkt] at c1
              clear hc hbt
              by_cases hz : y.size ≤ 300
              · have d3 : decide ((y.size : Int) ≤ 300) = true := decide_eq_true (by omega)
                have hfb : bb = true := by rw [← HBB.out]; exact decide_eq_true ⟨hE, hkM, hz⟩
                subst hfb
                clear hE
                go_wp2_with fail
                go_meet
                exact ⟨rfl, rfl⟩
              · have d3 : decide ((y.size : Int) ≤ 300) = false := decide_eq_false (by omega)
                have hfb : bb = false := by rw [← HBB.out]; exact decide_eq_false (fun h => hz h.2.2)
                subst hfb
                clear hE
                go_wp2_with fail
                go_meet
                exact ⟨rfl, rfl⟩
            · have d2 : decide ((k : Int) < (M : Int)) = false := decide_eq_false (by omega)
              have hfb : bb = false := by rw [← HBB.out]; exact decide_eq_false (fun h => hkM h.2.1)
              subst hfb
              clear hE
              go_wp2_with fail
              go_meet
              exact ⟨rfl, rfl⟩
        case rest =>
          obtain ⟨rfl, hwc⟩ := hcut
          rw [hwc]
          clear hwc
          go_upto_if 69 with fail
          go_cut [8] (fun s8 wx => ∃ T : ByteArray, s8 = .string T ∧ T.size ≤ 100000 ∧ wx = w5)
          case first =>
            cases bb with
            | false =>
              go_wp2_with fail
              go_meet
              exact ⟨S, rfl, HSZ.out, rfl⟩
            | true =>
              obtain ⟨hE, hkM, hz⟩ := of_decide_eq_true HBB.out
              have k3 : (k : Int) < (M : Int) := by omega
              have hkt : k < tx.length := by rw [HM.out]; exact hkM
              obtain ⟨bt, ot, rfl, hbt, hc⟩ := text_elem HTX.out hkt
              have c1 := (HI5.out.bl.cell (p := ⟨bt, ot + k, none⟩) hbt).trans hc
              rw [HY.out hkt] at c1
              have HZ9 := Lib.hid hz
              clear hc hbt hE
              go_wp2_with fail
              go_meet
              exact ⟨y, rfl, Nat.le_trans HZ9.out (by omega), rfl⟩
          case rest =>
            obtain ⟨T, rfl, hT, hwc⟩ := hcut
            rw [hwc]
            clear hwc
            have hok' := sok_next HI5.out.ok T
            have huq' := uniq_next HI5.out.uq T
            have hef := apply_eff s T
            have hap := (fun (W : World) (h1 : StaIn W W.heap.size s xs) (h2 : InW W xs) => apply_any W s xs h1 h2 k (by omega) HI5.out.ok T hT)
            have har := (fun (W : World) (h1 : StaIn W W.heap.size s ys) (h2 : InW W ys) => refApply_any W s ys h1 h2 k (by omega) HI5.out.ok HI5.out.uq T hT)
            obtain ⟨⟨s', X⟩, hq⟩ : ∃ q, applyS s T = q := ⟨_, rfl⟩
            rw [hq] at hok' huq' hef hap har
            simp only at hok' huq'
            have lb' := hok'.lb
            have lj' := hok'.lj
            have lc' := hok'.lc
            have HOK' := Lib.hid hok'
            have HUQ' := Lib.hid huq'
            have HEF := Lib.hid hef
            have HAP := Lib.hid hap
            have HAR := Lib.hid har
            obtain ⟨⟨j, fd⟩, hf⟩ : ∃ p, findS s'.jobs x.c.job = p := ⟨_, rfl⟩
            have HFN := Lib.hid hf
            clear hT hok' huq' hef hap har hq hf
            go_upto_region 15 with (first
              | ((with_reducible show wpList _ _ _ ({ dst := none, op := Op.store _ (Operand.tmp 13) _, type := _, pos := _, after := _, guard := _ } :: _) _ _); go_loud (refine wpList_store_mid rfl 56 (.tmp 13) (.tmp 85) rfl (wd.heap.size + 1) 0 (X.vs Af af Df df).toArray rfl rfl (HEe.out.there 4 (Nat.le_refl _)) (by kernel_rfl) (by simp [Value.oneCell', Eff.vs]) ?_); refine HEe.out.setW (X.vs Af af Df df) rfl ?_; intro wf HEf HGf; have HTf := Lib.hid (HTe.out.grown HGf.out (fun e => by injection e; omega)); have HLf := Lib.hid (below_grown HLe.out HLe.out.size HGf.out (by omega)); go_loud (have HSf := Lib.hid (st_boxes HPd.out.1 (HPd.out.2.1.inw HIc.out.rv.inw HPd.out.2.2.2.2.size) HPd.out.2.2.1 HPd.out.2.2.2.1 HTf.out HEf.out HLf.out)); go_loud (have HBf := Lib.hid (HPd.out.2.2.2.2.trans (HLf.out.mono HPd.out.2.2.2.2.size))); clear HTe HEe HLe HGf HTf HEf HLf)
              | ((with_reducible show wpList _ _ _ ({ dst := none, op := Op.store _ (Operand.tmp 12) _, type := _, pos := _, after := _, guard := _ } :: _) _ _); go_loud (refine wpList_store_mid rfl 51 (.tmp 12) (.tmp 84) rfl wd.heap.size 0 (s'.vs ys').toArray rfl rfl ((two_blocks wd 51 56 staz effz).1.there 5 (Nat.le_refl _)) (by kernel_rfl) (by simp [Value.oneCell', Sta.vs]) ?_); refine (two_blocks wd 51 56 staz effz).1.setW (s'.vs ys') rfl ?_; intro we HTe HGe; have HEe := Lib.hid ((two_blocks wd 51 56 staz effz).2.1.grown HGe.out (fun e => by injection e; omega)); have HLe := Lib.hid (below_grown (two_blocks wd 51 56 staz effz).2.2 (by rw [World.size_alloc, World.size_alloc]; omega) HGe.out (Nat.le_refl _)); clear HGe)
              | (go_at_call 19; go_loud (refine (HAR.out _ HIc.out.rv.sin HIc.out.rv.inw).mono ?_); rintro e wd ⟨ys', Af, af, Df, df, rfl, hsi, hfr, hra, hrd, hb⟩; have HPd := Lib.hid (And.intro hsi (And.intro hfr (And.intro hra (And.intro hrd hb)))); clear hsi hfr hra hrd hb)
              | ((with_reducible show wpList _ _ _ ({ dst := some 81, op := Op.load _ _, type := _, pos := _, after := _, guard := _ } :: _) _ _); go_loud (refine wpList_load_mid rfl 51 (.tmp 6) rfl (g + 1) 0 rfl (s.vs ys) _ HIc.out.rv.bk.range Try.underlying51 rfl (by kernel_rfl) ?_))
              | ((with_reducible show wpList _ _ _ ({ dst := none, op := Op.store _ (Operand.tmp 11) _, type := _, pos := _, after := _, guard := _ } :: _) _ _); go_loud (refine wpList_store_mid rfl 53 (.tmp 11) (.tmp 79) rfl (wa.heap.size + 1) 0 (X.vs Ae ae De de).toArray rfl rfl (HEb.out.there 4 (Nat.le_refl _)) (by kernel_rfl) (by simp [Value.oneCell', Eff.vs]) ?_); refine HEb.out.setW (X.vs Ae ae De de) rfl ?_; intro wc' HEc HGc; have HTc := Lib.hid (HTb.out.grown HGc.out (fun e => by injection e; omega)); have HLc := Lib.hid (below_grown HLb.out HLb.out.size HGc.out (by omega)); go_loud (have HSc := Lib.hid (st_boxes HPa.out.1 (HPa.out.2.1.inw HI5.out.sv.inw HPa.out.2.2.2.2.size) HPa.out.2.2.1 HPa.out.2.2.2.1 HTc.out HEc.out HLc.out)); go_loud (have HBc := Lib.hid (HPa.out.2.2.2.2.trans (HLc.out.mono HPa.out.2.2.2.2.size))); have HIc := Lib.hid (HI5.out.below HBc.out); clear HTb HEb HLb HGc HTc HEc HLc)
              | ((with_reducible show wpList _ _ _ ({ dst := none, op := Op.store _ (Operand.tmp 10) _, type := _, pos := _, after := _, guard := _ } :: _) _ _); go_loud (refine wpList_store_mid rfl 47 (.tmp 10) (.tmp 78) rfl wa.heap.size 0 (s'.vs xs').toArray rfl rfl ((two_blocks wa 47 53 staz effz).1.there 5 (Nat.le_refl _)) (by kernel_rfl) (by simp [Value.oneCell', Sta.vs]) ?_); refine (two_blocks wa 47 53 staz effz).1.setW (s'.vs xs') rfl ?_; intro wb HTb HGb; have HEb := Lib.hid ((two_blocks wa 47 53 staz effz).2.1.grown HGb.out (fun e => by injection e; omega)); have HLb := Lib.hid (below_grown (two_blocks wa 47 53 staz effz).2.2 (by rw [World.size_alloc, World.size_alloc]; omega) HGb.out (Nat.le_refl _)); clear HGb)
              | (go_at_call 18; go_loud (refine (HAP.out _ HI5.out.sv.sin HI5.out.sv.inw).mono ?_); rintro e wa ⟨xs', Ae, ae, De, de, rfl, hsi, hfr, hefi, hb, hsep, hD⟩; have HPa := Lib.hid (And.intro hsi (And.intro hfr (And.intro (show Rd wa wa.heap.size Ae (vals X.cells) from Own.rd hefi.oc (by omega)) (And.intro hefi.rf hb)))); clear hsi hfr hefi hb hsep hD)
              | ((with_reducible show wpList _ _ _ ({ dst := some 75, op := Op.load _ _, type := _, pos := _, after := _, guard := _ } :: _) _ _); go_loud (refine wpList_load_mid rfl 47 (.tmp 5) rfl g 0 rfl (s.vs xs) _ HI5.out.sv.bk.range Try.underlying47 rfl (by kernel_rfl) ?_)))
            have hgw := HI5.out.rv.bk.lt
            have hgd := HIc.out.rv.bk.lt
            have h5a := HPa.out.2.2.2.2.size
            have hcd := HPd.out.2.2.2.2.size
            have HOF := Lib.hid (show Off2 xs' ys' g wa.heap.size wd.heap.size from ⟨HPa.out.2.1.notAt HI5.out.s1 (by omega), HPa.out.2.1.notAt HI5.out.s2 (by omega), HPd.out.2.1.notAt HI5.out.r1 (by omega), HPd.out.2.1.notAt HI5.out.r2 (by omega), by omega, by omega⟩)
            have HP := Lib.hid ((show RP w wf g s xs ys k s' xs' ys' wa.heap.size wd.heap.size X Ae ae De de Af af Df df from ⟨HIc.out.below HBf.out, HSc.out.1.below HBf.out, HSc.out.2.below HBf.out, HSf.out.1, HSf.out.2⟩).below ((Below.refl _ _).drew))
            clear hgw hgd h5a hcd HPa HPd HSc HSf HBc HBf HIc HAP HAR
            have hcell : ∀ W, Hid (RP w W g s xs ys k s' xs' ys' wa.heap.size wd.heap.size X Ae ae De de Af af Df df) → W.rangeAt wa.heap.size 0 (s'.vs xs') ∧ W.rangeAt wd.heap.size 0 (s'.vs ys') ∧ W.rangeAt (wa.heap.size + 1) 0 (X.vs Ae ae De de) ∧ W.rangeAt (wd.heap.size + 1) 0 (X.vs Af af Df df) := fun W h => ⟨h.out.av.bk.range, h.out.bv.bk.range, h.out.ev.bk.range, h.out.fv.bk.range⟩
            have HC := hcell _ HP
            refine region_wz (fun W => W.rangeAt wa.heap.size 0 (s'.vs xs') ∧ W.rangeAt wd.heap.size 0 (s'.vs ys') ∧ W.rangeAt (wa.heap.size + 1) 0 (X.vs Ae ae De de) ∧ W.rangeAt (wd.heap.size + 1) 0 (X.vs Af af Df df)) none (by kernel_rfl) ?_
            apply WZ.take (i := 0) (some 86) rfl rfl (by kernel_rfl) (by kernel_rfl) (by kernel_rfl) (calm_panic _) (by kernel_rfl)
            case hy => first | (apply yieldsIf_load_mid (by kernel_rfl) _ _ rfl _ _ rfl; (case hS => (intro W hC; exact hC.1)); (case hu => exact Try.underlying47); (case hd => rfl); (case hi => kernel_rfl)) | (apply yieldsIf_load_mid (by kernel_rfl) _ _ rfl _ _ rfl; (case hS => (intro W hC; exact hC.2.1)); (case hu => exact Try.underlying47); (case hd => rfl); (case hi => kernel_rfl)) | (apply yieldsIf_load_mid (by kernel_rfl) _ _ rfl _ _ rfl; (case hS => (intro W hC; exact hC.2.2.1)); (case hu => exact Try.underlying47); (case hd => rfl); (case hi => kernel_rfl)) | (apply yieldsIf_load_mid (by kernel_rfl) _ _ rfl _ _ rfl; (case hS => (intro W hC; exact hC.2.2.2.1)); (case hu => exact Try.underlying47); (case hd => rfl); (case hi => kernel_rfl)) | (apply yieldsIf_load_mid (by kernel_rfl) _ _ rfl _ _ rfl; (case hS => (intro W hC; exact hC.2.2.2)); (case hu => exact Try.underlying47); (case hd => rfl); (case hi => kernel_rfl)) | (apply yieldsIf_load_mid (by kernel_rfl) _ _ rfl _ _ rfl; (case hS => (intro W hC; exact hC.2.2)); (case hu => exact Try.underlying47); (case hd => rfl); (case hi => kernel_rfl)) | (apply yieldsIf_load_mid (by kernel_rfl) _ _ rfl _ _ rfl; (case hS => (intro W hC; exact hC.2)); (case hu => exact Try.underlying47); (case hd => rfl); (case hi => kernel_rfl)) | (apply yieldsIf_load_mid (by kernel_rfl) _ _ rfl _ _ rfl; (case hS => (intro W hC; exact hC)); (case hu => exact Try.underlying47); (case hd => rfl); (case hi => kernel_rfl))
            case hC => exact HC
            case ha => (simp only [Act.put, List.setIfInBounds_toArray, List.set_cons_zero, List.set_cons_succ]; rfl)
            apply WZ.take (i := 2) (some 88) rfl rfl (by kernel_rfl) (by kernel_rfl) (by kernel_rfl) (calm_panic _) (by kernel_rfl)
            case hy => first | (apply yieldsIf_load_mid (by kernel_rfl) _ _ rfl _ _ rfl; (case hS => (intro W hC; exact hC.1)); (case hu => exact Try.underlying51); (case hd => rfl); (case hi => kernel_rfl)) | (apply yieldsIf_load_mid (by kernel_rfl) _ _ rfl _ _ rfl; (case hS => (intro W hC; exact hC.2.1)); (case hu => exact Try.underlying51); (case hd => rfl); (case hi => kernel_rfl)) | (apply yieldsIf_load_mid (by kernel_rfl) _ _ rfl _ _ rfl; (case hS => (intro W hC; exact hC.2.2.1)); (case hu => exact Try.underlying51); (case hd => rfl); (case hi => kernel_rfl)) | (apply yieldsIf_load_mid (by kernel_rfl) _ _ rfl _ _ rfl; (case hS => (intro W hC; exact hC.2.2.2.1)); (case hu => exact Try.underlying51); (case hd => rfl); (case hi => kernel_rfl)) | (apply yieldsIf_load_mid (by kernel_rfl) _ _ rfl _ _ rfl; (case hS => (intro W hC; exact hC.2.2.2)); (case hu => exact Try.underlying51); (case hd => rfl); (case hi => kernel_rfl)) | (apply yieldsIf_load_mid (by kernel_rfl) _ _ rfl _ _ rfl; (case hS => (intro W hC; exact hC.2.2)); (case hu => exact Try.underlying51); (case hd => rfl); (case hi => kernel_rfl)) | (apply yieldsIf_load_mid (by kernel_rfl) _ _ rfl _ _ rfl; (case hS => (intro W hC; exact hC.2)); (case hu => exact Try.underlying51); (case hd => rfl); (case hi => kernel_rfl)) | (apply yieldsIf_load_mid (by kernel_rfl) _ _ rfl _ _ rfl; (case hS => (intro W hC; exact hC)); (case hu => exact Try.underlying51); (case hd => rfl); (case hi => kernel_rfl))
            case hC => exact HC
            case ha => (simp only [Act.put, List.setIfInBounds_toArray, List.set_cons_zero, List.set_cons_succ]; rfl)
            -- 1
            refine WZ.one (i := 1) rfl (by kernel_rfl) ?_
            conv => arg 4; arg 1; whnf
            go_wp2_with (go_at_call 21; go_loud (refine (state_any s' xs' _ HP.out.av.sin (by omega) (by omega)).mono ?_); rintro e wg ⟨zs, rfl, hsz, hb9⟩; have HZ := Lib.hid hsz; clear hsz)
            have HP0 := HP
            clear HP HC
            have HP := Lib.hid (HP0.out.below hb9)
            clear HP0 hb9
            have HC := hcell _ HP
            refine ⟨HC, ?_⟩
            -- 3
            refine WZ.one (i := 3) rfl (by kernel_rfl) ?_
            conv => arg 4; arg 1; whnf
            go_wp2_with (go_at_call 20; go_loud (refine (sameState_true s' zs ys' _ HZ.out HP.out.bv.sin (by omega) (by omega) (by omega)).mono ?_); rintro e wh ⟨rfl, hb9⟩)
            have HP0 := HP
            clear HP HC
            have HP := Lib.hid (HP0.out.below hb9)
            clear HP0 hb9
            have HC := hcell _ HP
            refine ⟨HC, ?_⟩
            apply WZ.take (i := 4) (some 90) rfl rfl (by kernel_rfl) (by kernel_rfl) (by kernel_rfl) (calm_panic _) (by kernel_rfl)
            case hy => (refine .inl ⟨by kernel_rfl, fun W hC => ?_⟩; (try dsimp only at hC); go_simp; rfl)
            case hC => exact HC
            case ha => (simp only [Act.put, List.setIfInBounds_toArray, List.set_cons_zero, List.set_cons_succ]; rfl)
            apply WZ.take (i := 5) (some 91) rfl rfl (by kernel_rfl) (by kernel_rfl) (by kernel_rfl) (calm_panic _) (by kernel_rfl)
            case hy => (refine .inl ⟨by kernel_rfl, fun W hC => ?_⟩; (try dsimp only at hC); go_simp; rfl)
            case hC => exact HC
            case ha => (simp only [Act.put, List.setIfInBounds_toArray, List.set_cons_zero, List.set_cons_succ]; rfl)
            apply WZ.take (i := 6) (some 92) rfl rfl (by kernel_rfl) (by kernel_rfl) (by kernel_rfl) (calm_panic _) (by kernel_rfl)
            case hy => first | (apply yieldsIf_load_mid (by kernel_rfl) _ _ rfl _ _ rfl; (case hS => (intro W hC; exact hC.1)); (case hu => exact Try.underlying53); (case hd => rfl); (case hi => kernel_rfl)) | (apply yieldsIf_load_mid (by kernel_rfl) _ _ rfl _ _ rfl; (case hS => (intro W hC; exact hC.2.1)); (case hu => exact Try.underlying53); (case hd => rfl); (case hi => kernel_rfl)) | (apply yieldsIf_load_mid (by kernel_rfl) _ _ rfl _ _ rfl; (case hS => (intro W hC; exact hC.2.2.1)); (case hu => exact Try.underlying53); (case hd => rfl); (case hi => kernel_rfl)) | (apply yieldsIf_load_mid (by kernel_rfl) _ _ rfl _ _ rfl; (case hS => (intro W hC; exact hC.2.2.2.1)); (case hu => exact Try.underlying53); (case hd => rfl); (case hi => kernel_rfl)) | (apply yieldsIf_load_mid (by kernel_rfl) _ _ rfl _ _ rfl; (case hS => (intro W hC; exact hC.2.2.2)); (case hu => exact Try.underlying53); (case hd => rfl); (case hi => kernel_rfl)) | (apply yieldsIf_load_mid (by kernel_rfl) _ _ rfl _ _ rfl; (case hS => (intro W hC; exact hC.2.2)); (case hu => exact Try.underlying53); (case hd => rfl); (case hi => kernel_rfl)) | (apply yieldsIf_load_mid (by kernel_rfl) _ _ rfl _ _ rfl; (case hS => (intro W hC; exact hC.2)); (case hu => exact Try.underlying53); (case hd => rfl); (case hi => kernel_rfl)) | (apply yieldsIf_load_mid (by kernel_rfl) _ _ rfl _ _ rfl; (case hS => (intro W hC; exact hC)); (case hu => exact Try.underlying53); (case hd => rfl); (case hi => kernel_rfl))
            case hC => exact HC
            case ha => (simp only [Act.put, List.setIfInBounds_toArray, List.set_cons_zero, List.set_cons_succ]; rfl)
            apply WZ.take (i := 8) (some 94) rfl rfl (by kernel_rfl) (by kernel_rfl) (by kernel_rfl) (calm_panic _) (by kernel_rfl)
            case hy => first | (apply yieldsIf_load_mid (by kernel_rfl) _ _ rfl _ _ rfl; (case hS => (intro W hC; exact hC.1)); (case hu => exact Try.underlying56); (case hd => rfl); (case hi => kernel_rfl)) | (apply yieldsIf_load_mid (by kernel_rfl) _ _ rfl _ _ rfl; (case hS => (intro W hC; exact hC.2.1)); (case hu => exact Try.underlying56); (case hd => rfl); (case hi => kernel_rfl)) | (apply yieldsIf_load_mid (by kernel_rfl) _ _ rfl _ _ rfl; (case hS => (intro W hC; exact hC.2.2.1)); (case hu => exact Try.underlying56); (case hd => rfl); (case hi => kernel_rfl)) | (apply yieldsIf_load_mid (by kernel_rfl) _ _ rfl _ _ rfl; (case hS => (intro W hC; exact hC.2.2.2.1)); (case hu => exact Try.underlying56); (case hd => rfl); (case hi => kernel_rfl)) | (apply yieldsIf_load_mid (by kernel_rfl) _ _ rfl _ _ rfl; (case hS => (intro W hC; exact hC.2.2.2)); (case hu => exact Try.underlying56); (case hd => rfl); (case hi => kernel_rfl)) | (apply yieldsIf_load_mid (by kernel_rfl) _ _ rfl _ _ rfl; (case hS => (intro W hC; exact hC.2.2)); (case hu => exact Try.underlying56); (case hd => rfl); (case hi => kernel_rfl)) | (apply yieldsIf_load_mid (by kernel_rfl) _ _ rfl _ _ rfl; (case hS => (intro W hC; exact hC.2)); (case hu => exact Try.underlying56); (case hd => rfl); (case hi => kernel_rfl)) | (apply yieldsIf_load_mid (by kernel_rfl) _ _ rfl _ _ rfl; (case hS => (intro W hC; exact hC)); (case hu => exact Try.underlying56); (case hd => rfl); (case hi => kernel_rfl))
            case hC => exact HC
            case ha => (simp only [Act.put, List.setIfInBounds_toArray, List.set_cons_zero, List.set_cons_succ]; rfl)
            -- 7
            refine WZ.one (i := 7) rfl (by kernel_rfl) ?_
            conv => arg 4; arg 1; whnf
            go_wp2_with (go_at_call 23; go_loud (refine (effect_any X Ae ae De de _).mono ?_); rintro e wi ⟨rfl, hb9⟩)
            have HP0 := HP
            clear HP HC
            have HP := Lib.hid (HP0.out.below hb9)
            clear HP0 hb9
            have HC := hcell _ HP
            refine ⟨HC, ?_⟩
            -- 9
            refine WZ.one (i := 9) rfl (by kernel_rfl) ?_
            conv => arg 4; arg 1; whnf
            go_wp2_with (go_at_call 22; go_loud (refine (sameEffect_true X Ae ae De de Af af Df df _ HP.out.ev.rA HP.out.ev.rD HP.out.fv.rA HP.out.fv.rD (show X.cells.length ≤ maxLen from Nat.le_trans HEF.out.lc (by unfold maxLen; omega)) (show X.files.length ≤ maxLen from Nat.le_trans HEF.out.lf (by unfold maxLen; omega))).mono ?_); rintro e wj ⟨rfl, hb9⟩)
            have HP0 := HP
            clear HP HC
            have HP := Lib.hid (HP0.out.below hb9)
            clear HP0 hb9
            have HC := hcell _ HP
            refine ⟨HC, ?_⟩
            apply WZ.take (i := 10) (some 96) rfl rfl (by kernel_rfl) (by kernel_rfl) (by kernel_rfl) (calm_panic _) (by kernel_rfl)
            case hy => (refine .inl ⟨by kernel_rfl, fun W hC => ?_⟩; (try dsimp only at hC); go_simp; rfl)
            case hC => exact HC
            case ha => (simp only [Act.put, List.setIfInBounds_toArray, List.set_cons_zero, List.set_cons_succ]; rfl)
            apply WZ.take (i := 11) (some 97) rfl rfl (by kernel_rfl) (by kernel_rfl) (by kernel_rfl) (calm_panic _) (by kernel_rfl)
            case hy => (refine .inl ⟨by kernel_rfl, fun W hC => ?_⟩; (try dsimp only at hC); go_simp; rfl)
            case hC => exact HC
            case ha => (simp only [Act.put, List.setIfInBounds_toArray, List.set_cons_zero, List.set_cons_succ]; rfl)
            refine WZ.done (by kernel_rfl) ?_ _
            simp only [Calm, Exit.then]
            go_upto_region 17 with fail
            clear HC hcell HZ
            go_cut [14, 15] (fun s14 s15 wx => ∃ g14 : Nat, s14 = .pointer (some ⟨g14, 0, none⟩) ∧ s15 = .bool fd ∧ Hid (Blk 64 wx g14 j.vs) ∧ Hid (Below wj.heap.size wj wx))
            case first =>
              have hcell : ∀ W, Hid (Below wj.heap.size wj W) → W.rangeAt wa.heap.size 0 (s'.vs xs') ∧ W.cell? ⟨b, o + k * 9 + 5, none⟩ = some (.int .u64 x.c.job) := fun W h => ⟨(HP.out.av.below h.out).bk.range, HR.out W (HP.out.ap.bl.trans (h.out.mono HP.out.ap.bl.size)) 5 _ rfl⟩
              have HB := Lib.hid ((Below.refl wj.heap.size wj).drew)
              have HC := hcell _ HB
              refine region_wz (fun W => W.rangeAt wa.heap.size 0 (s'.vs xs') ∧ W.cell? ⟨b, o + k * 9 + 5, none⟩ = some (.int .u64 x.c.job)) none (by kernel_rfl) ?_
              apply WZ.take (i := 0) (some 99) rfl rfl (by kernel_rfl) (by kernel_rfl) (by kernel_rfl) (calm_panic _) (by kernel_rfl)
              case hy => first | (apply yieldsIf_load_mid (by kernel_rfl) _ _ rfl _ _ rfl; (case hS => (intro W hC; exact hC.1)); (case hu => exact Try.underlying47); (case hd => rfl); (case hi => kernel_rfl)) | (apply yieldsIf_load_mid (by kernel_rfl) _ _ rfl _ _ rfl; (case hS => (intro W hC; exact hC.2.1)); (case hu => exact Try.underlying47); (case hd => rfl); (case hi => kernel_rfl)) | (apply yieldsIf_load_mid (by kernel_rfl) _ _ rfl _ _ rfl; (case hS => (intro W hC; exact hC.2.2.1)); (case hu => exact Try.underlying47); (case hd => rfl); (case hi => kernel_rfl)) | (apply yieldsIf_load_mid (by kernel_rfl) _ _ rfl _ _ rfl; (case hS => (intro W hC; exact hC.2.2.2.1)); (case hu => exact Try.underlying47); (case hd => rfl); (case hi => kernel_rfl)) | (apply yieldsIf_load_mid (by kernel_rfl) _ _ rfl _ _ rfl; (case hS => (intro W hC; exact hC.2.2.2)); (case hu => exact Try.underlying47); (case hd => rfl); (case hi => kernel_rfl)) | (apply yieldsIf_load_mid (by kernel_rfl) _ _ rfl _ _ rfl; (case hS => (intro W hC; exact hC.2.2)); (case hu => exact Try.underlying47); (case hd => rfl); (case hi => kernel_rfl)) | (apply yieldsIf_load_mid (by kernel_rfl) _ _ rfl _ _ rfl; (case hS => (intro W hC; exact hC.2)); (case hu => exact Try.underlying47); (case hd => rfl); (case hi => kernel_rfl)) | (apply yieldsIf_load_mid (by kernel_rfl) _ _ rfl _ _ rfl; (case hS => (intro W hC; exact hC)); (case hu => exact Try.underlying47); (case hd => rfl); (case hi => kernel_rfl))
              case hC => exact HC
              case ha => (simp only [Act.put, List.setIfInBounds_toArray, List.set_cons_zero, List.set_cons_succ]; rfl)
              apply WZ.take (i := 1) (some 100) rfl rfl (by kernel_rfl) (by kernel_rfl) (by kernel_rfl) (calm_panic _) (by kernel_rfl)
              case hy => (refine .inl ⟨by kernel_rfl, fun W hC => ?_⟩; (try dsimp only at hC); go_simp; rfl)
              case hC => exact HC
              case ha => (simp only [Act.put, List.setIfInBounds_toArray, List.set_cons_zero, List.set_cons_succ]; rfl)
              apply WZ.take (i := 2) (some 101) rfl rfl (by kernel_rfl) (by kernel_rfl) (by kernel_rfl) (calm_panic _) (by kernel_rfl)
              case hy => (refine .inl ⟨by kernel_rfl, fun W hC => ?_⟩; (try dsimp only at hC); go_simp; rfl)
              case hC => exact HC
              case ha => (simp only [Act.put, List.setIfInBounds_toArray, List.set_cons_zero, List.set_cons_succ]; rfl)
              apply WZ.take (i := 3) (some 102) rfl rfl (by kernel_rfl) (by kernel_rfl) (by kernel_rfl) (calm_panic _) (by kernel_rfl)
              case hy => (refine .inl ⟨by kernel_rfl, fun W hC => ?_⟩; (try dsimp only at hC); go_simp; rfl)
              case hC => exact HC
              case ha => (simp only [Act.put, List.setIfInBounds_toArray, List.set_cons_zero, List.set_cons_succ]; rfl)
              apply WZ.take (i := 4) (some 103) rfl rfl (by kernel_rfl) (by kernel_rfl) (by kernel_rfl) (calm_panic _) (by kernel_rfl)
              case hy => (refine .inl ⟨by kernel_rfl, fun W hC => ?_⟩; (try dsimp only at hC); go_simp; rfl)
              case hC => exact HC
              case ha => (simp only [Act.put, List.setIfInBounds_toArray, List.set_cons_zero, List.set_cons_succ]; rfl)
              apply WZ.take (i := 5) (some 104) rfl rfl (by kernel_rfl) (by kernel_rfl) (by kernel_rfl) (calm_panic _) (by kernel_rfl)
              case hy => (refine .inl ⟨by kernel_rfl, fun W hC => ?_⟩; (try dsimp only at hC); go_simp; rfl)
              case hC => exact HC
              case ha => (simp only [Act.put, List.setIfInBounds_toArray, List.set_cons_zero, List.set_cons_succ]; rfl)
              refine WZ.two (i := 6) (j := 10) rfl rfl (by kernel_rfl) ?_ ?_
              · conv => arg 4; arg 1; whnf
                go_wp2_with (go_at_call 24; go_loud (refine (find_any s' xs' x.c.job _ (HP.out.av.below HB.out).sin (by omega)).mono ?_); rw [HFN.out]; rintro e' w9 ⟨rfl, hb9⟩; (first | (have HJ0 := HJ; clear HJ; have HJ := Lib.hid (HJ0.out.below hb9 HJ0.out.lt); clear HJ0) | skip); have HB0 := HB; clear HB; have HB := Lib.hid (HB0.out.trans (hb9.mono HB0.out.size)); clear HB0 hb9)
                clear HC
                have HC := hcell _ HB
                refine ⟨HC, ?_⟩
                apply WZ.take (i := 7) (some 98) rfl rfl (by kernel_rfl) (by kernel_rfl) (by kernel_rfl) (calm_panic _) (by kernel_rfl)
                case hy => (refine .inl ⟨by kernel_rfl, fun W hC => ?_⟩; (try dsimp only at hC); go_simp; rfl)
                case hC => exact HC
                case ha => (simp only [Act.put, List.setIfInBounds_toArray, List.set_cons_zero, List.set_cons_succ]; rfl)
                apply WZ.take (i := 8) (some 106) rfl rfl (by kernel_rfl) (by kernel_rfl) (by kernel_rfl) (calm_panic _) (by kernel_rfl)
                case hy => (refine .inl ⟨by kernel_rfl, fun W hC => ?_⟩; (try dsimp only at hC); go_simp; rfl)
                case hC => exact HC
                case ha => (simp only [Act.put, List.setIfInBounds_toArray, List.set_cons_zero, List.set_cons_succ]; rfl)
                apply WZ.take (i := 9) (some 107) rfl rfl (by kernel_rfl) (by kernel_rfl) (by kernel_rfl) (calm_panic _) (by kernel_rfl)
                case hy => (refine .inl ⟨by kernel_rfl, fun W hC => ?_⟩; (try dsimp only at hC); go_simp; rfl)
                case hC => exact HC
                case ha => (simp only [Act.put, List.setIfInBounds_toArray, List.set_cons_zero, List.set_cons_succ]; rfl)
                -- 10
                refine WZ.one (i := 10) rfl (by kernel_rfl) ?_
                conv => arg 4; arg 1; whnf
                go_wp2_with fail
                have hn := bnew HB.out (Nat.le_refl _) 64 [.int .u64 0, .int .u32 0, .int .u64 0]
                clear HB HC
                have HJ := Lib.hid hn.1
                have HB := Lib.hid hn.2.1
                have HGE := Lib.hid hn.2.2
                clear hn
                have HC := hcell _ HB
                refine ⟨HC, ?_⟩
                -- 11
                refine WZ.one (i := 11) rfl (by kernel_rfl) ?_
                conv => arg 4; arg 1; whnf
                go_wp2_with ((with_reducible show wpList _ _ _ ({ dst := none, op := Op.store _ (Operand.tmp 14) _, type := _, pos := _, after := _, guard := _ } :: _) _ _); go_loud (refine wpList_store_mid rfl 64 (.tmp 14) (.tmp 106) rfl _ 0 j.vs.toArray rfl rfl (HJ.out.there 3 (Nat.le_refl _)) (by kernel_rfl) (by simp [Value.oneCell', Jb.vs]) ?_); refine HJ.out.setW j.vs rfl ?_; intro w11 HJ11 HG11; have HB11 := Lib.hid (below_grown HB.out HB.out.size HG11.out HGE.out))
                clear HC
                have HC := hcell _ HB11
                refine ⟨HC, ?_⟩
                apply WZ.take (i := 12) (some 15) rfl rfl (by kernel_rfl) (by kernel_rfl) (by kernel_rfl) (calm_panic _) (by kernel_rfl)
                case hy => (refine .inl ⟨by kernel_rfl, fun W hC => ?_⟩; (try dsimp only at hC); go_simp; rfl)
                case hC => exact HC
                case ha => (simp only [Act.put, List.setIfInBounds_toArray, List.set_cons_zero, List.set_cons_succ]; rfl)
                refine WZ.done (by kernel_rfl) ?_ _
                simp only [Calm, Exit.then]
                clear HC hcell
                go_wp2_with fail
                go_meet
                exact ⟨_, rfl, rfl, HJ11, HB11⟩
              · conv => arg 4; arg 1; whnf
                go_wp2_with fail
                have hn := bnew HB.out (Nat.le_refl _) 64 [.int .u64 0, .int .u32 0, .int .u64 0]
                clear HB HC
                have HJ := Lib.hid hn.1
                have HB := Lib.hid hn.2.1
                have HGE := Lib.hid hn.2.2
                clear hn
                have HC := hcell _ HB
                refine ⟨HC, ?_⟩
                -- 6
                refine WZ.one (i := 6) rfl (by kernel_rfl) ?_
                conv => arg 4; arg 1; whnf
                go_wp2_with (go_at_call 24; go_loud (refine (find_any s' xs' x.c.job _ (HP.out.av.below HB.out).sin (by omega)).mono ?_); rw [HFN.out]; rintro e' w9 ⟨rfl, hb9⟩; (first | (have HJ0 := HJ; clear HJ; have HJ := Lib.hid (HJ0.out.below hb9 HJ0.out.lt); clear HJ0) | skip); have HB0 := HB; clear HB; have HB := Lib.hid (HB0.out.trans (hb9.mono HB0.out.size)); clear HB0 hb9)
                clear HC
                have HC := hcell _ HB
                refine ⟨HC, ?_⟩
                apply WZ.take (i := 7) (some 98) rfl rfl (by kernel_rfl) (by kernel_rfl) (by kernel_rfl) (calm_panic _) (by kernel_rfl)
                case hy => (refine .inl ⟨by kernel_rfl, fun W hC => ?_⟩; (try dsimp only at hC); go_simp; rfl)
                case hC => exact HC
                case ha => (simp only [Act.put, List.setIfInBounds_toArray, List.set_cons_zero, List.set_cons_succ]; rfl)
                apply WZ.take (i := 8) (some 106) rfl rfl (by kernel_rfl) (by kernel_rfl) (by kernel_rfl) (calm_panic _) (by kernel_rfl)
                case hy => (refine .inl ⟨by kernel_rfl, fun W hC => ?_⟩; (try dsimp only at hC); go_simp; rfl)
                case hC => exact HC
                case ha => (simp only [Act.put, List.setIfInBounds_toArray, List.set_cons_zero, List.set_cons_succ]; rfl)
                apply WZ.take (i := 9) (some 107) rfl rfl (by kernel_rfl) (by kernel_rfl) (by kernel_rfl) (calm_panic _) (by kernel_rfl)
                case hy => (refine .inl ⟨by kernel_rfl, fun W hC => ?_⟩; (try dsimp only at hC); go_simp; rfl)
                case hC => exact HC
                case ha => (simp only [Act.put, List.setIfInBounds_toArray, List.set_cons_zero, List.set_cons_succ]; rfl)
                -- 11
                refine WZ.one (i := 11) rfl (by kernel_rfl) ?_
                conv => arg 4; arg 1; whnf
                go_wp2_with ((with_reducible show wpList _ _ _ ({ dst := none, op := Op.store _ (Operand.tmp 14) _, type := _, pos := _, after := _, guard := _ } :: _) _ _); go_loud (refine wpList_store_mid rfl 64 (.tmp 14) (.tmp 106) rfl _ 0 j.vs.toArray rfl rfl (HJ.out.there 3 (Nat.le_refl _)) (by kernel_rfl) (by simp [Value.oneCell', Jb.vs]) ?_); refine HJ.out.setW j.vs rfl ?_; intro w11 HJ11 HG11; have HB11 := Lib.hid (below_grown HB.out HB.out.size HG11.out HGE.out))
                clear HC
                have HC := hcell _ HB11
                refine ⟨HC, ?_⟩
                apply WZ.take (i := 12) (some 15) rfl rfl (by kernel_rfl) (by kernel_rfl) (by kernel_rfl) (calm_panic _) (by kernel_rfl)
                case hy => (refine .inl ⟨by kernel_rfl, fun W hC => ?_⟩; (try dsimp only at hC); go_simp; rfl)
                case hC => exact HC
                case ha => (simp only [Act.put, List.setIfInBounds_toArray, List.set_cons_zero, List.set_cons_succ]; rfl)
                refine WZ.done (by kernel_rfl) ?_ _
                simp only [Calm, Exit.then]
                clear HC hcell
                go_wp2_with fail
                go_meet
                exact ⟨_, rfl, rfl, HJ11, HB11⟩
            case rest =>
              obtain ⟨g14, rfl, rfl, HJ, HB⟩ := hcut
              rename World => wk
              have HP1 := HP
              clear HP
              have HP := Lib.hid (HP1.out.below HB.out)
              have HJA := HJ
              clear HP1 HB HJ
              go_upto_region 18 with fail
              go_cut [16, 17] (fun s14 s15 wx => ∃ g16 : Nat, s14 = .pointer (some ⟨g16, 0, none⟩) ∧ s15 = .bool fd ∧ Hid (Blk 67 wx g16 j.vs) ∧ Hid (Below wk.heap.size wk wx))
              case first =>
                have hcell : ∀ W, Hid (Below wk.heap.size wk W) → W.rangeAt wd.heap.size 0 (s'.vs ys') ∧ W.cell? ⟨b, o + k * 9 + 5, none⟩ = some (.int .u64 x.c.job) := fun W h => ⟨(HP.out.bv.below h.out).bk.range, HR.out W (HP.out.ap.bl.trans (h.out.mono HP.out.ap.bl.size)) 5 _ rfl⟩
                have HB := Lib.hid ((Below.refl wk.heap.size wk).drew)
                have HC := hcell _ HB
                refine region_wz (fun W => W.rangeAt wd.heap.size 0 (s'.vs ys') ∧ W.cell? ⟨b, o + k * 9 + 5, none⟩ = some (.int .u64 x.c.job)) none (by kernel_rfl) ?_
                apply WZ.take (i := 0) (some 109) rfl rfl (by kernel_rfl) (by kernel_rfl) (by kernel_rfl) (calm_panic _) (by kernel_rfl)
                case hy => first | (apply yieldsIf_load_mid (by kernel_rfl) _ _ rfl _ _ rfl; (case hS => (intro W hC; exact hC.1)); (case hu => exact Try.underlying51); (case hd => rfl); (case hi => kernel_rfl)) | (apply yieldsIf_load_mid (by kernel_rfl) _ _ rfl _ _ rfl; (case hS => (intro W hC; exact hC.2.1)); (case hu => exact Try.underlying51); (case hd => rfl); (case hi => kernel_rfl)) | (apply yieldsIf_load_mid (by kernel_rfl) _ _ rfl _ _ rfl; (case hS => (intro W hC; exact hC.2.2.1)); (case hu => exact Try.underlying51); (case hd => rfl); (case hi => kernel_rfl)) | (apply yieldsIf_load_mid (by kernel_rfl) _ _ rfl _ _ rfl; (case hS => (intro W hC; exact hC.2.2.2.1)); (case hu => exact Try.underlying51); (case hd => rfl); (case hi => kernel_rfl)) | (apply yieldsIf_load_mid (by kernel_rfl) _ _ rfl _ _ rfl; (case hS => (intro W hC; exact hC.2.2.2)); (case hu => exact Try.underlying51); (case hd => rfl); (case hi => kernel_rfl)) | (apply yieldsIf_load_mid (by kernel_rfl) _ _ rfl _ _ rfl; (case hS => (intro W hC; exact hC.2.2)); (case hu => exact Try.underlying51); (case hd => rfl); (case hi => kernel_rfl)) | (apply yieldsIf_load_mid (by kernel_rfl) _ _ rfl _ _ rfl; (case hS => (intro W hC; exact hC.2)); (case hu => exact Try.underlying51); (case hd => rfl); (case hi => kernel_rfl)) | (apply yieldsIf_load_mid (by kernel_rfl) _ _ rfl _ _ rfl; (case hS => (intro W hC; exact hC)); (case hu => exact Try.underlying51); (case hd => rfl); (case hi => kernel_rfl))
                case hC => exact HC
                case ha => (simp only [Act.put, List.setIfInBounds_toArray, List.set_cons_zero, List.set_cons_succ]; rfl)
                apply WZ.take (i := 1) (some 110) rfl rfl (by kernel_rfl) (by kernel_rfl) (by kernel_rfl) (calm_panic _) (by kernel_rfl)
                case hy => (refine .inl ⟨by kernel_rfl, fun W hC => ?_⟩; (try dsimp only at hC); go_simp; rfl)
                case hC => exact HC
                case ha => (simp only [Act.put, List.setIfInBounds_toArray, List.set_cons_zero, List.set_cons_succ]; rfl)
                apply WZ.take (i := 2) (some 111) rfl rfl (by kernel_rfl) (by kernel_rfl) (by kernel_rfl) (calm_panic _) (by kernel_rfl)
                case hy => (refine .inl ⟨by kernel_rfl, fun W hC => ?_⟩; (try dsimp only at hC); go_simp; rfl)
                case hC => exact HC
                case ha => (simp only [Act.put, List.setIfInBounds_toArray, List.set_cons_zero, List.set_cons_succ]; rfl)
                apply WZ.take (i := 3) (some 112) rfl rfl (by kernel_rfl) (by kernel_rfl) (by kernel_rfl) (calm_panic _) (by kernel_rfl)
                case hy => (refine .inl ⟨by kernel_rfl, fun W hC => ?_⟩; (try dsimp only at hC); go_simp; rfl)
                case hC => exact HC
                case ha => (simp only [Act.put, List.setIfInBounds_toArray, List.set_cons_zero, List.set_cons_succ]; rfl)
                apply WZ.take (i := 4) (some 113) rfl rfl (by kernel_rfl) (by kernel_rfl) (by kernel_rfl) (calm_panic _) (by kernel_rfl)
                case hy => (refine .inl ⟨by kernel_rfl, fun W hC => ?_⟩; (try dsimp only at hC); go_simp; rfl)
                case hC => exact HC
                case ha => (simp only [Act.put, List.setIfInBounds_toArray, List.set_cons_zero, List.set_cons_succ]; rfl)
                apply WZ.take (i := 5) (some 114) rfl rfl (by kernel_rfl) (by kernel_rfl) (by kernel_rfl) (calm_panic _) (by kernel_rfl)
                case hy => (refine .inl ⟨by kernel_rfl, fun W hC => ?_⟩; (try dsimp only at hC); go_simp; rfl)
                case hC => exact HC
                case ha => (simp only [Act.put, List.setIfInBounds_toArray, List.set_cons_zero, List.set_cons_succ]; rfl)
                refine WZ.two (i := 6) (j := 10) rfl rfl (by kernel_rfl) ?_ ?_
                · conv => arg 4; arg 1; whnf
                  go_wp2_with (go_at_call 25; go_loud (refine (refFind_any s' ys' x.c.job _ (HP.out.bv.below HB.out).sin (by omega)).mono ?_); rw [HFN.out]; rintro e' w9 ⟨rfl, hb9⟩; (first | (have HJ0 := HJ; clear HJ; have HJ := Lib.hid (HJ0.out.below hb9 HJ0.out.lt); clear HJ0) | skip); have HB0 := HB; clear HB; have HB := Lib.hid (HB0.out.trans (hb9.mono HB0.out.size)); clear HB0 hb9)
                  clear HC
                  have HC := hcell _ HB
                  refine ⟨HC, ?_⟩
                  apply WZ.take (i := 7) (some 108) rfl rfl (by kernel_rfl) (by kernel_rfl) (by kernel_rfl) (calm_panic _) (by kernel_rfl)
                  case hy => (refine .inl ⟨by kernel_rfl, fun W hC => ?_⟩; (try dsimp only at hC); go_simp; rfl)
                  case hC => exact HC
                  case ha => (simp only [Act.put, List.setIfInBounds_toArray, List.set_cons_zero, List.set_cons_succ]; rfl)
                  apply WZ.take (i := 8) (some 116) rfl rfl (by kernel_rfl) (by kernel_rfl) (by kernel_rfl) (calm_panic _) (by kernel_rfl)
                  case hy => (refine .inl ⟨by kernel_rfl, fun W hC => ?_⟩; (try dsimp only at hC); go_simp; rfl)
                  case hC => exact HC
                  case ha => (simp only [Act.put, List.setIfInBounds_toArray, List.set_cons_zero, List.set_cons_succ]; rfl)
                  apply WZ.take (i := 9) (some 117) rfl rfl (by kernel_rfl) (by kernel_rfl) (by kernel_rfl) (calm_panic _) (by kernel_rfl)
                  case hy => (refine .inl ⟨by kernel_rfl, fun W hC => ?_⟩; (try dsimp only at hC); go_simp; rfl)
                  case hC => exact HC
                  case ha => (simp only [Act.put, List.setIfInBounds_toArray, List.set_cons_zero, List.set_cons_succ]; rfl)
                  -- 10
                  refine WZ.one (i := 10) rfl (by kernel_rfl) ?_
                  conv => arg 4; arg 1; whnf
                  go_wp2_with fail
                  have hn := bnew HB.out (Nat.le_refl _) 67 [.int .u64 0, .int .u32 0, .int .u64 0]
                  clear HB HC
                  have HJ := Lib.hid hn.1
                  have HB := Lib.hid hn.2.1
                  have HGE := Lib.hid hn.2.2
                  clear hn
                  have HC := hcell _ HB
                  refine ⟨HC, ?_⟩
                  -- 11
                  refine WZ.one (i := 11) rfl (by kernel_rfl) ?_
                  conv => arg 4; arg 1; whnf
                  go_wp2_with ((with_reducible show wpList _ _ _ ({ dst := none, op := Op.store _ (Operand.tmp 16) _, type := _, pos := _, after := _, guard := _ } :: _) _ _); go_loud (refine wpList_store_mid rfl 67 (.tmp 16) (.tmp 116) rfl _ 0 j.vs.toArray rfl rfl (HJ.out.there 3 (Nat.le_refl _)) (by kernel_rfl) (by simp [Value.oneCell', Jb.vs]) ?_); refine HJ.out.setW j.vs rfl ?_; intro w11 HJ11 HG11; have HB11 := Lib.hid (below_grown HB.out HB.out.size HG11.out HGE.out))
                  clear HC
                  have HC := hcell _ HB11
                  refine ⟨HC, ?_⟩
                  apply WZ.take (i := 12) (some 17) rfl rfl (by kernel_rfl) (by kernel_rfl) (by kernel_rfl) (calm_panic _) (by kernel_rfl)
                  case hy => (refine .inl ⟨by kernel_rfl, fun W hC => ?_⟩; (try dsimp only at hC); go_simp; rfl)
                  case hC => exact HC
                  case ha => (simp only [Act.put, List.setIfInBounds_toArray, List.set_cons_zero, List.set_cons_succ]; rfl)
                  refine WZ.done (by kernel_rfl) ?_ _
                  simp only [Calm, Exit.then]
                  clear HC hcell
                  go_wp2_with fail
                  go_meet
                  exact ⟨_, rfl, rfl, HJ11, HB11⟩
                · conv => arg 4; arg 1; whnf
                  go_wp2_with fail
                  have hn := bnew HB.out (Nat.le_refl _) 67 [.int .u64 0, .int .u32 0, .int .u64 0]
                  clear HB HC
                  have HJ := Lib.hid hn.1
                  have HB := Lib.hid hn.2.1
                  have HGE := Lib.hid hn.2.2
                  clear hn
                  have HC := hcell _ HB
                  refine ⟨HC, ?_⟩
                  -- 6
                  refine WZ.one (i := 6) rfl (by kernel_rfl) ?_
                  conv => arg 4; arg 1; whnf
                  go_wp2_with (go_at_call 25; go_loud (refine (refFind_any s' ys' x.c.job _ (HP.out.bv.below HB.out).sin (by omega)).mono ?_); rw [HFN.out]; rintro e' w9 ⟨rfl, hb9⟩; (first | (have HJ0 := HJ; clear HJ; have HJ := Lib.hid (HJ0.out.below hb9 HJ0.out.lt); clear HJ0) | skip); have HB0 := HB; clear HB; have HB := Lib.hid (HB0.out.trans (hb9.mono HB0.out.size)); clear HB0 hb9)
                  clear HC
                  have HC := hcell _ HB
                  refine ⟨HC, ?_⟩
                  apply WZ.take (i := 7) (some 108) rfl rfl (by kernel_rfl) (by kernel_rfl) (by kernel_rfl) (calm_panic _) (by kernel_rfl)
                  case hy => (refine .inl ⟨by kernel_rfl, fun W hC => ?_⟩; (try dsimp only at hC); go_simp; rfl)
                  case hC => exact HC
                  case ha => (simp only [Act.put, List.setIfInBounds_toArray, List.set_cons_zero, List.set_cons_succ]; rfl)
                  apply WZ.take (i := 8) (some 116) rfl rfl (by kernel_rfl) (by kernel_rfl) (by kernel_rfl) (calm_panic _) (by kernel_rfl)
                  case hy => (refine .inl ⟨by kernel_rfl, fun W hC => ?_⟩; (try dsimp only at hC); go_simp; rfl)
                  case hC => exact HC
                  case ha => (simp only [Act.put, List.setIfInBounds_toArray, List.set_cons_zero, List.set_cons_succ]; rfl)
                  apply WZ.take (i := 9) (some 117) rfl rfl (by kernel_rfl) (by kernel_rfl) (by kernel_rfl) (calm_panic _) (by kernel_rfl)
                  case hy => (refine .inl ⟨by kernel_rfl, fun W hC => ?_⟩; (try dsimp only at hC); go_simp; rfl)
                  case hC => exact HC
                  case ha => (simp only [Act.put, List.setIfInBounds_toArray, List.set_cons_zero, List.set_cons_succ]; rfl)
                  -- 11
                  refine WZ.one (i := 11) rfl (by kernel_rfl) ?_
                  conv => arg 4; arg 1; whnf
                  go_wp2_with ((with_reducible show wpList _ _ _ ({ dst := none, op := Op.store _ (Operand.tmp 16) _, type := _, pos := _, after := _, guard := _ } :: _) _ _); go_loud (refine wpList_store_mid rfl 67 (.tmp 16) (.tmp 116) rfl _ 0 j.vs.toArray rfl rfl (HJ.out.there 3 (Nat.le_refl _)) (by kernel_rfl) (by simp [Value.oneCell', Jb.vs]) ?_); refine HJ.out.setW j.vs rfl ?_; intro w11 HJ11 HG11; have HB11 := Lib.hid (below_grown HB.out HB.out.size HG11.out HGE.out))
                  clear HC
                  have HC := hcell _ HB11
                  refine ⟨HC, ?_⟩
                  apply WZ.take (i := 12) (some 17) rfl rfl (by kernel_rfl) (by kernel_rfl) (by kernel_rfl) (calm_panic _) (by kernel_rfl)
                  case hy => (refine .inl ⟨by kernel_rfl, fun W hC => ?_⟩; (try dsimp only at hC); go_simp; rfl)
                  case hC => exact HC
                  case ha => (simp only [Act.put, List.setIfInBounds_toArray, List.set_cons_zero, List.set_cons_succ]; rfl)
                  refine WZ.done (by kernel_rfl) ?_ _
                  simp only [Calm, Exit.then]
                  clear HC hcell
                  go_wp2_with fail
                  go_meet
                  exact ⟨_, rfl, rfl, HJ11, HB11⟩
              case rest =>
                obtain ⟨g16, rfl, rfl, HJ, HB⟩ := hcut
                rename World => wl
                have HP1 := HP
                have HJ1 := HJA
                clear HP HJA
                have HP := Lib.hid (HP1.out.below HB.out)
                have HJA := Lib.hid (HJ1.out.below HB.out HJ1.out.lt)
                clear HP1 HJ1 HB
                have hbf : (fd != fd) = false := bne_self_eq_false' fd
                go_wp2_with (first
                  | ((with_reducible show wpList _ _ _ ({ dst := some 118, op := Op.load _ _, type := _, pos := _, after := _, guard := _ } :: _) _ _); go_loud (refine wpList_load_mid rfl 64 (.tmp 14) rfl g14 0 rfl [.int .u64 j.id, .int .u32 j.sum, .int .u64 j.seq] _ HJA.out.range Try.underlying64 rfl (by kernel_rfl) ?_))
                  | ((with_reducible show wpList _ _ _ ({ dst := some 119, op := Op.load _ _, type := _, pos := _, after := _, guard := _ } :: _) _ _); go_loud (refine wpList_load_mid rfl 67 (.tmp 16) rfl g16 0 rfl [.int .u64 j.id, .int .u32 j.sum, .int .u64 j.seq] _ HJ.out.range Try.underlying67 rfl (by kernel_rfl) ?_))
                  | ((with_reducible show wpList _ _ _ ({ dst := some 126, op := Op.load _ _, type := _, pos := _, after := _, guard := _ } :: _) _ _); go_loud (refine wpList_load_mid rfl 47 (.tmp 10) rfl wa.heap.size 0 rfl (s'.vs xs') _ HP.out.av.bk.range Try.underlying47 rfl (by kernel_rfl) ?_))
                  | ((with_reducible show wpList _ _ _ ({ dst := none, op := Op.store _ (Operand.tmp 5) _, type := _, pos := _, after := _, guard := _ } :: _) _ _); go_loud (refine wpList_store_mid rfl 47 (.tmp 5) (.tmp 126) rfl g 0 (s'.vs xs').toArray rfl rfl (HP.out.ap.sv.bk.there 5 (Nat.le_refl _)) (by kernel_rfl) (by simp [Value.oneCell', Sta.vs]) ?_); refine HP.out.ap.sv.bk.setW (s'.vs xs') rfl ?_; intro w31 HT31 HG31; have HS31 := Lib.hid (HP.out.store1 HOF.out HG31.out))
                  | ((with_reducible show wpList _ _ _ ({ dst := some 127, op := Op.load _ _, type := _, pos := _, after := _, guard := _ } :: _) _ _); go_loud (refine wpList_load_mid rfl 51 (.tmp 12) rfl wd.heap.size 0 rfl (s'.vs ys') _ HS31.out.1.bk.range Try.underlying51 rfl (by kernel_rfl) ?_))
                  | ((with_reducible show wpList _ _ _ ({ dst := none, op := Op.store _ (Operand.tmp 6) _, type := _, pos := _, after := _, guard := _ } :: _) _ _); go_loud (refine wpList_store_mid rfl 51 (.tmp 6) (.tmp 127) rfl (g + 1) 0 (s'.vs ys').toArray rfl rfl (HS31.out.2.bk.there 5 (Nat.le_refl _)) (by kernel_rfl) (by simp [Value.oneCell', Sta.vs]) ?_); refine HS31.out.2.bk.setW (s'.vs ys') rfl ?_; intro w32 HT32 HG32))
                have hfin := HP.out.next HOF.out HOK'.out HUQ'.out HG31.out HT31.out HG32.out HT32.out
                go_roundw
                case rel => exact ⟨k + 1, s', xs', ys', by first | rfl | go_num, by omega, Lib.hid hfin⟩
                case measure => simp [intOf]; omega
    · have d1 : decide ((k : Int) < (N : Int)) = false := decide_eq_false (by omega)
      go_wp2
      go_ret
      exact ⟨rfl, HI.out.bl⟩
end Go.Proofs.Ytiiogdgnccgehaa
