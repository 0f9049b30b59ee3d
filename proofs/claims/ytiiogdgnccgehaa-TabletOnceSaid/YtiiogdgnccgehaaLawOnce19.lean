/-
  The walk of the law TabletOnce. No conditions.
-/
import Derived.Test.YtiiogdgnccgehaaOnceKit19
import Derived.Test.YtiiogdgnccgehaaLawAlike19
namespace Go.Proofs.Ytiiogdgnccgehaa
open Go.RowKit Go.Maps
attribute [local go_sem ↓] Go.wp_at_zero Go.wp_at_succ
set_option maxRecDepth 100000 in
set_option maxHeartbeats 8000000 in
theorem once_wide (A : Option Addr) (c N : Nat) (w : World) (h : 40 < N) : Calls Try.prog 5 #[.slice A N c] w fun e w' => e = .returned (.bool true) ∧ Below w.heap.size w w' := by
  have e1 : decide ((40 : Int) < (N : Int)) = true := decide_eq_true (by omega)
  go_enter Try.func5, Try.ntmps5
  go_wp2_with (go_at_call 11; refine (shown_any _).mono ?_; rintro e w2 ⟨rfl, hb2⟩)
  go_ret
  exact ⟨rfl, hb2⟩
set_option maxRecDepth 100000 in
set_option maxHeartbeats 8000000 in
theorem once_any (A : Option Addr) (c : Nat) (l : List CA) (w : World) (hl : Rd w w.heap.size A (cas l)) (hok : ∀ x ∈ l, x.ok w) (hlen : l.length ≤ 40) : Calls Try.prog 5 #[.slice A l.length c] w fun e w' => e = .returned (.bool true) ∧ Below w.heap.size w w' := by
  have e1 : decide ((40 : Int) < (l.length : Int)) = false := decide_eq_false (by omega)
  have HL := Lib.hid hl
  have HOK := Lib.hid hok
  clear hl hok
  obtain ⟨N, hN⟩ : ∃ N, l.length = N := ⟨_, rfl⟩
  have HN := Lib.hid hN
  rw [hN] at hlen e1 ⊢
  clear hN
  have hmm := @run_makeMap Try.prog
  go_enter Try.func5, Try.ntmps5
  go_wp2_with (first
    | (go_at_call 11; refine (shown_any _).mono ?_; rintro e w2 ⟨rfl, hb2⟩; have HB2 := Lib.hid hb2; clear hb2)
    | ((with_reducible show wpList _ _ _ ({ dst := none, op := Op.store _ (Operand.tmp 3) _, type := _, pos := _, after := _, guard := _ } :: _) _ _); go_loud (refine wpList_store_mid rfl 47 (.tmp 3) (.tmp 20) rfl w2.heap.size 0 #[.int .u64 0, .int .u64 0, .slice none 0 0, .slice none 0 0, .slice none 0 0] rfl rfl (there_madeB 47 w2 staz 5 (Nat.le_refl _)) (by kernel_rfl) (by simp [Value.oneCell']) ?_); refine Blk.madeZ 47 w2 staz (emptyS.vs nowhere) rfl ?_; intro w3 HT3 HL3 HZ3))
  obtain ⟨g, hg⟩ : ∃ g, w2.heap.size = g := ⟨_, rfl⟩
  obtain ⟨m1, hm1⟩ : ∃ m, w3.heap.size = m := ⟨_, rfl⟩
  have hz3 := HZ3.out
  have hz2 := HB2.out.size
  have HST := Lib.hid (show OSt w g m1 (m1 + 1) from ⟨by omega, by omega, by omega, by omega, by omega, by omega⟩)
  have hb1 := below_al w3 (.map #[] 0)
  have hb2 := below_al (w3.alloc (.map #[] 0)) (.map #[] 0)
  have hb12 := hb1.trans (hb2.mono hb1.size)
  have hk2 := MapK.made (w3.alloc (.map #[] 0)) 22
  rw [World.size_alloc, hm1] at hk2
  have hol : OL w ((w3.alloc (.map #[] 0)).alloc (.map #[] 0)) g m1 (m1 + 1) emptyS nowhere [] [] 0 :=
    ⟨OInv.zero, sok_zero, ((StV.new w2 w3 HT3 HL3).below hb12) |> (hg ▸ ·), NotAt.none _, NotAt.none _, NotAt.none _, (MapK.made w3 73).below hb2 |> (hm1 ▸ ·), hk2, (HB2.out.trans (HL3.out.mono hz2)).trans (hb12.mono (by omega))⟩
  have HO := Lib.hid hol
  rw [hg, hm1]
  clear hmm hz3 hz2 hb1 hb2 hb12 hk2 hol hg hm1 HT3 HL3 HZ3 HB2
  go_loopw [6] (fun iv wr => ∃ (k : Nat) (s : Sta) (xs : SA) (B : List (Nat × Nat)) (J : List Nat), iv = .int .i64 k ∧ k ≤ N ∧ Hid (OL w wr g m1 (m1 + 1) s xs B J k)) (fun iv _ => N - (intOf iv).toNat)
  case atStart => exact ⟨0, emptyS, nowhere, [], [], rfl, Nat.zero_le _, HO⟩
  case round =>
    obtain ⟨k, s, xs, B, J, rfl, hk, HI⟩ := hrel
    rename World => wr
    by_cases hlt : k < N
    · have hkl : k < l.length := by rw [HN.out]; exact hlt
      have d1 : decide ((k : Int) < (N : Int)) = true := decide_eq_true (by omega)
      have k1 : (0 : Int) ≤ (k : Int) := by omega
      have k2 : (k : Int) < (N : Int) := by omega
      obtain ⟨b, o, rfl, hb0, hra⟩ := ca_at HL.out hkl
      have hxk := HOK.out _ (List.getElem_mem hkl)
      obtain ⟨x, hx⟩ : ∃ x, l[k] = x := ⟨_, rfl⟩
      rw [hx] at hra hxk
      have HR := Lib.hid (fun (W : World) (hb : Below w.heap.size w W) => show W.rangeAt b (o + k * 9) (x.c.vs x.A x.k x.D x.m) from rangeAt_below hra hb hb0)
      have HX := Lib.hid hxk
      clear hx hra hxk
      cases hbd : bndC x.c with
      | false =>
        go_wp2_with (first
          | ((with_reducible show wpList _ _ _ ({ dst := some 32, op := Op.load _ _, type := _, pos := _, after := _, guard := _ } :: _) _ _); go_loud (refine wpList_load_mid rfl 27 (.tmp 31) rfl b (o + k * 9) rfl (x.c.vs x.A x.k x.D x.m) _ (HR.out _ HI.out.bl) Try.underlying27 rfl (by kernel_rfl) ?_))
          | (go_at_call 10; go_loud (refine (bounded_any x.c x.A x.k x.D x.m _ (ca_in HX.out HI.out.bl)).mono ?_); rw [hbd]; rintro e w4 ⟨rfl, hb4⟩; have HI4 := Lib.hid (HI.out.below hb4); clear hb4)
          | (go_at_call 11; refine (shown_any _).mono ?_; rintro e w5 ⟨rfl, hb5⟩))
        go_ret
        exact ⟨rfl, HI4.out.bl.trans (hb5.mono HI4.out.bl.size)⟩
      | true =>
        have hsp := once_step HI.out.inv HX.out.2.1
        have hef := apply_eff s (encC x.c).1
        have hok' := sok_next HI.out.ok (encC x.c).1
        have hap := (fun (W : World) (h1 : StaIn W W.heap.size s xs) (h2 : InW W xs) => apply_any W s xs h1 h2 k (by omega) HI.out.ok (encC x.c).1 (encT_size x.c))
        obtain ⟨t, ht⟩ : ∃ t, (encC x.c).1 = t := ⟨_, rfl⟩
        rw [ht] at hsp hef hok' hap
        have HT := Lib.hid ht
        obtain ⟨q, hq⟩ : ∃ q, applyS s t = q := ⟨_, rfl⟩
        rw [hq] at hsp hef hok' hap
        obtain ⟨s', X⟩ := q
        have HSP := Lib.hid hsp
        have HEF := Lib.hid hef
        have HOK' := Lib.hid hok'
        have HAP := Lib.hid hap
        obtain ⟨n, hn⟩ : ∃ n, X.cells.length = n := ⟨_, rfl⟩
        obtain ⟨f, hf⟩ : ∃ f, X.files.length = f := ⟨_, rfl⟩
        have HNC := Lib.hid hn
        have HNF := Lib.hid hf
        have hwi : IntKind.u64.wrap ((s.index : Int) + 1) = ((s.index + 1 : Nat) : Int) := wrap_nat (s.index + 1) (by have := HI.out.ok.ix; omega)
        have hn100 : n ≤ 100 := by have := HEF.out.lc; simp only at this; omega
        clear ht hq hsp hef hok' hap hn hf
        by_cases hc0 : X.cells = []
        · have hn0 : n = 0 := by rw [← HNC.out, hc0]; rfl
          have dn : decide ((0 : Int) < (n : Int)) = false := decide_eq_false (by omega)
          have dn' : decide (0 < n) = false := decide_eq_false (by omega)
          by_cases hf0 : X.files = []
          · have hf0' : f = 0 := by rw [← HNF.out, hf0]; rfl
            have df : decide ((0 : Int) < (f : Int)) = false := decide_eq_false (by omega)
            have df' : decide (0 < f) = false := decide_eq_false (by omega)
            have HNX := Lib.hid (show OInv s' B J by have := HSP.out.inv; unfold addB addJ at this; simp only [hc0, hf0, if_true] at this; exact this)
            clear hc0 hf0
            go_wp2_with (first
              | ((with_reducible show wpList _ _ _ ({ dst := some 32, op := Op.load _ _, type := _, pos := _, after := _, guard := _ } :: _) _ _); go_loud (refine wpList_load_mid rfl 27 (.tmp 31) rfl b (o + k * 9) rfl (x.c.vs x.A x.k x.D x.m) _ (HR.out _ HI.out.bl) Try.underlying27 rfl (by kernel_rfl) ?_))
              | (go_at_call 10; go_loud (refine (bounded_any x.c x.A x.k x.D x.m _ (ca_in HX.out HI.out.bl)).mono ?_); rw [hbd]; rintro e w4 ⟨rfl, hb4⟩; have HI4 := Lib.hid (HI.out.below hb4); clear hb4)
              | ((with_reducible show wpList _ _ _ ({ dst := some 40, op := Op.load _ _, type := _, pos := _, after := _, guard := _ } :: _) _ _); go_loud (refine wpList_load_mid rfl 27 (.tmp 39) rfl b (o + k * 9) rfl (x.c.vs x.A x.k x.D x.m) _ (HR.out _ HI4.out.bl) Try.underlying27 rfl (by kernel_rfl) ?_))
              | (go_at_call 12; go_loud (refine (encode_any x.c x.A x.k x.D x.m _ (ca_in HX.out HI4.out.bl)).mono ?_); rw [HT.out]; rintro e w5 ⟨rfl, hb5⟩; have HI5 := Lib.hid (HI4.out.below hb5); clear hb5)
              | ((with_reducible show wpList _ _ _ ({ dst := some 45, op := Op.load _ _, type := _, pos := _, after := _, guard := _ } :: _) _ _); go_loud (refine wpList_load_mid rfl 47 (.tmp 3) rfl g 0 rfl (s.vs xs) _ HI5.out.sv.bk.range Try.underlying47 rfl (by kernel_rfl) ?_))
              | (go_at_call 18; go_loud (refine (HAP.out _ HI5.out.sv.sin HI5.out.sv.inw).mono ?_); rintro e wa ⟨xs', A, a, D, d, rfl, hsi, hfr, hef, hb, hsep, hD⟩; have HPa := Lib.hid (And.intro hsi (And.intro hfr (And.intro hef hb))); have HDa := Lib.hid hD; have HBa := Lib.hid hb.size; clear hsi hfr hef hb hsep hD)
              | ((with_reducible show wpList _ _ _ ({ dst := none, op := Op.store _ (Operand.tmp 9) _, type := _, pos := _, after := _, guard := _ } :: _) _ _); go_loud (refine wpList_store_mid rfl 47 (.tmp 9) (.tmp 48) rfl wa.heap.size 0 (s'.vs xs').toArray rfl rfl ((two_blocks wa 47 53 staz effz).1.there 5 (Nat.le_refl _)) (by kernel_rfl) (by simp [Value.oneCell', Sta.vs]) ?_); refine (two_blocks wa 47 53 staz effz).1.setW (s'.vs xs') rfl ?_; intro wb HTb HGb; have HEb := Lib.hid ((two_blocks wa 47 53 staz effz).2.1.grown HGb.out (fun e => by injection e; omega)); have HLb := Lib.hid (below_grown (two_blocks wa 47 53 staz effz).2.2 (by rw [World.size_alloc, World.size_alloc]; omega) HGb.out (Nat.le_refl _)); clear HGb)
              | ((with_reducible show wpList _ _ _ ({ dst := none, op := Op.store _ (Operand.tmp 10) _, type := _, pos := _, after := _, guard := _ } :: _) _ _); go_loud (refine wpList_store_mid rfl 53 (.tmp 10) (.tmp 49) rfl (wa.heap.size + 1) 0 (X.vs A a D d).toArray rfl rfl (HEb.out.there 4 (Nat.le_refl _)) (by kernel_rfl) (by simp [Value.oneCell', Eff.vs]) ?_); refine HEb.out.setW (X.vs A a D d) rfl ?_; intro wc HEc HGc; have HTc := Lib.hid (HTb.out.grown HGc.out (fun e => by injection e; omega)); have HLc := Lib.hid (below_grown HLb.out HLb.out.size HGc.out (by omega)); go_loud (have HVc := Lib.hid (apply_boxes HI5.out.sv.inw HPa.out.1 HPa.out.2.1 HPa.out.2.2.1 HPa.out.2.2.2 HTc.out HEc.out HLc.out)); have HFc := Lib.hid HPa.out.2.1; clear HTb HEb HLb HGc HTc HEc HLc HPa ; have HIc := Lib.hid (HI5.out.below HVc.out.2.2); go_loud (have HMD := Lib.hid (once_mid HI5.out HFc.out HVc.out HDa.out HBa.out HST.out)); have p0 := HIc.out.sv.bk.cell (j := 0) rfl; have q0 := (HVc.out.1.bk.cell (j := 0) rfl).trans (congrArg (fun (n : Nat) => some (Value.int .u64 (n : Int))) HSP.out.ix); have z0 := HVc.out.2.1.bk.cell (j := 0) rfl; have z1 := HVc.out.2.1.bk.cell (j := 1) rfl; have z2 := (HVc.out.2.1.bk.cell (j := 2) rfl).trans (slice_eq rfl HNC.out); have z3 := (HVc.out.2.1.bk.cell (j := 3) rfl).trans (slice_eq rfl HNF.out); have r0 := (show wc.cell? ⟨b, o + k * 9, none⟩ = some (.int .i64 x.c.kind) from HR.out _ HIc.out.bl 0 _ rfl); have r1 := HR.out _ HIc.out.bl 1 _ rfl; have r2 := HR.out _ HIc.out.bl 2 _ rfl; have r5 := HR.out _ HIc.out.bl 5 _ rfl)
              )
            have HRR := Lib.hid HMD.out.2.1
            have HKA := Lib.hid HMD.out.2.2.1
            have HKB := Lib.hid HMD.out.2.2.2.1
            try clear hn0
            try clear dn
            try clear dn'
            go_loopw [11] (fun vj wr => ∃ (j : Nat), vj = .int .i64 j ∧ j ≤ n ∧ Hid (OR w wr g wa.heap.size w5.heap.size s s' xs xs' X A a D d) ∧ Hid (MapK wr 73 m1 (B.map pairV)) ∧ Hid (MapK wr 22 (m1 + 1) (J.map numV))) (fun vj _ => n - (intOf vj).toNat)
            case atStart => exact ⟨0, rfl, Nat.zero_le _, HRR, HKA, HKB⟩
            case round =>
              clear HRR HKA HKB
              obtain ⟨j, rfl, hj, HRR, HKA, HKB⟩ := hrel
              rename World => wv
              by_cases hjn : j < n
              · have j1 : decide ((j : Int) < (n : Int)) = true := decide_eq_true (by omega)
                have j2 : (0 : Int) ≤ (j : Int) := by omega
                have j3 : (j : Int) < (n : Int) := by omega
                have hjl : j < X.cells.length := by rw [HNC.out]; exact hjn
                have hw3 : IntKind.i64.wrap ((j : Int) + 1) = ((j + 1 : Nat) : Int) := by rw [IntWalk.i64_in _ (by omega)]; omega
                obtain ⟨bq, oq, hA, hcq⟩ := HRR.out.seq hjl
                have hsq := (HSP.out.cells (fun e => by have h := HNC.out; rw [show X.cells = [] from e] at h; simp at h; omega)).2.2.2.2 _ (List.getElem_mem hjl)
                rw [hsq] at hcq
                have y2 := (HRR.out.ev.bk.cell (j := 2) rfl).trans (slice_eq hA HNC.out)
                have y0 := (HRR.out.av.bk.cell (j := 0) rfl).trans (congrArg (fun (n : Nat) => some (Value.int .u64 (n : Int))) HSP.out.ix)
                clear hA hsq hjl
                go_wp2
                go_quiet (fail)
                go_wp2
                exact ⟨⟨j + 1, by first | rfl | go_num, by omega, Lib.hid (HRR.out.below (below_drewN _ _)), Lib.hid (HKA.out.below (below_drewN _ _)), Lib.hid (HKB.out.below (below_drewN _ _))⟩, by simp [intOf]; omega⟩
              · have j1 : decide ((j : Int) < (n : Int)) = false := decide_eq_false (by omega)
                have y2 := (HRR.out.ev.bk.cell (j := 2) rfl).trans (slice_eq rfl HNC.out)
                go_wp2_with (first
                  | ((with_reducible show wpList _ _ _ ({ dst := some 172, op := Op.load _ _, type := _, pos := _, after := _, guard := _ } :: _) _ _); go_loud (refine wpList_load_mid rfl 47 (.tmp 9) rfl wa.heap.size 0 rfl (s'.vs xs') _ HRR.out.av.bk.range Try.underlying47 rfl (by kernel_rfl) ?_))
                  | ((with_reducible show wpList _ _ _ ({ dst := none, op := Op.store _ (Operand.tmp 3) _, type := _, pos := _, after := _, guard := _ } :: _) _ _); go_loud (refine wpList_store_mid rfl 47 (.tmp 3) (.tmp 172) rfl g 0 (s'.vs xs').toArray rfl rfl (HRR.out.sv.bk.there 5 (Nat.le_refl _)) (by kernel_rfl) (by simp [Value.oneCell', Sta.vs]) ?_); refine HRR.out.sv.bk.setW (s'.vs xs') rfl ?_; intro wk HTk HGk))
                have hfin := HRR.out.next HST.out HNX.out HOK'.out HMD.out.1.1 HMD.out.1.2.1 HMD.out.1.2.2 HKA.out HKB.out HGk.out HTk.out
                exact ⟨⟨k + 1, s', xs', B, J, by first | rfl | go_num, by omega, Lib.hid hfin⟩, by simp [intOf]; omega⟩
          · have hf1 : 0 < f := by
              rcases Nat.eq_zero_or_pos f with h | h
              · exact absurd (List.length_eq_zero_iff.1 (HNF.out.trans h)) hf0
              · exact h
            have df : decide ((0 : Int) < (f : Int)) = true := decide_eq_true (by omega)
            have df' : decide (0 < f) = true := decide_eq_true hf1
            obtain ⟨hXe, hXd, hk3, hj0⟩ := HSP.out.files hf0
            simp only at hXe hXd
            have HNX := Lib.hid (show OInv s' B (J ++ [x.c.job]) by have := HSP.out.inv; unfold addB addJ at this; simp only [hc0, hf0, if_true, if_false] at this; exact this)
            have HNJ := Lib.hid (num_not hj0)
            clear hc0 hf0 hj0
            go_wp2_with (first
              | ((with_reducible show wpList _ _ _ ({ dst := some 32, op := Op.load _ _, type := _, pos := _, after := _, guard := _ } :: _) _ _); go_loud (refine wpList_load_mid rfl 27 (.tmp 31) rfl b (o + k * 9) rfl (x.c.vs x.A x.k x.D x.m) _ (HR.out _ HI.out.bl) Try.underlying27 rfl (by kernel_rfl) ?_))
              | (go_at_call 10; go_loud (refine (bounded_any x.c x.A x.k x.D x.m _ (ca_in HX.out HI.out.bl)).mono ?_); rw [hbd]; rintro e w4 ⟨rfl, hb4⟩; have HI4 := Lib.hid (HI.out.below hb4); clear hb4)
              | ((with_reducible show wpList _ _ _ ({ dst := some 40, op := Op.load _ _, type := _, pos := _, after := _, guard := _ } :: _) _ _); go_loud (refine wpList_load_mid rfl 27 (.tmp 39) rfl b (o + k * 9) rfl (x.c.vs x.A x.k x.D x.m) _ (HR.out _ HI4.out.bl) Try.underlying27 rfl (by kernel_rfl) ?_))
              | (go_at_call 12; go_loud (refine (encode_any x.c x.A x.k x.D x.m _ (ca_in HX.out HI4.out.bl)).mono ?_); rw [HT.out]; rintro e w5 ⟨rfl, hb5⟩; have HI5 := Lib.hid (HI4.out.below hb5); clear hb5)
              | ((with_reducible show wpList _ _ _ ({ dst := some 45, op := Op.load _ _, type := _, pos := _, after := _, guard := _ } :: _) _ _); go_loud (refine wpList_load_mid rfl 47 (.tmp 3) rfl g 0 rfl (s.vs xs) _ HI5.out.sv.bk.range Try.underlying47 rfl (by kernel_rfl) ?_))
              | (go_at_call 18; go_loud (refine (HAP.out _ HI5.out.sv.sin HI5.out.sv.inw).mono ?_); rintro e wa ⟨xs', A, a, D, d, rfl, hsi, hfr, hef, hb, hsep, hD⟩; have HPa := Lib.hid (And.intro hsi (And.intro hfr (And.intro hef hb))); have HDa := Lib.hid hD; have HBa := Lib.hid hb.size; clear hsi hfr hef hb hsep hD)
              | ((with_reducible show wpList _ _ _ ({ dst := none, op := Op.store _ (Operand.tmp 9) _, type := _, pos := _, after := _, guard := _ } :: _) _ _); go_loud (refine wpList_store_mid rfl 47 (.tmp 9) (.tmp 48) rfl wa.heap.size 0 (s'.vs xs').toArray rfl rfl ((two_blocks wa 47 53 staz effz).1.there 5 (Nat.le_refl _)) (by kernel_rfl) (by simp [Value.oneCell', Sta.vs]) ?_); refine (two_blocks wa 47 53 staz effz).1.setW (s'.vs xs') rfl ?_; intro wb HTb HGb; have HEb := Lib.hid ((two_blocks wa 47 53 staz effz).2.1.grown HGb.out (fun e => by injection e; omega)); have HLb := Lib.hid (below_grown (two_blocks wa 47 53 staz effz).2.2 (by rw [World.size_alloc, World.size_alloc]; omega) HGb.out (Nat.le_refl _)); clear HGb)
              | ((with_reducible show wpList _ _ _ ({ dst := none, op := Op.store _ (Operand.tmp 10) _, type := _, pos := _, after := _, guard := _ } :: _) _ _); go_loud (refine wpList_store_mid rfl 53 (.tmp 10) (.tmp 49) rfl (wa.heap.size + 1) 0 (X.vs A a D d).toArray rfl rfl (HEb.out.there 4 (Nat.le_refl _)) (by kernel_rfl) (by simp [Value.oneCell', Eff.vs]) ?_); refine HEb.out.setW (X.vs A a D d) rfl ?_; intro wc HEc HGc; have HTc := Lib.hid (HTb.out.grown HGc.out (fun e => by injection e; omega)); have HLc := Lib.hid (below_grown HLb.out HLb.out.size HGc.out (by omega)); go_loud (have HVc := Lib.hid (apply_boxes HI5.out.sv.inw HPa.out.1 HPa.out.2.1 HPa.out.2.2.1 HPa.out.2.2.2 HTc.out HEc.out HLc.out)); have HFc := Lib.hid HPa.out.2.1; clear HTb HEb HLb HGc HTc HEc HLc HPa ; have HIc := Lib.hid (HI5.out.below HVc.out.2.2); go_loud (have HMD := Lib.hid (once_mid HI5.out HFc.out HVc.out HDa.out HBa.out HST.out)); have p0 := HIc.out.sv.bk.cell (j := 0) rfl; have q0 := (HVc.out.1.bk.cell (j := 0) rfl).trans (congrArg (fun (n : Nat) => some (Value.int .u64 (n : Int))) HSP.out.ix); have z0 := HVc.out.2.1.bk.cell (j := 0) rfl; have z1 := HVc.out.2.1.bk.cell (j := 1) rfl; have z2 := (HVc.out.2.1.bk.cell (j := 2) rfl).trans (slice_eq rfl HNC.out); have z3 := (HVc.out.2.1.bk.cell (j := 3) rfl).trans (slice_eq rfl HNF.out); have r0 := (show wc.cell? ⟨b, o + k * 9, none⟩ = some (.int .i64 x.c.kind) from HR.out _ HIc.out.bl 0 _ rfl); have r1 := HR.out _ HIc.out.bl 1 _ rfl; have r2 := HR.out _ HIc.out.bl 2 _ rfl; have r5 := HR.out _ HIc.out.bl 5 _ rfl)
              | ((with_reducible show wpList _ _ _ ({ dst := some 146, op := Op.lookup _ _ _ _, type := _, pos := _, after := _, guard := _ } :: _) _ _); go_loud (refine wp_lookup (HMD.out.2.2.2.1.lookup num_law Try.underlying72 int_zero (num_key HX.out.2.1.job) HNJ.out) rfl _ _ rfl rfl rfl ?_))
              | ((with_reducible show wpList _ _ _ ({ dst := none, op := Op.mapUpdate _ _ _ _, type := _, pos := _, after := _, guard := _ } :: _) _ _); obtain ⟨wm, hrun, hkm, hgm⟩ := HMD.out.2.2.2.1.update num_law Try.underlying72 (num_key HX.out.2.1.job) HNJ.out; go_loud (refine wp_update hrun rfl _ _ _ rfl rfl rfl rfl ?_); have HRR := Lib.hid (HMD.out.2.1.own hgm HMD.out.2.2.2.2.2); have HKA := Lib.hid (HMD.out.2.2.1.grown hgm (by simp)); have HKL := Lib.hid hkm; have HKB := Lib.hid (show MapK wm 22 (m1 + 1) ((J ++ [x.c.job]).map numV) by rw [List.map_append]; exact hkm); have r5' := HR.out _ HRR.out.bl 5 _ rfl; clear hrun hkm hgm)
              | ((with_reducible show wpList _ _ _ ({ dst := some 154, op := Op.lookup _ _ _ _, type := _, pos := _, after := _, guard := _ } :: _) _ _); go_loud (refine wp_lookup (HKL.out.last num_law Try.underlying72 (num_key HX.out.2.1.job)) rfl _ _ rfl rfl rfl ?_))
              )
            clear hXe hXd hk3
            try clear hn0
            try clear dn
            try clear dn'
            go_loopw [11] (fun vj wr => ∃ (j : Nat), vj = .int .i64 j ∧ j ≤ n ∧ Hid (OR w wr g wa.heap.size w5.heap.size s s' xs xs' X A a D d) ∧ Hid (MapK wr 73 m1 (B.map pairV)) ∧ Hid (MapK wr 22 (m1 + 1) ((J ++ [x.c.job]).map numV))) (fun vj _ => n - (intOf vj).toNat)
            case atStart => exact ⟨0, rfl, Nat.zero_le _, HRR, HKA, HKB⟩
            case round =>
              clear HRR HKA HKB
              obtain ⟨j, rfl, hj, HRR, HKA, HKB⟩ := hrel
              rename World => wv
              by_cases hjn : j < n
              · have j1 : decide ((j : Int) < (n : Int)) = true := decide_eq_true (by omega)
                have j2 : (0 : Int) ≤ (j : Int) := by omega
                have j3 : (j : Int) < (n : Int) := by omega
                have hjl : j < X.cells.length := by rw [HNC.out]; exact hjn
                have hw3 : IntKind.i64.wrap ((j : Int) + 1) = ((j + 1 : Nat) : Int) := by rw [IntWalk.i64_in _ (by omega)]; omega
                obtain ⟨bq, oq, hA, hcq⟩ := HRR.out.seq hjl
                have hsq := (HSP.out.cells (fun e => by have h := HNC.out; rw [show X.cells = [] from e] at h; simp at h; omega)).2.2.2.2 _ (List.getElem_mem hjl)
                rw [hsq] at hcq
                have y2 := (HRR.out.ev.bk.cell (j := 2) rfl).trans (slice_eq hA HNC.out)
                have y0 := (HRR.out.av.bk.cell (j := 0) rfl).trans (congrArg (fun (n : Nat) => some (Value.int .u64 (n : Int))) HSP.out.ix)
                clear hA hsq hjl
                go_wp2
                go_quiet (fail)
                go_wp2
                exact ⟨⟨j + 1, by first | rfl | go_num, by omega, Lib.hid (HRR.out.below (below_drewN _ _)), Lib.hid (HKA.out.below (below_drewN _ _)), Lib.hid (HKB.out.below (below_drewN _ _))⟩, by simp [intOf]; omega⟩
              · have j1 : decide ((j : Int) < (n : Int)) = false := decide_eq_false (by omega)
                have y2 := (HRR.out.ev.bk.cell (j := 2) rfl).trans (slice_eq rfl HNC.out)
                go_wp2_with (first
                  | ((with_reducible show wpList _ _ _ ({ dst := some 172, op := Op.load _ _, type := _, pos := _, after := _, guard := _ } :: _) _ _); go_loud (refine wpList_load_mid rfl 47 (.tmp 9) rfl wa.heap.size 0 rfl (s'.vs xs') _ HRR.out.av.bk.range Try.underlying47 rfl (by kernel_rfl) ?_))
                  | ((with_reducible show wpList _ _ _ ({ dst := none, op := Op.store _ (Operand.tmp 3) _, type := _, pos := _, after := _, guard := _ } :: _) _ _); go_loud (refine wpList_store_mid rfl 47 (.tmp 3) (.tmp 172) rfl g 0 (s'.vs xs').toArray rfl rfl (HRR.out.sv.bk.there 5 (Nat.le_refl _)) (by kernel_rfl) (by simp [Value.oneCell', Sta.vs]) ?_); refine HRR.out.sv.bk.setW (s'.vs xs') rfl ?_; intro wk HTk HGk))
                have hfin := HRR.out.next HST.out HNX.out HOK'.out HMD.out.1.1 HMD.out.1.2.1 HMD.out.1.2.2 HKA.out HKB.out HGk.out HTk.out
                exact ⟨⟨k + 1, s', xs', B, (J ++ [x.c.job]), by first | rfl | go_num, by omega, Lib.hid hfin⟩, by simp [intOf]; omega⟩
        · have hn1 : 0 < n := by
            rcases Nat.eq_zero_or_pos n with h | h
            · exact absurd (List.length_eq_zero_iff.1 (HNC.out.trans h)) hc0
            · exact h
          have dn : decide ((0 : Int) < (n : Int)) = true := decide_eq_true (by omega)
          have dn' : decide (0 < n) = true := decide_eq_true hn1
          have hf0 : X.files = [] := HEF.out.one.resolve_left hc0
          have hf0' : f = 0 := by rw [← HNF.out, hf0]; rfl
          have df : decide ((0 : Int) < (f : Int)) = false := decide_eq_false (by omega)
          have df' : decide (0 < f) = false := decide_eq_false (by omega)
          obtain ⟨hXe, hXd, hk1, hj0, _⟩ := HSP.out.cells hc0
          simp only at hXe hXd
          have HNX := Lib.hid (show OInv s' (B ++ [(x.c.client, x.c.num)]) J by have := HSP.out.inv; unfold addB addJ at this; simp only [hc0, hf0, if_true, if_false] at this; exact this)
          have HNJ := Lib.hid (pair_not hj0)
          obtain ⟨kl, hkl'⟩ := pair_key HX.out.2.1.client HX.out.2.1.num
          have HKL := Lib.hid hkl'
          clear hc0 hf0 hf0' hj0 hkl'
          go_wp2_with (first
            | ((with_reducible show wpList _ _ _ ({ dst := some 32, op := Op.load _ _, type := _, pos := _, after := _, guard := _ } :: _) _ _); go_loud (refine wpList_load_mid rfl 27 (.tmp 31) rfl b (o + k * 9) rfl (x.c.vs x.A x.k x.D x.m) _ (HR.out _ HI.out.bl) Try.underlying27 rfl (by kernel_rfl) ?_))
            | (go_at_call 10; go_loud (refine (bounded_any x.c x.A x.k x.D x.m _ (ca_in HX.out HI.out.bl)).mono ?_); rw [hbd]; rintro e w4 ⟨rfl, hb4⟩; have HI4 := Lib.hid (HI.out.below hb4); clear hb4)
            | ((with_reducible show wpList _ _ _ ({ dst := some 40, op := Op.load _ _, type := _, pos := _, after := _, guard := _ } :: _) _ _); go_loud (refine wpList_load_mid rfl 27 (.tmp 39) rfl b (o + k * 9) rfl (x.c.vs x.A x.k x.D x.m) _ (HR.out _ HI4.out.bl) Try.underlying27 rfl (by kernel_rfl) ?_))
            | (go_at_call 12; go_loud (refine (encode_any x.c x.A x.k x.D x.m _ (ca_in HX.out HI4.out.bl)).mono ?_); rw [HT.out]; rintro e w5 ⟨rfl, hb5⟩; have HI5 := Lib.hid (HI4.out.below hb5); clear hb5)
            | ((with_reducible show wpList _ _ _ ({ dst := some 45, op := Op.load _ _, type := _, pos := _, after := _, guard := _ } :: _) _ _); go_loud (refine wpList_load_mid rfl 47 (.tmp 3) rfl g 0 rfl (s.vs xs) _ HI5.out.sv.bk.range Try.underlying47 rfl (by kernel_rfl) ?_))
            | (go_at_call 18; go_loud (refine (HAP.out _ HI5.out.sv.sin HI5.out.sv.inw).mono ?_); rintro e wa ⟨xs', A, a, D, d, rfl, hsi, hfr, hef, hb, hsep, hD⟩; have HPa := Lib.hid (And.intro hsi (And.intro hfr (And.intro hef hb))); have HDa := Lib.hid hD; have HBa := Lib.hid hb.size; clear hsi hfr hef hb hsep hD)
            | ((with_reducible show wpList _ _ _ ({ dst := none, op := Op.store _ (Operand.tmp 9) _, type := _, pos := _, after := _, guard := _ } :: _) _ _); go_loud (refine wpList_store_mid rfl 47 (.tmp 9) (.tmp 48) rfl wa.heap.size 0 (s'.vs xs').toArray rfl rfl ((two_blocks wa 47 53 staz effz).1.there 5 (Nat.le_refl _)) (by kernel_rfl) (by simp [Value.oneCell', Sta.vs]) ?_); refine (two_blocks wa 47 53 staz effz).1.setW (s'.vs xs') rfl ?_; intro wb HTb HGb; have HEb := Lib.hid ((two_blocks wa 47 53 staz effz).2.1.grown HGb.out (fun e => by injection e; omega)); have HLb := Lib.hid (below_grown (two_blocks wa 47 53 staz effz).2.2 (by rw [World.size_alloc, World.size_alloc]; omega) HGb.out (Nat.le_refl _)); clear HGb)
            | ((with_reducible show wpList _ _ _ ({ dst := none, op := Op.store _ (Operand.tmp 10) _, type := _, pos := _, after := _, guard := _ } :: _) _ _); go_loud (refine wpList_store_mid rfl 53 (.tmp 10) (.tmp 49) rfl (wa.heap.size + 1) 0 (X.vs A a D d).toArray rfl rfl (HEb.out.there 4 (Nat.le_refl _)) (by kernel_rfl) (by simp [Value.oneCell', Eff.vs]) ?_); refine HEb.out.setW (X.vs A a D d) rfl ?_; intro wc HEc HGc; have HTc := Lib.hid (HTb.out.grown HGc.out (fun e => by injection e; omega)); have HLc := Lib.hid (below_grown HLb.out HLb.out.size HGc.out (by omega)); go_loud (have HVc := Lib.hid (apply_boxes HI5.out.sv.inw HPa.out.1 HPa.out.2.1 HPa.out.2.2.1 HPa.out.2.2.2 HTc.out HEc.out HLc.out)); have HFc := Lib.hid HPa.out.2.1; clear HTb HEb HLb HGc HTc HEc HLc HPa ; have HIc := Lib.hid (HI5.out.below HVc.out.2.2); go_loud (have HMD := Lib.hid (once_mid HI5.out HFc.out HVc.out HDa.out HBa.out HST.out)); have p0 := HIc.out.sv.bk.cell (j := 0) rfl; have q0 := (HVc.out.1.bk.cell (j := 0) rfl).trans (congrArg (fun (n : Nat) => some (Value.int .u64 (n : Int))) HSP.out.ix); have z0 := HVc.out.2.1.bk.cell (j := 0) rfl; have z1 := HVc.out.2.1.bk.cell (j := 1) rfl; have z2 := (HVc.out.2.1.bk.cell (j := 2) rfl).trans (slice_eq rfl HNC.out); have z3 := (HVc.out.2.1.bk.cell (j := 3) rfl).trans (slice_eq rfl HNF.out); have r0 := (show wc.cell? ⟨b, o + k * 9, none⟩ = some (.int .i64 x.c.kind) from HR.out _ HIc.out.bl 0 _ rfl); have r1 := HR.out _ HIc.out.bl 1 _ rfl; have r2 := HR.out _ HIc.out.bl 2 _ rfl; have r5 := HR.out _ HIc.out.bl 5 _ rfl)
            )
          clear hXe hXd hk1 p0 q0 z0 z1 z2 z3 r0 r1 r2 r5
          have hcell : ∀ W, Below w.heap.size w W → W.cell? ⟨b, o + k * 9 + 1, none⟩ = some (.int .u64 x.c.client) ∧ W.cell? ⟨b, o + k * 9 + 2, none⟩ = some (.int .u64 x.c.num) := fun W h => ⟨HR.out _ h 1 _ rfl, HR.out _ h 2 _ rfl⟩
          have HRR := Lib.hid (HMD.out.2.1.below ((Below.refl _ wc).drew))
          have HKA := Lib.hid (HMD.out.2.2.1.below ((Below.refl _ wc).drew))
          have HKB := Lib.hid (HMD.out.2.2.2.1.below ((Below.refl _ wc).drew))
          have HC := hcell _ HRR.out.bl
          refine region_wz (fun W => W.cell? ⟨b, o + k * 9 + 1, none⟩ = some (.int .u64 x.c.client) ∧ W.cell? ⟨b, o + k * 9 + 2, none⟩ = some (.int .u64 x.c.num)) none (by kernel_rfl) ?_
          apply WZ.take (i := 0) (some 106) rfl rfl (by kernel_rfl) (by kernel_rfl) (by kernel_rfl) (calm_panic _) (by kernel_rfl)
          case hy => (refine .inl ⟨by kernel_rfl, fun W hC => ?_⟩; (try dsimp only at hC); go_simp; rfl)
          case hC => exact HC
          case ha => (simp only [Act.put, List.setIfInBounds_toArray, List.set_cons_zero, List.set_cons_succ]; rfl)
          apply WZ.take (i := 1) (some 107) rfl rfl (by kernel_rfl) (by kernel_rfl) (by kernel_rfl) (calm_panic _) (by kernel_rfl)
          case hy => (refine .inl ⟨by kernel_rfl, fun W hC => ?_⟩; (try dsimp only at hC); go_simp; rfl)
          case hC => exact HC
          case ha => (simp only [Act.put, List.setIfInBounds_toArray, List.set_cons_zero, List.set_cons_succ]; rfl)
          apply WZ.take (i := 2) (some 108) rfl rfl (by kernel_rfl) (by kernel_rfl) (by kernel_rfl) (calm_panic _) (by kernel_rfl)
          case hy => (refine .inl ⟨by kernel_rfl, fun W hC => ?_⟩; (try dsimp only at hC); go_simp; rfl)
          case hC => exact HC
          case ha => (simp only [Act.put, List.setIfInBounds_toArray, List.set_cons_zero, List.set_cons_succ]; rfl)
          apply WZ.take (i := 3) (some 109) rfl rfl (by kernel_rfl) (by kernel_rfl) (by kernel_rfl) (calm_panic _) (by kernel_rfl)
          case hy => (refine .inl ⟨by kernel_rfl, fun W hC => ?_⟩; (try dsimp only at hC); go_simp; rfl)
          case hC => exact HC
          case ha => (simp only [Act.put, List.setIfInBounds_toArray, List.set_cons_zero, List.set_cons_succ]; rfl)
          apply WZ.take (i := 4) (some 110) rfl rfl (by kernel_rfl) (by kernel_rfl) (by kernel_rfl) (calm_panic _) (by kernel_rfl)
          case hy => (refine .inl ⟨by kernel_rfl, fun W hC => ?_⟩; (try dsimp only at hC); go_simp; rfl)
          case hC => exact HC
          case ha => (simp only [Act.put, List.setIfInBounds_toArray, List.set_cons_zero, List.set_cons_succ]; rfl)
          apply WZ.take (i := 5) (some 111) rfl rfl (by kernel_rfl) (by kernel_rfl) (by kernel_rfl) (calm_panic _) (by kernel_rfl)
          case hy => (refine .inl ⟨by kernel_rfl, fun W hC => ?_⟩; (try dsimp only at hC); go_simp; rfl)
          case hC => exact HC
          case ha => (simp only [Act.put, List.setIfInBounds_toArray, List.set_cons_zero, List.set_cons_succ]; rfl)
          apply WZ.take (i := 6) (some 112) rfl rfl (by kernel_rfl) (by kernel_rfl) (by kernel_rfl) (calm_panic _) (by kernel_rfl)
          case hy => (refine .inl ⟨by kernel_rfl, fun W hC => ?_⟩; (try dsimp only at hC); go_simp; rfl)
          case hC => exact HC
          case ha => (simp only [Act.put, List.setIfInBounds_toArray, List.set_cons_zero, List.set_cons_succ]; rfl)
          apply WZ.take (i := 7) (some 113) rfl rfl (by kernel_rfl) (by kernel_rfl) (by kernel_rfl) (calm_panic _) (by kernel_rfl)
          case hy => (refine .inl ⟨by kernel_rfl, fun W hC => ?_⟩; (try dsimp only at hC); go_simp; rfl)
          case hC => exact HC
          case ha => (simp only [Act.put, List.setIfInBounds_toArray, List.set_cons_zero, List.set_cons_succ]; rfl)
          apply WZ.take (i := 8) (some 114) rfl rfl (by kernel_rfl) (by kernel_rfl) (by kernel_rfl) (calm_panic _) (by kernel_rfl)
          case hy => (refine .inl ⟨by kernel_rfl, fun W hC => ?_⟩; (try dsimp only at hC); go_simp; rfl)
          case hC => exact HC
          case ha => (simp only [Act.put, List.setIfInBounds_toArray, List.set_cons_zero, List.set_cons_succ]; rfl)
          apply WZ.take (i := 9) (some 115) rfl rfl (by kernel_rfl) (by kernel_rfl) (by kernel_rfl) (calm_panic _) (by kernel_rfl)
          case hy => (refine .inl ⟨by kernel_rfl, fun W hC => ?_⟩; (try dsimp only at hC); go_simp; rfl)
          case hC => exact HC
          case ha => (simp only [Act.put, List.setIfInBounds_toArray, List.set_cons_zero, List.set_cons_succ]; rfl)
          apply WZ.take (i := 10) (some 116) rfl rfl (by kernel_rfl) (by kernel_rfl) (by kernel_rfl) (calm_panic _) (by kernel_rfl)
          case hy => (refine .inl ⟨by kernel_rfl, fun W hC => ?_⟩; (try dsimp only at hC); go_simp; rfl)
          case hC => exact HC
          case ha => (simp only [Act.put, List.setIfInBounds_toArray, List.set_cons_zero, List.set_cons_succ]; rfl)
          apply WZ.take (i := 11) (some 117) rfl rfl (by kernel_rfl) (by kernel_rfl) (by kernel_rfl) (calm_panic _) (by kernel_rfl)
          case hy => (refine .inl ⟨by kernel_rfl, fun W hC => ?_⟩; (try dsimp only at hC); go_simp; rfl)
          case hC => exact HC
          case ha => (simp only [Act.put, List.setIfInBounds_toArray, List.set_cons_zero, List.set_cons_succ]; rfl)
          refine WZ.two (i := 12) (j := 14) rfl rfl (by kernel_rfl) ?_ ?_
          · conv => arg 4; arg 1; whnf
            go_wp2_with ((with_reducible show wpList _ _ _ ({ dst := some 118, op := Op.lookup _ _ _ _, type := _, pos := _, after := _, guard := _ } :: _) _ _); first | (refine wp_lookup (HKA.out.lookup pair_law Try.underlying71 int_zero HKL.out HNJ.out) rfl _ _ rfl rfl rfl ?_) | (refine wp_lookup (HKE.out.lookup pair_law Try.underlying71 HKL.out HNJ.out) rfl _ _ rfl rfl rfl ?_))
            refine ⟨HC, ?_⟩
            apply WZ.take (i := 13) (some 119) rfl rfl (by kernel_rfl) (by kernel_rfl) (by kernel_rfl) (calm_panic _) (by kernel_rfl)
            case hy => (refine .inl ⟨by kernel_rfl, fun W hC => ?_⟩; (try dsimp only at hC); go_simp; rfl)
            case hC => exact HC
            case ha => (simp only [Act.put, List.setIfInBounds_toArray, List.set_cons_zero, List.set_cons_succ]; rfl)
            -- 14
            refine WZ.one (i := 14) rfl (by kernel_rfl) ?_
            conv => arg 4; arg 1; whnf
            go_wp2_with ((with_reducible show wpList _ _ _ ({ dst := some 120, op := Op.mapEntry _ _ _, type := _, pos := _, after := _, guard := _ } :: _) _ _); obtain ⟨wm, ck, hrun, hkm, hgm⟩ := HKA.out.entry pair_law Try.underlying71 int_zero HKL.out HNJ.out; go_loud (refine wp_entry hrun rfl _ _ rfl rfl rfl ?_); have HR0 := HRR; clear HRR; have HRR := Lib.hid (HR0.out.own hgm HMD.out.2.2.2.2.1); have HKB0 := HKB; clear HKB; have HKB := Lib.hid (HKB0.out.grown hgm (by simp)); have HKE := Lib.hid hkm; clear hrun hkm hgm HKA HR0 HKB0)
            clear HC
            have HC := hcell _ HRR.out.bl
            refine ⟨HC, ?_⟩
            apply WZ.take (i := 15) (some 121) rfl rfl (by kernel_rfl) (by kernel_rfl) (by kernel_rfl) (calm_panic _) (by kernel_rfl)
            case hy => (refine .inl ⟨by kernel_rfl, fun W hC => ?_⟩; (try dsimp only at hC); go_simp; rfl)
            case hC => exact HC
            case ha => (simp only [Act.put, List.setIfInBounds_toArray, List.set_cons_zero, List.set_cons_succ]; rfl)
            -- 16
            refine WZ.one (i := 16) rfl (by kernel_rfl) ?_
            conv => arg 4; arg 1; whnf
            go_wp2_with ((with_reducible show wpList _ _ _ ({ dst := none, op := Op.entryStore _ _ _ _, type := _, pos := _, after := _, guard := _ } :: _) _ _); obtain ⟨wn, hrun, hkm, hgm⟩ := HKE.out.store (mt := 71) HKL.out; go_loud (refine wp_store hrun rfl _ _ _ rfl rfl rfl rfl ?_); have HR0 := HRR; clear HRR; have HRR := Lib.hid (HR0.out.own hgm HMD.out.2.2.2.2.1); have HKB0 := HKB; clear HKB; have HKB := Lib.hid (HKB0.out.grown hgm (by simp)); have HKL2 := Lib.hid hkm; clear hrun hkm hgm HKE HR0 HKB0)
            clear HC
            have HC := hcell _ HRR.out.bl
            refine ⟨HC, ?_⟩
            refine WZ.done (by kernel_rfl) ?_ _
            simp only [Calm, Exit.then]
            go_wp2
            have HR0 := HRR
            have HKB0 := HKB
            have HKL3 := HKL2
            clear HRR HKB HKL2 HC
            have HRR := Lib.hid (HR0.out.below ((Below.refl _ _).drew))
            have HKB := Lib.hid (HKB0.out.below ((Below.refl _ _).drew))
            have HKL2 := Lib.hid (HKL3.out.below ((Below.refl _ _).drew))
            clear HR0 HKB0 HKL3
            have HC := hcell _ HRR.out.bl
            refine region_wz (fun W => W.cell? ⟨b, o + k * 9 + 1, none⟩ = some (.int .u64 x.c.client) ∧ W.cell? ⟨b, o + k * 9 + 2, none⟩ = some (.int .u64 x.c.num)) none (by kernel_rfl) ?_
            apply WZ.take (i := 0) (some 122) rfl rfl (by kernel_rfl) (by kernel_rfl) (by kernel_rfl) (calm_panic _) (by kernel_rfl)
            case hy => (refine .inl ⟨by kernel_rfl, fun W hC => ?_⟩; (try dsimp only at hC); go_simp; rfl)
            case hC => exact HC
            case ha => (simp only [Act.put, List.setIfInBounds_toArray, List.set_cons_zero, List.set_cons_succ]; rfl)
            apply WZ.take (i := 1) (some 123) rfl rfl (by kernel_rfl) (by kernel_rfl) (by kernel_rfl) (calm_panic _) (by kernel_rfl)
            case hy => (refine .inl ⟨by kernel_rfl, fun W hC => ?_⟩; (try dsimp only at hC); go_simp; rfl)
            case hC => exact HC
            case ha => (simp only [Act.put, List.setIfInBounds_toArray, List.set_cons_zero, List.set_cons_succ]; rfl)
            apply WZ.take (i := 2) (some 124) rfl rfl (by kernel_rfl) (by kernel_rfl) (by kernel_rfl) (calm_panic _) (by kernel_rfl)
            case hy => (refine .inl ⟨by kernel_rfl, fun W hC => ?_⟩; (try dsimp only at hC); go_simp; rfl)
            case hC => exact HC
            case ha => (simp only [Act.put, List.setIfInBounds_toArray, List.set_cons_zero, List.set_cons_succ]; rfl)
            apply WZ.take (i := 3) (some 125) rfl rfl (by kernel_rfl) (by kernel_rfl) (by kernel_rfl) (calm_panic _) (by kernel_rfl)
            case hy => (refine .inl ⟨by kernel_rfl, fun W hC => ?_⟩; (try dsimp only at hC); go_simp; rfl)
            case hC => exact HC
            case ha => (simp only [Act.put, List.setIfInBounds_toArray, List.set_cons_zero, List.set_cons_succ]; rfl)
            apply WZ.take (i := 4) (some 126) rfl rfl (by kernel_rfl) (by kernel_rfl) (by kernel_rfl) (calm_panic _) (by kernel_rfl)
            case hy => (refine .inl ⟨by kernel_rfl, fun W hC => ?_⟩; (try dsimp only at hC); go_simp; rfl)
            case hC => exact HC
            case ha => (simp only [Act.put, List.setIfInBounds_toArray, List.set_cons_zero, List.set_cons_succ]; rfl)
            apply WZ.take (i := 5) (some 127) rfl rfl (by kernel_rfl) (by kernel_rfl) (by kernel_rfl) (calm_panic _) (by kernel_rfl)
            case hy => (refine .inl ⟨by kernel_rfl, fun W hC => ?_⟩; (try dsimp only at hC); go_simp; rfl)
            case hC => exact HC
            case ha => (simp only [Act.put, List.setIfInBounds_toArray, List.set_cons_zero, List.set_cons_succ]; rfl)
            apply WZ.take (i := 6) (some 128) rfl rfl (by kernel_rfl) (by kernel_rfl) (by kernel_rfl) (calm_panic _) (by kernel_rfl)
            case hy => (refine .inl ⟨by kernel_rfl, fun W hC => ?_⟩; (try dsimp only at hC); go_simp; rfl)
            case hC => exact HC
            case ha => (simp only [Act.put, List.setIfInBounds_toArray, List.set_cons_zero, List.set_cons_succ]; rfl)
            apply WZ.take (i := 7) (some 129) rfl rfl (by kernel_rfl) (by kernel_rfl) (by kernel_rfl) (calm_panic _) (by kernel_rfl)
            case hy => (refine .inl ⟨by kernel_rfl, fun W hC => ?_⟩; (try dsimp only at hC); go_simp; rfl)
            case hC => exact HC
            case ha => (simp only [Act.put, List.setIfInBounds_toArray, List.set_cons_zero, List.set_cons_succ]; rfl)
            apply WZ.take (i := 8) (some 130) rfl rfl (by kernel_rfl) (by kernel_rfl) (by kernel_rfl) (calm_panic _) (by kernel_rfl)
            case hy => (refine .inl ⟨by kernel_rfl, fun W hC => ?_⟩; (try dsimp only at hC); go_simp; rfl)
            case hC => exact HC
            case ha => (simp only [Act.put, List.setIfInBounds_toArray, List.set_cons_zero, List.set_cons_succ]; rfl)
            apply WZ.take (i := 9) (some 131) rfl rfl (by kernel_rfl) (by kernel_rfl) (by kernel_rfl) (calm_panic _) (by kernel_rfl)
            case hy => (refine .inl ⟨by kernel_rfl, fun W hC => ?_⟩; (try dsimp only at hC); go_simp; rfl)
            case hC => exact HC
            case ha => (simp only [Act.put, List.setIfInBounds_toArray, List.set_cons_zero, List.set_cons_succ]; rfl)
            apply WZ.take (i := 10) (some 132) rfl rfl (by kernel_rfl) (by kernel_rfl) (by kernel_rfl) (calm_panic _) (by kernel_rfl)
            case hy => (refine .inl ⟨by kernel_rfl, fun W hC => ?_⟩; (try dsimp only at hC); go_simp; rfl)
            case hC => exact HC
            case ha => (simp only [Act.put, List.setIfInBounds_toArray, List.set_cons_zero, List.set_cons_succ]; rfl)
            apply WZ.take (i := 11) (some 133) rfl rfl (by kernel_rfl) (by kernel_rfl) (by kernel_rfl) (calm_panic _) (by kernel_rfl)
            case hy => (refine .inl ⟨by kernel_rfl, fun W hC => ?_⟩; (try dsimp only at hC); go_simp; rfl)
            case hC => exact HC
            case ha => (simp only [Act.put, List.setIfInBounds_toArray, List.set_cons_zero, List.set_cons_succ]; rfl)
            -- 12
            refine WZ.one (i := 12) rfl (by kernel_rfl) ?_
            conv => arg 4; arg 1; whnf
            go_wp2_with ((with_reducible show wpList _ _ _ ({ dst := some 134, op := Op.lookup _ _ _ _, type := _, pos := _, after := _, guard := _ } :: _) _ _); go_loud (refine wp_lookup (HKL2.out.last pair_law Try.underlying71 HKL.out) rfl _ _ rfl rfl rfl ?_))
            refine ⟨HC, ?_⟩
            apply WZ.take (i := 13) (some 135) rfl rfl (by kernel_rfl) (by kernel_rfl) (by kernel_rfl) (calm_panic _) (by kernel_rfl)
            case hy => (refine .inl ⟨by kernel_rfl, fun W hC => ?_⟩; (try dsimp only at hC); go_simp; rfl)
            case hC => exact HC
            case ha => (simp only [Act.put, List.setIfInBounds_toArray, List.set_cons_zero, List.set_cons_succ]; rfl)
            refine WZ.done (by kernel_rfl) ?_ _
            simp only [Calm, Exit.then]
            have z3 := (HRR.out.ev.bk.cell (j := 3) rfl).trans (slice_eq rfl HNF.out)
            go_wp2
            have HKA := Lib.hid (show MapK _ 73 m1 ((B ++ [(x.c.client, x.c.num)]).map pairV) by rw [List.map_append]; exact HKL2.out)
            clear HC z3 HKL2
            try clear hn0
            try clear dn
            try clear dn'
            go_loopw [11] (fun vj wr => ∃ (j : Nat), vj = .int .i64 j ∧ j ≤ n ∧ Hid (OR w wr g wa.heap.size w5.heap.size s s' xs xs' X A a D d) ∧ Hid (MapK wr 73 m1 ((B ++ [(x.c.client, x.c.num)]).map pairV)) ∧ Hid (MapK wr 22 (m1 + 1) (J.map numV))) (fun vj _ => n - (intOf vj).toNat)
            case atStart => exact ⟨0, rfl, Nat.zero_le _, HRR, HKA, HKB⟩
            case round =>
              clear HRR HKA HKB
              obtain ⟨j, rfl, hj, HRR, HKA, HKB⟩ := hrel
              rename World => wv
              by_cases hjn : j < n
              · have j1 : decide ((j : Int) < (n : Int)) = true := decide_eq_true (by omega)
                have j2 : (0 : Int) ≤ (j : Int) := by omega
                have j3 : (j : Int) < (n : Int) := by omega
                have hjl : j < X.cells.length := by rw [HNC.out]; exact hjn
                have hw3 : IntKind.i64.wrap ((j : Int) + 1) = ((j + 1 : Nat) : Int) := by rw [IntWalk.i64_in _ (by omega)]; omega
                obtain ⟨bq, oq, hA, hcq⟩ := HRR.out.seq hjl
                have hsq := (HSP.out.cells (fun e => by have h := HNC.out; rw [show X.cells = [] from e] at h; simp at h; omega)).2.2.2.2 _ (List.getElem_mem hjl)
                rw [hsq] at hcq
                have y2 := (HRR.out.ev.bk.cell (j := 2) rfl).trans (slice_eq hA HNC.out)
                have y0 := (HRR.out.av.bk.cell (j := 0) rfl).trans (congrArg (fun (n : Nat) => some (Value.int .u64 (n : Int))) HSP.out.ix)
                clear hA hsq hjl
                go_wp2
                go_quiet (fail)
                go_wp2
                exact ⟨⟨j + 1, by first | rfl | go_num, by omega, Lib.hid (HRR.out.below (below_drewN _ _)), Lib.hid (HKA.out.below (below_drewN _ _)), Lib.hid (HKB.out.below (below_drewN _ _))⟩, by simp [intOf]; omega⟩
              · have j1 : decide ((j : Int) < (n : Int)) = false := decide_eq_false (by omega)
                have y2 := (HRR.out.ev.bk.cell (j := 2) rfl).trans (slice_eq rfl HNC.out)
                go_wp2_with (first
                  | ((with_reducible show wpList _ _ _ ({ dst := some 172, op := Op.load _ _, type := _, pos := _, after := _, guard := _ } :: _) _ _); go_loud (refine wpList_load_mid rfl 47 (.tmp 9) rfl wa.heap.size 0 rfl (s'.vs xs') _ HRR.out.av.bk.range Try.underlying47 rfl (by kernel_rfl) ?_))
                  | ((with_reducible show wpList _ _ _ ({ dst := none, op := Op.store _ (Operand.tmp 3) _, type := _, pos := _, after := _, guard := _ } :: _) _ _); go_loud (refine wpList_store_mid rfl 47 (.tmp 3) (.tmp 172) rfl g 0 (s'.vs xs').toArray rfl rfl (HRR.out.sv.bk.there 5 (Nat.le_refl _)) (by kernel_rfl) (by simp [Value.oneCell', Sta.vs]) ?_); refine HRR.out.sv.bk.setW (s'.vs xs') rfl ?_; intro wk HTk HGk))
                have hfin := HRR.out.next HST.out HNX.out HOK'.out HMD.out.1.1 HMD.out.1.2.1 HMD.out.1.2.2 HKA.out HKB.out HGk.out HTk.out
                exact ⟨⟨k + 1, s', xs', (B ++ [(x.c.client, x.c.num)]), J, by first | rfl | go_num, by omega, Lib.hid hfin⟩, by simp [intOf]; omega⟩
          · conv => arg 4; arg 1; whnf
            go_wp2_with ((with_reducible show wpList _ _ _ ({ dst := some 120, op := Op.mapEntry _ _ _, type := _, pos := _, after := _, guard := _ } :: _) _ _); obtain ⟨wm, ck, hrun, hkm, hgm⟩ := HKA.out.entry pair_law Try.underlying71 int_zero HKL.out HNJ.out; go_loud (refine wp_entry hrun rfl _ _ rfl rfl rfl ?_); have HR0 := HRR; clear HRR; have HRR := Lib.hid (HR0.out.own hgm HMD.out.2.2.2.2.1); have HKB0 := HKB; clear HKB; have HKB := Lib.hid (HKB0.out.grown hgm (by simp)); have HKE := Lib.hid hkm; clear hrun hkm hgm HKA HR0 HKB0)
            clear HC
            have HC := hcell _ HRR.out.bl
            refine ⟨HC, ?_⟩
            apply WZ.take (i := 15) (some 121) rfl rfl (by kernel_rfl) (by kernel_rfl) (by kernel_rfl) (calm_panic _) (by kernel_rfl)
            case hy => (refine .inl ⟨by kernel_rfl, fun W hC => ?_⟩; (try dsimp only at hC); go_simp; rfl)
            case hC => exact HC
            case ha => (simp only [Act.put, List.setIfInBounds_toArray, List.set_cons_zero, List.set_cons_succ]; rfl)
            -- 12
            refine WZ.one (i := 12) rfl (by kernel_rfl) ?_
            conv => arg 4; arg 1; whnf
            go_wp2_with ((with_reducible show wpList _ _ _ ({ dst := some 118, op := Op.lookup _ _ _ _, type := _, pos := _, after := _, guard := _ } :: _) _ _); first | (refine wp_lookup (HKA.out.lookup pair_law Try.underlying71 int_zero HKL.out HNJ.out) rfl _ _ rfl rfl rfl ?_) | (refine wp_lookup (HKE.out.lookup pair_law Try.underlying71 HKL.out HNJ.out) rfl _ _ rfl rfl rfl ?_))
            refine ⟨HC, ?_⟩
            apply WZ.take (i := 13) (some 119) rfl rfl (by kernel_rfl) (by kernel_rfl) (by kernel_rfl) (calm_panic _) (by kernel_rfl)
            case hy => (refine .inl ⟨by kernel_rfl, fun W hC => ?_⟩; (try dsimp only at hC); go_simp; rfl)
            case hC => exact HC
            case ha => (simp only [Act.put, List.setIfInBounds_toArray, List.set_cons_zero, List.set_cons_succ]; rfl)
            -- 16
            refine WZ.one (i := 16) rfl (by kernel_rfl) ?_
            conv => arg 4; arg 1; whnf
            go_wp2_with ((with_reducible show wpList _ _ _ ({ dst := none, op := Op.entryStore _ _ _ _, type := _, pos := _, after := _, guard := _ } :: _) _ _); obtain ⟨wn, hrun, hkm, hgm⟩ := HKE.out.store (mt := 71) HKL.out; go_loud (refine wp_store hrun rfl _ _ _ rfl rfl rfl rfl ?_); have HR0 := HRR; clear HRR; have HRR := Lib.hid (HR0.out.own hgm HMD.out.2.2.2.2.1); have HKB0 := HKB; clear HKB; have HKB := Lib.hid (HKB0.out.grown hgm (by simp)); have HKL2 := Lib.hid hkm; clear hrun hkm hgm HKE HR0 HKB0)
            clear HC
            have HC := hcell _ HRR.out.bl
            refine ⟨HC, ?_⟩
            refine WZ.done (by kernel_rfl) ?_ _
            simp only [Calm, Exit.then]
            go_wp2
            have HR0 := HRR
            have HKB0 := HKB
            have HKL3 := HKL2
            clear HRR HKB HKL2 HC
            have HRR := Lib.hid (HR0.out.below ((Below.refl _ _).drew))
            have HKB := Lib.hid (HKB0.out.below ((Below.refl _ _).drew))
            have HKL2 := Lib.hid (HKL3.out.below ((Below.refl _ _).drew))
            clear HR0 HKB0 HKL3
            have HC := hcell _ HRR.out.bl
            refine region_wz (fun W => W.cell? ⟨b, o + k * 9 + 1, none⟩ = some (.int .u64 x.c.client) ∧ W.cell? ⟨b, o + k * 9 + 2, none⟩ = some (.int .u64 x.c.num)) none (by kernel_rfl) ?_
            apply WZ.take (i := 0) (some 122) rfl rfl (by kernel_rfl) (by kernel_rfl) (by kernel_rfl) (calm_panic _) (by kernel_rfl)
            case hy => (refine .inl ⟨by kernel_rfl, fun W hC => ?_⟩; (try dsimp only at hC); go_simp; rfl)
            case hC => exact HC
            case ha => (simp only [Act.put, List.setIfInBounds_toArray, List.set_cons_zero, List.set_cons_succ]; rfl)
            apply WZ.take (i := 1) (some 123) rfl rfl (by kernel_rfl) (by kernel_rfl) (by kernel_rfl) (calm_panic _) (by kernel_rfl)
            case hy => (refine .inl ⟨by kernel_rfl, fun W hC => ?_⟩; (try dsimp only at hC); go_simp; rfl)
            case hC => exact HC
            case ha => (simp only [Act.put, List.setIfInBounds_toArray, List.set_cons_zero, List.set_cons_succ]; rfl)
            apply WZ.take (i := 2) (some 124) rfl rfl (by kernel_rfl) (by kernel_rfl) (by kernel_rfl) (calm_panic _) (by kernel_rfl)
            case hy => (refine .inl ⟨by kernel_rfl, fun W hC => ?_⟩; (try dsimp only at hC); go_simp; rfl)
            case hC => exact HC
            case ha => (simp only [Act.put, List.setIfInBounds_toArray, List.set_cons_zero, List.set_cons_succ]; rfl)
            apply WZ.take (i := 3) (some 125) rfl rfl (by kernel_rfl) (by kernel_rfl) (by kernel_rfl) (calm_panic _) (by kernel_rfl)
            case hy => (refine .inl ⟨by kernel_rfl, fun W hC => ?_⟩; (try dsimp only at hC); go_simp; rfl)
            case hC => exact HC
            case ha => (simp only [Act.put, List.setIfInBounds_toArray, List.set_cons_zero, List.set_cons_succ]; rfl)
            apply WZ.take (i := 4) (some 126) rfl rfl (by kernel_rfl) (by kernel_rfl) (by kernel_rfl) (calm_panic _) (by kernel_rfl)
            case hy => (refine .inl ⟨by kernel_rfl, fun W hC => ?_⟩; (try dsimp only at hC); go_simp; rfl)
            case hC => exact HC
            case ha => (simp only [Act.put, List.setIfInBounds_toArray, List.set_cons_zero, List.set_cons_succ]; rfl)
            apply WZ.take (i := 5) (some 127) rfl rfl (by kernel_rfl) (by kernel_rfl) (by kernel_rfl) (calm_panic _) (by kernel_rfl)
            case hy => (refine .inl ⟨by kernel_rfl, fun W hC => ?_⟩; (try dsimp only at hC); go_simp; rfl)
            case hC => exact HC
            case ha => (simp only [Act.put, List.setIfInBounds_toArray, List.set_cons_zero, List.set_cons_succ]; rfl)
            apply WZ.take (i := 6) (some 128) rfl rfl (by kernel_rfl) (by kernel_rfl) (by kernel_rfl) (calm_panic _) (by kernel_rfl)
            case hy => (refine .inl ⟨by kernel_rfl, fun W hC => ?_⟩; (try dsimp only at hC); go_simp; rfl)
            case hC => exact HC
            case ha => (simp only [Act.put, List.setIfInBounds_toArray, List.set_cons_zero, List.set_cons_succ]; rfl)
            apply WZ.take (i := 7) (some 129) rfl rfl (by kernel_rfl) (by kernel_rfl) (by kernel_rfl) (calm_panic _) (by kernel_rfl)
            case hy => (refine .inl ⟨by kernel_rfl, fun W hC => ?_⟩; (try dsimp only at hC); go_simp; rfl)
            case hC => exact HC
            case ha => (simp only [Act.put, List.setIfInBounds_toArray, List.set_cons_zero, List.set_cons_succ]; rfl)
            apply WZ.take (i := 8) (some 130) rfl rfl (by kernel_rfl) (by kernel_rfl) (by kernel_rfl) (calm_panic _) (by kernel_rfl)
            case hy => (refine .inl ⟨by kernel_rfl, fun W hC => ?_⟩; (try dsimp only at hC); go_simp; rfl)
            case hC => exact HC
            case ha => (simp only [Act.put, List.setIfInBounds_toArray, List.set_cons_zero, List.set_cons_succ]; rfl)
            apply WZ.take (i := 9) (some 131) rfl rfl (by kernel_rfl) (by kernel_rfl) (by kernel_rfl) (calm_panic _) (by kernel_rfl)
            case hy => (refine .inl ⟨by kernel_rfl, fun W hC => ?_⟩; (try dsimp only at hC); go_simp; rfl)
            case hC => exact HC
            case ha => (simp only [Act.put, List.setIfInBounds_toArray, List.set_cons_zero, List.set_cons_succ]; rfl)
            apply WZ.take (i := 10) (some 132) rfl rfl (by kernel_rfl) (by kernel_rfl) (by kernel_rfl) (calm_panic _) (by kernel_rfl)
            case hy => (refine .inl ⟨by kernel_rfl, fun W hC => ?_⟩; (try dsimp only at hC); go_simp; rfl)
            case hC => exact HC
            case ha => (simp only [Act.put, List.setIfInBounds_toArray, List.set_cons_zero, List.set_cons_succ]; rfl)
            apply WZ.take (i := 11) (some 133) rfl rfl (by kernel_rfl) (by kernel_rfl) (by kernel_rfl) (calm_panic _) (by kernel_rfl)
            case hy => (refine .inl ⟨by kernel_rfl, fun W hC => ?_⟩; (try dsimp only at hC); go_simp; rfl)
            case hC => exact HC
            case ha => (simp only [Act.put, List.setIfInBounds_toArray, List.set_cons_zero, List.set_cons_succ]; rfl)
            -- 12
            refine WZ.one (i := 12) rfl (by kernel_rfl) ?_
            conv => arg 4; arg 1; whnf
            go_wp2_with ((with_reducible show wpList _ _ _ ({ dst := some 134, op := Op.lookup _ _ _ _, type := _, pos := _, after := _, guard := _ } :: _) _ _); go_loud (refine wp_lookup (HKL2.out.last pair_law Try.underlying71 HKL.out) rfl _ _ rfl rfl rfl ?_))
            refine ⟨HC, ?_⟩
            apply WZ.take (i := 13) (some 135) rfl rfl (by kernel_rfl) (by kernel_rfl) (by kernel_rfl) (calm_panic _) (by kernel_rfl)
            case hy => (refine .inl ⟨by kernel_rfl, fun W hC => ?_⟩; (try dsimp only at hC); go_simp; rfl)
            case hC => exact HC
            case ha => (simp only [Act.put, List.setIfInBounds_toArray, List.set_cons_zero, List.set_cons_succ]; rfl)
            refine WZ.done (by kernel_rfl) ?_ _
            simp only [Calm, Exit.then]
            have z3 := (HRR.out.ev.bk.cell (j := 3) rfl).trans (slice_eq rfl HNF.out)
            go_wp2
            have HKA := Lib.hid (show MapK _ 73 m1 ((B ++ [(x.c.client, x.c.num)]).map pairV) by rw [List.map_append]; exact HKL2.out)
            clear HC z3 HKL2
            try clear hn0
            try clear dn
            try clear dn'
            go_loopw [11] (fun vj wr => ∃ (j : Nat), vj = .int .i64 j ∧ j ≤ n ∧ Hid (OR w wr g wa.heap.size w5.heap.size s s' xs xs' X A a D d) ∧ Hid (MapK wr 73 m1 ((B ++ [(x.c.client, x.c.num)]).map pairV)) ∧ Hid (MapK wr 22 (m1 + 1) (J.map numV))) (fun vj _ => n - (intOf vj).toNat)
            case atStart => exact ⟨0, rfl, Nat.zero_le _, HRR, HKA, HKB⟩
            case round =>
              clear HRR HKA HKB
              obtain ⟨j, rfl, hj, HRR, HKA, HKB⟩ := hrel
              rename World => wv
              by_cases hjn : j < n
              · have j1 : decide ((j : Int) < (n : Int)) = true := decide_eq_true (by omega)
                have j2 : (0 : Int) ≤ (j : Int) := by omega
                have j3 : (j : Int) < (n : Int) := by omega
                have hjl : j < X.cells.length := by rw [HNC.out]; exact hjn
                have hw3 : IntKind.i64.wrap ((j : Int) + 1) = ((j + 1 : Nat) : Int) := by rw [IntWalk.i64_in _ (by omega)]; omega
                obtain ⟨bq, oq, hA, hcq⟩ := HRR.out.seq hjl
                have hsq := (HSP.out.cells (fun e => by have h := HNC.out; rw [show X.cells = [] from e] at h; simp at h; omega)).2.2.2.2 _ (List.getElem_mem hjl)
                rw [hsq] at hcq
                have y2 := (HRR.out.ev.bk.cell (j := 2) rfl).trans (slice_eq hA HNC.out)
                have y0 := (HRR.out.av.bk.cell (j := 0) rfl).trans (congrArg (fun (n : Nat) => some (Value.int .u64 (n : Int))) HSP.out.ix)
                clear hA hsq hjl
                go_wp2
                go_quiet (fail)
                go_wp2
                exact ⟨⟨j + 1, by first | rfl | go_num, by omega, Lib.hid (HRR.out.below (below_drewN _ _)), Lib.hid (HKA.out.below (below_drewN _ _)), Lib.hid (HKB.out.below (below_drewN _ _))⟩, by simp [intOf]; omega⟩
              · have j1 : decide ((j : Int) < (n : Int)) = false := decide_eq_false (by omega)
                have y2 := (HRR.out.ev.bk.cell (j := 2) rfl).trans (slice_eq rfl HNC.out)
                go_wp2_with (first
                  | ((with_reducible show wpList _ _ _ ({ dst := some 172, op := Op.load _ _, type := _, pos := _, after := _, guard := _ } :: _) _ _); go_loud (refine wpList_load_mid rfl 47 (.tmp 9) rfl wa.heap.size 0 rfl (s'.vs xs') _ HRR.out.av.bk.range Try.underlying47 rfl (by kernel_rfl) ?_))
                  | ((with_reducible show wpList _ _ _ ({ dst := none, op := Op.store _ (Operand.tmp 3) _, type := _, pos := _, after := _, guard := _ } :: _) _ _); go_loud (refine wpList_store_mid rfl 47 (.tmp 3) (.tmp 172) rfl g 0 (s'.vs xs').toArray rfl rfl (HRR.out.sv.bk.there 5 (Nat.le_refl _)) (by kernel_rfl) (by simp [Value.oneCell', Sta.vs]) ?_); refine HRR.out.sv.bk.setW (s'.vs xs') rfl ?_; intro wk HTk HGk))
                have hfin := HRR.out.next HST.out HNX.out HOK'.out HMD.out.1.1 HMD.out.1.2.1 HMD.out.1.2.2 HKA.out HKB.out HGk.out HTk.out
                exact ⟨⟨k + 1, s', xs', (B ++ [(x.c.client, x.c.num)]), J, by first | rfl | go_num, by omega, Lib.hid hfin⟩, by simp [intOf]; omega⟩
    · have d1 : decide ((k : Int) < (N : Int)) = false := decide_eq_false (by omega)
      go_wp2
      go_ret
      exact ⟨rfl, HI.out.bl⟩
end Go.Proofs.Ytiiogdgnccgehaa
