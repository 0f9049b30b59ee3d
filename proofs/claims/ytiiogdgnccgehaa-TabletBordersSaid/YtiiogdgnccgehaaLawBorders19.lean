/-
  The walk of the law TabletBorders. No conditions.
-/
import Derived.Test.YtiiogdgnccgehaaBordersPlain19
namespace Go.Proofs.Ytiiogdgnccgehaa
open Go.RowKit
attribute [local go_sem ↓] Go.wp_at_zero Go.wp_at_succ
set_option maxRecDepth 100000 in
set_option maxHeartbeats 8000000 in
theorem borders_wide (A : Option Addr) (c N : Nat) (w : World) (h : 40 < N) : Calls Try.prog 6 #[.slice A N c] w fun e w' => e = .returned (.bool true) ∧ Below w.heap.size w w' := by
  have e1 : decide ((40 : Int) < (N : Int)) = true := decide_eq_true (by omega)
  go_enter Try.func6, Try.ntmps6
  go_wp2_with (go_at_call 11; refine (shown_any _).mono ?_; rintro e w2 ⟨rfl, hb2⟩)
  go_ret
  exact ⟨rfl, hb2⟩
set_option maxRecDepth 100000 in
set_option maxHeartbeats 8000000 in
theorem borders_any (A : Option Addr) (c : Nat) (l : List ByteArray) (w : World) (hl : Rd w w.heap.size A (txs l)) (hlen : l.length ≤ 40) : Calls Try.prog 6 #[.slice A l.length c] w fun e w' => e = .returned (.bool true) ∧ Below w.heap.size w w' := by
  have e1 : decide ((40 : Int) < (l.length : Int)) = false := decide_eq_false (by omega)
  have HL := Lib.hid hl
  clear hl
  obtain ⟨N, hN⟩ : ∃ N, l.length = N := ⟨_, rfl⟩
  have HN := Lib.hid hN
  rw [hN] at hlen e1 ⊢
  clear hN
  go_enter Try.func6, Try.ntmps6
  go_wp2_with (first
    | (go_at_call 11; refine (shown_any _).mono ?_; rintro e w2 ⟨rfl, hb2⟩; have HB2 := Lib.hid hb2; clear hb2)
    | (show wpList _ _ _ ({ dst := none, op := Op.store _ (Operand.tmp 3) _, type := _, pos := _, after := _, guard := _ } :: _) _ _; go_loud (refine wpList_store_mid rfl 47 (.tmp 3) (.tmp 19) rfl w2.heap.size 0 #[.int .u64 0, .int .u64 0, .slice none 0 0, .slice none 0 0, .slice none 0 0] rfl rfl (there_madeB 47 w2 staz 5 (Nat.le_refl _)) (by kernel_rfl) (by simp [Value.oneCell']) ?_); refine Blk.madeW 47 w2 staz (emptyS.vs nowhere) rfl ?_; intro w3 HT3 HL3))
  have HS3 := Lib.hid (StV.new w2 w3 HT3 HL3)
  have HB3 := Lib.hid (HB2.out.trans (HL3.out.mono HB2.out.size))
  have hg := HB2.out.size
  obtain ⟨g, hgg⟩ : ∃ g, w2.heap.size = g := ⟨_, rfl⟩
  rw [hgg] at HS3 hg ⊢
  clear HT3 HL3 HB2 hgg
  go_loopw [4, 5] (fun nv iv wr => ∃ (k n : Nat) (s : Sta) (xs : SA), nv = .int .i64 n ∧ iv = .int .i64 k ∧ k ≤ N ∧ n ≤ k ∧ Hid (BInv s k n ∧ StV wr g s xs ∧ NotAt xs g ∧ Below w.heap.size w wr)) (fun _ iv _ => N - (intOf iv).toNat)
  case atStart => exact ⟨0, 0, emptyS, nowhere, rfl, rfl, Nat.zero_le _, Nat.le_refl _, Lib.hid ⟨BInv.zero, HS3.out, NotAt.none g, HB3.out⟩⟩
  case round =>
    obtain ⟨k, n, s, xs, rfl, rfl, hk, hn, HI⟩ := hrel
    by_cases hlt : k < N
    · have hkl : k < l.length := by rw [HN.out]; exact hlt
      obtain ⟨b, o, rfl, hb, l0⟩ := txs_at (HL.out.below HI.out.2.2.2) hkl
      obtain ⟨r, hr⟩ : ∃ r, l[k] = r := ⟨_, rfl⟩
      rw [hr] at l0
      clear hr
      by_cases hwd : 200 < r.size
      · have e2 : decide ((200 : Int) < (r.size : Int)) = true := decide_eq_true (by omega)
        go_wp2_with (go_at_call 11; refine (shown_any _).mono ?_; rintro e w4 ⟨rfl, hb4⟩)
        go_ret
        exact ⟨rfl, HI.out.2.2.2.trans (hb4.mono HI.out.2.2.2.size)⟩
      · have e2 : decide ((200 : Int) < (r.size : Int)) = false := decide_eq_false (by omega)
        have hr255 : r.size ≤ 255 := by omega
        have HAP := Lib.hid (fun (W : World) (h1 : StaIn W W.heap.size s xs) (h2 : InW W xs) => apply_any W s xs h1 h2 k (by omega) HI.out.1.ok (tR r) (tR_size hr255))
        obtain ⟨q, hq⟩ : ∃ q, applyS s (tR r) = q := ⟨_, rfl⟩
        have hnx := HI.out.1.next hr255
        rw [hq] at hnx HAP
        obtain ⟨s', x'⟩ := q
        obtain ⟨⟨xe, xd, xc, xf⟩, hx'⟩ : ∃ y : Eff, x' = y := ⟨_, rfl⟩
        subst hx'
        rcases hnx with ⟨he, hnx⟩ | ⟨he, hnx⟩
        · have HNX := Lib.hid hnx
          simp only at he
          subst he
          clear hq hnx
          go_wp2_with (first
            | (go_at_call 12; refine (encode_row r hr255 _).mono ?_; rintro e w4 ⟨rfl, hb4⟩; have HB4 := Lib.hid hb4; have HS4 := Lib.hid (HI.out.2.1.below hb4); clear hb4)
            | (show wpList _ _ _ ({ dst := some 45, op := Op.load _ _, type := _, pos := _, after := _, guard := _ } :: _) _ _; go_loud (refine wpList_load_mid rfl 47 (.tmp 3) rfl g 0 rfl (s.vs xs) _ HS4.out.bk.range Try.underlying47 rfl (by kernel_rfl) ?_))
            | (go_at_call 18; go_loud (refine (HAP.out _ HS4.out.sin HS4.out.inw).mono ?_); rintro e w5 ⟨ys, A', k', D', m', rfl, hsi, hfr, hef, hb, hsep, hD⟩; have HB5 := Lib.hid (And.intro hsi (And.intro hfr (And.intro hef hb))); clear hsi hfr hef hb hsep hD)
            | (show wpList _ _ _ ({ dst := none, op := Op.store _ (Operand.tmp 8) _, type := _, pos := _, after := _, guard := _ } :: _) _ _; go_loud (refine wpList_store_mid rfl 47 (.tmp 8) (.tmp 48) rfl w5.heap.size 0 (s'.vs ys).toArray rfl rfl ((two_blocks w5 47 53 staz effz).1.there 5 (Nat.le_refl _)) (by kernel_rfl) (by simp [Value.oneCell', Sta.vs]) ?_); refine (two_blocks w5 47 53 staz effz).1.setW (s'.vs ys) rfl ?_; intro w6 HT6 HG6; have HE6 := Lib.hid ((two_blocks w5 47 53 staz effz).2.1.grown HG6.out (fun e => by injection e; omega)); have HL6 := Lib.hid (below_grown (two_blocks w5 47 53 staz effz).2.2 (by rw [World.size_alloc, World.size_alloc]; omega) HG6.out (Nat.le_refl _)); clear HG6)
            | (show wpList _ _ _ ({ dst := none, op := Op.store _ (Operand.tmp 9) _, type := _, pos := _, after := _, guard := _ } :: _) _ _; go_loud (refine wpList_store_mid rfl 53 (.tmp 9) (.tmp 49) rfl (w5.heap.size + 1) 0 (Eff.vs ⟨0, xd, xc, xf⟩ A' k' D' m').toArray rfl rfl (HE6.out.there 4 (Nat.le_refl _)) (by kernel_rfl) (by simp [Value.oneCell', Eff.vs]) ?_); refine HE6.out.setW (Eff.vs ⟨0, xd, xc, xf⟩ A' k' D' m') rfl ?_; intro w7 HE7 HG7; have HT7 := Lib.hid (HT6.out.grown HG7.out (fun e => by injection e; omega)); have HL7 := Lib.hid (below_grown HL6.out HL6.out.size HG7.out (by omega)); go_loud (have HV7 := Lib.hid (apply_boxes HS4.out.inw HB5.out.1 HB5.out.2.1 HB5.out.2.2.1 HB5.out.2.2.2 HT7.out HE7.out HL7.out)); have HF7 := Lib.hid HB5.out.2.1; clear HT6 HE6 HL6 HG7 HT7 HE7 HL7 HB5 ; have x0 := HV7.out.2.1.bk.cell (j := 0) rfl; have HS7 := Lib.hid (HS4.out.below HV7.out.2.2))
            | (show wpList _ _ _ ({ dst := some 55, op := Op.load _ _, type := _, pos := _, after := _, guard := _ } :: _) _ _; go_loud (refine wpList_load_mid rfl 47 (.tmp 8) rfl w5.heap.size 0 rfl (s'.vs ys) _ HV7.out.1.bk.range Try.underlying47 rfl (by kernel_rfl) ?_))
            | (show wpList _ _ _ ({ dst := none, op := Op.store _ (Operand.tmp 3) _, type := _, pos := _, after := _, guard := _ } :: _) _ _; go_loud (refine wpList_store_mid rfl 47 (.tmp 3) (.tmp 55) rfl g 0 (s'.vs ys).toArray rfl rfl (HS7.out.bk.there 5 (Nat.le_refl _)) (by kernel_rfl) (by simp [Value.oneCell', Sta.vs]) ?_); refine HS7.out.bk.setW (s'.vs ys) rfl ?_; intro w8 HT8 HG8)
            )
          have hna := HF7.out.notAt HI.out.2.2.1 (Nat.lt_of_lt_of_le HI.out.2.1.bk.lt HB4.out.size)
          have hst := HV7.out.1.store HG8.out hna HT8.out
          have hbl := below_grown ((HI.out.2.2.2.trans (HB4.out.mono HI.out.2.2.2.size)).trans (HV7.out.2.2.mono (Nat.le_trans HI.out.2.2.2.size HB4.out.size))) (Nat.le_trans (Nat.le_trans HI.out.2.2.2.size HB4.out.size) HV7.out.2.2.size) HG8.out hg
          exact ⟨⟨k + 1, (n + 1), s', ys, rfl, by first | rfl | go_num, by omega, by omega, Lib.hid ⟨HNX.out, hst, hna, hbl⟩⟩, by simp [intOf]; omega⟩
        · have HNX := Lib.hid hnx
          have e3 : (xe == 0) = false := beq_eq_false_iff_ne.2 he
          clear hq hnx he
          go_wp2_with (first
            | (go_at_call 12; refine (encode_row r hr255 _).mono ?_; rintro e w4 ⟨rfl, hb4⟩; have HB4 := Lib.hid hb4; have HS4 := Lib.hid (HI.out.2.1.below hb4); clear hb4)
            | (show wpList _ _ _ ({ dst := some 45, op := Op.load _ _, type := _, pos := _, after := _, guard := _ } :: _) _ _; go_loud (refine wpList_load_mid rfl 47 (.tmp 3) rfl g 0 rfl (s.vs xs) _ HS4.out.bk.range Try.underlying47 rfl (by kernel_rfl) ?_))
            | (go_at_call 18; go_loud (refine (HAP.out _ HS4.out.sin HS4.out.inw).mono ?_); rintro e w5 ⟨ys, A', k', D', m', rfl, hsi, hfr, hef, hb, hsep, hD⟩; have HB5 := Lib.hid (And.intro hsi (And.intro hfr (And.intro hef hb))); clear hsi hfr hef hb hsep hD)
            | (show wpList _ _ _ ({ dst := none, op := Op.store _ (Operand.tmp 8) _, type := _, pos := _, after := _, guard := _ } :: _) _ _; go_loud (refine wpList_store_mid rfl 47 (.tmp 8) (.tmp 48) rfl w5.heap.size 0 (s'.vs ys).toArray rfl rfl ((two_blocks w5 47 53 staz effz).1.there 5 (Nat.le_refl _)) (by kernel_rfl) (by simp [Value.oneCell', Sta.vs]) ?_); refine (two_blocks w5 47 53 staz effz).1.setW (s'.vs ys) rfl ?_; intro w6 HT6 HG6; have HE6 := Lib.hid ((two_blocks w5 47 53 staz effz).2.1.grown HG6.out (fun e => by injection e; omega)); have HL6 := Lib.hid (below_grown (two_blocks w5 47 53 staz effz).2.2 (by rw [World.size_alloc, World.size_alloc]; omega) HG6.out (Nat.le_refl _)); clear HG6)
            | (show wpList _ _ _ ({ dst := none, op := Op.store _ (Operand.tmp 9) _, type := _, pos := _, after := _, guard := _ } :: _) _ _; go_loud (refine wpList_store_mid rfl 53 (.tmp 9) (.tmp 49) rfl (w5.heap.size + 1) 0 (Eff.vs ⟨xe, xd, xc, xf⟩ A' k' D' m').toArray rfl rfl (HE6.out.there 4 (Nat.le_refl _)) (by kernel_rfl) (by simp [Value.oneCell', Eff.vs]) ?_); refine HE6.out.setW (Eff.vs ⟨xe, xd, xc, xf⟩ A' k' D' m') rfl ?_; intro w7 HE7 HG7; have HT7 := Lib.hid (HT6.out.grown HG7.out (fun e => by injection e; omega)); have HL7 := Lib.hid (below_grown HL6.out HL6.out.size HG7.out (by omega)); go_loud (have HV7 := Lib.hid (apply_boxes HS4.out.inw HB5.out.1 HB5.out.2.1 HB5.out.2.2.1 HB5.out.2.2.2 HT7.out HE7.out HL7.out)); have HF7 := Lib.hid HB5.out.2.1; clear HT6 HE6 HL6 HG7 HT7 HE7 HL7 HB5 ; have x0 := HV7.out.2.1.bk.cell (j := 0) rfl; have HS7 := Lib.hid (HS4.out.below HV7.out.2.2))
            | (show wpList _ _ _ ({ dst := some 55, op := Op.load _ _, type := _, pos := _, after := _, guard := _ } :: _) _ _; go_loud (refine wpList_load_mid rfl 47 (.tmp 8) rfl w5.heap.size 0 rfl (s'.vs ys) _ HV7.out.1.bk.range Try.underlying47 rfl (by kernel_rfl) ?_))
            | (show wpList _ _ _ ({ dst := none, op := Op.store _ (Operand.tmp 3) _, type := _, pos := _, after := _, guard := _ } :: _) _ _; go_loud (refine wpList_store_mid rfl 47 (.tmp 3) (.tmp 55) rfl g 0 (s'.vs ys).toArray rfl rfl (HS7.out.bk.there 5 (Nat.le_refl _)) (by kernel_rfl) (by simp [Value.oneCell', Sta.vs]) ?_); refine HS7.out.bk.setW (s'.vs ys) rfl ?_; intro w8 HT8 HG8)
            )
          have hna := HF7.out.notAt HI.out.2.2.1 (Nat.lt_of_lt_of_le HI.out.2.1.bk.lt HB4.out.size)
          have hst := HV7.out.1.store HG8.out hna HT8.out
          have hbl := below_grown ((HI.out.2.2.2.trans (HB4.out.mono HI.out.2.2.2.size)).trans (HV7.out.2.2.mono (Nat.le_trans HI.out.2.2.2.size HB4.out.size))) (Nat.le_trans (Nat.le_trans HI.out.2.2.2.size HB4.out.size) HV7.out.2.2.size) HG8.out hg
          exact ⟨⟨k + 1, n, s', ys, rfl, by first | rfl | go_num, by omega, by omega, Lib.hid ⟨HNX.out, hst, hna, hbl⟩⟩, by simp [intOf]; omega⟩
    · have hkN : k = N := by omega
      subst hkN
      rename World => w9
      obtain ⟨six, sep, L, sj, sc⟩ := s
      have h1 : six = k := HI.out.1.ix
      have h2 : sep = n := HI.out.1.ep
      have h3 : L.length = n := HI.out.1.bl
      subst h1 h2 h3
      have HR := Lib.hid (show Rise L from HI.out.1.ok.rise)
      have HSV := Lib.hid (And.intro HI.out.2.1 HI.out.2.2.2)
      have hwn : IntKind.u64.wrap (L.length : Int) = (L.length : Int) := wrap_nat L.length (by omega)
      have hwN : IntKind.u64.wrap (six : Int) = (six : Int) := wrap_nat six (by omega)
      have c2 := HSV.out.1.bk.cell (j := 2) rfl
      simp only at c2
      clear hlt HI hk
      go_wp2
      clear c2
      go_loopw [10] (fun iv wr => ∃ (k : Nat), iv = .int .i64 ((k + 1 : Nat) : Int) ∧ k ≤ L.length ∧ Hid (StV wr g ⟨six, L.length, L, sj, sc⟩ xs ∧ Below w.heap.size w wr)) (fun iv _ => L.length + 1 - (intOf iv).toNat)
      case atStart => exact ⟨0, rfl, Nat.zero_le _, HSV⟩
      case round =>
        obtain ⟨k, rfl, hk, HI⟩ := hrel
        have c2 := HI.out.1.bk.cell (j := 2) rfl
        simp only at c2
        by_cases hlt : k + 1 < L.length
        · have hrd := HI.out.1.sin.rb
          simp only at hrd
          obtain ⟨b1, o1, hA, hb1, l0⟩ := txs_at hrd (show k < L.length by omega)
          obtain ⟨b2, o2, hA2, hb2, l1⟩ := txs_at hrd hlt
          rw [hA] at hA2
          injection hA2 with hA2
          injection hA2 with e1 e2
          subst e1 e2
          rw [hA] at c2
          have hl' : Op.bytesLess L[k].toList L[k + 1].toList = true := (List.pairwise_iff_getElem.1 HR.out) k (k + 1) (by omega) hlt (by omega)
          have hd : decide (((k + 1 : Nat) : Int) < (L.length : Int)) = true := decide_eq_true (by omega)
          have hd' : IntKind.i64.wrap (((k + 1 : Nat) : Int) - 1) = (k : Int) := by rw [IntWalk.i64_in _ (by omega)]; omega
          have hw2 : IntKind.i64.wrap (((k + 1 : Nat) : Int) + 1) = ((k + 1 + 1 : Nat) : Int) := by rw [IntWalk.i64_in _ (by omega)]; omega
          have i1 : (0 : Int) ≤ (k : Int) := by omega
          have i2 : (k : Int) < (L.length : Int) := by omega
          have i3 : (0 : Int) ≤ ((k + 1 : Nat) : Int) := by omega
          have i4 : ((k + 1 : Nat) : Int) < (L.length : Int) := by omega
          clear hrd hA hb1 hb2
          go_wp2
          go_quiet (fail)
          go_wp2
          exact ⟨⟨k + 1, by first | rfl | go_num, by omega, Lib.hid ⟨HI.out.1.below (below_drewN wr _), HI.out.2.trans ((below_drewN wr _).mono HI.out.2.size)⟩⟩, by simp [intOf]; omega⟩
        · have hd : decide (((k + 1 : Nat) : Int) < (L.length : Int)) = false := decide_eq_false (by omega)
          have a0 := HI.out.1.bk.cell (j := 0) rfl
          have a1 := HI.out.1.bk.cell (j := 1) rfl
          simp only at a0 a1
          go_wp2
          go_ret
          exact ⟨rfl, HI.out.2⟩
end Go.Proofs.Ytiiogdgnccgehaa
