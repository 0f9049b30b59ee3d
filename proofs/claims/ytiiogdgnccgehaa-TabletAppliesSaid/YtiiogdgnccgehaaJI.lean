/-
  The walk of (*tablet.State).batch, at a good batch of a new client. The walk of (*tablet.State).batch, at a good later batch of a client that is known. (*tablet.State).batch at any batch. A map of a call's own, from numbers to any values: made, filled, looked into. No conditions.
-/
import Derived.Test.YtiiogdgnccgehaaJH
import Derived.Maps.Own
namespace Go.Proofs.Ytiiogdgnccgehaa
open Go.RowKit
attribute [local go_sem ↓] Go.wp_at_zero Go.wp_at_succ

set_option maxRecDepth 100000 in
set_option maxHeartbeats 8000000 in
theorem batch_fresh_good (w : World) (g : Nat) (c : Cmd) (A : Option Addr) (k : Nat) (D : Option Addr) (m : Nat) (s : Sta) (xs : SA) (hs : Blk 47 w g (s.vs xs)) (hin : StaIn w w.heap.size s xs) (hc : CmdIn w w.heap.size c A k D m) (hoff : Off w xs g) (hcll : s.clients.length ≤ 1000)
    (hix : idx (isKl c.client) s.clients = -1) (hnil : ¬ c.cells = []) (htw : twiceL c.cells = false) (hlen : c.cells.length ≤ 1000) (hr : batchS s c = ({ s with clients := s.clients ++ [⟨c.client, c.num, 0⟩] }, ⟨0, false, c.cells.map (fun x => { x with seq := s.index }), []⟩)) :
    Calls Try.prog 44 #[.pointer (some ⟨g, 0, none⟩), .agg (c.vs A k D m).toArray] w (MOut w g xs D (batchS s c)) := by
  have hm0 := IM.start (c := c) (A := A) (k := k) (D := D) (m := m) w hs hin
  have HIX := Lib.hid hix
  have HM := Lib.hid hm0
  have HRS := Lib.hid hr
  have HO := Lib.hid hoff
  have HCI := Lib.hid hc
  have HTW := Lib.hid htw
  have hpos : 0 < c.cells.length := by
    rcases Nat.eq_zero_or_pos c.cells.length with h | h
    · exact absurd (List.length_eq_zero_iff.1 h) hnil
    · exact h
  have k2 : ((c.cells.length : Int) == 0) = false := by rw [beq_eq_false_iff_ne]; omega
  unfold effz Cmd.vs at HM
  unfold Cmd.vs
  clear hs hin hm0 hix hr hoff hc htw hnil
  go_enter Try.func44, Try.ntmps44
  have c4 := HM.out.st.cell (j := 4) rfl
  go_wp2_with (first
    | (go_at_call 66; go_loud (refine (IM.client HM.out hcll).mono ?_); rw [HIX.out]; rintro e w2 ⟨rfl, hb⟩; have HN0 := Lib.hid (HM.out.below hb).toN; have q3 := HN0.out.cm.cell (j := 3) rfl; clear hb)
    | (go_at_call 68; go_loud (refine (twice_any A k c.cells _ ((HCI.out.rc.below HN0.out.bl).more HN0.out.bl.size) HCI.out.lc HCI.out.lk).mono ?_); rw [HTW.out]; rintro e w3 ⟨rfl, hb⟩; have HN := Lib.hid (HN0.out.below hb); have q3' := HN.out.cm.cell (j := 3) rfl; clear hb)
    | (go_at_call 69; go_loud (refine (cloneCells_any A k c.cells _ ((HCI.out.rc.below HN.out.bl).more HN.out.bl.size) (by omega)).mono ?_); rintro e w4 ⟨A5, c5, rfl, ho, hb⟩; obtain ⟨g5, S5, hA5, hb5, hS5, hnc, hcm, hln, harr⟩ := Own.arr (enc := Cl.vals) Cl.vals_len ho hpos (by omega); subst hA5 hS5; have HN2 := Lib.hid (HN.out.below hb); have e2 := HN2.out.ef.cell (j := 2) rfl; have g2 := HN2.out.ef.free 2; have HG5 := Lib.hid (Nat.lt_of_lt_of_le HN.out.ef.lt hb5); have HN3 := Lib.hid (HN2.out.setE 2 (.slice (some ⟨g5, 0, none⟩) c.cells.length c5)); have HAR := Lib.hid (show Arr Cl.vals 6 (w4.setCell ⟨w.heap.size + 1, 2, none⟩ (.slice (some ⟨g5, 0, none⟩) c.cells.length c5)) g5 75 (c5 * 6) (seqTo s.index c.cells 0) by rw [seqTo_zero]; exact harr.keep (heap_setCell_other w4 ⟨w.heap.size + 1, 2, none⟩ g5 _ (fun e => by have := HG5.out; simp at e; omega))); have HCM := Lib.hid hcm; have HNC := Lib.hid hnc; clear hb ho hb5 harr hcm hnc hln))
  go_loopw [57] (fun v57 wr => ∃ i : Nat, v57 = .int .i64 (i : Int) ∧ i ≤ c.cells.length ∧ Hid (IN w wr g c A k D m s xs [.int .i64 0, .bool false, .slice (some ⟨g5, 0, none⟩) c.cells.length c5, .slice none 0 0]) ∧ Hid (Arr Cl.vals 6 wr g5 75 (c5 * 6) (seqTo s.index c.cells i))) (fun v57 _ => c.cells.length - (intOf v57).toNat)
  case atStart => exact ⟨0, rfl, Nat.zero_le _, HN3, HAR⟩
  case round =>
    clear HN3 HAR HN2 HN HN0
    obtain ⟨i, rfl, hi, HN4, HAR⟩ := hrel
    rename World => wr
    by_cases hlt : i < c.cells.length
    · have e1 : decide ((i : Int) < (c.cells.length : Int)) = true := decide_eq_true (by omega)
      have i0 : (0 : Int) ≤ (i : Int) := by omega
      have i1 : (i : Int) < (c.cells.length : Int) := by omega
      have hwi : IntKind.i64.wrap ((i : Int) + 1) = ((i + 1 : Nat) : Int) := by rw [IntWalk.i64_in _ (by omega)]; omega
      have hcell : ∀ W, Hid (IN w W g c A k D m s xs [.int .i64 0, .bool false, .slice (some ⟨g5, 0, none⟩) c.cells.length c5, .slice none 0 0]) → W.cell? ⟨w.heap.size + 1, 2, none⟩ = some (.slice (some ⟨g5, 0, none⟩) c.cells.length c5) ∧ W.cell? ⟨g, 0, none⟩ = some (.int .u64 s.index) := fun W h => ⟨h.out.ef.cell (j := 2) rfl, h.out.st.cell (j := 0) rfl⟩
      have HNd := Lib.hid (HN4.out.below ((Below.refl _ wr).drew))
      have HARd := Lib.hid HAR.out.drew
      have hil : i < (seqTo s.index c.cells i).length := by rw [seqTo_len]; exact hlt
      have hth := HAR.out.drew.there_at hil 3 (by omega)
      have hsf := HAR.out.drew.setField Cl.vals_len hil (show 3 < 6 by omega) (.int .u64 s.index) { c.cells[i] with seq := s.index } (by rw [seqTo_at _ _ _ hlt]; rfl)
      rw [seqTo_next _ _ _ hlt] at hsf
      have HSF := Lib.hid hsf
      obtain ⟨tv, t1⟩ := Option.isSome_iff_exists.1 hth.1
      have t2 := hth.2
      have t3 : wr.cell? ⟨g5, i * 6 + 3, none⟩ = some tv := t1
      have t4 : wr.frozen? ⟨g5, i * 6 + 3, none⟩ = false := t2
      have HNs := Lib.hid (HNd.out.own (grown_set wr.drew g5 (i * 6 + 3) (.int .u64 s.index)) (fun q e => by injection e with e; have := HG5.out; omega))
      have HC := hcell _ HNd
      clear HN4 HAR hth hsf
      go_wp2
      refine region_wz (fun W => W.cell? ⟨w.heap.size + 1, 2, none⟩ = some (.slice (some ⟨g5, 0, none⟩) c.cells.length c5) ∧ W.cell? ⟨g, 0, none⟩ = some (.int .u64 s.index)) (some 9) (by kernel_rfl) ?_
      apply WZ.take (i := 0) (some 60) rfl rfl (by kernel_rfl) (by kernel_rfl) (by kernel_rfl) (calm_panic _) (by kernel_rfl)
      case hy => (refine .inl ⟨by kernel_rfl, fun W hC => ?_⟩; (try dsimp only at hC); go_simp; rfl)
      case hC => exact HC
      case ha => (simp only [Act.put, List.setIfInBounds_toArray, List.set_cons_zero, List.set_cons_succ]; rfl)
      apply WZ.take (i := 1) (some 61) rfl rfl (by kernel_rfl) (by kernel_rfl) (by kernel_rfl) (calm_panic _) (by kernel_rfl)
      case hy => (refine .inl ⟨by kernel_rfl, fun W hC => ?_⟩; (try dsimp only at hC); go_simp; rfl)
      case hC => exact HC
      case ha => (simp only [Act.put, List.setIfInBounds_toArray, List.set_cons_zero, List.set_cons_succ]; rfl)
      apply WZ.take (i := 2) (some 62) rfl rfl (by kernel_rfl) (by kernel_rfl) (by kernel_rfl) (calm_panic _) (by kernel_rfl)
      case hy => (refine .inl ⟨by kernel_rfl, fun W hC => ?_⟩; (try dsimp only at hC); go_simp; rfl)
      case hC => exact HC
      case ha => (simp only [Act.put, List.setIfInBounds_toArray, List.set_cons_zero, List.set_cons_succ]; rfl)
      apply WZ.take (i := 3) (some 63) rfl rfl (by kernel_rfl) (by kernel_rfl) (by kernel_rfl) (calm_panic _) (by kernel_rfl)
      case hy => (refine .inl ⟨by kernel_rfl, fun W hC => ?_⟩; (try dsimp only at hC); go_simp; rfl)
      case hC => exact HC
      case ha => (simp only [Act.put, List.setIfInBounds_toArray, List.set_cons_zero, List.set_cons_succ]; rfl)
      apply WZ.take (i := 4) (some 64) rfl rfl (by kernel_rfl) (by kernel_rfl) (by kernel_rfl) (calm_panic _) (by kernel_rfl)
      case hy => (refine .inl ⟨by kernel_rfl, fun W hC => ?_⟩; (try dsimp only at hC); go_simp; rfl)
      case hC => exact HC
      case ha => (simp only [Act.put, List.setIfInBounds_toArray, List.set_cons_zero, List.set_cons_succ]; rfl)
      apply WZ.take (i := 5) (some 65) rfl rfl (by kernel_rfl) (by kernel_rfl) (by kernel_rfl) (calm_panic _) (by kernel_rfl)
      case hy => (refine .inl ⟨by kernel_rfl, fun W hC => ?_⟩; (try dsimp only at hC); go_simp; rfl)
      case hC => exact HC
      case ha => (simp only [Act.put, List.setIfInBounds_toArray, List.set_cons_zero, List.set_cons_succ]; rfl)
      apply WZ.take (i := 6) (some 66) rfl rfl (by kernel_rfl) (by kernel_rfl) (by kernel_rfl) (calm_panic _) (by kernel_rfl)
      case hy => (refine .inl ⟨by kernel_rfl, fun W hC => ?_⟩; (try dsimp only at hC); go_simp; rfl)
      case hC => exact HC
      case ha => (simp only [Act.put, List.setIfInBounds_toArray, List.set_cons_zero, List.set_cons_succ]; rfl)
      apply WZ.takeF (i := 7) (some 67) rfl rfl (by kernel_rfl) (by kernel_rfl) (by kernel_rfl) (calm_panic _) (by kernel_rfl)
      case hy => (refine .inl ⟨by kernel_rfl, fun W hC => ?_⟩; (try dsimp only at hC); go_simp; rfl)
      case hC => exact HC
      case ha => (simp only [Act.put, List.setIfInBounds_toArray, List.set_cons_zero, List.set_cons_succ]; rfl)
      apply WZ.take (i := 8) (some 68) rfl rfl (by kernel_rfl) (by kernel_rfl) (by kernel_rfl) (calm_panic _) (by kernel_rfl)
      case hy => (refine .inl ⟨by kernel_rfl, fun W hC => ?_⟩; (try dsimp only at hC); go_simp; rfl)
      case hC => exact HC
      case ha => (simp only [Act.put, List.setIfInBounds_toArray, List.set_cons_zero, List.set_cons_succ]; rfl)
      -- 9
      refine WZ.last (i := 9) rfl (by kernel_rfl) (by kernel_rfl) ?_
      conv => arg 4; arg 1; whnf
      go_wp2
      refine WZ.done (by kernel_rfl) ?_ _
      simp only [Calm, Exit.then]
      go_wp2
      exact ⟨⟨i + 1, by first | rfl | go_num, by omega, HNs, HSF⟩, by simp [intOf]; omega⟩
    · have e1 : decide ((i : Int) < (c.cells.length : Int)) = false := decide_eq_false (by omega)
      have hin : i = c.cells.length := by omega
      rw [hin, seqTo_all] at HAR
      have hown := HAR.out.own (base := w.heap.size + 1 + 1) Cl.vals_len (by omega) HG5.out (by rw [List.length_map]; exact HNC.out) HCM.out
      rw [List.length_map] at hown
      have HOC := Lib.hid (show OwnC wr (w.heap.size + 1 + 1) (some ⟨g5, 0, none⟩) c.cells.length c5 (c.cells.map fun x => { x with seq := s.index }) from hown)
      have c4w := HN4.out.st.cell (j := 4) rfl
      clear hin hown
      go_wp2_with (first
      | (go_at_call 70; go_loud (refine (cloneClients_any xs.F xs.f s.clients _ HN4.out.sta.rc (by omega)).mono ?_); rintro e w7 ⟨A7, c7, rfl, ho, hb⟩; have HOK := Lib.hid (show OwnK _ _ _ _ _ _ from Own.lower ho (Nat.succ_le_of_lt HN4.out.ef.lt)); have HN6 := Lib.hid (HN4.out.below hb); have HOC7 := Lib.hid (HOC.out.below hb); have HAB := Lib.hid (show blk A7 ≠ some g5 from fun e => by have h1 := (Own.lt ho _ e).1; have h2 := (Own.lt HOC.out g5 rfl).2; omega); have q1 := HN6.out.cm.cell (j := 1) rfl; have q2 := HN6.out.cm.cell (j := 2) rfl; have r0 := HN6.out.ef.cell (j := 0) rfl; clear hb ho)
      | (at_builtin; go_loud (refine clients_app rfl _ _ rfl (w.heap.size + 1 + 1) A7 s.clients.length c7 (s.clients.length + 1) s.clients [⟨c.client, c.num, 0⟩] rfl (OwnK.below HOK.out (below_al w7 (.cells #[.int .u64 c.client, .int .u64 c.num, .int .i64 0] 107))) (some ⟨w7.heap.size, 0, none⟩) 1 1 rfl (Rd.ofBlock (heap_alloc_new w7 (.cells #[.int .u64 c.client, .int .u64 c.num, .int .i64 0] 107)) (xs := kls [⟨c.client, c.num, 0⟩]) rfl) rfl rfl (by omega) (by rw [World.size_alloc]; have := HN6.out.ef.lt; omega) ?_); intro A6 c6 w6 HO6 HG6; go_loud (have HN3 := Lib.hid ((HN6.out.below (below_al w7 (.cells #[.int .u64 c.client, .int .u64 c.num, .int .i64 0] 107))).own HG6.out (fun q e => by have := (Own.lt HOK.out _ e).1; omega))); have g4 := HN3.out.st.cell (j := 4) rfl; have f4 := HN3.out.st.free 4; have HEF := Lib.hid (HN3.out.ef.grown (grown_set w6 g 4 (.slice A6 (s.clients.length + 1) c6)) (fun e => by injection e; have := HN3.out.lt; omega)))
      | (show wpList _ _ _ ({ dst := some 95, op := Op.load _ _, type := _, pos := _, after := _, guard := _ } :: _) _ _; go_loud (refine wpList_load_mid rfl 53 (.tmp 4) rfl (w.heap.size + 1) 0 rfl [.int .i64 0, .bool false, .slice (some ⟨g5, 0, none⟩) c.cells.length c5, .slice none 0 0] _ HEF.out.range Try.underlying53 rfl (by kernel_rfl) ?_))
      | (show wpList _ _ _ ({ dst := none, op := Op.store _ (Operand.tmp 4) _, type := _, pos := _, after := _, guard := _ } :: _) _ _; go_loud (refine wpList_store_mid rfl 53 (.tmp 4) (.tmp 95) rfl (w.heap.size + 1) 0 #[.int .i64 0, .bool false, .slice (some ⟨g5, 0, none⟩) c.cells.length c5, .slice none 0 0] rfl rfl (HEF.out.there 4 (Nat.le_refl _)) (by kernel_rfl) (by simp [Value.oneCell']) ?_); refine HEF.out.setW [.int .i64 0, .bool false, .slice (some ⟨g5, 0, none⟩) c.cells.length c5, .slice none 0 0] rfl ?_; intro w10 HZ10 HG10))
      (try simp only [Exit.inBlock, Exit.then])
      refine bodyPost_ret (results_cell_row rfl _ _ (w.heap.size + 1) _ _ _ _ rfl HZ10.out Try.underlying53 rfl (by kernel_rfl)) rfl ?_
      exact new_out HN3.out HO6.out HO.out (show OwnC w6 (w.heap.size + 1 + 1) (some ⟨g5, 0, none⟩) c.cells.length c5 _ from Own.grown (HOC7.out.below (below_al w7 _)) HG6.out (.inr (fun e => HAB.out e.symm))) HG10.out HRS.out
end Go.Proofs.Ytiiogdgnccgehaa
namespace Go.Proofs.Ytiiogdgnccgehaa
open Go.RowKit
attribute [local go_sem ↓] Go.wp_at_zero Go.wp_at_succ


set_option maxRecDepth 100000 in
set_option maxHeartbeats 8000000 in
theorem batch_again_good (w : World) (g : Nat) (c : Cmd) (A : Option Addr) (k : Nat) (D : Option Addr) (m : Nat) (s : Sta) (xs : SA) (hs : Blk 47 w g (s.vs xs)) (hin : StaIn w w.heap.size s xs) (hc : CmdIn w w.heap.size c A k D m) (hoff : Off w xs g) (hcll : s.clients.length ≤ 1000)
    (q : Nat) (hq : q < s.clients.length) (hix : idx (isKl c.client) s.clients = (q : Int)) (hgt : s.clients[q].num < c.num) (hnil : ¬ c.cells = []) (htw : twiceL c.cells = false) (hlen : c.cells.length ≤ 1000) (hr : batchS s c = ({ s with clients := s.clients.take q ++ s.clients.drop (q + 1) ++ [⟨c.client, c.num, 0⟩] }, ⟨0, false, c.cells.map (fun x => { x with seq := s.index }), []⟩)) :
    Calls Try.prog 44 #[.pointer (some ⟨g, 0, none⟩), .agg (c.vs A k D m).toArray] w (MOut w g xs D (batchS s c)) := by
  have hm0 := IM.start (c := c) (A := A) (k := k) (D := D) (m := m) w hs hin
  have HIX := Lib.hid hix
  have HM := Lib.hid hm0
  have HRS := Lib.hid hr
  have HO := Lib.hid hoff
  have HCI := Lib.hid hc
  have HTW := Lib.hid htw
  have hpos : 0 < c.cells.length := by
    rcases Nat.eq_zero_or_pos c.cells.length with h | h
    · exact absurd (List.length_eq_zero_iff.1 h) hnil
    · exact h
  have k2 : ((c.cells.length : Int) == 0) = false := by rw [beq_eq_false_iff_ne]; omega
  obtain ⟨y, hy⟩ : ∃ y, s.clients[q] = y := ⟨_, rfl⟩
  obtain ⟨b, o, hF, hb0, hcl⟩ := hin.rc.at_ (kls_ne hq)
  have r1 := Rd.enc_range Kl.vs_len hcl q hq
  rw [hy] at r1
  have R1 := Lib.hid r1
  have HB0 := Lib.hid hb0
  have HF := Lib.hid hF
  clear hcl r1 hb0
  rw [hy] at hgt
  have k0 : (0 : Int) ≤ (q : Int) := by omega
  have k1 : decide ((0 : Int) ≤ (q : Int)) = true := decide_eq_true k0
  have k5 : (q : Int) < (s.clients.length : Int) := by omega
  have k3 : ((c.num : Int) == (y.num : Int)) = false := by rw [beq_eq_false_iff_ne]; omega
  have k4 : decide (c.num < y.num) = false := decide_eq_false (by omega)
  have hwq : IntKind.i64.wrap ((q : Int) + 1) = ((q + 1 : Nat) : Int) := by rw [IntWalk.i64_in _ (by omega)]; omega
  clear hy hF hgt
  unfold effz Cmd.vs at HM
  unfold Cmd.vs
  clear hs hin hm0 hix hr hoff hc htw hnil
  go_enter Try.func44, Try.ntmps44
  have c4 := HM.out.st.cell (j := 4) rfl
  go_wp2_with (first
    | (go_at_call 66; go_loud (refine (IM.client HM.out hcll).mono ?_); rw [HIX.out]; rintro e w2 ⟨rfl, hb⟩; have HM0 := HM; clear HM; have HM := Lib.hid (HM0.out.below hb); clear HM0 hb c4; have c4 := HM.out.st.cell (j := 4) rfl; have q2 := HM.out.cm.cell (j := 2) rfl; have HR1 := Lib.hid (rangeAt_below R1.out HM.out.bl HB0.out); (try rw [HF.out] at c4))
    | (show wpList _ _ _ ({ dst := some 23, op := Op.load _ _, type := _, pos := _, after := _, guard := _ } :: _) _ _; go_loud (refine wpList_load_mid rfl 107 (.tmp 22) rfl b (o + q * 3) rfl y.vs _ HR1.out Try.underlying107 rfl (by kernel_rfl) ?_))
    | (show wpList _ _ _ ({ dst := none, op := Op.store _ (Operand.tmp 6) _, type := _, pos := _, after := _, guard := _ } :: _) _ _; have hn := HM.out.new 107 [.int .u64 0, .int .u64 0, .int .i64 0]; refine wpList_store_mid rfl 107 (.tmp 6) (.tmp 23) rfl _ 0 y.vs.toArray rfl rfl (hn.2.1.there 3 (Nat.le_refl _)) (by kernel_rfl) (by simp [Value.oneCell', Kl.vs]) ?_; generalize hw9 : World.setCells _ _ 0 _ = w9; have hn2 := hn.1.setE hn.2 y.vs rfl hw9; clear hn HM hw9 c4 q2; have HM := Lib.hid hn2.1; have HJ := Lib.hid hn2.2; clear hn2; have j1 := HJ.out.1.cell (j := 1) rfl; have j2 := HJ.out.1.cell (j := 2) rfl; have q2 := HM.out.cm.cell (j := 2) rfl; have HN0 := Lib.hid HM.out.toN; have q3 := HN0.out.cm.cell (j := 3) rfl)
    | (go_at_call 68; go_loud (refine (twice_any A k c.cells _ ((HCI.out.rc.below HN0.out.bl).more HN0.out.bl.size) HCI.out.lc HCI.out.lk).mono ?_); rw [HTW.out]; rintro e w3 ⟨rfl, hb⟩; have HN := Lib.hid (HN0.out.below hb); have q3' := HN.out.cm.cell (j := 3) rfl; clear hb)
    | (go_at_call 69; go_loud (refine (cloneCells_any A k c.cells _ ((HCI.out.rc.below HN.out.bl).more HN.out.bl.size) (by omega)).mono ?_); rintro e w4 ⟨A5, c5, rfl, ho, hb⟩; obtain ⟨g5, S5, hA5, hb5, hS5, hnc, hcm, hln, harr⟩ := Own.arr (enc := Cl.vals) Cl.vals_len ho hpos (by omega); subst hA5 hS5; have HN2 := Lib.hid (HN.out.below hb); have e2 := HN2.out.ef.cell (j := 2) rfl; have g2 := HN2.out.ef.free 2; have HG5 := Lib.hid (Nat.lt_of_lt_of_le HN.out.ef.lt hb5); have HN3 := Lib.hid (HN2.out.setE 2 (.slice (some ⟨g5, 0, none⟩) c.cells.length c5)); have HAR := Lib.hid (show Arr Cl.vals 6 (w4.setCell ⟨w.heap.size + 1, 2, none⟩ (.slice (some ⟨g5, 0, none⟩) c.cells.length c5)) g5 75 (c5 * 6) (seqTo s.index c.cells 0) by rw [seqTo_zero]; exact harr.keep (heap_setCell_other w4 ⟨w.heap.size + 1, 2, none⟩ g5 _ (fun e => by have := HG5.out; simp at e; omega))); have HCM := Lib.hid hcm; have HNC := Lib.hid hnc; clear hb ho hb5 harr hcm hnc hln))
  go_loopw [57] (fun v57 wr => ∃ i : Nat, v57 = .int .i64 (i : Int) ∧ i ≤ c.cells.length ∧ Hid (IN w wr g c A k D m s xs [.int .i64 0, .bool false, .slice (some ⟨g5, 0, none⟩) c.cells.length c5, .slice none 0 0]) ∧ Hid (Arr Cl.vals 6 wr g5 75 (c5 * 6) (seqTo s.index c.cells i))) (fun v57 _ => c.cells.length - (intOf v57).toNat)
  case atStart => exact ⟨0, rfl, Nat.zero_le _, HN3, HAR⟩
  case round =>
    clear HN3 HAR HN2 HN HN0
    obtain ⟨i, rfl, hi, HN4, HAR⟩ := hrel
    rename World => wr
    by_cases hlt : i < c.cells.length
    · have e1 : decide ((i : Int) < (c.cells.length : Int)) = true := decide_eq_true (by omega)
      have i0 : (0 : Int) ≤ (i : Int) := by omega
      have i1 : (i : Int) < (c.cells.length : Int) := by omega
      have hwi : IntKind.i64.wrap ((i : Int) + 1) = ((i + 1 : Nat) : Int) := by rw [IntWalk.i64_in _ (by omega)]; omega
      have hcell : ∀ W, Hid (IN w W g c A k D m s xs [.int .i64 0, .bool false, .slice (some ⟨g5, 0, none⟩) c.cells.length c5, .slice none 0 0]) → W.cell? ⟨w.heap.size + 1, 2, none⟩ = some (.slice (some ⟨g5, 0, none⟩) c.cells.length c5) ∧ W.cell? ⟨g, 0, none⟩ = some (.int .u64 s.index) := fun W h => ⟨h.out.ef.cell (j := 2) rfl, h.out.st.cell (j := 0) rfl⟩
      have HNd := Lib.hid (HN4.out.below ((Below.refl _ wr).drew))
      have HARd := Lib.hid HAR.out.drew
      have hil : i < (seqTo s.index c.cells i).length := by rw [seqTo_len]; exact hlt
      have hth := HAR.out.drew.there_at hil 3 (by omega)
      have hsf := HAR.out.drew.setField Cl.vals_len hil (show 3 < 6 by omega) (.int .u64 s.index) { c.cells[i] with seq := s.index } (by rw [seqTo_at _ _ _ hlt]; rfl)
      rw [seqTo_next _ _ _ hlt] at hsf
      have HSF := Lib.hid hsf
      obtain ⟨tv, t1⟩ := Option.isSome_iff_exists.1 hth.1
      have t2 := hth.2
      have t3 : wr.cell? ⟨g5, i * 6 + 3, none⟩ = some tv := t1
      have t4 : wr.frozen? ⟨g5, i * 6 + 3, none⟩ = false := t2
      have HNs := Lib.hid (HNd.out.own (grown_set wr.drew g5 (i * 6 + 3) (.int .u64 s.index)) (fun q e => by injection e with e; have := HG5.out; omega))
      have HC := hcell _ HNd
      clear HN4 HAR hth hsf
      go_wp2
      refine region_wz (fun W => W.cell? ⟨w.heap.size + 1, 2, none⟩ = some (.slice (some ⟨g5, 0, none⟩) c.cells.length c5) ∧ W.cell? ⟨g, 0, none⟩ = some (.int .u64 s.index)) (some 9) (by kernel_rfl) ?_
      apply WZ.take (i := 0) (some 60) rfl rfl (by kernel_rfl) (by kernel_rfl) (by kernel_rfl) (calm_panic _) (by kernel_rfl)
      case hy => (refine .inl ⟨by kernel_rfl, fun W hC => ?_⟩; (try dsimp only at hC); go_simp; rfl)
      case hC => exact HC
      case ha => (simp only [Act.put, List.setIfInBounds_toArray, List.set_cons_zero, List.set_cons_succ]; rfl)
      apply WZ.take (i := 1) (some 61) rfl rfl (by kernel_rfl) (by kernel_rfl) (by kernel_rfl) (calm_panic _) (by kernel_rfl)
      case hy => (refine .inl ⟨by kernel_rfl, fun W hC => ?_⟩; (try dsimp only at hC); go_simp; rfl)
      case hC => exact HC
      case ha => (simp only [Act.put, List.setIfInBounds_toArray, List.set_cons_zero, List.set_cons_succ]; rfl)
      apply WZ.take (i := 2) (some 62) rfl rfl (by kernel_rfl) (by kernel_rfl) (by kernel_rfl) (calm_panic _) (by kernel_rfl)
      case hy => (refine .inl ⟨by kernel_rfl, fun W hC => ?_⟩; (try dsimp only at hC); go_simp; rfl)
      case hC => exact HC
      case ha => (simp only [Act.put, List.setIfInBounds_toArray, List.set_cons_zero, List.set_cons_succ]; rfl)
      apply WZ.take (i := 3) (some 63) rfl rfl (by kernel_rfl) (by kernel_rfl) (by kernel_rfl) (calm_panic _) (by kernel_rfl)
      case hy => (refine .inl ⟨by kernel_rfl, fun W hC => ?_⟩; (try dsimp only at hC); go_simp; rfl)
      case hC => exact HC
      case ha => (simp only [Act.put, List.setIfInBounds_toArray, List.set_cons_zero, List.set_cons_succ]; rfl)
      apply WZ.take (i := 4) (some 64) rfl rfl (by kernel_rfl) (by kernel_rfl) (by kernel_rfl) (calm_panic _) (by kernel_rfl)
      case hy => (refine .inl ⟨by kernel_rfl, fun W hC => ?_⟩; (try dsimp only at hC); go_simp; rfl)
      case hC => exact HC
      case ha => (simp only [Act.put, List.setIfInBounds_toArray, List.set_cons_zero, List.set_cons_succ]; rfl)
      apply WZ.take (i := 5) (some 65) rfl rfl (by kernel_rfl) (by kernel_rfl) (by kernel_rfl) (calm_panic _) (by kernel_rfl)
      case hy => (refine .inl ⟨by kernel_rfl, fun W hC => ?_⟩; (try dsimp only at hC); go_simp; rfl)
      case hC => exact HC
      case ha => (simp only [Act.put, List.setIfInBounds_toArray, List.set_cons_zero, List.set_cons_succ]; rfl)
      apply WZ.take (i := 6) (some 66) rfl rfl (by kernel_rfl) (by kernel_rfl) (by kernel_rfl) (calm_panic _) (by kernel_rfl)
      case hy => (refine .inl ⟨by kernel_rfl, fun W hC => ?_⟩; (try dsimp only at hC); go_simp; rfl)
      case hC => exact HC
      case ha => (simp only [Act.put, List.setIfInBounds_toArray, List.set_cons_zero, List.set_cons_succ]; rfl)
      apply WZ.takeF (i := 7) (some 67) rfl rfl (by kernel_rfl) (by kernel_rfl) (by kernel_rfl) (calm_panic _) (by kernel_rfl)
      case hy => (refine .inl ⟨by kernel_rfl, fun W hC => ?_⟩; (try dsimp only at hC); go_simp; rfl)
      case hC => exact HC
      case ha => (simp only [Act.put, List.setIfInBounds_toArray, List.set_cons_zero, List.set_cons_succ]; rfl)
      apply WZ.take (i := 8) (some 68) rfl rfl (by kernel_rfl) (by kernel_rfl) (by kernel_rfl) (calm_panic _) (by kernel_rfl)
      case hy => (refine .inl ⟨by kernel_rfl, fun W hC => ?_⟩; (try dsimp only at hC); go_simp; rfl)
      case hC => exact HC
      case ha => (simp only [Act.put, List.setIfInBounds_toArray, List.set_cons_zero, List.set_cons_succ]; rfl)
      -- 9
      refine WZ.last (i := 9) rfl (by kernel_rfl) (by kernel_rfl) ?_
      conv => arg 4; arg 1; whnf
      go_wp2
      refine WZ.done (by kernel_rfl) ?_ _
      simp only [Calm, Exit.then]
      go_wp2
      exact ⟨⟨i + 1, by first | rfl | go_num, by omega, HNs, HSF⟩, by simp [intOf]; omega⟩
    · have e1 : decide ((i : Int) < (c.cells.length : Int)) = false := decide_eq_false (by omega)
      have hin : i = c.cells.length := by omega
      rw [hin, seqTo_all] at HAR
      have hown := HAR.out.own (base := w.heap.size + 1 + 1) Cl.vals_len (by omega) HG5.out (by rw [List.length_map]; exact HNC.out) HCM.out
      rw [List.length_map] at hown
      have HOC := Lib.hid (show OwnC wr (w.heap.size + 1 + 1) (some ⟨g5, 0, none⟩) c.cells.length c5 (c.cells.map fun x => { x with seq := s.index }) from hown)
      have c4w := HN4.out.st.cell (j := 4) rfl
      clear hin hown
      go_wp2_with (first
      | (go_at_call 70; go_loud (refine (cloneClients_any xs.F xs.f s.clients _ HN4.out.sta.rc (by omega)).mono ?_); rintro e w7 ⟨A7, c7, rfl, ho, hb⟩; have HAB := Lib.hid (show blk A7 ≠ some g5 from fun e => by have h1 := (Own.lt ho _ e).1; have h2 := (Own.lt HOC.out g5 rfl).2; omega); obtain ⟨g7, S7, hA7, hb7, hS7, hnc, hcm, hln, harr⟩ := Own.arr (enc := Kl.vs) Kl.vs_len ho (by omega) (by omega); subst hA7 hS7; have HK := Lib.hid harr; have HN5 := Lib.hid (HN4.out.below hb); have HOC7 := Lib.hid (HOC.out.below hb); have HG7 := Lib.hid (Nat.lt_of_lt_of_le HN4.out.ef.lt hb7); have HCM7 := Lib.hid hcm; have HNC7 := Lib.hid hnc; clear hb ho hb7 harr hcm hnc hln)
      | (go_at_call 71; go_loud (refine (deleteClients_any g7 _ c7 s.clients.length q (q + 1) s.clients _ HK.out rfl (by omega) HNC7.out hq rfl).mono ?_); rintro e w8 ⟨rfl, har, hg⟩; have HOK := Lib.hid (del_own har HG7.out hq HNC7.out HCM7.out); have HN6 := Lib.hid (HN5.out.own hg (fun q e => by injection e with e; have := HG7.out; omega)); have HOC8 := Lib.hid (show OwnC w8 (w.heap.size + 1 + 1) (some ⟨g5, 0, none⟩) c.cells.length c5 _ from Own.grown HOC7.out hg (.inr (fun e => HAB.out (by injection e with e; rw [← e]; rfl)))); have q1 := HN6.out.cm.cell (j := 1) rfl; have q2' := HN6.out.cm.cell (j := 2) rfl; have r0 := HN6.out.ef.cell (j := 0) rfl; clear har hg)
      | (at_builtin; go_loud (refine clients_app rfl _ _ rfl (w.heap.size + 1 + 1) (some ⟨g7, 0, none⟩) (s.clients.length - 1) c7 (s.clients.length - 1 + 1) (s.clients.take q ++ s.clients.drop (q + 1)) [⟨c.client, c.num, 0⟩] rfl (OwnK.below HOK.out (below_al w8 (.cells #[.int .u64 c.client, .int .u64 c.num, .int .i64 0] 107))) (some ⟨w8.heap.size, 0, none⟩) 1 1 rfl (Rd.ofBlock (heap_alloc_new w8 (.cells #[.int .u64 c.client, .int .u64 c.num, .int .i64 0] 107)) (xs := kls [⟨c.client, c.num, 0⟩]) rfl) rfl rfl (by omega) (by rw [World.size_alloc]; have := HN6.out.ef.lt; omega) ?_); intro A6 c6 w6 HO6 HG6; go_loud (have HN3 := Lib.hid ((HN6.out.below (below_al w8 (.cells #[.int .u64 c.client, .int .u64 c.num, .int .i64 0] 107))).own HG6.out (fun q e => by have := (Own.lt HOK.out _ e).1; omega))); have g4 := HN3.out.st.cell (j := 4) rfl; have f4 := HN3.out.st.free 4; have HEF := Lib.hid (HN3.out.ef.grown (grown_set w6 g 4 (.slice A6 (s.clients.length - 1 + 1) c6)) (fun e => by injection e; have := HN3.out.lt; omega)))
      | (show wpList _ _ _ ({ dst := some 95, op := Op.load _ _, type := _, pos := _, after := _, guard := _ } :: _) _ _; go_loud (refine wpList_load_mid rfl 53 (.tmp 4) rfl (w.heap.size + 1) 0 rfl [.int .i64 0, .bool false, .slice (some ⟨g5, 0, none⟩) c.cells.length c5, .slice none 0 0] _ HEF.out.range Try.underlying53 rfl (by kernel_rfl) ?_))
      | (show wpList _ _ _ ({ dst := none, op := Op.store _ (Operand.tmp 4) _, type := _, pos := _, after := _, guard := _ } :: _) _ _; go_loud (refine wpList_store_mid rfl 53 (.tmp 4) (.tmp 95) rfl (w.heap.size + 1) 0 #[.int .i64 0, .bool false, .slice (some ⟨g5, 0, none⟩) c.cells.length c5, .slice none 0 0] rfl rfl (HEF.out.there 4 (Nat.le_refl _)) (by kernel_rfl) (by simp [Value.oneCell']) ?_); refine HEF.out.setW [.int .i64 0, .bool false, .slice (some ⟨g5, 0, none⟩) c.cells.length c5, .slice none 0 0] rfl ?_; intro w10 HZ10 HG10))
      (try simp only [Exit.inBlock, Exit.then])
      refine bodyPost_ret (results_cell_row rfl _ _ (w.heap.size + 1) _ _ _ _ rfl HZ10.out Try.underlying53 rfl (by kernel_rfl)) rfl ?_
      exact new_out HN3.out HO6.out HO.out (show OwnC w6 (w.heap.size + 1 + 1) (some ⟨g5, 0, none⟩) c.cells.length c5 _ from Own.grown (HOC8.out.below (below_al w8 _)) HG6.out (.inr (fun e => HAB.out e.symm))) HG10.out HRS.out
end Go.Proofs.Ytiiogdgnccgehaa
namespace Go.Proofs.Ytiiogdgnccgehaa
open Go.RowKit

theorem idx_none {α : Type} {q : α → Bool} {l : List α} (h : idx q l = -1) : l.findIdx? q = none := by
  unfold idx at h
  cases hf : l.findIdx? q with
  | none => rfl
  | some i =>
    rw [hf] at h
    simp only at h
    omega
theorem batch_any (w : World) (g : Nat) (c : Cmd) (A : Option Addr) (k : Nat) (D : Option Addr) (m : Nat) (s : Sta) (xs : SA) (hs : Blk 47 w g (s.vs xs)) (hin : StaIn w w.heap.size s xs) (hc : CmdIn w w.heap.size c A k D m) (hoff : Off w xs g) (hcll : s.clients.length ≤ 1000) (hlen : c.cells.length ≤ 1000) :
    Calls Try.prog 44 #[.pointer (some ⟨g, 0, none⟩), .agg (c.vs A k D m).toArray] w (MOut w g xs D (batchS s c)) := by
  rcases idx_find (isKl c.client) s.clients with ⟨h1, h2⟩ | ⟨q, hq, h1, h2, h3⟩
  · have h3 := idx_none h1
    have hb : batchS s c = newS s c := by unfold batchS; rw [h2]
    by_cases hbad : c.cells = [] ∨ twiceL c.cells = true
    · refine batch_fresh_bad w g c A k D m s xs hs hin hc hoff hcll h1 hbad ?_
      rw [hb]
      unfold newS
      simp only [h3, if_pos hbad]
    · refine batch_fresh_good w g c A k D m s xs hs hin hc hoff hcll h1 (fun h => hbad (.inl h)) (by simpa using fun h => hbad (.inr h)) hlen ?_
      rw [hb]
      unfold newS
      simp only [h3, if_neg hbad]
  · by_cases hle : c.num ≤ s.clients[q].num
    · exact batch_old w g c A k D m s xs hs hin hcll q hq h1 hle h2
    · have hb : batchS s c = newS s c := by
        unfold batchS
        rw [h2]
        simp only
        rw [if_neg (by omega), if_neg (by omega)]
      by_cases hbad : c.cells = [] ∨ twiceL c.cells = true
      · refine batch_again_bad w g c A k D m s xs hs hin hc hoff hcll q hq h1 (by omega) hbad ?_
        rw [hb]
        unfold newS
        simp only [h3, if_pos hbad]
      · refine batch_again_good w g c A k D m s xs hs hin hc hoff hcll q hq h1 (by omega) (fun h => hbad (.inl h)) (by simpa using fun h => hbad (.inr h)) hlen ?_
        rw [hb]
        unfold newS
        simp only [h3, if_neg hbad]
end Go.Proofs.Ytiiogdgnccgehaa
namespace Go.Proofs.Ytiiogdgnccgehaa
open Go.RowKit Go.ChangeMaps Go.MapKept

/-- the map in block b has these entries -/
def Mp (W : World) (b : Nat) (l : List (Int × Value)) : Prop := ∃ es clock, W.heap[b]? = some (.map es clock) ∧ es.toList.map (fun e => (e.key, e.val)) = l.map fun p => (Value.int .i64 p.1, p.2)
theorem Mp.made (W : World) : Mp (W.alloc (.map #[] 0)) W.heap.size [] := ⟨#[], 0, (MapKept.heap_alloc W _).1, rfl⟩
theorem Mp.lt {W : World} {b : Nat} {l : List (Int × Value)} (h : Mp W b l) : b < W.heap.size := by
  obtain ⟨es, clock, hb, _⟩ := h
  exact (Array.getElem?_eq_some_iff.1 hb).1
theorem Mp.grown {W W' : World} {b : Nat} {l : List (Int × Value)} {row : Option Nat} (h : Mp W b l) (hg : W.grownBy W' row) (hne : some b ≠ row) : Mp W' b l := by
  have hlt := h.lt
  obtain ⟨es, clock, hb, he⟩ := h
  exact ⟨es, clock, (hg.block b hlt hne).trans hb, he⟩
theorem findNow_mp (k : Int) : ∀ (es : List MapEntry) (l : List (Int × Value)) (i : Nat), es.map (fun e => (e.key, e.val)) = l.map (fun p => (Value.int .i64 p.1, p.2)) →
    ∃ r, Instr.findNow (.int .i64) (.int .i64 k) es i = some r ∧ r.map (·.2) = (l.find? fun p => decide (p.1 = k)).map (·.2)
  | [], [], i, _ => ⟨none, rfl, rfl⟩
  | [], p :: l, i, h => by simp at h
  | e :: es, [], i, h => by simp at h
  | e :: es, p :: l, i, h => by
    simp only [List.map_cons, List.cons.injEq, Prod.mk.injEq] at h
    obtain ⟨⟨h1, h2⟩, h3⟩ := h
    by_cases hk : p.1 = k
    · refine ⟨some (i, e.val), ?_, ?_⟩
      · simp [Instr.findNow, Instr.sameNow, h1, hk]
      · simp [hk, h2]
    · obtain ⟨r, hr, hv⟩ := findNow_mp k es l (i + 1) h3
      refine ⟨r, ?_, ?_⟩
      · have : (k == p.1) = false := by rw [beq_eq_false_iff_ne]; exact fun e => hk e.symm
        simp [Instr.findNow, Instr.sameNow, h1, this, hr]
      · rw [hv]
        simp [hk]
theorem check_int (W : World) (em : Bool) (k : Int) : (Instr.checkKey em 10000 3 (.int .i64 k)).run Try.prog W = .ok () W :=
  MapKept.run_checkKey Try.underlying3 (d := .int .i64) (by simp [MapKept.IsKey]) em 9999
theorem Mp.insert {W : World} {b : Nat} {l : List (Int × Value)} (h : Mp W b l) (k : Int) (v : Value) (hk : l.find? (fun p => decide (p.1 = k)) = none) :
    ∃ W', (Instr.mapUpdate 102 (.map (some b)) (.int .i64 k) v).run Try.prog W = .ok () W' ∧ Mp W' b (l ++ [(k, v)]) ∧ W.grownBy W' (some b) := by
  obtain ⟨es, clock, hb, he⟩ := h
  obtain ⟨r, hr, hv⟩ := findNow_mp k es.toList l 0 he
  rw [hk] at hv
  have hr0 : r = none := by cases r with
    | none => rfl
    | some x => simp at hv
  subst hr0
  have hf : (Instr.findKey 3 (.int .i64 k) es.toList).run Try.prog W = .ok none W := by
    exact MapKept.run_findKey Try.underlying3 hr
  refine ⟨_, ?_, ⟨es.push { key := .int .i64 k, val := v, born := clock }, clock + 1, heap_setBlock_same hb _, ?_⟩, ⟨rfl, rfl, rfl, by simp [setBlock], fun i _ hi => heap_setBlock_other hb _ (fun e => hi (by rw [e]))⟩⟩
  · simp [Instr.mapUpdate, run_underlying Try.underlying102, MapKept.run_getObj_map hb, check_int, hf, MapKept.run_setObj_map _ hb, Result.andThen, setBlock]
  · simp [he]
theorem Mp.lookup {W : World} {b : Nat} {l : List (Int × Value)} (h : Mp W b l) {k k0 : Int} {v : Value} (hk : l.find? (fun p => decide (p.1 = k)) = some (k0, v)) :
    (Instr.lookup 102 (.map (some b)) (.int .i64 k) false).run Try.prog W = .ok v W := by
  obtain ⟨es, clock, hb, he⟩ := h
  obtain ⟨r, hr, hv⟩ := findNow_mp k es.toList l 0 he
  rw [hk] at hv
  obtain ⟨i, rfl⟩ : ∃ i, r = some (i, v) := by cases r with
    | none => simp at hv
    | some x => simp at hv; exact ⟨x.1, by rw [← hv]⟩
  have hf : (Instr.findKey 3 (.int .i64 k) es.toList).run Try.prog W = .ok (some (i, v)) W := by
    exact MapKept.run_findKey Try.underlying3 hr
  simp [Instr.lookup, run_underlying Try.underlying102, MapKept.run_getObj_map hb, check_int, hf, Result.andThen]
theorem mp_insert {W : World} {ops : Array Oper} {rest : List Oper} {o : Oper} {a : Act} {Q : Exit → Act → World → Prop} {b : Nat} {l : List (Int × Value)} (h : Mp W b l) (k : Int) (v : Value) (hk : l.find? (fun p => decide (p.1 = k)) = none)
    (hg : o.guard = none) (m x y : Operand) (hop : o.op = Op.insert 102 m x y) (hm : a.eval m = .map (some b)) (hx : a.eval x = .int .i64 k) (hy : a.eval y = v)
    (hK : ∀ W', Mp W' b (l ++ [(k, v)]) → W.grownBy W' (some b) → wpList Try.prog ops Q rest (a.put o.dst undef) W') : wpList Try.prog ops Q (o :: rest) a W := by
  refine wpList_plain hg fun K' hK' => ?_
  obtain ⟨W', hrun, r1, r2⟩ := h.insert k v hk
  unfold Oper.wp
  simp [execOp, hop, hm, hx, hy, hrun, Result.andThen]
  exact hK' _ _ (hK W' r1 r2)
theorem mp_lookup {W : World} {ops : Array Oper} {rest : List Oper} {o : Oper} {a : Act} {Q : Exit → Act → World → Prop} {b : Nat} {l : List (Int × Value)} (h : Mp W b l) {k k0 : Int} {v : Value} (hk : l.find? (fun p => decide (p.1 = k)) = some (k0, v))
    (hg : o.guard = none) (m x : Operand) (hop : o.op = Op.lookup 102 m x false) (hm : a.eval m = .map (some b)) (hx : a.eval x = .int .i64 k)
    (hK : wpList Try.prog ops Q rest (a.put o.dst v) W) : wpList Try.prog ops Q (o :: rest) a W := by
  refine wpList_plain hg fun K' hK' => ?_
  have hrun := h.lookup hk
  unfold Oper.wp
  simp [execOp, hop, hm, hx, hrun, Result.andThen]
  exact hK' _ _ hK
end Go.Proofs.Ytiiogdgnccgehaa
