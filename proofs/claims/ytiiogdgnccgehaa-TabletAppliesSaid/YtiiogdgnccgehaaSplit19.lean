/-
  The walk of (*tablet.State).split. No conditions.
-/
import Derived.Test.YtiiogdgnccgehaaIngest19
namespace Go.Proofs.Ytiiogdgnccgehaa
open Go.RowKit
attribute [local go_sem ↓] Go.wp_at_zero Go.wp_at_succ

section
variable {w W W' : World} {g : Nat} {c : Cmd} {A : Option Addr} {k : Nat} {D : Option Addr} {m : Nat} {s : Sta} {xs : SA}
theorem IM.row (h : IM w W g c A k D m s xs) (T : TypeId) (vs : List Value) : IM w (W.alloc (.cells vs.toArray T)) g c A k D m s xs ∧ Blk T (W.alloc (.cells vs.toArray T)) W.heap.size vs := ⟨h.below (below_al _ _), Blk.new _ _ _⟩
theorem split_out {A6 : Option Addr} {c6 n : Nat} {l : List ByteArray} {r : Sta × Eff} (h : IM w W g c A k D m s xs) (ho : OwnS W (w.heap.size + 1 + 1) A6 n c6 l) (hoff : Off w xs g) {W1 W2 : World}
    (hw1 : W1 = (W.setCell ⟨g, 2, none⟩ (.slice A6 n c6)).setCell ⟨g, 1, none⟩ (.int .u64 ((s.epoch + 1 : Nat) : Int))) (hg : W1.grownBy W2 (some (w.heap.size + 1))) (hr : r = ({ s with epoch := s.epoch + 1, borders := l }, ⟨0, false, [], []⟩)) :
    MOut w g xs D r (.returned (.agg #[.int .i64 0, .bool false, .slice none 0 0, .slice none 0 0])) W2 := by
  have hn := ho.len
  subst hr hw1 hn
  have h1 := grownBy_trans (grown_set W g 2 (.slice A6 l.length c6)) (grown_set _ g 1 (.int .u64 ((s.epoch + 1 : Nat) : Int)))
  have hlt := h.lt
  have hst := ((h.st.set 2 (.slice A6 l.length c6)).set 1 (.int .u64 ((s.epoch + 1 : Nat) : Int))).grown hg (fun e => by injection e; omega)
  have hj := Own.grown (Own.grown ho h1 (.inr (own_off ho (by omega)))) hg (.inr (own_off ho (by omega)))
  exact ⟨⟨A6, c6, xs.D, xs.d, xs.F, xs.f⟩, none, 0, none, 0, rfl, hst, ⟨Own.rd hj (by omega), rd_mix h.sin.rj hoff.D h.bl h1 hg, rd_mix h.sin.rc hoff.F h.bl h1 hg⟩, ⟨From.new (fun b hb => by have := Own.lt ho _ hb; have := h1.size; have := hg.size; omega), From.refl _ _ _, From.refl _ _ _⟩, eff_nil _ _ _ _, .inl rfl, grown_mix h.bl h1 hg, Sep.nil _⟩
end
theorem own_ne {w : World} {B n c : Nat} {A : Option Addr} {l : List ByteArray} (h : OwnS w B A n c l) : blk A ≠ some w.heap.size := fun e => by
  have := (Own.lt h _ e).2
  omega
set_option maxRecDepth 100000 in
set_option maxHeartbeats 8000000 in
theorem split_any (w : World) (g : Nat) (c : Cmd) (A : Option Addr) (k : Nat) (D : Option Addr) (m : Nat) (s : Sta) (xs : SA) (hs : Blk 47 w g (s.vs xs)) (hin : StaIn w w.heap.size s xs) (hoff : Off w xs g) (hbl : s.borders.length ≤ 1000) (hrise : Rise s.borders) (hep : s.epoch ≤ 1000) :
    Calls Try.prog 45 #[.pointer (some ⟨g, 0, none⟩), .agg (c.vs A k D m).toArray] w (MOut w g xs D (splitS s c)) := by
  have hm0 := IM.start (c := c) (A := A) (k := k) (D := D) (m := m) w hs hin
  have HO := Lib.hid hoff
  have hcell : ∀ W, Hid (IM w W g c A k D m s xs) → W.cell? ⟨g, 2, none⟩ = some (.slice xs.A s.borders.length xs.a) ∧ W.cell? ⟨w.heap.size, 4, none⟩ = some (.string c.row) := fun W h => ⟨h.out.st.cell (j := 2) rfl, h.out.cm.cell (j := 4) rfl⟩
  have HM := Lib.hid hm0
  have he := empty_size c.row
  unfold effz Cmd.vs at HM
  unfold Cmd.vs
  clear hs hin hoff hm0
  by_cases h0 : c.row.size = 0
  · have HRS := Lib.hid (show splitS s c = (s, ⟨1, false, [], []⟩) by unfold splitS; exact if_pos (.inl h0))
    have h1 : (c.row.toList == []) = true := by rw [he, h0]; rfl
    clear he h0
    go_enter Try.func45, Try.ntmps45
    go_wp2_with
      (show wpList _ _ _ ({ dst := none, op := Op.store _ (Operand.tmp 4) _, type := _, pos := _, after := _, guard := _ } :: _) _ _; refine wpList_store_mid rfl 53 (.tmp 4) (.tmp 16) rfl (w.heap.size + 1) 0 #[.int .i64 1, .bool false, .slice none 0 0, .slice none 0 0] rfl rfl (HM.out.ef.there 4 (Nat.le_refl _)) (by kernel_rfl) (by simp [Value.oneCell']) ?_; refine HM.out.ef.setW [.int .i64 1, .bool false, .slice none 0 0, .slice none 0 0] rfl ?_; intro w10 HZ10 HG10)
    (try simp only [Exit.inBlock, Exit.then])
    refine bodyPost_ret (results_cell_row rfl _ _ (w.heap.size + 1) _ _ _ _ rfl HZ10.out Try.underlying53 rfl (by kernel_rfl)) rfl ?_
    exact HM.out.out HG10.out HRS.out
  · have h1 : (c.row.toList == []) = false := by rw [he]; exact decide_eq_false h0
    clear he
    by_cases h40 : 40 < c.row.size
    · have HRS := Lib.hid (show splitS s c = (s, ⟨1, false, [], []⟩) by unfold splitS; exact if_pos (.inr h40))
      have h2 : decide ((40 : Int) < (c.row.size : Int)) = true := decide_eq_true (by omega)
      clear h0 h40
      go_enter Try.func45, Try.ntmps45
      go_wp2_with
        (show wpList _ _ _ ({ dst := none, op := Op.store _ (Operand.tmp 4) _, type := _, pos := _, after := _, guard := _ } :: _) _ _; refine wpList_store_mid rfl 53 (.tmp 4) (.tmp 16) rfl (w.heap.size + 1) 0 #[.int .i64 1, .bool false, .slice none 0 0, .slice none 0 0] rfl rfl (HM.out.ef.there 4 (Nat.le_refl _)) (by kernel_rfl) (by simp [Value.oneCell']) ?_; refine HM.out.ef.setW [.int .i64 1, .bool false, .slice none 0 0, .slice none 0 0] rfl ?_; intro w10 HZ10 HG10)
      (try simp only [Exit.inBlock, Exit.then])
      refine bodyPost_ret (results_cell_row rfl _ _ (w.heap.size + 1) _ _ _ _ rfl HZ10.out Try.underlying53 rfl (by kernel_rfl)) rfl ?_
      exact HM.out.out HG10.out HRS.out
    · have h2 : decide ((40 : Int) < (c.row.size : Int)) = false := decide_eq_false (by omega)
      cases hmb : memT s.borders c.row with
      | true =>
        have HRS := Lib.hid (show splitS s c = (s, ⟨4, false, [], []⟩) by unfold splitS; rw [if_neg (by omega), hmb]; rfl)
        have HMB := Lib.hid hmb
        clear h0 h40 hmb
        go_enter Try.func45, Try.ntmps45
        go_wp2
        have HM0 := HM
        clear HM
        have HM := Lib.hid (HM0.out.below ((Below.refl _ _).drew))
        clear HM0
        have HC := hcell _ HM
        refine region_wz (fun W => W.cell? ⟨g, 2, none⟩ = some (.slice xs.A s.borders.length xs.a) ∧ W.cell? ⟨w.heap.size, 4, none⟩ = some (.string c.row)) none (by kernel_rfl) ?_
        apply WZ.take (i := 0) (some 18) rfl rfl (by kernel_rfl) (by kernel_rfl) (by kernel_rfl) (calm_panic _) (by kernel_rfl)
        case hy => (refine .inl ⟨by kernel_rfl, fun W hC => ?_⟩; (try dsimp only at hC); go_simp; rfl)
        case hC => exact HC
        case ha => (simp only [Act.put, List.setIfInBounds_toArray, List.set_cons_zero, List.set_cons_succ]; rfl)
        apply WZ.take (i := 1) (some 19) rfl rfl (by kernel_rfl) (by kernel_rfl) (by kernel_rfl) (calm_panic _) (by kernel_rfl)
        case hy => (refine .inl ⟨by kernel_rfl, fun W hC => ?_⟩; (try dsimp only at hC); go_simp; rfl)
        case hC => exact HC
        case ha => (simp only [Act.put, List.setIfInBounds_toArray, List.set_cons_zero, List.set_cons_succ]; rfl)
        apply WZ.take (i := 2) (some 20) rfl rfl (by kernel_rfl) (by kernel_rfl) (by kernel_rfl) (calm_panic _) (by kernel_rfl)
        case hy => (refine .inl ⟨by kernel_rfl, fun W hC => ?_⟩; (try dsimp only at hC); go_simp; rfl)
        case hC => exact HC
        case ha => (simp only [Act.put, List.setIfInBounds_toArray, List.set_cons_zero, List.set_cons_succ]; rfl)
        apply WZ.take (i := 3) (some 21) rfl rfl (by kernel_rfl) (by kernel_rfl) (by kernel_rfl) (calm_panic _) (by kernel_rfl)
        case hy => (refine .inl ⟨by kernel_rfl, fun W hC => ?_⟩; (try dsimp only at hC); go_simp; rfl)
        case hC => exact HC
        case ha => (simp only [Act.put, List.setIfInBounds_toArray, List.set_cons_zero, List.set_cons_succ]; rfl)
        apply WZ.take (i := 4) (some 22) rfl rfl (by kernel_rfl) (by kernel_rfl) (by kernel_rfl) (calm_panic _) (by kernel_rfl)
        case hy => (refine .inl ⟨by kernel_rfl, fun W hC => ?_⟩; (try dsimp only at hC); go_simp; rfl)
        case hC => exact HC
        case ha => (simp only [Act.put, List.setIfInBounds_toArray, List.set_cons_zero, List.set_cons_succ]; rfl)
        apply WZ.take (i := 5) (some 23) rfl rfl (by kernel_rfl) (by kernel_rfl) (by kernel_rfl) (calm_panic _) (by kernel_rfl)
        case hy => (refine .inl ⟨by kernel_rfl, fun W hC => ?_⟩; (try dsimp only at hC); go_simp; rfl)
        case hC => exact HC
        case ha => (simp only [Act.put, List.setIfInBounds_toArray, List.set_cons_zero, List.set_cons_succ]; rfl)
        -- 6
        refine WZ.one (i := 6) rfl (by kernel_rfl) ?_
        conv => arg 4; arg 1; whnf
        go_wp2_with (go_at_call 72; go_loud (refine (search_any s.borders xs.A xs.a c.row _ hrise HM.out.sta.rb hbl).mono ?_); rw [HMB.out]; rintro e w2 ⟨rfl, hb⟩; have HM0 := HM; clear HM; have HM := Lib.hid (HM0.out.below hb); clear HM0 hb)
        clear HC
        have HC := hcell _ HM
        refine ⟨HC, ?_⟩
        apply WZ.take (i := 7) (some 17) rfl rfl (by kernel_rfl) (by kernel_rfl) (by kernel_rfl) (calm_panic _) (by kernel_rfl)
        case hy => (refine .inl ⟨by kernel_rfl, fun W hC => ?_⟩; (try dsimp only at hC); go_simp; rfl)
        case hC => exact HC
        case ha => (simp only [Act.put, List.setIfInBounds_toArray, List.set_cons_zero, List.set_cons_succ]; rfl)
        apply WZ.take (i := 8) (some 25) rfl rfl (by kernel_rfl) (by kernel_rfl) (by kernel_rfl) (calm_panic _) (by kernel_rfl)
        case hy => (refine .inl ⟨by kernel_rfl, fun W hC => ?_⟩; (try dsimp only at hC); go_simp; rfl)
        case hC => exact HC
        case ha => (simp only [Act.put, List.setIfInBounds_toArray, List.set_cons_zero, List.set_cons_succ]; rfl)
        apply WZ.take (i := 9) (some 26) rfl rfl (by kernel_rfl) (by kernel_rfl) (by kernel_rfl) (calm_panic _) (by kernel_rfl)
        case hy => (refine .inl ⟨by kernel_rfl, fun W hC => ?_⟩; (try dsimp only at hC); go_simp; rfl)
        case hC => exact HC
        case ha => (simp only [Act.put, List.setIfInBounds_toArray, List.set_cons_zero, List.set_cons_succ]; rfl)
        apply WZ.take (i := 10) (some 5) rfl rfl (by kernel_rfl) (by kernel_rfl) (by kernel_rfl) (calm_panic _) (by kernel_rfl)
        case hy => (refine .inl ⟨by kernel_rfl, fun W hC => ?_⟩; (try dsimp only at hC); go_simp; rfl)
        case hC => exact HC
        case ha => (simp only [Act.put, List.setIfInBounds_toArray, List.set_cons_zero, List.set_cons_succ]; rfl)
        apply WZ.take (i := 11) (some 6) rfl rfl (by kernel_rfl) (by kernel_rfl) (by kernel_rfl) (calm_panic _) (by kernel_rfl)
        case hy => (refine .inl ⟨by kernel_rfl, fun W hC => ?_⟩; (try dsimp only at hC); go_simp; rfl)
        case hC => exact HC
        case ha => (simp only [Act.put, List.setIfInBounds_toArray, List.set_cons_zero, List.set_cons_succ]; rfl)
        refine WZ.done (by kernel_rfl) ?_ _
        simp only [Calm, Exit.then]
        go_wp2_with
          (show wpList _ _ _ ({ dst := none, op := Op.store _ (Operand.tmp 4) _, type := _, pos := _, after := _, guard := _ } :: _) _ _; refine wpList_store_mid rfl 53 (.tmp 4) (.tmp 28) rfl (w.heap.size + 1) 0 #[.int .i64 4, .bool false, .slice none 0 0, .slice none 0 0] rfl rfl (HM.out.ef.there 4 (Nat.le_refl _)) (by kernel_rfl) (by simp [Value.oneCell']) ?_; refine HM.out.ef.setW [.int .i64 4, .bool false, .slice none 0 0, .slice none 0 0] rfl ?_; intro w10 HZ10 HG10)
        (try simp only [Exit.inBlock, Exit.then])
        refine bodyPost_ret (results_cell_row rfl _ _ (w.heap.size + 1) _ _ _ _ rfl HZ10.out Try.underlying53 rfl (by kernel_rfl)) rfl ?_
        exact HM.out.out HG10.out HRS.out
      | false =>
        have HRS := Lib.hid (show splitS s c = ({ s with epoch := s.epoch + 1, borders := putAt s.borders (posT s.borders c.row) c.row }, ⟨0, false, [], []⟩) by unfold splitS; rw [if_neg (by omega), hmb]; rfl)
        have HMB := Lib.hid hmb
        clear h0 h40 hmb
        go_enter Try.func45, Try.ntmps45
        go_wp2
        have HM0 := HM
        clear HM
        have HM := Lib.hid (HM0.out.below ((Below.refl _ _).drew))
        clear HM0
        have HC := hcell _ HM
        refine region_wz (fun W => W.cell? ⟨g, 2, none⟩ = some (.slice xs.A s.borders.length xs.a) ∧ W.cell? ⟨w.heap.size, 4, none⟩ = some (.string c.row)) none (by kernel_rfl) ?_
        apply WZ.take (i := 0) (some 18) rfl rfl (by kernel_rfl) (by kernel_rfl) (by kernel_rfl) (calm_panic _) (by kernel_rfl)
        case hy => (refine .inl ⟨by kernel_rfl, fun W hC => ?_⟩; (try dsimp only at hC); go_simp; rfl)
        case hC => exact HC
        case ha => (simp only [Act.put, List.setIfInBounds_toArray, List.set_cons_zero, List.set_cons_succ]; rfl)
        apply WZ.take (i := 1) (some 19) rfl rfl (by kernel_rfl) (by kernel_rfl) (by kernel_rfl) (calm_panic _) (by kernel_rfl)
        case hy => (refine .inl ⟨by kernel_rfl, fun W hC => ?_⟩; (try dsimp only at hC); go_simp; rfl)
        case hC => exact HC
        case ha => (simp only [Act.put, List.setIfInBounds_toArray, List.set_cons_zero, List.set_cons_succ]; rfl)
        apply WZ.take (i := 2) (some 20) rfl rfl (by kernel_rfl) (by kernel_rfl) (by kernel_rfl) (calm_panic _) (by kernel_rfl)
        case hy => (refine .inl ⟨by kernel_rfl, fun W hC => ?_⟩; (try dsimp only at hC); go_simp; rfl)
        case hC => exact HC
        case ha => (simp only [Act.put, List.setIfInBounds_toArray, List.set_cons_zero, List.set_cons_succ]; rfl)
        apply WZ.take (i := 3) (some 21) rfl rfl (by kernel_rfl) (by kernel_rfl) (by kernel_rfl) (calm_panic _) (by kernel_rfl)
        case hy => (refine .inl ⟨by kernel_rfl, fun W hC => ?_⟩; (try dsimp only at hC); go_simp; rfl)
        case hC => exact HC
        case ha => (simp only [Act.put, List.setIfInBounds_toArray, List.set_cons_zero, List.set_cons_succ]; rfl)
        apply WZ.take (i := 4) (some 22) rfl rfl (by kernel_rfl) (by kernel_rfl) (by kernel_rfl) (calm_panic _) (by kernel_rfl)
        case hy => (refine .inl ⟨by kernel_rfl, fun W hC => ?_⟩; (try dsimp only at hC); go_simp; rfl)
        case hC => exact HC
        case ha => (simp only [Act.put, List.setIfInBounds_toArray, List.set_cons_zero, List.set_cons_succ]; rfl)
        apply WZ.take (i := 5) (some 23) rfl rfl (by kernel_rfl) (by kernel_rfl) (by kernel_rfl) (calm_panic _) (by kernel_rfl)
        case hy => (refine .inl ⟨by kernel_rfl, fun W hC => ?_⟩; (try dsimp only at hC); go_simp; rfl)
        case hC => exact HC
        case ha => (simp only [Act.put, List.setIfInBounds_toArray, List.set_cons_zero, List.set_cons_succ]; rfl)
        -- 6
        refine WZ.one (i := 6) rfl (by kernel_rfl) ?_
        conv => arg 4; arg 1; whnf
        go_wp2_with (go_at_call 72; go_loud (refine (search_any s.borders xs.A xs.a c.row _ hrise HM.out.sta.rb hbl).mono ?_); rw [HMB.out]; rintro e w2 ⟨rfl, hb⟩; have HM0 := HM; clear HM; have HM := Lib.hid (HM0.out.below hb); clear HM0 hb)
        clear HC
        have HC := hcell _ HM
        refine ⟨HC, ?_⟩
        apply WZ.take (i := 7) (some 17) rfl rfl (by kernel_rfl) (by kernel_rfl) (by kernel_rfl) (calm_panic _) (by kernel_rfl)
        case hy => (refine .inl ⟨by kernel_rfl, fun W hC => ?_⟩; (try dsimp only at hC); go_simp; rfl)
        case hC => exact HC
        case ha => (simp only [Act.put, List.setIfInBounds_toArray, List.set_cons_zero, List.set_cons_succ]; rfl)
        apply WZ.take (i := 8) (some 25) rfl rfl (by kernel_rfl) (by kernel_rfl) (by kernel_rfl) (calm_panic _) (by kernel_rfl)
        case hy => (refine .inl ⟨by kernel_rfl, fun W hC => ?_⟩; (try dsimp only at hC); go_simp; rfl)
        case hC => exact HC
        case ha => (simp only [Act.put, List.setIfInBounds_toArray, List.set_cons_zero, List.set_cons_succ]; rfl)
        apply WZ.take (i := 9) (some 26) rfl rfl (by kernel_rfl) (by kernel_rfl) (by kernel_rfl) (calm_panic _) (by kernel_rfl)
        case hy => (refine .inl ⟨by kernel_rfl, fun W hC => ?_⟩; (try dsimp only at hC); go_simp; rfl)
        case hC => exact HC
        case ha => (simp only [Act.put, List.setIfInBounds_toArray, List.set_cons_zero, List.set_cons_succ]; rfl)
        apply WZ.take (i := 10) (some 5) rfl rfl (by kernel_rfl) (by kernel_rfl) (by kernel_rfl) (calm_panic _) (by kernel_rfl)
        case hy => (refine .inl ⟨by kernel_rfl, fun W hC => ?_⟩; (try dsimp only at hC); go_simp; rfl)
        case hC => exact HC
        case ha => (simp only [Act.put, List.setIfInBounds_toArray, List.set_cons_zero, List.set_cons_succ]; rfl)
        apply WZ.take (i := 11) (some 6) rfl rfl (by kernel_rfl) (by kernel_rfl) (by kernel_rfl) (calm_panic _) (by kernel_rfl)
        case hy => (refine .inl ⟨by kernel_rfl, fun W hC => ?_⟩; (try dsimp only at hC); go_simp; rfl)
        case hC => exact HC
        case ha => (simp only [Act.put, List.setIfInBounds_toArray, List.set_cons_zero, List.set_cons_succ]; rfl)
        refine WZ.done (by kernel_rfl) ?_ _
        simp only [Calm, Exit.then]
        go_wp2
        have HM0 := HM
        clear HM
        have HM := Lib.hid (HM0.out.below ((Below.refl _ _).drew))
        clear HM0
        have HC := hcell _ HM
        refine region_wz (fun W => W.cell? ⟨g, 2, none⟩ = some (.slice xs.A s.borders.length xs.a) ∧ W.cell? ⟨w.heap.size, 4, none⟩ = some (.string c.row)) (some 13) (by kernel_rfl) ?_
        apply WZ.take (i := 0) (some 29) rfl rfl (by kernel_rfl) (by kernel_rfl) (by kernel_rfl) (calm_panic _) (by kernel_rfl)
        case hy => (refine .inl ⟨by kernel_rfl, fun W hC => ?_⟩; (try dsimp only at hC); go_simp; rfl)
        case hC => exact HC
        case ha => (simp only [Act.put, List.setIfInBounds_toArray, List.set_cons_zero, List.set_cons_succ]; rfl)
        apply WZ.take (i := 1) (some 30) rfl rfl (by kernel_rfl) (by kernel_rfl) (by kernel_rfl) (calm_panic _) (by kernel_rfl)
        case hy => (refine .inl ⟨by kernel_rfl, fun W hC => ?_⟩; (try dsimp only at hC); go_simp; rfl)
        case hC => exact HC
        case ha => (simp only [Act.put, List.setIfInBounds_toArray, List.set_cons_zero, List.set_cons_succ]; rfl)
        apply WZ.take (i := 2) (some 31) rfl rfl (by kernel_rfl) (by kernel_rfl) (by kernel_rfl) (calm_panic _) (by kernel_rfl)
        case hy => (refine .inl ⟨by kernel_rfl, fun W hC => ?_⟩; (try dsimp only at hC); go_simp; rfl)
        case hC => exact HC
        case ha => (simp only [Act.put, List.setIfInBounds_toArray, List.set_cons_zero, List.set_cons_succ]; rfl)
        apply WZ.take (i := 3) (some 32) rfl rfl (by kernel_rfl) (by kernel_rfl) (by kernel_rfl) (calm_panic _) (by kernel_rfl)
        case hy => (refine .inl ⟨by kernel_rfl, fun W hC => ?_⟩; (try dsimp only at hC); go_simp; rfl)
        case hC => exact HC
        case ha => (simp only [Act.put, List.setIfInBounds_toArray, List.set_cons_zero, List.set_cons_succ]; rfl)
        apply WZ.take (i := 4) (some 33) rfl rfl (by kernel_rfl) (by kernel_rfl) (by kernel_rfl) (calm_panic _) (by kernel_rfl)
        case hy => (refine .inl ⟨by kernel_rfl, fun W hC => ?_⟩; (try dsimp only at hC); go_simp; rfl)
        case hC => exact HC
        case ha => (simp only [Act.put, List.setIfInBounds_toArray, List.set_cons_zero, List.set_cons_succ]; rfl)
        apply WZ.take (i := 6) (some 35) rfl rfl (by kernel_rfl) (by kernel_rfl) (by kernel_rfl) (calm_panic _) (by kernel_rfl)
        case hy => (refine .inl ⟨by kernel_rfl, fun W hC => ?_⟩; (try dsimp only at hC); go_simp; rfl)
        case hC => exact HC
        case ha => (simp only [Act.put, List.setIfInBounds_toArray, List.set_cons_zero, List.set_cons_succ]; rfl)
        apply WZ.take (i := 7) (some 36) rfl rfl (by kernel_rfl) (by kernel_rfl) (by kernel_rfl) (calm_panic _) (by kernel_rfl)
        case hy => (refine .inl ⟨by kernel_rfl, fun W hC => ?_⟩; (try dsimp only at hC); go_simp; rfl)
        case hC => exact HC
        case ha => (simp only [Act.put, List.setIfInBounds_toArray, List.set_cons_zero, List.set_cons_succ]; rfl)
        apply WZ.take (i := 8) (some 37) rfl rfl (by kernel_rfl) (by kernel_rfl) (by kernel_rfl) (calm_panic _) (by kernel_rfl)
        case hy => (refine .inl ⟨by kernel_rfl, fun W hC => ?_⟩; (try dsimp only at hC); go_simp; rfl)
        case hC => exact HC
        case ha => (simp only [Act.put, List.setIfInBounds_toArray, List.set_cons_zero, List.set_cons_succ]; rfl)
        refine WZ.two (i := 5) (j := 9) rfl rfl (by kernel_rfl) ?_ ?_
        · conv => arg 4; arg 1; whnf
          go_wp2_with (go_at_call 74; go_loud (refine (cloneTexts_any xs.A xs.a s.borders _ HM.out.sta.rb (by omega)).mono ?_); rintro e w5 ⟨A5, c5, rfl, ho, hb⟩; have HOJ := Lib.hid (show OwnS _ _ _ _ _ _ from Own.lower ho (Nat.succ_le_of_lt HM.out.ef.lt)); (first | (have HNE := Lib.hid (own_off ho HR.out.lt); have HR0 := HR; clear HR; have HR := Lib.hid (HR0.out.below hb HR0.out.lt); clear HR0) | skip); have HM0 := HM; clear HM; have HM := Lib.hid (HM0.out.below hb); clear HM0 hb ho)
          clear HC
          have HC := hcell _ HM
          refine ⟨HC, ?_⟩
          -- 9
          refine WZ.one (i := 9) rfl (by kernel_rfl) ?_
          conv => arg 4; arg 1; whnf
          go_wp2_with fail
          have HM0 := HM
          clear HM
          have hn := HM0.out.row 9 [.string c.row]
          have HM := Lib.hid hn.1
          have HR := Lib.hid hn.2
          (first | (have HNE := Lib.hid (own_ne HOJ.out); have HOJ0 := HOJ; clear HOJ; have HOJ := Lib.hid (OwnS.below HOJ0.out (below_al _ (.cells #[.string c.row] 9))); clear HOJ0) | skip)
          clear HM0 HC hn
          have HC := hcell _ HM
          refine ⟨HC, ?_⟩
          -- 10
          refine WZ.one (i := 10) rfl (by kernel_rfl) ?_
          conv => arg 4; arg 1; whnf
          go_wp2_with (go_at_call 73; go_loud (refine (insert_any s.borders (posT s.borders c.row) c5 (w.heap.size + 1 + 1) _ A5 c.row _ HOJ.out (posT_le _ _) hbl HR.out HNE.out (Nat.succ_le_of_lt HM.out.ef.lt)).mono ?_); rintro e w7 ⟨A6, c6, rfl, ho, hg⟩; have HO6 := Lib.hid ho; have HM0 := HM; clear HM; have HM := Lib.hid (HM0.out.own hg (fun q e => by have := (Own.lt HOJ.out _ e).1; omega)); have f2 := HM.out.st.free 2; clear HM0 hg ho)
          clear HC
          have HC := hcell _ HM
          refine ⟨HC, ?_⟩
          apply WZ.takeF (i := 11) (some 40) rfl rfl (by kernel_rfl) (by kernel_rfl) (by kernel_rfl) (calm_panic _) (by kernel_rfl)
          case hy => (refine .inl ⟨by kernel_rfl, fun W hC => ?_⟩; (try dsimp only at hC); go_simp; rfl)
          case hC => exact HC
          case ha => (simp only [Act.put, List.setIfInBounds_toArray, List.set_cons_zero, List.set_cons_succ]; rfl)
          apply WZ.take (i := 12) (some 41) rfl rfl (by kernel_rfl) (by kernel_rfl) (by kernel_rfl) (calm_panic _) (by kernel_rfl)
          case hy => (refine .inl ⟨by kernel_rfl, fun W hC => ?_⟩; (try dsimp only at hC); go_simp; rfl)
          case hC => exact HC
          case ha => (simp only [Act.put, List.setIfInBounds_toArray, List.set_cons_zero, List.set_cons_succ]; rfl)
          -- 13
          refine WZ.last (i := 13) rfl (by kernel_rfl) (by kernel_rfl) ?_
          conv => arg 4; arg 1; whnf
          go_wp2
          refine WZ.done (by kernel_rfl) ?_ _
          simp only [Calm, Exit.then]
          have c1 := (HM.out.st.set 2 (.slice A6 (s.borders.length + 1) c6)).cell (j := 1) rfl
          have f1 := (HM.out.st.set 2 (.slice A6 (s.borders.length + 1) c6)).free 1
          have hwe : IntKind.u64.wrap ((s.epoch : Int) + 1) = ((s.epoch + 1 : Nat) : Int) := wrap_nat (s.epoch + 1) (by omega)
          have HEF := Lib.hid (HM.out.ef.grown (grownBy_trans (grown_set w7 g 2 (.slice A6 (s.borders.length + 1) c6)) (grown_set _ g 1 (.int .u64 ((s.epoch + 1 : Nat) : Int)))) (fun e => by injection e; have := HM.out.lt; omega))
          go_wp2_with (show wpList _ _ _ ({ dst := none, op := Op.store _ (Operand.tmp 4) _, type := _, pos := _, after := _, guard := _ } :: _) _ _; refine wpList_store_mid rfl 53 (.tmp 4) (.tmp 49) rfl (w.heap.size + 1) 0 #[.int .i64 0, .bool false, .slice none 0 0, .slice none 0 0] rfl rfl (HEF.out.there 4 (Nat.le_refl _)) (by kernel_rfl) (by simp [Value.oneCell']) ?_; refine HEF.out.setW [.int .i64 0, .bool false, .slice none 0 0, .slice none 0 0] rfl ?_; intro w10 HZ10 HG10)
          (try simp only [Exit.inBlock, Exit.then])
          refine bodyPost_ret (results_cell_row rfl _ _ (w.heap.size + 1) _ _ _ _ rfl HZ10.out Try.underlying53 rfl (by kernel_rfl)) rfl ?_
          exact split_out HM.out HO6.out HO.out rfl HG10.out HRS.out
        · conv => arg 4; arg 1; whnf
          go_wp2_with fail
          have HM0 := HM
          clear HM
          have hn := HM0.out.row 9 [.string c.row]
          have HM := Lib.hid hn.1
          have HR := Lib.hid hn.2
          (first | (have HNE := Lib.hid (own_ne HOJ.out); have HOJ0 := HOJ; clear HOJ; have HOJ := Lib.hid (OwnS.below HOJ0.out (below_al _ (.cells #[.string c.row] 9))); clear HOJ0) | skip)
          clear HM0 HC hn
          have HC := hcell _ HM
          refine ⟨HC, ?_⟩
          -- 5
          refine WZ.one (i := 5) rfl (by kernel_rfl) ?_
          conv => arg 4; arg 1; whnf
          go_wp2_with (go_at_call 74; go_loud (refine (cloneTexts_any xs.A xs.a s.borders _ HM.out.sta.rb (by omega)).mono ?_); rintro e w5 ⟨A5, c5, rfl, ho, hb⟩; have HOJ := Lib.hid (show OwnS _ _ _ _ _ _ from Own.lower ho (Nat.succ_le_of_lt HM.out.ef.lt)); (first | (have HNE := Lib.hid (own_off ho HR.out.lt); have HR0 := HR; clear HR; have HR := Lib.hid (HR0.out.below hb HR0.out.lt); clear HR0) | skip); have HM0 := HM; clear HM; have HM := Lib.hid (HM0.out.below hb); clear HM0 hb ho)
          clear HC
          have HC := hcell _ HM
          refine ⟨HC, ?_⟩
          -- 10
          refine WZ.one (i := 10) rfl (by kernel_rfl) ?_
          conv => arg 4; arg 1; whnf
          go_wp2_with (go_at_call 73; go_loud (refine (insert_any s.borders (posT s.borders c.row) c5 (w.heap.size + 1 + 1) _ A5 c.row _ HOJ.out (posT_le _ _) hbl HR.out HNE.out (Nat.succ_le_of_lt HM.out.ef.lt)).mono ?_); rintro e w7 ⟨A6, c6, rfl, ho, hg⟩; have HO6 := Lib.hid ho; have HM0 := HM; clear HM; have HM := Lib.hid (HM0.out.own hg (fun q e => by have := (Own.lt HOJ.out _ e).1; omega)); have f2 := HM.out.st.free 2; clear HM0 hg ho)
          clear HC
          have HC := hcell _ HM
          refine ⟨HC, ?_⟩
          apply WZ.takeF (i := 11) (some 40) rfl rfl (by kernel_rfl) (by kernel_rfl) (by kernel_rfl) (calm_panic _) (by kernel_rfl)
          case hy => (refine .inl ⟨by kernel_rfl, fun W hC => ?_⟩; (try dsimp only at hC); go_simp; rfl)
          case hC => exact HC
          case ha => (simp only [Act.put, List.setIfInBounds_toArray, List.set_cons_zero, List.set_cons_succ]; rfl)
          apply WZ.take (i := 12) (some 41) rfl rfl (by kernel_rfl) (by kernel_rfl) (by kernel_rfl) (calm_panic _) (by kernel_rfl)
          case hy => (refine .inl ⟨by kernel_rfl, fun W hC => ?_⟩; (try dsimp only at hC); go_simp; rfl)
          case hC => exact HC
          case ha => (simp only [Act.put, List.setIfInBounds_toArray, List.set_cons_zero, List.set_cons_succ]; rfl)
          -- 13
          refine WZ.last (i := 13) rfl (by kernel_rfl) (by kernel_rfl) ?_
          conv => arg 4; arg 1; whnf
          go_wp2
          refine WZ.done (by kernel_rfl) ?_ _
          simp only [Calm, Exit.then]
          have c1 := (HM.out.st.set 2 (.slice A6 (s.borders.length + 1) c6)).cell (j := 1) rfl
          have f1 := (HM.out.st.set 2 (.slice A6 (s.borders.length + 1) c6)).free 1
          have hwe : IntKind.u64.wrap ((s.epoch : Int) + 1) = ((s.epoch + 1 : Nat) : Int) := wrap_nat (s.epoch + 1) (by omega)
          have HEF := Lib.hid (HM.out.ef.grown (grownBy_trans (grown_set w7 g 2 (.slice A6 (s.borders.length + 1) c6)) (grown_set _ g 1 (.int .u64 ((s.epoch + 1 : Nat) : Int)))) (fun e => by injection e; have := HM.out.lt; omega))
          go_wp2_with (show wpList _ _ _ ({ dst := none, op := Op.store _ (Operand.tmp 4) _, type := _, pos := _, after := _, guard := _ } :: _) _ _; refine wpList_store_mid rfl 53 (.tmp 4) (.tmp 49) rfl (w.heap.size + 1) 0 #[.int .i64 0, .bool false, .slice none 0 0, .slice none 0 0] rfl rfl (HEF.out.there 4 (Nat.le_refl _)) (by kernel_rfl) (by simp [Value.oneCell']) ?_; refine HEF.out.setW [.int .i64 0, .bool false, .slice none 0 0, .slice none 0 0] rfl ?_; intro w10 HZ10 HG10)
          (try simp only [Exit.inBlock, Exit.then])
          refine bodyPost_ret (results_cell_row rfl _ _ (w.heap.size + 1) _ _ _ _ rfl HZ10.out Try.underlying53 rfl (by kernel_rfl)) rfl ?_
          exact split_out HM.out HO6.out HO.out rfl HG10.out HRS.out
end Go.Proofs.Ytiiogdgnccgehaa
