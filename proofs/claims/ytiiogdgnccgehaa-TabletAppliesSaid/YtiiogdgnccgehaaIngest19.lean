/-
  The walk of (*tablet.State).ingest. No conditions.
-/
import Derived.Test.YtiiogdgnccgehaaJG
import Derived.Deep.DeepCutAuto
namespace Go.Proofs.Ytiiogdgnccgehaa
open Go.RowKit
attribute [local go_sem ↓] Go.wp_at_zero Go.wp_at_succ

def effz : List Value := [.int .i64 0, .bool false, .slice none 0 0, .slice none 0 0]
/-- inside a method: the state in block g, the command and the effect behind w -/
structure IM (w W : World) (g : Nat) (c : Cmd) (A : Option Addr) (k : Nat) (D : Option Addr) (m : Nat) (s : Sta) (xs : SA) : Prop where
  bl : Below w.heap.size w W
  st : Blk 47 W g (s.vs xs)
  cm : Blk 27 W w.heap.size (c.vs A k D m)
  ef : Blk 53 W (w.heap.size + 1) effz
  lt : g < w.heap.size
  sin : StaIn w w.heap.size s xs
section
variable {w W W' : World} {g : Nat} {c : Cmd} {A : Option Addr} {k : Nat} {D : Option Addr} {m : Nat} {s : Sta} {xs : SA}
theorem IM.below (h : IM w W g c A k D m s xs) (hb : Below W.heap.size W W') : IM w W' g c A k D m s xs :=
  ⟨h.bl.trans (hb.mono h.bl.size), h.st.below hb h.st.lt, h.cm.below hb h.cm.lt, h.ef.below hb h.ef.lt, h.lt, h.sin⟩
theorem IM.sta (h : IM w W g c A k D m s xs) : StaIn W W.heap.size s xs := h.sin.grown h.bl
theorem IM.start (w : World) (hs : Blk 47 w g (s.vs xs)) (hin : StaIn w w.heap.size s xs) : IM w ((w.alloc (.cells (c.vs A k D m).toArray 27)).alloc (.cells effz.toArray 53)) g c A k D m s xs := by
  have h1 := Blk.new 27 w (c.vs A k D m)
  have h2 := Blk.new 53 (w.alloc (.cells (c.vs A k D m).toArray 27)) effz
  rw [World.size_alloc] at h2
  have hb := below_al2 w (.cells (c.vs A k D m).toArray 27) (.cells effz.toArray 53)
  exact ⟨hb, hs.below hb hs.lt, h1.below (below_al _ _) h1.lt, h2, hs.lt, hin⟩
theorem IM.far (h : IM w W g c A k D m s xs) {q : Nat} (hg : W.grownBy W' (some q)) (hq : w.heap.size + 1 < q) : IM w W' g c A k D m s xs :=
  ⟨below_grown h.bl h.bl.size hg (by omega), h.st.grown hg (fun e => by injection e; have := h.lt; omega), h.cm.grown hg (fun e => by injection e; omega), h.ef.grown hg (fun e => by injection e; omega), h.lt, h.sin⟩
/-- a block made inside the method -/
def New (w W : World) (T : TypeId) (q : Nat) (vs : List Value) : Prop := Blk T W q vs ∧ w.heap.size + 1 < q
theorem New.below {T : TypeId} {q : Nat} {vs : List Value} (h : New w W T q vs) (hb : Below W.heap.size W W') : New w W' T q vs := ⟨h.1.below hb h.1.lt, h.2⟩
theorem IM.new (h : IM w W g c A k D m s xs) (T : TypeId) (vs : List Value) : IM w (W.alloc (.cells vs.toArray T)) g c A k D m s xs ∧ New w (W.alloc (.cells vs.toArray T)) T W.heap.size vs := ⟨h.below (below_al _ _), Blk.new _ _ _, h.ef.lt⟩
theorem IM.lit (h : IM w W g c A k D m s xs) (T : TypeId) (vs : List Value) : IM w (W.alloc (.cells vs.toArray T)) g c A k D m s xs ∧ Rd (W.alloc (.cells vs.toArray T)) (W.alloc (.cells vs.toArray T)).heap.size (some ⟨W.heap.size, 0, none⟩) vs := ⟨h.below (below_al _ _), Rd.ofBlock (heap_alloc_new W _) (by simp)⟩
theorem IM.setE (h : IM w W g c A k D m s xs) {T : TypeId} {q : Nat} {zs : List Value} (hj : New w W T q zs) (vs : List Value) (hl : vs.length = zs.length) (hw : W.setCells q 0 vs = W') : IM w W' g c A k D m s xs ∧ New w W' T q vs := by
  obtain ⟨h1, h2⟩ := hj.1.setE vs hl hw
  exact ⟨h.far h2 hj.2, h1, hj.2⟩
/-- nothing but an effect without lists -/
theorem IM.out {r : Sta × Eff} {e : Int} {d : Bool} (h : IM w W g c A k D m s xs) (hg : W.grownBy W' (some (w.heap.size + 1))) (hr : r = (s, ⟨e, d, [], []⟩)) :
    MOut w g xs D r (.returned (.agg #[.int .i64 e, .bool d, .slice none 0 0, .slice none 0 0])) W' := by
  subst hr
  have hb : Below w.heap.size w W' := below_grown h.bl h.bl.size hg (by omega)
  exact ⟨xs, none, 0, none, 0, rfl, h.st.grown hg (fun e => by injection e; have := h.lt; omega), h.sin.grown hb, SFrom.refl _ _ _, eff_nil _ _ _ _, .inl rfl, grownBy_below hb _, Sep.nil _⟩
end
theorem start_size (w : World) (o p : Obj) : ((w.alloc o).alloc p).drew.heap.size = w.heap.size + 1 + 1 := by
  show ((w.alloc o).alloc p).heap.size = _
  rw [World.size_alloc, World.size_alloc]
theorem IM.own {w W W' : World} {g : Nat} {c : Cmd} {A : Option Addr} {k : Nat} {D : Option Addr} {m : Nat} {s : Sta} {xs : SA} (h : IM w W g c A k D m s xs) {row : Option Nat} (hg : W.grownBy W' row) (hq : ∀ q, row = some q → w.heap.size + 1 < q) : IM w W' g c A k D m s xs :=
  ⟨h.bl.grown hg h.bl.size (fun q e => by have := hq q e; omega), h.st.grown hg (fun e => by have := hq _ e; have := h.lt; omega), h.cm.grown hg (fun e => by have := hq _ e; omega), h.ef.grown hg (fun e => by have := hq _ e; omega), h.lt, h.sin⟩
theorem grown_mix {w W W1 W2 : World} {g : Nat} (hb : Below w.heap.size w W) (h1 : W.grownBy W1 (some g)) (h2 : W1.grownBy W2 (some (w.heap.size + 1))) : w.grownBy W2 (some g) :=
  ⟨h2.os.trans (h1.os.trans hb.os), h2.tape.trans (h1.tape.trans hb.tape), h2.output.trans (h1.output.trans hb.output), Nat.le_trans hb.size (Nat.le_trans h1.size h2.size), fun q hq hne => by
    rw [h2.block q (Nat.lt_of_lt_of_le hq (Nat.le_trans hb.size h1.size)) (fun e => by injection e; omega), h1.block q (Nat.lt_of_lt_of_le hq hb.size) hne, hb.block q hq]⟩
/-- a list of the state's, behind the method -/
theorem rd_mix {w W W1 W2 : World} {g : Nat} {A : Option Addr} {l : List Value} (h : Rd w w.heap.size A l) (ho : blk A ≠ some g) (hb : Below w.heap.size w W) (h1 : W.grownBy W1 (some g)) (h2 : W1.grownBy W2 (some (w.heap.size + 1))) : Rd W2 W2.heap.size A l := by
  have hm := grown_mix hb h1 h2
  exact h.grownOff hm (.inr ho)
/-- none of a state's lists lies in block g -/
structure Off (w : World) (xs : SA) (g : Nat) : Prop where
  A : blk xs.A ≠ some g
  D : blk xs.D ≠ some g
  F : blk xs.F ≠ some g
  lA : ∀ b, blk xs.A = some b → b < w.heap.size
  lD : ∀ b, blk xs.D = some b → b < w.heap.size
  lF : ∀ b, blk xs.F = some b → b < w.heap.size
theorem ing_out {w W W2 : World} {g : Nat} {c : Cmd} {A : Option Addr} {k : Nat} {D : Option Addr} {m : Nat} {s : Sta} {xs : SA} {A6 : Option Addr} {c6 : Nat} {y : Jb} {r : Sta × Eff} (h : IM w W g c A k D m s xs) (ho : OwnJ W (w.heap.size + 1 + 1) A6 (s.jobs.length + 1) c6 (s.jobs ++ [y])) (hoff : Off w xs g) (hD : blk D ≠ some g) (hc : CmdIn w w.heap.size c A k D m)
    (hg : (W.setCell ⟨g, 3, none⟩ (.slice A6 (s.jobs.length + 1) c6)).grownBy W2 (some (w.heap.size + 1))) (hr : r = ({ s with jobs := s.jobs ++ [y] }, ⟨0, false, [], c.files⟩)) :
    MOut w g xs D r (.returned (.agg #[.int .i64 0, .bool false, .slice none 0 0, .slice D c.files.length m])) W2 := by
  subst hr
  have h1 := grown_set W g 3 (.slice A6 (s.jobs.length + 1) c6)
  have hlt := h.lt
  have hst : Blk 47 W2 g ((s.vs xs).set 3 (.slice A6 (s.jobs.length + 1) c6)) := (h.st.set 3 _).grown hg (fun e => by injection e; omega)
  have hj := Own.grown (Own.grown ho h1 (.inr (own_off ho (by omega)))) hg (.inr (own_off ho (by omega)))
  refine ⟨⟨xs.A, xs.a, A6, c6, xs.F, xs.f⟩, none, 0, D, m, rfl, ?_, ⟨rd_mix h.sin.rb hoff.A h.bl h1 hg, Own.rd hj (by omega), rd_mix h.sin.rc hoff.F h.bl h1 hg⟩, ⟨From.refl _ _ _, From.new (fun b hb => by have := Own.lt ho _ hb; have := h1.size; have := hg.size; omega), From.refl _ _ _⟩, ⟨OwnC.nil, rd_mix hc.rf hD h.bl h1 hg⟩, .inr rfl, grown_mix h.bl h1 hg, Sep.nil _⟩
  have e : (Sta.vs { s with jobs := s.jobs ++ [y] } ⟨xs.A, xs.a, A6, c6, xs.F, xs.f⟩) = (s.vs xs).set 3 (.slice A6 (s.jobs.length + 1) c6) := by
    simp [Sta.vs]
  rw [e]
  exact hst
set_option maxRecDepth 100000 in
set_option maxHeartbeats 8000000 in
theorem ingest_any (w : World) (g : Nat) (c : Cmd) (A : Option Addr) (k : Nat) (D : Option Addr) (m : Nat) (s : Sta) (xs : SA) (hs : Blk 47 w g (s.vs xs)) (hin : StaIn w w.heap.size s xs) (hc : CmdIn w w.heap.size c A k D m) (hoff : Off w xs g) (hD : blk D ≠ some g) (hjl : s.jobs.length ≤ 1000) :
    Calls Try.prog 46 #[.pointer (some ⟨g, 0, none⟩), .agg (c.vs A k D m).toArray] w (MOut w g xs D (ingestS s c)) := by
  have hm0 := IM.start (c := c) (A := A) (k := k) (D := D) (m := m) w hs hin
  obtain ⟨⟨j, is⟩, hf⟩ : ∃ p, findS s.jobs c.job = p := ⟨_, rfl⟩
  have HFN := Lib.hid hf
  have HS := Lib.hid hs
  have HIN := Lib.hid hin
  have HCI := Lib.hid hc
  have HO := Lib.hid hoff
  have HDO := Lib.hid hD
  clear hD
  have hcell : ∀ W, Hid (IM w W g c A k D m s xs) → W.rangeAt g 0 (s.vs xs) ∧ W.cell? ⟨w.heap.size, 5, none⟩ = some (.int .u64 c.job) := fun W h => ⟨h.out.st.range, h.out.cm.cell (j := 5) rfl⟩
  have hcell2 : ∀ W, Hid (IM w W g c A k D m s xs) → W.cell? ⟨w.heap.size, 7, none⟩ = some (.int .u64 c.epoch) ∧ W.cell? ⟨g, 1, none⟩ = some (.int .u64 s.epoch) := fun W h => ⟨h.out.cm.cell (j := 7) rfl, h.out.st.cell (j := 1) rfl⟩
  have HM := Lib.hid (hm0.below ((Below.refl _ _).drew))
  have HC := hcell _ HM
  have hsz := start_size w (.cells (c.vs A k D m).toArray 27) (.cells effz.toArray 53)
  unfold effz Cmd.vs at HM hsz
  unfold Cmd.vs
  clear hs hin hc hoff hf hm0
  go_enter Try.func46, Try.ntmps46
  go_upto_region 1 with fail
  show Code.wp _ _ _ ({ tmps := _, defers := [] } : Act) _
  go_cut [5, 6] (fun s5 s6 wx => ∃ g5 : Nat, s5 = .pointer (some ⟨g5, 0, none⟩) ∧ s6 = .bool is ∧ Hid (IM w wx g c A k D m s xs) ∧ Hid (New w wx 64 g5 j.vs))
  case first =>
    refine region_wz (fun W => W.rangeAt g 0 (s.vs xs) ∧ W.cell? ⟨w.heap.size, 5, none⟩ = some (.int .u64 c.job)) none (by kernel_rfl) ?_
    apply WZ.take (i := 0) (some 8) rfl rfl (by kernel_rfl) (by kernel_rfl) (by kernel_rfl) (calm_panic _) (by kernel_rfl)
    case hy => (refine .inl ⟨by kernel_rfl, fun W hC => ?_⟩; (try dsimp only at hC); go_simp; rfl)
    case hC => exact HC
    case ha => (simp only [Act.put, List.setIfInBounds_toArray, List.set_cons_zero, List.set_cons_succ]; rfl)
    apply WZ.take (i := 1) (some 9) rfl rfl (by kernel_rfl) (by kernel_rfl) (by kernel_rfl) (calm_panic _) (by kernel_rfl)
    case hy => (refine .inl ⟨by kernel_rfl, fun W hC => ?_⟩; (try dsimp only at hC); go_simp; rfl)
    case hC => exact HC
    case ha => (simp only [Act.put, List.setIfInBounds_toArray, List.set_cons_zero, List.set_cons_succ]; rfl)
    apply WZ.take (i := 2) (some 10) rfl rfl (by kernel_rfl) (by kernel_rfl) (by kernel_rfl) (calm_panic _) (by kernel_rfl)
    case hy => first | (apply yieldsIf_load_mid (by kernel_rfl) _ _ rfl _ _ rfl; (case hS => (intro W hC; exact hC.1)); (case hu => exact Try.underlying47); (case hd => rfl); (case hi => kernel_rfl)) | (apply yieldsIf_load_mid (by kernel_rfl) _ _ rfl _ _ rfl; (case hS => (intro W hC; exact hC.2.1)); (case hu => exact Try.underlying47); (case hd => rfl); (case hi => kernel_rfl)) | (apply yieldsIf_load_mid (by kernel_rfl) _ _ rfl _ _ rfl; (case hS => (intro W hC; exact hC.2.2.1)); (case hu => exact Try.underlying47); (case hd => rfl); (case hi => kernel_rfl)) | (apply yieldsIf_load_mid (by kernel_rfl) _ _ rfl _ _ rfl; (case hS => (intro W hC; exact hC.2.2.2.1)); (case hu => exact Try.underlying47); (case hd => rfl); (case hi => kernel_rfl)) | (apply yieldsIf_load_mid (by kernel_rfl) _ _ rfl _ _ rfl; (case hS => (intro W hC; exact hC.2.2.2)); (case hu => exact Try.underlying47); (case hd => rfl); (case hi => kernel_rfl)) | (apply yieldsIf_load_mid (by kernel_rfl) _ _ rfl _ _ rfl; (case hS => (intro W hC; exact hC.2.2)); (case hu => exact Try.underlying47); (case hd => rfl); (case hi => kernel_rfl)) | (apply yieldsIf_load_mid (by kernel_rfl) _ _ rfl _ _ rfl; (case hS => (intro W hC; exact hC.2)); (case hu => exact Try.underlying47); (case hd => rfl); (case hi => kernel_rfl)) | (apply yieldsIf_load_mid (by kernel_rfl) _ _ rfl _ _ rfl; (case hS => (intro W hC; exact hC)); (case hu => exact Try.underlying47); (case hd => rfl); (case hi => kernel_rfl))
    case hC => exact HC
    case ha => (simp only [Act.put, List.setIfInBounds_toArray, List.set_cons_zero, List.set_cons_succ]; rfl)
    apply WZ.take (i := 3) (some 11) rfl rfl (by kernel_rfl) (by kernel_rfl) (by kernel_rfl) (calm_panic _) (by kernel_rfl)
    case hy => (refine .inl ⟨by kernel_rfl, fun W hC => ?_⟩; (try dsimp only at hC); go_simp; rfl)
    case hC => exact HC
    case ha => (simp only [Act.put, List.setIfInBounds_toArray, List.set_cons_zero, List.set_cons_succ]; rfl)
    apply WZ.take (i := 4) (some 12) rfl rfl (by kernel_rfl) (by kernel_rfl) (by kernel_rfl) (calm_panic _) (by kernel_rfl)
    case hy => (refine .inl ⟨by kernel_rfl, fun W hC => ?_⟩; (try dsimp only at hC); go_simp; rfl)
    case hC => exact HC
    case ha => (simp only [Act.put, List.setIfInBounds_toArray, List.set_cons_zero, List.set_cons_succ]; rfl)
    refine WZ.two (i := 5) (j := 9) rfl rfl (by kernel_rfl) ?_ ?_
    · conv => arg 4; arg 1; whnf
      go_wp2_with (go_at_call 24; go_loud (refine (find_any s xs c.job _ HM.out.sta hjl).mono ?_); rw [HFN.out]; rintro e w2 ⟨rfl, hb⟩; have HM0 := HM; clear HM; have HM := Lib.hid (HM0.out.below hb); (first | (have HJ0 := HJ; clear HJ; have HJ := Lib.hid (HJ0.out.below hb); clear HJ0) | skip); clear HM0 hb)
      clear HC
      have HC := hcell _ HM
      refine ⟨HC, ?_⟩
      apply WZ.take (i := 6) (some 7) rfl rfl (by kernel_rfl) (by kernel_rfl) (by kernel_rfl) (calm_panic _) (by kernel_rfl)
      case hy => (refine .inl ⟨by kernel_rfl, fun W hC => ?_⟩; (try dsimp only at hC); go_simp; rfl)
      case hC => exact HC
      case ha => (simp only [Act.put, List.setIfInBounds_toArray, List.set_cons_zero, List.set_cons_succ]; rfl)
      apply WZ.take (i := 7) (some 14) rfl rfl (by kernel_rfl) (by kernel_rfl) (by kernel_rfl) (calm_panic _) (by kernel_rfl)
      case hy => (refine .inl ⟨by kernel_rfl, fun W hC => ?_⟩; (try dsimp only at hC); go_simp; rfl)
      case hC => exact HC
      case ha => (simp only [Act.put, List.setIfInBounds_toArray, List.set_cons_zero, List.set_cons_succ]; rfl)
      apply WZ.take (i := 8) (some 15) rfl rfl (by kernel_rfl) (by kernel_rfl) (by kernel_rfl) (calm_panic _) (by kernel_rfl)
      case hy => (refine .inl ⟨by kernel_rfl, fun W hC => ?_⟩; (try dsimp only at hC); go_simp; rfl)
      case hC => exact HC
      case ha => (simp only [Act.put, List.setIfInBounds_toArray, List.set_cons_zero, List.set_cons_succ]; rfl)
      -- 9
      refine WZ.one (i := 9) rfl (by kernel_rfl) ?_
      conv => arg 4; arg 1; whnf
      go_wp2_with fail
      have hn := HM.out.new 64 [.int .u64 0, .int .u32 0, .int .u64 0]
      (try rw [hsz] at hn)
      clear HM HC
      have HM := Lib.hid hn.1
      have HJ := Lib.hid hn.2
      have HC := hcell _ HM
      clear hn
      refine ⟨HC, ?_⟩
      -- 10
      refine WZ.one (i := 10) rfl (by kernel_rfl) ?_
      conv => arg 4; arg 1; whnf
      go_wp2_with (show wpList _ _ _ ({ dst := none, op := Op.store _ (Operand.tmp 5) _, type := _, pos := _, after := _, guard := _ } :: _) _ _; refine wpList_store_mid rfl 64 (.tmp 5) (.tmp 14) rfl _ 0 j.vs.toArray rfl rfl (HJ.out.1.there 3 (Nat.le_refl _)) (by kernel_rfl) (by simp [Value.oneCell', Jb.vs]) ?_; generalize hw9 : World.setCells _ _ 0 _ = w9; have hn := HM.out.setE HJ.out j.vs rfl hw9; clear HM HJ HC hw9; have HM := Lib.hid hn.1; have HJ := Lib.hid hn.2; have HC := hcell _ HM; clear hn)
      refine ⟨HC, ?_⟩
      apply WZ.take (i := 11) (some 6) rfl rfl (by kernel_rfl) (by kernel_rfl) (by kernel_rfl) (calm_panic _) (by kernel_rfl)
      case hy => (refine .inl ⟨by kernel_rfl, fun W hC => ?_⟩; (try dsimp only at hC); go_simp; rfl)
      case hC => exact HC
      case ha => (simp only [Act.put, List.setIfInBounds_toArray, List.set_cons_zero, List.set_cons_succ]; rfl)
      refine WZ.done (by kernel_rfl) ?_ _
      simp only [Calm, Exit.then]
      go_wp2_with fail
      go_meet
      exact ⟨_, rfl, rfl, HM, HJ⟩
    · conv => arg 4; arg 1; whnf
      go_wp2_with fail
      have hn := HM.out.new 64 [.int .u64 0, .int .u32 0, .int .u64 0]
      (try rw [hsz] at hn)
      clear HM HC
      have HM := Lib.hid hn.1
      have HJ := Lib.hid hn.2
      have HC := hcell _ HM
      clear hn
      refine ⟨HC, ?_⟩
      -- 5
      refine WZ.one (i := 5) rfl (by kernel_rfl) ?_
      conv => arg 4; arg 1; whnf
      go_wp2_with (go_at_call 24; go_loud (refine (find_any s xs c.job _ HM.out.sta hjl).mono ?_); rw [HFN.out]; rintro e w2 ⟨rfl, hb⟩; have HM0 := HM; clear HM; have HM := Lib.hid (HM0.out.below hb); (first | (have HJ0 := HJ; clear HJ; have HJ := Lib.hid (HJ0.out.below hb); clear HJ0) | skip); clear HM0 hb)
      clear HC
      have HC := hcell _ HM
      refine ⟨HC, ?_⟩
      apply WZ.take (i := 6) (some 7) rfl rfl (by kernel_rfl) (by kernel_rfl) (by kernel_rfl) (calm_panic _) (by kernel_rfl)
      case hy => (refine .inl ⟨by kernel_rfl, fun W hC => ?_⟩; (try dsimp only at hC); go_simp; rfl)
      case hC => exact HC
      case ha => (simp only [Act.put, List.setIfInBounds_toArray, List.set_cons_zero, List.set_cons_succ]; rfl)
      apply WZ.take (i := 7) (some 14) rfl rfl (by kernel_rfl) (by kernel_rfl) (by kernel_rfl) (calm_panic _) (by kernel_rfl)
      case hy => (refine .inl ⟨by kernel_rfl, fun W hC => ?_⟩; (try dsimp only at hC); go_simp; rfl)
      case hC => exact HC
      case ha => (simp only [Act.put, List.setIfInBounds_toArray, List.set_cons_zero, List.set_cons_succ]; rfl)
      apply WZ.take (i := 8) (some 15) rfl rfl (by kernel_rfl) (by kernel_rfl) (by kernel_rfl) (calm_panic _) (by kernel_rfl)
      case hy => (refine .inl ⟨by kernel_rfl, fun W hC => ?_⟩; (try dsimp only at hC); go_simp; rfl)
      case hC => exact HC
      case ha => (simp only [Act.put, List.setIfInBounds_toArray, List.set_cons_zero, List.set_cons_succ]; rfl)
      -- 10
      refine WZ.one (i := 10) rfl (by kernel_rfl) ?_
      conv => arg 4; arg 1; whnf
      go_wp2_with (show wpList _ _ _ ({ dst := none, op := Op.store _ (Operand.tmp 5) _, type := _, pos := _, after := _, guard := _ } :: _) _ _; refine wpList_store_mid rfl 64 (.tmp 5) (.tmp 14) rfl _ 0 j.vs.toArray rfl rfl (HJ.out.1.there 3 (Nat.le_refl _)) (by kernel_rfl) (by simp [Value.oneCell', Jb.vs]) ?_; generalize hw9 : World.setCells _ _ 0 _ = w9; have hn := HM.out.setE HJ.out j.vs rfl hw9; clear HM HJ HC hw9; have HM := Lib.hid hn.1; have HJ := Lib.hid hn.2; have HC := hcell _ HM; clear hn)
      refine ⟨HC, ?_⟩
      apply WZ.take (i := 11) (some 6) rfl rfl (by kernel_rfl) (by kernel_rfl) (by kernel_rfl) (calm_panic _) (by kernel_rfl)
      case hy => (refine .inl ⟨by kernel_rfl, fun W hC => ?_⟩; (try dsimp only at hC); go_simp; rfl)
      case hC => exact HC
      case ha => (simp only [Act.put, List.setIfInBounds_toArray, List.set_cons_zero, List.set_cons_succ]; rfl)
      refine WZ.done (by kernel_rfl) ?_ _
      simp only [Calm, Exit.then]
      go_wp2_with fail
      go_meet
      exact ⟨_, rfl, rfl, HM, HJ⟩
  case rest =>
    clear HM HC
    obtain ⟨g5, rfl, rfl, HM, HJ⟩ := hcut
    have HC := hcell _ HM
    cases is with
    | true =>
      by_cases hsum : j.sum = c.sum
      · have HRS := Lib.hid (show ingestS s c = (s, ⟨0, true, [], []⟩) by unfold ingestS; rw [HFN.out]; exact if_pos ⟨rfl, hsum⟩)
        have k1 : ((j.sum : Int) == (c.sum : Int)) = true := by rw [hsum]; exact beq_self_eq_true _
        clear hsum
        have j1 := HJ.out.1.cell (j := 1) rfl
        have q6 := HM.out.cm.cell (j := 6) rfl
        go_wp2_with
          (show wpList _ _ _ ({ dst := none, op := Op.store _ (Operand.tmp 4) _, type := _, pos := _, after := _, guard := _ } :: _) _ _; refine wpList_store_mid rfl 53 (.tmp 4) (.tmp 25) rfl (w.heap.size + 1) 0 #[.int .i64 0, .bool true, .slice none 0 0, .slice none 0 0] rfl rfl (HM.out.ef.there 4 (Nat.le_refl _)) (by kernel_rfl) (by simp [Value.oneCell']) ?_; refine HM.out.ef.setW [.int .i64 0, .bool true, .slice none 0 0, .slice none 0 0] rfl ?_; intro w10 HZ10 HG10)
        (try simp only [Exit.inBlock, Exit.then])
        refine bodyPost_ret (results_cell_row rfl _ _ (w.heap.size + 1) _ _ _ _ rfl HZ10.out Try.underlying53 rfl (by kernel_rfl)) rfl ?_
        exact HM.out.out HG10.out HRS.out
      · have HRS := Lib.hid (show ingestS s c = (s, ⟨191, true, [], []⟩) by unfold ingestS; rw [HFN.out]; simp only; rw [if_neg (fun h => hsum h.2)]; exact if_pos trivial)
        have k1 : ((j.sum : Int) == (c.sum : Int)) = false := by rw [beq_eq_false_iff_ne]; omega
        clear hsum
        have j1 := HJ.out.1.cell (j := 1) rfl
        have q6 := HM.out.cm.cell (j := 6) rfl
        go_wp2_with
          (show wpList _ _ _ ({ dst := none, op := Op.store _ (Operand.tmp 4) _, type := _, pos := _, after := _, guard := _ } :: _) _ _; refine wpList_store_mid rfl 53 (.tmp 4) (.tmp 28) rfl (w.heap.size + 1) 0 #[.int .i64 191, .bool true, .slice none 0 0, .slice none 0 0] rfl rfl (HM.out.ef.there 4 (Nat.le_refl _)) (by kernel_rfl) (by simp [Value.oneCell']) ?_; refine HM.out.ef.setW [.int .i64 191, .bool true, .slice none 0 0, .slice none 0 0] rfl ?_; intro w10 HZ10 HG10)
        (try simp only [Exit.inBlock, Exit.then])
        refine bodyPost_ret (results_cell_row rfl _ _ (w.heap.size + 1) _ _ _ _ rfl HZ10.out Try.underlying53 rfl (by kernel_rfl)) rfl ?_
        exact HM.out.out HG10.out HRS.out
    | false =>
      by_cases hfl : c.files = []
      · have HRS := Lib.hid (show ingestS s c = (s, ⟨1, false, [], []⟩) by unfold ingestS; rw [HFN.out]; simp only; rw [if_neg (fun h => by cases h.1), if_neg (fun h => by cases h), if_pos hfl]; rfl)
        have k2 : ((c.files.length : Int) == 0) = true := by rw [hfl]; rfl
        clear hfl
        have q8 := HM.out.cm.cell (j := 8) rfl
        go_wp2_with
          (show wpList _ _ _ ({ dst := none, op := Op.store _ (Operand.tmp 4) _, type := _, pos := _, after := _, guard := _ } :: _) _ _; refine wpList_store_mid rfl 53 (.tmp 4) (.tmp 34) rfl (w.heap.size + 1) 0 #[.int .i64 1, .bool false, .slice none 0 0, .slice none 0 0] rfl rfl (HM.out.ef.there 4 (Nat.le_refl _)) (by kernel_rfl) (by simp [Value.oneCell']) ?_; refine HM.out.ef.setW [.int .i64 1, .bool false, .slice none 0 0, .slice none 0 0] rfl ?_; intro w10 HZ10 HG10)
        (try simp only [Exit.inBlock, Exit.then])
        refine bodyPost_ret (results_cell_row rfl _ _ (w.heap.size + 1) _ _ _ _ rfl HZ10.out Try.underlying53 rfl (by kernel_rfl)) rfl ?_
        exact HM.out.out HG10.out HRS.out
      · have k2 : ((c.files.length : Int) == 0) = false := by
          rw [beq_eq_false_iff_ne]
          intro h
          exact hfl (List.length_eq_zero_iff.1 (by omega))
        by_cases hep : c.epoch = s.epoch
        · have HRS := Lib.hid (show ingestS s c = ({ s with jobs := s.jobs ++ [⟨c.job, c.sum, s.index⟩] }, ⟨0, false, [], c.files⟩) by unfold ingestS; rw [HFN.out]; simp only; rw [if_neg (fun h => by cases h.1), if_neg (fun h => by cases h), if_neg hfl]; exact if_neg (fun h => h hep))
          have k3 : ((c.epoch : Int) != (s.epoch : Int)) = false := by rw [hep]; exact bne_self_eq_false _
          have hcell3 : ∀ W, Hid (IM w W g c A k D m s xs) → W.cell? ⟨g, 3, none⟩ = some (.slice xs.D s.jobs.length xs.d) ∧ W.cell? ⟨g, 0, none⟩ = some (.int .u64 s.index) ∧ W.cell? ⟨w.heap.size, 5, none⟩ = some (.int .u64 c.job) ∧ W.cell? ⟨w.heap.size, 6, none⟩ = some (.int .u32 c.sum) := fun W h => ⟨h.out.st.cell (j := 3) rfl, h.out.st.cell (j := 0) rfl, h.out.cm.cell (j := 5) rfl, h.out.cm.cell (j := 6) rfl⟩
          clear hfl hep
          have q8 := HM.out.cm.cell (j := 8) rfl
          go_wp2
          have HM0 := HM
          clear HM
          have HM := Lib.hid (HM0.out.below ((Below.refl _ _).drew))
          clear HM0 HC
          have HC := hcell2 _ HM
          refine region_wz (fun W => W.cell? ⟨w.heap.size, 7, none⟩ = some (.int .u64 c.epoch) ∧ W.cell? ⟨g, 1, none⟩ = some (.int .u64 s.epoch)) none (by kernel_rfl) ?_
          apply WZ.take (i := 0) (some 36) rfl rfl (by kernel_rfl) (by kernel_rfl) (by kernel_rfl) (calm_panic _) (by kernel_rfl)
          case hy => (refine .inl ⟨by kernel_rfl, fun W hC => ?_⟩; (try dsimp only at hC); go_simp; rfl)
          case hC => exact HC
          case ha => (simp only [Act.put, List.setIfInBounds_toArray, List.set_cons_zero, List.set_cons_succ]; rfl)
          apply WZ.take (i := 1) (some 37) rfl rfl (by kernel_rfl) (by kernel_rfl) (by kernel_rfl) (calm_panic _) (by kernel_rfl)
          case hy => (refine .inl ⟨by kernel_rfl, fun W hC => ?_⟩; (try dsimp only at hC); go_simp; rfl)
          case hC => exact HC
          case ha => (simp only [Act.put, List.setIfInBounds_toArray, List.set_cons_zero, List.set_cons_succ]; rfl)
          apply WZ.take (i := 2) (some 38) rfl rfl (by kernel_rfl) (by kernel_rfl) (by kernel_rfl) (calm_panic _) (by kernel_rfl)
          case hy => (refine .inl ⟨by kernel_rfl, fun W hC => ?_⟩; (try dsimp only at hC); go_simp; rfl)
          case hC => exact HC
          case ha => (simp only [Act.put, List.setIfInBounds_toArray, List.set_cons_zero, List.set_cons_succ]; rfl)
          apply WZ.take (i := 3) (some 39) rfl rfl (by kernel_rfl) (by kernel_rfl) (by kernel_rfl) (calm_panic _) (by kernel_rfl)
          case hy => (refine .inl ⟨by kernel_rfl, fun W hC => ?_⟩; (try dsimp only at hC); go_simp; rfl)
          case hC => exact HC
          case ha => (simp only [Act.put, List.setIfInBounds_toArray, List.set_cons_zero, List.set_cons_succ]; rfl)
          apply WZ.take (i := 4) (some 40) rfl rfl (by kernel_rfl) (by kernel_rfl) (by kernel_rfl) (calm_panic _) (by kernel_rfl)
          case hy => (refine .inl ⟨by kernel_rfl, fun W hC => ?_⟩; (try dsimp only at hC); go_simp; rfl)
          case hC => exact HC
          case ha => (simp only [Act.put, List.setIfInBounds_toArray, List.set_cons_zero, List.set_cons_succ]; rfl)
          apply WZ.take (i := 5) (some 41) rfl rfl (by kernel_rfl) (by kernel_rfl) (by kernel_rfl) (calm_panic _) (by kernel_rfl)
          case hy => (refine .inl ⟨by kernel_rfl, fun W hC => ?_⟩; (try dsimp only at hC); go_simp; rfl)
          case hC => exact HC
          case ha => (simp only [Act.put, List.setIfInBounds_toArray, List.set_cons_zero, List.set_cons_succ]; rfl)
          apply WZ.take (i := 6) (some 42) rfl rfl (by kernel_rfl) (by kernel_rfl) (by kernel_rfl) (calm_panic _) (by kernel_rfl)
          case hy => (refine .inl ⟨by kernel_rfl, fun W hC => ?_⟩; (try dsimp only at hC); go_simp; rfl)
          case hC => exact HC
          case ha => (simp only [Act.put, List.setIfInBounds_toArray, List.set_cons_zero, List.set_cons_succ]; rfl)
          apply WZ.take (i := 7) (some 35) rfl rfl (by kernel_rfl) (by kernel_rfl) (by kernel_rfl) (calm_panic _) (by kernel_rfl)
          case hy => (refine .inl ⟨by kernel_rfl, fun W hC => ?_⟩; (try dsimp only at hC); go_simp; rfl)
          case hC => exact HC
          case ha => (simp only [Act.put, List.setIfInBounds_toArray, List.set_cons_zero, List.set_cons_succ]; rfl)
          refine WZ.done (by kernel_rfl) ?_ _
          simp only [Calm, Exit.then]
          go_wp2
          have HM0 := HM
          clear HM
          have HM := Lib.hid (HM0.out.below ((Below.refl _ _).drew))
          clear HM0 HC
          have HC := hcell3 _ HM
          refine region_wz (fun W => W.cell? ⟨g, 3, none⟩ = some (.slice xs.D s.jobs.length xs.d) ∧ W.cell? ⟨g, 0, none⟩ = some (.int .u64 s.index) ∧ W.cell? ⟨w.heap.size, 5, none⟩ = some (.int .u64 c.job) ∧ W.cell? ⟨w.heap.size, 6, none⟩ = some (.int .u32 c.sum)) (some 19) (by kernel_rfl) ?_
          apply WZ.take (i := 0) (some 44) rfl rfl (by kernel_rfl) (by kernel_rfl) (by kernel_rfl) (calm_panic _) (by kernel_rfl)
          case hy => (refine .inl ⟨by kernel_rfl, fun W hC => ?_⟩; (try dsimp only at hC); go_simp; rfl)
          case hC => exact HC
          case ha => (simp only [Act.put, List.setIfInBounds_toArray, List.set_cons_zero, List.set_cons_succ]; rfl)
          apply WZ.take (i := 1) (some 45) rfl rfl (by kernel_rfl) (by kernel_rfl) (by kernel_rfl) (calm_panic _) (by kernel_rfl)
          case hy => (refine .inl ⟨by kernel_rfl, fun W hC => ?_⟩; (try dsimp only at hC); go_simp; rfl)
          case hC => exact HC
          case ha => (simp only [Act.put, List.setIfInBounds_toArray, List.set_cons_zero, List.set_cons_succ]; rfl)
          apply WZ.take (i := 2) (some 46) rfl rfl (by kernel_rfl) (by kernel_rfl) (by kernel_rfl) (calm_panic _) (by kernel_rfl)
          case hy => (refine .inl ⟨by kernel_rfl, fun W hC => ?_⟩; (try dsimp only at hC); go_simp; rfl)
          case hC => exact HC
          case ha => (simp only [Act.put, List.setIfInBounds_toArray, List.set_cons_zero, List.set_cons_succ]; rfl)
          apply WZ.take (i := 3) (some 47) rfl rfl (by kernel_rfl) (by kernel_rfl) (by kernel_rfl) (calm_panic _) (by kernel_rfl)
          case hy => (refine .inl ⟨by kernel_rfl, fun W hC => ?_⟩; (try dsimp only at hC); go_simp; rfl)
          case hC => exact HC
          case ha => (simp only [Act.put, List.setIfInBounds_toArray, List.set_cons_zero, List.set_cons_succ]; rfl)
          apply WZ.take (i := 4) (some 48) rfl rfl (by kernel_rfl) (by kernel_rfl) (by kernel_rfl) (calm_panic _) (by kernel_rfl)
          case hy => (refine .inl ⟨by kernel_rfl, fun W hC => ?_⟩; (try dsimp only at hC); go_simp; rfl)
          case hC => exact HC
          case ha => (simp only [Act.put, List.setIfInBounds_toArray, List.set_cons_zero, List.set_cons_succ]; rfl)
          apply WZ.take (i := 6) (some 50) rfl rfl (by kernel_rfl) (by kernel_rfl) (by kernel_rfl) (calm_panic _) (by kernel_rfl)
          case hy => (refine .inl ⟨by kernel_rfl, fun W hC => ?_⟩; (try dsimp only at hC); go_simp; rfl)
          case hC => exact HC
          case ha => (simp only [Act.put, List.setIfInBounds_toArray, List.set_cons_zero, List.set_cons_succ]; rfl)
          apply WZ.take (i := 7) (some 51) rfl rfl (by kernel_rfl) (by kernel_rfl) (by kernel_rfl) (calm_panic _) (by kernel_rfl)
          case hy => (refine .inl ⟨by kernel_rfl, fun W hC => ?_⟩; (try dsimp only at hC); go_simp; rfl)
          case hC => exact HC
          case ha => (simp only [Act.put, List.setIfInBounds_toArray, List.set_cons_zero, List.set_cons_succ]; rfl)
          apply WZ.take (i := 8) (some 52) rfl rfl (by kernel_rfl) (by kernel_rfl) (by kernel_rfl) (calm_panic _) (by kernel_rfl)
          case hy => (refine .inl ⟨by kernel_rfl, fun W hC => ?_⟩; (try dsimp only at hC); go_simp; rfl)
          case hC => exact HC
          case ha => (simp only [Act.put, List.setIfInBounds_toArray, List.set_cons_zero, List.set_cons_succ]; rfl)
          apply WZ.take (i := 9) (some 53) rfl rfl (by kernel_rfl) (by kernel_rfl) (by kernel_rfl) (calm_panic _) (by kernel_rfl)
          case hy => (refine .inl ⟨by kernel_rfl, fun W hC => ?_⟩; (try dsimp only at hC); go_simp; rfl)
          case hC => exact HC
          case ha => (simp only [Act.put, List.setIfInBounds_toArray, List.set_cons_zero, List.set_cons_succ]; rfl)
          apply WZ.take (i := 10) (some 54) rfl rfl (by kernel_rfl) (by kernel_rfl) (by kernel_rfl) (calm_panic _) (by kernel_rfl)
          case hy => (refine .inl ⟨by kernel_rfl, fun W hC => ?_⟩; (try dsimp only at hC); go_simp; rfl)
          case hC => exact HC
          case ha => (simp only [Act.put, List.setIfInBounds_toArray, List.set_cons_zero, List.set_cons_succ]; rfl)
          apply WZ.take (i := 11) (some 55) rfl rfl (by kernel_rfl) (by kernel_rfl) (by kernel_rfl) (calm_panic _) (by kernel_rfl)
          case hy => (refine .inl ⟨by kernel_rfl, fun W hC => ?_⟩; (try dsimp only at hC); go_simp; rfl)
          case hC => exact HC
          case ha => (simp only [Act.put, List.setIfInBounds_toArray, List.set_cons_zero, List.set_cons_succ]; rfl)
          apply WZ.take (i := 12) (some 56) rfl rfl (by kernel_rfl) (by kernel_rfl) (by kernel_rfl) (calm_panic _) (by kernel_rfl)
          case hy => (refine .inl ⟨by kernel_rfl, fun W hC => ?_⟩; (try dsimp only at hC); go_simp; rfl)
          case hC => exact HC
          case ha => (simp only [Act.put, List.setIfInBounds_toArray, List.set_cons_zero, List.set_cons_succ]; rfl)
          apply WZ.take (i := 13) (some 57) rfl rfl (by kernel_rfl) (by kernel_rfl) (by kernel_rfl) (calm_panic _) (by kernel_rfl)
          case hy => (refine .inl ⟨by kernel_rfl, fun W hC => ?_⟩; (try dsimp only at hC); go_simp; rfl)
          case hC => exact HC
          case ha => (simp only [Act.put, List.setIfInBounds_toArray, List.set_cons_zero, List.set_cons_succ]; rfl)
          apply WZ.take (i := 14) (some 58) rfl rfl (by kernel_rfl) (by kernel_rfl) (by kernel_rfl) (calm_panic _) (by kernel_rfl)
          case hy => (refine .inl ⟨by kernel_rfl, fun W hC => ?_⟩; (try dsimp only at hC); go_simp; rfl)
          case hC => exact HC
          case ha => (simp only [Act.put, List.setIfInBounds_toArray, List.set_cons_zero, List.set_cons_succ]; rfl)
          refine WZ.two (i := 5) (j := 15) rfl rfl (by kernel_rfl) ?_ ?_
          · conv => arg 4; arg 1; whnf
            go_wp2_with (go_at_call 75; go_loud (refine (cloneJobs_any xs.D xs.d s.jobs _ HM.out.sta.rj (by omega)).mono ?_); rintro e w5 ⟨A5, c5, rfl, ho, hb⟩; have HOJ := Lib.hid (ho.lower (Nat.succ_le_of_lt HM.out.ef.lt)); (first | (have HR0 := HR; clear HR; have HR := Lib.hid ((HR0.out.below hb).more hb.size); clear HR0) | skip); have HM0 := HM; clear HM; have HM := Lib.hid (HM0.out.below hb); clear HM0 hb ho)
            clear HC
            have HC := hcell3 _ HM
            refine ⟨HC, ?_⟩
            -- 15
            refine WZ.one (i := 15) rfl (by kernel_rfl) ?_
            conv => arg 4; arg 1; whnf
            go_wp2_with fail
            have HM0 := HM
            clear HM
            have hn := HM0.out.lit 64 [.int .u64 c.job, .int .u32 c.sum, .int .u64 s.index]
            have HM := Lib.hid hn.1
            have HR := Lib.hid (show Rd _ _ _ (jbs [⟨c.job, c.sum, s.index⟩]) from hn.2)
            clear hn
            (first | (have HOJ0 := HOJ; clear HOJ; have HOJ := Lib.hid (HOJ0.out.below (below_al _ (.cells #[.int .u64 c.job, .int .u32 c.sum, .int .u64 s.index] 64))); clear HOJ0) | skip)
            clear HM0 HC
            have HC := hcell3 _ HM
            refine ⟨HC, ?_⟩
            -- 16
            refine WZ.one (i := 16) rfl (by kernel_rfl) ?_
            conv => arg 4; arg 1; whnf
            go_wp2_with (at_builtin; go_loud (refine jobs_app rfl _ _ rfl (w.heap.size + 1 + 1) A5 s.jobs.length c5 (s.jobs.length + 1) s.jobs [⟨c.job, c.sum, s.index⟩] rfl HOJ.out _ 1 1 rfl HR.out rfl rfl (by omega) (Nat.succ_le_of_lt HM.out.ef.lt) ?_); intro A6 c6 w12 HO6 HG6; have HM0 := HM; clear HM; have HM := Lib.hid (HM0.out.own HG6.out (fun q e => by have := (Own.lt HOJ.out _ e).1; omega)); clear HM0; have f3 := HM.out.st.free 3; clear HC; have HC := hcell3 _ HM)
            refine ⟨HC, ?_⟩
            apply WZ.takeF (i := 17) (some 61) rfl rfl (by kernel_rfl) (by kernel_rfl) (by kernel_rfl) (calm_panic _) (by kernel_rfl)
            case hy => (refine .inl ⟨by kernel_rfl, fun W hC => ?_⟩; (try dsimp only at hC); go_simp; rfl)
            case hC => exact HC
            case ha => (simp only [Act.put, List.setIfInBounds_toArray, List.set_cons_zero, List.set_cons_succ]; rfl)
            apply WZ.take (i := 18) (some 62) rfl rfl (by kernel_rfl) (by kernel_rfl) (by kernel_rfl) (calm_panic _) (by kernel_rfl)
            case hy => (refine .inl ⟨by kernel_rfl, fun W hC => ?_⟩; (try dsimp only at hC); go_simp; rfl)
            case hC => exact HC
            case ha => (simp only [Act.put, List.setIfInBounds_toArray, List.set_cons_zero, List.set_cons_succ]; rfl)
            -- 19
            refine WZ.last (i := 19) rfl (by kernel_rfl) (by kernel_rfl) ?_
            conv => arg 4; arg 1; whnf
            go_wp2
            refine WZ.done (by kernel_rfl) ?_ _
            simp only [Calm, Exit.then]
            have q8 := (HM.out.cm.grown (grown_set w12 g 3 (.slice A6 (s.jobs.length + 1) c6)) (fun e => by injection e; have := HM.out.lt; omega)).cell (j := 8) rfl
            have HEF := Lib.hid (HM.out.ef.grown (grown_set w12 g 3 (.slice A6 (s.jobs.length + 1) c6)) (fun e => by injection e; have := HM.out.lt; omega))
            go_wp2_with (show wpList _ _ _ ({ dst := none, op := Op.store _ (Operand.tmp 4) _, type := _, pos := _, after := _, guard := _ } :: _) _ _; refine wpList_store_mid rfl 53 (.tmp 4) (.tmp 65) rfl (w.heap.size + 1) 0 #[.int .i64 0, .bool false, .slice none 0 0, .slice D c.files.length m] rfl rfl (HEF.out.there 4 (Nat.le_refl _)) (by kernel_rfl) (by simp [Value.oneCell']) ?_; refine HEF.out.setW [.int .i64 0, .bool false, .slice none 0 0, .slice D c.files.length m] rfl ?_; intro w14 HZ14 HG14)
            (try simp only [Exit.inBlock, Exit.then])
            refine bodyPost_ret (results_cell_row rfl _ _ (w.heap.size + 1) _ _ _ _ rfl HZ14.out Try.underlying53 rfl (by kernel_rfl)) rfl ?_
            exact ing_out HM.out HO6.out HO.out HDO.out HCI.out HG14.out HRS.out
          · conv => arg 4; arg 1; whnf
            go_wp2_with fail
            have HM0 := HM
            clear HM
            have hn := HM0.out.lit 64 [.int .u64 c.job, .int .u32 c.sum, .int .u64 s.index]
            have HM := Lib.hid hn.1
            have HR := Lib.hid (show Rd _ _ _ (jbs [⟨c.job, c.sum, s.index⟩]) from hn.2)
            clear hn
            (first | (have HOJ0 := HOJ; clear HOJ; have HOJ := Lib.hid (HOJ0.out.below (below_al _ (.cells #[.int .u64 c.job, .int .u32 c.sum, .int .u64 s.index] 64))); clear HOJ0) | skip)
            clear HM0 HC
            have HC := hcell3 _ HM
            refine ⟨HC, ?_⟩
            -- 5
            refine WZ.one (i := 5) rfl (by kernel_rfl) ?_
            conv => arg 4; arg 1; whnf
            go_wp2_with (go_at_call 75; go_loud (refine (cloneJobs_any xs.D xs.d s.jobs _ HM.out.sta.rj (by omega)).mono ?_); rintro e w5 ⟨A5, c5, rfl, ho, hb⟩; have HOJ := Lib.hid (ho.lower (Nat.succ_le_of_lt HM.out.ef.lt)); (first | (have HR0 := HR; clear HR; have HR := Lib.hid ((HR0.out.below hb).more hb.size); clear HR0) | skip); have HM0 := HM; clear HM; have HM := Lib.hid (HM0.out.below hb); clear HM0 hb ho)
            clear HC
            have HC := hcell3 _ HM
            refine ⟨HC, ?_⟩
            -- 16
            refine WZ.one (i := 16) rfl (by kernel_rfl) ?_
            conv => arg 4; arg 1; whnf
            go_wp2_with (at_builtin; go_loud (refine jobs_app rfl _ _ rfl (w.heap.size + 1 + 1) A5 s.jobs.length c5 (s.jobs.length + 1) s.jobs [⟨c.job, c.sum, s.index⟩] rfl HOJ.out _ 1 1 rfl HR.out rfl rfl (by omega) (Nat.succ_le_of_lt HM.out.ef.lt) ?_); intro A6 c6 w12 HO6 HG6; have HM0 := HM; clear HM; have HM := Lib.hid (HM0.out.own HG6.out (fun q e => by have := (Own.lt HOJ.out _ e).1; omega)); clear HM0; have f3 := HM.out.st.free 3; clear HC; have HC := hcell3 _ HM)
            refine ⟨HC, ?_⟩
            apply WZ.takeF (i := 17) (some 61) rfl rfl (by kernel_rfl) (by kernel_rfl) (by kernel_rfl) (calm_panic _) (by kernel_rfl)
            case hy => (refine .inl ⟨by kernel_rfl, fun W hC => ?_⟩; (try dsimp only at hC); go_simp; rfl)
            case hC => exact HC
            case ha => (simp only [Act.put, List.setIfInBounds_toArray, List.set_cons_zero, List.set_cons_succ]; rfl)
            apply WZ.take (i := 18) (some 62) rfl rfl (by kernel_rfl) (by kernel_rfl) (by kernel_rfl) (calm_panic _) (by kernel_rfl)
            case hy => (refine .inl ⟨by kernel_rfl, fun W hC => ?_⟩; (try dsimp only at hC); go_simp; rfl)
            case hC => exact HC
            case ha => (simp only [Act.put, List.setIfInBounds_toArray, List.set_cons_zero, List.set_cons_succ]; rfl)
            -- 19
            refine WZ.last (i := 19) rfl (by kernel_rfl) (by kernel_rfl) ?_
            conv => arg 4; arg 1; whnf
            go_wp2
            refine WZ.done (by kernel_rfl) ?_ _
            simp only [Calm, Exit.then]
            have q8 := (HM.out.cm.grown (grown_set w12 g 3 (.slice A6 (s.jobs.length + 1) c6)) (fun e => by injection e; have := HM.out.lt; omega)).cell (j := 8) rfl
            have HEF := Lib.hid (HM.out.ef.grown (grown_set w12 g 3 (.slice A6 (s.jobs.length + 1) c6)) (fun e => by injection e; have := HM.out.lt; omega))
            go_wp2_with (show wpList _ _ _ ({ dst := none, op := Op.store _ (Operand.tmp 4) _, type := _, pos := _, after := _, guard := _ } :: _) _ _; refine wpList_store_mid rfl 53 (.tmp 4) (.tmp 65) rfl (w.heap.size + 1) 0 #[.int .i64 0, .bool false, .slice none 0 0, .slice D c.files.length m] rfl rfl (HEF.out.there 4 (Nat.le_refl _)) (by kernel_rfl) (by simp [Value.oneCell']) ?_; refine HEF.out.setW [.int .i64 0, .bool false, .slice none 0 0, .slice D c.files.length m] rfl ?_; intro w14 HZ14 HG14)
            (try simp only [Exit.inBlock, Exit.then])
            refine bodyPost_ret (results_cell_row rfl _ _ (w.heap.size + 1) _ _ _ _ rfl HZ14.out Try.underlying53 rfl (by kernel_rfl)) rfl ?_
            exact ing_out HM.out HO6.out HO.out HDO.out HCI.out HG14.out HRS.out
        · have HRS := Lib.hid (show ingestS s c = (s, ⟨190, false, [], []⟩) by unfold ingestS; rw [HFN.out]; simp only; rw [if_neg (fun h => by cases h.1), if_neg (fun h => by cases h), if_neg hfl, if_pos hep]; rfl)
          have k3 : ((c.epoch : Int) != (s.epoch : Int)) = true := by rw [bne_iff_ne]; omega
          clear hfl hep
          have q8 := HM.out.cm.cell (j := 8) rfl
          go_wp2
          have HM0 := HM
          clear HM
          have HM := Lib.hid (HM0.out.below ((Below.refl _ _).drew))
          clear HM0 HC
          have HC := hcell2 _ HM
          refine region_wz (fun W => W.cell? ⟨w.heap.size, 7, none⟩ = some (.int .u64 c.epoch) ∧ W.cell? ⟨g, 1, none⟩ = some (.int .u64 s.epoch)) none (by kernel_rfl) ?_
          apply WZ.take (i := 0) (some 36) rfl rfl (by kernel_rfl) (by kernel_rfl) (by kernel_rfl) (calm_panic _) (by kernel_rfl)
          case hy => (refine .inl ⟨by kernel_rfl, fun W hC => ?_⟩; (try dsimp only at hC); go_simp; rfl)
          case hC => exact HC
          case ha => (simp only [Act.put, List.setIfInBounds_toArray, List.set_cons_zero, List.set_cons_succ]; rfl)
          apply WZ.take (i := 1) (some 37) rfl rfl (by kernel_rfl) (by kernel_rfl) (by kernel_rfl) (calm_panic _) (by kernel_rfl)
          case hy => (refine .inl ⟨by kernel_rfl, fun W hC => ?_⟩; (try dsimp only at hC); go_simp; rfl)
          case hC => exact HC
          case ha => (simp only [Act.put, List.setIfInBounds_toArray, List.set_cons_zero, List.set_cons_succ]; rfl)
          apply WZ.take (i := 2) (some 38) rfl rfl (by kernel_rfl) (by kernel_rfl) (by kernel_rfl) (calm_panic _) (by kernel_rfl)
          case hy => (refine .inl ⟨by kernel_rfl, fun W hC => ?_⟩; (try dsimp only at hC); go_simp; rfl)
          case hC => exact HC
          case ha => (simp only [Act.put, List.setIfInBounds_toArray, List.set_cons_zero, List.set_cons_succ]; rfl)
          apply WZ.take (i := 3) (some 39) rfl rfl (by kernel_rfl) (by kernel_rfl) (by kernel_rfl) (calm_panic _) (by kernel_rfl)
          case hy => (refine .inl ⟨by kernel_rfl, fun W hC => ?_⟩; (try dsimp only at hC); go_simp; rfl)
          case hC => exact HC
          case ha => (simp only [Act.put, List.setIfInBounds_toArray, List.set_cons_zero, List.set_cons_succ]; rfl)
          apply WZ.take (i := 4) (some 40) rfl rfl (by kernel_rfl) (by kernel_rfl) (by kernel_rfl) (calm_panic _) (by kernel_rfl)
          case hy => (refine .inl ⟨by kernel_rfl, fun W hC => ?_⟩; (try dsimp only at hC); go_simp; rfl)
          case hC => exact HC
          case ha => (simp only [Act.put, List.setIfInBounds_toArray, List.set_cons_zero, List.set_cons_succ]; rfl)
          apply WZ.take (i := 5) (some 41) rfl rfl (by kernel_rfl) (by kernel_rfl) (by kernel_rfl) (calm_panic _) (by kernel_rfl)
          case hy => (refine .inl ⟨by kernel_rfl, fun W hC => ?_⟩; (try dsimp only at hC); go_simp; rfl)
          case hC => exact HC
          case ha => (simp only [Act.put, List.setIfInBounds_toArray, List.set_cons_zero, List.set_cons_succ]; rfl)
          apply WZ.take (i := 6) (some 42) rfl rfl (by kernel_rfl) (by kernel_rfl) (by kernel_rfl) (calm_panic _) (by kernel_rfl)
          case hy => (refine .inl ⟨by kernel_rfl, fun W hC => ?_⟩; (try dsimp only at hC); go_simp; rfl)
          case hC => exact HC
          case ha => (simp only [Act.put, List.setIfInBounds_toArray, List.set_cons_zero, List.set_cons_succ]; rfl)
          apply WZ.take (i := 7) (some 35) rfl rfl (by kernel_rfl) (by kernel_rfl) (by kernel_rfl) (calm_panic _) (by kernel_rfl)
          case hy => (refine .inl ⟨by kernel_rfl, fun W hC => ?_⟩; (try dsimp only at hC); go_simp; rfl)
          case hC => exact HC
          case ha => (simp only [Act.put, List.setIfInBounds_toArray, List.set_cons_zero, List.set_cons_succ]; rfl)
          refine WZ.done (by kernel_rfl) ?_ _
          simp only [Calm, Exit.then]
          go_wp2_with
            (show wpList _ _ _ ({ dst := none, op := Op.store _ (Operand.tmp 4) _, type := _, pos := _, after := _, guard := _ } :: _) _ _; refine wpList_store_mid rfl 53 (.tmp 4) (.tmp 43) rfl (w.heap.size + 1) 0 #[.int .i64 190, .bool false, .slice none 0 0, .slice none 0 0] rfl rfl (HM.out.ef.there 4 (Nat.le_refl _)) (by kernel_rfl) (by simp [Value.oneCell']) ?_; refine HM.out.ef.setW [.int .i64 190, .bool false, .slice none 0 0, .slice none 0 0] rfl ?_; intro w10 HZ10 HG10)
          (try simp only [Exit.inBlock, Exit.then])
          refine bodyPost_ret (results_cell_row rfl _ _ (w.heap.size + 1) _ _ _ _ rfl HZ10.out Try.underlying53 rfl (by kernel_rfl)) rfl ?_
          exact HM.out.out HG10.out HRS.out
end Go.Proofs.Ytiiogdgnccgehaa
