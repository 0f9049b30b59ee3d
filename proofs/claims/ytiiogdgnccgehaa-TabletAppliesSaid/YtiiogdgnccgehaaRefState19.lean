/-
  The law's state: a state turned to the reference's type. No conditions.
-/
import Derived.Test.YtiiogdgnccgehaaRefSame19
namespace Go.Proofs.Ytiiogdgnccgehaa
open Go.RowKit
attribute [local go_sem ↓] Go.wp_at_zero Go.wp_at_succ
/-- inside: the state, the answer's variable, the new state -/
structure SC (w W : World) (v tv : List Value) : Prop where
  bl : Below w.heap.size w W
  a : Blk 47 W w.heap.size v
  z : Blk 51 W (w.heap.size + 1) staz
  o : Blk 51 W (w.heap.size + 1 + 1) tv
section
variable {w W W' : World} {v tv : List Value}
theorem SC.below (h : SC w W v tv) (hb : Below W.heap.size W W') : SC w W' v tv := ⟨h.bl.trans (hb.mono h.bl.size), h.a.below hb h.a.lt, h.z.below hb h.z.lt, h.o.below hb h.o.lt⟩
theorem SC.own (h : SC w W v tv) {row : Option Nat} (hg : W.grownBy W' row) (hq : ∀ b, row = some b → w.heap.size + 1 + 1 < b) : SC w W' v tv :=
  ⟨h.bl.grown hg h.bl.size (fun b e => by have := hq b e; omega), h.a.grown hg (fun e => by have := hq _ e; omega), h.z.grown hg (fun e => by have := hq _ e; omega), h.o.grown hg (fun e => by have := hq _ e; omega)⟩
theorem SC.drew (h : SC w W v tv) : SC w W.drew v tv := ⟨h.bl.drew, h.a, h.z, h.o⟩
theorem SC.lit (_ : SC w W v tv) (T : TypeId) (vs : List Value) : Rd (W.alloc (.cells vs.toArray T)) (W.alloc (.cells vs.toArray T)).heap.size (some ⟨W.heap.size, 0, none⟩) vs := Rd.ofBlock (heap_alloc_new W _) (by simp)
theorem SC.set (h : SC w W v tv) (j : Nat) (u : Value) : SC w (W.setCell ⟨w.heap.size + 1 + 1, j, none⟩ u) v (tv.set j u) := by
  have hg := grown_set W (w.heap.size + 1 + 1) j u
  exact ⟨below_grown h.bl h.bl.size hg (by omega), h.a.grown hg (fun e => by injection e; omega), h.z.grown hg (fun e => by injection e; omega), h.o.set j u⟩
end
def KeepT (_ : World) : Prop := True
theorem al_client (y : Kl) (W : World) : Below W.heap.size W (W.alloc (.cells #[.int .u64 y.id, .int .u64 y.num, .int .i64 y.e] 106)) := below_al _ _
theorem keepT {w W : World} {v tv : List Value} (_ : SC w W v tv) : KeepT W := trivial
theorem own_apart2 {w : World} {B B' e e' z z' n n' c c' : Nat} {A A' : Option Addr} {l l' : List Value} (h : Own w B e z A n c l) (h' : Own w B' e' z' A' n' c' l') (hne : e ≠ e') : blk A = none ∨ blk A ≠ blk A' := by
  cases hb : blk A with
  | none => exact .inl rfl
  | some b => exact .inr (fun e => own_types h h' hne b hb e.symm)
theorem SC.start (w : World) (v : List Value) : SC w (((w.alloc (.cells v.toArray 47)).alloc (.cells staz.toArray 51)).alloc (.cells staz.toArray 51)) v staz := by
  obtain ⟨b1, b2, b3⟩ := three_blocks w 47 51 51 v staz staz
  have h1 := Blk.new 47 w v
  have h2 := h1.below (below_al _ (.cells staz.toArray 51)) h1.lt
  exact ⟨b3, h2.below (below_al _ _) h2.lt, b1, b2⟩
set_option maxRecDepth 100000 in
set_option maxHeartbeats 8000000 in
theorem state_any (s : Sta) (xs : SA) (w : World) (h1 : StaIn w w.heap.size s xs) (hj : s.jobs.length ≤ 1000) (hk : s.clients.length ≤ 1000) :
    Calls Try.prog 21 #[.agg (s.vs xs).toArray] w fun e w' => ∃ ys, e = .returned (.agg (s.vs ys).toArray) ∧ StaIn w' w'.heap.size s ys ∧ Below w.heap.size w w' := by
  obtain ⟨NB, hNB⟩ : ∃ N, s.borders.length = N := ⟨_, rfl⟩
  obtain ⟨NJ, hNJ⟩ : ∃ N, s.jobs.length = N := ⟨_, rfl⟩
  obtain ⟨NK, hNK⟩ : ∃ N, s.clients.length = N := ⟨_, rfl⟩
  have HNB := Lib.hid hNB
  have HNJ := Lib.hid hNJ
  have HNK := Lib.hid hNK
  have HIN := Lib.hid h1
  have HX1 := Lib.hid h1.rj
  have HX2 := Lib.hid h1.rc
  have hv : s.vs xs = [.int .u64 s.index, .int .u64 s.epoch, .slice xs.A NB xs.a, .slice xs.D NJ xs.d, .slice xs.F NK xs.f] := by rw [← hNB, ← hNJ, ← hNK]; rfl
  rw [hv]
  rw [hNJ] at hj
  rw [hNK] at hk
  have HP0 : Hid (SC w (((w.alloc (.cells #[.int .u64 s.index, .int .u64 s.epoch, .slice xs.A NB xs.a, .slice xs.D NJ xs.d, .slice xs.F NK xs.f] 47)).alloc (.cells #[.int .u64 0, .int .u64 0, .slice none 0 0, .slice none 0 0, .slice none 0 0] 51)).alloc (.cells #[.int .u64 0, .int .u64 0, .slice none 0 0, .slice none 0 0, .slice none 0 0] 51)) [.int .u64 s.index, .int .u64 s.epoch, .slice xs.A NB xs.a, .slice xs.D NJ xs.d, .slice xs.F NK xs.f] staz) := Lib.hid (SC.start w _)
  clear h1 hNB hNJ hNK hv
  go_enter Try.func21, Try.ntmps21
  go_wp2_with ((with_reducible show wpList _ _ _ ({ dst := none, op := Op.store _ (Operand.tmp 3) _, type := _, pos := _, after := _, guard := _ } :: _) _ _); go_loud (refine wpList_store_mid rfl 51 (.tmp 3) (.tmp 12) rfl (w.heap.size + 1 + 1) 0 #[.int .u64 s.index, .int .u64 s.epoch, .slice xs.A NB xs.a, .slice none 0 0, .slice none 0 0] rfl rfl (HP0.out.o.there 5 (Nat.le_refl _)) (by kernel_rfl) (by simp [Value.oneCell']) ?_); refine HP0.out.o.setW [.int .u64 s.index, .int .u64 s.epoch, .slice xs.A NB xs.a, .slice none 0 0, .slice none 0 0] rfl ?_; intro w3 HT3 HG3; have HP := Lib.hid (SC.mk (below_grown HP0.out.bl HP0.out.bl.size HG3.out (by omega)) (HP0.out.a.grown HG3.out (fun e => by injection e; omega)) (HP0.out.z.grown HG3.out (fun e => by injection e; omega)) HT3.out))
  clear HP0
  have HK := Lib.hid (show KeepT w3 from trivial)
  go_loopw [4] (fun vi wr => ∃ (k c7 : Nat) (A7 : Option Addr), k ≤ NJ ∧ vi = .int .i64 (k : Int) ∧ Hid (SC w wr [.int .u64 s.index, .int .u64 s.epoch, .slice xs.A NB xs.a, .slice xs.D NJ xs.d, .slice xs.F NK xs.f] [.int .u64 s.index, .int .u64 s.epoch, .slice xs.A NB xs.a, .slice A7 k c7, .slice none 0 0]) ∧ Hid (OwnRJ wr (w.heap.size + 1 + 1 + 1) A7 k c7 (s.jobs.take k)) ∧ Hid (KeepT wr)) (fun vi _ => NJ - (intOf vi).toNat)
  case atStart => exact ⟨0, 0, none, Nat.zero_le _, rfl, HP, Lib.hid OwnRJ.nil, HK⟩
  case round =>
    clear HP HK
    obtain ⟨k, c7, A7, hk, rfl, HP, HO, HK⟩ := hrel
    rename World => wr
    have d3 := HP.out.a.cell (j := 3) rfl
    by_cases hlt : k < NJ
    · have hkl : k < s.jobs.length := by rw [HNJ.out]; exact hlt
      have e1 : decide ((k : Int) < (NJ : Int)) = true := decide_eq_true (by omega)
      have k1 : (0 : Int) ≤ (k : Int) := by omega
      have k2 : (k : Int) < (NJ : Int) := by omega
      have hw3 : IntKind.i64.wrap ((k : Int) + 1) = ((k + 1 : Nat) : Int) := by rw [IntWalk.i64_in _ (by omega)]; omega
      obtain ⟨b, o, hA, hb0, hc⟩ := HX1.out.at_ (jbs_ne hkl)
      have r1 := Rd.enc_range Jb.vs_len hc k hkl
      have hst := List.take_succ_eq_append_getElem hkl
      obtain ⟨y, hy⟩ : ∃ y, s.jobs[k] = y := ⟨_, rfl⟩
      rw [hy] at r1 hst
      have HST := Lib.hid hst
      rw [hA] at d3
      have HA := Lib.hid hA
      have hcell : ∀ W, Hid (SC w W [.int .u64 s.index, .int .u64 s.epoch, .slice xs.A NB xs.a, .slice xs.D NJ xs.d, .slice xs.F NK xs.f] [.int .u64 s.index, .int .u64 s.epoch, .slice xs.A NB xs.a, .slice A7 k c7, .slice none 0 0]) → W.cell? ⟨w.heap.size + 1 + 1, 3, none⟩ = some (.slice A7 k c7) ∧ W.cell? ⟨w.heap.size, 3, none⟩ = some (.slice (some ⟨b, o, none⟩) NJ xs.d) ∧ W.rangeAt b (o + k * 3) [.int .u64 y.id, .int .u32 y.sum, .int .u64 y.seq] := fun W h => ⟨h.out.o.cell (j := 3) rfl, by rw [← HA.out]; exact h.out.a.cell (j := 3) rfl, rangeAt_below r1 h.out.bl hb0⟩
      clear hA hc hy hst
      go_wp2
      have HP0 := HP
      have HK0 := HK
      have HO0 := HO
      clear HP HK HO
      have HP := Lib.hid HP0.out.drew
      have HK := Lib.hid (show KeepT (World.drew wr) from HK0.out)
      have HO := Lib.hid (show OwnRJ (World.drew wr) _ _ _ _ _ from HO0.out)
      have HC := hcell _ HP
      refine region_wz (fun W => W.cell? ⟨w.heap.size + 1 + 1, 3, none⟩ = some (.slice A7 k c7) ∧ W.cell? ⟨w.heap.size, 3, none⟩ = some (.slice (some ⟨b, o, none⟩) NJ xs.d) ∧ W.rangeAt b (o + k * 3) [.int .u64 y.id, .int .u32 y.sum, .int .u64 y.seq]) (some 10) (by kernel_rfl) ?_
      apply WZ.take (i := 0) (some 20) rfl rfl (by kernel_rfl) (by kernel_rfl) (by kernel_rfl) (calm_panic _) (by kernel_rfl)
      case hy => (refine .inl ⟨by kernel_rfl, fun W hC => ?_⟩; (try dsimp only at hC); go_simp; rfl)
      case hC => exact HC
      case ha => (simp only [Act.put, List.setIfInBounds_toArray, List.set_cons_zero, List.set_cons_succ]; rfl)
      apply WZ.take (i := 1) (some 21) rfl rfl (by kernel_rfl) (by kernel_rfl) (by kernel_rfl) (calm_panic _) (by kernel_rfl)
      case hy => (refine .inl ⟨by kernel_rfl, fun W hC => ?_⟩; (try dsimp only at hC); go_simp; rfl)
      case hC => exact HC
      case ha => (simp only [Act.put, List.setIfInBounds_toArray, List.set_cons_zero, List.set_cons_succ]; rfl)
      apply WZ.take (i := 2) (some 22) rfl rfl (by kernel_rfl) (by kernel_rfl) (by kernel_rfl) (calm_panic _) (by kernel_rfl)
      case hy => (refine .inl ⟨by kernel_rfl, fun W hC => ?_⟩; (try dsimp only at hC); go_simp; rfl)
      case hC => exact HC
      case ha => (simp only [Act.put, List.setIfInBounds_toArray, List.set_cons_zero, List.set_cons_succ]; rfl)
      apply WZ.take (i := 3) (some 23) rfl rfl (by kernel_rfl) (by kernel_rfl) (by kernel_rfl) (calm_panic _) (by kernel_rfl)
      case hy => (refine .inl ⟨by kernel_rfl, fun W hC => ?_⟩; (try dsimp only at hC); go_simp; rfl)
      case hC => exact HC
      case ha => (simp only [Act.put, List.setIfInBounds_toArray, List.set_cons_zero, List.set_cons_succ]; rfl)
      apply WZ.take (i := 4) (some 24) rfl rfl (by kernel_rfl) (by kernel_rfl) (by kernel_rfl) (calm_panic _) (by kernel_rfl)
      case hy => (refine .inl ⟨by kernel_rfl, fun W hC => ?_⟩; (try dsimp only at hC); go_simp; rfl)
      case hC => exact HC
      case ha => (simp only [Act.put, List.setIfInBounds_toArray, List.set_cons_zero, List.set_cons_succ]; rfl)
      apply WZ.take (i := 5) (some 25) rfl rfl (by kernel_rfl) (by kernel_rfl) (by kernel_rfl) (calm_panic _) (by kernel_rfl)
      case hy => (refine .inl ⟨by kernel_rfl, fun W hC => ?_⟩; (try dsimp only at hC); go_simp; rfl)
      case hC => exact HC
      case ha => (simp only [Act.put, List.setIfInBounds_toArray, List.set_cons_zero, List.set_cons_succ]; rfl)
      apply WZ.take (i := 6) (some 26) rfl rfl (by kernel_rfl) (by kernel_rfl) (by kernel_rfl) (calm_panic _) (by kernel_rfl)
      case hy => first | (apply yieldsIf_load_mid (by kernel_rfl) _ _ rfl _ _ rfl; (case hS => (intro W hC; exact hC.1)); (case hu => exact Try.underlying64); (case hd => rfl); (case hi => kernel_rfl)) | (apply yieldsIf_load_mid (by kernel_rfl) _ _ rfl _ _ rfl; (case hS => (intro W hC; exact hC.2.1)); (case hu => exact Try.underlying64); (case hd => rfl); (case hi => kernel_rfl)) | (apply yieldsIf_load_mid (by kernel_rfl) _ _ rfl _ _ rfl; (case hS => (intro W hC; exact hC.2.2.1)); (case hu => exact Try.underlying64); (case hd => rfl); (case hi => kernel_rfl)) | (apply yieldsIf_load_mid (by kernel_rfl) _ _ rfl _ _ rfl; (case hS => (intro W hC; exact hC.2.2.2.1)); (case hu => exact Try.underlying64); (case hd => rfl); (case hi => kernel_rfl)) | (apply yieldsIf_load_mid (by kernel_rfl) _ _ rfl _ _ rfl; (case hS => (intro W hC; exact hC.2.2.2)); (case hu => exact Try.underlying64); (case hd => rfl); (case hi => kernel_rfl)) | (apply yieldsIf_load_mid (by kernel_rfl) _ _ rfl _ _ rfl; (case hS => (intro W hC; exact hC.2.2)); (case hu => exact Try.underlying64); (case hd => rfl); (case hi => kernel_rfl)) | (apply yieldsIf_load_mid (by kernel_rfl) _ _ rfl _ _ rfl; (case hS => (intro W hC; exact hC.2)); (case hu => exact Try.underlying64); (case hd => rfl); (case hi => kernel_rfl)) | (apply yieldsIf_load_mid (by kernel_rfl) _ _ rfl _ _ rfl; (case hS => (intro W hC; exact hC)); (case hu => exact Try.underlying64); (case hd => rfl); (case hi => kernel_rfl))
      case hC => exact HC
      case ha => (simp only [Act.put, List.setIfInBounds_toArray, List.set_cons_zero, List.set_cons_succ]; rfl)
      -- 7
      refine WZ.one (i := 7) rfl (by kernel_rfl) ?_
      conv => arg 4; arg 1; whnf
      go_wp2_with fail
      have HP1 := HP
      have HK1 := HK
      have HO1 := HO
      clear HP HK HO HC
      have HP := Lib.hid (HP1.out.below (below_al _ (.cells #[.int .u64 y.id, .int .u32 y.sum, .int .u64 y.seq] 67)))
      have HR := Lib.hid (show Rd _ _ _ (jbs [y]) from HP1.out.lit 67 [.int .u64 y.id, .int .u32 y.sum, .int .u64 y.seq])
      have HO := Lib.hid (HO1.out.below (below_al _ (.cells #[.int .u64 y.id, .int .u32 y.sum, .int .u64 y.seq] 67)))
      have HK := Lib.hid (keepT HP.out)
      have HC := hcell _ HP
      refine ⟨HC, ?_⟩
      -- 8
      refine WZ.one (i := 8) rfl (by kernel_rfl) ?_
      conv => arg 4; arg 1; whnf
      go_wp2_with (at_builtin; go_loud (refine rjobs_app rfl _ _ rfl (w.heap.size + 1 + 1 + 1) A7 k c7 (k + 1) (s.jobs.take k) [y] rfl HO.out _ 1 1 rfl HR.out rfl rfl (by omega) (Nat.succ_le_of_lt HP.out.o.lt) ?_); intro A6 c6 w12 HO6 HG6; go_loud (have HP2 := HP; clear HP; have HP := Lib.hid (HP2.out.own HG6.out (fun q e => by have := (Own.lt HO.out _ e).1; omega)); have HK2 := HK; clear HK; have HK := Lib.hid (keepT HP.out); clear HC; have f3 := HP.out.o.free 3; have HC := hcell _ HP))
      refine ⟨HC, ?_⟩
      apply WZ.take (i := 9) (some 29) rfl rfl (by kernel_rfl) (by kernel_rfl) (by kernel_rfl) (calm_panic _) (by kernel_rfl)
      case hy => (refine .inl ⟨by kernel_rfl, fun W hC => ?_⟩; (try dsimp only at hC); go_simp; rfl)
      case hC => exact HC
      case ha => (simp only [Act.put, List.setIfInBounds_toArray, List.set_cons_zero, List.set_cons_succ]; rfl)
      -- 10
      refine WZ.last (i := 10) rfl (by kernel_rfl) (by kernel_rfl) ?_
      conv => arg 4; arg 1; whnf
      go_wp2
      refine WZ.done (by kernel_rfl) ?_ _
      simp only [Calm, Exit.then]
      rw [← HST.out] at HO6
      have HP3 := Lib.hid (HP.out.set 3 (.slice A6 (k + 1) c6))
      have HO3 := Lib.hid (show OwnRJ _ _ _ _ _ _ from Own.setCell (p := ⟨w.heap.size + 1 + 1, 3, none⟩) HO6.out (own_off HO6.out (Nat.lt_succ_self _)) (.slice A6 (k + 1) c6))
      have HK3 := Lib.hid (keepT HP3.out)
      go_wp2
      exact ⟨⟨k + 1, c6, A6, by omega, by first | rfl | go_num, HP3, HO3, HK3⟩, by simp [intOf]; omega⟩
    · have e1 : decide ((k : Int) < (NJ : Int)) = false := decide_eq_false (by omega)
      have hkN : k = NJ := by omega
      have htk : s.jobs.take k = s.jobs := List.take_of_length_le (by rw [HNJ.out, hkN]; exact Nat.le_refl _)
      rw [htk] at HO
      rw [hkN] at HP HO
      clear hkN htk HK
      have HK := Lib.hid (show (fun W => OwnRJ W (w.heap.size + 1 + 1 + 1) A7 NJ c7 s.jobs) wr from HO.out)
      clear HO
      go_wp2
      go_loopw [5] (fun vi wr => ∃ (k c5 : Nat) (A5 : Option Addr), k ≤ NK ∧ vi = .int .i64 (k : Int) ∧ Hid (SC w wr [.int .u64 s.index, .int .u64 s.epoch, .slice xs.A NB xs.a, .slice xs.D NJ xs.d, .slice xs.F NK xs.f] [.int .u64 s.index, .int .u64 s.epoch, .slice xs.A NB xs.a, .slice A7 NJ c7, .slice A5 k c5]) ∧ Hid (OwnRK wr (w.heap.size + 1 + 1 + 1) A5 k c5 (s.clients.take k)) ∧ Hid ((fun W => OwnRJ W (w.heap.size + 1 + 1 + 1) A7 NJ c7 s.jobs) wr)) (fun vi _ => NK - (intOf vi).toNat)
      case atStart => exact ⟨0, 0, none, Nat.zero_le _, rfl, HP, Lib.hid OwnRK.nil, HK⟩
      case round =>
        clear HP HK
        obtain ⟨k, c5, A5, hk, rfl, HP, HO, HK⟩ := hrel
        rename World => wr
        have d3 := HP.out.a.cell (j := 4) rfl
        by_cases hlt : k < NK
        · have hkl : k < s.clients.length := by rw [HNK.out]; exact hlt
          have e1 : decide ((k : Int) < (NK : Int)) = true := decide_eq_true (by omega)
          have k1 : (0 : Int) ≤ (k : Int) := by omega
          have k2 : (k : Int) < (NK : Int) := by omega
          have hw3 : IntKind.i64.wrap ((k : Int) + 1) = ((k + 1 : Nat) : Int) := by rw [IntWalk.i64_in _ (by omega)]; omega
          obtain ⟨b, o, hA, hb0, hc⟩ := HX2.out.at_ (kls_ne hkl)
          have r1 := Rd.enc_range Kl.vs_len hc k hkl
          have hst := List.take_succ_eq_append_getElem hkl
          obtain ⟨y, hy⟩ : ∃ y, s.clients[k] = y := ⟨_, rfl⟩
          rw [hy] at r1 hst
          have HST := Lib.hid hst
          rw [hA] at d3
          have HA := Lib.hid hA
          have hcell : ∀ W, Hid (SC w W [.int .u64 s.index, .int .u64 s.epoch, .slice xs.A NB xs.a, .slice xs.D NJ xs.d, .slice xs.F NK xs.f] [.int .u64 s.index, .int .u64 s.epoch, .slice xs.A NB xs.a, .slice A7 NJ c7, .slice A5 k c5]) → W.cell? ⟨w.heap.size + 1 + 1, 4, none⟩ = some (.slice A5 k c5) ∧ W.cell? ⟨w.heap.size, 4, none⟩ = some (.slice (some ⟨b, o, none⟩) NK xs.f) ∧ W.rangeAt b (o + k * 3) [.int .u64 y.id, .int .u64 y.num, .int .i64 y.e] := fun W h => ⟨h.out.o.cell (j := 4) rfl, by rw [← HA.out]; exact h.out.a.cell (j := 4) rfl, rangeAt_below r1 h.out.bl hb0⟩
          clear hA hc hy hst
          go_wp2
          have HP0 := HP
          have HK0 := HK
          have HO0 := HO
          clear HP HK HO
          have HP := Lib.hid HP0.out.drew
          have HK := Lib.hid (show (fun W => OwnRJ W (w.heap.size + 1 + 1 + 1) A7 NJ c7 s.jobs) (World.drew wr) from HK0.out)
          have HO := Lib.hid (show OwnRK (World.drew wr) _ _ _ _ _ from HO0.out)
          have HC := hcell _ HP
          refine region_wz (fun W => W.cell? ⟨w.heap.size + 1 + 1, 4, none⟩ = some (.slice A5 k c5) ∧ W.cell? ⟨w.heap.size, 4, none⟩ = some (.slice (some ⟨b, o, none⟩) NK xs.f) ∧ W.rangeAt b (o + k * 3) [.int .u64 y.id, .int .u64 y.num, .int .i64 y.e]) (some 10) (by kernel_rfl) ?_
          apply WZ.take (i := 0) (some 37) rfl rfl (by kernel_rfl) (by kernel_rfl) (by kernel_rfl) (calm_panic _) (by kernel_rfl)
          case hy => (refine .inl ⟨by kernel_rfl, fun W hC => ?_⟩; (try dsimp only at hC); go_simp; rfl)
          case hC => exact HC
          case ha => (simp only [Act.put, List.setIfInBounds_toArray, List.set_cons_zero, List.set_cons_succ]; rfl)
          apply WZ.take (i := 1) (some 38) rfl rfl (by kernel_rfl) (by kernel_rfl) (by kernel_rfl) (calm_panic _) (by kernel_rfl)
          case hy => (refine .inl ⟨by kernel_rfl, fun W hC => ?_⟩; (try dsimp only at hC); go_simp; rfl)
          case hC => exact HC
          case ha => (simp only [Act.put, List.setIfInBounds_toArray, List.set_cons_zero, List.set_cons_succ]; rfl)
          apply WZ.take (i := 2) (some 39) rfl rfl (by kernel_rfl) (by kernel_rfl) (by kernel_rfl) (calm_panic _) (by kernel_rfl)
          case hy => (refine .inl ⟨by kernel_rfl, fun W hC => ?_⟩; (try dsimp only at hC); go_simp; rfl)
          case hC => exact HC
          case ha => (simp only [Act.put, List.setIfInBounds_toArray, List.set_cons_zero, List.set_cons_succ]; rfl)
          apply WZ.take (i := 3) (some 40) rfl rfl (by kernel_rfl) (by kernel_rfl) (by kernel_rfl) (calm_panic _) (by kernel_rfl)
          case hy => (refine .inl ⟨by kernel_rfl, fun W hC => ?_⟩; (try dsimp only at hC); go_simp; rfl)
          case hC => exact HC
          case ha => (simp only [Act.put, List.setIfInBounds_toArray, List.set_cons_zero, List.set_cons_succ]; rfl)
          apply WZ.take (i := 4) (some 41) rfl rfl (by kernel_rfl) (by kernel_rfl) (by kernel_rfl) (calm_panic _) (by kernel_rfl)
          case hy => (refine .inl ⟨by kernel_rfl, fun W hC => ?_⟩; (try dsimp only at hC); go_simp; rfl)
          case hC => exact HC
          case ha => (simp only [Act.put, List.setIfInBounds_toArray, List.set_cons_zero, List.set_cons_succ]; rfl)
          apply WZ.take (i := 5) (some 42) rfl rfl (by kernel_rfl) (by kernel_rfl) (by kernel_rfl) (calm_panic _) (by kernel_rfl)
          case hy => (refine .inl ⟨by kernel_rfl, fun W hC => ?_⟩; (try dsimp only at hC); go_simp; rfl)
          case hC => exact HC
          case ha => (simp only [Act.put, List.setIfInBounds_toArray, List.set_cons_zero, List.set_cons_succ]; rfl)
          apply WZ.take (i := 6) (some 43) rfl rfl (by kernel_rfl) (by kernel_rfl) (by kernel_rfl) (calm_panic _) (by kernel_rfl)
          case hy => first | (apply yieldsIf_load_mid (by kernel_rfl) _ _ rfl _ _ rfl; (case hS => (intro W hC; exact hC.1)); (case hu => exact Try.underlying107); (case hd => rfl); (case hi => kernel_rfl)) | (apply yieldsIf_load_mid (by kernel_rfl) _ _ rfl _ _ rfl; (case hS => (intro W hC; exact hC.2.1)); (case hu => exact Try.underlying107); (case hd => rfl); (case hi => kernel_rfl)) | (apply yieldsIf_load_mid (by kernel_rfl) _ _ rfl _ _ rfl; (case hS => (intro W hC; exact hC.2.2.1)); (case hu => exact Try.underlying107); (case hd => rfl); (case hi => kernel_rfl)) | (apply yieldsIf_load_mid (by kernel_rfl) _ _ rfl _ _ rfl; (case hS => (intro W hC; exact hC.2.2.2.1)); (case hu => exact Try.underlying107); (case hd => rfl); (case hi => kernel_rfl)) | (apply yieldsIf_load_mid (by kernel_rfl) _ _ rfl _ _ rfl; (case hS => (intro W hC; exact hC.2.2.2)); (case hu => exact Try.underlying107); (case hd => rfl); (case hi => kernel_rfl)) | (apply yieldsIf_load_mid (by kernel_rfl) _ _ rfl _ _ rfl; (case hS => (intro W hC; exact hC.2.2)); (case hu => exact Try.underlying107); (case hd => rfl); (case hi => kernel_rfl)) | (apply yieldsIf_load_mid (by kernel_rfl) _ _ rfl _ _ rfl; (case hS => (intro W hC; exact hC.2)); (case hu => exact Try.underlying107); (case hd => rfl); (case hi => kernel_rfl)) | (apply yieldsIf_load_mid (by kernel_rfl) _ _ rfl _ _ rfl; (case hS => (intro W hC; exact hC)); (case hu => exact Try.underlying107); (case hd => rfl); (case hi => kernel_rfl))
          case hC => exact HC
          case ha => (simp only [Act.put, List.setIfInBounds_toArray, List.set_cons_zero, List.set_cons_succ]; rfl)
          -- 7
          refine WZ.one (i := 7) rfl (by kernel_rfl) ?_
          conv => arg 4; arg 1; whnf
          go_wp2_with fail
          have HP1 := HP
          have HK1 := HK
          have HO1 := HO
          clear HP HK HO HC
          have HP := Lib.hid (HP1.out.below (below_al _ (.cells #[.int .u64 y.id, .int .u64 y.num, .int .i64 y.e] 106)))
          have HR := Lib.hid (show Rd _ _ _ (kls [y]) from HP1.out.lit 106 [.int .u64 y.id, .int .u64 y.num, .int .i64 y.e])
          have HO := Lib.hid (HO1.out.below (below_al _ (.cells #[.int .u64 y.id, .int .u64 y.num, .int .i64 y.e] 106)))
          have HK := Lib.hid (OwnRJ.below HK1.out (al_client y _))
          have HC := hcell _ HP
          refine ⟨HC, ?_⟩
          -- 8
          refine WZ.one (i := 8) rfl (by kernel_rfl) ?_
          conv => arg 4; arg 1; whnf
          go_wp2_with (at_builtin; go_loud (refine rclients_app rfl _ _ rfl (w.heap.size + 1 + 1 + 1) A5 k c5 (k + 1) (s.clients.take k) [y] rfl HO.out _ 1 1 rfl HR.out rfl rfl (by omega) (Nat.succ_le_of_lt HP.out.o.lt) ?_); intro A6 c6 w12 HO6 HG6; go_loud (have HP2 := HP; clear HP; have HP := Lib.hid (HP2.out.own HG6.out (fun q e => by have := (Own.lt HO.out _ e).1; omega)); have HK2 := HK; clear HK; have HK := Lib.hid (Own.grown HK2.out HG6.out (own_apart2 HK2.out HO.out (by decide))); clear HC; have f3 := HP.out.o.free 4; have HC := hcell _ HP))
          refine ⟨HC, ?_⟩
          apply WZ.take (i := 9) (some 46) rfl rfl (by kernel_rfl) (by kernel_rfl) (by kernel_rfl) (calm_panic _) (by kernel_rfl)
          case hy => (refine .inl ⟨by kernel_rfl, fun W hC => ?_⟩; (try dsimp only at hC); go_simp; rfl)
          case hC => exact HC
          case ha => (simp only [Act.put, List.setIfInBounds_toArray, List.set_cons_zero, List.set_cons_succ]; rfl)
          -- 10
          refine WZ.last (i := 10) rfl (by kernel_rfl) (by kernel_rfl) ?_
          conv => arg 4; arg 1; whnf
          go_wp2
          refine WZ.done (by kernel_rfl) ?_ _
          simp only [Calm, Exit.then]
          rw [← HST.out] at HO6
          have HP3 := Lib.hid (HP.out.set 4 (.slice A6 (k + 1) c6))
          have HO3 := Lib.hid (show OwnRK _ _ _ _ _ _ from Own.setCell (p := ⟨w.heap.size + 1 + 1, 4, none⟩) HO6.out (own_off HO6.out (Nat.lt_succ_self _)) (.slice A6 (k + 1) c6))
          have HK3 := Lib.hid (Own.setCell (p := ⟨w.heap.size + 1 + 1, 4, none⟩) HK.out (own_off HK.out (Nat.lt_succ_self _)) (.slice A6 (k + 1) c6))
          go_wp2
          exact ⟨⟨k + 1, c6, A6, by omega, by first | rfl | go_num, HP3, HO3, HK3⟩, by simp [intOf]; omega⟩
        · have e1 : decide ((k : Int) < (NK : Int)) = false := decide_eq_false (by omega)
          have hkN : k = NK := by omega
          have htk : s.clients.take k = s.clients := List.take_of_length_le (by rw [HNK.out, hkN]; exact Nat.le_refl _)
          rw [htk] at HO
          rw [hkN] at HP HO
          clear hkN htk
          go_wp2_with (first
            | ((with_reducible show wpList _ _ _ ({ dst := some 47, op := Op.load _ _, type := _, pos := _, after := _, guard := _ } :: _) _ _); go_loud (refine wpList_load_mid rfl 51 (.tmp 3) rfl (w.heap.size + 1 + 1) 0 rfl [.int .u64 s.index, .int .u64 s.epoch, .slice xs.A NB xs.a, .slice A7 NJ c7, .slice A5 NK c5] _ HP.out.o.range Try.underlying51 rfl (by kernel_rfl) ?_))
            | ((with_reducible show wpList _ _ _ ({ dst := none, op := Op.store _ (Operand.tmp 2) _, type := _, pos := _, after := _, guard := _ } :: _) _ _); go_loud (refine wpList_store_mid rfl 51 (.tmp 2) (.tmp 47) rfl (w.heap.size + 1) 0 #[.int .u64 s.index, .int .u64 s.epoch, .slice xs.A NB xs.a, .slice A7 NJ c7, .slice A5 NK c5] rfl rfl (HP.out.z.there 5 (Nat.le_refl _)) (by kernel_rfl) (by simp [Value.oneCell']) ?_); refine HP.out.z.setW [.int .u64 s.index, .int .u64 s.epoch, .slice xs.A NB xs.a, .slice A7 NJ c7, .slice A5 NK c5] rfl ?_; intro w22 HT22 HG22))
          (try simp only [Exit.inBlock, Exit.then])
          refine bodyPost_ret (results_cell_row rfl _ _ (w.heap.size + 1) _ _ _ _ rfl HT22.out Try.underlying51 rfl (by kernel_rfl)) rfl ?_
          have hb := below_grown HP.out.bl HP.out.bl.size HG22.out (by omega)
          have ho1 := Own.grown HO.out HG22.out (.inr (own_off HO.out (by omega)))
          have ho2 := Own.grown HK.out HG22.out (.inr (own_off HK.out (by omega)))
          refine ⟨⟨xs.A, xs.a, A7, c7, A5, c5⟩, ?_, ⟨(HIN.out.rb.below hb).more hb.size, Own.rd ho2 (by omega), Own.rd ho1 (by omega)⟩, hb⟩
          unfold Sta.vs
          rw [HNB.out, HNJ.out, HNK.out]
end Go.Proofs.Ytiiogdgnccgehaa
