/-
  The walk of cut.Roll.
-/
import Derived.Test.YteacjikkojglmaaRollInv
namespace Go.Proofs.Yteacjikkojglmaa
open Go.RowKit Go.Shelf
attribute [local go_sem ↓] Go.wp_at_zero Go.wp_at_succ
attribute [local go_sem] Oper.semAt_some

set_option maxRecDepth 100000 in
set_option maxHeartbeats 4000000 in
theorem cutRoll_ok (A : Option Addr) (c : Nat) (l : List Cl) (most : Nat) (w : World) (hl : Rd w w.heap.size A (vals l)) (hlen : l.length ≤ 1000) (hcap : l.length ≤ c) (hm : 1 ≤ most) (hm2 : most ≤ 9223372036854775807) (hr : rising l = true) :
    Calls Try.prog 18 #[.slice A l.length c, .int .i64 most] w fun e w' => ∃ (A' : Option Addr) (n' c' : Nat) (vs : List Value), e = .returned (.tuple #[.slice A' n' c', .int .i64 0]) ∧
      Own w' w.heap.size 22 1 A' n' c' vs ∧ Lists w' w.heap.size vs (roll l most) ∧ Apart vs ∧ Below w.heap.size w w' := by
  obtain ⟨i0, hi0, hz0, hz1, hz2⟩ := info_parts sliceInfo
  obtain ⟨j0, hj0, jz0, jz1, jz2⟩ := info_parts cellInfo
  refine (callsIn_wide (n := 9)).1 ?_
  refine callsIn_of_wp_marks Try.func18 rfl trivial ?_ rfl
  simp only [Try.ntmps18, List.size_toArray, List.length_cons, List.length_nil, Nat.reduceAdd, Nat.reduceSub, Array.replicate_succ, Array.replicate_zero, List.push_toArray, List.append_toArray, List.nil_append, List.cons_append]
  have hmd : decide ((most : Int) < 1) = false := decide_eq_false (by omega)
  gi_wp2_with (first | (refine ⟨trivial, ?_⟩; gi_at_call 24; refine (callsIn_wide.2 (cellRising_any A c l _ (((hl.alloc (Nat.le_refl _) _).alloc (by simp) _).more (by simp; omega)) (by unfold maxLen; omega))).mono ?_; rintro e w1 ⟨rfl, hb1⟩) |
    (refine ⟨trivial, ?_⟩; gi_at_call 28; refine (callsIn_wide.2 (rows_any A l.length c _)).mono ?_; rintro e w2 ⟨rfl, rfl⟩))
  have hsz1 : w.heap.size + 2 ≤ w1.heap.size := by have := hb1.size; rw [World.size_alloc, World.size_alloc] at this; omega
  have hB0 : Below w.heap.size w w1 := ((((Below.refl _ _).alloc (Nat.le_refl _) _).alloc (by simp) _).trans (hb1.mono (by simp; omega)))
  have hbx := Box.new w1 22 (.slice A l.length c)
  have hl1 : Rd (w1.alloc (.cells #[.slice A l.length c] 22)) w.heap.size A (vals l) := (hl.below hB0).alloc (by omega) _
  refine wpIn_rangeFunc_ownG (F := Fence.wide) (n := 9) rfl (by omega) (gf := 31) (lb := #[.pointer (some ⟨w1.heap.size, 0, none⟩)]) rfl trivial (enters_of Try.func31 (by kernel_rfl) rfl)
    (rows_stops 8 (by omega) w1.heap.size w.heap.size A c l hlen hcap _ hbx (by rw [World.size_alloc]; omega) hl1) Kept.trans (Kept.put (by rw [World.size_alloc]; omega) hbx.lt) (Below.refl _ _) (fun _ => rfl)
    (fun pre W => ∃ (Ao : Option Addr) (no co : Nat) (vs : List Value) (ps : List (List Cl)), RollSt w w1.heap.size most W Ao no co vs ps ∧ no ≤ pre.length ∧ ps = (pre.map (part l)).foldl (rollStep most) []) (fun _ _ _ => False) ?hI (fun _ _ _ _ _ hs _ _ => hs) ?h0
    (fun x => { tmps := #[.slice A l.length c, .int .i64 most, undef,
          .pointer (some { block := w.heap.size, off := 0 }),
          .pointer (some { block := w.heap.size + 1, off := 0 }), .int .i64 0, partVal A c l.length x, undef,
          .bool false, .int .i64 most, .bool false, .bool false, .slice A l.length c,
          .bool true, .bool false, .slice A l.length c,
          .func (Fn.func 31) #[] #[.pointer (some { block := w1.heap.size, off := 0 })], partVal A c l.length x, undef, undef,
          undef, undef, undef, undef, undef, undef, undef, undef, undef, undef, undef, undef, undef, undef, undef,
          undef, undef, undef, undef, undef, undef, undef, undef, undef, undef, undef, undef, undef, undef, undef], defers := [] }) ?assign ?body ?done ?stop
  case hI =>
    rintro pre W W' row ⟨Ao, no, co, vs, ps, hst, hr⟩ hg hrow
    exact ⟨Ao, no, co, vs, ps, hst.turn hg (fun r e => ⟨by have := (hrow r e).1; rw [World.size_alloc] at this; omega, (hrow r e).2⟩), hr⟩
  case h0 =>
    have hsz := World.size_alloc w (.cells #[.int .i64 most] 3)
    have hx0 : Box w1 w.heap.size 3 (.int .i64 most) := ((Box.new w _ _).alloc _).below hb1 (by simp; omega)
    have hx1 : Box w1 (w.heap.size + 1) 26 (.slice none 0 0) := by
      have h := Box.new (w.alloc (.cells #[.int .i64 most] 3)) 26 (.slice none 0 0)
      rw [hsz] at h
      exact h.below hb1 (by simp)
    refine ⟨none, 0, 0, [], [], ⟨hx1.alloc _, Own.nil, ⟨rfl, fun i hi => absurd hi (by simp)⟩, fun i j hi => absurd hi (by simp), hx0.alloc _, hsz1, by simp, hB0.alloc (by omega) _⟩, Nat.le_refl _, rfl⟩
  case assign =>
    intro r x W K hK
    gi_wp2
    exact hK
  case body =>
    rintro r pre x W ⟨Ao, no, co, vs, ps, hst, hno1, hps⟩ hlt
    have HSt := Lib.hid hst
    have HPS := Lib.hid hps
    obtain ⟨hbox, hown, hlist, hap, hmost, hBn, hBW, hB⟩ := hst
    have hc := hbox.cell
    have hcm := hmost.cell
    have hwW : w.heap.size ≤ W.heap.size := hB.size
    have hboW : w.heap.size + 1 < W.heap.size := hbox.lt
    have hbo := hbox.free
    obtain ⟨A3, rl, c3, hpv, hrl, hr1, hrl2, hrd⟩ := partVal_form (hl.below hB) hcap x
    simp only [hpv]
    have hvl := hown.vals_len
    have HC : W.drew.cell? ⟨w.heap.size + 1, 0, none⟩ = some (.slice Ao no co) ∧ W.drew.cell? ⟨w.heap.size, 0, none⟩ = some (.int .i64 most) := ⟨hc, hcm⟩
    have hnb : no ≤ 1000 := by omega
    clear hl hl1 hbx hps hpv hmost hap
    by_cases hno : no = 0
    · subst hno
      have HNEW := Lib.hid (rollStep_new (most := most) (out := ps) (row := part l x) (fun q hq => by
        have h0 : ps = [] := List.eq_nil_of_length_eq_zero (by rw [← hlist.1, hvl])
        rw [h0] at hq; cases hq))
      clear hlist
      gi_wp2
      refine region_wz_round (fun W' => W'.cell? ⟨w.heap.size + 1, 0, none⟩ = some (.slice Ao 0 co) ∧ W'.cell? ⟨w.heap.size, 0, none⟩ = some (.int .i64 most)) none (by kernel_rfl) (by kernel_rfl) ?_
      apply WZ.take (i := 0) (some 21) rfl rfl (by kernel_rfl) (by kernel_rfl) (by kernel_rfl) (calm_panic _) (by kernel_rfl)
      case hy => (refine .inl ⟨by kernel_rfl, fun W hC => ?_⟩; (try dsimp only at hC); go_simp; rfl)
      case hC => exact HC
      case ha => (simp only [Act.put, List.setIfInBounds_toArray, List.set_cons_zero, List.set_cons_succ]; rfl)
      apply WZ.take (i := 1) (some 22) rfl rfl (by kernel_rfl) (by kernel_rfl) (by kernel_rfl) (calm_panic _) (by kernel_rfl)
      case hy => (refine .inl ⟨by kernel_rfl, fun W hC => ?_⟩; (try dsimp only at hC); go_simp; rfl)
      case hC => exact HC
      case ha => (simp only [Act.put, List.setIfInBounds_toArray, List.set_cons_zero, List.set_cons_succ]; rfl)
      apply WZ.take (i := 2) (some 23) rfl rfl (by kernel_rfl) (by kernel_rfl) (by kernel_rfl) (calm_panic _) (by kernel_rfl)
      case hy => (refine .inl ⟨by kernel_rfl, fun W hC => ?_⟩; (try dsimp only at hC); go_simp; rfl)
      case hC => exact HC
      case ha => (simp only [Act.put, List.setIfInBounds_toArray, List.set_cons_zero, List.set_cons_succ]; rfl)
      apply WZ.take (i := 3) (some 24) rfl rfl (by kernel_rfl) (by kernel_rfl) (by kernel_rfl) (calm_panic _) (by kernel_rfl)
      case hy => exact .inr ⟨by kernel_rfl, rfl⟩
      case hC => exact HC
      case ha => (simp only [Act.put, List.setIfInBounds_toArray, List.set_cons_zero, List.set_cons_succ]; rfl)
      apply WZ.take (i := 4) (some 25) rfl rfl (by kernel_rfl) (by kernel_rfl) (by kernel_rfl) (calm_panic _) (by kernel_rfl)
      case hy => exact .inr ⟨by kernel_rfl, rfl⟩
      case hC => exact HC
      case ha => (simp only [Act.put, List.setIfInBounds_toArray, List.set_cons_zero, List.set_cons_succ]; rfl)
      apply WZ.take (i := 5) (some 26) rfl rfl (by kernel_rfl) (by kernel_rfl) (by kernel_rfl) (calm_panic _) (by kernel_rfl)
      case hy => exact .inr ⟨by kernel_rfl, rfl⟩
      case hC => exact HC
      case ha => (simp only [Act.put, List.setIfInBounds_toArray, List.set_cons_zero, List.set_cons_succ]; rfl)
      apply WZ.take (i := 6) (some 27) rfl rfl (by kernel_rfl) (by kernel_rfl) (by kernel_rfl) (calm_panic _) (by kernel_rfl)
      case hy => exact .inr ⟨by kernel_rfl, rfl⟩
      case hC => exact HC
      case ha => (simp only [Act.put, List.setIfInBounds_toArray, List.set_cons_zero, List.set_cons_succ]; rfl)
      apply WZ.take (i := 7) (some 28) rfl rfl (by kernel_rfl) (by kernel_rfl) (by kernel_rfl) (calm_panic _) (by kernel_rfl)
      case hy => exact .inr ⟨by kernel_rfl, rfl⟩
      case hC => exact HC
      case ha => (simp only [Act.put, List.setIfInBounds_toArray, List.set_cons_zero, List.set_cons_succ]; rfl)
      apply WZ.take (i := 8) (some 29) rfl rfl (by kernel_rfl) (by kernel_rfl) (by kernel_rfl) (calm_panic _) (by kernel_rfl)
      case hy => exact .inr ⟨by kernel_rfl, rfl⟩
      case hC => exact HC
      case ha => (simp only [Act.put, List.setIfInBounds_toArray, List.set_cons_zero, List.set_cons_succ]; rfl)
      apply WZ.take (i := 9) (some 30) rfl rfl (by kernel_rfl) (by kernel_rfl) (by kernel_rfl) (calm_panic _) (by kernel_rfl)
      case hy => exact .inr ⟨by kernel_rfl, rfl⟩
      case hC => exact HC
      case ha => (simp only [Act.put, List.setIfInBounds_toArray, List.set_cons_zero, List.set_cons_succ]; rfl)
      apply WZ.take (i := 10) (some 31) rfl rfl (by kernel_rfl) (by kernel_rfl) (by kernel_rfl) (calm_panic _) (by kernel_rfl)
      case hy => exact .inr ⟨by kernel_rfl, rfl⟩
      case hC => exact HC
      case ha => (simp only [Act.put, List.setIfInBounds_toArray, List.set_cons_zero, List.set_cons_succ]; rfl)
      apply WZ.take (i := 11) (some 32) rfl rfl (by kernel_rfl) (by kernel_rfl) (by kernel_rfl) (calm_panic _) (by kernel_rfl)
      case hy => exact .inr ⟨by kernel_rfl, rfl⟩
      case hC => exact HC
      case ha => (simp only [Act.put, List.setIfInBounds_toArray, List.set_cons_zero, List.set_cons_succ]; rfl)
      apply WZ.take (i := 12) (some 33) rfl rfl (by kernel_rfl) (by kernel_rfl) (by kernel_rfl) (calm_panic _) (by kernel_rfl)
      case hy => exact .inr ⟨by kernel_rfl, rfl⟩
      case hC => exact HC
      case ha => (simp only [Act.put, List.setIfInBounds_toArray, List.set_cons_zero, List.set_cons_succ]; rfl)
      apply WZ.take (i := 13) (some 34) rfl rfl (by kernel_rfl) (by kernel_rfl) (by kernel_rfl) (calm_panic _) (by kernel_rfl)
      case hy => (refine .inl ⟨by kernel_rfl, fun W hC => ?_⟩; (try dsimp only at hC); go_simp; rfl)
      case hC => exact HC
      case ha => (simp only [Act.put, List.setIfInBounds_toArray, List.set_cons_zero, List.set_cons_succ]; rfl)
      refine WZ.done (by kernel_rfl) ?_ _
      simp only [Calm, Exit.then]
      gi_wp2
      clear HC
      have HC : W.drew.drew.cell? ⟨w.heap.size + 1, 0, none⟩ = some (.slice Ao 0 co) := hc
      refine region_wz_round (fun W' => W'.cell? ⟨w.heap.size + 1, 0, none⟩ = some (.slice Ao 0 co)) (some 5) (by kernel_rfl) (by kernel_rfl) ?_
      apply WZ.take (i := 0) (some 44) rfl rfl (by kernel_rfl) (by kernel_rfl) (by kernel_rfl) (calm_panic _) (by kernel_rfl)
      case hy => (refine .inl ⟨by kernel_rfl, fun W hC => ?_⟩; (try dsimp only at hC); go_simp; rfl)
      case hC => exact HC
      case ha => (simp only [Act.put, List.setIfInBounds_toArray, List.set_cons_zero, List.set_cons_succ]; rfl)
      apply WZ.take (i := 1) (some 45) rfl rfl (by kernel_rfl) (by kernel_rfl) (by kernel_rfl) (calm_panic _) (by kernel_rfl)
      case hy => (refine .inl ⟨by kernel_rfl, fun W hC => ?_⟩; (try dsimp only at hC); go_simp; rfl)
      case hC => exact HC
      case ha => (simp only [Act.put, List.setIfInBounds_toArray, List.set_cons_zero, List.set_cons_succ]; rfl)
      -- 2
      refine WZ.one (i := 2) rfl (by kernel_rfl) ?_
      conv => arg 4; arg 1; whnf
      go_wp2_with (go_at_call 27; refine (clone_at A3 rl c3 (part l x) _ ((hrd.more hwW).drew.drew) hrl (by omega)).mono ?_; rintro e w2 ⟨A2, c2, rfl, ho2, hb2⟩)
      have HC := (hb2.cell (p := ⟨w.heap.size + 1, 0, none⟩) hboW).trans HC
      refine ⟨HC, ?_⟩
      -- 3
      refine WZ.one (i := 3) rfl (by kernel_rfl) ?_
      conv => arg 4; arg 1; whnf
      go_wp2_with (fail)
      have HC := (World.cell?_alloc_lt w2 (.cells #[.slice A2 rl c2] 22) ⟨w.heap.size + 1, 0, none⟩ (Nat.lt_of_lt_of_le hboW hb2.size)).trans HC
      refine ⟨HC, ?_⟩
      -- 4
      refine WZ.one (i := 4) rfl (by kernel_rfl) ?_
      conv => arg 4; arg 1; whnf
      have hown2 := Own.alloc (Own.below hown.drew.drew hb2) (.cells #[.slice A2 rl c2] 22)
      
      go_wp2_with (at_builtin; go_loud (refine wpList_app _ rfl _ _ _ rfl (w1.heap.size + 1) 22 i0 (.slice none 0 0) 1 24 Try.underlying26 hi0 hz0 hz1 hz2 rfl (by decide) Ao 0 co vs rfl hown2 (w2.heap.size + 1) (some ⟨w2.heap.size, 0, none⟩) 1 1 [.slice A2 rl c2] rfl (Rd.new1 _ _ _) rfl (by simp [Value.oneCell']) (by unfold maxLen; omega) (by omega) (by rw [World.size_alloc]; exact Nat.le_succ_of_le (Nat.le_trans hBW hb2.size)) ?_); intro A5 c5 w3 ho3 hg3 hat3)
      have hne2 : some (w.heap.size + 1) ≠ blk Ao := fun e => by have := (hown2.lt _ e.symm).1; omega
      have hbo3 : w.heap.size + 1 < (w2.alloc (.cells #[.slice A2 rl c2] 22)).heap.size := by rw [World.size_alloc]; exact Nat.lt_succ_of_lt (Nat.lt_of_lt_of_le hboW hb2.size)
      have hf3 : w3.frozen? ⟨w.heap.size + 1, 0, none⟩ = false := (hg3.frozen_far ⟨w.heap.size + 1, 0, none⟩ hbo3 hne2).trans ((World.frozen?_of_block (a := ⟨w.heap.size + 1, 0, none⟩) (Below.heap_alloc w2 _ _ (Nat.lt_of_lt_of_le hboW hb2.size))).trans ((hb2.frozen (p := ⟨w.heap.size + 1, 0, none⟩) hboW).trans hbo))
      have HC := (hg3.cell_far ⟨w.heap.size + 1, 0, none⟩ hbo3 hne2).trans HC
      refine ⟨HC, ?_⟩
      -- 5
      refine WZ.last (i := 5) rfl (by kernel_rfl) (by kernel_rfl) ?_
      conv => arg 4; arg 1; whnf
      go_wp2_with (fail)
      refine WZ.done (by kernel_rfl) ?_ _
      simp only [Calm, Exit.then]
      have HF := Lib.hid (HSt.out.new (row := part l x) (w2 := w2) (w3 := w3) hrl ho2 (below_of_drew (below_of_drew hb2)) ho3 hg3)
      gi_wp2
      refine ⟨HF.out.2.1.from _, HF.out.2.2, _, _, _, _, _, HF.out.1, by rw [List.length_append]; exact Nat.succ_le_succ hno1, ?_⟩
      rw [List.map_append, List.foldl_append, ← HPS.out]
      exact (HNEW.out).symm

    · obtain ⟨g, rfl, hg1, hg2, hrow⟩ := hown.at_ (by omega)
      obtain ⟨j, hj⟩ : ∃ j, no = j + 1 := ⟨no - 1, by omega⟩
      have hjv : j < vs.length := by omega
      have hjp : j < ps.length := by rw [← hlist.1]; exact hjv
      obtain ⟨Aq, cq, hv, hoq⟩ := hlist.2 j hjv hjp
      have hjc := (hrow j hjv).1
      have hjf := (hrow j hjv).2
      have hlen2 : ps.length = j + 1 := by rw [← hlist.1, hvl, hj]
      have hqb : ps[j].length ≤ 1000000 := by
        have h1 := roll_le most (pre.map (part l)) [] 0 (by simp) ps[j] (by rw [← HPS.out]; exact List.getElem_mem hjp)
        have h2 := total_le (rows := pre.map (part l)) (k := 1000) (fun r hr => by
          obtain ⟨y, _, rfl⟩ := List.mem_map.1 hr
          rw [part_length]; have := y.2.2; omega)
        rw [List.length_map] at h2
        have h3 : pre.length * 1000 ≤ 1000 * 1000 := Nat.mul_le_mul_right _ (by omega)
        omega
      rw [hv] at hjc
      obtain ⟨ql, hql⟩ : ∃ ql, ps[j].length = ql := ⟨_, rfl⟩
      have HQ := Lib.hid hql
      rw [hql] at hjc hqb
      have HC : W.drew.cell? ⟨w.heap.size + 1, 0, none⟩ = some (.slice (some ⟨g, 0, none⟩) no co) ∧ W.drew.cell? ⟨w.heap.size, 0, none⟩ = some (.int .i64 most) ∧ W.drew.cell? ⟨g, j, none⟩ = some (.slice Aq ql cq) := ⟨hc, hcm, hjc⟩
      have hd' : IntKind.i64.wrap ((no : Int) - 1) = (j : Int) := by rw [IntWalk.i64_in _ (by omega)]; omega
      have i1 : (0 : Int) ≤ (j : Int) := by omega
      have i2 : (j : Int) < (no : Int) := by omega
      have hsum : IntKind.i64.wrap ((ql : Int) + (rl : Int)) = (ql : Int) + (rl : Int) := IntWalk.i64_in _ (by omega)
      have HJ := Lib.hid hj
      have HV := Lib.hid hv
      have HL := Lib.hid hlen2
      clear hj hv hlen2 hql hrow hlist
      have HOQ := Lib.hid hoq
      clear hoq
      by_cases hfit : ql + rl ≤ most
      · have hle : decide ((ql : Int) + (rl : Int) ≤ (most : Int)) = true := decide_eq_true (by omega)
        gi_wp2
        refine region_wz_round (fun W' => W'.cell? ⟨w.heap.size + 1, 0, none⟩ = some (.slice (some ⟨g, 0, none⟩) no co) ∧ W'.cell? ⟨w.heap.size, 0, none⟩ = some (.int .i64 most) ∧ W'.cell? ⟨g, j, none⟩ = some (.slice Aq ql cq)) none (by kernel_rfl) (by kernel_rfl) ?_
        apply WZ.take (i := 0) (some 21) rfl rfl (by kernel_rfl) (by kernel_rfl) (by kernel_rfl) (calm_panic _) (by kernel_rfl)
        case hy => (refine .inl ⟨by kernel_rfl, fun W hC => ?_⟩; (try dsimp only at hC); go_simp; rfl)
        case hC => exact HC
        case ha => (simp only [Act.put, List.setIfInBounds_toArray, List.set_cons_zero, List.set_cons_succ]; rfl)
        apply WZ.take (i := 1) (some 22) rfl rfl (by kernel_rfl) (by kernel_rfl) (by kernel_rfl) (calm_panic _) (by kernel_rfl)
        case hy => (refine .inl ⟨by kernel_rfl, fun W hC => ?_⟩; (try dsimp only at hC); go_simp; rfl)
        case hC => exact HC
        case ha => (simp only [Act.put, List.setIfInBounds_toArray, List.set_cons_zero, List.set_cons_succ]; rfl)
        apply WZ.take (i := 2) (some 23) rfl rfl (by kernel_rfl) (by kernel_rfl) (by kernel_rfl) (calm_panic _) (by kernel_rfl)
        case hy => (refine .inl ⟨by kernel_rfl, fun W hC => ?_⟩; (try dsimp only at hC); go_simp; rfl)
        case hC => exact HC
        case ha => (simp only [Act.put, List.setIfInBounds_toArray, List.set_cons_zero, List.set_cons_succ]; rfl)
        apply WZ.take (i := 3) (some 24) rfl rfl (by kernel_rfl) (by kernel_rfl) (by kernel_rfl) (calm_panic _) (by kernel_rfl)
        case hy => (refine .inl ⟨by kernel_rfl, fun W hC => ?_⟩; (try dsimp only at hC); go_simp; rfl)
        case hC => exact HC
        case ha => (simp only [Act.put, List.setIfInBounds_toArray, List.set_cons_zero, List.set_cons_succ]; rfl)
        apply WZ.take (i := 4) (some 25) rfl rfl (by kernel_rfl) (by kernel_rfl) (by kernel_rfl) (calm_panic _) (by kernel_rfl)
        case hy => (refine .inl ⟨by kernel_rfl, fun W hC => ?_⟩; (try dsimp only at hC); go_simp; rfl)
        case hC => exact HC
        case ha => (simp only [Act.put, List.setIfInBounds_toArray, List.set_cons_zero, List.set_cons_succ]; rfl)
        apply WZ.take (i := 5) (some 26) rfl rfl (by kernel_rfl) (by kernel_rfl) (by kernel_rfl) (calm_panic _) (by kernel_rfl)
        case hy => (refine .inl ⟨by kernel_rfl, fun W hC => ?_⟩; (try dsimp only at hC); go_simp; rfl)
        case hC => exact HC
        case ha => (simp only [Act.put, List.setIfInBounds_toArray, List.set_cons_zero, List.set_cons_succ]; rfl)
        apply WZ.take (i := 6) (some 27) rfl rfl (by kernel_rfl) (by kernel_rfl) (by kernel_rfl) (calm_panic _) (by kernel_rfl)
        case hy => (refine .inl ⟨by kernel_rfl, fun W hC => ?_⟩; (try dsimp only at hC); go_simp; rfl)
        case hC => exact HC
        case ha => (simp only [Act.put, List.setIfInBounds_toArray, List.set_cons_zero, List.set_cons_succ]; rfl)
        apply WZ.take (i := 7) (some 28) rfl rfl (by kernel_rfl) (by kernel_rfl) (by kernel_rfl) (calm_panic _) (by kernel_rfl)
        case hy => (refine .inl ⟨by kernel_rfl, fun W hC => ?_⟩; (try dsimp only at hC); go_simp; rfl)
        case hC => exact HC
        case ha => (simp only [Act.put, List.setIfInBounds_toArray, List.set_cons_zero, List.set_cons_succ]; rfl)
        apply WZ.take (i := 8) (some 29) rfl rfl (by kernel_rfl) (by kernel_rfl) (by kernel_rfl) (calm_panic _) (by kernel_rfl)
        case hy => (refine .inl ⟨by kernel_rfl, fun W hC => ?_⟩; (try dsimp only at hC); go_simp; rfl)
        case hC => exact HC
        case ha => (simp only [Act.put, List.setIfInBounds_toArray, List.set_cons_zero, List.set_cons_succ]; rfl)
        apply WZ.take (i := 9) (some 30) rfl rfl (by kernel_rfl) (by kernel_rfl) (by kernel_rfl) (calm_panic _) (by kernel_rfl)
        case hy => (refine .inl ⟨by kernel_rfl, fun W hC => ?_⟩; (try dsimp only at hC); go_simp; rfl)
        case hC => exact HC
        case ha => (simp only [Act.put, List.setIfInBounds_toArray, List.set_cons_zero, List.set_cons_succ]; rfl)
        apply WZ.take (i := 10) (some 31) rfl rfl (by kernel_rfl) (by kernel_rfl) (by kernel_rfl) (calm_panic _) (by kernel_rfl)
        case hy => (refine .inl ⟨by kernel_rfl, fun W hC => ?_⟩; (try dsimp only at hC); go_simp; rfl)
        case hC => exact HC
        case ha => (simp only [Act.put, List.setIfInBounds_toArray, List.set_cons_zero, List.set_cons_succ]; rfl)
        apply WZ.take (i := 11) (some 32) rfl rfl (by kernel_rfl) (by kernel_rfl) (by kernel_rfl) (calm_panic _) (by kernel_rfl)
        case hy => (refine .inl ⟨by kernel_rfl, fun W hC => ?_⟩; (try dsimp only at hC); go_simp; rfl)
        case hC => exact HC
        case ha => (simp only [Act.put, List.setIfInBounds_toArray, List.set_cons_zero, List.set_cons_succ]; rfl)
        apply WZ.take (i := 12) (some 33) rfl rfl (by kernel_rfl) (by kernel_rfl) (by kernel_rfl) (calm_panic _) (by kernel_rfl)
        case hy => (refine .inl ⟨by kernel_rfl, fun W hC => ?_⟩; (try dsimp only at hC); go_simp; rfl)
        case hC => exact HC
        case ha => (simp only [Act.put, List.setIfInBounds_toArray, List.set_cons_zero, List.set_cons_succ]; rfl)
        apply WZ.take (i := 13) (some 34) rfl rfl (by kernel_rfl) (by kernel_rfl) (by kernel_rfl) (calm_panic _) (by kernel_rfl)
        case hy => (refine .inl ⟨by kernel_rfl, fun W hC => ?_⟩; (try dsimp only at hC); go_simp; rfl)
        case hC => exact HC
        case ha => (simp only [Act.put, List.setIfInBounds_toArray, List.set_cons_zero, List.set_cons_succ]; rfl)
        refine WZ.done (by kernel_rfl) ?_ _
        simp only [Calm, Exit.then]
        gi_wp2
        clear HC
        have HC : W.drew.drew.cell? ⟨w.heap.size + 1, 0, none⟩ = some (.slice (some ⟨g, 0, none⟩) no co) ∧ W.drew.drew.cell? ⟨g, j, none⟩ = some (.slice Aq ql cq) := ⟨hc, hjc⟩
        refine region_wz_round (fun W' => W'.cell? ⟨w.heap.size + 1, 0, none⟩ = some (.slice (some ⟨g, 0, none⟩) no co) ∧ W'.cell? ⟨g, j, none⟩ = some (.slice Aq ql cq)) (some 9) (by kernel_rfl) (by kernel_rfl) ?_
        apply WZ.take (i := 0) (some 35) rfl rfl (by kernel_rfl) (by kernel_rfl) (by kernel_rfl) (calm_panic _) (by kernel_rfl)
        case hy => (refine .inl ⟨by kernel_rfl, fun W hC => ?_⟩; (try dsimp only at hC); go_simp; rfl)
        case hC => exact HC
        case ha => (simp only [Act.put, List.setIfInBounds_toArray, List.set_cons_zero, List.set_cons_succ]; rfl)
        apply WZ.take (i := 1) (some 36) rfl rfl (by kernel_rfl) (by kernel_rfl) (by kernel_rfl) (calm_panic _) (by kernel_rfl)
        case hy => (refine .inl ⟨by kernel_rfl, fun W hC => ?_⟩; (try dsimp only at hC); go_simp; rfl)
        case hC => exact HC
        case ha => (simp only [Act.put, List.setIfInBounds_toArray, List.set_cons_zero, List.set_cons_succ]; rfl)
        apply WZ.take (i := 2) (some 37) rfl rfl (by kernel_rfl) (by kernel_rfl) (by kernel_rfl) (calm_panic _) (by kernel_rfl)
        case hy => (refine .inl ⟨by kernel_rfl, fun W hC => ?_⟩; (try dsimp only at hC); go_simp; rfl)
        case hC => exact HC
        case ha => (simp only [Act.put, List.setIfInBounds_toArray, List.set_cons_zero, List.set_cons_succ]; rfl)
        apply WZ.take (i := 3) (some 38) rfl rfl (by kernel_rfl) (by kernel_rfl) (by kernel_rfl) (calm_panic _) (by kernel_rfl)
        case hy => (refine .inl ⟨by kernel_rfl, fun W hC => ?_⟩; (try dsimp only at hC); go_simp; rfl)
        case hC => exact HC
        case ha => (simp only [Act.put, List.setIfInBounds_toArray, List.set_cons_zero, List.set_cons_succ]; rfl)
        apply WZ.take (i := 4) (some 39) rfl rfl (by kernel_rfl) (by kernel_rfl) (by kernel_rfl) (calm_panic _) (by kernel_rfl)
        case hy => (refine .inl ⟨by kernel_rfl, fun W hC => ?_⟩; (try dsimp only at hC); go_simp; rfl)
        case hC => exact HC
        case ha => (simp only [Act.put, List.setIfInBounds_toArray, List.set_cons_zero, List.set_cons_succ]; rfl)
        apply WZ.take (i := 5) (some 40) rfl rfl (by kernel_rfl) (by kernel_rfl) (by kernel_rfl) (calm_panic _) (by kernel_rfl)
        case hy => (refine .inl ⟨by kernel_rfl, fun W hC => ?_⟩; (try dsimp only at hC); go_simp; rfl)
        case hC => exact HC
        case ha => (simp only [Act.put, List.setIfInBounds_toArray, List.set_cons_zero, List.set_cons_succ]; rfl)
        apply WZ.take (i := 6) (some 41) rfl rfl (by kernel_rfl) (by kernel_rfl) (by kernel_rfl) (calm_panic _) (by kernel_rfl)
        case hy => (refine .inl ⟨by kernel_rfl, fun W hC => ?_⟩; (try dsimp only at hC); go_simp; rfl)
        case hC => exact HC
        case ha => (simp only [Act.put, List.setIfInBounds_toArray, List.set_cons_zero, List.set_cons_succ]; rfl)
        -- 7
        refine WZ.one (i := 7) rfl (by kernel_rfl) ?_
        conv => arg 4; arg 1; whnf
        have hoq2 : Own W.drew.drew (w1.heap.size + 1) 50 6 Aq ql cq (vals ps[j]) := by rw [← HQ.out]; exact HOQ.out.drew.drew
        go_wp2_with (at_builtin; go_loud (refine wpList_app _ rfl _ _ _ rfl (w1.heap.size + 1) 50 j0 zeroCell 6 72 Try.underlying22 hj0 jz0 jz1 jz2 rfl (by decide) Aq ql cq (vals ps[j]) rfl hoq2 w.heap.size A3 rl c3 (vals (part l x)) rfl hrd.drew.drew (by rw [length_vals, hrl]; omega) (vals_one _) (by unfold maxLen; omega) (by omega) (by simp; omega) ?_); intro A4 c4 w3 ho3 hg3 hat3)
        have hne2 : some (w.heap.size + 1) ≠ blk Aq := fun e => by have := (hoq2.lt _ e.symm).1; omega
        have hne3 : blk (some (⟨g, 0, none⟩ : Addr)) = none ∨ blk (some (⟨g, 0, none⟩ : Addr)) ≠ blk Aq := Own.type_ne hown.drew.drew hoq2 (by decide)
        have hne4 : some g ≠ blk Aq := fun e => hne3.elim (fun h => by cases h) (fun h => h e)
        have HC := And.intro ((hg3.cell_far ⟨w.heap.size + 1, 0, none⟩ hboW hne2).trans HC.1) ((hg3.cell_far ⟨g, j, none⟩ hg2 hne4).trans HC.2)
        have hjf3 : w3.frozen? ⟨g, j, none⟩ = false := (hg3.frozen_far ⟨g, j, none⟩ hg2 hne4).trans hjf
        refine ⟨HC, ?_⟩
        apply WZ.take (i := 8) (some 43) rfl rfl (by kernel_rfl) (by kernel_rfl) (by kernel_rfl) (calm_panic _) (by kernel_rfl)
        case hy => (refine .inl ⟨by kernel_rfl, fun W hC => ?_⟩; (try dsimp only at hC); go_simp; rfl)
        case hC => exact HC
        case ha => (simp only [Act.put, List.setIfInBounds_toArray, List.set_cons_zero, List.set_cons_succ]; rfl)
        -- 9
        refine WZ.last (i := 9) rfl (by kernel_rfl) (by kernel_rfl) ?_
        conv => arg 4; arg 1; whnf
        go_wp2_with (fail)
        refine WZ.done (by kernel_rfl) ?_ _
        simp only [Calm, Exit.then]
        have hg3' : W.grownBy w3 (blk Aq) := ⟨hg3.os, hg3.tape, hg3.output, hg3.size, hg3.block⟩
        have HF := (HSt.out.more (q := ps[j]) (row := part l x) (w1 := w3) hrl hjv hjp rfl HV.out (by rw [HQ.out]; exact ho3) hg3' hat3)
        rw [HQ.out] at HF
        have HF := Lib.hid HF
        have HNEW := Lib.hid (rollStep_fits (most := most) (row := part l x) hjp HL.out (by rw [HQ.out, hrl]; exact hfit))
        gi_wp2
        refine ⟨HF.out.2.1.from _, HF.out.2.2, _, _, _, _, _, HF.out.1, by rw [List.length_append]; exact Nat.le_succ_of_le hno1, ?_⟩
        rw [List.map_append, List.foldl_append, ← HPS.out]
        exact (HNEW.out).symm
      · have hle : decide ((ql : Int) + (rl : Int) ≤ (most : Int)) = false := decide_eq_false (by omega)
        gi_wp2
        refine region_wz_round (fun W' => W'.cell? ⟨w.heap.size + 1, 0, none⟩ = some (.slice (some ⟨g, 0, none⟩) no co) ∧ W'.cell? ⟨w.heap.size, 0, none⟩ = some (.int .i64 most) ∧ W'.cell? ⟨g, j, none⟩ = some (.slice Aq ql cq)) none (by kernel_rfl) (by kernel_rfl) ?_
        apply WZ.take (i := 0) (some 21) rfl rfl (by kernel_rfl) (by kernel_rfl) (by kernel_rfl) (calm_panic _) (by kernel_rfl)
        case hy => (refine .inl ⟨by kernel_rfl, fun W hC => ?_⟩; (try dsimp only at hC); go_simp; rfl)
        case hC => exact HC
        case ha => (simp only [Act.put, List.setIfInBounds_toArray, List.set_cons_zero, List.set_cons_succ]; rfl)
        apply WZ.take (i := 1) (some 22) rfl rfl (by kernel_rfl) (by kernel_rfl) (by kernel_rfl) (calm_panic _) (by kernel_rfl)
        case hy => (refine .inl ⟨by kernel_rfl, fun W hC => ?_⟩; (try dsimp only at hC); go_simp; rfl)
        case hC => exact HC
        case ha => (simp only [Act.put, List.setIfInBounds_toArray, List.set_cons_zero, List.set_cons_succ]; rfl)
        apply WZ.take (i := 2) (some 23) rfl rfl (by kernel_rfl) (by kernel_rfl) (by kernel_rfl) (calm_panic _) (by kernel_rfl)
        case hy => (refine .inl ⟨by kernel_rfl, fun W hC => ?_⟩; (try dsimp only at hC); go_simp; rfl)
        case hC => exact HC
        case ha => (simp only [Act.put, List.setIfInBounds_toArray, List.set_cons_zero, List.set_cons_succ]; rfl)
        apply WZ.take (i := 3) (some 24) rfl rfl (by kernel_rfl) (by kernel_rfl) (by kernel_rfl) (calm_panic _) (by kernel_rfl)
        case hy => (refine .inl ⟨by kernel_rfl, fun W hC => ?_⟩; (try dsimp only at hC); go_simp; rfl)
        case hC => exact HC
        case ha => (simp only [Act.put, List.setIfInBounds_toArray, List.set_cons_zero, List.set_cons_succ]; rfl)
        apply WZ.take (i := 4) (some 25) rfl rfl (by kernel_rfl) (by kernel_rfl) (by kernel_rfl) (calm_panic _) (by kernel_rfl)
        case hy => (refine .inl ⟨by kernel_rfl, fun W hC => ?_⟩; (try dsimp only at hC); go_simp; rfl)
        case hC => exact HC
        case ha => (simp only [Act.put, List.setIfInBounds_toArray, List.set_cons_zero, List.set_cons_succ]; rfl)
        apply WZ.take (i := 5) (some 26) rfl rfl (by kernel_rfl) (by kernel_rfl) (by kernel_rfl) (calm_panic _) (by kernel_rfl)
        case hy => (refine .inl ⟨by kernel_rfl, fun W hC => ?_⟩; (try dsimp only at hC); go_simp; rfl)
        case hC => exact HC
        case ha => (simp only [Act.put, List.setIfInBounds_toArray, List.set_cons_zero, List.set_cons_succ]; rfl)
        apply WZ.take (i := 6) (some 27) rfl rfl (by kernel_rfl) (by kernel_rfl) (by kernel_rfl) (calm_panic _) (by kernel_rfl)
        case hy => (refine .inl ⟨by kernel_rfl, fun W hC => ?_⟩; (try dsimp only at hC); go_simp; rfl)
        case hC => exact HC
        case ha => (simp only [Act.put, List.setIfInBounds_toArray, List.set_cons_zero, List.set_cons_succ]; rfl)
        apply WZ.take (i := 7) (some 28) rfl rfl (by kernel_rfl) (by kernel_rfl) (by kernel_rfl) (calm_panic _) (by kernel_rfl)
        case hy => (refine .inl ⟨by kernel_rfl, fun W hC => ?_⟩; (try dsimp only at hC); go_simp; rfl)
        case hC => exact HC
        case ha => (simp only [Act.put, List.setIfInBounds_toArray, List.set_cons_zero, List.set_cons_succ]; rfl)
        apply WZ.take (i := 8) (some 29) rfl rfl (by kernel_rfl) (by kernel_rfl) (by kernel_rfl) (calm_panic _) (by kernel_rfl)
        case hy => (refine .inl ⟨by kernel_rfl, fun W hC => ?_⟩; (try dsimp only at hC); go_simp; rfl)
        case hC => exact HC
        case ha => (simp only [Act.put, List.setIfInBounds_toArray, List.set_cons_zero, List.set_cons_succ]; rfl)
        apply WZ.take (i := 9) (some 30) rfl rfl (by kernel_rfl) (by kernel_rfl) (by kernel_rfl) (calm_panic _) (by kernel_rfl)
        case hy => (refine .inl ⟨by kernel_rfl, fun W hC => ?_⟩; (try dsimp only at hC); go_simp; rfl)
        case hC => exact HC
        case ha => (simp only [Act.put, List.setIfInBounds_toArray, List.set_cons_zero, List.set_cons_succ]; rfl)
        apply WZ.take (i := 10) (some 31) rfl rfl (by kernel_rfl) (by kernel_rfl) (by kernel_rfl) (calm_panic _) (by kernel_rfl)
        case hy => (refine .inl ⟨by kernel_rfl, fun W hC => ?_⟩; (try dsimp only at hC); go_simp; rfl)
        case hC => exact HC
        case ha => (simp only [Act.put, List.setIfInBounds_toArray, List.set_cons_zero, List.set_cons_succ]; rfl)
        apply WZ.take (i := 11) (some 32) rfl rfl (by kernel_rfl) (by kernel_rfl) (by kernel_rfl) (calm_panic _) (by kernel_rfl)
        case hy => (refine .inl ⟨by kernel_rfl, fun W hC => ?_⟩; (try dsimp only at hC); go_simp; rfl)
        case hC => exact HC
        case ha => (simp only [Act.put, List.setIfInBounds_toArray, List.set_cons_zero, List.set_cons_succ]; rfl)
        apply WZ.take (i := 12) (some 33) rfl rfl (by kernel_rfl) (by kernel_rfl) (by kernel_rfl) (calm_panic _) (by kernel_rfl)
        case hy => (refine .inl ⟨by kernel_rfl, fun W hC => ?_⟩; (try dsimp only at hC); go_simp; rfl)
        case hC => exact HC
        case ha => (simp only [Act.put, List.setIfInBounds_toArray, List.set_cons_zero, List.set_cons_succ]; rfl)
        apply WZ.take (i := 13) (some 34) rfl rfl (by kernel_rfl) (by kernel_rfl) (by kernel_rfl) (calm_panic _) (by kernel_rfl)
        case hy => (refine .inl ⟨by kernel_rfl, fun W hC => ?_⟩; (try dsimp only at hC); go_simp; rfl)
        case hC => exact HC
        case ha => (simp only [Act.put, List.setIfInBounds_toArray, List.set_cons_zero, List.set_cons_succ]; rfl)
        refine WZ.done (by kernel_rfl) ?_ _
        simp only [Calm, Exit.then]
        gi_wp2
        clear HC
        have HC : W.drew.drew.cell? ⟨w.heap.size + 1, 0, none⟩ = some (.slice (some ⟨g, 0, none⟩) no co) := hc
        have HNEW := Lib.hid (rollStep_new (most := most) (out := ps) (row := part l x) (fun q hq => by
          have e : ps.getLast? = some ps[j] := by rw [List.getLast?_eq_getElem?, HL.out, Nat.add_sub_cancel, List.getElem?_eq_getElem hjp]
          rw [e] at hq
          injection hq with hq
          rw [← hq, HQ.out, hrl]; exact hfit))
        refine region_wz_round (fun W' => W'.cell? ⟨w.heap.size + 1, 0, none⟩ = some (.slice (some ⟨g, 0, none⟩) no co)) (some 5) (by kernel_rfl) (by kernel_rfl) ?_
        apply WZ.take (i := 0) (some 44) rfl rfl (by kernel_rfl) (by kernel_rfl) (by kernel_rfl) (calm_panic _) (by kernel_rfl)
        case hy => (refine .inl ⟨by kernel_rfl, fun W hC => ?_⟩; (try dsimp only at hC); go_simp; rfl)
        case hC => exact HC
        case ha => (simp only [Act.put, List.setIfInBounds_toArray, List.set_cons_zero, List.set_cons_succ]; rfl)
        apply WZ.take (i := 1) (some 45) rfl rfl (by kernel_rfl) (by kernel_rfl) (by kernel_rfl) (calm_panic _) (by kernel_rfl)
        case hy => (refine .inl ⟨by kernel_rfl, fun W hC => ?_⟩; (try dsimp only at hC); go_simp; rfl)
        case hC => exact HC
        case ha => (simp only [Act.put, List.setIfInBounds_toArray, List.set_cons_zero, List.set_cons_succ]; rfl)
        -- 2
        refine WZ.one (i := 2) rfl (by kernel_rfl) ?_
        conv => arg 4; arg 1; whnf
        go_wp2_with (go_at_call 27; refine (clone_at A3 rl c3 (part l x) _ ((hrd.more hwW).drew.drew) hrl (by omega)).mono ?_; rintro e w2 ⟨A2, c2, rfl, ho2, hb2⟩)
        have HC := (hb2.cell (p := ⟨w.heap.size + 1, 0, none⟩) hboW).trans HC
        refine ⟨HC, ?_⟩
        -- 3
        refine WZ.one (i := 3) rfl (by kernel_rfl) ?_
        conv => arg 4; arg 1; whnf
        go_wp2_with (fail)
        have HC := (World.cell?_alloc_lt w2 (.cells #[.slice A2 rl c2] 22) ⟨w.heap.size + 1, 0, none⟩ (Nat.lt_of_lt_of_le hboW hb2.size)).trans HC
        refine ⟨HC, ?_⟩
        -- 4
        refine WZ.one (i := 4) rfl (by kernel_rfl) ?_
        conv => arg 4; arg 1; whnf
        have hown2 := Own.alloc (Own.below hown.drew.drew hb2) (.cells #[.slice A2 rl c2] 22)
        
        go_wp2_with (at_builtin; go_loud (refine wpList_app _ rfl _ _ _ rfl (w1.heap.size + 1) 22 i0 (.slice none 0 0) 1 24 Try.underlying26 hi0 hz0 hz1 hz2 rfl (by decide) (some ⟨g, 0, none⟩) no co vs rfl hown2 (w2.heap.size + 1) (some ⟨w2.heap.size, 0, none⟩) 1 1 [.slice A2 rl c2] rfl (Rd.new1 _ _ _) rfl (by simp [Value.oneCell']) (by unfold maxLen; omega) (by omega) (by rw [World.size_alloc]; exact Nat.le_succ_of_le (Nat.le_trans hBW hb2.size)) ?_); intro A5 c5 w3 ho3 hg3 hat3)
        have hne2 : some (w.heap.size + 1) ≠ blk (some (⟨g, 0, none⟩ : Addr)) := fun e => by have := (hown2.lt _ e.symm).1; omega
        have hbo3 : w.heap.size + 1 < (w2.alloc (.cells #[.slice A2 rl c2] 22)).heap.size := by rw [World.size_alloc]; exact Nat.lt_succ_of_lt (Nat.lt_of_lt_of_le hboW hb2.size)
        have hf3 : w3.frozen? ⟨w.heap.size + 1, 0, none⟩ = false := (hg3.frozen_far ⟨w.heap.size + 1, 0, none⟩ hbo3 hne2).trans ((World.frozen?_of_block (a := ⟨w.heap.size + 1, 0, none⟩) (Below.heap_alloc w2 _ _ (Nat.lt_of_lt_of_le hboW hb2.size))).trans ((hb2.frozen (p := ⟨w.heap.size + 1, 0, none⟩) hboW).trans hbo))
        have HC := (hg3.cell_far ⟨w.heap.size + 1, 0, none⟩ hbo3 hne2).trans HC
        refine ⟨HC, ?_⟩
        -- 5
        refine WZ.last (i := 5) rfl (by kernel_rfl) (by kernel_rfl) ?_
        conv => arg 4; arg 1; whnf
        go_wp2_with (fail)
        refine WZ.done (by kernel_rfl) ?_ _
        simp only [Calm, Exit.then]
        have HF := Lib.hid (HSt.out.new (row := part l x) (w2 := w2) (w3 := w3) hrl ho2 (below_of_drew (below_of_drew hb2)) ho3 hg3)
        gi_wp2
        refine ⟨HF.out.2.1.from _, HF.out.2.2, _, _, _, _, _, HF.out.1, by rw [List.length_append]; exact Nat.succ_le_succ hno1, ?_⟩
        rw [List.map_append, List.foldl_append, ← HPS.out]
        exact (HNEW.out).symm
  case done =>
    rintro D xs W hD hS ⟨Ao, no, co, vs, ps, ⟨hbox, hown, hlist, hap, hmost, hBn, hBW, hB⟩, hno1, hps⟩ hK
    have hboW : w.heap.size + 1 < W.heap.size := hbox.lt
    have hbo := hbox.free
    have hc := hbox.cell
    clear hl hl1 hbx
    have hD1 : w1.heap.size + 1 ≤ D := by rw [World.size_alloc] at hD; exact hD
    have HPS := Lib.hid hps
    clear hps
    have hK4 : (W.setCell ⟨w.heap.size + 1, 0, none⟩ (.slice Ao no co)).heap[D]? = some (.deferred (some [])) := (Below.heap_setCell _ _ _ _ (by show D ≠ w.heap.size + 1; omega)).trans hK
    have h4 : RollSt w w1.heap.size most (W.setCell ⟨w.heap.size + 1, 0, none⟩ (.slice Ao no co)) Ao no co vs ps :=
      ⟨hbox.set _, hown.setCell (fun e => by have h1 := (hown.lt _ e).1; have h2 : w1.heap.size + 1 ≤ w.heap.size + 1 := h1; omega) _, hlist.setCell (by show w.heap.size + 1 < _; omega) _, hap, hmost.far (by show w.heap.size ≠ w.heap.size + 1; omega) _, hBn, by simp [World.setCell]; omega, hB.setCell (by show w.heap.size ≤ w.heap.size + 1; omega) _⟩
    have h5 := h4.turn (grownBy_putObj' _ D (.deferred none)) (fun r e => by injection e with e; subst e; exact ⟨by omega, _, hK4, rfl⟩)
    have HT := Lib.hid hK4
    clear hK hK4
    gi_wp2
    refine ⟨by simp, .inl ⟨_, _, rfl, run_takeDeferred HT.out, ?_⟩⟩
    have hbx5 := h5.1.cell
    refine ⟨_, by rw [results_cell_tmp rfl]; go_simp; rfl, ?_⟩
    refine ⟨Ao, no, co, vs, rfl, h5.2.1.lower (by omega), ?_, hap, h5.2.2.2.2.2.2.2⟩
    have hr5 : roll l most = ps := by rw [HPS.out, hS]; rfl
    rw [hr5]
    exact h5.2.2.1.lower (by omega)
  case stop =>
    rintro D c pre W _ _ h _
    exact h.elim
end Go.Proofs.Yteacjikkojglmaa
