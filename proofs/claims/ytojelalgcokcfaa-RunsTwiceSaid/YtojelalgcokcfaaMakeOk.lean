/-
  The walk of runs.Make, where the memory is at least 1.
-/
import Derived.Test.YtojelalgcokcfaaMake
namespace Go.Proofs.Ytojelalgcokcfaa
open Go.RowKit Go.Shelf
attribute [local go_sem ↓] Go.wp_at_zero Go.wp_at_succ
attribute [local go_sem] Oper.semAt_some

theorem cut_length (L : List It) (x : Cut L.length) : (cut L x).length = x.1.2 - x.1.1 := by
  have h1 := x.2.1
  have h2 := x.2.2
  unfold cut
  rw [List.length_take, List.length_drop]
  omega
theorem Rd.its_drop {W : World} {B : Nat} {A : Option Addr} {L : List It} (h : Rd W B A (its L)) (i : Nat) : Rd W B (A.map (·.add (i * 7))) (its (L.drop i)) := by
  have h1 := h.drop (i * 7)
  have e : (its L).drop (i * 7) = its (L.drop i) := by
    by_cases hi : i ≤ L.length
    · have e1 : its L = its (L.take i) ++ its (L.drop i) := by
        show L.flatMap It.vals = _
        rw [← List.flatMap_append, List.take_append_drop]
      have e2 : (its (L.take i)).length = i * 7 := by rw [its_len, List.length_take, Nat.min_eq_left hi]
      rw [e1, ← e2, List.drop_left]
    · rw [List.drop_of_length_le (by rw [its_len]; omega), List.drop_of_length_le (by omega)]
      rfl
  rwa [e] at h1
theorem Rd.its_take {W : World} {B : Nat} {A : Option Addr} {L : List It} (h : Rd W B A (its L)) (i : Nat) : Rd W B A (its (L.take i)) := by
  have h1 := h.take (i * 7)
  have e : (its L).take (i * 7) = its (L.take i) := by
    by_cases hi : i ≤ L.length
    · have e1 : its L = its (L.take i) ++ its (L.drop i) := by
        show L.flatMap It.vals = _
        rw [← List.flatMap_append, List.take_append_drop]
      have e2 : (its (L.take i)).length = i * 7 := by rw [its_len, List.length_take, Nat.min_eq_left hi]
      rw [e1, ← e2, List.take_left]
    · rw [List.take_of_length_le (by rw [its_len]; omega), List.take_of_length_le (by omega)]
  rwa [e] at h1
theorem cutVal_form {W : World} {B : Nat} {A : Option Addr} {L : List It} (h : Rd W B A (its L)) (x : Cut L.length) :
    ∃ (A3 : Option Addr) (rl c3 : Nat), cutVal A L.length x = .slice A3 rl c3 ∧ (cut L x).length = rl ∧ rl ≤ L.length ∧ Rd W B A3 (its (cut L x)) :=
  ⟨_, _, _, rfl, cut_length L x, by have := x.2.2; omega, (h.its_drop x.1.1).its_take (x.1.2 - x.1.1)⟩

set_option maxRecDepth 100000 in
set_option maxHeartbeats 4000000 in
theorem make_ok (A : Option Addr) (c : Nat) (l : List Cl) (m : Nat) (w : World) (hl : Rd w w.heap.size A (vals l)) (hlen : l.length ≤ 100000) (hm : 1 ≤ m) (hm2 : m ≤ 9223372036854775807) :
    Calls Try.prog 10 #[.slice A l.length c, .int .i64 m] w fun e w' => ∃ (A' : Option Addr) (n' c' : Nat) (vs : List Value), e = .returned (.tuple #[.slice A' n' c', .int .i64 0]) ∧
      Own w' w.heap.size 35 1 A' n' c' vs ∧ ILists w' w.heap.size vs ((chunks m (items l)).map resolve) ∧ Below w.heap.size w w' := by
  obtain ⟨i0, hi0, hz0, hz1, hz2⟩ := info_parts itemsInfo
  have hit := fun (W : World) (h : Rd W W.heap.size A (vals l)) => items_any A c l W h (by omega)
  obtain ⟨L, hL⟩ : ∃ L, items l = L := ⟨_, rfl⟩
  have hLN : l.length = L.length := by rw [← hL, items_length]
  rw [hL] at hit ⊢
  rw [hLN] at hit hlen ⊢
  have hl0 := (hl.alloc (Nat.le_refl _) (.cells #[.slice none 0 0] 25)).more (show w.heap.size ≤ (w.alloc (.cells #[.slice none 0 0] 25)).heap.size by rw [World.size_alloc]; omega)
  clear hL hLN
  refine (callsIn_wide (n := 9)).1 ?_
  refine callsIn_of_wp_marks Try.func10 rfl trivial ?_ rfl
  simp only [Try.ntmps10, List.size_toArray, List.length_cons, List.length_nil, Nat.reduceAdd, Nat.reduceSub, Array.replicate_succ, Array.replicate_zero, List.push_toArray, List.append_toArray, List.nil_append, List.cons_append]
  have hmd : decide ((m : Int) < 1) = false := decide_eq_false (by omega)
  have hmd2 : ¬ m = 0 := by omega
  gi_wp2_with (first
    | (refine ⟨trivial, ?_⟩; gi_at_call 14; refine (callsIn_wide.2 (hit _ hl0)).mono ?_; rintro e w1 ⟨A1, c1, rfl, ho1, hb1⟩)
    | (refine ⟨trivial, ?_⟩; gi_at_call 23; refine (callsIn_wide.2 (chunk_any A1 L.length c1 m _ hm)).mono ?_; rintro e w2 ⟨rfl, rfl⟩))
  have hz1' : w.heap.size + 1 ≤ w1.heap.size := by have := hb1.size; rw [World.size_alloc] at this; exact this
  have hB0 : Below w.heap.size w w1 := ((Below.refl _ _).alloc (Nat.le_refl _) _).trans (hb1.mono (by simp))
  have hx0 : Box w1 w.heap.size 25 (.slice none 0 0) := (Box.new w _ _).below hb1 (by simp)
  have hio : Own w1 (w.heap.size + 1) 48 7 A1 L.length c1 (its L) := ho1.lower (by rw [World.size_alloc]; exact Nat.le_refl _)
  have hcapL : L.length ≤ c1 := by
    rcases hio.2 with ⟨hv, hn⟩ | ⟨_, _, _, hv, _, _, h3, _⟩
    · omega
    · injection hv with _ _ hc
      omega
  have hbxa := (Box.new w1 35 (.slice A1 L.length c1)).alloc (.cells #[.int .i64 m] 3)
  have hbxb := Box.new (w1.alloc (.cells #[.slice A1 L.length c1] 35)) 3 (.int .i64 m)
  rw [World.size_alloc] at hbxb
  clear hit ho1
  refine wpIn_rangeFunc_ownG (F := Fence.wide) (n := 9) rfl (by omega) (gf := 31) (lb := #[.pointer (some ⟨w1.heap.size, 0, none⟩), .pointer (some ⟨w1.heap.size + 1, 0, none⟩)]) rfl trivial (enters_of Try.func31 (by kernel_rfl) rfl)
    (chunk_stops 8 (by omega) w1.heap.size (w1.heap.size + 1) 0 A1 c1 m L (by omega) hcapL hm hm2 _ hbxa hbxb) Kept2.trans (Kept2.put (Nat.zero_le _) hbxa.lt hbxb.lt) (Below.refl _ _) (fun _ => rfl)
    (fun pre W => ∃ (Ao : Option Addr) (no co : Nat) (vs : List Value) (ps : List (List It)), MakeSt w (w1.heap.size + 1) L A1 L.length c1 W Ao no co vs ps ∧ no ≤ pre.length ∧ ps = (pre.map (cut L)).map resolve) (fun _ _ _ => False) ?hI (fun _ _ _ _ _ hs _ _ => hs) ?h0
    (fun x => { tmps := #[.slice A L.length c, .int .i64 m, undef, undef,
          .pointer (some { block := w.heap.size, off := 0 }), .int .i64 0, cutVal A1 L.length x,
          .int .i64 m, .bool false, .slice A L.length c, .slice A1 L.length c1,
          .int .i64 m,
          .func (Fn.func 31) #[] #[.pointer (some { block := w1.heap.size, off := 0 }), .pointer (some { block := w1.heap.size + 1, off := 0 })],
          cutVal A1 L.length x, undef, undef, undef, undef, undef, undef], defers := [] }) ?assign ?body ?done ?stop
  case hI =>
    rintro pre W W' row ⟨Ao, no, co, vs, ps, hst, hr⟩ hg hrow
    exact ⟨Ao, no, co, vs, ps, hst.turn hg (fun r e => ⟨by have := (hrow r e).1; rw [World.size_alloc, World.size_alloc] at this; omega, (hrow r e).2⟩), hr⟩
  case h0 =>
    refine ⟨none, 0, 0, [], [], ⟨(hx0.alloc _).alloc _, Own.nil, ILists.nil, Own.alloc (Own.alloc hio _) _, by omega, by rw [World.size_alloc, World.size_alloc]; omega, (hB0.alloc (by omega) _).alloc (by rw [World.size_alloc]; omega) _⟩, Nat.le_refl _, rfl⟩
  case assign =>
    intro r x W K hK
    gi_wp2
    exact hK
  case body =>
    rintro r pre x W ⟨Ao, no, co, vs, ps, hst, hno1, hps⟩ hlt
    have HSt := Lib.hid hst
    have HPS := Lib.hid hps
    obtain ⟨hbox, hown, hlist, hitm, hBn, hBW, hB⟩ := hst
    have hc := hbox.cell
    have hwW : w.heap.size < W.heap.size := hbox.lt
    have hbo := hbox.free
    obtain ⟨A3, rl, c3, hpv, hrl, hrl2, hrd⟩ := cutVal_form (Own.rd hitm (by omega)) x
    simp only [hpv]
    have hvl := Own.vals_len' hown
    have hres := fun (W0 : World) (h : Rd W0 W0.heap.size A3 (its (cut L x))) => resolve_any A3 c3 (cut L x) W0 h (by omega)
    rw [hrl] at hres
    obtain ⟨R, hR⟩ : ∃ R, resolve (cut L x) = R := ⟨_, rfl⟩
    have hRl : R.length ≤ 100000 := by have := resolve_len (cut L x); rw [hR] at this; omega
    rw [hR] at hres
    obtain ⟨k, hk⟩ : ∃ k, R.length = k := ⟨_, rfl⟩
    have HK := Lib.hid hk
    have HR := Lib.hid hR
    rw [hk] at hres hRl
    have HC : W.drew.cell? ⟨w.heap.size, 0, none⟩ = some (.slice Ao no co) := hc
    have hnb : no ≤ 100000 := by omega
    clear hl hl0 hbxa hbxb hps hpv hk hR hlist hitm
    gi_wp2
    refine region_wz_round (fun W' => W'.cell? ⟨w.heap.size, 0, none⟩ = some (.slice Ao no co)) (some 5) (by kernel_rfl) (by kernel_rfl) ?_
    apply WZ.take (i := 0) (some 14) rfl rfl (by kernel_rfl) (by kernel_rfl) (by kernel_rfl) (calm_panic _) (by kernel_rfl)
    case hy => (refine .inl ⟨by kernel_rfl, fun W hC => ?_⟩; (try dsimp only at hC); go_simp; rfl)
    case hC => exact HC
    case ha => (simp only [Act.put, List.setIfInBounds_toArray, List.set_cons_zero, List.set_cons_succ]; rfl)
    apply WZ.take (i := 1) (some 15) rfl rfl (by kernel_rfl) (by kernel_rfl) (by kernel_rfl) (calm_panic _) (by kernel_rfl)
    case hy => (refine .inl ⟨by kernel_rfl, fun W hC => ?_⟩; (try dsimp only at hC); go_simp; rfl)
    case hC => exact HC
    case ha => (simp only [Act.put, List.setIfInBounds_toArray, List.set_cons_zero, List.set_cons_succ]; rfl)
    -- 2
    refine WZ.one (i := 2) rfl (by kernel_rfl) ?_
    conv => arg 4; arg 1; whnf
    go_wp2_with (go_at_call 17; refine (hres _ hrd.drew).mono ?_; rintro e w2 ⟨A2, c2, rfl, ho2, hb2⟩)
    have HC := (hb2.cell (p := ⟨w.heap.size, 0, none⟩) hwW).trans HC
    refine ⟨HC, ?_⟩
    -- 3
    refine WZ.one (i := 3) rfl (by kernel_rfl) ?_
    conv => arg 4; arg 1; whnf
    go_wp2_with (fail)
    have HC := (World.cell?_alloc_lt w2 (.cells #[.slice A2 k c2] 35) ⟨w.heap.size, 0, none⟩ (Nat.lt_of_lt_of_le hwW hb2.size)).trans HC
    refine ⟨HC, ?_⟩
    -- 4
    refine WZ.one (i := 4) rfl (by kernel_rfl) ?_
    conv => arg 4; arg 1; whnf
    have hown2 := Own.alloc (Own.below hown.drew hb2) (.cells #[.slice A2 k c2] 35)
    go_wp2_with (at_builtin; go_loud (refine wpList_app _ rfl _ _ _ rfl (w1.heap.size + 1 + 1) 35 i0 (.slice none 0 0) 1 24 Try.underlying25 hi0 hz0 hz1 hz2 rfl (by decide) Ao no co vs rfl hown2 (w2.heap.size + 1) (some ⟨w2.heap.size, 0, none⟩) 1 1 [.slice A2 k c2] rfl (Rd.new1 _ _ _) rfl (by simp [Value.oneCell']) (by unfold maxLen; omega) (by omega) (by rw [World.size_alloc]; exact Nat.le_succ_of_le (Nat.le_trans hBW hb2.size)) ?_); intro A5 c5 w3 ho3 hg3 hat3)
    have hne2 : some w.heap.size ≠ blk Ao := fun e => by have := (hown2.lt _ e.symm).1; omega
    have hbo3 : w.heap.size < (w2.alloc (.cells #[.slice A2 k c2] 35)).heap.size := by rw [World.size_alloc]; exact Nat.lt_succ_of_lt (Nat.lt_of_lt_of_le hwW hb2.size)
    have hf3 : w3.frozen? ⟨w.heap.size, 0, none⟩ = false := (hg3.frozen_far ⟨w.heap.size, 0, none⟩ hbo3 hne2).trans ((World.frozen?_of_block (a := ⟨w.heap.size, 0, none⟩) (Below.heap_alloc w2 _ _ (Nat.lt_of_lt_of_le hwW hb2.size))).trans ((hb2.frozen (p := ⟨w.heap.size, 0, none⟩) hwW).trans hbo))
    have HC := (hg3.cell_far ⟨w.heap.size, 0, none⟩ hbo3 hne2).trans HC
    refine ⟨HC, ?_⟩
    -- 5
    refine WZ.last (i := 5) rfl (by kernel_rfl) (by kernel_rfl) ?_
    conv => arg 4; arg 1; whnf
    go_wp2_with (fail)
    refine WZ.done (by kernel_rfl) ?_ _
    simp only [Calm, Exit.then]
    have HF := Lib.hid (HSt.out.new (R := R) (w2 := w2) (w3 := w3) HK.out ho2 (below_of_drew' hb2) ho3 hg3 w1.heap.size (by omega) (by omega))
    gi_wp2
    refine ⟨HF.out.2.1.from _, HF.out.2.2, _, _, _, _, _, HF.out.1, by rw [List.length_append]; exact Nat.succ_le_succ hno1, ?_⟩
    rw [List.map_append, List.map_append, ← HPS.out, ← HR.out]
    rfl
  case done =>
    rintro D xs W hD hS ⟨Ao, no, co, vs, ps, hst, hno1, hps⟩ hK
    have hbox := hst.box
    have hboW : w.heap.size < W.heap.size := hbox.lt
    have hbo := hbox.free
    have hc := hbox.cell
    clear hl hl0 hbxa hbxb
    have hD1 : w1.heap.size + 2 ≤ D := by rw [World.size_alloc, World.size_alloc] at hD; exact hD
    have HPS := Lib.hid hps
    have HSt := Lib.hid hst
    clear hps hst
    have hK4 : (W.setCell ⟨w.heap.size, 0, none⟩ (.slice Ao no co)).heap[D]? = some (.deferred (some [])) := (Below.heap_setCell _ _ _ _ (by show D ≠ w.heap.size; omega)).trans hK
    obtain ⟨hbox, hown, hlist, hitm, hBn, hBW, hB⟩ := HSt.out
    have h4 : MakeSt w (w1.heap.size + 1) L A1 L.length c1 (W.setCell ⟨w.heap.size, 0, none⟩ (.slice Ao no co)) Ao no co vs ps :=
      ⟨hbox.set _, hown.setCell (fun e => by have h1 := (hown.lt _ e).1; have h2 : w1.heap.size + 1 + 1 ≤ w.heap.size := h1; omega) _,
        ⟨hlist.1, fun i hi hi' => by
          obtain ⟨A, c, e, ho⟩ := hlist.2 i hi hi'
          exact ⟨A, c, e, ho.setCell (fun e => by have h1 := (ho.lt _ e).1; have h2 : w1.heap.size + 1 + 1 ≤ w.heap.size := h1; omega) _⟩⟩,
        hitm.setCell (fun e => by have h1 := (hitm.lt _ e).1; have h2 : w.heap.size + 1 ≤ w.heap.size := h1; omega) _, hBn, by simp [World.setCell]; omega, hB.setCell (Nat.le_refl _) _⟩
    have h5 := h4.turn (grownBy_putObj' _ D (.deferred none)) (fun r e => by injection e with e; subst e; exact ⟨by omega, _, hK4, rfl⟩)
    have HT := Lib.hid hK4
    clear hK hK4 hlist hitm hown
    gi_wp2
    refine ⟨by simp, .inl ⟨_, _, rfl, run_takeDeferred HT.out, ?_⟩⟩
    have hbx5 := h5.box.cell
    refine ⟨_, by rw [results_cell_tmp rfl]; go_simp; rfl, ?_⟩
    refine ⟨Ao, no, co, vs, rfl, h5.own.lower (by omega), ?_, h5.below⟩
    have hr5 : (chunks m L).map resolve = ps := by rw [HPS.out, hS]
    rw [hr5]
    exact h5.lists.lower (by omega)
  case stop =>
    rintro D c pre W _ _ h _
    exact h.elim
end Go.Proofs.Ytojelalgcokcfaa
