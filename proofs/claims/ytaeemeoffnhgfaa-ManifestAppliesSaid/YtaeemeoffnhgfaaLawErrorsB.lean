/-
  The walk of the law ManifestErrors, its last case.
-/
import Derived.Test.YtaeemeoffnhgfaaLawErrors
namespace Go.Proofs.Ytaeemeoffnhgfaa
open Go.RowKit
attribute [local go_sem ↓] Go.wp_at_zero Go.wp_at_succ


theorem eql_fi (x : Fi) (W : World) : (binOp .eql 23 (.agg x.vals.toArray) (.agg x.vals.toArray)).run Try.prog W = .ok (.bool true) W := by
  unfold Fi.vals
  go_simp
set_option maxRecDepth 10000 in
set_option maxHeartbeats 4000000 in
theorem errors_both (f : Fi) (name : ByteArray) (p q : Int) (w : World) (hb : bndOne f = true) (hn : name.size ≤ 100) (hp : 0 ≤ p ∧ p ≤ 255) (hq : 0 ≤ q ∧ q ≤ 255) (h : may f = true) (hl : 5 ≤ p ∧ 5 ≤ q) (hne : fA.name = name) (hf : fA.name ≠ f.name) (hc : clash fA f = false) :
    Calls Try.prog 4 #[f.agg, .string name, .int .u8 p, .int .u8 q] w fun e w' => e = .returned (.bool true) ∧ Below w.heap.size w w' := by
  obtain ⟨m2, hm2⟩ : ∃ m, srt [fA, f] = m := ⟨_, rfl⟩
  have hk3 : m2.length = 2 := by rcases srt_two fA f with e | e <;> rw [← hm2, e] <;> rfl
  have hrm3 : applyF 5 5 p q [fA] [f] [] = (0, m2) := by rw [applyF_ok (may_list h) hl.1 hl.2, applyM_both _ _ hf hc, hm2]
  have hrm2 : applyF 5 5 p q [fA] [f] [name] = (0, [f]) := by rw [applyF_ok (may_list h) hl.1 hl.2, applyM_swap _ _ _ hne]
  have hx3 : (if (0 : Int) = 0 then p else 0) = p := if_pos rfl
  have HA3 := Lib.hid (fun W g As cs h1 h2 => apply_put (cs := cs) (cd := 0) (g := g) (W := W) (n := 1) (nd := 0) (k := 2) (X := p) (Y := q) hrm3 rfl rfl hk3 h1 h2 (Ad := none) Rd.nil (As := As) rfl rfl (by omega) (by omega) (fun x hx => by rw [List.mem_singleton.1 hx]; decide))
  have hbn := boundedOne f
  rw [hb] at hbn
  have hmy := fun W => may_any f W
  rw [h] at hmy
  have HA1 := Lib.hid (fun W g h2 => apply_put (cs := 0) (cd := 0) (g := g) (W := W) (n := 0) (nd := 0) (k := 1) (X := 5) (Y := 5) first_fA rfl rfl rfl Rd.nil h2 (Ad := none) Rd.nil (As := none) rfl rfl (by omega) (by omega) (fun x hx => by cases hx))
  have HA2 := Lib.hid (fun W g g' As cs h1 h2 h3 => apply_put (cs := cs) (cd := 1) (g := g) (W := W) (n := 1) (nd := 1) (k := 1) (X := p) (Y := q) hrm2 rfl rfl rfl h1 h2 (Ad := some ⟨g', 0, none⟩) h3 (As := As) rfl rfl (by omega) (by omega) (fun x hx => by rw [List.mem_singleton.1 hx]; decide))
  unfold Fi.agg at hmy ⊢
  have HBN := Lib.hid hbn
  have HMY := Lib.hid hmy
  clear hbn hmy hb h hrm2
  have e1 : decide ((100 : Int) < (name.size : Int)) = false := decide_eq_false (by omega)
  have hwp : IntKind.u64.wrap p = p := IntWalk.u64_in _ (by omega)
  have hwq : IntKind.u64.wrap q = q := IntWalk.u64_in _ (by omega)
  have e2 : decide (p < 5) = false := decide_eq_false (by omega)
  have e3 : decide (q < 5) = false := decide_eq_false (by omega)
  have e4 := is_one name
  rw [decide_eq_true hne] at e4
  have e5 := is_one f.name
  rw [decide_eq_false hf] at e5
  rw [clash_fA] at hc
  have e6 := low_m f.low
  have e7 := high_c f.high
  clear hne hf hx3 hrm3 hk3
  cases e8 : (f.level == 1) with
  | false =>
    clear hc e6 e7
    go_enter Try.func4, Try.ntmps4
    go_wp2_with (first
      | (go_at_call 9; refine (HBN.out _ _ ?_).mono ?_; (exact rd_made f rfl (by simp only [World.size_alloc])); rintro e w1 ⟨rfl, rfl⟩)
      | (go_at_call 11; refine (shown_any _).mono ?_; rintro e w2 ⟨rfl, hb2⟩; obtain ⟨hf2, hb3⟩ := made_two hb2; have HF2 := Lib.hid (show FBox 23 w2 w.heap.size f from hf2); have HB2 := Lib.hid hb3; clear hb2 hb3 hf2)
      | (go_at_call 12; refine (HA1.out _ _ ?_).mono ?_; (exact rd_made fA rfl (by simp only [World.size_alloc])); rintro e w3 ⟨A3, c3, rfl, hr3, hb3⟩; obtain ⟨-, hb3'⟩ := made_two hb3; have HR3 := Lib.hid hr3; have HF3 := Lib.hid (FBox.below' HF2.out hb3'); have HB3 := Lib.hid (HB2.out.trans (hb3'.mono HB2.out.size)); obtain ⟨m0, m1, m2, m3, m4⟩ := (FBox.below' HF3.out (below_al w3 (.cells #[.slice A3 1 c3, .int .u64 5, .int .u64 5] 30))).cells; clear hr3 hb3 hb3' HA1)
      | (go_at_call 12; refine (HA2.out _ _ _ _ _ ?_ ?_ ?_).mono ?_; (exact ((HR3.out.allocS _).allocS _).allocS _); (exact (rd_made f rfl (by simp only [World.size_alloc])).allocS _); (exact rd_text _ name (by simp only [World.size_alloc])); rintro e w5 ⟨A5, c5, rfl, hr5, hb5⟩; obtain ⟨-, hb5'⟩ := made_two hb5; obtain ⟨hs5, hb5''⟩ := made_one hb5'; have HS5 := Lib.hid (show SBox w5 w3.heap.size A3 1 c3 5 5 from hs5); have HR5 := Lib.hid hr5; have HF5 := Lib.hid (FBox.below' HF3.out hb5''); have HR35 := Lib.hid ((HR3.out.below hb5'').more hb5''.size); have HB5 := Lib.hid (HB3.out.trans (hb5''.mono HB3.out.size)); clear hr5 hb5 hb5' hb5'' hs5 m0 m1 m2 m3 m4 HA2; obtain ⟨m0, m1, m2, m3, m4⟩ := (FBox.below' HF5.out (below_al w5 (.cells #[.slice A5 1 c5, .int .u64 p, .int .u64 q] 30))).cells)
      | (go_at_call 10; refine (HMY.out _).mono ?_; rintro e w7 ⟨rfl, hb7⟩; obtain ⟨hs7, hb7'⟩ := made_one hb7; have HS7 := Lib.hid (show SBox w7 w5.heap.size A5 1 c5 p q from hs7); have HSA := Lib.hid (SBox.below HS5.out hb7'); have HF7 := Lib.hid (FBox.below' HF5.out hb7'); have HR7 := Lib.hid ((HR5.out.below hb7').more hb7'.size); have HR37 := Lib.hid ((HR35.out.below hb7').more hb7'.size); have HB7 := Lib.hid (HB5.out.trans (hb7'.mono HB5.out.size)); clear m0 m1 m2 m3 m4 hs7 hb7 hb7' HMY; obtain ⟨m0, m1, m2, m3, m4⟩ := HF7.out.cells; obtain ⟨s0, s1, s2⟩ := HS7.out.cells; obtain ⟨t0, t1, t2⟩ := HSA.out.cells)
      | (go_at_call 12; refine (HA3.out _ _ _ _ ?_ ?_).mono ?_; (exact HR37.out.allocS _); (exact rd_made f rfl (by first | rfl | simp only [World.size_alloc])); rintro e w8 ⟨A8, c8, rfl, hr8, hb8⟩; obtain ⟨-, hb8'⟩ := made_one hb8; have HS8 := Lib.hid (SBox.below (SBox.below HS7.out hb8') (below_al w8 (.cells #[.slice A8 2 c8, .int .u64 p, .int .u64 q] 30))); have HF8 := Lib.hid (FBox.below' (FBox.below' HF7.out hb8') (below_al w8 (.cells #[.slice A8 2 c8, .int .u64 p, .int .u64 q] 30))); have HR8 := Lib.hid (((HR7.out.below hb8').more hb8'.size).allocS (.cells #[.slice A8 2 c8, .int .u64 p, .int .u64 q] 30)); have HB8 := Lib.hid ((HB7.out.trans (hb8'.mono HB7.out.size)).trans ((below_al w8 (.cells #[.slice A8 2 c8, .int .u64 p, .int .u64 q] 30)).mono (Nat.le_trans HB7.out.size hb8'.size))); clear m0 m1 m2 m3 m4 s0 s1 s2 t0 t1 t2 hr8 hb8 hb8' HA3; obtain ⟨m0, m1, m2, m3, m4⟩ := HF8.out.cells; obtain ⟨s0, s1, s2⟩ := HS8.out.cells))
    obtain ⟨b5, o5, rfl, hr5⟩ := rd_elem (l := [f]) (k := 0) HR8.out (by simp)
    rw [Nat.zero_mul, Nat.add_zero] at hr5
    have hr5' : (w8.alloc (.cells #[.slice A8 2 c8, .int .u64 p, .int .u64 q] 30)).rangeAt b5 o5 f.vals := hr5
    have HC := And.intro s0 (And.intro hr5' HF8.out.range)
    have hee := eql_fi f
    clear hr5 hr5' s0 s1 s2 m0 m1 m2 m3 m4
    refine region_wz (fun W => W.cell? ⟨w5.heap.size, 0, none⟩ = some (.slice (some ⟨b5, o5, none⟩) 1 c5) ∧ W.rangeAt b5 o5 f.vals ∧ W.rangeAt w.heap.size 0 f.vals) none (by kernel_rfl) ?_
    apply WZ.take (i := 0) (some 126) rfl rfl (by kernel_rfl) (by kernel_rfl) (by kernel_rfl) (calm_panic _) (by kernel_rfl)
    case hy => (refine .inl ⟨by kernel_rfl, fun W hC => ?_⟩; (try dsimp only at hC); go_simp; (try simp only [hee]); rfl)
    case hC => exact HC
    case ha => (simp only [Act.put, List.setIfInBounds_toArray, List.set_cons_zero, List.set_cons_succ]; rfl)
    apply WZ.take (i := 1) (some 127) rfl rfl (by kernel_rfl) (by kernel_rfl) (by kernel_rfl) (calm_panic _) (by kernel_rfl)
    case hy => (refine .inl ⟨by kernel_rfl, fun W hC => ?_⟩; (try dsimp only at hC); go_simp; (try simp only [hee]); rfl)
    case hC => exact HC
    case ha => (simp only [Act.put, List.setIfInBounds_toArray, List.set_cons_zero, List.set_cons_succ]; rfl)
    apply WZ.take (i := 2) (some 128) rfl rfl (by kernel_rfl) (by kernel_rfl) (by kernel_rfl) (calm_panic _) (by kernel_rfl)
    case hy => (refine .inl ⟨by kernel_rfl, fun W hC => ?_⟩; (try dsimp only at hC); go_simp; (try simp only [hee]); rfl)
    case hC => exact HC
    case ha => (simp only [Act.put, List.setIfInBounds_toArray, List.set_cons_zero, List.set_cons_succ]; rfl)
    apply WZ.take (i := 3) (some 129) rfl rfl (by kernel_rfl) (by kernel_rfl) (by kernel_rfl) (calm_panic _) (by kernel_rfl)
    case hy => (refine .inl ⟨by kernel_rfl, fun W hC => ?_⟩; (try dsimp only at hC); go_simp; (try simp only [hee]); rfl)
    case hC => exact HC
    case ha => (simp only [Act.put, List.setIfInBounds_toArray, List.set_cons_zero, List.set_cons_succ]; rfl)
    apply WZ.take (i := 4) (some 130) rfl rfl (by kernel_rfl) (by kernel_rfl) (by kernel_rfl) (calm_panic _) (by kernel_rfl)
    case hy => (refine .inl ⟨by kernel_rfl, fun W hC => ?_⟩; (try dsimp only at hC); go_simp; (try simp only [hee]); rfl)
    case hC => exact HC
    case ha => (simp only [Act.put, List.setIfInBounds_toArray, List.set_cons_zero, List.set_cons_succ]; rfl)
    apply WZ.take (i := 5) (some 131) rfl rfl (by kernel_rfl) (by kernel_rfl) (by kernel_rfl) (calm_panic _) (by kernel_rfl)
    case hy => (refine .inl ⟨by kernel_rfl, fun W hC => ?_⟩; (try dsimp only at hC); go_simp; (try simp only [hee]); rfl)
    case hC => exact HC
    case ha => (simp only [Act.put, List.setIfInBounds_toArray, List.set_cons_zero, List.set_cons_succ]; rfl)
    apply WZ.take (i := 6) (some 132) rfl rfl (by kernel_rfl) (by kernel_rfl) (by kernel_rfl) (calm_panic _) (by kernel_rfl)
    case hy => (refine .inl ⟨by kernel_rfl, fun W hC => ?_⟩; (try dsimp only at hC); go_simp; (try simp only [hee]); rfl)
    case hC => exact HC
    case ha => (simp only [Act.put, List.setIfInBounds_toArray, List.set_cons_zero, List.set_cons_succ]; rfl)
    apply WZ.take (i := 7) (some 133) rfl rfl (by kernel_rfl) (by kernel_rfl) (by kernel_rfl) (calm_panic _) (by kernel_rfl)
    case hy => (refine .inl ⟨by kernel_rfl, fun W hC => ?_⟩; (try dsimp only at hC); go_simp; (try simp only [hee]); rfl)
    case hC => exact HC
    case ha => (simp only [Act.put, List.setIfInBounds_toArray, List.set_cons_zero, List.set_cons_succ]; rfl)
    apply WZ.take (i := 8) (some 134) rfl rfl (by kernel_rfl) (by kernel_rfl) (by kernel_rfl) (calm_panic _) (by kernel_rfl)
    case hy => (refine .inl ⟨by kernel_rfl, fun W hC => ?_⟩; (try dsimp only at hC); go_simp; (try simp only [hee]); rfl)
    case hC => exact HC
    case ha => (simp only [Act.put, List.setIfInBounds_toArray, List.set_cons_zero, List.set_cons_succ]; rfl)
    apply WZ.take (i := 9) (some 135) rfl rfl (by kernel_rfl) (by kernel_rfl) (by kernel_rfl) (calm_panic _) (by kernel_rfl)
    case hy => (refine .inl ⟨by kernel_rfl, fun W hC => ?_⟩; (try dsimp only at hC); go_simp; (try simp only [hee]); rfl)
    case hC => exact HC
    case ha => (simp only [Act.put, List.setIfInBounds_toArray, List.set_cons_zero, List.set_cons_succ]; rfl)
    apply WZ.take (i := 10) (some 136) rfl rfl (by kernel_rfl) (by kernel_rfl) (by kernel_rfl) (calm_panic _) (by kernel_rfl)
    case hy => (refine .inl ⟨by kernel_rfl, fun W hC => ?_⟩; (try dsimp only at hC); go_simp; (try simp only [hee]); rfl)
    case hC => exact HC
    case ha => (simp only [Act.put, List.setIfInBounds_toArray, List.set_cons_zero, List.set_cons_succ]; rfl)
    apply WZ.take (i := 11) (some 137) rfl rfl (by kernel_rfl) (by kernel_rfl) (by kernel_rfl) (calm_panic _) (by kernel_rfl)
    case hy => (refine .inl ⟨by kernel_rfl, fun W hC => ?_⟩; (try dsimp only at hC); go_simp; (try simp only [hee]); rfl)
    case hC => exact HC
    case ha => (simp only [Act.put, List.setIfInBounds_toArray, List.set_cons_zero, List.set_cons_succ]; rfl)
    apply WZ.take (i := 12) (some 138) rfl rfl (by kernel_rfl) (by kernel_rfl) (by kernel_rfl) (calm_panic _) (by kernel_rfl)
    case hy => first | (apply yieldsIf_load_mid (by kernel_rfl) _ _ rfl _ _ rfl; (case hS => (intro W hC; exact (show World.rangeAt _ _ _ (Fi.vals _) from hC.1))); (case hu => exact Try.underlying23); (case hd => rfl); (case hi => kernel_rfl)) | (apply yieldsIf_load_mid (by kernel_rfl) _ _ rfl _ _ rfl; (case hS => (intro W hC; exact (show World.rangeAt _ _ _ (Fi.vals _) from hC.2.1))); (case hu => exact Try.underlying23); (case hd => rfl); (case hi => kernel_rfl)) | (apply yieldsIf_load_mid (by kernel_rfl) _ _ rfl _ _ rfl; (case hS => (intro W hC; exact (show World.rangeAt _ _ _ (Fi.vals _) from hC.2.2.1))); (case hu => exact Try.underlying23); (case hd => rfl); (case hi => kernel_rfl)) | (apply yieldsIf_load_mid (by kernel_rfl) _ _ rfl _ _ rfl; (case hS => (intro W hC; exact (show World.rangeAt _ _ _ (Fi.vals _) from hC.2.2.2.1))); (case hu => exact Try.underlying23); (case hd => rfl); (case hi => kernel_rfl)) | (apply yieldsIf_load_mid (by kernel_rfl) _ _ rfl _ _ rfl; (case hS => (intro W hC; exact (show World.rangeAt _ _ _ (Fi.vals _) from hC.2.2.2))); (case hu => exact Try.underlying23); (case hd => rfl); (case hi => kernel_rfl)) | (apply yieldsIf_load_mid (by kernel_rfl) _ _ rfl _ _ rfl; (case hS => (intro W hC; exact (show World.rangeAt _ _ _ (Fi.vals _) from hC.2.2))); (case hu => exact Try.underlying23); (case hd => rfl); (case hi => kernel_rfl)) | (apply yieldsIf_load_mid (by kernel_rfl) _ _ rfl _ _ rfl; (case hS => (intro W hC; exact (show World.rangeAt _ _ _ (Fi.vals _) from hC.2))); (case hu => exact Try.underlying23); (case hd => rfl); (case hi => kernel_rfl)) | (apply yieldsIf_load_mid (by kernel_rfl) _ _ rfl _ _ rfl; (case hS => (intro W hC; exact (show World.rangeAt _ _ _ (Fi.vals _) from hC))); (case hu => exact Try.underlying23); (case hd => rfl); (case hi => kernel_rfl))
    case hC => exact HC
    case ha => (simp only [Act.put, List.setIfInBounds_toArray, List.set_cons_zero, List.set_cons_succ]; rfl)
    apply WZ.take (i := 13) (some 139) rfl rfl (by kernel_rfl) (by kernel_rfl) (by kernel_rfl) (calm_panic _) (by kernel_rfl)
    case hy => first | (apply yieldsIf_load_mid (by kernel_rfl) _ _ rfl _ _ rfl; (case hS => (intro W hC; exact (show World.rangeAt _ _ _ (Fi.vals _) from hC.1))); (case hu => exact Try.underlying23); (case hd => rfl); (case hi => kernel_rfl)) | (apply yieldsIf_load_mid (by kernel_rfl) _ _ rfl _ _ rfl; (case hS => (intro W hC; exact (show World.rangeAt _ _ _ (Fi.vals _) from hC.2.1))); (case hu => exact Try.underlying23); (case hd => rfl); (case hi => kernel_rfl)) | (apply yieldsIf_load_mid (by kernel_rfl) _ _ rfl _ _ rfl; (case hS => (intro W hC; exact (show World.rangeAt _ _ _ (Fi.vals _) from hC.2.2.1))); (case hu => exact Try.underlying23); (case hd => rfl); (case hi => kernel_rfl)) | (apply yieldsIf_load_mid (by kernel_rfl) _ _ rfl _ _ rfl; (case hS => (intro W hC; exact (show World.rangeAt _ _ _ (Fi.vals _) from hC.2.2.2.1))); (case hu => exact Try.underlying23); (case hd => rfl); (case hi => kernel_rfl)) | (apply yieldsIf_load_mid (by kernel_rfl) _ _ rfl _ _ rfl; (case hS => (intro W hC; exact (show World.rangeAt _ _ _ (Fi.vals _) from hC.2.2.2))); (case hu => exact Try.underlying23); (case hd => rfl); (case hi => kernel_rfl)) | (apply yieldsIf_load_mid (by kernel_rfl) _ _ rfl _ _ rfl; (case hS => (intro W hC; exact (show World.rangeAt _ _ _ (Fi.vals _) from hC.2.2))); (case hu => exact Try.underlying23); (case hd => rfl); (case hi => kernel_rfl)) | (apply yieldsIf_load_mid (by kernel_rfl) _ _ rfl _ _ rfl; (case hS => (intro W hC; exact (show World.rangeAt _ _ _ (Fi.vals _) from hC.2))); (case hu => exact Try.underlying23); (case hd => rfl); (case hi => kernel_rfl)) | (apply yieldsIf_load_mid (by kernel_rfl) _ _ rfl _ _ rfl; (case hS => (intro W hC; exact (show World.rangeAt _ _ _ (Fi.vals _) from hC))); (case hu => exact Try.underlying23); (case hd => rfl); (case hi => kernel_rfl))
    case hC => exact HC
    case ha => (simp only [Act.put, List.setIfInBounds_toArray, List.set_cons_zero, List.set_cons_succ]; rfl)
    apply WZ.take (i := 14) (some 140) rfl rfl (by kernel_rfl) (by kernel_rfl) (by kernel_rfl) (calm_panic _) (by kernel_rfl)
    case hy => (refine .inl ⟨by kernel_rfl, fun W hC => ?_⟩; (try dsimp only at hC); go_simp; (try simp only [hee]); rfl)
    case hC => exact HC
    case ha => (simp only [Act.put, List.setIfInBounds_toArray, List.set_cons_zero, List.set_cons_succ]; rfl)
    apply WZ.take (i := 15) (some 141) rfl rfl (by kernel_rfl) (by kernel_rfl) (by kernel_rfl) (calm_panic _) (by kernel_rfl)
    case hy => (refine .inl ⟨by kernel_rfl, fun W hC => ?_⟩; (try dsimp only at hC); go_simp; (try simp only [hee]); rfl)
    case hC => exact HC
    case ha => (simp only [Act.put, List.setIfInBounds_toArray, List.set_cons_zero, List.set_cons_succ]; rfl)
    apply WZ.take (i := 16) (some 8) rfl rfl (by kernel_rfl) (by kernel_rfl) (by kernel_rfl) (calm_panic _) (by kernel_rfl)
    case hy => (refine .inl ⟨by kernel_rfl, fun W hC => ?_⟩; (try dsimp only at hC); go_simp; (try simp only [hee]); rfl)
    case hC => exact HC
    case ha => (simp only [Act.put, List.setIfInBounds_toArray, List.set_cons_zero, List.set_cons_succ]; rfl)
    refine WZ.done (by kernel_rfl) ?_ _
    simp only [Calm, Exit.then]
    go_wp2
    go_ret
    exact ⟨rfl, by first | exact HB8.out | exact HB8.out.drew⟩
  | true =>
    rw [e8, Bool.true_and] at hc
    cases hlo : lt fA.high f.low with
    | true =>
      rw [hlo] at e6
      clear hc e7 hlo
      go_enter Try.func4, Try.ntmps4
      go_wp2_with (first
        | (go_at_call 9; refine (HBN.out _ _ ?_).mono ?_; (exact rd_made f rfl (by simp only [World.size_alloc])); rintro e w1 ⟨rfl, rfl⟩)
        | (go_at_call 11; refine (shown_any _).mono ?_; rintro e w2 ⟨rfl, hb2⟩; obtain ⟨hf2, hb3⟩ := made_two hb2; have HF2 := Lib.hid (show FBox 23 w2 w.heap.size f from hf2); have HB2 := Lib.hid hb3; clear hb2 hb3 hf2)
        | (go_at_call 12; refine (HA1.out _ _ ?_).mono ?_; (exact rd_made fA rfl (by simp only [World.size_alloc])); rintro e w3 ⟨A3, c3, rfl, hr3, hb3⟩; obtain ⟨-, hb3'⟩ := made_two hb3; have HR3 := Lib.hid hr3; have HF3 := Lib.hid (FBox.below' HF2.out hb3'); have HB3 := Lib.hid (HB2.out.trans (hb3'.mono HB2.out.size)); obtain ⟨m0, m1, m2, m3, m4⟩ := (FBox.below' HF3.out (below_al w3 (.cells #[.slice A3 1 c3, .int .u64 5, .int .u64 5] 30))).cells; clear hr3 hb3 hb3' HA1)
        | (go_at_call 12; refine (HA2.out _ _ _ _ _ ?_ ?_ ?_).mono ?_; (exact ((HR3.out.allocS _).allocS _).allocS _); (exact (rd_made f rfl (by simp only [World.size_alloc])).allocS _); (exact rd_text _ name (by simp only [World.size_alloc])); rintro e w5 ⟨A5, c5, rfl, hr5, hb5⟩; obtain ⟨-, hb5'⟩ := made_two hb5; obtain ⟨hs5, hb5''⟩ := made_one hb5'; have HS5 := Lib.hid (show SBox w5 w3.heap.size A3 1 c3 5 5 from hs5); have HR5 := Lib.hid hr5; have HF5 := Lib.hid (FBox.below' HF3.out hb5''); have HR35 := Lib.hid ((HR3.out.below hb5'').more hb5''.size); have HB5 := Lib.hid (HB3.out.trans (hb5''.mono HB3.out.size)); clear hr5 hb5 hb5' hb5'' hs5 m0 m1 m2 m3 m4 HA2; obtain ⟨m0, m1, m2, m3, m4⟩ := (FBox.below' HF5.out (below_al w5 (.cells #[.slice A5 1 c5, .int .u64 p, .int .u64 q] 30))).cells)
        | (go_at_call 10; refine (HMY.out _).mono ?_; rintro e w7 ⟨rfl, hb7⟩; obtain ⟨hs7, hb7'⟩ := made_one hb7; have HS7 := Lib.hid (show SBox w7 w5.heap.size A5 1 c5 p q from hs7); have HSA := Lib.hid (SBox.below HS5.out hb7'); have HF7 := Lib.hid (FBox.below' HF5.out hb7'); have HR7 := Lib.hid ((HR5.out.below hb7').more hb7'.size); have HR37 := Lib.hid ((HR35.out.below hb7').more hb7'.size); have HB7 := Lib.hid (HB5.out.trans (hb7'.mono HB5.out.size)); clear m0 m1 m2 m3 m4 hs7 hb7 hb7' HMY; obtain ⟨m0, m1, m2, m3, m4⟩ := HF7.out.cells; obtain ⟨s0, s1, s2⟩ := HS7.out.cells; obtain ⟨t0, t1, t2⟩ := HSA.out.cells)
        | (go_at_call 12; refine (HA3.out _ _ _ _ ?_ ?_).mono ?_; (exact HR37.out.allocS _); (exact rd_made f rfl (by first | rfl | simp only [World.size_alloc])); rintro e w8 ⟨A8, c8, rfl, hr8, hb8⟩; obtain ⟨-, hb8'⟩ := made_one hb8; have HS8 := Lib.hid (SBox.below (SBox.below HS7.out hb8') (below_al w8 (.cells #[.slice A8 2 c8, .int .u64 p, .int .u64 q] 30))); have HF8 := Lib.hid (FBox.below' (FBox.below' HF7.out hb8') (below_al w8 (.cells #[.slice A8 2 c8, .int .u64 p, .int .u64 q] 30))); have HR8 := Lib.hid (((HR7.out.below hb8').more hb8'.size).allocS (.cells #[.slice A8 2 c8, .int .u64 p, .int .u64 q] 30)); have HB8 := Lib.hid ((HB7.out.trans (hb8'.mono HB7.out.size)).trans ((below_al w8 (.cells #[.slice A8 2 c8, .int .u64 p, .int .u64 q] 30)).mono (Nat.le_trans HB7.out.size hb8'.size))); clear m0 m1 m2 m3 m4 s0 s1 s2 t0 t1 t2 hr8 hb8 hb8' HA3; obtain ⟨m0, m1, m2, m3, m4⟩ := HF8.out.cells; obtain ⟨s0, s1, s2⟩ := HS8.out.cells))
      obtain ⟨b5, o5, rfl, hr5⟩ := rd_elem (l := [f]) (k := 0) HR8.out (by simp)
      rw [Nat.zero_mul, Nat.add_zero] at hr5
      have hr5' : (w8.alloc (.cells #[.slice A8 2 c8, .int .u64 p, .int .u64 q] 30)).rangeAt b5 o5 f.vals := hr5
      have HC := And.intro s0 (And.intro hr5' HF8.out.range)
      have hee := eql_fi f
      clear hr5 hr5' s0 s1 s2 m0 m1 m2 m3 m4
      refine region_wz (fun W => W.cell? ⟨w5.heap.size, 0, none⟩ = some (.slice (some ⟨b5, o5, none⟩) 1 c5) ∧ W.rangeAt b5 o5 f.vals ∧ W.rangeAt w.heap.size 0 f.vals) none (by kernel_rfl) ?_
      apply WZ.take (i := 0) (some 126) rfl rfl (by kernel_rfl) (by kernel_rfl) (by kernel_rfl) (calm_panic _) (by kernel_rfl)
      case hy => (refine .inl ⟨by kernel_rfl, fun W hC => ?_⟩; (try dsimp only at hC); go_simp; (try simp only [hee]); rfl)
      case hC => exact HC
      case ha => (simp only [Act.put, List.setIfInBounds_toArray, List.set_cons_zero, List.set_cons_succ]; rfl)
      apply WZ.take (i := 1) (some 127) rfl rfl (by kernel_rfl) (by kernel_rfl) (by kernel_rfl) (calm_panic _) (by kernel_rfl)
      case hy => (refine .inl ⟨by kernel_rfl, fun W hC => ?_⟩; (try dsimp only at hC); go_simp; (try simp only [hee]); rfl)
      case hC => exact HC
      case ha => (simp only [Act.put, List.setIfInBounds_toArray, List.set_cons_zero, List.set_cons_succ]; rfl)
      apply WZ.take (i := 2) (some 128) rfl rfl (by kernel_rfl) (by kernel_rfl) (by kernel_rfl) (calm_panic _) (by kernel_rfl)
      case hy => (refine .inl ⟨by kernel_rfl, fun W hC => ?_⟩; (try dsimp only at hC); go_simp; (try simp only [hee]); rfl)
      case hC => exact HC
      case ha => (simp only [Act.put, List.setIfInBounds_toArray, List.set_cons_zero, List.set_cons_succ]; rfl)
      apply WZ.take (i := 3) (some 129) rfl rfl (by kernel_rfl) (by kernel_rfl) (by kernel_rfl) (calm_panic _) (by kernel_rfl)
      case hy => (refine .inl ⟨by kernel_rfl, fun W hC => ?_⟩; (try dsimp only at hC); go_simp; (try simp only [hee]); rfl)
      case hC => exact HC
      case ha => (simp only [Act.put, List.setIfInBounds_toArray, List.set_cons_zero, List.set_cons_succ]; rfl)
      apply WZ.take (i := 4) (some 130) rfl rfl (by kernel_rfl) (by kernel_rfl) (by kernel_rfl) (calm_panic _) (by kernel_rfl)
      case hy => (refine .inl ⟨by kernel_rfl, fun W hC => ?_⟩; (try dsimp only at hC); go_simp; (try simp only [hee]); rfl)
      case hC => exact HC
      case ha => (simp only [Act.put, List.setIfInBounds_toArray, List.set_cons_zero, List.set_cons_succ]; rfl)
      apply WZ.take (i := 5) (some 131) rfl rfl (by kernel_rfl) (by kernel_rfl) (by kernel_rfl) (calm_panic _) (by kernel_rfl)
      case hy => (refine .inl ⟨by kernel_rfl, fun W hC => ?_⟩; (try dsimp only at hC); go_simp; (try simp only [hee]); rfl)
      case hC => exact HC
      case ha => (simp only [Act.put, List.setIfInBounds_toArray, List.set_cons_zero, List.set_cons_succ]; rfl)
      apply WZ.take (i := 6) (some 132) rfl rfl (by kernel_rfl) (by kernel_rfl) (by kernel_rfl) (calm_panic _) (by kernel_rfl)
      case hy => (refine .inl ⟨by kernel_rfl, fun W hC => ?_⟩; (try dsimp only at hC); go_simp; (try simp only [hee]); rfl)
      case hC => exact HC
      case ha => (simp only [Act.put, List.setIfInBounds_toArray, List.set_cons_zero, List.set_cons_succ]; rfl)
      apply WZ.take (i := 7) (some 133) rfl rfl (by kernel_rfl) (by kernel_rfl) (by kernel_rfl) (calm_panic _) (by kernel_rfl)
      case hy => (refine .inl ⟨by kernel_rfl, fun W hC => ?_⟩; (try dsimp only at hC); go_simp; (try simp only [hee]); rfl)
      case hC => exact HC
      case ha => (simp only [Act.put, List.setIfInBounds_toArray, List.set_cons_zero, List.set_cons_succ]; rfl)
      apply WZ.take (i := 8) (some 134) rfl rfl (by kernel_rfl) (by kernel_rfl) (by kernel_rfl) (calm_panic _) (by kernel_rfl)
      case hy => (refine .inl ⟨by kernel_rfl, fun W hC => ?_⟩; (try dsimp only at hC); go_simp; (try simp only [hee]); rfl)
      case hC => exact HC
      case ha => (simp only [Act.put, List.setIfInBounds_toArray, List.set_cons_zero, List.set_cons_succ]; rfl)
      apply WZ.take (i := 9) (some 135) rfl rfl (by kernel_rfl) (by kernel_rfl) (by kernel_rfl) (calm_panic _) (by kernel_rfl)
      case hy => (refine .inl ⟨by kernel_rfl, fun W hC => ?_⟩; (try dsimp only at hC); go_simp; (try simp only [hee]); rfl)
      case hC => exact HC
      case ha => (simp only [Act.put, List.setIfInBounds_toArray, List.set_cons_zero, List.set_cons_succ]; rfl)
      apply WZ.take (i := 10) (some 136) rfl rfl (by kernel_rfl) (by kernel_rfl) (by kernel_rfl) (calm_panic _) (by kernel_rfl)
      case hy => (refine .inl ⟨by kernel_rfl, fun W hC => ?_⟩; (try dsimp only at hC); go_simp; (try simp only [hee]); rfl)
      case hC => exact HC
      case ha => (simp only [Act.put, List.setIfInBounds_toArray, List.set_cons_zero, List.set_cons_succ]; rfl)
      apply WZ.take (i := 11) (some 137) rfl rfl (by kernel_rfl) (by kernel_rfl) (by kernel_rfl) (calm_panic _) (by kernel_rfl)
      case hy => (refine .inl ⟨by kernel_rfl, fun W hC => ?_⟩; (try dsimp only at hC); go_simp; (try simp only [hee]); rfl)
      case hC => exact HC
      case ha => (simp only [Act.put, List.setIfInBounds_toArray, List.set_cons_zero, List.set_cons_succ]; rfl)
      apply WZ.take (i := 12) (some 138) rfl rfl (by kernel_rfl) (by kernel_rfl) (by kernel_rfl) (calm_panic _) (by kernel_rfl)
      case hy => first | (apply yieldsIf_load_mid (by kernel_rfl) _ _ rfl _ _ rfl; (case hS => (intro W hC; exact (show World.rangeAt _ _ _ (Fi.vals _) from hC.1))); (case hu => exact Try.underlying23); (case hd => rfl); (case hi => kernel_rfl)) | (apply yieldsIf_load_mid (by kernel_rfl) _ _ rfl _ _ rfl; (case hS => (intro W hC; exact (show World.rangeAt _ _ _ (Fi.vals _) from hC.2.1))); (case hu => exact Try.underlying23); (case hd => rfl); (case hi => kernel_rfl)) | (apply yieldsIf_load_mid (by kernel_rfl) _ _ rfl _ _ rfl; (case hS => (intro W hC; exact (show World.rangeAt _ _ _ (Fi.vals _) from hC.2.2.1))); (case hu => exact Try.underlying23); (case hd => rfl); (case hi => kernel_rfl)) | (apply yieldsIf_load_mid (by kernel_rfl) _ _ rfl _ _ rfl; (case hS => (intro W hC; exact (show World.rangeAt _ _ _ (Fi.vals _) from hC.2.2.2.1))); (case hu => exact Try.underlying23); (case hd => rfl); (case hi => kernel_rfl)) | (apply yieldsIf_load_mid (by kernel_rfl) _ _ rfl _ _ rfl; (case hS => (intro W hC; exact (show World.rangeAt _ _ _ (Fi.vals _) from hC.2.2.2))); (case hu => exact Try.underlying23); (case hd => rfl); (case hi => kernel_rfl)) | (apply yieldsIf_load_mid (by kernel_rfl) _ _ rfl _ _ rfl; (case hS => (intro W hC; exact (show World.rangeAt _ _ _ (Fi.vals _) from hC.2.2))); (case hu => exact Try.underlying23); (case hd => rfl); (case hi => kernel_rfl)) | (apply yieldsIf_load_mid (by kernel_rfl) _ _ rfl _ _ rfl; (case hS => (intro W hC; exact (show World.rangeAt _ _ _ (Fi.vals _) from hC.2))); (case hu => exact Try.underlying23); (case hd => rfl); (case hi => kernel_rfl)) | (apply yieldsIf_load_mid (by kernel_rfl) _ _ rfl _ _ rfl; (case hS => (intro W hC; exact (show World.rangeAt _ _ _ (Fi.vals _) from hC))); (case hu => exact Try.underlying23); (case hd => rfl); (case hi => kernel_rfl))
      case hC => exact HC
      case ha => (simp only [Act.put, List.setIfInBounds_toArray, List.set_cons_zero, List.set_cons_succ]; rfl)
      apply WZ.take (i := 13) (some 139) rfl rfl (by kernel_rfl) (by kernel_rfl) (by kernel_rfl) (calm_panic _) (by kernel_rfl)
      case hy => first | (apply yieldsIf_load_mid (by kernel_rfl) _ _ rfl _ _ rfl; (case hS => (intro W hC; exact (show World.rangeAt _ _ _ (Fi.vals _) from hC.1))); (case hu => exact Try.underlying23); (case hd => rfl); (case hi => kernel_rfl)) | (apply yieldsIf_load_mid (by kernel_rfl) _ _ rfl _ _ rfl; (case hS => (intro W hC; exact (show World.rangeAt _ _ _ (Fi.vals _) from hC.2.1))); (case hu => exact Try.underlying23); (case hd => rfl); (case hi => kernel_rfl)) | (apply yieldsIf_load_mid (by kernel_rfl) _ _ rfl _ _ rfl; (case hS => (intro W hC; exact (show World.rangeAt _ _ _ (Fi.vals _) from hC.2.2.1))); (case hu => exact Try.underlying23); (case hd => rfl); (case hi => kernel_rfl)) | (apply yieldsIf_load_mid (by kernel_rfl) _ _ rfl _ _ rfl; (case hS => (intro W hC; exact (show World.rangeAt _ _ _ (Fi.vals _) from hC.2.2.2.1))); (case hu => exact Try.underlying23); (case hd => rfl); (case hi => kernel_rfl)) | (apply yieldsIf_load_mid (by kernel_rfl) _ _ rfl _ _ rfl; (case hS => (intro W hC; exact (show World.rangeAt _ _ _ (Fi.vals _) from hC.2.2.2))); (case hu => exact Try.underlying23); (case hd => rfl); (case hi => kernel_rfl)) | (apply yieldsIf_load_mid (by kernel_rfl) _ _ rfl _ _ rfl; (case hS => (intro W hC; exact (show World.rangeAt _ _ _ (Fi.vals _) from hC.2.2))); (case hu => exact Try.underlying23); (case hd => rfl); (case hi => kernel_rfl)) | (apply yieldsIf_load_mid (by kernel_rfl) _ _ rfl _ _ rfl; (case hS => (intro W hC; exact (show World.rangeAt _ _ _ (Fi.vals _) from hC.2))); (case hu => exact Try.underlying23); (case hd => rfl); (case hi => kernel_rfl)) | (apply yieldsIf_load_mid (by kernel_rfl) _ _ rfl _ _ rfl; (case hS => (intro W hC; exact (show World.rangeAt _ _ _ (Fi.vals _) from hC))); (case hu => exact Try.underlying23); (case hd => rfl); (case hi => kernel_rfl))
      case hC => exact HC
      case ha => (simp only [Act.put, List.setIfInBounds_toArray, List.set_cons_zero, List.set_cons_succ]; rfl)
      apply WZ.take (i := 14) (some 140) rfl rfl (by kernel_rfl) (by kernel_rfl) (by kernel_rfl) (calm_panic _) (by kernel_rfl)
      case hy => (refine .inl ⟨by kernel_rfl, fun W hC => ?_⟩; (try dsimp only at hC); go_simp; (try simp only [hee]); rfl)
      case hC => exact HC
      case ha => (simp only [Act.put, List.setIfInBounds_toArray, List.set_cons_zero, List.set_cons_succ]; rfl)
      apply WZ.take (i := 15) (some 141) rfl rfl (by kernel_rfl) (by kernel_rfl) (by kernel_rfl) (calm_panic _) (by kernel_rfl)
      case hy => (refine .inl ⟨by kernel_rfl, fun W hC => ?_⟩; (try dsimp only at hC); go_simp; (try simp only [hee]); rfl)
      case hC => exact HC
      case ha => (simp only [Act.put, List.setIfInBounds_toArray, List.set_cons_zero, List.set_cons_succ]; rfl)
      apply WZ.take (i := 16) (some 8) rfl rfl (by kernel_rfl) (by kernel_rfl) (by kernel_rfl) (calm_panic _) (by kernel_rfl)
      case hy => (refine .inl ⟨by kernel_rfl, fun W hC => ?_⟩; (try dsimp only at hC); go_simp; (try simp only [hee]); rfl)
      case hC => exact HC
      case ha => (simp only [Act.put, List.setIfInBounds_toArray, List.set_cons_zero, List.set_cons_succ]; rfl)
      refine WZ.done (by kernel_rfl) ?_ _
      simp only [Calm, Exit.then]
      go_wp2
      go_ret
      exact ⟨rfl, by first | exact HB8.out | exact HB8.out.drew⟩
    | false =>
      rw [hlo] at e6 hc
      have e9 : Op.bytesLess f.high.toList [99] = true := by rw [e7]; simpa using hc
      clear hc e7 hlo
      go_enter Try.func4, Try.ntmps4
      go_wp2_with (first
        | (go_at_call 9; refine (HBN.out _ _ ?_).mono ?_; (exact rd_made f rfl (by simp only [World.size_alloc])); rintro e w1 ⟨rfl, rfl⟩)
        | (go_at_call 11; refine (shown_any _).mono ?_; rintro e w2 ⟨rfl, hb2⟩; obtain ⟨hf2, hb3⟩ := made_two hb2; have HF2 := Lib.hid (show FBox 23 w2 w.heap.size f from hf2); have HB2 := Lib.hid hb3; clear hb2 hb3 hf2)
        | (go_at_call 12; refine (HA1.out _ _ ?_).mono ?_; (exact rd_made fA rfl (by simp only [World.size_alloc])); rintro e w3 ⟨A3, c3, rfl, hr3, hb3⟩; obtain ⟨-, hb3'⟩ := made_two hb3; have HR3 := Lib.hid hr3; have HF3 := Lib.hid (FBox.below' HF2.out hb3'); have HB3 := Lib.hid (HB2.out.trans (hb3'.mono HB2.out.size)); obtain ⟨m0, m1, m2, m3, m4⟩ := (FBox.below' HF3.out (below_al w3 (.cells #[.slice A3 1 c3, .int .u64 5, .int .u64 5] 30))).cells; clear hr3 hb3 hb3' HA1)
        | (go_at_call 12; refine (HA2.out _ _ _ _ _ ?_ ?_ ?_).mono ?_; (exact ((HR3.out.allocS _).allocS _).allocS _); (exact (rd_made f rfl (by simp only [World.size_alloc])).allocS _); (exact rd_text _ name (by simp only [World.size_alloc])); rintro e w5 ⟨A5, c5, rfl, hr5, hb5⟩; obtain ⟨-, hb5'⟩ := made_two hb5; obtain ⟨hs5, hb5''⟩ := made_one hb5'; have HS5 := Lib.hid (show SBox w5 w3.heap.size A3 1 c3 5 5 from hs5); have HR5 := Lib.hid hr5; have HF5 := Lib.hid (FBox.below' HF3.out hb5''); have HR35 := Lib.hid ((HR3.out.below hb5'').more hb5''.size); have HB5 := Lib.hid (HB3.out.trans (hb5''.mono HB3.out.size)); clear hr5 hb5 hb5' hb5'' hs5 m0 m1 m2 m3 m4 HA2; obtain ⟨m0, m1, m2, m3, m4⟩ := (FBox.below' HF5.out (below_al w5 (.cells #[.slice A5 1 c5, .int .u64 p, .int .u64 q] 30))).cells)
        | (go_at_call 10; refine (HMY.out _).mono ?_; rintro e w7 ⟨rfl, hb7⟩; obtain ⟨hs7, hb7'⟩ := made_one hb7; have HS7 := Lib.hid (show SBox w7 w5.heap.size A5 1 c5 p q from hs7); have HSA := Lib.hid (SBox.below HS5.out hb7'); have HF7 := Lib.hid (FBox.below' HF5.out hb7'); have HR7 := Lib.hid ((HR5.out.below hb7').more hb7'.size); have HR37 := Lib.hid ((HR35.out.below hb7').more hb7'.size); have HB7 := Lib.hid (HB5.out.trans (hb7'.mono HB5.out.size)); clear m0 m1 m2 m3 m4 hs7 hb7 hb7' HMY; obtain ⟨m0, m1, m2, m3, m4⟩ := HF7.out.cells; obtain ⟨s0, s1, s2⟩ := HS7.out.cells; obtain ⟨t0, t1, t2⟩ := HSA.out.cells)
        | (go_at_call 12; refine (HA3.out _ _ _ _ ?_ ?_).mono ?_; (exact HR37.out.allocS _); (exact rd_made f rfl (by first | rfl | simp only [World.size_alloc])); rintro e w8 ⟨A8, c8, rfl, hr8, hb8⟩; obtain ⟨-, hb8'⟩ := made_one hb8; have HS8 := Lib.hid (SBox.below (SBox.below HS7.out hb8') (below_al w8 (.cells #[.slice A8 2 c8, .int .u64 p, .int .u64 q] 30))); have HF8 := Lib.hid (FBox.below' (FBox.below' HF7.out hb8') (below_al w8 (.cells #[.slice A8 2 c8, .int .u64 p, .int .u64 q] 30))); have HR8 := Lib.hid (((HR7.out.below hb8').more hb8'.size).allocS (.cells #[.slice A8 2 c8, .int .u64 p, .int .u64 q] 30)); have HB8 := Lib.hid ((HB7.out.trans (hb8'.mono HB7.out.size)).trans ((below_al w8 (.cells #[.slice A8 2 c8, .int .u64 p, .int .u64 q] 30)).mono (Nat.le_trans HB7.out.size hb8'.size))); clear m0 m1 m2 m3 m4 s0 s1 s2 t0 t1 t2 hr8 hb8 hb8' HA3; obtain ⟨m0, m1, m2, m3, m4⟩ := HF8.out.cells; obtain ⟨s0, s1, s2⟩ := HS8.out.cells))
      obtain ⟨b5, o5, rfl, hr5⟩ := rd_elem (l := [f]) (k := 0) HR8.out (by simp)
      rw [Nat.zero_mul, Nat.add_zero] at hr5
      have hr5' : (w8.alloc (.cells #[.slice A8 2 c8, .int .u64 p, .int .u64 q] 30)).rangeAt b5 o5 f.vals := hr5
      have HC := And.intro s0 (And.intro hr5' HF8.out.range)
      have hee := eql_fi f
      clear hr5 hr5' s0 s1 s2 m0 m1 m2 m3 m4
      refine region_wz (fun W => W.cell? ⟨w5.heap.size, 0, none⟩ = some (.slice (some ⟨b5, o5, none⟩) 1 c5) ∧ W.rangeAt b5 o5 f.vals ∧ W.rangeAt w.heap.size 0 f.vals) none (by kernel_rfl) ?_
      apply WZ.take (i := 0) (some 126) rfl rfl (by kernel_rfl) (by kernel_rfl) (by kernel_rfl) (calm_panic _) (by kernel_rfl)
      case hy => (refine .inl ⟨by kernel_rfl, fun W hC => ?_⟩; (try dsimp only at hC); go_simp; (try simp only [hee]); rfl)
      case hC => exact HC
      case ha => (simp only [Act.put, List.setIfInBounds_toArray, List.set_cons_zero, List.set_cons_succ]; rfl)
      apply WZ.take (i := 1) (some 127) rfl rfl (by kernel_rfl) (by kernel_rfl) (by kernel_rfl) (calm_panic _) (by kernel_rfl)
      case hy => (refine .inl ⟨by kernel_rfl, fun W hC => ?_⟩; (try dsimp only at hC); go_simp; (try simp only [hee]); rfl)
      case hC => exact HC
      case ha => (simp only [Act.put, List.setIfInBounds_toArray, List.set_cons_zero, List.set_cons_succ]; rfl)
      apply WZ.take (i := 2) (some 128) rfl rfl (by kernel_rfl) (by kernel_rfl) (by kernel_rfl) (calm_panic _) (by kernel_rfl)
      case hy => (refine .inl ⟨by kernel_rfl, fun W hC => ?_⟩; (try dsimp only at hC); go_simp; (try simp only [hee]); rfl)
      case hC => exact HC
      case ha => (simp only [Act.put, List.setIfInBounds_toArray, List.set_cons_zero, List.set_cons_succ]; rfl)
      apply WZ.take (i := 3) (some 129) rfl rfl (by kernel_rfl) (by kernel_rfl) (by kernel_rfl) (calm_panic _) (by kernel_rfl)
      case hy => (refine .inl ⟨by kernel_rfl, fun W hC => ?_⟩; (try dsimp only at hC); go_simp; (try simp only [hee]); rfl)
      case hC => exact HC
      case ha => (simp only [Act.put, List.setIfInBounds_toArray, List.set_cons_zero, List.set_cons_succ]; rfl)
      apply WZ.take (i := 4) (some 130) rfl rfl (by kernel_rfl) (by kernel_rfl) (by kernel_rfl) (calm_panic _) (by kernel_rfl)
      case hy => (refine .inl ⟨by kernel_rfl, fun W hC => ?_⟩; (try dsimp only at hC); go_simp; (try simp only [hee]); rfl)
      case hC => exact HC
      case ha => (simp only [Act.put, List.setIfInBounds_toArray, List.set_cons_zero, List.set_cons_succ]; rfl)
      apply WZ.take (i := 5) (some 131) rfl rfl (by kernel_rfl) (by kernel_rfl) (by kernel_rfl) (calm_panic _) (by kernel_rfl)
      case hy => (refine .inl ⟨by kernel_rfl, fun W hC => ?_⟩; (try dsimp only at hC); go_simp; (try simp only [hee]); rfl)
      case hC => exact HC
      case ha => (simp only [Act.put, List.setIfInBounds_toArray, List.set_cons_zero, List.set_cons_succ]; rfl)
      apply WZ.take (i := 6) (some 132) rfl rfl (by kernel_rfl) (by kernel_rfl) (by kernel_rfl) (calm_panic _) (by kernel_rfl)
      case hy => (refine .inl ⟨by kernel_rfl, fun W hC => ?_⟩; (try dsimp only at hC); go_simp; (try simp only [hee]); rfl)
      case hC => exact HC
      case ha => (simp only [Act.put, List.setIfInBounds_toArray, List.set_cons_zero, List.set_cons_succ]; rfl)
      apply WZ.take (i := 7) (some 133) rfl rfl (by kernel_rfl) (by kernel_rfl) (by kernel_rfl) (calm_panic _) (by kernel_rfl)
      case hy => (refine .inl ⟨by kernel_rfl, fun W hC => ?_⟩; (try dsimp only at hC); go_simp; (try simp only [hee]); rfl)
      case hC => exact HC
      case ha => (simp only [Act.put, List.setIfInBounds_toArray, List.set_cons_zero, List.set_cons_succ]; rfl)
      apply WZ.take (i := 8) (some 134) rfl rfl (by kernel_rfl) (by kernel_rfl) (by kernel_rfl) (calm_panic _) (by kernel_rfl)
      case hy => (refine .inl ⟨by kernel_rfl, fun W hC => ?_⟩; (try dsimp only at hC); go_simp; (try simp only [hee]); rfl)
      case hC => exact HC
      case ha => (simp only [Act.put, List.setIfInBounds_toArray, List.set_cons_zero, List.set_cons_succ]; rfl)
      apply WZ.take (i := 9) (some 135) rfl rfl (by kernel_rfl) (by kernel_rfl) (by kernel_rfl) (calm_panic _) (by kernel_rfl)
      case hy => (refine .inl ⟨by kernel_rfl, fun W hC => ?_⟩; (try dsimp only at hC); go_simp; (try simp only [hee]); rfl)
      case hC => exact HC
      case ha => (simp only [Act.put, List.setIfInBounds_toArray, List.set_cons_zero, List.set_cons_succ]; rfl)
      apply WZ.take (i := 10) (some 136) rfl rfl (by kernel_rfl) (by kernel_rfl) (by kernel_rfl) (calm_panic _) (by kernel_rfl)
      case hy => (refine .inl ⟨by kernel_rfl, fun W hC => ?_⟩; (try dsimp only at hC); go_simp; (try simp only [hee]); rfl)
      case hC => exact HC
      case ha => (simp only [Act.put, List.setIfInBounds_toArray, List.set_cons_zero, List.set_cons_succ]; rfl)
      apply WZ.take (i := 11) (some 137) rfl rfl (by kernel_rfl) (by kernel_rfl) (by kernel_rfl) (calm_panic _) (by kernel_rfl)
      case hy => (refine .inl ⟨by kernel_rfl, fun W hC => ?_⟩; (try dsimp only at hC); go_simp; (try simp only [hee]); rfl)
      case hC => exact HC
      case ha => (simp only [Act.put, List.setIfInBounds_toArray, List.set_cons_zero, List.set_cons_succ]; rfl)
      apply WZ.take (i := 12) (some 138) rfl rfl (by kernel_rfl) (by kernel_rfl) (by kernel_rfl) (calm_panic _) (by kernel_rfl)
      case hy => first | (apply yieldsIf_load_mid (by kernel_rfl) _ _ rfl _ _ rfl; (case hS => (intro W hC; exact (show World.rangeAt _ _ _ (Fi.vals _) from hC.1))); (case hu => exact Try.underlying23); (case hd => rfl); (case hi => kernel_rfl)) | (apply yieldsIf_load_mid (by kernel_rfl) _ _ rfl _ _ rfl; (case hS => (intro W hC; exact (show World.rangeAt _ _ _ (Fi.vals _) from hC.2.1))); (case hu => exact Try.underlying23); (case hd => rfl); (case hi => kernel_rfl)) | (apply yieldsIf_load_mid (by kernel_rfl) _ _ rfl _ _ rfl; (case hS => (intro W hC; exact (show World.rangeAt _ _ _ (Fi.vals _) from hC.2.2.1))); (case hu => exact Try.underlying23); (case hd => rfl); (case hi => kernel_rfl)) | (apply yieldsIf_load_mid (by kernel_rfl) _ _ rfl _ _ rfl; (case hS => (intro W hC; exact (show World.rangeAt _ _ _ (Fi.vals _) from hC.2.2.2.1))); (case hu => exact Try.underlying23); (case hd => rfl); (case hi => kernel_rfl)) | (apply yieldsIf_load_mid (by kernel_rfl) _ _ rfl _ _ rfl; (case hS => (intro W hC; exact (show World.rangeAt _ _ _ (Fi.vals _) from hC.2.2.2))); (case hu => exact Try.underlying23); (case hd => rfl); (case hi => kernel_rfl)) | (apply yieldsIf_load_mid (by kernel_rfl) _ _ rfl _ _ rfl; (case hS => (intro W hC; exact (show World.rangeAt _ _ _ (Fi.vals _) from hC.2.2))); (case hu => exact Try.underlying23); (case hd => rfl); (case hi => kernel_rfl)) | (apply yieldsIf_load_mid (by kernel_rfl) _ _ rfl _ _ rfl; (case hS => (intro W hC; exact (show World.rangeAt _ _ _ (Fi.vals _) from hC.2))); (case hu => exact Try.underlying23); (case hd => rfl); (case hi => kernel_rfl)) | (apply yieldsIf_load_mid (by kernel_rfl) _ _ rfl _ _ rfl; (case hS => (intro W hC; exact (show World.rangeAt _ _ _ (Fi.vals _) from hC))); (case hu => exact Try.underlying23); (case hd => rfl); (case hi => kernel_rfl))
      case hC => exact HC
      case ha => (simp only [Act.put, List.setIfInBounds_toArray, List.set_cons_zero, List.set_cons_succ]; rfl)
      apply WZ.take (i := 13) (some 139) rfl rfl (by kernel_rfl) (by kernel_rfl) (by kernel_rfl) (calm_panic _) (by kernel_rfl)
      case hy => first | (apply yieldsIf_load_mid (by kernel_rfl) _ _ rfl _ _ rfl; (case hS => (intro W hC; exact (show World.rangeAt _ _ _ (Fi.vals _) from hC.1))); (case hu => exact Try.underlying23); (case hd => rfl); (case hi => kernel_rfl)) | (apply yieldsIf_load_mid (by kernel_rfl) _ _ rfl _ _ rfl; (case hS => (intro W hC; exact (show World.rangeAt _ _ _ (Fi.vals _) from hC.2.1))); (case hu => exact Try.underlying23); (case hd => rfl); (case hi => kernel_rfl)) | (apply yieldsIf_load_mid (by kernel_rfl) _ _ rfl _ _ rfl; (case hS => (intro W hC; exact (show World.rangeAt _ _ _ (Fi.vals _) from hC.2.2.1))); (case hu => exact Try.underlying23); (case hd => rfl); (case hi => kernel_rfl)) | (apply yieldsIf_load_mid (by kernel_rfl) _ _ rfl _ _ rfl; (case hS => (intro W hC; exact (show World.rangeAt _ _ _ (Fi.vals _) from hC.2.2.2.1))); (case hu => exact Try.underlying23); (case hd => rfl); (case hi => kernel_rfl)) | (apply yieldsIf_load_mid (by kernel_rfl) _ _ rfl _ _ rfl; (case hS => (intro W hC; exact (show World.rangeAt _ _ _ (Fi.vals _) from hC.2.2.2))); (case hu => exact Try.underlying23); (case hd => rfl); (case hi => kernel_rfl)) | (apply yieldsIf_load_mid (by kernel_rfl) _ _ rfl _ _ rfl; (case hS => (intro W hC; exact (show World.rangeAt _ _ _ (Fi.vals _) from hC.2.2))); (case hu => exact Try.underlying23); (case hd => rfl); (case hi => kernel_rfl)) | (apply yieldsIf_load_mid (by kernel_rfl) _ _ rfl _ _ rfl; (case hS => (intro W hC; exact (show World.rangeAt _ _ _ (Fi.vals _) from hC.2))); (case hu => exact Try.underlying23); (case hd => rfl); (case hi => kernel_rfl)) | (apply yieldsIf_load_mid (by kernel_rfl) _ _ rfl _ _ rfl; (case hS => (intro W hC; exact (show World.rangeAt _ _ _ (Fi.vals _) from hC))); (case hu => exact Try.underlying23); (case hd => rfl); (case hi => kernel_rfl))
      case hC => exact HC
      case ha => (simp only [Act.put, List.setIfInBounds_toArray, List.set_cons_zero, List.set_cons_succ]; rfl)
      apply WZ.take (i := 14) (some 140) rfl rfl (by kernel_rfl) (by kernel_rfl) (by kernel_rfl) (calm_panic _) (by kernel_rfl)
      case hy => (refine .inl ⟨by kernel_rfl, fun W hC => ?_⟩; (try dsimp only at hC); go_simp; (try simp only [hee]); rfl)
      case hC => exact HC
      case ha => (simp only [Act.put, List.setIfInBounds_toArray, List.set_cons_zero, List.set_cons_succ]; rfl)
      apply WZ.take (i := 15) (some 141) rfl rfl (by kernel_rfl) (by kernel_rfl) (by kernel_rfl) (calm_panic _) (by kernel_rfl)
      case hy => (refine .inl ⟨by kernel_rfl, fun W hC => ?_⟩; (try dsimp only at hC); go_simp; (try simp only [hee]); rfl)
      case hC => exact HC
      case ha => (simp only [Act.put, List.setIfInBounds_toArray, List.set_cons_zero, List.set_cons_succ]; rfl)
      apply WZ.take (i := 16) (some 8) rfl rfl (by kernel_rfl) (by kernel_rfl) (by kernel_rfl) (calm_panic _) (by kernel_rfl)
      case hy => (refine .inl ⟨by kernel_rfl, fun W hC => ?_⟩; (try dsimp only at hC); go_simp; (try simp only [hee]); rfl)
      case hC => exact HC
      case ha => (simp only [Act.put, List.setIfInBounds_toArray, List.set_cons_zero, List.set_cons_succ]; rfl)
      refine WZ.done (by kernel_rfl) ?_ _
      simp only [Calm, Exit.then]
      go_wp2
      go_ret
      exact ⟨rfl, by first | exact HB8.out | exact HB8.out.drew⟩
end Go.Proofs.Ytaeemeoffnhgfaa
