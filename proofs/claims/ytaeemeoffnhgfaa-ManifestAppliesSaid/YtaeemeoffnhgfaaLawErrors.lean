/-
  The walk of the law ManifestErrors.
-/
import Derived.Test.YtaeemeoffnhgfaaBounded13
import Derived.Test.YtaeemeoffnhgfaaRegion
namespace Go.Proofs.Ytaeemeoffnhgfaa
open Go.RowKit
attribute [local go_sem ↓] Go.wp_at_zero Go.wp_at_succ

theorem boundedOne (f : Fi) (W : World) (g : Nat) (h : Rd W W.heap.size (some ⟨g, 0, none⟩) (fis [f])) : Calls Try.prog 9 #[.slice (some ⟨g, 0, none⟩) 1 1] W fun e w' => e = .returned (.bool (bndOne f)) ∧ W = w' := by
  have := bounded_any (some ⟨g, 0, none⟩) 1 1 [f] W h rfl (by omega)
  rw [show bndF [f] = bndOne f by simp [bndF]] at this
  exact this
set_option maxRecDepth 10000 in
set_option maxHeartbeats 4000000 in
theorem errors_wide (f : Fi) (name : ByteArray) (p q : Int) (w : World) (h : bndOne f = false ∨ 100 < name.size) :
    Calls Try.prog 4 #[f.agg, .string name, .int .u8 p, .int .u8 q] w fun e w' => e = .returned (.bool true) ∧ Below w.heap.size w w' := by
  have hbn := boundedOne f
  unfold Fi.agg
  obtain ⟨bq, hbq⟩ : ∃ b, bndOne f = b := ⟨_, rfl⟩
  rw [hbq] at h hbn
  have HBN := Lib.hid hbn
  clear hbn hbq
  cases bq with
  | false =>
    clear h
    go_enter Try.func4, Try.ntmps4
    go_wp2_with (first
      | (go_at_call 9; refine (HBN.out _ _ ?_).mono ?_; (exact rd_made f rfl (by simp only [World.size_alloc])); rintro e w1 ⟨rfl, rfl⟩)
      | (go_at_call 11; refine (shown_any _).mono ?_; rintro e w2 ⟨rfl, hb2⟩; obtain ⟨-, hb3⟩ := made_two hb2; have HB3 := Lib.hid hb3))
    go_ret
    exact ⟨rfl, HB3.out⟩
  | true =>
    have e1 : decide ((100 : Int) < (name.size : Int)) = true := decide_eq_true (by rcases h with h | h; (cases h); omega)
    clear h
    go_enter Try.func4, Try.ntmps4
    go_wp2_with (first
      | (go_at_call 9; refine (HBN.out _ _ ?_).mono ?_; (exact rd_made f rfl (by simp only [World.size_alloc])); rintro e w1 ⟨rfl, rfl⟩)
      | (go_at_call 11; refine (shown_any _).mono ?_; rintro e w2 ⟨rfl, hb2⟩; obtain ⟨-, hb3⟩ := made_two hb2; have HB3 := Lib.hid hb3))
    go_ret
    exact ⟨rfl, HB3.out⟩

def fA : Fi := ⟨1, ⟨#[111, 110, 101]⟩, ⟨#[99]⟩, ⟨#[109]⟩, 1⟩
theorem may_fA : may fA = true := by
  unfold may
  rw [lt_data]
  decide
theorem first_fA : applyF 0 0 5 5 [] [fA] [] = (0, [fA]) := by rw [applyF_ok (by intro x hx; rw [List.mem_singleton.1 hx]; exact may_fA) (by omega) (by omega), applyM_first]
theorem rd_text (w : World) (s : ByteArray) {g : Nat} (hg : w.heap.size = g) : Rd (w.alloc (.cells #[.string s] 9)) (w.alloc (.cells #[.string s] 9)).heap.size (some ⟨g, 0, none⟩) ([s].map Value.string) := by
  subst hg
  exact Rd.ofBlock (heap_alloc_new w _) rfl
set_option maxRecDepth 10000 in
set_option maxHeartbeats 4000000 in
theorem errors_arg (f : Fi) (name : ByteArray) (p q : Int) (w : World) (hb : bndOne f = true) (hn : name.size ≤ 100) (hp : 0 ≤ p ∧ p ≤ 255) (hq : 0 ≤ q ∧ q ≤ 255) (h : may f = false) :
    Calls Try.prog 4 #[f.agg, .string name, .int .u8 p, .int .u8 q] w fun e w' => e = .returned (.bool true) ∧ Below w.heap.size w w' := by
  have hrm2 : applyF 5 5 p q [fA] [f] [name] = (1, []) := applyF_bad (.inl ⟨f, List.mem_singleton.2 rfl, h⟩)
  have hbn := boundedOne f
  rw [hb] at hbn
  have hmy := fun W => may_any f W
  rw [h] at hmy
  have HA1 := Lib.hid (fun W g h2 => apply_put (cs := 0) (cd := 0) (g := g) (W := W) (n := 0) (nd := 0) (k := 1) (X := 5) (Y := 5) first_fA rfl rfl rfl Rd.nil h2 (Ad := none) Rd.nil (As := none) rfl rfl (by omega) (by omega) (fun x hx => by cases hx))
  have HA2 := Lib.hid (fun W g g' As cs h1 h2 h3 => apply_put (cs := cs) (cd := 1) (g := g) (W := W) (n := 1) (nd := 1) (k := 0) (X := 0) (Y := 0) hrm2 rfl rfl rfl h1 h2 (Ad := some ⟨g', 0, none⟩) h3 (As := As) rfl rfl (by omega) (by omega) (fun x hx => by rw [List.mem_singleton.1 hx]; decide))
  unfold Fi.agg at hmy ⊢
  have HBN := Lib.hid hbn
  have HMY := Lib.hid hmy
  clear hbn hmy hb h hrm2
  have e1 : decide ((100 : Int) < (name.size : Int)) = false := decide_eq_false (by omega)
  have hwp : IntKind.u64.wrap p = p := IntWalk.u64_in _ (by omega)
  have hwq : IntKind.u64.wrap q = q := IntWalk.u64_in _ (by omega)
  go_enter Try.func4, Try.ntmps4
  go_wp2_with (first
    | (go_at_call 9; refine (HBN.out _ _ ?_).mono ?_; (exact rd_made f rfl (by simp only [World.size_alloc])); rintro e w1 ⟨rfl, rfl⟩)
    | (go_at_call 11; refine (shown_any _).mono ?_; rintro e w2 ⟨rfl, hb2⟩; obtain ⟨hf2, hb3⟩ := made_two hb2; have HF2 := Lib.hid (show FBox 23 w2 w.heap.size f from hf2); have HB2 := Lib.hid hb3; clear hb2 hb3 hf2)
    | (go_at_call 12; refine (HA1.out _ _ ?_).mono ?_; (exact rd_made fA rfl (by simp only [World.size_alloc])); rintro e w3 ⟨A3, c3, rfl, hr3, hb3⟩; obtain ⟨-, hb3'⟩ := made_two hb3; have HR3 := Lib.hid hr3; have HF3 := Lib.hid (FBox.below' HF2.out hb3'); have HB3 := Lib.hid (HB2.out.trans (hb3'.mono HB2.out.size)); obtain ⟨m0, m1, m2, m3, m4⟩ := (FBox.below' HF3.out (below_al w3 (.cells #[.slice A3 1 c3, .int .u64 5, .int .u64 5] 30))).cells; clear hr3 hb3 hb3' HA1)
    | (go_at_call 12; refine (HA2.out _ _ _ _ _ ?_ ?_ ?_).mono ?_; (exact ((HR3.out.allocS _).allocS _).allocS _); (exact (rd_made f rfl (by simp only [World.size_alloc])).allocS _); (exact rd_text _ name (by simp only [World.size_alloc])); rintro e w5 ⟨A5, c5, rfl, hr5, hb5⟩; obtain ⟨-, hb5'⟩ := made_two hb5; obtain ⟨hs5, hb5''⟩ := made_one hb5'; have HS5 := Lib.hid (show SBox w5 w3.heap.size A3 1 c3 5 5 from hs5); have HR5 := Lib.hid hr5; have HF5 := Lib.hid (FBox.below' HF3.out hb5''); have HR35 := Lib.hid ((HR3.out.below hb5'').more hb5''.size); have HB5 := Lib.hid (HB3.out.trans (hb5''.mono HB3.out.size)); clear hr5 hb5 hb5' hb5'' hs5 m0 m1 m2 m3 m4 HA2; obtain ⟨m0, m1, m2, m3, m4⟩ := (FBox.below' HF5.out (below_al w5 (.cells #[.slice A5 0 c5, .int .u64 0, .int .u64 0] 30))).cells)
    | (go_at_call 10; refine (HMY.out _).mono ?_; rintro e w7 ⟨rfl, hb7⟩; obtain ⟨hs7, hb7'⟩ := made_one hb7; have HS7 := Lib.hid (show SBox w7 w5.heap.size A5 0 c5 0 0 from hs7); have HSA := Lib.hid (SBox.below HS5.out hb7'); have HF7 := Lib.hid (FBox.below' HF5.out hb7'); have HR7 := Lib.hid ((HR5.out.below hb7').more hb7'.size); have HR37 := Lib.hid ((HR35.out.below hb7').more hb7'.size); have HB7 := Lib.hid (HB5.out.trans (hb7'.mono HB5.out.size)); clear m0 m1 m2 m3 m4 hs7 hb7 hb7' HMY; obtain ⟨m0, m1, m2, m3, m4⟩ := HF7.out.cells; obtain ⟨s0, s1, s2⟩ := HS7.out.cells; obtain ⟨t0, t1, t2⟩ := HSA.out.cells)
    | (go_at_call 12; refine (HA3.out _ _ _ _ ?_ ?_).mono ?_; (exact HR37.out.allocS _); (exact rd_made f rfl (by first | rfl | simp only [World.size_alloc])); rintro e w8 ⟨A8, c8, rfl, hr8, hb8⟩; obtain ⟨-, hb8'⟩ := made_one hb8; have HS8 := Lib.hid (SBox.below (SBox.below HS7.out hb8') (below_al w8 (.cells #[.slice A8 0 c8, .int .u64 0, .int .u64 0] 30))); have HF8 := Lib.hid (FBox.below' (FBox.below' HF7.out hb8') (below_al w8 (.cells #[.slice A8 0 c8, .int .u64 0, .int .u64 0] 30))); have HR8 := Lib.hid (((HR7.out.below hb8').more hb8'.size).allocS (.cells #[.slice A8 0 c8, .int .u64 0, .int .u64 0] 30)); have HB8 := Lib.hid ((HB7.out.trans (hb8'.mono HB7.out.size)).trans ((below_al w8 (.cells #[.slice A8 0 c8, .int .u64 0, .int .u64 0] 30)).mono (Nat.le_trans HB7.out.size hb8'.size))); clear m0 m1 m2 m3 m4 s0 s1 s2 t0 t1 t2 hr8 hb8 hb8' HA3; obtain ⟨m0, m1, m2, m3, m4⟩ := HF8.out.cells; obtain ⟨s0, s1, s2⟩ := HS8.out.cells))
  go_ret
  exact ⟨rfl, HB7.out⟩
set_option maxRecDepth 10000 in
set_option maxHeartbeats 4000000 in
theorem errors_low (f : Fi) (name : ByteArray) (p q : Int) (w : World) (hb : bndOne f = true) (hn : name.size ≤ 100) (hp : 0 ≤ p ∧ p ≤ 255) (hq : 0 ≤ q ∧ q ≤ 255) (h : may f = true) (hl : p < 5 ∨ q < 5) :
    Calls Try.prog 4 #[f.agg, .string name, .int .u8 p, .int .u8 q] w fun e w' => e = .returned (.bool true) ∧ Below w.heap.size w w' := by
  have hrm2 : applyF 5 5 p q [fA] [f] [name] = (1, []) := applyF_bad (.inr hl)
  have hbn := boundedOne f
  rw [hb] at hbn
  have hmy := fun W => may_any f W
  rw [h] at hmy
  have HA1 := Lib.hid (fun W g h2 => apply_put (cs := 0) (cd := 0) (g := g) (W := W) (n := 0) (nd := 0) (k := 1) (X := 5) (Y := 5) first_fA rfl rfl rfl Rd.nil h2 (Ad := none) Rd.nil (As := none) rfl rfl (by omega) (by omega) (fun x hx => by cases hx))
  have HA2 := Lib.hid (fun W g g' As cs h1 h2 h3 => apply_put (cs := cs) (cd := 1) (g := g) (W := W) (n := 1) (nd := 1) (k := 0) (X := 0) (Y := 0) hrm2 rfl rfl rfl h1 h2 (Ad := some ⟨g', 0, none⟩) h3 (As := As) rfl rfl (by omega) (by omega) (fun x hx => by rw [List.mem_singleton.1 hx]; decide))
  unfold Fi.agg at hmy ⊢
  have HBN := Lib.hid hbn
  have HMY := Lib.hid hmy
  clear hbn hmy hb h hrm2
  have e1 : decide ((100 : Int) < (name.size : Int)) = false := decide_eq_false (by omega)
  have hwp : IntKind.u64.wrap p = p := IntWalk.u64_in _ (by omega)
  have hwq : IntKind.u64.wrap q = q := IntWalk.u64_in _ (by omega)
  by_cases hp5 : p < 5
  · have e2 : decide (p < 5) = true := decide_eq_true hp5
    go_enter Try.func4, Try.ntmps4
    go_wp2_with (first
      | (go_at_call 9; refine (HBN.out _ _ ?_).mono ?_; (exact rd_made f rfl (by simp only [World.size_alloc])); rintro e w1 ⟨rfl, rfl⟩)
      | (go_at_call 11; refine (shown_any _).mono ?_; rintro e w2 ⟨rfl, hb2⟩; obtain ⟨hf2, hb3⟩ := made_two hb2; have HF2 := Lib.hid (show FBox 23 w2 w.heap.size f from hf2); have HB2 := Lib.hid hb3; clear hb2 hb3 hf2)
      | (go_at_call 12; refine (HA1.out _ _ ?_).mono ?_; (exact rd_made fA rfl (by simp only [World.size_alloc])); rintro e w3 ⟨A3, c3, rfl, hr3, hb3⟩; obtain ⟨-, hb3'⟩ := made_two hb3; have HR3 := Lib.hid hr3; have HF3 := Lib.hid (FBox.below' HF2.out hb3'); have HB3 := Lib.hid (HB2.out.trans (hb3'.mono HB2.out.size)); obtain ⟨m0, m1, m2, m3, m4⟩ := (FBox.below' HF3.out (below_al w3 (.cells #[.slice A3 1 c3, .int .u64 5, .int .u64 5] 30))).cells; clear hr3 hb3 hb3' HA1)
      | (go_at_call 12; refine (HA2.out _ _ _ _ _ ?_ ?_ ?_).mono ?_; (exact ((HR3.out.allocS _).allocS _).allocS _); (exact (rd_made f rfl (by simp only [World.size_alloc])).allocS _); (exact rd_text _ name (by simp only [World.size_alloc])); rintro e w5 ⟨A5, c5, rfl, hr5, hb5⟩; obtain ⟨-, hb5'⟩ := made_two hb5; obtain ⟨hs5, hb5''⟩ := made_one hb5'; have HS5 := Lib.hid (show SBox w5 w3.heap.size A3 1 c3 5 5 from hs5); have HR5 := Lib.hid hr5; have HF5 := Lib.hid (FBox.below' HF3.out hb5''); have HR35 := Lib.hid ((HR3.out.below hb5'').more hb5''.size); have HB5 := Lib.hid (HB3.out.trans (hb5''.mono HB3.out.size)); clear hr5 hb5 hb5' hb5'' hs5 m0 m1 m2 m3 m4 HA2; obtain ⟨m0, m1, m2, m3, m4⟩ := (FBox.below' HF5.out (below_al w5 (.cells #[.slice A5 0 c5, .int .u64 0, .int .u64 0] 30))).cells)
      | (go_at_call 10; refine (HMY.out _).mono ?_; rintro e w7 ⟨rfl, hb7⟩; obtain ⟨hs7, hb7'⟩ := made_one hb7; have HS7 := Lib.hid (show SBox w7 w5.heap.size A5 0 c5 0 0 from hs7); have HSA := Lib.hid (SBox.below HS5.out hb7'); have HF7 := Lib.hid (FBox.below' HF5.out hb7'); have HR7 := Lib.hid ((HR5.out.below hb7').more hb7'.size); have HR37 := Lib.hid ((HR35.out.below hb7').more hb7'.size); have HB7 := Lib.hid (HB5.out.trans (hb7'.mono HB5.out.size)); clear m0 m1 m2 m3 m4 hs7 hb7 hb7' HMY; obtain ⟨m0, m1, m2, m3, m4⟩ := HF7.out.cells; obtain ⟨s0, s1, s2⟩ := HS7.out.cells; obtain ⟨t0, t1, t2⟩ := HSA.out.cells)
      | (go_at_call 12; refine (HA3.out _ _ _ _ ?_ ?_).mono ?_; (exact HR37.out.allocS _); (exact rd_made f rfl (by first | rfl | simp only [World.size_alloc])); rintro e w8 ⟨A8, c8, rfl, hr8, hb8⟩; obtain ⟨-, hb8'⟩ := made_one hb8; have HS8 := Lib.hid (SBox.below (SBox.below HS7.out hb8') (below_al w8 (.cells #[.slice A8 0 c8, .int .u64 0, .int .u64 0] 30))); have HF8 := Lib.hid (FBox.below' (FBox.below' HF7.out hb8') (below_al w8 (.cells #[.slice A8 0 c8, .int .u64 0, .int .u64 0] 30))); have HR8 := Lib.hid (((HR7.out.below hb8').more hb8'.size).allocS (.cells #[.slice A8 0 c8, .int .u64 0, .int .u64 0] 30)); have HB8 := Lib.hid ((HB7.out.trans (hb8'.mono HB7.out.size)).trans ((below_al w8 (.cells #[.slice A8 0 c8, .int .u64 0, .int .u64 0] 30)).mono (Nat.le_trans HB7.out.size hb8'.size))); clear m0 m1 m2 m3 m4 s0 s1 s2 t0 t1 t2 hr8 hb8 hb8' HA3; obtain ⟨m0, m1, m2, m3, m4⟩ := HF8.out.cells; obtain ⟨s0, s1, s2⟩ := HS8.out.cells))
    go_ret
    exact ⟨rfl, HB7.out⟩
  · have e2 : decide (p < 5) = false := decide_eq_false hp5
    have e3 : decide (q < 5) = true := decide_eq_true (by omega)
    go_enter Try.func4, Try.ntmps4
    go_wp2_with (first
      | (go_at_call 9; refine (HBN.out _ _ ?_).mono ?_; (exact rd_made f rfl (by simp only [World.size_alloc])); rintro e w1 ⟨rfl, rfl⟩)
      | (go_at_call 11; refine (shown_any _).mono ?_; rintro e w2 ⟨rfl, hb2⟩; obtain ⟨hf2, hb3⟩ := made_two hb2; have HF2 := Lib.hid (show FBox 23 w2 w.heap.size f from hf2); have HB2 := Lib.hid hb3; clear hb2 hb3 hf2)
      | (go_at_call 12; refine (HA1.out _ _ ?_).mono ?_; (exact rd_made fA rfl (by simp only [World.size_alloc])); rintro e w3 ⟨A3, c3, rfl, hr3, hb3⟩; obtain ⟨-, hb3'⟩ := made_two hb3; have HR3 := Lib.hid hr3; have HF3 := Lib.hid (FBox.below' HF2.out hb3'); have HB3 := Lib.hid (HB2.out.trans (hb3'.mono HB2.out.size)); obtain ⟨m0, m1, m2, m3, m4⟩ := (FBox.below' HF3.out (below_al w3 (.cells #[.slice A3 1 c3, .int .u64 5, .int .u64 5] 30))).cells; clear hr3 hb3 hb3' HA1)
      | (go_at_call 12; refine (HA2.out _ _ _ _ _ ?_ ?_ ?_).mono ?_; (exact ((HR3.out.allocS _).allocS _).allocS _); (exact (rd_made f rfl (by simp only [World.size_alloc])).allocS _); (exact rd_text _ name (by simp only [World.size_alloc])); rintro e w5 ⟨A5, c5, rfl, hr5, hb5⟩; obtain ⟨-, hb5'⟩ := made_two hb5; obtain ⟨hs5, hb5''⟩ := made_one hb5'; have HS5 := Lib.hid (show SBox w5 w3.heap.size A3 1 c3 5 5 from hs5); have HR5 := Lib.hid hr5; have HF5 := Lib.hid (FBox.below' HF3.out hb5''); have HR35 := Lib.hid ((HR3.out.below hb5'').more hb5''.size); have HB5 := Lib.hid (HB3.out.trans (hb5''.mono HB3.out.size)); clear hr5 hb5 hb5' hb5'' hs5 m0 m1 m2 m3 m4 HA2; obtain ⟨m0, m1, m2, m3, m4⟩ := (FBox.below' HF5.out (below_al w5 (.cells #[.slice A5 0 c5, .int .u64 0, .int .u64 0] 30))).cells)
      | (go_at_call 10; refine (HMY.out _).mono ?_; rintro e w7 ⟨rfl, hb7⟩; obtain ⟨hs7, hb7'⟩ := made_one hb7; have HS7 := Lib.hid (show SBox w7 w5.heap.size A5 0 c5 0 0 from hs7); have HSA := Lib.hid (SBox.below HS5.out hb7'); have HF7 := Lib.hid (FBox.below' HF5.out hb7'); have HR7 := Lib.hid ((HR5.out.below hb7').more hb7'.size); have HR37 := Lib.hid ((HR35.out.below hb7').more hb7'.size); have HB7 := Lib.hid (HB5.out.trans (hb7'.mono HB5.out.size)); clear m0 m1 m2 m3 m4 hs7 hb7 hb7' HMY; obtain ⟨m0, m1, m2, m3, m4⟩ := HF7.out.cells; obtain ⟨s0, s1, s2⟩ := HS7.out.cells; obtain ⟨t0, t1, t2⟩ := HSA.out.cells)
      | (go_at_call 12; refine (HA3.out _ _ _ _ ?_ ?_).mono ?_; (exact HR37.out.allocS _); (exact rd_made f rfl (by first | rfl | simp only [World.size_alloc])); rintro e w8 ⟨A8, c8, rfl, hr8, hb8⟩; obtain ⟨-, hb8'⟩ := made_one hb8; have HS8 := Lib.hid (SBox.below (SBox.below HS7.out hb8') (below_al w8 (.cells #[.slice A8 0 c8, .int .u64 0, .int .u64 0] 30))); have HF8 := Lib.hid (FBox.below' (FBox.below' HF7.out hb8') (below_al w8 (.cells #[.slice A8 0 c8, .int .u64 0, .int .u64 0] 30))); have HR8 := Lib.hid (((HR7.out.below hb8').more hb8'.size).allocS (.cells #[.slice A8 0 c8, .int .u64 0, .int .u64 0] 30)); have HB8 := Lib.hid ((HB7.out.trans (hb8'.mono HB7.out.size)).trans ((below_al w8 (.cells #[.slice A8 0 c8, .int .u64 0, .int .u64 0] 30)).mono (Nat.le_trans HB7.out.size hb8'.size))); clear m0 m1 m2 m3 m4 s0 s1 s2 t0 t1 t2 hr8 hb8 hb8' HA3; obtain ⟨m0, m1, m2, m3, m4⟩ := HF8.out.cells; obtain ⟨s0, s1, s2⟩ := HS8.out.cells))
    go_ret
    exact ⟨rfl, HB7.out⟩
theorem may_list {f : Fi} (h : may f = true) : ∀ x ∈ [f], may x = true := fun x hx => by rw [List.mem_singleton.1 hx]; exact h
theorem is_one (s : ByteArray) : (s.toList == [111, 110, 101]) = decide (fA.name = s) := by
  have h1 : fA.name.toList = [111, 110, 101] := by rw [ByteArray.toList_eq]; rfl
  by_cases h : fA.name = s
  · rw [decide_eq_true h, ← h, h1]; rfl
  · rw [decide_eq_false h, beq_eq_false_iff_ne]
    exact fun k => h (toList_inj (by rw [h1, k]))
set_option maxRecDepth 10000 in
set_option maxHeartbeats 4000000 in
theorem errors_none (f : Fi) (name : ByteArray) (p q : Int) (w : World) (hb : bndOne f = true) (hn : name.size ≤ 100) (hp : 0 ≤ p ∧ p ≤ 255) (hq : 0 ≤ q ∧ q ≤ 255) (h : may f = true) (hl : 5 ≤ p ∧ 5 ≤ q) (hne : fA.name ≠ name) :
    Calls Try.prog 4 #[f.agg, .string name, .int .u8 p, .int .u8 q] w fun e w' => e = .returned (.bool true) ∧ Below w.heap.size w w' := by
  have hrm2 : applyF 5 5 p q [fA] [f] [name] = (3, []) := by rw [applyF_ok (may_list h) hl.1 hl.2, applyM_gone _ _ _ hne]
  have hbn := boundedOne f
  rw [hb] at hbn
  have hmy := fun W => may_any f W
  rw [h] at hmy
  have HA1 := Lib.hid (fun W g h2 => apply_put (cs := 0) (cd := 0) (g := g) (W := W) (n := 0) (nd := 0) (k := 1) (X := 5) (Y := 5) first_fA rfl rfl rfl Rd.nil h2 (Ad := none) Rd.nil (As := none) rfl rfl (by omega) (by omega) (fun x hx => by cases hx))
  have HA2 := Lib.hid (fun W g g' As cs h1 h2 h3 => apply_put (cs := cs) (cd := 1) (g := g) (W := W) (n := 1) (nd := 1) (k := 0) (X := 0) (Y := 0) hrm2 rfl rfl rfl h1 h2 (Ad := some ⟨g', 0, none⟩) h3 (As := As) rfl rfl (by omega) (by omega) (fun x hx => by rw [List.mem_singleton.1 hx]; decide))
  unfold Fi.agg at hmy ⊢
  have HBN := Lib.hid hbn
  have HMY := Lib.hid hmy
  clear hbn hmy hb h hrm2
  have e1 : decide ((100 : Int) < (name.size : Int)) = false := decide_eq_false (by omega)
  have hwp : IntKind.u64.wrap p = p := IntWalk.u64_in _ (by omega)
  have hwq : IntKind.u64.wrap q = q := IntWalk.u64_in _ (by omega)
  have e2 : decide (p < 5) = false := decide_eq_false (by omega)
  have e3 : decide (q < 5) = false := decide_eq_false (by omega)
  have e4 := is_one name
  rw [decide_eq_false hne] at e4
  clear hne
  go_enter Try.func4, Try.ntmps4
  go_wp2_with (first
    | (go_at_call 9; refine (HBN.out _ _ ?_).mono ?_; (exact rd_made f rfl (by simp only [World.size_alloc])); rintro e w1 ⟨rfl, rfl⟩)
    | (go_at_call 11; refine (shown_any _).mono ?_; rintro e w2 ⟨rfl, hb2⟩; obtain ⟨hf2, hb3⟩ := made_two hb2; have HF2 := Lib.hid (show FBox 23 w2 w.heap.size f from hf2); have HB2 := Lib.hid hb3; clear hb2 hb3 hf2)
    | (go_at_call 12; refine (HA1.out _ _ ?_).mono ?_; (exact rd_made fA rfl (by simp only [World.size_alloc])); rintro e w3 ⟨A3, c3, rfl, hr3, hb3⟩; obtain ⟨-, hb3'⟩ := made_two hb3; have HR3 := Lib.hid hr3; have HF3 := Lib.hid (FBox.below' HF2.out hb3'); have HB3 := Lib.hid (HB2.out.trans (hb3'.mono HB2.out.size)); obtain ⟨m0, m1, m2, m3, m4⟩ := (FBox.below' HF3.out (below_al w3 (.cells #[.slice A3 1 c3, .int .u64 5, .int .u64 5] 30))).cells; clear hr3 hb3 hb3' HA1)
    | (go_at_call 12; refine (HA2.out _ _ _ _ _ ?_ ?_ ?_).mono ?_; (exact ((HR3.out.allocS _).allocS _).allocS _); (exact (rd_made f rfl (by simp only [World.size_alloc])).allocS _); (exact rd_text _ name (by simp only [World.size_alloc])); rintro e w5 ⟨A5, c5, rfl, hr5, hb5⟩; obtain ⟨-, hb5'⟩ := made_two hb5; obtain ⟨hs5, hb5''⟩ := made_one hb5'; have HS5 := Lib.hid (show SBox w5 w3.heap.size A3 1 c3 5 5 from hs5); have HR5 := Lib.hid hr5; have HF5 := Lib.hid (FBox.below' HF3.out hb5''); have HR35 := Lib.hid ((HR3.out.below hb5'').more hb5''.size); have HB5 := Lib.hid (HB3.out.trans (hb5''.mono HB3.out.size)); clear hr5 hb5 hb5' hb5'' hs5 m0 m1 m2 m3 m4 HA2; obtain ⟨m0, m1, m2, m3, m4⟩ := (FBox.below' HF5.out (below_al w5 (.cells #[.slice A5 0 c5, .int .u64 0, .int .u64 0] 30))).cells)
    | (go_at_call 10; refine (HMY.out _).mono ?_; rintro e w7 ⟨rfl, hb7⟩; obtain ⟨hs7, hb7'⟩ := made_one hb7; have HS7 := Lib.hid (show SBox w7 w5.heap.size A5 0 c5 0 0 from hs7); have HSA := Lib.hid (SBox.below HS5.out hb7'); have HF7 := Lib.hid (FBox.below' HF5.out hb7'); have HR7 := Lib.hid ((HR5.out.below hb7').more hb7'.size); have HR37 := Lib.hid ((HR35.out.below hb7').more hb7'.size); have HB7 := Lib.hid (HB5.out.trans (hb7'.mono HB5.out.size)); clear m0 m1 m2 m3 m4 hs7 hb7 hb7' HMY; obtain ⟨m0, m1, m2, m3, m4⟩ := HF7.out.cells; obtain ⟨s0, s1, s2⟩ := HS7.out.cells; obtain ⟨t0, t1, t2⟩ := HSA.out.cells)
    | (go_at_call 12; refine (HA3.out _ _ _ _ ?_ ?_).mono ?_; (exact HR37.out.allocS _); (exact rd_made f rfl (by first | rfl | simp only [World.size_alloc])); rintro e w8 ⟨A8, c8, rfl, hr8, hb8⟩; obtain ⟨-, hb8'⟩ := made_one hb8; have HS8 := Lib.hid (SBox.below (SBox.below HS7.out hb8') (below_al w8 (.cells #[.slice A8 0 c8, .int .u64 0, .int .u64 0] 30))); have HF8 := Lib.hid (FBox.below' (FBox.below' HF7.out hb8') (below_al w8 (.cells #[.slice A8 0 c8, .int .u64 0, .int .u64 0] 30))); have HR8 := Lib.hid (((HR7.out.below hb8').more hb8'.size).allocS (.cells #[.slice A8 0 c8, .int .u64 0, .int .u64 0] 30)); have HB8 := Lib.hid ((HB7.out.trans (hb8'.mono HB7.out.size)).trans ((below_al w8 (.cells #[.slice A8 0 c8, .int .u64 0, .int .u64 0] 30)).mono (Nat.le_trans HB7.out.size hb8'.size))); clear m0 m1 m2 m3 m4 s0 s1 s2 t0 t1 t2 hr8 hb8 hb8' HA3; obtain ⟨m0, m1, m2, m3, m4⟩ := HF8.out.cells; obtain ⟨s0, s1, s2⟩ := HS8.out.cells))
  go_ret
  exact ⟨rfl, HB7.out⟩
set_option maxRecDepth 10000 in
set_option maxHeartbeats 4000000 in
theorem errors_twice (f : Fi) (name : ByteArray) (p q : Int) (w : World) (hb : bndOne f = true) (hn : name.size ≤ 100) (hp : 0 ≤ p ∧ p ≤ 255) (hq : 0 ≤ q ∧ q ≤ 255) (h : may f = true) (hl : 5 ≤ p ∧ 5 ≤ q) (hne : fA.name = name) (hf : fA.name = f.name) :
    Calls Try.prog 4 #[f.agg, .string name, .int .u8 p, .int .u8 q] w fun e w' => e = .returned (.bool true) ∧ Below w.heap.size w w' := by
  have hrm3 : applyF 5 5 p q [fA] [f] [] = (4, []) := by rw [applyF_ok (may_list h) hl.1 hl.2, applyM_same _ _ hf]
  have hk3 : ([] : List Fi).length = 0 := rfl
  have hrm2 : applyF 5 5 p q [fA] [f] [name] = (0, [f]) := by rw [applyF_ok (may_list h) hl.1 hl.2, applyM_swap _ _ _ hne]
  have hx3 : (if (0 : Int) = 0 then p else 0) = p := if_pos rfl
  have HA3 := Lib.hid (fun W g As cs h1 h2 => apply_put (cs := cs) (cd := 0) (g := g) (W := W) (n := 1) (nd := 0) (k := 0) (X := 0) (Y := 0) hrm3 rfl rfl hk3 h1 h2 (Ad := none) Rd.nil (As := As) rfl rfl (by omega) (by omega) (fun x hx => by rw [List.mem_singleton.1 hx]; decide))
  have hbn := boundedOne f
  rw [hb] at hbn
  have hmy := fun W => may_any f W
  rw [h] at hmy
  have HA1 := Lib.hid (fun W g h2 => apply_put (cs := 0) (cd := 0) (g := g) (W := W) (n := 0) (nd := 0) (k := 1) (X := 5) (Y := 5) first_fA rfl rfl rfl Rd.nil h2 (Ad := none) Rd.nil (As := none) rfl rfl (by omega) (by omega) (fun x hx => by cases hx))
  have HA2 := Lib.hid (fun W g g' As cs h1 h2 h3 => apply_put (cs := cs) (cd := 1) (g := g) (W := W) (n := 1) (nd := 1) (k := 1) (X := p) (Y := q) hrm2 rfl rfl rfl h1 h2 (Ad := some ⟨g', 0, none⟩) h3 (As := As) rfl rfl (by omega) (by omega) (fun x hx => by rw [List.mem_singleton.1 hx]; decide))
  unfold Fi.agg at hmy ⊢
  have HBN := Lib.hid hbn
  have HMY := Lib.hid hmy
  clear hbn hmy hb h hrm2
  have e1 : decide ((100 : Int) < (name.size : Int)) = false := decide_eq_false (by omega)
  have hwp : IntKind.u64.wrap p = p := IntWalk.u64_in _ (by omega)
  have hwq : IntKind.u64.wrap q = q := IntWalk.u64_in _ (by omega)
  have e2 : decide (p < 5) = false := decide_eq_false (by omega)
  have e3 : decide (q < 5) = false := decide_eq_false (by omega)
  have e4 := is_one name
  rw [decide_eq_true hne] at e4
  have e5 := is_one f.name
  rw [decide_eq_true hf] at e5
  clear hne hf hx3 hrm3 hk3
  go_enter Try.func4, Try.ntmps4
  go_wp2_with (first
    | (go_at_call 9; refine (HBN.out _ _ ?_).mono ?_; (exact rd_made f rfl (by simp only [World.size_alloc])); rintro e w1 ⟨rfl, rfl⟩)
    | (go_at_call 11; refine (shown_any _).mono ?_; rintro e w2 ⟨rfl, hb2⟩; obtain ⟨hf2, hb3⟩ := made_two hb2; have HF2 := Lib.hid (show FBox 23 w2 w.heap.size f from hf2); have HB2 := Lib.hid hb3; clear hb2 hb3 hf2)
    | (go_at_call 12; refine (HA1.out _ _ ?_).mono ?_; (exact rd_made fA rfl (by simp only [World.size_alloc])); rintro e w3 ⟨A3, c3, rfl, hr3, hb3⟩; obtain ⟨-, hb3'⟩ := made_two hb3; have HR3 := Lib.hid hr3; have HF3 := Lib.hid (FBox.below' HF2.out hb3'); have HB3 := Lib.hid (HB2.out.trans (hb3'.mono HB2.out.size)); obtain ⟨m0, m1, m2, m3, m4⟩ := (FBox.below' HF3.out (below_al w3 (.cells #[.slice A3 1 c3, .int .u64 5, .int .u64 5] 30))).cells; clear hr3 hb3 hb3' HA1)
    | (go_at_call 12; refine (HA2.out _ _ _ _ _ ?_ ?_ ?_).mono ?_; (exact ((HR3.out.allocS _).allocS _).allocS _); (exact (rd_made f rfl (by simp only [World.size_alloc])).allocS _); (exact rd_text _ name (by simp only [World.size_alloc])); rintro e w5 ⟨A5, c5, rfl, hr5, hb5⟩; obtain ⟨-, hb5'⟩ := made_two hb5; obtain ⟨hs5, hb5''⟩ := made_one hb5'; have HS5 := Lib.hid (show SBox w5 w3.heap.size A3 1 c3 5 5 from hs5); have HR5 := Lib.hid hr5; have HF5 := Lib.hid (FBox.below' HF3.out hb5''); have HR35 := Lib.hid ((HR3.out.below hb5'').more hb5''.size); have HB5 := Lib.hid (HB3.out.trans (hb5''.mono HB3.out.size)); clear hr5 hb5 hb5' hb5'' hs5 m0 m1 m2 m3 m4 HA2; obtain ⟨m0, m1, m2, m3, m4⟩ := (FBox.below' HF5.out (below_al w5 (.cells #[.slice A5 1 c5, .int .u64 p, .int .u64 q] 30))).cells)
    | (go_at_call 10; refine (HMY.out _).mono ?_; rintro e w7 ⟨rfl, hb7⟩; obtain ⟨hs7, hb7'⟩ := made_one hb7; have HS7 := Lib.hid (show SBox w7 w5.heap.size A5 1 c5 p q from hs7); have HSA := Lib.hid (SBox.below HS5.out hb7'); have HF7 := Lib.hid (FBox.below' HF5.out hb7'); have HR7 := Lib.hid ((HR5.out.below hb7').more hb7'.size); have HR37 := Lib.hid ((HR35.out.below hb7').more hb7'.size); have HB7 := Lib.hid (HB5.out.trans (hb7'.mono HB5.out.size)); clear m0 m1 m2 m3 m4 hs7 hb7 hb7' HMY; obtain ⟨m0, m1, m2, m3, m4⟩ := HF7.out.cells; obtain ⟨s0, s1, s2⟩ := HS7.out.cells; obtain ⟨t0, t1, t2⟩ := HSA.out.cells)
    | (go_at_call 12; refine (HA3.out _ _ _ _ ?_ ?_).mono ?_; (exact HR37.out.allocS _); (exact rd_made f rfl (by first | rfl | simp only [World.size_alloc])); rintro e w8 ⟨A8, c8, rfl, hr8, hb8⟩; obtain ⟨-, hb8'⟩ := made_one hb8; have HS8 := Lib.hid (SBox.below (SBox.below HS7.out hb8') (below_al w8 (.cells #[.slice A8 0 c8, .int .u64 0, .int .u64 0] 30))); have HF8 := Lib.hid (FBox.below' (FBox.below' HF7.out hb8') (below_al w8 (.cells #[.slice A8 0 c8, .int .u64 0, .int .u64 0] 30))); have HR8 := Lib.hid (((HR7.out.below hb8').more hb8'.size).allocS (.cells #[.slice A8 0 c8, .int .u64 0, .int .u64 0] 30)); have HB8 := Lib.hid ((HB7.out.trans (hb8'.mono HB7.out.size)).trans ((below_al w8 (.cells #[.slice A8 0 c8, .int .u64 0, .int .u64 0] 30)).mono (Nat.le_trans HB7.out.size hb8'.size))); clear m0 m1 m2 m3 m4 s0 s1 s2 t0 t1 t2 hr8 hb8 hb8' HA3; obtain ⟨m0, m1, m2, m3, m4⟩ := HF8.out.cells; obtain ⟨s0, s1, s2⟩ := HS8.out.cells))
  all_goals go_ret
  all_goals exact ⟨rfl, HB8.out⟩
theorem low_m (s : ByteArray) : (Op.bytesLess s.toList [109] || s.toList == [109]) = !lt fA.high s := by
  have h1 : fA.high.toList = [109] := by rw [ByteArray.toList_eq]; rfl
  rw [← leq_list, h1]
theorem high_c (s : ByteArray) : Op.bytesLess s.toList [99] = lt s fA.low := by
  have h1 : fA.low.toList = [99] := by rw [ByteArray.toList_eq]; rfl
  show _ = Op.bytesLess s.toList fA.low.toList
  rw [h1]
theorem clash_fA (f : Fi) : clash fA f = ((f.level == 1) && (!lt f.high fA.low && !lt fA.high f.low)) := by
  have e : decide ((1 : Int) = f.level) = (f.level == 1) := by
    by_cases h : f.level = 1
    · rw [h]; rfl
    · rw [decide_eq_false (Ne.symm h), beq_eq_false_iff_ne.2 h]
  show (decide ((0 : Int) < 1) && decide ((1 : Int) = f.level) && meets fA f.low f.high) = _
  rw [e]
  rfl
set_option maxRecDepth 10000 in
set_option maxHeartbeats 4000000 in
theorem errors_meet (f : Fi) (name : ByteArray) (p q : Int) (w : World) (hb : bndOne f = true) (hn : name.size ≤ 100) (hp : 0 ≤ p ∧ p ≤ 255) (hq : 0 ≤ q ∧ q ≤ 255) (h : may f = true) (hl : 5 ≤ p ∧ 5 ≤ q) (hne : fA.name = name) (hf : fA.name ≠ f.name) (hc : clash fA f = true) :
    Calls Try.prog 4 #[f.agg, .string name, .int .u8 p, .int .u8 q] w fun e w' => e = .returned (.bool true) ∧ Below w.heap.size w w' := by
  have hrm3 : applyF 5 5 p q [fA] [f] [] = (40, []) := by rw [applyF_ok (may_list h) hl.1 hl.2, applyM_meet _ _ hf hc]
  have hk3 : ([] : List Fi).length = 0 := rfl
  have hrm2 : applyF 5 5 p q [fA] [f] [name] = (0, [f]) := by rw [applyF_ok (may_list h) hl.1 hl.2, applyM_swap _ _ _ hne]
  have hx3 : (if (0 : Int) = 0 then p else 0) = p := if_pos rfl
  have HA3 := Lib.hid (fun W g As cs h1 h2 => apply_put (cs := cs) (cd := 0) (g := g) (W := W) (n := 1) (nd := 0) (k := 0) (X := 0) (Y := 0) hrm3 rfl rfl hk3 h1 h2 (Ad := none) Rd.nil (As := As) rfl rfl (by omega) (by omega) (fun x hx => by rw [List.mem_singleton.1 hx]; decide))
  have hbn := boundedOne f
  rw [hb] at hbn
  have hmy := fun W => may_any f W
  rw [h] at hmy
  have HA1 := Lib.hid (fun W g h2 => apply_put (cs := 0) (cd := 0) (g := g) (W := W) (n := 0) (nd := 0) (k := 1) (X := 5) (Y := 5) first_fA rfl rfl rfl Rd.nil h2 (Ad := none) Rd.nil (As := none) rfl rfl (by omega) (by omega) (fun x hx => by cases hx))
  have HA2 := Lib.hid (fun W g g' As cs h1 h2 h3 => apply_put (cs := cs) (cd := 1) (g := g) (W := W) (n := 1) (nd := 1) (k := 1) (X := p) (Y := q) hrm2 rfl rfl rfl h1 h2 (Ad := some ⟨g', 0, none⟩) h3 (As := As) rfl rfl (by omega) (by omega) (fun x hx => by rw [List.mem_singleton.1 hx]; decide))
  unfold Fi.agg at hmy ⊢
  have HBN := Lib.hid hbn
  have HMY := Lib.hid hmy
  clear hbn hmy hb h hrm2
  have e1 : decide ((100 : Int) < (name.size : Int)) = false := decide_eq_false (by omega)
  have hwp : IntKind.u64.wrap p = p := IntWalk.u64_in _ (by omega)
  have hwq : IntKind.u64.wrap q = q := IntWalk.u64_in _ (by omega)
  have e2 : decide (p < 5) = false := decide_eq_false (by omega)
  have e3 : decide (q < 5) = false := decide_eq_false (by omega)
  have e4 := is_one name
  rw [decide_eq_true hne] at e4
  have e5 := is_one f.name
  rw [decide_eq_false hf] at e5
  rw [clash_fA] at hc
  simp only [Bool.and_eq_true] at hc
  obtain ⟨e8, h6, h7⟩ := hc
  have e6 := low_m f.low
  rw [h7] at e6
  have e7 := high_c f.high
  rw [(Bool.not_eq_true' _).mp h6] at e7
  clear hne hf hx3 hrm3 hk3 h6 h7
  go_enter Try.func4, Try.ntmps4
  go_wp2_with (first
    | (go_at_call 9; refine (HBN.out _ _ ?_).mono ?_; (exact rd_made f rfl (by simp only [World.size_alloc])); rintro e w1 ⟨rfl, rfl⟩)
    | (go_at_call 11; refine (shown_any _).mono ?_; rintro e w2 ⟨rfl, hb2⟩; obtain ⟨hf2, hb3⟩ := made_two hb2; have HF2 := Lib.hid (show FBox 23 w2 w.heap.size f from hf2); have HB2 := Lib.hid hb3; clear hb2 hb3 hf2)
    | (go_at_call 12; refine (HA1.out _ _ ?_).mono ?_; (exact rd_made fA rfl (by simp only [World.size_alloc])); rintro e w3 ⟨A3, c3, rfl, hr3, hb3⟩; obtain ⟨-, hb3'⟩ := made_two hb3; have HR3 := Lib.hid hr3; have HF3 := Lib.hid (FBox.below' HF2.out hb3'); have HB3 := Lib.hid (HB2.out.trans (hb3'.mono HB2.out.size)); obtain ⟨m0, m1, m2, m3, m4⟩ := (FBox.below' HF3.out (below_al w3 (.cells #[.slice A3 1 c3, .int .u64 5, .int .u64 5] 30))).cells; clear hr3 hb3 hb3' HA1)
    | (go_at_call 12; refine (HA2.out _ _ _ _ _ ?_ ?_ ?_).mono ?_; (exact ((HR3.out.allocS _).allocS _).allocS _); (exact (rd_made f rfl (by simp only [World.size_alloc])).allocS _); (exact rd_text _ name (by simp only [World.size_alloc])); rintro e w5 ⟨A5, c5, rfl, hr5, hb5⟩; obtain ⟨-, hb5'⟩ := made_two hb5; obtain ⟨hs5, hb5''⟩ := made_one hb5'; have HS5 := Lib.hid (show SBox w5 w3.heap.size A3 1 c3 5 5 from hs5); have HR5 := Lib.hid hr5; have HF5 := Lib.hid (FBox.below' HF3.out hb5''); have HR35 := Lib.hid ((HR3.out.below hb5'').more hb5''.size); have HB5 := Lib.hid (HB3.out.trans (hb5''.mono HB3.out.size)); clear hr5 hb5 hb5' hb5'' hs5 m0 m1 m2 m3 m4 HA2; obtain ⟨m0, m1, m2, m3, m4⟩ := (FBox.below' HF5.out (below_al w5 (.cells #[.slice A5 1 c5, .int .u64 p, .int .u64 q] 30))).cells)
    | (go_at_call 10; refine (HMY.out _).mono ?_; rintro e w7 ⟨rfl, hb7⟩; obtain ⟨hs7, hb7'⟩ := made_one hb7; have HS7 := Lib.hid (show SBox w7 w5.heap.size A5 1 c5 p q from hs7); have HSA := Lib.hid (SBox.below HS5.out hb7'); have HF7 := Lib.hid (FBox.below' HF5.out hb7'); have HR7 := Lib.hid ((HR5.out.below hb7').more hb7'.size); have HR37 := Lib.hid ((HR35.out.below hb7').more hb7'.size); have HB7 := Lib.hid (HB5.out.trans (hb7'.mono HB5.out.size)); clear m0 m1 m2 m3 m4 hs7 hb7 hb7' HMY; obtain ⟨m0, m1, m2, m3, m4⟩ := HF7.out.cells; obtain ⟨s0, s1, s2⟩ := HS7.out.cells; obtain ⟨t0, t1, t2⟩ := HSA.out.cells)
    | (go_at_call 12; refine (HA3.out _ _ _ _ ?_ ?_).mono ?_; (exact HR37.out.allocS _); (exact rd_made f rfl (by first | rfl | simp only [World.size_alloc])); rintro e w8 ⟨A8, c8, rfl, hr8, hb8⟩; obtain ⟨-, hb8'⟩ := made_one hb8; have HS8 := Lib.hid (SBox.below (SBox.below HS7.out hb8') (below_al w8 (.cells #[.slice A8 0 c8, .int .u64 0, .int .u64 0] 30))); have HF8 := Lib.hid (FBox.below' (FBox.below' HF7.out hb8') (below_al w8 (.cells #[.slice A8 0 c8, .int .u64 0, .int .u64 0] 30))); have HR8 := Lib.hid (((HR7.out.below hb8').more hb8'.size).allocS (.cells #[.slice A8 0 c8, .int .u64 0, .int .u64 0] 30)); have HB8 := Lib.hid ((HB7.out.trans (hb8'.mono HB7.out.size)).trans ((below_al w8 (.cells #[.slice A8 0 c8, .int .u64 0, .int .u64 0] 30)).mono (Nat.le_trans HB7.out.size hb8'.size))); clear m0 m1 m2 m3 m4 s0 s1 s2 t0 t1 t2 hr8 hb8 hb8' HA3; obtain ⟨m0, m1, m2, m3, m4⟩ := HF8.out.cells; obtain ⟨s0, s1, s2⟩ := HS8.out.cells))
  all_goals go_ret
  all_goals exact ⟨rfl, HB8.out⟩
end Go.Proofs.Ytaeemeoffnhgfaa
