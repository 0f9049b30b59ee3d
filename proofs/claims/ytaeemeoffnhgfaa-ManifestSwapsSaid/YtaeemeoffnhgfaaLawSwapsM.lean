/-
  The walk of the law ManifestSwaps, where the file may be.
-/
import Derived.Test.YtaeemeoffnhgfaaLawSwaps
namespace Go.Proofs.Ytaeemeoffnhgfaa
open Go.RowKit
attribute [local go_sem ↓] Go.wp_at_zero Go.wp_at_succ

set_option maxRecDepth 10000 in
set_option maxHeartbeats 4000000 in
theorem swaps_bad (f : Fi) (name : ByteArray) (w : World) (hb : bndOne f = true) (hn : name.size ≤ 100) (h : may f = true) (hne : name ≠ f.name) (hg : may (⟨f.level, name, f.low, f.high, f.many⟩ : Fi) = false) :
    Calls Try.prog 3 #[f.agg, .string name] w fun e w' => e = .returned (.bool true) ∧ Below w.heap.size w w' := by
  have hrm2 : applyF 0 0 0 0 [f] [(⟨f.level, name, f.low, f.high, f.many⟩ : Fi)] [f.name] = (1, []) := applyF_bad (.inl ⟨(⟨f.level, name, f.low, f.high, f.many⟩ : Fi), List.mem_singleton.2 rfl, hg⟩)
  have hbn := boundedOne f
  rw [hb] at hbn
  have hmy := fun W => may_any f W
  rw [h] at hmy
  have hmg := fun W => may_any (⟨f.level, name, f.low, f.high, f.many⟩ : Fi) W
  rw [hg] at hmg
  have hfn : f.name.size ≤ maxLen := by have := may_name h; unfold maxLen; omega
  have e1 : decide ((100 : Int) < (name.size : Int)) = false := decide_eq_false (by omega)
  have e3 := beq_text name f.name
  rw [decide_eq_false hne] at e3
  have HA1 := Lib.hid (fun W g' h2 => apply_put (cs := 0) (cd := 0) (g := g') (W := W) (n := 0) (nd := 0) (k := 1) (X := 0) (Y := 0) (first_any f h) rfl rfl rfl Rd.nil h2 (Ad := none) Rd.nil (As := none) rfl rfl (by omega) (by omega) (fun x hx => by cases hx))
  have HA2 := Lib.hid (fun W g1 g2 As cs h1 h2 h3 => apply_put (cs := cs) (cd := 1) (g := g1) (W := W) (n := 1) (nd := 1) (k := 0) (X := 0) (Y := 0) hrm2 rfl rfl rfl h1 h2 (Ad := some ⟨g2, 0, none⟩) h3 (As := As) rfl rfl (by omega) (by omega) (fun x hx => by rw [List.mem_singleton.1 hx]; exact hfn))
  unfold Fi.agg at hmy hmg ⊢
  have HBN := Lib.hid hbn
  have HMY := Lib.hid hmy
  have HMG := Lib.hid hmg
  clear hbn hmy hmg hb h hg hrm2 hne hfn
  go_enter Try.func3, Try.ntmps3
  go_wp2_with (first
    | (go_at_call 9; refine (HBN.out _ _ ?_).mono ?_; (exact rd_made f rfl (by simp only [World.size_alloc])); rintro e w1 ⟨rfl, rfl⟩)
    | (go_at_call 10; have M := HMY; clear M; refine (HMY.out _).mono ?_; rintro e w2 ⟨rfl, hb2⟩; obtain ⟨hf2, hb2'⟩ := made_two hb2; have HF2 := Lib.hid (show FBox 23 w2 w.heap.size f from hf2); have HB2 := Lib.hid hb2'; clear hb2 hb2' hf2 HMY; obtain ⟨m0, m1, m2, m3, m4⟩ := HF2.out.cells)
    | (go_at_call 11; refine (shown_any _).mono ?_; rintro e w3 ⟨rfl, hb3⟩; have HF3 := Lib.hid (FBox.below' HF2.out hb3); have HB3 := Lib.hid (HB2.out.trans (hb3.mono HB2.out.size)); clear m0 m1 m2 m3 m4 hb3; obtain ⟨m0, m1, m2, m3, m4⟩ := HF3.out.cells)
    | (go_at_call 12; have M := HA1; clear M; refine (HA1.out _ _ ?_).mono ?_; (exact rd_made f rfl (by first | rfl | simp only [World.size_alloc])); rintro e w4 ⟨A4, c4, rfl, hr4, hb4⟩; obtain ⟨-, hb4'⟩ := made_one hb4; have HR4 := Lib.hid hr4; have HF4 := Lib.hid (FBox.below' HF3.out hb4'); have HB4 := Lib.hid (HB3.out.trans (hb4'.mono HB3.out.size)); clear m0 m1 m2 m3 m4 hr4 hb4 hb4' HA1; obtain ⟨m0, m1, m2, m3, m4⟩ := (FBox.below' HF4.out (below_al w4 (.cells #[.slice A4 1 c4, .int .u64 0, .int .u64 0] 30))).cells; obtain ⟨s0, s1, s2⟩ := (SBox.below (SBox.new w4 A4 1 c4 0 0) (below_al (w4.alloc (.cells #[.slice A4 1 c4, .int .u64 0, .int .u64 0] 30)) (.cells #[.int .i64 f.level, .string name, .string f.low, .string f.high, .int .i64 f.many] 23))).cells; obtain ⟨-, n1, -, -, -⟩ := (FBox.below' (FBox.below' (FBox.below' HF4.out (below_al w4 (.cells #[.slice A4 1 c4, .int .u64 0, .int .u64 0] 30))) (below_al (w4.alloc (.cells #[.slice A4 1 c4, .int .u64 0, .int .u64 0] 30)) (.cells #[.int .i64 f.level, .string name, .string f.low, .string f.high, .int .i64 f.many] 23))) (below_al ((w4.alloc (.cells #[.slice A4 1 c4, .int .u64 0, .int .u64 0] 30)).alloc (.cells #[.int .i64 f.level, .string name, .string f.low, .string f.high, .int .i64 f.many] 23)) (.cells #[.int .i64 f.level, .string name, .string f.low, .string f.high, .int .i64 f.many] 23))).cells)
    | (go_at_call 12; have M := HA2; clear M; refine (HA2.out _ _ _ _ _ ?_ ?_ ?_).mono ?_; (exact (((HR4.out.allocS _).allocS _).allocS _).allocS _); (exact (rd_made (⟨f.level, name, f.low, f.high, f.many⟩ : Fi) rfl (by simp only [World.size_alloc])).allocS _); (exact rd_text _ f.name (by simp only [World.size_alloc])); rintro e w7 ⟨A7, c7, rfl, hr7, hb7⟩; obtain ⟨-, hq1⟩ := made_two hb7; obtain ⟨hs7, hq2⟩ := made_two hq1; obtain ⟨hg7, -⟩ := made_one hq1; rw [World.size_alloc] at hg7; have HS7 := Lib.hid (show SBox w7 w4.heap.size A4 1 c4 0 0 from hs7); have HG7 := Lib.hid (show FBox 23 w7 (w4.heap.size + 1) (⟨f.level, name, f.low, f.high, f.many⟩ : Fi) from hg7); have HF7 := Lib.hid (FBox.below' HF4.out hq2); have HR7 := Lib.hid hr7; have HR47 := Lib.hid ((HR4.out.below hq2).more hq2.size); have HB7 := Lib.hid (HB4.out.trans (hq2.mono HB4.out.size)); clear hb7 hq1 hq2 hs7 hg7 hr7 m0 m1 m2 m3 m4 n1 s0 s1 s2 HA2; obtain ⟨m0, m1, m2, m3, m4⟩ := (FBox.below' HG7.out (below_al w7 (.cells #[.slice A7 0 c7, .int .u64 0, .int .u64 0] 30))).cells)
    | (go_at_call 10; have M := HMG; clear M; refine (HMG.out _).mono ?_; rintro e w9 ⟨rfl, hb9⟩; obtain ⟨hs9, hq9⟩ := made_one hb9; have HS9 := Lib.hid (show SBox w9 w7.heap.size A7 0 c7 0 0 from hs9); have HS79 := Lib.hid (SBox.below HS7.out hq9); have HF9 := Lib.hid (FBox.below' HF7.out hq9); have HR9 := Lib.hid ((HR7.out.below hq9).more hq9.size); have HR49 := Lib.hid ((HR47.out.below hq9).more hq9.size); have HB9 := Lib.hid (HB7.out.trans (hq9.mono HB7.out.size)); clear hb9 hq9 hs9 m0 m1 m2 m3 m4 HMG; obtain ⟨m0, m1, m2, m3, m4⟩ := HF9.out.cells; obtain ⟨s0, s1, s2⟩ := HS9.out.cells)
    | (go_at_call 12; have M := HA3; clear M; refine (HA3.out _ _ _ _ _ ?_ ?_ ?_).mono ?_; (exact (HR9.out.allocS _).allocS _); (exact (rd_made f rfl (by first | rfl | simp only [World.size_alloc])).allocS _); (exact rd_text _ name (by simp only [World.size_alloc])); rintro e w10 ⟨A10, c10, rfl, hr10, hb10⟩; obtain ⟨-, hq10⟩ := made_two hb10; have HSC := Lib.hid (swapC_new HS79.out HS9.out hr10 HR49.out HR9.out HB9.out hq10 (c10 := c10)); clear hr10 hb10 hq10 m0 m1 m2 m3 m4 s0 s1 s2 HA3))
  go_ret
  exact ⟨rfl, HB9.out⟩
theorem swapC_new {w w9 w10 : World} {g5 g8 c4 c7 c10 : Nat} {A4 A7 A10 : Option Addr} {f g : Fi} (h5 : SBox w9 g5 A4 1 c4 0 0) (h8 : SBox w9 g8 A7 1 c7 0 0) (h10 : Rd w10 w10.heap.size A10 (fis [f])) (h4 : Rd w9 w9.heap.size A4 (fis [f])) (h7 : Rd w9 w9.heap.size A7 (fis [g])) (hb : Below w.heap.size w w9) (hb10 : Below w9.heap.size w9 w10) :
    SwapC w (w10.alloc (.cells #[.slice A10 1 c10, .int .u64 0, .int .u64 0] 30)) g5 g8 w10.heap.size A4 A7 A10 c4 c7 c10 f g := by
  have hal := below_al w10 (.cells #[.slice A10 1 c10, .int .u64 0, .int .u64 0] 30)
  exact ⟨SBox.new _ _ _ _ _ _, (h5.below hb10).below hal, (h8.below hb10).below hal, h10.allocS _, ((h4.below hb10).more hb10.size).allocS _, ((h7.below hb10).more hb10.size).allocS _, (hb.trans (hb10.mono hb.size)).trans (hal.mono (Nat.le_trans hb.size hb10.size))⟩
set_option maxRecDepth 10000 in
set_option maxHeartbeats 4000000 in
theorem swaps_ok (f : Fi) (name : ByteArray) (w : World) (hb : bndOne f = true) (hn : name.size ≤ 100) (h : may f = true) (hne : name ≠ f.name) (hg : may (⟨f.level, name, f.low, f.high, f.many⟩ : Fi) = true) :
    Calls Try.prog 3 #[f.agg, .string name] w fun e w' => e = .returned (.bool true) ∧ Below w.heap.size w w' := by
  have hrm2 : applyF 0 0 0 0 [f] [(⟨f.level, name, f.low, f.high, f.many⟩ : Fi)] [f.name] = (0, [(⟨f.level, name, f.low, f.high, f.many⟩ : Fi)]) := by rw [applyF_ok (may_list hg) (by omega) (by omega), applyM_swap _ _ _ rfl]
  have hrm3 : applyF 0 0 0 0 [(⟨f.level, name, f.low, f.high, f.many⟩ : Fi)] [f] [name] = (0, [f]) := by rw [applyF_ok (may_list h) (by omega) (by omega), applyM_swap _ _ _ rfl]
  have hgn : name.size ≤ maxLen := by unfold maxLen; omega
  have hbn := boundedOne f
  rw [hb] at hbn
  have hmy := fun W => may_any f W
  rw [h] at hmy
  have hmg := fun W => may_any (⟨f.level, name, f.low, f.high, f.many⟩ : Fi) W
  rw [hg] at hmg
  have hfn : f.name.size ≤ maxLen := by have := may_name h; unfold maxLen; omega
  have e1 : decide ((100 : Int) < (name.size : Int)) = false := decide_eq_false (by omega)
  have e3 := beq_text name f.name
  rw [decide_eq_false hne] at e3
  have HA1 := Lib.hid (fun W g' h2 => apply_put (cs := 0) (cd := 0) (g := g') (W := W) (n := 0) (nd := 0) (k := 1) (X := 0) (Y := 0) (first_any f h) rfl rfl rfl Rd.nil h2 (Ad := none) Rd.nil (As := none) rfl rfl (by omega) (by omega) (fun x hx => by cases hx))
  have HA2 := Lib.hid (fun W g1 g2 As cs h1 h2 h3 => apply_put (cs := cs) (cd := 1) (g := g1) (W := W) (n := 1) (nd := 1) (k := 1) (X := 0) (Y := 0) hrm2 rfl rfl rfl h1 h2 (Ad := some ⟨g2, 0, none⟩) h3 (As := As) rfl rfl (by omega) (by omega) (fun x hx => by rw [List.mem_singleton.1 hx]; exact hfn))
  unfold Fi.agg at hmy hmg ⊢
  have HBN := Lib.hid hbn
  have HMY := Lib.hid hmy
  have HMG := Lib.hid hmg
  have HA3 := Lib.hid (fun W g1 g2 As cs h1 h2 h3 => apply_put (cs := cs) (cd := 1) (g := g1) (W := W) (n := 1) (nd := 1) (k := 1) (X := 0) (Y := 0) hrm3 rfl rfl rfl h1 h2 (Ad := some ⟨g2, 0, none⟩) h3 (As := As) rfl rfl (by omega) (by omega) (fun x hx => by rw [List.mem_singleton.1 hx]; exact hgn))
  clear hbn hmy hmg hb h hg hrm2 hrm3 hgn hne hfn
  go_enter Try.func3, Try.ntmps3
  go_wp2_with (first
    | (go_at_call 9; refine (HBN.out _ _ ?_).mono ?_; (exact rd_made f rfl (by simp only [World.size_alloc])); rintro e w1 ⟨rfl, rfl⟩)
    | (go_at_call 10; have M := HMY; clear M; refine (HMY.out _).mono ?_; rintro e w2 ⟨rfl, hb2⟩; obtain ⟨hf2, hb2'⟩ := made_two hb2; have HF2 := Lib.hid (show FBox 23 w2 w.heap.size f from hf2); have HB2 := Lib.hid hb2'; clear hb2 hb2' hf2 HMY; obtain ⟨m0, m1, m2, m3, m4⟩ := HF2.out.cells)
    | (go_at_call 11; refine (shown_any _).mono ?_; rintro e w3 ⟨rfl, hb3⟩; have HF3 := Lib.hid (FBox.below' HF2.out hb3); have HB3 := Lib.hid (HB2.out.trans (hb3.mono HB2.out.size)); clear m0 m1 m2 m3 m4 hb3; obtain ⟨m0, m1, m2, m3, m4⟩ := HF3.out.cells)
    | (go_at_call 12; have M := HA1; clear M; refine (HA1.out _ _ ?_).mono ?_; (exact rd_made f rfl (by first | rfl | simp only [World.size_alloc])); rintro e w4 ⟨A4, c4, rfl, hr4, hb4⟩; obtain ⟨-, hb4'⟩ := made_one hb4; have HR4 := Lib.hid hr4; have HF4 := Lib.hid (FBox.below' HF3.out hb4'); have HB4 := Lib.hid (HB3.out.trans (hb4'.mono HB3.out.size)); clear m0 m1 m2 m3 m4 hr4 hb4 hb4' HA1; obtain ⟨m0, m1, m2, m3, m4⟩ := (FBox.below' HF4.out (below_al w4 (.cells #[.slice A4 1 c4, .int .u64 0, .int .u64 0] 30))).cells; obtain ⟨s0, s1, s2⟩ := (SBox.below (SBox.new w4 A4 1 c4 0 0) (below_al (w4.alloc (.cells #[.slice A4 1 c4, .int .u64 0, .int .u64 0] 30)) (.cells #[.int .i64 f.level, .string name, .string f.low, .string f.high, .int .i64 f.many] 23))).cells; obtain ⟨-, n1, -, -, -⟩ := (FBox.below' (FBox.below' (FBox.below' HF4.out (below_al w4 (.cells #[.slice A4 1 c4, .int .u64 0, .int .u64 0] 30))) (below_al (w4.alloc (.cells #[.slice A4 1 c4, .int .u64 0, .int .u64 0] 30)) (.cells #[.int .i64 f.level, .string name, .string f.low, .string f.high, .int .i64 f.many] 23))) (below_al ((w4.alloc (.cells #[.slice A4 1 c4, .int .u64 0, .int .u64 0] 30)).alloc (.cells #[.int .i64 f.level, .string name, .string f.low, .string f.high, .int .i64 f.many] 23)) (.cells #[.int .i64 f.level, .string name, .string f.low, .string f.high, .int .i64 f.many] 23))).cells)
    | (go_at_call 12; have M := HA2; clear M; refine (HA2.out _ _ _ _ _ ?_ ?_ ?_).mono ?_; (exact (((HR4.out.allocS _).allocS _).allocS _).allocS _); (exact (rd_made (⟨f.level, name, f.low, f.high, f.many⟩ : Fi) rfl (by simp only [World.size_alloc])).allocS _); (exact rd_text _ f.name (by simp only [World.size_alloc])); rintro e w7 ⟨A7, c7, rfl, hr7, hb7⟩; obtain ⟨-, hq1⟩ := made_two hb7; obtain ⟨hs7, hq2⟩ := made_two hq1; obtain ⟨hg7, -⟩ := made_one hq1; rw [World.size_alloc] at hg7; have HS7 := Lib.hid (show SBox w7 w4.heap.size A4 1 c4 0 0 from hs7); have HG7 := Lib.hid (show FBox 23 w7 (w4.heap.size + 1) (⟨f.level, name, f.low, f.high, f.many⟩ : Fi) from hg7); have HF7 := Lib.hid (FBox.below' HF4.out hq2); have HR7 := Lib.hid hr7; have HR47 := Lib.hid ((HR4.out.below hq2).more hq2.size); have HB7 := Lib.hid (HB4.out.trans (hq2.mono HB4.out.size)); clear hb7 hq1 hq2 hs7 hg7 hr7 m0 m1 m2 m3 m4 n1 s0 s1 s2 HA2; obtain ⟨m0, m1, m2, m3, m4⟩ := (FBox.below' HG7.out (below_al w7 (.cells #[.slice A7 1 c7, .int .u64 0, .int .u64 0] 30))).cells)
    | (go_at_call 10; have M := HMG; clear M; refine (HMG.out _).mono ?_; rintro e w9 ⟨rfl, hb9⟩; obtain ⟨hs9, hq9⟩ := made_one hb9; have HS9 := Lib.hid (show SBox w9 w7.heap.size A7 1 c7 0 0 from hs9); have HS79 := Lib.hid (SBox.below HS7.out hq9); have HF9 := Lib.hid (FBox.below' HF7.out hq9); have HR9 := Lib.hid ((HR7.out.below hq9).more hq9.size); have HR49 := Lib.hid ((HR47.out.below hq9).more hq9.size); have HB9 := Lib.hid (HB7.out.trans (hq9.mono HB7.out.size)); clear hb9 hq9 hs9 m0 m1 m2 m3 m4 HMG; obtain ⟨m0, m1, m2, m3, m4⟩ := HF9.out.cells; obtain ⟨s0, s1, s2⟩ := HS9.out.cells)
    | (go_at_call 12; have M := HA3; clear M; refine (HA3.out _ _ _ _ _ ?_ ?_ ?_).mono ?_; (exact (HR9.out.allocS _).allocS _); (exact (rd_made f rfl (by first | rfl | simp only [World.size_alloc])).allocS _); (exact rd_text _ name (by simp only [World.size_alloc])); rintro e w10 ⟨A10, c10, rfl, hr10, hb10⟩; obtain ⟨-, hq10⟩ := made_two hb10; have HSC := Lib.hid (swapC_new HS79.out HS9.out hr10 HR49.out HR9.out HB9.out hq10 (c10 := c10)); clear hr10 hb10 hq10 m0 m1 m2 m3 m4 s0 s1 s2 HA3))
  obtain ⟨b7, o7, rfl, -⟩ := rd_elem (l := [(⟨f.level, name, f.low, f.high, f.many⟩ : Fi)]) (k := 0) HSC.out.2.2.2.2.2.1 (by simp)
  have hCC : ∀ W W', Below W.heap.size W W' → (fun W => W.cell? ⟨w10.heap.size, 0, none⟩ = some (.slice A10 1 c10) ∧ W.cell? ⟨w4.heap.size, 0, none⟩ = some (.slice A4 1 c4) ∧ W.cell? ⟨w7.heap.size, 0, none⟩ = some (.slice (some ⟨b7, o7, none⟩) 1 c7) ∧ W.cell? ⟨b7, o7 + 1, none⟩ = some (.string name) ∧ SwapC w W w4.heap.size w7.heap.size w10.heap.size A4 (some ⟨b7, o7, none⟩) A10 c4 c7 c10 f (⟨f.level, name, f.low, f.high, f.many⟩ : Fi)) W → (fun W => W.cell? ⟨w10.heap.size, 0, none⟩ = some (.slice A10 1 c10) ∧ W.cell? ⟨w4.heap.size, 0, none⟩ = some (.slice A4 1 c4) ∧ W.cell? ⟨w7.heap.size, 0, none⟩ = some (.slice (some ⟨b7, o7, none⟩) 1 c7) ∧ W.cell? ⟨b7, o7 + 1, none⟩ = some (.string name) ∧ SwapC w W w4.heap.size w7.heap.size w10.heap.size A4 (some ⟨b7, o7, none⟩) A10 c4 c7 c10 f (⟨f.level, name, f.low, f.high, f.many⟩ : Fi)) W' := fun W W' hbb hc => SwapC.full (SwapC.below hc.2.2.2.2 hbb)
  have HC := hCC _ _ ((Below.refl _ _).drew) (SwapC.full HSC.out)
  refine region_wz (fun W => W.cell? ⟨w10.heap.size, 0, none⟩ = some (.slice A10 1 c10) ∧ W.cell? ⟨w4.heap.size, 0, none⟩ = some (.slice A4 1 c4) ∧ W.cell? ⟨w7.heap.size, 0, none⟩ = some (.slice (some ⟨b7, o7, none⟩) 1 c7) ∧ W.cell? ⟨b7, o7 + 1, none⟩ = some (.string name) ∧ SwapC w W w4.heap.size w7.heap.size w10.heap.size A4 (some ⟨b7, o7, none⟩) A10 c4 c7 c10 f (⟨f.level, name, f.low, f.high, f.many⟩ : Fi)) none (by kernel_rfl) ?_
  apply WZ.take (i := 0) (some 78) rfl rfl (by kernel_rfl) (by kernel_rfl) (by kernel_rfl) (calm_panic _) (by kernel_rfl)
  case hy => (refine .inl ⟨by kernel_rfl, fun W hC => ?_⟩; (try dsimp only at hC); go_simp; (try simp only [beq_self_eq_true]); rfl)
  case hC => exact HC
  case ha => (simp only [Act.put, List.setIfInBounds_toArray, List.set_cons_zero, List.set_cons_succ]; rfl)
  apply WZ.take (i := 1) (some 79) rfl rfl (by kernel_rfl) (by kernel_rfl) (by kernel_rfl) (calm_panic _) (by kernel_rfl)
  case hy => (refine .inl ⟨by kernel_rfl, fun W hC => ?_⟩; (try dsimp only at hC); go_simp; (try simp only [beq_self_eq_true]); rfl)
  case hC => exact HC
  case ha => (simp only [Act.put, List.setIfInBounds_toArray, List.set_cons_zero, List.set_cons_succ]; rfl)
  apply WZ.take (i := 2) (some 80) rfl rfl (by kernel_rfl) (by kernel_rfl) (by kernel_rfl) (calm_panic _) (by kernel_rfl)
  case hy => (refine .inl ⟨by kernel_rfl, fun W hC => ?_⟩; (try dsimp only at hC); go_simp; (try simp only [beq_self_eq_true]); rfl)
  case hC => exact HC
  case ha => (simp only [Act.put, List.setIfInBounds_toArray, List.set_cons_zero, List.set_cons_succ]; rfl)
  apply WZ.take (i := 3) (some 81) rfl rfl (by kernel_rfl) (by kernel_rfl) (by kernel_rfl) (calm_panic _) (by kernel_rfl)
  case hy => (refine .inl ⟨by kernel_rfl, fun W hC => ?_⟩; (try dsimp only at hC); go_simp; (try simp only [beq_self_eq_true]); rfl)
  case hC => exact HC
  case ha => (simp only [Act.put, List.setIfInBounds_toArray, List.set_cons_zero, List.set_cons_succ]; rfl)
  apply WZ.take (i := 4) (some 82) rfl rfl (by kernel_rfl) (by kernel_rfl) (by kernel_rfl) (calm_panic _) (by kernel_rfl)
  case hy => (refine .inl ⟨by kernel_rfl, fun W hC => ?_⟩; (try dsimp only at hC); go_simp; (try simp only [beq_self_eq_true]); rfl)
  case hC => exact HC
  case ha => (simp only [Act.put, List.setIfInBounds_toArray, List.set_cons_zero, List.set_cons_succ]; rfl)
  apply WZ.take (i := 5) (some 83) rfl rfl (by kernel_rfl) (by kernel_rfl) (by kernel_rfl) (calm_panic _) (by kernel_rfl)
  case hy => (refine .inl ⟨by kernel_rfl, fun W hC => ?_⟩; (try dsimp only at hC); go_simp; (try simp only [beq_self_eq_true]); rfl)
  case hC => exact HC
  case ha => (simp only [Act.put, List.setIfInBounds_toArray, List.set_cons_zero, List.set_cons_succ]; rfl)
  apply WZ.take (i := 6) (some 84) rfl rfl (by kernel_rfl) (by kernel_rfl) (by kernel_rfl) (calm_panic _) (by kernel_rfl)
  case hy => (refine .inl ⟨by kernel_rfl, fun W hC => ?_⟩; (try dsimp only at hC); go_simp; (try simp only [beq_self_eq_true]); rfl)
  case hC => exact HC
  case ha => (simp only [Act.put, List.setIfInBounds_toArray, List.set_cons_zero, List.set_cons_succ]; rfl)
  apply WZ.take (i := 7) (some 85) rfl rfl (by kernel_rfl) (by kernel_rfl) (by kernel_rfl) (calm_panic _) (by kernel_rfl)
  case hy => (refine .inl ⟨by kernel_rfl, fun W hC => ?_⟩; (try dsimp only at hC); go_simp; (try simp only [beq_self_eq_true]); rfl)
  case hC => exact HC
  case ha => (simp only [Act.put, List.setIfInBounds_toArray, List.set_cons_zero, List.set_cons_succ]; rfl)
  apply WZ.take (i := 8) (some 86) rfl rfl (by kernel_rfl) (by kernel_rfl) (by kernel_rfl) (calm_panic _) (by kernel_rfl)
  case hy => (refine .inl ⟨by kernel_rfl, fun W hC => ?_⟩; (try dsimp only at hC); go_simp; (try simp only [beq_self_eq_true]); rfl)
  case hC => exact HC
  case ha => (simp only [Act.put, List.setIfInBounds_toArray, List.set_cons_zero, List.set_cons_succ]; rfl)
  apply WZ.take (i := 9) (some 87) rfl rfl (by kernel_rfl) (by kernel_rfl) (by kernel_rfl) (calm_panic _) (by kernel_rfl)
  case hy => (refine .inl ⟨by kernel_rfl, fun W hC => ?_⟩; (try dsimp only at hC); go_simp; (try simp only [beq_self_eq_true]); rfl)
  case hC => exact HC
  case ha => (simp only [Act.put, List.setIfInBounds_toArray, List.set_cons_zero, List.set_cons_succ]; rfl)
  apply WZ.take (i := 10) (some 88) rfl rfl (by kernel_rfl) (by kernel_rfl) (by kernel_rfl) (calm_panic _) (by kernel_rfl)
  case hy => (refine .inl ⟨by kernel_rfl, fun W hC => ?_⟩; (try dsimp only at hC); go_simp; (try simp only [beq_self_eq_true]); rfl)
  case hC => exact HC
  case ha => (simp only [Act.put, List.setIfInBounds_toArray, List.set_cons_zero, List.set_cons_succ]; rfl)
  apply WZ.take (i := 11) (some 89) rfl rfl (by kernel_rfl) (by kernel_rfl) (by kernel_rfl) (calm_panic _) (by kernel_rfl)
  case hy => (refine .inl ⟨by kernel_rfl, fun W hC => ?_⟩; (try dsimp only at hC); go_simp; (try simp only [beq_self_eq_true]); rfl)
  case hC => exact HC
  case ha => (simp only [Act.put, List.setIfInBounds_toArray, List.set_cons_zero, List.set_cons_succ]; rfl)
  apply WZ.take (i := 12) (some 90) rfl rfl (by kernel_rfl) (by kernel_rfl) (by kernel_rfl) (calm_panic _) (by kernel_rfl)
  case hy => (refine .inl ⟨by kernel_rfl, fun W hC => ?_⟩; (try dsimp only at hC); go_simp; (try simp only [beq_self_eq_true]); rfl)
  case hC => exact HC
  case ha => (simp only [Act.put, List.setIfInBounds_toArray, List.set_cons_zero, List.set_cons_succ]; rfl)
  apply WZ.take (i := 14) (some 92) rfl rfl (by kernel_rfl) (by kernel_rfl) (by kernel_rfl) (calm_panic _) (by kernel_rfl)
  case hy => (refine .inl ⟨by kernel_rfl, fun W hC => ?_⟩; (try dsimp only at hC); go_simp; (try simp only [beq_self_eq_true]); rfl)
  case hC => exact HC
  case ha => (simp only [Act.put, List.setIfInBounds_toArray, List.set_cons_zero, List.set_cons_succ]; rfl)
  apply WZ.take (i := 15) (some 93) rfl rfl (by kernel_rfl) (by kernel_rfl) (by kernel_rfl) (calm_panic _) (by kernel_rfl)
  case hy => (refine .inl ⟨by kernel_rfl, fun W hC => ?_⟩; (try dsimp only at hC); go_simp; (try simp only [beq_self_eq_true]); rfl)
  case hC => exact HC
  case ha => (simp only [Act.put, List.setIfInBounds_toArray, List.set_cons_zero, List.set_cons_succ]; rfl)
  -- 13
  refine WZ.one (i := 13) rfl (by kernel_rfl) ?_
  conv => arg 4; arg 1; whnf
  go_wp2_with (go_at_call 14; refine (filesL_any A10 c10 1 [f] _ HC.2.2.2.2.2.2.2.1 rfl (by omega)).mono ?_; rintro e w12 ⟨A12, c12, rfl, ho12, hb12⟩; have HC' := hCC _ _ hb12 HC; have HN := Lib.hid (Own.rd ho12 (by omega)))
  clear HC ho12
  have HC := HC'
  clear HC' hb12
  refine ⟨HC, ?_⟩
  -- 16
  refine WZ.one (i := 16) rfl (by kernel_rfl) ?_
  conv => arg 4; arg 1; whnf
  go_wp2_with (go_at_call 14; refine (filesL_any A4 c4 1 [f] _ HC.2.2.2.2.2.2.2.2.1 rfl (by omega)).mono ?_; rintro e w13 ⟨A13, c13, rfl, ho13, hb13⟩; have HC' := hCC _ _ hb13 HC; have HN2 := Lib.hid (And.intro ((HN.out.below hb13).more hb13.size) (Own.rd ho13 (by omega))))
  clear HC ho13 HN
  have HC := HC'
  clear HC' hb13
  refine ⟨HC, ?_⟩
  -- 17
  refine WZ.one (i := 17) rfl (by kernel_rfl) ?_
  conv => arg 4; arg 1; whnf
  go_wp2_with (go_at_call 13; refine (sameFiles_any A12 A13 c12 c13 1 1 [f] [f] _ w13.heap.size HN2.out.1 HN2.out.2 rfl rfl (by omega) (by omega)).mono ?_; rw [decide_eq_true rfl]; rintro e w14 ⟨rfl, hb14⟩; have HC' := hCC _ _ hb14 HC)
  clear HC HN2
  have HC := HC'
  clear HC' hb14
  refine ⟨HC, ?_⟩
  apply WZ.take (i := 18) (some 96) rfl rfl (by kernel_rfl) (by kernel_rfl) (by kernel_rfl) (calm_panic _) (by kernel_rfl)
  case hy => (refine .inl ⟨by kernel_rfl, fun W hC => ?_⟩; (try dsimp only at hC); go_simp; (try simp only [beq_self_eq_true]); rfl)
  case hC => exact HC
  case ha => (simp only [Act.put, List.setIfInBounds_toArray, List.set_cons_zero, List.set_cons_succ]; rfl)
  apply WZ.take (i := 19) (some 97) rfl rfl (by kernel_rfl) (by kernel_rfl) (by kernel_rfl) (calm_panic _) (by kernel_rfl)
  case hy => (refine .inl ⟨by kernel_rfl, fun W hC => ?_⟩; (try dsimp only at hC); go_simp; (try simp only [beq_self_eq_true]); rfl)
  case hC => exact HC
  case ha => (simp only [Act.put, List.setIfInBounds_toArray, List.set_cons_zero, List.set_cons_succ]; rfl)
  apply WZ.take (i := 20) (some 98) rfl rfl (by kernel_rfl) (by kernel_rfl) (by kernel_rfl) (calm_panic _) (by kernel_rfl)
  case hy => (refine .inl ⟨by kernel_rfl, fun W hC => ?_⟩; (try dsimp only at hC); go_simp; (try simp only [beq_self_eq_true]); rfl)
  case hC => exact HC
  case ha => (simp only [Act.put, List.setIfInBounds_toArray, List.set_cons_zero, List.set_cons_succ]; rfl)
  apply WZ.take (i := 21) (some 99) rfl rfl (by kernel_rfl) (by kernel_rfl) (by kernel_rfl) (calm_panic _) (by kernel_rfl)
  case hy => (refine .inl ⟨by kernel_rfl, fun W hC => ?_⟩; (try dsimp only at hC); go_simp; (try simp only [beq_self_eq_true]); rfl)
  case hC => exact HC
  case ha => (simp only [Act.put, List.setIfInBounds_toArray, List.set_cons_zero, List.set_cons_succ]; rfl)
  apply WZ.take (i := 22) (some 100) rfl rfl (by kernel_rfl) (by kernel_rfl) (by kernel_rfl) (calm_panic _) (by kernel_rfl)
  case hy => (refine .inl ⟨by kernel_rfl, fun W hC => ?_⟩; (try dsimp only at hC); go_simp; (try simp only [beq_self_eq_true]); rfl)
  case hC => exact HC
  case ha => (simp only [Act.put, List.setIfInBounds_toArray, List.set_cons_zero, List.set_cons_succ]; rfl)
  apply WZ.take (i := 23) (some 101) rfl rfl (by kernel_rfl) (by kernel_rfl) (by kernel_rfl) (calm_panic _) (by kernel_rfl)
  case hy => (refine .inl ⟨by kernel_rfl, fun W hC => ?_⟩; (try dsimp only at hC); go_simp; (try simp only [beq_self_eq_true]); rfl)
  case hC => exact HC
  case ha => (simp only [Act.put, List.setIfInBounds_toArray, List.set_cons_zero, List.set_cons_succ]; rfl)
  apply WZ.take (i := 24) (some 102) rfl rfl (by kernel_rfl) (by kernel_rfl) (by kernel_rfl) (calm_panic _) (by kernel_rfl)
  case hy => (refine .inl ⟨by kernel_rfl, fun W hC => ?_⟩; (try dsimp only at hC); go_simp; (try simp only [beq_self_eq_true]); rfl)
  case hC => exact HC
  case ha => (simp only [Act.put, List.setIfInBounds_toArray, List.set_cons_zero, List.set_cons_succ]; rfl)
  apply WZ.take (i := 25) (some 103) rfl rfl (by kernel_rfl) (by kernel_rfl) (by kernel_rfl) (calm_panic _) (by kernel_rfl)
  case hy => (refine .inl ⟨by kernel_rfl, fun W hC => ?_⟩; (try dsimp only at hC); go_simp; (try simp only [beq_self_eq_true]); rfl)
  case hC => exact HC
  case ha => (simp only [Act.put, List.setIfInBounds_toArray, List.set_cons_zero, List.set_cons_succ]; rfl)
  apply WZ.take (i := 26) (some 104) rfl rfl (by kernel_rfl) (by kernel_rfl) (by kernel_rfl) (calm_panic _) (by kernel_rfl)
  case hy => (refine .inl ⟨by kernel_rfl, fun W hC => ?_⟩; (try dsimp only at hC); go_simp; (try simp only [beq_self_eq_true]); rfl)
  case hC => exact HC
  case ha => (simp only [Act.put, List.setIfInBounds_toArray, List.set_cons_zero, List.set_cons_succ]; rfl)
  apply WZ.take (i := 27) (some 105) rfl rfl (by kernel_rfl) (by kernel_rfl) (by kernel_rfl) (calm_panic _) (by kernel_rfl)
  case hy => (refine .inl ⟨by kernel_rfl, fun W hC => ?_⟩; (try dsimp only at hC); go_simp; (try simp only [beq_self_eq_true]); rfl)
  case hC => exact HC
  case ha => (simp only [Act.put, List.setIfInBounds_toArray, List.set_cons_zero, List.set_cons_succ]; rfl)
  apply WZ.take (i := 28) (some 106) rfl rfl (by kernel_rfl) (by kernel_rfl) (by kernel_rfl) (calm_panic _) (by kernel_rfl)
  case hy => (refine .inl ⟨by kernel_rfl, fun W hC => ?_⟩; (try dsimp only at hC); go_simp; (try simp only [beq_self_eq_true]); rfl)
  case hC => exact HC
  case ha => (simp only [Act.put, List.setIfInBounds_toArray, List.set_cons_zero, List.set_cons_succ]; rfl)
  apply WZ.take (i := 29) (some 107) rfl rfl (by kernel_rfl) (by kernel_rfl) (by kernel_rfl) (calm_panic _) (by kernel_rfl)
  case hy => (refine .inl ⟨by kernel_rfl, fun W hC => ?_⟩; (try dsimp only at hC); go_simp; (try simp only [beq_self_eq_true]); rfl)
  case hC => exact HC
  case ha => (simp only [Act.put, List.setIfInBounds_toArray, List.set_cons_zero, List.set_cons_succ]; rfl)
  apply WZ.take (i := 30) (some 108) rfl rfl (by kernel_rfl) (by kernel_rfl) (by kernel_rfl) (calm_panic _) (by kernel_rfl)
  case hy => (refine .inl ⟨by kernel_rfl, fun W hC => ?_⟩; (try dsimp only at hC); go_simp; (try simp only [beq_self_eq_true]); rfl)
  case hC => exact HC
  case ha => (simp only [Act.put, List.setIfInBounds_toArray, List.set_cons_zero, List.set_cons_succ]; rfl)
  apply WZ.take (i := 31) (some 109) rfl rfl (by kernel_rfl) (by kernel_rfl) (by kernel_rfl) (calm_panic _) (by kernel_rfl)
  case hy => (refine .inl ⟨by kernel_rfl, fun W hC => ?_⟩; (try dsimp only at hC); go_simp; (try simp only [beq_self_eq_true]); rfl)
  case hC => exact HC
  case ha => (simp only [Act.put, List.setIfInBounds_toArray, List.set_cons_zero, List.set_cons_succ]; rfl)
  apply WZ.take (i := 32) (some 110) rfl rfl (by kernel_rfl) (by kernel_rfl) (by kernel_rfl) (calm_panic _) (by kernel_rfl)
  case hy => (refine .inl ⟨by kernel_rfl, fun W hC => ?_⟩; (try dsimp only at hC); go_simp; (try simp only [beq_self_eq_true]); rfl)
  case hC => exact HC
  case ha => (simp only [Act.put, List.setIfInBounds_toArray, List.set_cons_zero, List.set_cons_succ]; rfl)
  apply WZ.take (i := 33) (some 111) rfl rfl (by kernel_rfl) (by kernel_rfl) (by kernel_rfl) (calm_panic _) (by kernel_rfl)
  case hy => (refine .inl ⟨by kernel_rfl, fun W hC => ?_⟩; (try dsimp only at hC); go_simp; (try simp only [beq_self_eq_true]); rfl)
  case hC => exact HC
  case ha => (simp only [Act.put, List.setIfInBounds_toArray, List.set_cons_zero, List.set_cons_succ]; rfl)
  apply WZ.take (i := 34) (some 4) rfl rfl (by kernel_rfl) (by kernel_rfl) (by kernel_rfl) (calm_panic _) (by kernel_rfl)
  case hy => (refine .inl ⟨by kernel_rfl, fun W hC => ?_⟩; (try dsimp only at hC); go_simp; (try simp only [beq_self_eq_true]); rfl)
  case hC => exact HC
  case ha => (simp only [Act.put, List.setIfInBounds_toArray, List.set_cons_zero, List.set_cons_succ]; rfl)
  refine WZ.done (by kernel_rfl) ?_ _
  simp only [Calm, Exit.then]
  have HE := Lib.hid HC.2.2.2.2.2.2.2.2.2.2
  clear HC hCC
  go_wp2
  go_ret
  exact ⟨rfl, HE.out⟩
end Go.Proofs.Ytaeemeoffnhgfaa
