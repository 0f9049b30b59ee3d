/-
  The walk of the law RunsTwice.
-/
import Derived.Test.YtojelalgcokcfaaSame8
import Derived.Test.YtojelalgcokcfaaResolveLaws
import Derived.Test.YtojelalgcokcfaaAppG
namespace Go.Proofs.Ytojelalgcokcfaa
open Go.RowKit
attribute [local go_sem ↓] Go.wp_at_zero Go.wp_at_succ

theorem its_app (l m : List It) : its (l ++ m) = its l ++ its m := List.flatMap_append
set_option maxHeartbeats 4000000 in
theorem runsTwice_any (A : Option Addr) (c : Nat) (l : List It) (w : World) (hl : Rd w w.heap.size A (its l)) (hlen : l.length ≤ 1759218604441) :
    Calls Try.prog 5 #[.slice A l.length c] w fun e w' => e = .returned (.bool true) ∧ Below w.heap.size w w' := by
  obtain ⟨i0, hi0, hz0, hz1, hz2⟩ := info_parts itemInfo
  have hcells := cells_any A c l w hl hlen
  have hbnd := fun A1 c1 W h => bounded_any A1 c1 (l.map (·.c)) W W.heap.size h (by rw [List.length_map]; unfold maxLen; omega)
  rw [List.length_map] at hbnd
  have hres := fun (h : l.length ≤ 1000000) (W : World) (hr : Rd W W.heap.size A (its l)) => resolve_any A c l W hr h
  have hll : bnd (l.map (·.c)) = true → l.length ≤ 80 := fun h => by have := bnd_len h; rwa [List.length_map] at this
  obtain ⟨R, hR⟩ : ∃ R, resolve l = R := ⟨_, rfl⟩
  have hRs : Strict R := by rw [← hR]; exact (resolve_good l).strict
  have hRR : resolve R = R := resolve_strict hRs
  have hR2 : resolve (R ++ R) = R := resolve_twice hRs
  have hRl : R.length ≤ l.length := by rw [← hR]; exact resolve_len l
  rw [hR] at hres
  obtain ⟨N, hN⟩ : ∃ N, l.length = N := ⟨_, rfl⟩
  rw [hN] at hcells hbnd hres hll hRl ⊢
  clear hlen
  go_enter Try.func5, Try.ntmps5
  go_wp2_with fail
  go_at_call 18
  refine hcells.mono ?_
  rintro e w1 ⟨A1, c1, rfl, ho1, hb1⟩
  go_wp2_with fail
  go_at_call 8
  refine (hbnd A1 c1 w1 (ho1.rd (by omega))).mono ?_
  rintro e w1' ⟨rfl, rfl⟩
  by_cases hbd : bnd (l.map (·.c)) = true
  · have hN80 := hll hbd
    rw [hbd]
    have hres := hres (by omega)
    clear hbnd hcells ho1 hll hbd
    go_wp2_with fail
    go_at_call 9
    refine (shown_any _).mono ?_
    rintro e w2 ⟨rfl, hb2⟩
    have HB := Lib.hid (hb1.trans (hb2.mono hb1.size))
    clear hb1 hb2
    go_wp2_with fail
    go_at_call 17
    refine (hres w2 ((hl.below HB.out).more HB.out.size)).mono ?_
    rintro e w3 ⟨A3, c3, rfl, ho3, hb3⟩
    have ho3 := ho3.lower HB.out.size
    have HB := Lib.hid (HB.out.trans (hb3.mono HB.out.size))
    have hRn : R.length ≤ 1000000 := by omega
    have hr2 := fun (W : World) (A : Option Addr) (c : Nat) (h : Rd W W.heap.size A (its R)) => resolve_any A c R W h hRn
    rw [hRR] at hr2
    have hit := fun (W : World) (A : Option Addr) (c : Nat) (h : Rd W W.heap.size A (its R)) => its_any A c R W h hRn
    have hsm := fun (W : World) (A B : Option Addr) (c d : Nat) (h : Rd W W.heap.size A (its R)) (k : Rd W W.heap.size B (its R)) => sameItems_any A B c d R R W _ h k hRn hRn
    rw [decide_eq_true (show R = R from rfl)] at hsm
    have hr3 := fun (W : World) (A : Option Addr) (c : Nat) (h : Rd W W.heap.size A (its (R ++ R))) => resolve_any A c (R ++ R) W h (by rw [List.length_append]; omega)
    rw [hR2, List.length_append] at hr3
    obtain ⟨n, hn⟩ : ∃ n, R.length = n := ⟨_, rfl⟩
    rw [hn] at hr2 hit hsm hr3 hRn hRl ho3 ⊢
    have hlR : (its R).length = n * 7 := by rw [its_len, hn]
    clear hb3 hres hRR hR2 hRs hR
    go_wp2_with fail
    go_at_call 17
    refine (hr2 _ A3 c3 (ho3.rd (by omega))).mono ?_
    rintro e w4 ⟨A4, c4, rfl, ho4, hb4⟩
    have ho3 := Own.below ho3 hb4
    have HBo := HB
    have HB := Lib.hid (Below.trans HBo.out (hb4.mono (Below.size HBo.out)))
    have ho4 := ho4.lower (Below.size HBo.out)
    go_wp2_with fail
    go_at_call 13
    refine (hit _ A4 c4 (ho4.rd (by omega))).mono ?_
    rintro e w5 ⟨A5, c5, rfl, ho5, hb5⟩
    have ho3 := Own.below ho3 hb5
    have HBo := HB
    have HB := Lib.hid (Below.trans HBo.out (hb5.mono (Below.size HBo.out)))
    have ho5 := ho5.lower (Below.size HBo.out)
    go_wp2_with fail
    go_at_call 13
    refine (hit _ A3 c3 (ho3.rd (by omega))).mono ?_
    rintro e w6 ⟨A6, c6, rfl, ho6, hb6⟩
    have ho5 := ho5.below hb6
    have ho3 := Own.below ho3 hb6
    have HBo := HB
    have HB := Lib.hid (Below.trans HBo.out (hb6.mono (Below.size HBo.out)))
    go_wp2_with fail
    go_at_call 12
    refine (hsm _ A5 A6 c5 c6 (ho5.rd (by omega)) (ho6.rd (by omega))).mono ?_
    rintro e w7 ⟨rfl, hb7⟩
    have ho3 := Own.below ho3 hb7
    have HBo := HB
    have HB := Lib.hid (Below.trans HBo.out (hb7.mono (Below.size HBo.out)))
    clear ho4 ho5 ho6
    have hn7 := Own.new0' w7 48 7
    have ho3a := Own.alloc ho3 (.cells #[] 48)
    have hbs := Below.size HB.out
    go_wp2_with (first
      | (at_builtin; go_loud (refine wpList_app_g rfl _ _ _ rfl w7.heap.size 48 i0 zeroItem 7 80 Try.underlying35 hi0 hz0 hz1 hz2 rfl (by decide) _ _ _ _ rfl hn7 _ _ n _ (its R) rfl (ho3a.rd (by omega)) hlR (its_one _) (by unfold maxLen; omega) (by omega) (by rw [World.size_alloc]; omega) ?_); intro A8 c8 w8 ho8 hg8 hat8
         have hb8 := Own.grow hn7 ((Below.refl w7.heap.size w7).alloc (Nat.le_refl _) (.cells #[] 48)) (by rw [World.size_alloc]; omega) (Nat.le_refl _) hg8
         rw [Nat.zero_add, List.nil_append] at ho8
         clear hn7 hat8)
      | (at_builtin; go_loud (refine wpList_app_g rfl _ _ _ rfl w7.heap.size 48 i0 zeroItem 7 80 Try.underlying35 hi0 hz0 hz1 hz2 rfl (by decide) _ _ _ _ rfl ho8 _ _ n _ (its R) rfl ((Own.below ho3 hb8).rd (by omega)) hlR (its_one _) (by unfold maxLen; omega) (by omega) hb8.size ?_); intro A9 c9 w9 ho9 hg9 hat9
         have hb9 := Own.grow ho8 hb8 hb8.size (Nat.le_refl _) hg9
         clear hat9))
    clear ho3a hg8 ho8 hb8 hg9
    rw [← its_app] at ho9
    have ho3 := Own.below ho3 hb9
    have HBo := HB
    have HB := Lib.hid (Below.trans HBo.out (hb9.mono (Below.size HBo.out)))
    go_wp2_with fail
    go_at_call 17
    refine (hr3 _ A9 c9 (ho9.rd (by omega))).mono ?_
    rintro e w10 ⟨A10, c10, rfl, ho10, hb10⟩
    have ho3 := Own.below ho3 hb10
    have HBo := HB
    have HB := Lib.hid (Below.trans HBo.out (hb10.mono (Below.size HBo.out)))
    go_wp2_with fail
    go_at_call 13
    refine (hit _ A10 c10 (ho10.rd (by omega))).mono ?_
    rintro e w11 ⟨A11, c11, rfl, ho11, hb11⟩
    have ho3 := Own.below ho3 hb11
    have HBo := HB
    have HB := Lib.hid (Below.trans HBo.out (hb11.mono (Below.size HBo.out)))
    go_wp2_with fail
    go_at_call 13
    refine (hit _ A3 c3 (ho3.rd (by omega))).mono ?_
    rintro e w12 ⟨A12, c12, rfl, ho12, hb12⟩
    have ho11 := ho11.below hb12
    have ho3 := Own.below ho3 hb12
    have HBo := HB
    have HB := Lib.hid (Below.trans HBo.out (hb12.mono (Below.size HBo.out)))
    go_wp2_with fail
    go_at_call 12
    refine (hsm _ A11 A12 c11 c12 (ho11.rd (by omega)) (ho12.rd (by omega))).mono ?_
    rintro e w13 ⟨rfl, hb13⟩
    have ho3 := Own.below ho3 hb13
    have HBo := HB
    have HB := Lib.hid (Below.trans HBo.out (hb13.mono (Below.size HBo.out)))
    go_wp2_with fail
    go_ret
    exact ⟨rfl, HB.out⟩
  · have hbd' : bnd (l.map (·.c)) = false := by simpa using hbd
    rw [hbd']
    go_wp2_with fail
    go_at_call 9
    refine (shown_any _).mono ?_
    rintro e w2 ⟨rfl, hb2⟩
    go_wp2_with fail
    go_ret
    exact ⟨rfl, hb1.trans (hb2.mono hb1.size)⟩
end Go.Proofs.Ytojelalgcokcfaa
