/-
  The walk of the reference's Put.
-/
import Derived.Test.YtijicefakfpdcaaRegKit12
import Derived.Test.YtijicefakfpdcaaRefPutPlain12
import Derived.Test.YtijicefakfpdcaaRefMay12
import Derived.Test.YtijicefakfpdcaaList
namespace Go.Proofs.Ytijicefakfpdcaa
open Go.RowKit
attribute [local go_sem ↓] Go.wp_at_zero Go.wp_at_succ

theorem Cl.vals_len (c : Cl) : c.vals.length = 6 := rfl
theorem Cl.one (c : Cl) : ∀ u ∈ c.vals, u.oneCell' = true := fun u hu => vals_one [c] u (show u ∈ List.flatMap Cl.vals [c] by rw [List.flatMap_cons, List.flatMap_nil, List.append_nil]; exact hu)
theorem Rd.range {w : World} {B : Nat} {A : Option Addr} {l : List Cl} (h : Rd w B A (vals l)) {k : Nat} (hk : k < l.length) : ∃ b o, A = some ⟨b, o, none⟩ ∧ b < B ∧ w.rangeAt b (o + k * 6) l[k].vals := by
  obtain ⟨b, o, e, hb, hc⟩ := h.at_ (vals_ne hk)
  refine ⟨b, o, e, hb, fun j v hv => ?_⟩
  obtain ⟨hj, rfl⟩ := List.getElem?_eq_some_iff.1 hv
  have hj6 : j < 6 := by simpa [Cl.vals] using hj
  have h1 : 6 * k + j < (vals l).length := by rw [length_vals]; omega
  have := hc (6 * k + j) h1
  rw [getElem_vals l k j hk hj6 h1] at this
  rw [← this]
  congr 2
  omega
theorem own_cap {w : World} {base e size n c : Nat} {A : Option Addr} {xs : List Value} (h : Own w base e size A n c xs) : n ≤ c := by
  rcases h.2 with ⟨hv, hn⟩ | ⟨_, _, _, hv, _, _, h3, _⟩
  · omega
  · injection hv with _ _ hc
    omega
/-- cells that read so, and an answer -/
def GivesPut (w : World) (A : Option Addr) (m : List Cl) (E : Int) (e : Ending) (w' : World) : Prop :=
  ∃ (A' : Option Addr) (c' : Nat), e = .returned (.tuple #[.slice A' m.length c', .int .i64 E]) ∧ Rd w' w'.heap.size A' (vals m) ∧ m.length ≤ c' ∧ Below w.heap.size w w' ∧ ∀ g, blk A' = some g → blk A = some g ∨ (w.heap.size ≤ g ∧ g < w'.heap.size)

set_option maxHeartbeats 2000000 in
theorem refPut_bad (A : Option Addr) (cap : Nat) (l : List Cl) (c : Cl) (w : World) (hl : Rd w w.heap.size A (vals l)) (hcap : l.length ≤ cap) (hm : may c = false) :
    Calls Try.prog 8 #[.slice A l.length cap, c.agg] w fun e w' => GivesPut w A (put l c) (putE l c) e w' := by
  have hp : put l c = l ∧ putE l c = 1 := by
    unfold put putE
    rw [hm]
    exact ⟨rfl, rfl⟩
  rw [hp.1, hp.2]
  have HL := Lib.hid hl
  clear hl hp
  have hX := CBox.new w c
  obtain ⟨W0, hW0⟩ : ∃ W0, w.alloc (.cells #[.string c.row, .string c.col, .int .u64 c.ts, .int .u64 c.seq, .bool c.del, .string c.val] 31) = W0 := ⟨_, rfl⟩
  rw [hW0] at hX
  have hB0 : Below w.heap.size w W0 := by rw [← hW0]; exact (Below.refl _ w).alloc (Nat.le_refl _) _
  obtain ⟨x0, x1, x2, x3, x4, x5⟩ := hX.cells
  have HX := Lib.hid hX
  have HB0 := Lib.hid hB0
  clear hX hB0
  unfold Cl.agg
  go_enter Try.func8, Try.ntmps8
  go_wp2_with (go_at_call 21; refine (refMay_any c _).mono ?_; rw [hm]; rintro e w2 ⟨rfl, hb2⟩; have HB2 := Lib.hid (HB0.out.trans (hb2.mono HB0.out.size)); clear hb2)
  go_ret2
  exact ⟨A, cap, rfl, (HL.out.below HB2.out).more HB2.out.size, hcap, HB2.out, fun _ h => .inl h⟩

set_option maxRecDepth 10000 in
set_option maxHeartbeats 8000000 in
theorem refPut_may (A : Option Addr) (cap : Nat) (l : List Cl) (c : Cl) (w : World) (hl : Rd w w.heap.size A (vals l)) (hcap : l.length ≤ cap) (hlen : l.length ≤ 1000) (hu : Up l) (hm : may c = true) :
    Calls Try.prog 8 #[.slice A l.length cap, c.agg] w fun e w' => GivesPut w A (put l c) (putE l c) e w' := by
  obtain ⟨i0, hi0, hz0, hz1, hz2⟩ := info_parts cellInfo12
  have HL := Lib.hid hl
  have HU := Lib.hid hu
  have HM := Lib.hid hm
  clear hl hu hm
  have hX := CBox.new w c
  obtain ⟨W0, hW0⟩ : ∃ W0, w.alloc (.cells #[.string c.row, .string c.col, .int .u64 c.ts, .int .u64 c.seq, .bool c.del, .string c.val] 31) = W0 := ⟨_, rfl⟩
  rw [hW0] at hX
  have hB0 : Below w.heap.size w W0 := by rw [← hW0]; exact (Below.refl _ w).alloc (Nat.le_refl _) _
  obtain ⟨x0, x1, x2, x3, x4, x5⟩ := hX.cells
  have HX := Lib.hid hX
  have HB0 := Lib.hid hB0
  clear hX hB0
  unfold Cl.agg
  go_enter Try.func8, Try.ntmps8
  go_wp2_with (go_at_call 21; refine (refMay_any c _).mono ?_; rw [HM.out]; rintro e w2 ⟨rfl, hb2⟩; have HB2 := Lib.hid (HB0.out.trans (hb2.mono HB0.out.size)); have HX2 := Lib.hid (HX.out.below hb2 HX.out.lt); clear hb2 x0 x1 x2 x3 x4 x5)
  go_loopw [6] (fun i wr => ∃ k : Nat, i = .int .i64 k ∧ k ≤ l.length ∧ Hid ((∀ j (h : j < l.length), j < k → l[j].cmp c < 0) ∧ Below w.heap.size w wr ∧ CBox wr w.heap.size c)) (fun i _ => l.length - (intOf i).toNat)
  case atStart => exact ⟨0, rfl, Nat.zero_le _, Lib.hid ⟨fun j _ h => by omega, HB2.out, HX2.out⟩⟩
  case round =>
    obtain ⟨k, rfl, hk, HS⟩ := hrel
    rename World => wz
    have HLz := Lib.hid (HL.out.below HS.out.2.1)
    by_cases hlt : k < l.length
    · obtain ⟨b, o, rfl, hb, hrg⟩ := HLz.out.range hlt
      have HC : wz.drew.rangeAt b (o + k * 6) l[k].vals ∧ wz.drew.rangeAt w.heap.size 0 c.vals := ⟨hrg, HS.out.2.2.range⟩
      have hd : decide ((k : Int) < (l.length : Int)) = true := decide_eq_true (by omega)
      have hd2 : decide (k < l.length) = true := decide_eq_true hlt
      have i1 : (0 : Int) ≤ (k : Int) := by omega
      have i2 : (k : Int) < (l.length : Int) := by omega
      clear hrg
      go_wp2
      refine region_wz (fun W' => W'.rangeAt b (o + k * 6) l[k].vals ∧ W'.rangeAt w.heap.size 0 c.vals) none (by kernel_rfl) ?_
      apply WZ.take (i := 0) (some 11) rfl rfl (by kernel_rfl) (by kernel_rfl) (by kernel_rfl) (calm_panic _) (by kernel_rfl)
      case hy => (refine .inl ⟨by kernel_rfl, fun W hC => ?_⟩; (try dsimp only at hC); go_simp; rfl)
      case hC => exact HC
      case ha => (simp only [Act.put, List.setIfInBounds_toArray, List.set_cons_zero, List.set_cons_succ]; rfl)
      apply WZ.take (i := 1) (some 12) rfl rfl (by kernel_rfl) (by kernel_rfl) (by kernel_rfl) (calm_panic _) (by kernel_rfl)
      case hy => (refine .inl ⟨by kernel_rfl, fun W hC => ?_⟩; (try dsimp only at hC); go_simp; rfl)
      case hC => exact HC
      case ha => (simp only [Act.put, List.setIfInBounds_toArray, List.set_cons_zero, List.set_cons_succ]; rfl)
      apply WZ.take (i := 2) (some 13) rfl rfl (by kernel_rfl) (by kernel_rfl) (by kernel_rfl) (calm_panic _) (by kernel_rfl)
      case hy => (refine .inl ⟨by kernel_rfl, fun W hC => ?_⟩; (try dsimp only at hC); go_simp; rfl)
      case hC => exact HC
      case ha => (simp only [Act.put, List.setIfInBounds_toArray, List.set_cons_zero, List.set_cons_succ]; rfl)
      apply WZ.take (i := 3) (some 14) rfl rfl (by kernel_rfl) (by kernel_rfl) (by kernel_rfl) (calm_panic _) (by kernel_rfl)
      case hy => (refine .inl ⟨by kernel_rfl, fun W hC => ?_⟩; (try dsimp only at hC); go_simp; rfl)
      case hC => exact HC
      case ha => (simp only [Act.put, List.setIfInBounds_toArray, List.set_cons_zero, List.set_cons_succ]; rfl)
      apply WZ.take (i := 4) (some 15) rfl rfl (by kernel_rfl) (by kernel_rfl) (by kernel_rfl) (calm_panic _) (by kernel_rfl)
      case hy => (refine .inl ⟨by kernel_rfl, fun W hC => ?_⟩; (try dsimp only at hC); go_simp; rfl)
      case hC => exact HC
      case ha => (simp only [Act.put, List.setIfInBounds_toArray, List.set_cons_zero, List.set_cons_succ]; rfl)
      apply WZ.take (i := 5) (some 16) rfl rfl (by kernel_rfl) (by kernel_rfl) (by kernel_rfl) (calm_panic _) (by kernel_rfl)
      case hy => (refine .inl ⟨by kernel_rfl, fun W hC => ?_⟩; (try dsimp only at hC); go_simp; rfl)
      case hC => exact HC
      case ha => (simp only [Act.put, List.setIfInBounds_toArray, List.set_cons_zero, List.set_cons_succ]; rfl)
      apply WZ.take (i := 6) (some 17) rfl rfl (by kernel_rfl) (by kernel_rfl) (by kernel_rfl) (calm_panic _) (by kernel_rfl)
      case hy => (refine .inl ⟨by kernel_rfl, fun W hC => ?_⟩; (try dsimp only at hC); go_simp; rfl)
      case hC => exact HC
      case ha => (simp only [Act.put, List.setIfInBounds_toArray, List.set_cons_zero, List.set_cons_succ]; rfl)
      apply WZ.take (i := 7) (some 18) rfl rfl (by kernel_rfl) (by kernel_rfl) (by kernel_rfl) (calm_panic _) (by kernel_rfl)
      case hy => (refine .inl ⟨by kernel_rfl, fun W hC => ?_⟩; (try dsimp only at hC); go_simp; rfl)
      case hC => exact HC
      case ha => (simp only [Act.put, List.setIfInBounds_toArray, List.set_cons_zero, List.set_cons_succ]; rfl)
      apply WZ.take (i := 8) (some 19) rfl rfl (by kernel_rfl) (by kernel_rfl) (by kernel_rfl) (calm_panic _) (by kernel_rfl)
      case hy => first | (apply yieldsIf_load_mid (by kernel_rfl) _ _ rfl _ _ rfl; (case hS => (intro W hC; exact (show World.rangeAt _ _ _ (Cl.vals _) from hC.1))); (case hu => exact Try.underlying31); (case hd => rfl); (case hi => kernel_rfl)) | (apply yieldsIf_load_mid (by kernel_rfl) _ _ rfl _ _ rfl; (case hS => (intro W hC; exact (show World.rangeAt _ _ _ (Cl.vals _) from hC.2.1))); (case hu => exact Try.underlying31); (case hd => rfl); (case hi => kernel_rfl)) | (apply yieldsIf_load_mid (by kernel_rfl) _ _ rfl _ _ rfl; (case hS => (intro W hC; exact (show World.rangeAt _ _ _ (Cl.vals _) from hC.2.2.1))); (case hu => exact Try.underlying31); (case hd => rfl); (case hi => kernel_rfl)) | (apply yieldsIf_load_mid (by kernel_rfl) _ _ rfl _ _ rfl; (case hS => (intro W hC; exact (show World.rangeAt _ _ _ (Cl.vals _) from hC.2.2.2.1))); (case hu => exact Try.underlying31); (case hd => rfl); (case hi => kernel_rfl)) | (apply yieldsIf_load_mid (by kernel_rfl) _ _ rfl _ _ rfl; (case hS => (intro W hC; exact (show World.rangeAt _ _ _ (Cl.vals _) from hC.2.2.2))); (case hu => exact Try.underlying31); (case hd => rfl); (case hi => kernel_rfl)) | (apply yieldsIf_load_mid (by kernel_rfl) _ _ rfl _ _ rfl; (case hS => (intro W hC; exact (show World.rangeAt _ _ _ (Cl.vals _) from hC.2.2))); (case hu => exact Try.underlying31); (case hd => rfl); (case hi => kernel_rfl)) | (apply yieldsIf_load_mid (by kernel_rfl) _ _ rfl _ _ rfl; (case hS => (intro W hC; exact (show World.rangeAt _ _ _ (Cl.vals _) from hC.2))); (case hu => exact Try.underlying31); (case hd => rfl); (case hi => kernel_rfl)) | (apply yieldsIf_load_mid (by kernel_rfl) _ _ rfl _ _ rfl; (case hS => (intro W hC; exact (show World.rangeAt _ _ _ (Cl.vals _) from hC))); (case hu => exact Try.underlying31); (case hd => rfl); (case hi => kernel_rfl))
      case hC => exact HC
      case ha => (simp only [Act.put, List.setIfInBounds_toArray, List.set_cons_zero, List.set_cons_succ]; rfl)
      apply WZ.take (i := 9) (some 20) rfl rfl (by kernel_rfl) (by kernel_rfl) (by kernel_rfl) (calm_panic _) (by kernel_rfl)
      case hy => first | (apply yieldsIf_load_mid (by kernel_rfl) _ _ rfl _ _ rfl; (case hS => (intro W hC; exact (show World.rangeAt _ _ _ (Cl.vals _) from hC.1))); (case hu => exact Try.underlying31); (case hd => rfl); (case hi => kernel_rfl)) | (apply yieldsIf_load_mid (by kernel_rfl) _ _ rfl _ _ rfl; (case hS => (intro W hC; exact (show World.rangeAt _ _ _ (Cl.vals _) from hC.2.1))); (case hu => exact Try.underlying31); (case hd => rfl); (case hi => kernel_rfl)) | (apply yieldsIf_load_mid (by kernel_rfl) _ _ rfl _ _ rfl; (case hS => (intro W hC; exact (show World.rangeAt _ _ _ (Cl.vals _) from hC.2.2.1))); (case hu => exact Try.underlying31); (case hd => rfl); (case hi => kernel_rfl)) | (apply yieldsIf_load_mid (by kernel_rfl) _ _ rfl _ _ rfl; (case hS => (intro W hC; exact (show World.rangeAt _ _ _ (Cl.vals _) from hC.2.2.2.1))); (case hu => exact Try.underlying31); (case hd => rfl); (case hi => kernel_rfl)) | (apply yieldsIf_load_mid (by kernel_rfl) _ _ rfl _ _ rfl; (case hS => (intro W hC; exact (show World.rangeAt _ _ _ (Cl.vals _) from hC.2.2.2))); (case hu => exact Try.underlying31); (case hd => rfl); (case hi => kernel_rfl)) | (apply yieldsIf_load_mid (by kernel_rfl) _ _ rfl _ _ rfl; (case hS => (intro W hC; exact (show World.rangeAt _ _ _ (Cl.vals _) from hC.2.2))); (case hu => exact Try.underlying31); (case hd => rfl); (case hi => kernel_rfl)) | (apply yieldsIf_load_mid (by kernel_rfl) _ _ rfl _ _ rfl; (case hS => (intro W hC; exact (show World.rangeAt _ _ _ (Cl.vals _) from hC.2))); (case hu => exact Try.underlying31); (case hd => rfl); (case hi => kernel_rfl)) | (apply yieldsIf_load_mid (by kernel_rfl) _ _ rfl _ _ rfl; (case hS => (intro W hC; exact (show World.rangeAt _ _ _ (Cl.vals _) from hC))); (case hu => exact Try.underlying31); (case hd => rfl); (case hi => kernel_rfl))
      case hC => exact HC
      case ha => (simp only [Act.put, List.setIfInBounds_toArray, List.set_cons_zero, List.set_cons_succ]; rfl)
      -- 10
      refine WZ.one (i := 10) rfl (by kernel_rfl) ?_
      conv => arg 4; arg 1; whnf
      go_wp2_with (go_at_call 22; refine (refCmp_any l[k] c _).mono ?_; rintro e w4 ⟨rfl, hb4⟩)
      have HB4 := Lib.hid (HS.out.2.1.trans ((below_of_drew' hb4).mono HS.out.2.1.size))
      have HX4 := Lib.hid (HS.out.2.2.below (w := wz) (below_of_drew' hb4) HS.out.2.2.lt)
      obtain ⟨b', o', e', hb', hrg'⟩ := (HL.out.below HB4.out).range hlt
      obtain ⟨rfl, rfl⟩ : b = b' ∧ o = o' := by injection e' with e'; injection e' with e1 e2; exact ⟨e1, e2⟩
      clear HC hb4 e' hb'
      have HC : w4.rangeAt b (o + k * 6) l[k].vals ∧ w4.rangeAt w.heap.size 0 c.vals := ⟨hrg', HX4.out.range⟩
      clear hrg'
      refine ⟨HC, ?_⟩
      apply WZ.take (i := 11) (some 22) rfl rfl (by kernel_rfl) (by kernel_rfl) (by kernel_rfl) (calm_panic _) (by kernel_rfl)
      case hy => (refine .inl ⟨by kernel_rfl, fun W hC => ?_⟩; (try dsimp only at hC); go_simp; rfl)
      case hC => exact HC
      case ha => (simp only [Act.put, List.setIfInBounds_toArray, List.set_cons_zero, List.set_cons_succ]; rfl)
      apply WZ.take (i := 12) (some 23) rfl rfl (by kernel_rfl) (by kernel_rfl) (by kernel_rfl) (calm_panic _) (by kernel_rfl)
      case hy => (refine .inl ⟨by kernel_rfl, fun W hC => ?_⟩; (try dsimp only at hC); go_simp; rfl)
      case hC => exact HC
      case ha => (simp only [Act.put, List.setIfInBounds_toArray, List.set_cons_zero, List.set_cons_succ]; rfl)
      refine WZ.done (by kernel_rfl) ?_ _
      simp only [Calm, Exit.then]
      by_cases hneg : l[k].cmp c < 0
      · have t1 : decide (l[k].cmp c < 0) = true := decide_eq_true hneg
        have HN := Lib.hid (show ∀ j (h : j < l.length), j < k + 1 → l[j].cmp c < 0 from fun j h hj => by
          by_cases e : j = k
          · subst e; exact hneg
          · exact HS.out.1 j h (by omega))
        have hw1 : IntKind.i64.wrap ((k : Int) + 1) = ((k + 1 : Nat) : Int) := by rw [IntWalk.i64_in _ (by omega)]; omega
        clear HC
        go_wp2
        exact ⟨⟨k + 1, by first | rfl | go_num, by omega, Lib.hid ⟨HN.out, HB4.out, HX4.out⟩⟩, by simp [intOf]; omega⟩
      · have t1 : decide (l[k].cmp c < 0) = false := decide_eq_false hneg
        have HC2 : w4.drew.rangeAt b (o + k * 6) l[k].vals ∧ w4.drew.rangeAt w.heap.size 0 c.vals := HC
        clear HC
        have HC := HC2
        clear HC2
        go_wp2
        refine region_wz (fun W' => W'.rangeAt b (o + k * 6) l[k].vals ∧ W'.rangeAt w.heap.size 0 c.vals) none (by kernel_rfl) ?_
        apply WZ.take (i := 0) (some 26) rfl rfl (by kernel_rfl) (by kernel_rfl) (by kernel_rfl) (calm_panic _) (by kernel_rfl)
        case hy => (refine .inl ⟨by kernel_rfl, fun W hC => ?_⟩; (try dsimp only at hC); go_simp; rfl)
        case hC => exact HC
        case ha => (simp only [Act.put, List.setIfInBounds_toArray, List.set_cons_zero, List.set_cons_succ]; rfl)
        apply WZ.take (i := 1) (some 27) rfl rfl (by kernel_rfl) (by kernel_rfl) (by kernel_rfl) (calm_panic _) (by kernel_rfl)
        case hy => (refine .inl ⟨by kernel_rfl, fun W hC => ?_⟩; (try dsimp only at hC); go_simp; rfl)
        case hC => exact HC
        case ha => (simp only [Act.put, List.setIfInBounds_toArray, List.set_cons_zero, List.set_cons_succ]; rfl)
        apply WZ.take (i := 2) (some 28) rfl rfl (by kernel_rfl) (by kernel_rfl) (by kernel_rfl) (calm_panic _) (by kernel_rfl)
        case hy => (refine .inl ⟨by kernel_rfl, fun W hC => ?_⟩; (try dsimp only at hC); go_simp; rfl)
        case hC => exact HC
        case ha => (simp only [Act.put, List.setIfInBounds_toArray, List.set_cons_zero, List.set_cons_succ]; rfl)
        apply WZ.take (i := 3) (some 29) rfl rfl (by kernel_rfl) (by kernel_rfl) (by kernel_rfl) (calm_panic _) (by kernel_rfl)
        case hy => (refine .inl ⟨by kernel_rfl, fun W hC => ?_⟩; (try dsimp only at hC); go_simp; rfl)
        case hC => exact HC
        case ha => (simp only [Act.put, List.setIfInBounds_toArray, List.set_cons_zero, List.set_cons_succ]; rfl)
        apply WZ.take (i := 4) (some 30) rfl rfl (by kernel_rfl) (by kernel_rfl) (by kernel_rfl) (calm_panic _) (by kernel_rfl)
        case hy => (refine .inl ⟨by kernel_rfl, fun W hC => ?_⟩; (try dsimp only at hC); go_simp; rfl)
        case hC => exact HC
        case ha => (simp only [Act.put, List.setIfInBounds_toArray, List.set_cons_zero, List.set_cons_succ]; rfl)
        apply WZ.take (i := 5) (some 31) rfl rfl (by kernel_rfl) (by kernel_rfl) (by kernel_rfl) (calm_panic _) (by kernel_rfl)
        case hy => (refine .inl ⟨by kernel_rfl, fun W hC => ?_⟩; (try dsimp only at hC); go_simp; rfl)
        case hC => exact HC
        case ha => (simp only [Act.put, List.setIfInBounds_toArray, List.set_cons_zero, List.set_cons_succ]; rfl)
        apply WZ.take (i := 6) (some 32) rfl rfl (by kernel_rfl) (by kernel_rfl) (by kernel_rfl) (calm_panic _) (by kernel_rfl)
        case hy => (refine .inl ⟨by kernel_rfl, fun W hC => ?_⟩; (try dsimp only at hC); go_simp; rfl)
        case hC => exact HC
        case ha => (simp only [Act.put, List.setIfInBounds_toArray, List.set_cons_zero, List.set_cons_succ]; rfl)
        apply WZ.take (i := 7) (some 33) rfl rfl (by kernel_rfl) (by kernel_rfl) (by kernel_rfl) (calm_panic _) (by kernel_rfl)
        case hy => (refine .inl ⟨by kernel_rfl, fun W hC => ?_⟩; (try dsimp only at hC); go_simp; rfl)
        case hC => exact HC
        case ha => (simp only [Act.put, List.setIfInBounds_toArray, List.set_cons_zero, List.set_cons_succ]; rfl)
        apply WZ.take (i := 8) (some 34) rfl rfl (by kernel_rfl) (by kernel_rfl) (by kernel_rfl) (calm_panic _) (by kernel_rfl)
        case hy => first | (apply yieldsIf_load_mid (by kernel_rfl) _ _ rfl _ _ rfl; (case hS => (intro W hC; exact (show World.rangeAt _ _ _ (Cl.vals _) from hC.1))); (case hu => exact Try.underlying31); (case hd => rfl); (case hi => kernel_rfl)) | (apply yieldsIf_load_mid (by kernel_rfl) _ _ rfl _ _ rfl; (case hS => (intro W hC; exact (show World.rangeAt _ _ _ (Cl.vals _) from hC.2.1))); (case hu => exact Try.underlying31); (case hd => rfl); (case hi => kernel_rfl)) | (apply yieldsIf_load_mid (by kernel_rfl) _ _ rfl _ _ rfl; (case hS => (intro W hC; exact (show World.rangeAt _ _ _ (Cl.vals _) from hC.2.2.1))); (case hu => exact Try.underlying31); (case hd => rfl); (case hi => kernel_rfl)) | (apply yieldsIf_load_mid (by kernel_rfl) _ _ rfl _ _ rfl; (case hS => (intro W hC; exact (show World.rangeAt _ _ _ (Cl.vals _) from hC.2.2.2.1))); (case hu => exact Try.underlying31); (case hd => rfl); (case hi => kernel_rfl)) | (apply yieldsIf_load_mid (by kernel_rfl) _ _ rfl _ _ rfl; (case hS => (intro W hC; exact (show World.rangeAt _ _ _ (Cl.vals _) from hC.2.2.2))); (case hu => exact Try.underlying31); (case hd => rfl); (case hi => kernel_rfl)) | (apply yieldsIf_load_mid (by kernel_rfl) _ _ rfl _ _ rfl; (case hS => (intro W hC; exact (show World.rangeAt _ _ _ (Cl.vals _) from hC.2.2))); (case hu => exact Try.underlying31); (case hd => rfl); (case hi => kernel_rfl)) | (apply yieldsIf_load_mid (by kernel_rfl) _ _ rfl _ _ rfl; (case hS => (intro W hC; exact (show World.rangeAt _ _ _ (Cl.vals _) from hC.2))); (case hu => exact Try.underlying31); (case hd => rfl); (case hi => kernel_rfl)) | (apply yieldsIf_load_mid (by kernel_rfl) _ _ rfl _ _ rfl; (case hS => (intro W hC; exact (show World.rangeAt _ _ _ (Cl.vals _) from hC))); (case hu => exact Try.underlying31); (case hd => rfl); (case hi => kernel_rfl))
        case hC => exact HC
        case ha => (simp only [Act.put, List.setIfInBounds_toArray, List.set_cons_zero, List.set_cons_succ]; rfl)
        apply WZ.take (i := 9) (some 35) rfl rfl (by kernel_rfl) (by kernel_rfl) (by kernel_rfl) (calm_panic _) (by kernel_rfl)
        case hy => first | (apply yieldsIf_load_mid (by kernel_rfl) _ _ rfl _ _ rfl; (case hS => (intro W hC; exact (show World.rangeAt _ _ _ (Cl.vals _) from hC.1))); (case hu => exact Try.underlying31); (case hd => rfl); (case hi => kernel_rfl)) | (apply yieldsIf_load_mid (by kernel_rfl) _ _ rfl _ _ rfl; (case hS => (intro W hC; exact (show World.rangeAt _ _ _ (Cl.vals _) from hC.2.1))); (case hu => exact Try.underlying31); (case hd => rfl); (case hi => kernel_rfl)) | (apply yieldsIf_load_mid (by kernel_rfl) _ _ rfl _ _ rfl; (case hS => (intro W hC; exact (show World.rangeAt _ _ _ (Cl.vals _) from hC.2.2.1))); (case hu => exact Try.underlying31); (case hd => rfl); (case hi => kernel_rfl)) | (apply yieldsIf_load_mid (by kernel_rfl) _ _ rfl _ _ rfl; (case hS => (intro W hC; exact (show World.rangeAt _ _ _ (Cl.vals _) from hC.2.2.2.1))); (case hu => exact Try.underlying31); (case hd => rfl); (case hi => kernel_rfl)) | (apply yieldsIf_load_mid (by kernel_rfl) _ _ rfl _ _ rfl; (case hS => (intro W hC; exact (show World.rangeAt _ _ _ (Cl.vals _) from hC.2.2.2))); (case hu => exact Try.underlying31); (case hd => rfl); (case hi => kernel_rfl)) | (apply yieldsIf_load_mid (by kernel_rfl) _ _ rfl _ _ rfl; (case hS => (intro W hC; exact (show World.rangeAt _ _ _ (Cl.vals _) from hC.2.2))); (case hu => exact Try.underlying31); (case hd => rfl); (case hi => kernel_rfl)) | (apply yieldsIf_load_mid (by kernel_rfl) _ _ rfl _ _ rfl; (case hS => (intro W hC; exact (show World.rangeAt _ _ _ (Cl.vals _) from hC.2))); (case hu => exact Try.underlying31); (case hd => rfl); (case hi => kernel_rfl)) | (apply yieldsIf_load_mid (by kernel_rfl) _ _ rfl _ _ rfl; (case hS => (intro W hC; exact (show World.rangeAt _ _ _ (Cl.vals _) from hC))); (case hu => exact Try.underlying31); (case hd => rfl); (case hi => kernel_rfl))
        case hC => exact HC
        case ha => (simp only [Act.put, List.setIfInBounds_toArray, List.set_cons_zero, List.set_cons_succ]; rfl)
        -- 10
        refine WZ.one (i := 10) rfl (by kernel_rfl) ?_
        conv => arg 4; arg 1; whnf
        go_wp2_with (go_at_call 22; refine (refCmp_any l[k] c _).mono ?_; rintro e w5 ⟨rfl, hb5⟩)
        have HB5 := Lib.hid (HB4.out.trans ((below_of_drew' hb5).mono HB4.out.size))
        have HX5 := Lib.hid (HX4.out.below (w := w4) (below_of_drew' hb5) HX4.out.lt)
        obtain ⟨b', o', e', hb', hrg'⟩ := (HL.out.below HB5.out).range hlt
        obtain ⟨rfl, rfl⟩ : b = b' ∧ o = o' := by injection e' with e'; injection e' with e1 e2; exact ⟨e1, e2⟩
        clear HC hb5 e' hb'
        have HC : w5.rangeAt b (o + k * 6) l[k].vals ∧ w5.rangeAt w.heap.size 0 c.vals := ⟨hrg', HX5.out.range⟩
        clear hrg'
        refine ⟨HC, ?_⟩
        apply WZ.take (i := 11) (some 37) rfl rfl (by kernel_rfl) (by kernel_rfl) (by kernel_rfl) (calm_panic _) (by kernel_rfl)
        case hy => (refine .inl ⟨by kernel_rfl, fun W hC => ?_⟩; (try dsimp only at hC); go_simp; rfl)
        case hC => exact HC
        case ha => (simp only [Act.put, List.setIfInBounds_toArray, List.set_cons_zero, List.set_cons_succ]; rfl)
        apply WZ.take (i := 12) (some 38) rfl rfl (by kernel_rfl) (by kernel_rfl) (by kernel_rfl) (calm_panic _) (by kernel_rfl)
        case hy => (refine .inl ⟨by kernel_rfl, fun W hC => ?_⟩; (try dsimp only at hC); go_simp; rfl)
        case hC => exact HC
        case ha => (simp only [Act.put, List.setIfInBounds_toArray, List.set_cons_zero, List.set_cons_succ]; rfl)
        refine WZ.done (by kernel_rfl) ?_ _
        simp only [Calm, Exit.then]
        clear HC
        by_cases heq : l[k].cmp c = 0
        · have t2 : decide (l[k].cmp c = 0) = true := decide_eq_true heq
          have t3 : (l[k].cmp c == 0) = true := beq_iff_eq.2 heq
          have HP : Hid (put l c = l ∧ putE l c = 4) := Lib.hid (by
            have hh := scan_has hlt heq
            refine ⟨put_not (by unfold isPut; rw [hh]; simp), ?_⟩
            unfold putE
            rw [HM.out, hh]
            rfl)
          have hkeep := heq
          go_wp2
          go_ret2
          rw [HP.out.1, HP.out.2]
          exact ⟨some ⟨b, o, none⟩, cap, rfl, (HL.out.below HB5.out).more HB5.out.size, hcap, HB5.out, fun _ h => .inl h⟩
        · have t2 : decide (l[k].cmp c = 0) = false := decide_eq_false heq
          have t3 : (l[k].cmp c == 0) = false := beq_eq_false_iff_ne.2 heq
          have HP := Lib.hid (scan_put HM.out HU.out hk HS.out.1 (fun _ => ⟨by omega, heq⟩))
          have HX3 := HX5
          have HB3 := HB5
          have HL3 := Lib.hid ((HL.out.below HB5.out).more HB5.out.size)
          have hkeep := heq
          go_wp2
          have hsl1 := fun W => run_front (P := Try.prog) (t := 22) (e := 31) (size := 6) Try.underlying22 hi0 hz1 (some ⟨b, o, none⟩) l.length cap k (by omega) W
          have hsl2 := fun W => run_tail (P := Try.prog) (t := 22) (e := 31) (size := 6) Try.underlying22 hi0 hz1 (some ⟨b, o, none⟩) l.length cap k (by omega) W
          obtain ⟨At, hAt⟩ : ∃ At, tailA (some ⟨b, o, none⟩) cap k 6 = At := ⟨_, rfl⟩
          obtain ⟨S0, hS0⟩ : ∃ S0, w5.heap.size = S0 := ⟨_, rfl⟩
          obtain ⟨CC, hCD⟩ : ∃ CC : World → Prop, ∀ W, CC W ↔ (CBox W w.heap.size c ∧ Rd W S0 (some ⟨b, o, none⟩) (vals l) ∧ S0 ≤ W.heap.size ∧ Below w.heap.size w W) := ⟨fun W => CBox W w.heap.size c ∧ Rd W S0 (some ⟨b, o, none⟩) (vals l) ∧ S0 ≤ W.heap.size ∧ Below w.heap.size w W, fun _ => Iff.rfl⟩
          have hwS : w.heap.size < S0 := by rw [← hS0]; exact HX3.out.lt
          have hCC8 : ∀ W W', Below S0 W W' → CC W → CC W' := by
            intro W W' hb hc
            obtain ⟨h1, h2, h3, h4⟩ := (hCD _).1 hc
            exact (hCD _).2 ⟨h1.below hb hwS, h2.below hb, Nat.le_trans h3 hb.size, h4.trans (hb.mono (Nat.le_of_lt hwS))⟩
          have hsz : ∀ W, CC W → S0 ≤ W.heap.size := fun W h => ((hCD _).1 h).2.2.1
          have hmk : ∀ W, CC W → W.rangeAt w.heap.size 0 [.string c.row, .string c.col, .int .u64 c.ts, .int .u64 c.seq, .bool c.del, .string c.val] ∧ CC W := fun W h => ⟨((hCD _).1 h).1.range, h⟩
          have hal : ∀ (W : World) (ob : Obj), CC W → CC (W.alloc ob) := fun W ob h => hCC8 _ _ ((Below.refl S0 W).alloc (hsz _ h) ob) h
          have hnew0 : ∀ W, CC W → Own (W.alloc (.cells #[] 31)) S0 31 6 (some ⟨W.heap.size, 0, none⟩) 0 0 [] := fun W h => (Own.new0' W 31 6).lower (hsz _ h)
          have hnew1 : ∀ W g, CC W → W.heap.size = g → Rd (W.alloc (.cells #[.string c.row, .string c.col, .int .u64 c.ts, .int .u64 c.seq, .bool c.del, .string c.val] 31)) (W.alloc (.cells #[.string c.row, .string c.col, .int .u64 c.ts, .int .u64 c.seq, .bool c.del, .string c.val] 31)).heap.size (some ⟨g, 0, none⟩) c.vals := fun W g h hg => by
            rw [← hg]
            exact (Rd.all' W 31 c.vals _ W.heap.size rfl rfl).more (by rw [World.size_alloc]; omega)
          have hsrc1 : ∀ W, CC W → Rd W W.heap.size (some ⟨b, o, none⟩) (vals (l.take k)) := fun W h => (((hCD _).1 h).2.1.more (hsz _ h)).frontR Cl.vals_len (by omega)
          have hsrc2 : ∀ W, CC W → Rd W W.heap.size At (vals (l.drop k)) := fun W h => by
            rw [← hAt]
            exact (((hCD _).1 h).2.1.more (hsz _ h)).tailR Cl.vals_len rfl hcap (by omega)
          have hbw : ∀ W, CC W → Below w.heap.size w W := fun W h => ((hCD _).1 h).2.2.2
          have hl1 : (vals (l.take k)).length = k * 6 := by rw [length_vals, List.length_take]; omega
          have hl2 : (vals (l.drop k)).length = (l.length - k) * 6 := by rw [length_vals, List.length_drop]; omega
          have HC := hmk _ ((hCD _).2 ⟨HX3.out.keep (w' := w5.drew) rfl, (hS0 ▸ HL3.out : Rd w5.drew S0 (some ⟨b, o, none⟩) (vals l)), Nat.le_of_eq hS0.symm, HB3.out.drew⟩)
          rw [hAt] at hsl2
          clear hAt hCD hS0
          refine region_wz (fun W' => W'.rangeAt w.heap.size 0 [.string c.row, .string c.col, .int .u64 c.ts, .int .u64 c.seq, .bool c.del, .string c.val] ∧ CC W') none (by kernel_rfl) ?_
          apply WZ.take (i := 1) (some 41) rfl rfl (by kernel_rfl) (by kernel_rfl) (by kernel_rfl) (calm_panic _) (by kernel_rfl)
          case hy => (refine .inl ⟨by kernel_rfl, fun W hC => ?_⟩; (try dsimp only at hC); go_simp; (try simp only [hsl1,hsl2]); rfl)
          case hC => exact HC
          case ha => (simp only [Act.put, List.setIfInBounds_toArray, List.set_cons_zero, List.set_cons_succ]; rfl)
          apply WZ.take (i := 2) (some 42) rfl rfl (by kernel_rfl) (by kernel_rfl) (by kernel_rfl) (calm_panic _) (by kernel_rfl)
          case hy => (refine .inl ⟨by kernel_rfl, fun W hC => ?_⟩; (try dsimp only at hC); go_simp; (try simp only [hsl1,hsl2]); rfl)
          case hC => exact HC
          case ha => (simp only [Act.put, List.setIfInBounds_toArray, List.set_cons_zero, List.set_cons_succ]; rfl)
          apply WZ.take (i := 3) (some 43) rfl rfl (by kernel_rfl) (by kernel_rfl) (by kernel_rfl) (calm_panic _) (by kernel_rfl)
          case hy => (refine .inl ⟨by kernel_rfl, fun W hC => ?_⟩; (try dsimp only at hC); go_simp; (try simp only [hsl1,hsl2]); rfl)
          case hC => exact HC
          case ha => (simp only [Act.put, List.setIfInBounds_toArray, List.set_cons_zero, List.set_cons_succ]; rfl)
          apply WZ.take (i := 5) (some 45) rfl rfl (by kernel_rfl) (by kernel_rfl) (by kernel_rfl) (calm_panic _) (by kernel_rfl)
          case hy => first | (apply yieldsIf_load_mid (by kernel_rfl) _ _ rfl _ _ rfl; (case hS => (intro W hC; exact hC.1)); (case hu => exact Try.underlying31); (case hd => rfl); (case hi => kernel_rfl)) | (apply yieldsIf_load_mid (by kernel_rfl) _ _ rfl _ _ rfl; (case hS => (intro W hC; exact hC.2.1)); (case hu => exact Try.underlying31); (case hd => rfl); (case hi => kernel_rfl)) | (apply yieldsIf_load_mid (by kernel_rfl) _ _ rfl _ _ rfl; (case hS => (intro W hC; exact hC.2.2.1)); (case hu => exact Try.underlying31); (case hd => rfl); (case hi => kernel_rfl)) | (apply yieldsIf_load_mid (by kernel_rfl) _ _ rfl _ _ rfl; (case hS => (intro W hC; exact hC.2.2.2.1)); (case hu => exact Try.underlying31); (case hd => rfl); (case hi => kernel_rfl)) | (apply yieldsIf_load_mid (by kernel_rfl) _ _ rfl _ _ rfl; (case hS => (intro W hC; exact hC.2.2.2)); (case hu => exact Try.underlying31); (case hd => rfl); (case hi => kernel_rfl)) | (apply yieldsIf_load_mid (by kernel_rfl) _ _ rfl _ _ rfl; (case hS => (intro W hC; exact hC.2.2)); (case hu => exact Try.underlying31); (case hd => rfl); (case hi => kernel_rfl)) | (apply yieldsIf_load_mid (by kernel_rfl) _ _ rfl _ _ rfl; (case hS => (intro W hC; exact hC.2)); (case hu => exact Try.underlying31); (case hd => rfl); (case hi => kernel_rfl)) | (apply yieldsIf_load_mid (by kernel_rfl) _ _ rfl _ _ rfl; (case hS => (intro W hC; exact hC)); (case hu => exact Try.underlying31); (case hd => rfl); (case hi => kernel_rfl))
          case hC => exact HC
          case ha => (simp only [Act.put, List.setIfInBounds_toArray, List.set_cons_zero, List.set_cons_succ]; rfl)
          apply WZ.take (i := 8) (some 48) rfl rfl (by kernel_rfl) (by kernel_rfl) (by kernel_rfl) (calm_panic _) (by kernel_rfl)
          case hy => (refine .inl ⟨by kernel_rfl, fun W hC => ?_⟩; (try dsimp only at hC); go_simp; (try simp only [hsl1,hsl2]); rfl)
          case hC => exact HC
          case ha => (simp only [Act.put, List.setIfInBounds_toArray, List.set_cons_zero, List.set_cons_succ]; rfl)
          apply WZ.take (i := 9) (some 49) rfl rfl (by kernel_rfl) (by kernel_rfl) (by kernel_rfl) (calm_panic _) (by kernel_rfl)
          case hy => (refine .inl ⟨by kernel_rfl, fun W hC => ?_⟩; (try dsimp only at hC); go_simp; (try simp only [hsl1,hsl2]); rfl)
          case hC => exact HC
          case ha => (simp only [Act.put, List.setIfInBounds_toArray, List.set_cons_zero, List.set_cons_succ]; rfl)
          apply WZ.take (i := 10) (some 50) rfl rfl (by kernel_rfl) (by kernel_rfl) (by kernel_rfl) (calm_panic _) (by kernel_rfl)
          case hy => (refine .inl ⟨by kernel_rfl, fun W hC => ?_⟩; (try dsimp only at hC); go_simp; (try simp only [hsl1,hsl2]); rfl)
          case hC => exact HC
          case ha => (simp only [Act.put, List.setIfInBounds_toArray, List.set_cons_zero, List.set_cons_succ]; rfl)
          refine WZ.two (i := 0) (j := 6) rfl rfl (by kernel_rfl) ?_ ?_
          · conv => arg 4; arg 1; whnf
            go_wp2_with fail
            have hA0 := hnew0 _ HC.2
            try rw [World.size_alloc] at hA0
            have hA := own_any hA0
            clear hA0
            have HC2 := hmk _ (hal _ (.cells #[] 31) HC.2)
            try (have hR2 := hR.allocS (.cells #[] 31); clear hR; have hR := hR2; clear hR2)
            clear HC
            have HC := HC2
            clear HC2
            refine ⟨HC, ?_⟩
            refine WZ.two (i := 4) (j := 6) rfl rfl (by kernel_rfl) ?_ ?_
            · conv => arg 4; arg 1; whnf
              have hP := hsrc1 _ HC.2
              go_wp2_with (at_builtin; go_loud (refine wpList_app _ rfl _ _ _ rfl S0 31 i0 zeroCell 6 72 Try.underlying22 hi0 hz0 hz1 hz2 rfl (by decide) _ _ _ _ rfl (hA _ (by omega)) _ _ _ _ (vals (l.take k)) rfl hP hl1 (vals_one _) (by unfold maxLen; omega) (by omega) (hsz _ HC.2) ?_); intro A4 c4 w4 ho4 hg4 hat4)
              have HC2 := hmk _ (hCC8 _ _ (Own.grow (hA _ rfl) (Below.refl S0 _) (hsz _ HC.2) (Nat.le_refl _) hg4) HC.2)
              try (have hR2 := Rd.grownAt hR hg4 (by first | (simp [blk]; done) | (simp [blk]; omega)); clear hR; have hR := hR2; clear hR2)
              clear HC hA hP
              have HC := HC2
              have hA := own_any ho4
              clear HC2 ho4 hg4 hat4
              refine ⟨HC, ?_⟩
              -- 6
              refine WZ.one (i := 6) rfl (by kernel_rfl) ?_
              conv => arg 4; arg 1; whnf
              go_wp2_with fail
              first
                | have hR := hnew1 _ _ HC.2 (World.size_alloc _ _)
                | have hR := hnew1 _ _ HC.2 rfl
              have HC2 := hmk _ (hal _ (.cells #[.string c.row, .string c.col, .int .u64 c.ts, .int .u64 c.seq, .bool c.del, .string c.val] 31) HC.2)
              try (have hA2 := own_any (Own.alloc (hA _ rfl) (.cells #[.string c.row, .string c.col, .int .u64 c.ts, .int .u64 c.seq, .bool c.del, .string c.val] 31)); clear hA; have hA := hA2; clear hA2)
              clear HC
              have HC := HC2
              clear HC2
              refine ⟨HC, ?_⟩
              -- 7
              refine WZ.one (i := 7) rfl (by kernel_rfl) ?_
              conv => arg 4; arg 1; whnf
              go_wp2_with (at_builtin; go_loud (refine wpList_app _ rfl _ _ _ rfl S0 31 i0 zeroCell 6 72 Try.underlying22 hi0 hz0 hz1 hz2 rfl (by decide) _ _ _ _ rfl (hA _ (by omega)) _ _ _ _ c.vals rfl hR rfl (Cl.one c) (by unfold maxLen; omega) (by omega) (hsz _ HC.2) ?_); intro A4 c4 w4 ho4 hg4 hat4)
              have HC2 := hmk _ (hCC8 _ _ (Own.grow (hA _ rfl) (Below.refl S0 _) (hsz _ HC.2) (Nat.le_refl _) hg4) HC.2)
              clear HC hA hR
              have HC := HC2
              have hA := own_any ho4
              clear HC2 ho4 hg4 hat4
              refine ⟨HC, ?_⟩
              -- 11
              refine WZ.one (i := 11) rfl (by kernel_rfl) ?_
              conv => arg 4; arg 1; whnf
              have hP := hsrc2 _ HC.2
              go_wp2_with (at_builtin; go_loud (refine wpList_app _ rfl _ _ _ rfl S0 31 i0 zeroCell 6 72 Try.underlying22 hi0 hz0 hz1 hz2 rfl (by decide) _ _ _ _ rfl (hA _ (by omega)) _ _ _ _ (vals (l.drop k)) rfl hP hl2 (vals_one _) (by unfold maxLen; omega) (by omega) (hsz _ HC.2) ?_); intro A4 c4 w4 ho4 hg4 hat4)
              have HC2 := hmk _ (hCC8 _ _ (Own.grow (hA _ rfl) (Below.refl S0 _) (hsz _ HC.2) (Nat.le_refl _) hg4) HC.2)
              clear HC hA hP
              have HC := HC2
              have hA := own_any ho4
              clear HC2 ho4 hg4 hat4
              refine ⟨HC, ?_⟩
              apply WZ.take (i := 12) (some 4) rfl rfl (by kernel_rfl) (by kernel_rfl) (by kernel_rfl) (calm_panic _) (by kernel_rfl)
              case hy => (refine .inl ⟨by kernel_rfl, fun W hC => ?_⟩; (try dsimp only at hC); go_simp; (try simp only [hsl1,hsl2]); rfl)
              case hC => exact HC
              case ha => (simp only [Act.put, List.setIfInBounds_toArray, List.set_cons_zero, List.set_cons_succ]; rfl)
              apply WZ.take (i := 13) (some 5) rfl rfl (by kernel_rfl) (by kernel_rfl) (by kernel_rfl) (calm_panic _) (by kernel_rfl)
              case hy => (refine .inl ⟨by kernel_rfl, fun W hC => ?_⟩; (try dsimp only at hC); go_simp; (try simp only [hsl1,hsl2]); rfl)
              case hC => exact HC
              case ha => (simp only [Act.put, List.setIfInBounds_toArray, List.set_cons_zero, List.set_cons_succ]; rfl)
              refine WZ.done (by kernel_rfl) ?_ _
              simp only [Calm, Exit.then]
              have HR8 := Lib.hid (hA _ rfl)
              have HBW := Lib.hid (hbw _ HC.2)
              have hz8 := hsz _ HC.2
              clear HC hA
              go_wp2
              go_ret2
              rw [HP.out.1, HP.out.2]
              have hln : (l.take k ++ c :: l.drop k).length = k + 1 + (l.length - k) := by simp; omega
              have hvs : vals (l.take k ++ c :: l.drop k) = [] ++ vals (l.take k) ++ c.vals ++ vals (l.drop k) := by simp [vals]
              exact ⟨_, _, by rw [hln]; rfl, by rw [hvs]; exact Own.rd HR8.out (by omega), by rw [hln]; have := own_cap HR8.out; omega, HBW.out, fun g h => .inr ⟨by have := HR8.out.lt g h; omega, (HR8.out.lt g h).2⟩⟩
            · conv => arg 4; arg 1; whnf
              go_wp2_with fail
              first
                | have hR := hnew1 _ _ HC.2 (World.size_alloc _ _)
                | have hR := hnew1 _ _ HC.2 rfl
              have HC2 := hmk _ (hal _ (.cells #[.string c.row, .string c.col, .int .u64 c.ts, .int .u64 c.seq, .bool c.del, .string c.val] 31) HC.2)
              try (have hA2 := own_any (Own.alloc (hA _ rfl) (.cells #[.string c.row, .string c.col, .int .u64 c.ts, .int .u64 c.seq, .bool c.del, .string c.val] 31)); clear hA; have hA := hA2; clear hA2)
              clear HC
              have HC := HC2
              clear HC2
              refine ⟨HC, ?_⟩
              -- 4
              refine WZ.one (i := 4) rfl (by kernel_rfl) ?_
              conv => arg 4; arg 1; whnf
              have hP := hsrc1 _ HC.2
              go_wp2_with (at_builtin; go_loud (refine wpList_app _ rfl _ _ _ rfl S0 31 i0 zeroCell 6 72 Try.underlying22 hi0 hz0 hz1 hz2 rfl (by decide) _ _ _ _ rfl (hA _ (by omega)) _ _ _ _ (vals (l.take k)) rfl hP hl1 (vals_one _) (by unfold maxLen; omega) (by omega) (hsz _ HC.2) ?_); intro A4 c4 w4 ho4 hg4 hat4)
              have HC2 := hmk _ (hCC8 _ _ (Own.grow (hA _ rfl) (Below.refl S0 _) (hsz _ HC.2) (Nat.le_refl _) hg4) HC.2)
              try (have hR2 := Rd.grownAt hR hg4 (by first | (simp [blk]; done) | (simp [blk]; omega)); clear hR; have hR := hR2; clear hR2)
              clear HC hA hP
              have HC := HC2
              have hA := own_any ho4
              clear HC2 ho4 hg4 hat4
              refine ⟨HC, ?_⟩
              -- 7
              refine WZ.one (i := 7) rfl (by kernel_rfl) ?_
              conv => arg 4; arg 1; whnf
              go_wp2_with (at_builtin; go_loud (refine wpList_app _ rfl _ _ _ rfl S0 31 i0 zeroCell 6 72 Try.underlying22 hi0 hz0 hz1 hz2 rfl (by decide) _ _ _ _ rfl (hA _ (by omega)) _ _ _ _ c.vals rfl hR rfl (Cl.one c) (by unfold maxLen; omega) (by omega) (hsz _ HC.2) ?_); intro A4 c4 w4 ho4 hg4 hat4)
              have HC2 := hmk _ (hCC8 _ _ (Own.grow (hA _ rfl) (Below.refl S0 _) (hsz _ HC.2) (Nat.le_refl _) hg4) HC.2)
              clear HC hA hR
              have HC := HC2
              have hA := own_any ho4
              clear HC2 ho4 hg4 hat4
              refine ⟨HC, ?_⟩
              -- 11
              refine WZ.one (i := 11) rfl (by kernel_rfl) ?_
              conv => arg 4; arg 1; whnf
              have hP := hsrc2 _ HC.2
              go_wp2_with (at_builtin; go_loud (refine wpList_app _ rfl _ _ _ rfl S0 31 i0 zeroCell 6 72 Try.underlying22 hi0 hz0 hz1 hz2 rfl (by decide) _ _ _ _ rfl (hA _ (by omega)) _ _ _ _ (vals (l.drop k)) rfl hP hl2 (vals_one _) (by unfold maxLen; omega) (by omega) (hsz _ HC.2) ?_); intro A4 c4 w4 ho4 hg4 hat4)
              have HC2 := hmk _ (hCC8 _ _ (Own.grow (hA _ rfl) (Below.refl S0 _) (hsz _ HC.2) (Nat.le_refl _) hg4) HC.2)
              clear HC hA hP
              have HC := HC2
              have hA := own_any ho4
              clear HC2 ho4 hg4 hat4
              refine ⟨HC, ?_⟩
              apply WZ.take (i := 12) (some 4) rfl rfl (by kernel_rfl) (by kernel_rfl) (by kernel_rfl) (calm_panic _) (by kernel_rfl)
              case hy => (refine .inl ⟨by kernel_rfl, fun W hC => ?_⟩; (try dsimp only at hC); go_simp; (try simp only [hsl1,hsl2]); rfl)
              case hC => exact HC
              case ha => (simp only [Act.put, List.setIfInBounds_toArray, List.set_cons_zero, List.set_cons_succ]; rfl)
              apply WZ.take (i := 13) (some 5) rfl rfl (by kernel_rfl) (by kernel_rfl) (by kernel_rfl) (calm_panic _) (by kernel_rfl)
              case hy => (refine .inl ⟨by kernel_rfl, fun W hC => ?_⟩; (try dsimp only at hC); go_simp; (try simp only [hsl1,hsl2]); rfl)
              case hC => exact HC
              case ha => (simp only [Act.put, List.setIfInBounds_toArray, List.set_cons_zero, List.set_cons_succ]; rfl)
              refine WZ.done (by kernel_rfl) ?_ _
              simp only [Calm, Exit.then]
              have HR8 := Lib.hid (hA _ rfl)
              have HBW := Lib.hid (hbw _ HC.2)
              have hz8 := hsz _ HC.2
              clear HC hA
              go_wp2
              go_ret2
              rw [HP.out.1, HP.out.2]
              have hln : (l.take k ++ c :: l.drop k).length = k + 1 + (l.length - k) := by simp; omega
              have hvs : vals (l.take k ++ c :: l.drop k) = [] ++ vals (l.take k) ++ c.vals ++ vals (l.drop k) := by simp [vals]
              exact ⟨_, _, by rw [hln]; rfl, by rw [hvs]; exact Own.rd HR8.out (by omega), by rw [hln]; have := own_cap HR8.out; omega, HBW.out, fun g h => .inr ⟨by have := HR8.out.lt g h; omega, (HR8.out.lt g h).2⟩⟩
          · conv => arg 4; arg 1; whnf
            go_wp2_with fail
            first
              | have hR := hnew1 _ _ HC.2 (World.size_alloc _ _)
              | have hR := hnew1 _ _ HC.2 rfl
            have HC2 := hmk _ (hal _ (.cells #[.string c.row, .string c.col, .int .u64 c.ts, .int .u64 c.seq, .bool c.del, .string c.val] 31) HC.2)
            try (have hA2 := own_any (Own.alloc (hA _ rfl) (.cells #[.string c.row, .string c.col, .int .u64 c.ts, .int .u64 c.seq, .bool c.del, .string c.val] 31)); clear hA; have hA := hA2; clear hA2)
            clear HC
            have HC := HC2
            clear HC2
            refine ⟨HC, ?_⟩
            -- 0
            refine WZ.one (i := 0) rfl (by kernel_rfl) ?_
            conv => arg 4; arg 1; whnf
            go_wp2_with fail
            have hA0 := hnew0 _ HC.2
            try rw [World.size_alloc] at hA0
            have hA := own_any hA0
            clear hA0
            have HC2 := hmk _ (hal _ (.cells #[] 31) HC.2)
            try (have hR2 := hR.allocS (.cells #[] 31); clear hR; have hR := hR2; clear hR2)
            clear HC
            have HC := HC2
            clear HC2
            refine ⟨HC, ?_⟩
            -- 4
            refine WZ.one (i := 4) rfl (by kernel_rfl) ?_
            conv => arg 4; arg 1; whnf
            have hP := hsrc1 _ HC.2
            go_wp2_with (at_builtin; go_loud (refine wpList_app _ rfl _ _ _ rfl S0 31 i0 zeroCell 6 72 Try.underlying22 hi0 hz0 hz1 hz2 rfl (by decide) _ _ _ _ rfl (hA _ (by omega)) _ _ _ _ (vals (l.take k)) rfl hP hl1 (vals_one _) (by unfold maxLen; omega) (by omega) (hsz _ HC.2) ?_); intro A4 c4 w4 ho4 hg4 hat4)
            have HC2 := hmk _ (hCC8 _ _ (Own.grow (hA _ rfl) (Below.refl S0 _) (hsz _ HC.2) (Nat.le_refl _) hg4) HC.2)
            try (have hR2 := Rd.grownAt hR hg4 (by first | (simp [blk]; done) | (simp [blk]; omega)); clear hR; have hR := hR2; clear hR2)
            clear HC hA hP
            have HC := HC2
            have hA := own_any ho4
            clear HC2 ho4 hg4 hat4
            refine ⟨HC, ?_⟩
            -- 7
            refine WZ.one (i := 7) rfl (by kernel_rfl) ?_
            conv => arg 4; arg 1; whnf
            go_wp2_with (at_builtin; go_loud (refine wpList_app _ rfl _ _ _ rfl S0 31 i0 zeroCell 6 72 Try.underlying22 hi0 hz0 hz1 hz2 rfl (by decide) _ _ _ _ rfl (hA _ (by omega)) _ _ _ _ c.vals rfl hR rfl (Cl.one c) (by unfold maxLen; omega) (by omega) (hsz _ HC.2) ?_); intro A4 c4 w4 ho4 hg4 hat4)
            have HC2 := hmk _ (hCC8 _ _ (Own.grow (hA _ rfl) (Below.refl S0 _) (hsz _ HC.2) (Nat.le_refl _) hg4) HC.2)
            clear HC hA hR
            have HC := HC2
            have hA := own_any ho4
            clear HC2 ho4 hg4 hat4
            refine ⟨HC, ?_⟩
            -- 11
            refine WZ.one (i := 11) rfl (by kernel_rfl) ?_
            conv => arg 4; arg 1; whnf
            have hP := hsrc2 _ HC.2
            go_wp2_with (at_builtin; go_loud (refine wpList_app _ rfl _ _ _ rfl S0 31 i0 zeroCell 6 72 Try.underlying22 hi0 hz0 hz1 hz2 rfl (by decide) _ _ _ _ rfl (hA _ (by omega)) _ _ _ _ (vals (l.drop k)) rfl hP hl2 (vals_one _) (by unfold maxLen; omega) (by omega) (hsz _ HC.2) ?_); intro A4 c4 w4 ho4 hg4 hat4)
            have HC2 := hmk _ (hCC8 _ _ (Own.grow (hA _ rfl) (Below.refl S0 _) (hsz _ HC.2) (Nat.le_refl _) hg4) HC.2)
            clear HC hA hP
            have HC := HC2
            have hA := own_any ho4
            clear HC2 ho4 hg4 hat4
            refine ⟨HC, ?_⟩
            apply WZ.take (i := 12) (some 4) rfl rfl (by kernel_rfl) (by kernel_rfl) (by kernel_rfl) (calm_panic _) (by kernel_rfl)
            case hy => (refine .inl ⟨by kernel_rfl, fun W hC => ?_⟩; (try dsimp only at hC); go_simp; (try simp only [hsl1,hsl2]); rfl)
            case hC => exact HC
            case ha => (simp only [Act.put, List.setIfInBounds_toArray, List.set_cons_zero, List.set_cons_succ]; rfl)
            apply WZ.take (i := 13) (some 5) rfl rfl (by kernel_rfl) (by kernel_rfl) (by kernel_rfl) (calm_panic _) (by kernel_rfl)
            case hy => (refine .inl ⟨by kernel_rfl, fun W hC => ?_⟩; (try dsimp only at hC); go_simp; (try simp only [hsl1,hsl2]); rfl)
            case hC => exact HC
            case ha => (simp only [Act.put, List.setIfInBounds_toArray, List.set_cons_zero, List.set_cons_succ]; rfl)
            refine WZ.done (by kernel_rfl) ?_ _
            simp only [Calm, Exit.then]
            have HR8 := Lib.hid (hA _ rfl)
            have HBW := Lib.hid (hbw _ HC.2)
            have hz8 := hsz _ HC.2
            clear HC hA
            go_wp2
            go_ret2
            rw [HP.out.1, HP.out.2]
            have hln : (l.take k ++ c :: l.drop k).length = k + 1 + (l.length - k) := by simp; omega
            have hvs : vals (l.take k ++ c :: l.drop k) = [] ++ vals (l.take k) ++ c.vals ++ vals (l.drop k) := by simp [vals]
            exact ⟨_, _, by rw [hln]; rfl, by rw [hvs]; exact Own.rd HR8.out (by omega), by rw [hln]; have := own_cap HR8.out; omega, HBW.out, fun g h => .inr ⟨by have := HR8.out.lt g h; omega, (HR8.out.lt g h).2⟩⟩
    · have hk2 : k = l.length := by omega
      have hd : decide ((k : Int) < (l.length : Int)) = false := decide_eq_false (by omega)
      have hd2 : decide (k < l.length) = false := decide_eq_false hlt
      have HP := Lib.hid (scan_put HM.out HU.out hk HS.out.1 (fun h => absurd h hlt))
      have HX3 := HS.out.2.2
      have HX3 : Hid (CBox wz.drew.drew w.heap.size c) := Lib.hid HX3
      have HB3 : Hid (Below w.heap.size w wz.drew.drew) := Lib.hid HS.out.2.1.drew.drew
      have HL3 : Hid (Rd wz.drew.drew wz.drew.drew.heap.size A (vals l)) := Lib.hid (HLz.out.more HS.out.2.1.size)
      have HC : True := trivial
      clear hk2
      go_wp2
      refine region_wz (fun W' => True) none (by kernel_rfl) ?_
      apply WZ.take (i := 0) (some 11) rfl rfl (by kernel_rfl) (by kernel_rfl) (by kernel_rfl) (calm_panic _) (by kernel_rfl)
      case hy => (refine .inl ⟨by kernel_rfl, fun W hC => ?_⟩; (try dsimp only at hC); go_simp; rfl)
      case hC => exact HC
      case ha => (simp only [Act.put, List.setIfInBounds_toArray, List.set_cons_zero, List.set_cons_succ]; rfl)
      apply WZ.take (i := 1) (some 12) rfl rfl (by kernel_rfl) (by kernel_rfl) (by kernel_rfl) (calm_panic _) (by kernel_rfl)
      case hy => (refine .inl ⟨by kernel_rfl, fun W hC => ?_⟩; (try dsimp only at hC); go_simp; rfl)
      case hC => exact HC
      case ha => (simp only [Act.put, List.setIfInBounds_toArray, List.set_cons_zero, List.set_cons_succ]; rfl)
      apply WZ.take (i := 2) (some 13) rfl rfl (by kernel_rfl) (by kernel_rfl) (by kernel_rfl) (calm_panic _) (by kernel_rfl)
      case hy => (refine .inl ⟨by kernel_rfl, fun W hC => ?_⟩; (try dsimp only at hC); go_simp; rfl)
      case hC => exact HC
      case ha => (simp only [Act.put, List.setIfInBounds_toArray, List.set_cons_zero, List.set_cons_succ]; rfl)
      apply WZ.take (i := 3) (some 14) rfl rfl (by kernel_rfl) (by kernel_rfl) (by kernel_rfl) (calm_panic _) (by kernel_rfl)
      case hy => (refine .inl ⟨by kernel_rfl, fun W hC => ?_⟩; (try dsimp only at hC); go_simp; rfl)
      case hC => exact HC
      case ha => (simp only [Act.put, List.setIfInBounds_toArray, List.set_cons_zero, List.set_cons_succ]; rfl)
      apply WZ.take (i := 4) (some 15) rfl rfl (by kernel_rfl) (by kernel_rfl) (by kernel_rfl) (calm_panic _) (by kernel_rfl)
      case hy => (refine .inl ⟨by kernel_rfl, fun W hC => ?_⟩; (try dsimp only at hC); go_simp; rfl)
      case hC => exact HC
      case ha => (simp only [Act.put, List.setIfInBounds_toArray, List.set_cons_zero, List.set_cons_succ]; rfl)
      apply WZ.take (i := 5) (some 16) rfl rfl (by kernel_rfl) (by kernel_rfl) (by kernel_rfl) (calm_panic _) (by kernel_rfl)
      case hy => exact .inr ⟨by kernel_rfl, rfl⟩
      case hC => exact HC
      case ha => (simp only [Act.put, List.setIfInBounds_toArray, List.set_cons_zero, List.set_cons_succ]; rfl)
      apply WZ.take (i := 6) (some 17) rfl rfl (by kernel_rfl) (by kernel_rfl) (by kernel_rfl) (calm_panic _) (by kernel_rfl)
      case hy => exact .inr ⟨by kernel_rfl, rfl⟩
      case hC => exact HC
      case ha => (simp only [Act.put, List.setIfInBounds_toArray, List.set_cons_zero, List.set_cons_succ]; rfl)
      apply WZ.take (i := 7) (some 18) rfl rfl (by kernel_rfl) (by kernel_rfl) (by kernel_rfl) (calm_panic _) (by kernel_rfl)
      case hy => exact .inr ⟨by kernel_rfl, rfl⟩
      case hC => exact HC
      case ha => (simp only [Act.put, List.setIfInBounds_toArray, List.set_cons_zero, List.set_cons_succ]; rfl)
      apply WZ.take (i := 8) (some 19) rfl rfl (by kernel_rfl) (by kernel_rfl) (by kernel_rfl) (calm_panic _) (by kernel_rfl)
      case hy => exact .inr ⟨by kernel_rfl, rfl⟩
      case hC => exact HC
      case ha => (simp only [Act.put, List.setIfInBounds_toArray, List.set_cons_zero, List.set_cons_succ]; rfl)
      apply WZ.take (i := 9) (some 20) rfl rfl (by kernel_rfl) (by kernel_rfl) (by kernel_rfl) (calm_panic _) (by kernel_rfl)
      case hy => exact .inr ⟨by kernel_rfl, rfl⟩
      case hC => exact HC
      case ha => (simp only [Act.put, List.setIfInBounds_toArray, List.set_cons_zero, List.set_cons_succ]; rfl)
      apply WZ.take (i := 10) (some 21) rfl rfl (by kernel_rfl) (by kernel_rfl) (by kernel_rfl) (calm_panic _) (by kernel_rfl)
      case hy => exact .inr ⟨by kernel_rfl, rfl⟩
      case hC => exact HC
      case ha => (simp only [Act.put, List.setIfInBounds_toArray, List.set_cons_zero, List.set_cons_succ]; rfl)
      apply WZ.take (i := 11) (some 22) rfl rfl (by kernel_rfl) (by kernel_rfl) (by kernel_rfl) (calm_panic _) (by kernel_rfl)
      case hy => exact .inr ⟨by kernel_rfl, rfl⟩
      case hC => exact HC
      case ha => (simp only [Act.put, List.setIfInBounds_toArray, List.set_cons_zero, List.set_cons_succ]; rfl)
      apply WZ.take (i := 12) (some 23) rfl rfl (by kernel_rfl) (by kernel_rfl) (by kernel_rfl) (calm_panic _) (by kernel_rfl)
      case hy => (refine .inl ⟨by kernel_rfl, fun W hC => ?_⟩; (try dsimp only at hC); go_simp; rfl)
      case hC => exact HC
      case ha => (simp only [Act.put, List.setIfInBounds_toArray, List.set_cons_zero, List.set_cons_succ]; rfl)
      refine WZ.done (by kernel_rfl) ?_ _
      simp only [Calm, Exit.then]
      go_wp2
      refine region_wz (fun W' => True) none (by kernel_rfl) ?_
      apply WZ.take (i := 0) (some 26) rfl rfl (by kernel_rfl) (by kernel_rfl) (by kernel_rfl) (calm_panic _) (by kernel_rfl)
      case hy => (refine .inl ⟨by kernel_rfl, fun W hC => ?_⟩; (try dsimp only at hC); go_simp; rfl)
      case hC => exact HC
      case ha => (simp only [Act.put, List.setIfInBounds_toArray, List.set_cons_zero, List.set_cons_succ]; rfl)
      apply WZ.take (i := 1) (some 27) rfl rfl (by kernel_rfl) (by kernel_rfl) (by kernel_rfl) (calm_panic _) (by kernel_rfl)
      case hy => (refine .inl ⟨by kernel_rfl, fun W hC => ?_⟩; (try dsimp only at hC); go_simp; rfl)
      case hC => exact HC
      case ha => (simp only [Act.put, List.setIfInBounds_toArray, List.set_cons_zero, List.set_cons_succ]; rfl)
      apply WZ.take (i := 2) (some 28) rfl rfl (by kernel_rfl) (by kernel_rfl) (by kernel_rfl) (calm_panic _) (by kernel_rfl)
      case hy => (refine .inl ⟨by kernel_rfl, fun W hC => ?_⟩; (try dsimp only at hC); go_simp; rfl)
      case hC => exact HC
      case ha => (simp only [Act.put, List.setIfInBounds_toArray, List.set_cons_zero, List.set_cons_succ]; rfl)
      apply WZ.take (i := 3) (some 29) rfl rfl (by kernel_rfl) (by kernel_rfl) (by kernel_rfl) (calm_panic _) (by kernel_rfl)
      case hy => (refine .inl ⟨by kernel_rfl, fun W hC => ?_⟩; (try dsimp only at hC); go_simp; rfl)
      case hC => exact HC
      case ha => (simp only [Act.put, List.setIfInBounds_toArray, List.set_cons_zero, List.set_cons_succ]; rfl)
      apply WZ.take (i := 4) (some 30) rfl rfl (by kernel_rfl) (by kernel_rfl) (by kernel_rfl) (calm_panic _) (by kernel_rfl)
      case hy => (refine .inl ⟨by kernel_rfl, fun W hC => ?_⟩; (try dsimp only at hC); go_simp; rfl)
      case hC => exact HC
      case ha => (simp only [Act.put, List.setIfInBounds_toArray, List.set_cons_zero, List.set_cons_succ]; rfl)
      apply WZ.take (i := 5) (some 31) rfl rfl (by kernel_rfl) (by kernel_rfl) (by kernel_rfl) (calm_panic _) (by kernel_rfl)
      case hy => exact .inr ⟨by kernel_rfl, rfl⟩
      case hC => exact HC
      case ha => (simp only [Act.put, List.setIfInBounds_toArray, List.set_cons_zero, List.set_cons_succ]; rfl)
      apply WZ.take (i := 6) (some 32) rfl rfl (by kernel_rfl) (by kernel_rfl) (by kernel_rfl) (calm_panic _) (by kernel_rfl)
      case hy => exact .inr ⟨by kernel_rfl, rfl⟩
      case hC => exact HC
      case ha => (simp only [Act.put, List.setIfInBounds_toArray, List.set_cons_zero, List.set_cons_succ]; rfl)
      apply WZ.take (i := 7) (some 33) rfl rfl (by kernel_rfl) (by kernel_rfl) (by kernel_rfl) (calm_panic _) (by kernel_rfl)
      case hy => exact .inr ⟨by kernel_rfl, rfl⟩
      case hC => exact HC
      case ha => (simp only [Act.put, List.setIfInBounds_toArray, List.set_cons_zero, List.set_cons_succ]; rfl)
      apply WZ.take (i := 8) (some 34) rfl rfl (by kernel_rfl) (by kernel_rfl) (by kernel_rfl) (calm_panic _) (by kernel_rfl)
      case hy => exact .inr ⟨by kernel_rfl, rfl⟩
      case hC => exact HC
      case ha => (simp only [Act.put, List.setIfInBounds_toArray, List.set_cons_zero, List.set_cons_succ]; rfl)
      apply WZ.take (i := 9) (some 35) rfl rfl (by kernel_rfl) (by kernel_rfl) (by kernel_rfl) (calm_panic _) (by kernel_rfl)
      case hy => exact .inr ⟨by kernel_rfl, rfl⟩
      case hC => exact HC
      case ha => (simp only [Act.put, List.setIfInBounds_toArray, List.set_cons_zero, List.set_cons_succ]; rfl)
      apply WZ.take (i := 10) (some 36) rfl rfl (by kernel_rfl) (by kernel_rfl) (by kernel_rfl) (calm_panic _) (by kernel_rfl)
      case hy => exact .inr ⟨by kernel_rfl, rfl⟩
      case hC => exact HC
      case ha => (simp only [Act.put, List.setIfInBounds_toArray, List.set_cons_zero, List.set_cons_succ]; rfl)
      apply WZ.take (i := 11) (some 37) rfl rfl (by kernel_rfl) (by kernel_rfl) (by kernel_rfl) (calm_panic _) (by kernel_rfl)
      case hy => exact .inr ⟨by kernel_rfl, rfl⟩
      case hC => exact HC
      case ha => (simp only [Act.put, List.setIfInBounds_toArray, List.set_cons_zero, List.set_cons_succ]; rfl)
      apply WZ.take (i := 12) (some 38) rfl rfl (by kernel_rfl) (by kernel_rfl) (by kernel_rfl) (calm_panic _) (by kernel_rfl)
      case hy => (refine .inl ⟨by kernel_rfl, fun W hC => ?_⟩; (try dsimp only at hC); go_simp; rfl)
      case hC => exact HC
      case ha => (simp only [Act.put, List.setIfInBounds_toArray, List.set_cons_zero, List.set_cons_succ]; rfl)
      refine WZ.done (by kernel_rfl) ?_ _
      simp only [Calm, Exit.then]
      clear HC
      go_wp2
      have hsl1 := fun W => run_front (P := Try.prog) (t := 22) (e := 31) (size := 6) Try.underlying22 hi0 hz1 A l.length cap k (by omega) W
      have hsl2 := fun W => run_tail (P := Try.prog) (t := 22) (e := 31) (size := 6) Try.underlying22 hi0 hz1 A l.length cap k (by omega) W
      obtain ⟨At, hAt⟩ : ∃ At, tailA A cap k 6 = At := ⟨_, rfl⟩
      obtain ⟨S0, hS0⟩ : ∃ S0, wz.drew.drew.heap.size = S0 := ⟨_, rfl⟩
      obtain ⟨CC, hCD⟩ : ∃ CC : World → Prop, ∀ W, CC W ↔ (CBox W w.heap.size c ∧ Rd W S0 A (vals l) ∧ S0 ≤ W.heap.size ∧ Below w.heap.size w W) := ⟨fun W => CBox W w.heap.size c ∧ Rd W S0 A (vals l) ∧ S0 ≤ W.heap.size ∧ Below w.heap.size w W, fun _ => Iff.rfl⟩
      have hwS : w.heap.size < S0 := by rw [← hS0]; exact HX3.out.lt
      have hCC8 : ∀ W W', Below S0 W W' → CC W → CC W' := by
        intro W W' hb hc
        obtain ⟨h1, h2, h3, h4⟩ := (hCD _).1 hc
        exact (hCD _).2 ⟨h1.below hb hwS, h2.below hb, Nat.le_trans h3 hb.size, h4.trans (hb.mono (Nat.le_of_lt hwS))⟩
      have hsz : ∀ W, CC W → S0 ≤ W.heap.size := fun W h => ((hCD _).1 h).2.2.1
      have hmk : ∀ W, CC W → W.rangeAt w.heap.size 0 [.string c.row, .string c.col, .int .u64 c.ts, .int .u64 c.seq, .bool c.del, .string c.val] ∧ CC W := fun W h => ⟨((hCD _).1 h).1.range, h⟩
      have hal : ∀ (W : World) (ob : Obj), CC W → CC (W.alloc ob) := fun W ob h => hCC8 _ _ ((Below.refl S0 W).alloc (hsz _ h) ob) h
      have hnew0 : ∀ W, CC W → Own (W.alloc (.cells #[] 31)) S0 31 6 (some ⟨W.heap.size, 0, none⟩) 0 0 [] := fun W h => (Own.new0' W 31 6).lower (hsz _ h)
      have hnew1 : ∀ W g, CC W → W.heap.size = g → Rd (W.alloc (.cells #[.string c.row, .string c.col, .int .u64 c.ts, .int .u64 c.seq, .bool c.del, .string c.val] 31)) (W.alloc (.cells #[.string c.row, .string c.col, .int .u64 c.ts, .int .u64 c.seq, .bool c.del, .string c.val] 31)).heap.size (some ⟨g, 0, none⟩) c.vals := fun W g h hg => by
        rw [← hg]
        exact (Rd.all' W 31 c.vals _ W.heap.size rfl rfl).more (by rw [World.size_alloc]; omega)
      have hsrc1 : ∀ W, CC W → Rd W W.heap.size A (vals (l.take k)) := fun W h => (((hCD _).1 h).2.1.more (hsz _ h)).frontR Cl.vals_len (by omega)
      have hsrc2 : ∀ W, CC W → Rd W W.heap.size At (vals (l.drop k)) := fun W h => by
        rw [← hAt]
        exact (((hCD _).1 h).2.1.more (hsz _ h)).tailR Cl.vals_len rfl hcap (by omega)
      have hbw : ∀ W, CC W → Below w.heap.size w W := fun W h => ((hCD _).1 h).2.2.2
      have hl1 : (vals (l.take k)).length = k * 6 := by rw [length_vals, List.length_take]; omega
      have hl2 : (vals (l.drop k)).length = (l.length - k) * 6 := by rw [length_vals, List.length_drop]; omega
      have HC := hmk _ ((hCD _).2 ⟨HX3.out.keep (w' := wz.drew.drew.drew) rfl, (hS0 ▸ HL3.out : Rd wz.drew.drew.drew S0 A (vals l)), Nat.le_of_eq hS0.symm, HB3.out.drew⟩)
      rw [hAt] at hsl2
      clear hAt hCD hS0
      refine region_wz (fun W' => W'.rangeAt w.heap.size 0 [.string c.row, .string c.col, .int .u64 c.ts, .int .u64 c.seq, .bool c.del, .string c.val] ∧ CC W') none (by kernel_rfl) ?_
      apply WZ.take (i := 1) (some 41) rfl rfl (by kernel_rfl) (by kernel_rfl) (by kernel_rfl) (calm_panic _) (by kernel_rfl)
      case hy => (refine .inl ⟨by kernel_rfl, fun W hC => ?_⟩; (try dsimp only at hC); go_simp; (try simp only [hsl1,hsl2]); rfl)
      case hC => exact HC
      case ha => (simp only [Act.put, List.setIfInBounds_toArray, List.set_cons_zero, List.set_cons_succ]; rfl)
      apply WZ.take (i := 2) (some 42) rfl rfl (by kernel_rfl) (by kernel_rfl) (by kernel_rfl) (calm_panic _) (by kernel_rfl)
      case hy => (refine .inl ⟨by kernel_rfl, fun W hC => ?_⟩; (try dsimp only at hC); go_simp; (try simp only [hsl1,hsl2]); rfl)
      case hC => exact HC
      case ha => (simp only [Act.put, List.setIfInBounds_toArray, List.set_cons_zero, List.set_cons_succ]; rfl)
      apply WZ.take (i := 3) (some 43) rfl rfl (by kernel_rfl) (by kernel_rfl) (by kernel_rfl) (calm_panic _) (by kernel_rfl)
      case hy => (refine .inl ⟨by kernel_rfl, fun W hC => ?_⟩; (try dsimp only at hC); go_simp; (try simp only [hsl1,hsl2]); rfl)
      case hC => exact HC
      case ha => (simp only [Act.put, List.setIfInBounds_toArray, List.set_cons_zero, List.set_cons_succ]; rfl)
      apply WZ.take (i := 5) (some 45) rfl rfl (by kernel_rfl) (by kernel_rfl) (by kernel_rfl) (calm_panic _) (by kernel_rfl)
      case hy => first | (apply yieldsIf_load_mid (by kernel_rfl) _ _ rfl _ _ rfl; (case hS => (intro W hC; exact hC.1)); (case hu => exact Try.underlying31); (case hd => rfl); (case hi => kernel_rfl)) | (apply yieldsIf_load_mid (by kernel_rfl) _ _ rfl _ _ rfl; (case hS => (intro W hC; exact hC.2.1)); (case hu => exact Try.underlying31); (case hd => rfl); (case hi => kernel_rfl)) | (apply yieldsIf_load_mid (by kernel_rfl) _ _ rfl _ _ rfl; (case hS => (intro W hC; exact hC.2.2.1)); (case hu => exact Try.underlying31); (case hd => rfl); (case hi => kernel_rfl)) | (apply yieldsIf_load_mid (by kernel_rfl) _ _ rfl _ _ rfl; (case hS => (intro W hC; exact hC.2.2.2.1)); (case hu => exact Try.underlying31); (case hd => rfl); (case hi => kernel_rfl)) | (apply yieldsIf_load_mid (by kernel_rfl) _ _ rfl _ _ rfl; (case hS => (intro W hC; exact hC.2.2.2)); (case hu => exact Try.underlying31); (case hd => rfl); (case hi => kernel_rfl)) | (apply yieldsIf_load_mid (by kernel_rfl) _ _ rfl _ _ rfl; (case hS => (intro W hC; exact hC.2.2)); (case hu => exact Try.underlying31); (case hd => rfl); (case hi => kernel_rfl)) | (apply yieldsIf_load_mid (by kernel_rfl) _ _ rfl _ _ rfl; (case hS => (intro W hC; exact hC.2)); (case hu => exact Try.underlying31); (case hd => rfl); (case hi => kernel_rfl)) | (apply yieldsIf_load_mid (by kernel_rfl) _ _ rfl _ _ rfl; (case hS => (intro W hC; exact hC)); (case hu => exact Try.underlying31); (case hd => rfl); (case hi => kernel_rfl))
      case hC => exact HC
      case ha => (simp only [Act.put, List.setIfInBounds_toArray, List.set_cons_zero, List.set_cons_succ]; rfl)
      apply WZ.take (i := 8) (some 48) rfl rfl (by kernel_rfl) (by kernel_rfl) (by kernel_rfl) (calm_panic _) (by kernel_rfl)
      case hy => (refine .inl ⟨by kernel_rfl, fun W hC => ?_⟩; (try dsimp only at hC); go_simp; (try simp only [hsl1,hsl2]); rfl)
      case hC => exact HC
      case ha => (simp only [Act.put, List.setIfInBounds_toArray, List.set_cons_zero, List.set_cons_succ]; rfl)
      apply WZ.take (i := 9) (some 49) rfl rfl (by kernel_rfl) (by kernel_rfl) (by kernel_rfl) (calm_panic _) (by kernel_rfl)
      case hy => (refine .inl ⟨by kernel_rfl, fun W hC => ?_⟩; (try dsimp only at hC); go_simp; (try simp only [hsl1,hsl2]); rfl)
      case hC => exact HC
      case ha => (simp only [Act.put, List.setIfInBounds_toArray, List.set_cons_zero, List.set_cons_succ]; rfl)
      apply WZ.take (i := 10) (some 50) rfl rfl (by kernel_rfl) (by kernel_rfl) (by kernel_rfl) (calm_panic _) (by kernel_rfl)
      case hy => (refine .inl ⟨by kernel_rfl, fun W hC => ?_⟩; (try dsimp only at hC); go_simp; (try simp only [hsl1,hsl2]); rfl)
      case hC => exact HC
      case ha => (simp only [Act.put, List.setIfInBounds_toArray, List.set_cons_zero, List.set_cons_succ]; rfl)
      refine WZ.two (i := 0) (j := 6) rfl rfl (by kernel_rfl) ?_ ?_
      · conv => arg 4; arg 1; whnf
        go_wp2_with fail
        have hA0 := hnew0 _ HC.2
        try rw [World.size_alloc] at hA0
        have hA := own_any hA0
        clear hA0
        have HC2 := hmk _ (hal _ (.cells #[] 31) HC.2)
        try (have hR2 := hR.allocS (.cells #[] 31); clear hR; have hR := hR2; clear hR2)
        clear HC
        have HC := HC2
        clear HC2
        refine ⟨HC, ?_⟩
        refine WZ.two (i := 4) (j := 6) rfl rfl (by kernel_rfl) ?_ ?_
        · conv => arg 4; arg 1; whnf
          have hP := hsrc1 _ HC.2
          go_wp2_with (at_builtin; go_loud (refine wpList_app _ rfl _ _ _ rfl S0 31 i0 zeroCell 6 72 Try.underlying22 hi0 hz0 hz1 hz2 rfl (by decide) _ _ _ _ rfl (hA _ (by omega)) _ _ _ _ (vals (l.take k)) rfl hP hl1 (vals_one _) (by unfold maxLen; omega) (by omega) (hsz _ HC.2) ?_); intro A4 c4 w4 ho4 hg4 hat4)
          have HC2 := hmk _ (hCC8 _ _ (Own.grow (hA _ rfl) (Below.refl S0 _) (hsz _ HC.2) (Nat.le_refl _) hg4) HC.2)
          try (have hR2 := Rd.grownAt hR hg4 (by first | (simp [blk]; done) | (simp [blk]; omega)); clear hR; have hR := hR2; clear hR2)
          clear HC hA hP
          have HC := HC2
          have hA := own_any ho4
          clear HC2 ho4 hg4 hat4
          refine ⟨HC, ?_⟩
          -- 6
          refine WZ.one (i := 6) rfl (by kernel_rfl) ?_
          conv => arg 4; arg 1; whnf
          go_wp2_with fail
          first
            | have hR := hnew1 _ _ HC.2 (World.size_alloc _ _)
            | have hR := hnew1 _ _ HC.2 rfl
          have HC2 := hmk _ (hal _ (.cells #[.string c.row, .string c.col, .int .u64 c.ts, .int .u64 c.seq, .bool c.del, .string c.val] 31) HC.2)
          try (have hA2 := own_any (Own.alloc (hA _ rfl) (.cells #[.string c.row, .string c.col, .int .u64 c.ts, .int .u64 c.seq, .bool c.del, .string c.val] 31)); clear hA; have hA := hA2; clear hA2)
          clear HC
          have HC := HC2
          clear HC2
          refine ⟨HC, ?_⟩
          -- 7
          refine WZ.one (i := 7) rfl (by kernel_rfl) ?_
          conv => arg 4; arg 1; whnf
          go_wp2_with (at_builtin; go_loud (refine wpList_app _ rfl _ _ _ rfl S0 31 i0 zeroCell 6 72 Try.underlying22 hi0 hz0 hz1 hz2 rfl (by decide) _ _ _ _ rfl (hA _ (by omega)) _ _ _ _ c.vals rfl hR rfl (Cl.one c) (by unfold maxLen; omega) (by omega) (hsz _ HC.2) ?_); intro A4 c4 w4 ho4 hg4 hat4)
          have HC2 := hmk _ (hCC8 _ _ (Own.grow (hA _ rfl) (Below.refl S0 _) (hsz _ HC.2) (Nat.le_refl _) hg4) HC.2)
          clear HC hA hR
          have HC := HC2
          have hA := own_any ho4
          clear HC2 ho4 hg4 hat4
          refine ⟨HC, ?_⟩
          -- 11
          refine WZ.one (i := 11) rfl (by kernel_rfl) ?_
          conv => arg 4; arg 1; whnf
          have hP := hsrc2 _ HC.2
          go_wp2_with (at_builtin; go_loud (refine wpList_app _ rfl _ _ _ rfl S0 31 i0 zeroCell 6 72 Try.underlying22 hi0 hz0 hz1 hz2 rfl (by decide) _ _ _ _ rfl (hA _ (by omega)) _ _ _ _ (vals (l.drop k)) rfl hP hl2 (vals_one _) (by unfold maxLen; omega) (by omega) (hsz _ HC.2) ?_); intro A4 c4 w4 ho4 hg4 hat4)
          have HC2 := hmk _ (hCC8 _ _ (Own.grow (hA _ rfl) (Below.refl S0 _) (hsz _ HC.2) (Nat.le_refl _) hg4) HC.2)
          clear HC hA hP
          have HC := HC2
          have hA := own_any ho4
          clear HC2 ho4 hg4 hat4
          refine ⟨HC, ?_⟩
          apply WZ.take (i := 12) (some 4) rfl rfl (by kernel_rfl) (by kernel_rfl) (by kernel_rfl) (calm_panic _) (by kernel_rfl)
          case hy => (refine .inl ⟨by kernel_rfl, fun W hC => ?_⟩; (try dsimp only at hC); go_simp; (try simp only [hsl1,hsl2]); rfl)
          case hC => exact HC
          case ha => (simp only [Act.put, List.setIfInBounds_toArray, List.set_cons_zero, List.set_cons_succ]; rfl)
          apply WZ.take (i := 13) (some 5) rfl rfl (by kernel_rfl) (by kernel_rfl) (by kernel_rfl) (calm_panic _) (by kernel_rfl)
          case hy => (refine .inl ⟨by kernel_rfl, fun W hC => ?_⟩; (try dsimp only at hC); go_simp; (try simp only [hsl1,hsl2]); rfl)
          case hC => exact HC
          case ha => (simp only [Act.put, List.setIfInBounds_toArray, List.set_cons_zero, List.set_cons_succ]; rfl)
          refine WZ.done (by kernel_rfl) ?_ _
          simp only [Calm, Exit.then]
          have HR8 := Lib.hid (hA _ rfl)
          have HBW := Lib.hid (hbw _ HC.2)
          have hz8 := hsz _ HC.2
          clear HC hA
          go_wp2
          go_ret2
          rw [HP.out.1, HP.out.2]
          have hln : (l.take k ++ c :: l.drop k).length = k + 1 + (l.length - k) := by simp; omega
          have hvs : vals (l.take k ++ c :: l.drop k) = [] ++ vals (l.take k) ++ c.vals ++ vals (l.drop k) := by simp [vals]
          exact ⟨_, _, by rw [hln]; rfl, by rw [hvs]; exact Own.rd HR8.out (by omega), by rw [hln]; have := own_cap HR8.out; omega, HBW.out, fun g h => .inr ⟨by have := HR8.out.lt g h; omega, (HR8.out.lt g h).2⟩⟩
        · conv => arg 4; arg 1; whnf
          go_wp2_with fail
          first
            | have hR := hnew1 _ _ HC.2 (World.size_alloc _ _)
            | have hR := hnew1 _ _ HC.2 rfl
          have HC2 := hmk _ (hal _ (.cells #[.string c.row, .string c.col, .int .u64 c.ts, .int .u64 c.seq, .bool c.del, .string c.val] 31) HC.2)
          try (have hA2 := own_any (Own.alloc (hA _ rfl) (.cells #[.string c.row, .string c.col, .int .u64 c.ts, .int .u64 c.seq, .bool c.del, .string c.val] 31)); clear hA; have hA := hA2; clear hA2)
          clear HC
          have HC := HC2
          clear HC2
          refine ⟨HC, ?_⟩
          -- 4
          refine WZ.one (i := 4) rfl (by kernel_rfl) ?_
          conv => arg 4; arg 1; whnf
          have hP := hsrc1 _ HC.2
          go_wp2_with (at_builtin; go_loud (refine wpList_app _ rfl _ _ _ rfl S0 31 i0 zeroCell 6 72 Try.underlying22 hi0 hz0 hz1 hz2 rfl (by decide) _ _ _ _ rfl (hA _ (by omega)) _ _ _ _ (vals (l.take k)) rfl hP hl1 (vals_one _) (by unfold maxLen; omega) (by omega) (hsz _ HC.2) ?_); intro A4 c4 w4 ho4 hg4 hat4)
          have HC2 := hmk _ (hCC8 _ _ (Own.grow (hA _ rfl) (Below.refl S0 _) (hsz _ HC.2) (Nat.le_refl _) hg4) HC.2)
          try (have hR2 := Rd.grownAt hR hg4 (by first | (simp [blk]; done) | (simp [blk]; omega)); clear hR; have hR := hR2; clear hR2)
          clear HC hA hP
          have HC := HC2
          have hA := own_any ho4
          clear HC2 ho4 hg4 hat4
          refine ⟨HC, ?_⟩
          -- 7
          refine WZ.one (i := 7) rfl (by kernel_rfl) ?_
          conv => arg 4; arg 1; whnf
          go_wp2_with (at_builtin; go_loud (refine wpList_app _ rfl _ _ _ rfl S0 31 i0 zeroCell 6 72 Try.underlying22 hi0 hz0 hz1 hz2 rfl (by decide) _ _ _ _ rfl (hA _ (by omega)) _ _ _ _ c.vals rfl hR rfl (Cl.one c) (by unfold maxLen; omega) (by omega) (hsz _ HC.2) ?_); intro A4 c4 w4 ho4 hg4 hat4)
          have HC2 := hmk _ (hCC8 _ _ (Own.grow (hA _ rfl) (Below.refl S0 _) (hsz _ HC.2) (Nat.le_refl _) hg4) HC.2)
          clear HC hA hR
          have HC := HC2
          have hA := own_any ho4
          clear HC2 ho4 hg4 hat4
          refine ⟨HC, ?_⟩
          -- 11
          refine WZ.one (i := 11) rfl (by kernel_rfl) ?_
          conv => arg 4; arg 1; whnf
          have hP := hsrc2 _ HC.2
          go_wp2_with (at_builtin; go_loud (refine wpList_app _ rfl _ _ _ rfl S0 31 i0 zeroCell 6 72 Try.underlying22 hi0 hz0 hz1 hz2 rfl (by decide) _ _ _ _ rfl (hA _ (by omega)) _ _ _ _ (vals (l.drop k)) rfl hP hl2 (vals_one _) (by unfold maxLen; omega) (by omega) (hsz _ HC.2) ?_); intro A4 c4 w4 ho4 hg4 hat4)
          have HC2 := hmk _ (hCC8 _ _ (Own.grow (hA _ rfl) (Below.refl S0 _) (hsz _ HC.2) (Nat.le_refl _) hg4) HC.2)
          clear HC hA hP
          have HC := HC2
          have hA := own_any ho4
          clear HC2 ho4 hg4 hat4
          refine ⟨HC, ?_⟩
          apply WZ.take (i := 12) (some 4) rfl rfl (by kernel_rfl) (by kernel_rfl) (by kernel_rfl) (calm_panic _) (by kernel_rfl)
          case hy => (refine .inl ⟨by kernel_rfl, fun W hC => ?_⟩; (try dsimp only at hC); go_simp; (try simp only [hsl1,hsl2]); rfl)
          case hC => exact HC
          case ha => (simp only [Act.put, List.setIfInBounds_toArray, List.set_cons_zero, List.set_cons_succ]; rfl)
          apply WZ.take (i := 13) (some 5) rfl rfl (by kernel_rfl) (by kernel_rfl) (by kernel_rfl) (calm_panic _) (by kernel_rfl)
          case hy => (refine .inl ⟨by kernel_rfl, fun W hC => ?_⟩; (try dsimp only at hC); go_simp; (try simp only [hsl1,hsl2]); rfl)
          case hC => exact HC
          case ha => (simp only [Act.put, List.setIfInBounds_toArray, List.set_cons_zero, List.set_cons_succ]; rfl)
          refine WZ.done (by kernel_rfl) ?_ _
          simp only [Calm, Exit.then]
          have HR8 := Lib.hid (hA _ rfl)
          have HBW := Lib.hid (hbw _ HC.2)
          have hz8 := hsz _ HC.2
          clear HC hA
          go_wp2
          go_ret2
          rw [HP.out.1, HP.out.2]
          have hln : (l.take k ++ c :: l.drop k).length = k + 1 + (l.length - k) := by simp; omega
          have hvs : vals (l.take k ++ c :: l.drop k) = [] ++ vals (l.take k) ++ c.vals ++ vals (l.drop k) := by simp [vals]
          exact ⟨_, _, by rw [hln]; rfl, by rw [hvs]; exact Own.rd HR8.out (by omega), by rw [hln]; have := own_cap HR8.out; omega, HBW.out, fun g h => .inr ⟨by have := HR8.out.lt g h; omega, (HR8.out.lt g h).2⟩⟩
      · conv => arg 4; arg 1; whnf
        go_wp2_with fail
        first
          | have hR := hnew1 _ _ HC.2 (World.size_alloc _ _)
          | have hR := hnew1 _ _ HC.2 rfl
        have HC2 := hmk _ (hal _ (.cells #[.string c.row, .string c.col, .int .u64 c.ts, .int .u64 c.seq, .bool c.del, .string c.val] 31) HC.2)
        try (have hA2 := own_any (Own.alloc (hA _ rfl) (.cells #[.string c.row, .string c.col, .int .u64 c.ts, .int .u64 c.seq, .bool c.del, .string c.val] 31)); clear hA; have hA := hA2; clear hA2)
        clear HC
        have HC := HC2
        clear HC2
        refine ⟨HC, ?_⟩
        -- 0
        refine WZ.one (i := 0) rfl (by kernel_rfl) ?_
        conv => arg 4; arg 1; whnf
        go_wp2_with fail
        have hA0 := hnew0 _ HC.2
        try rw [World.size_alloc] at hA0
        have hA := own_any hA0
        clear hA0
        have HC2 := hmk _ (hal _ (.cells #[] 31) HC.2)
        try (have hR2 := hR.allocS (.cells #[] 31); clear hR; have hR := hR2; clear hR2)
        clear HC
        have HC := HC2
        clear HC2
        refine ⟨HC, ?_⟩
        -- 4
        refine WZ.one (i := 4) rfl (by kernel_rfl) ?_
        conv => arg 4; arg 1; whnf
        have hP := hsrc1 _ HC.2
        go_wp2_with (at_builtin; go_loud (refine wpList_app _ rfl _ _ _ rfl S0 31 i0 zeroCell 6 72 Try.underlying22 hi0 hz0 hz1 hz2 rfl (by decide) _ _ _ _ rfl (hA _ (by omega)) _ _ _ _ (vals (l.take k)) rfl hP hl1 (vals_one _) (by unfold maxLen; omega) (by omega) (hsz _ HC.2) ?_); intro A4 c4 w4 ho4 hg4 hat4)
        have HC2 := hmk _ (hCC8 _ _ (Own.grow (hA _ rfl) (Below.refl S0 _) (hsz _ HC.2) (Nat.le_refl _) hg4) HC.2)
        try (have hR2 := Rd.grownAt hR hg4 (by first | (simp [blk]; done) | (simp [blk]; omega)); clear hR; have hR := hR2; clear hR2)
        clear HC hA hP
        have HC := HC2
        have hA := own_any ho4
        clear HC2 ho4 hg4 hat4
        refine ⟨HC, ?_⟩
        -- 7
        refine WZ.one (i := 7) rfl (by kernel_rfl) ?_
        conv => arg 4; arg 1; whnf
        go_wp2_with (at_builtin; go_loud (refine wpList_app _ rfl _ _ _ rfl S0 31 i0 zeroCell 6 72 Try.underlying22 hi0 hz0 hz1 hz2 rfl (by decide) _ _ _ _ rfl (hA _ (by omega)) _ _ _ _ c.vals rfl hR rfl (Cl.one c) (by unfold maxLen; omega) (by omega) (hsz _ HC.2) ?_); intro A4 c4 w4 ho4 hg4 hat4)
        have HC2 := hmk _ (hCC8 _ _ (Own.grow (hA _ rfl) (Below.refl S0 _) (hsz _ HC.2) (Nat.le_refl _) hg4) HC.2)
        clear HC hA hR
        have HC := HC2
        have hA := own_any ho4
        clear HC2 ho4 hg4 hat4
        refine ⟨HC, ?_⟩
        -- 11
        refine WZ.one (i := 11) rfl (by kernel_rfl) ?_
        conv => arg 4; arg 1; whnf
        have hP := hsrc2 _ HC.2
        go_wp2_with (at_builtin; go_loud (refine wpList_app _ rfl _ _ _ rfl S0 31 i0 zeroCell 6 72 Try.underlying22 hi0 hz0 hz1 hz2 rfl (by decide) _ _ _ _ rfl (hA _ (by omega)) _ _ _ _ (vals (l.drop k)) rfl hP hl2 (vals_one _) (by unfold maxLen; omega) (by omega) (hsz _ HC.2) ?_); intro A4 c4 w4 ho4 hg4 hat4)
        have HC2 := hmk _ (hCC8 _ _ (Own.grow (hA _ rfl) (Below.refl S0 _) (hsz _ HC.2) (Nat.le_refl _) hg4) HC.2)
        clear HC hA hP
        have HC := HC2
        have hA := own_any ho4
        clear HC2 ho4 hg4 hat4
        refine ⟨HC, ?_⟩
        apply WZ.take (i := 12) (some 4) rfl rfl (by kernel_rfl) (by kernel_rfl) (by kernel_rfl) (calm_panic _) (by kernel_rfl)
        case hy => (refine .inl ⟨by kernel_rfl, fun W hC => ?_⟩; (try dsimp only at hC); go_simp; (try simp only [hsl1,hsl2]); rfl)
        case hC => exact HC
        case ha => (simp only [Act.put, List.setIfInBounds_toArray, List.set_cons_zero, List.set_cons_succ]; rfl)
        apply WZ.take (i := 13) (some 5) rfl rfl (by kernel_rfl) (by kernel_rfl) (by kernel_rfl) (calm_panic _) (by kernel_rfl)
        case hy => (refine .inl ⟨by kernel_rfl, fun W hC => ?_⟩; (try dsimp only at hC); go_simp; (try simp only [hsl1,hsl2]); rfl)
        case hC => exact HC
        case ha => (simp only [Act.put, List.setIfInBounds_toArray, List.set_cons_zero, List.set_cons_succ]; rfl)
        refine WZ.done (by kernel_rfl) ?_ _
        simp only [Calm, Exit.then]
        have HR8 := Lib.hid (hA _ rfl)
        have HBW := Lib.hid (hbw _ HC.2)
        have hz8 := hsz _ HC.2
        clear HC hA
        go_wp2
        go_ret2
        rw [HP.out.1, HP.out.2]
        have hln : (l.take k ++ c :: l.drop k).length = k + 1 + (l.length - k) := by simp; omega
        have hvs : vals (l.take k ++ c :: l.drop k) = [] ++ vals (l.take k) ++ c.vals ++ vals (l.drop k) := by simp [vals]
        exact ⟨_, _, by rw [hln]; rfl, by rw [hvs]; exact Own.rd HR8.out (by omega), by rw [hln]; have := own_cap HR8.out; omega, HBW.out, fun g h => .inr ⟨by have := HR8.out.lt g h; omega, (HR8.out.lt g h).2⟩⟩
theorem refPut_any (A : Option Addr) (cap : Nat) (l : List Cl) (c : Cl) (w : World) (hl : Rd w w.heap.size A (vals l)) (hcap : l.length ≤ cap) (hlen : l.length ≤ 1000) (hu : Up l) :
    Calls Try.prog 8 #[.slice A l.length cap, c.agg] w fun e w' => GivesPut w A (put l c) (putE l c) e w' := by
  cases hm : may c with
  | false => exact refPut_bad A cap l c w hl hcap hm
  | true => exact refPut_may A cap l c w hl hcap hlen hu hm
end Go.Proofs.Ytijicefakfpdcaa
