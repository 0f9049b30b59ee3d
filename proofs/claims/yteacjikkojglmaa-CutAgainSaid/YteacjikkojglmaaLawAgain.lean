/-
  The walk of the law CutAgain.
-/
import Derived.Test.YteacjikkojglmaaPieces
namespace Go.Proofs.Yteacjikkojglmaa
open Go.RowKit Go.Shelf
attribute [local go_sem ↓] Go.wp_at_zero Go.wp_at_succ

theorem cutRoll_again (A : Option Addr) (c m : Nat) (q : List Cl) (w : World) (hl : Rd w w.heap.size A (vals q)) (hlen : q.length ≤ 1000) (hcap : q.length ≤ c) (hm : 1 ≤ m) (hm2 : m ≤ 9223372036854775807) (hr : rising q = true) (hn : q ≠ []) (h : q.length ≤ m ∨ OneRow q) :
    Calls Try.prog 18 #[.slice A q.length c, .int .i64 m] w (GivesLists w ([q], 0)) := by
  have := cutRoll_any A c q m w hl hlen hcap (by omega)
  unfold rollSpec at this
  rw [if_neg (by omega), if_pos hr, Int.toNat_natCast, roll_again hn hr h] at this
  exact this

set_option maxHeartbeats 4000000 in
theorem cutAgainLaw_any (A : Option Addr) (c : Nat) (l : List Cl) (most more : Nat) (w : World) (hl : Rd w w.heap.size A (vals l)) (hlen : l.length ≤ maxLen) (hcap : l.length ≤ c) (hm : most ≤ 255) (hm' : more ≤ 255) :
    Calls Try.prog 8 #[.slice A l.length c, .int .u8 most, .int .u8 more] w fun e w' => e = .returned (.bool true) ∧ Below w.heap.size w w' := by
  have HL := Lib.hid hlen
  clear hlen
  go_enter Try.func8, Try.ntmps8
  by_cases hb : bnd l [] = true
  · obtain ⟨b1, _⟩ := bnd_parts hb
    obtain ⟨m, hmm⟩ : ∃ m, 1 + most % 20 = m := ⟨_, rfl⟩
    obtain ⟨m', hmm'⟩ : ∃ m', m + more % 20 = m' := ⟨_, rfl⟩
    have hmi : 1 + (most : Int) % 20 = (m : Int) := by omega
    have hmi' : (m : Int) + (more : Int) % 20 = (m' : Int) := by omega
    have hm1 : 1 ≤ m ∧ m ≤ 20 := by omega
    have hm2 : m ≤ m' ∧ m' ≤ 40 := by omega
    clear hmm hmm'
    by_cases hr : rising l = true
    · have hspec : ∀ k : Nat, 1 ≤ k → rollSpec l k = (roll l k, 0) := fun k hk => by
        unfold rollSpec
        rw [if_neg (by omega), if_pos hr, Int.toNat_natCast]
      have hs1 := hspec m (by omega)
      have hs2 := hspec m' (by omega)
      have hmono := roll_mono l hm2.1
      have hcnt := roll_length l m
      have heach := roll_each l m
      have hrise := roll_rising hr m
      have hlens : ∀ q ∈ roll l m, q.length ≤ 80 := fun q hq => by
        have := roll_le m (rowsOf l) [] 0 (by simp) q hq
        rw [total_rows] at this
        omega
      clear hspec
      go_wp2_with (first
        | (go_at_call 9; refine (bounded_any A none c 0 l [] _ _ hl Rd.nil HL.out (Nat.zero_le _)).mono ?_; rw [hb]; rintro e w1 ⟨rfl, rfl⟩)
        | (go_at_call 10; refine (shown_any _).mono ?_; rintro e w1 ⟨rfl, hb1⟩
           have hl1 := (hl.below hb1).more hb1.size
           have hz1 := hb1.size)
        | (have HH := hl2; go_at_call 18; refine (cutRoll_any A c l m' _ hl2 (by omega) hcap (by omega)).mono ?_; rw [hs2]; rintro e w3 ⟨A2, n2, c2, us, rfl, ho2, hls2, hb3⟩
           have hz3 := hb3.size)
        | (go_at_call 18; refine (cutRoll_any A c l m _ hl1 (by omega) hcap (by omega)).mono ?_; rw [hs1]; rintro e w2 ⟨A1, n1, c1, vs, rfl, ho1, hls1, hb2⟩
           have hl2 := (hl1.below hb2).more hb2.size
           have hz2 := hb2.size))
      have hnv := ho1.vals_len
      have hnu := ho2.vals_len
      have hn1 : n1 = (roll l m).length := by rw [← hnv]; exact hls1.1
      have hn2 : n2 = (roll l m').length := by rw [← hnu]; exact hls2.1
      have HNV := Lib.hid hnv
      have HN1 := Lib.hid hn1
      have hn12 : n2 ≤ n1 := by omega
      have hn80 : n1 ≤ 80 := by omega
      have HO := Lib.hid (ho1.below (hb3.mono (Nat.le_refl _)))
      have HLS := Lib.hid (hls1.below hb3)
      have HB := Lib.hid (hb1.trans ((hb2.mono hz1).trans (hb3.mono (Nat.le_trans hz1 hz2))))
      have HE := Lib.hid heach
      have HR := Lib.hid hrise
      have HLN := Lib.hid hlens
      clear hl hl1 hl2 hb1 hb2 hb3 ho1 ho2 hls1 hls2 hnv hnu hn1 hn2 hmono hcnt heach hrise hlens hs1 hs2 hmi hmi'
      go_loopw [12] (fun i wr => ∃ k : Nat, k ≤ n1 ∧ i = .int .i64 k ∧ Hid (Below w3.heap.size w3 wr)) (fun i _ => n1 - (intOf i).toNat)
      case atStart => exact ⟨0, Nat.zero_le _, rfl, Lib.hid (Below.refl _ _)⟩
      case round =>
        obtain ⟨k, hk, rfl, HW⟩ := hrel
        by_cases hlt : k < n1
        · have hkv : k < vs.length := by rw [HNV.out]; exact hlt
          have hkp : k < (roll l m).length := by rw [← HN1.out]; exact hlt
          obtain ⟨Aq, cq, e1, hoq⟩ := (HLS.out.below HW.out).2 k hkv hkp
          have hqin := List.getElem_mem hkp
          have q1 := HE.out _ hqin
          have q2 := HR.out _ hqin
          have q3 := HLN.out _ hqin
          obtain ⟨q, hq⟩ : ∃ q, (roll l m)[k] = q := ⟨_, rfl⟩
          rw [hq] at e1 hoq q1 q2 q3
          have hcq : q.length ≤ cq := Own.cap hoq
          have hrq := Own.rd hoq (by decide)
          obtain ⟨g, rfl, hg1, hg2, hrow⟩ := (Own.below HO.out HW.out).at_ (by omega)
          have x1 := (hrow k hkv).1
          rw [e1] at x1
          have hcall := cutRoll_again Aq cq m q wr hrq (by omega) hcq hm1.1 (by omega) q2 q1.1 q1.2
          have hsame := fun (A3 : Option Addr) c3 (W : World) D h1 h2 => sameCells_any A3 Aq c3 cq q q W D h1 h2 (by unfold maxLen; omega) (by unfold maxLen; omega)
          rw [decide_eq_true rfl] at hsame
          clear q1 q2 hcq e1 hrow hqin hq
          obtain ⟨lq, hlq⟩ : ∃ lq, q.length = lq := ⟨_, rfl⟩
          have HQ := Lib.hid hlq
          rw [hlq] at x1 hsame q3 hcall
          clear hlq
          have j1 : (0 : Int) ≤ (k : Int) := by omega
          have j2 : (k : Int) < (n1 : Int) := by omega
          go_wp2_with fail
          go_at_call 18
          refine hcall.mono ?_
          rintro e w4 ⟨Ax, nx, cx, xs, rfl, hox, hlx, hbx⟩
          obtain rfl : nx = 1 := by rw [← hox.vals_len, hlx.1]; rfl
          have hxl : 0 < xs.length := by rw [hlx.1]; exact Nat.zero_lt_one
          obtain ⟨Ay, cy, ey, hoy⟩ := hlx.2 0 hxl Nat.zero_lt_one
          simp only [List.getElem_cons_zero] at ey hoy
          rw [HQ.out] at ey
          have hr1 := Own.rd hoy (by decide)
          have hr2 := (hrq.below hbx).more hbx.size
          obtain ⟨gx, rfl, _, _, hrowx⟩ := hox.at_ (by decide)
          have x2 := (hrowx 0 hxl).1
          rw [ey] at x2
          have x1' := (hbx.cell (p := ⟨g, k, none⟩) hg2).trans x1
          have HW2 := Lib.hid (HW.out.trans (hbx.mono HW.out.size))
          have hsame := hsame Ay cy
          have HC : w4.cell? ⟨gx, 0, none⟩ = some (.slice Ay lq cy) ∧ w4.cell? ⟨g, k, none⟩ = some (.slice Aq lq cq) := ⟨x2, x1'⟩
          clear hox hlx hbx hoy hrowx ey hrq hoq x1 hcall hg2
          go_wp2
          refine region_wz (fun W' => W'.cell? ⟨gx, 0, none⟩ = some (.slice Ay lq cy) ∧ W'.cell? ⟨g, k, none⟩ = some (.slice Aq lq cq)) none (by kernel_rfl) ?_
          apply WZ.take (i := 0) (some 62) rfl rfl (by kernel_rfl) (by kernel_rfl) (by kernel_rfl) (calm_panic _) (by kernel_rfl)
          case hy => (refine .inl ⟨by kernel_rfl, fun W hC => ?_⟩; (try dsimp only at hC); go_simp; rfl)
          case hC => exact HC
          case ha => (simp only [Act.put, List.setIfInBounds_toArray, List.set_cons_zero, List.set_cons_succ]; rfl)
          apply WZ.take (i := 1) (some 63) rfl rfl (by kernel_rfl) (by kernel_rfl) (by kernel_rfl) (calm_panic _) (by kernel_rfl)
          case hy => (refine .inl ⟨by kernel_rfl, fun W hC => ?_⟩; (try dsimp only at hC); go_simp; rfl)
          case hC => exact HC
          case ha => (simp only [Act.put, List.setIfInBounds_toArray, List.set_cons_zero, List.set_cons_succ]; rfl)
          apply WZ.take (i := 2) (some 64) rfl rfl (by kernel_rfl) (by kernel_rfl) (by kernel_rfl) (calm_panic _) (by kernel_rfl)
          case hy => (refine .inl ⟨by kernel_rfl, fun W hC => ?_⟩; (try dsimp only at hC); go_simp; rfl)
          case hC => exact HC
          case ha => (simp only [Act.put, List.setIfInBounds_toArray, List.set_cons_zero, List.set_cons_succ]; rfl)
          apply WZ.take (i := 3) (some 65) rfl rfl (by kernel_rfl) (by kernel_rfl) (by kernel_rfl) (calm_panic _) (by kernel_rfl)
          case hy => (refine .inl ⟨by kernel_rfl, fun W hC => ?_⟩; (try dsimp only at hC); go_simp; rfl)
          case hC => exact HC
          case ha => (simp only [Act.put, List.setIfInBounds_toArray, List.set_cons_zero, List.set_cons_succ]; rfl)
          apply WZ.take (i := 4) (some 66) rfl rfl (by kernel_rfl) (by kernel_rfl) (by kernel_rfl) (calm_panic _) (by kernel_rfl)
          case hy => (refine .inl ⟨by kernel_rfl, fun W hC => ?_⟩; (try dsimp only at hC); go_simp; rfl)
          case hC => exact HC
          case ha => (simp only [Act.put, List.setIfInBounds_toArray, List.set_cons_zero, List.set_cons_succ]; rfl)
          apply WZ.take (i := 5) (some 67) rfl rfl (by kernel_rfl) (by kernel_rfl) (by kernel_rfl) (calm_panic _) (by kernel_rfl)
          case hy => (refine .inl ⟨by kernel_rfl, fun W hC => ?_⟩; (try dsimp only at hC); go_simp; rfl)
          case hC => exact HC
          case ha => (simp only [Act.put, List.setIfInBounds_toArray, List.set_cons_zero, List.set_cons_succ]; rfl)
          apply WZ.take (i := 6) (some 68) rfl rfl (by kernel_rfl) (by kernel_rfl) (by kernel_rfl) (calm_panic _) (by kernel_rfl)
          case hy => (refine .inl ⟨by kernel_rfl, fun W hC => ?_⟩; (try dsimp only at hC); go_simp; rfl)
          case hC => exact HC
          case ha => (simp only [Act.put, List.setIfInBounds_toArray, List.set_cons_zero, List.set_cons_succ]; rfl)
          apply WZ.take (i := 7) (some 69) rfl rfl (by kernel_rfl) (by kernel_rfl) (by kernel_rfl) (calm_panic _) (by kernel_rfl)
          case hy => (refine .inl ⟨by kernel_rfl, fun W hC => ?_⟩; (try dsimp only at hC); go_simp; rfl)
          case hC => exact HC
          case ha => (simp only [Act.put, List.setIfInBounds_toArray, List.set_cons_zero, List.set_cons_succ]; rfl)
          apply WZ.take (i := 8) (some 70) rfl rfl (by kernel_rfl) (by kernel_rfl) (by kernel_rfl) (calm_panic _) (by kernel_rfl)
          case hy => (refine .inl ⟨by kernel_rfl, fun W hC => ?_⟩; (try dsimp only at hC); go_simp; rfl)
          case hC => exact HC
          case ha => (simp only [Act.put, List.setIfInBounds_toArray, List.set_cons_zero, List.set_cons_succ]; rfl)
          apply WZ.take (i := 9) (some 71) rfl rfl (by kernel_rfl) (by kernel_rfl) (by kernel_rfl) (calm_panic _) (by kernel_rfl)
          case hy => (refine .inl ⟨by kernel_rfl, fun W hC => ?_⟩; (try dsimp only at hC); go_simp; rfl)
          case hC => exact HC
          case ha => (simp only [Act.put, List.setIfInBounds_toArray, List.set_cons_zero, List.set_cons_succ]; rfl)
          apply WZ.take (i := 10) (some 72) rfl rfl (by kernel_rfl) (by kernel_rfl) (by kernel_rfl) (calm_panic _) (by kernel_rfl)
          case hy => (refine .inl ⟨by kernel_rfl, fun W hC => ?_⟩; (try dsimp only at hC); go_simp; rfl)
          case hC => exact HC
          case ha => (simp only [Act.put, List.setIfInBounds_toArray, List.set_cons_zero, List.set_cons_succ]; rfl)
          apply WZ.take (i := 11) (some 73) rfl rfl (by kernel_rfl) (by kernel_rfl) (by kernel_rfl) (calm_panic _) (by kernel_rfl)
          case hy => (refine .inl ⟨by kernel_rfl, fun W hC => ?_⟩; (try dsimp only at hC); go_simp; rfl)
          case hC => exact HC
          case ha => (simp only [Act.put, List.setIfInBounds_toArray, List.set_cons_zero, List.set_cons_succ]; rfl)
          apply WZ.take (i := 12) (some 74) rfl rfl (by kernel_rfl) (by kernel_rfl) (by kernel_rfl) (calm_panic _) (by kernel_rfl)
          case hy => (refine .inl ⟨by kernel_rfl, fun W hC => ?_⟩; (try dsimp only at hC); go_simp; rfl)
          case hC => exact HC
          case ha => (simp only [Act.put, List.setIfInBounds_toArray, List.set_cons_zero, List.set_cons_succ]; rfl)
          apply WZ.take (i := 13) (some 75) rfl rfl (by kernel_rfl) (by kernel_rfl) (by kernel_rfl) (calm_panic _) (by kernel_rfl)
          case hy => (refine .inl ⟨by kernel_rfl, fun W hC => ?_⟩; (try dsimp only at hC); go_simp; rfl)
          case hC => exact HC
          case ha => (simp only [Act.put, List.setIfInBounds_toArray, List.set_cons_zero, List.set_cons_succ]; rfl)
          apply WZ.take (i := 14) (some 76) rfl rfl (by kernel_rfl) (by kernel_rfl) (by kernel_rfl) (calm_panic _) (by kernel_rfl)
          case hy => (refine .inl ⟨by kernel_rfl, fun W hC => ?_⟩; (try dsimp only at hC); go_simp; rfl)
          case hC => exact HC
          case ha => (simp only [Act.put, List.setIfInBounds_toArray, List.set_cons_zero, List.set_cons_succ]; rfl)
          -- 15
          refine WZ.one (i := 15) rfl (by kernel_rfl) ?_
          conv => arg 4; arg 1; whnf
          go_wp2_with (go_at_call 22; refine (hsame _ w4.heap.size (hr1.drewN _) (hr2.drewN _)).mono ?_; rintro e w5 ⟨rfl, n3, rfl⟩)
          refine ⟨HC, ?_⟩
          apply WZ.take (i := 16) (some 78) rfl rfl (by kernel_rfl) (by kernel_rfl) (by kernel_rfl) (calm_panic _) (by kernel_rfl)
          case hy => (refine .inl ⟨by kernel_rfl, fun W hC => ?_⟩; (try dsimp only at hC); go_simp; rfl)
          case hC => exact HC
          case ha => (simp only [Act.put, List.setIfInBounds_toArray, List.set_cons_zero, List.set_cons_succ]; rfl)
          apply WZ.take (i := 17) (some 79) rfl rfl (by kernel_rfl) (by kernel_rfl) (by kernel_rfl) (calm_panic _) (by kernel_rfl)
          case hy => (refine .inl ⟨by kernel_rfl, fun W hC => ?_⟩; (try dsimp only at hC); go_simp; rfl)
          case hC => exact HC
          case ha => (simp only [Act.put, List.setIfInBounds_toArray, List.set_cons_zero, List.set_cons_succ]; rfl)
          refine WZ.done (by kernel_rfl) ?_ _
          simp only [Calm, Exit.then]
          go_wp2
          exact ⟨⟨k + 1, by omega, by go_num, Lib.hid (below_drewN HW2.out _)⟩, by simp [intOf]; omega⟩
        · have j2 : decide ((k : Int) < (n1 : Int)) = false := decide_eq_false (by omega)
          go_wp2
          go_ret
          exact ⟨rfl, HB.out.trans (HW.out.mono HB.out.size)⟩
    · have hs1 : rollSpec l m = ([], 40) := by
        unfold rollSpec
        rw [if_neg (by omega), if_neg hr]
      go_wp2_with (first
        | (go_at_call 9; refine (bounded_any A none c 0 l [] _ _ hl Rd.nil HL.out (Nat.zero_le _)).mono ?_; rw [hb]; rintro e w1 ⟨rfl, rfl⟩)
        | (go_at_call 10; refine (shown_any _).mono ?_; rintro e w1 ⟨rfl, hb1⟩
           have hl1 := (hl.below hb1).more hb1.size
           have hz1 := hb1.size)
        | (go_at_call 18; refine (cutRoll_any A c l m _ hl1 (by omega) hcap (by omega)).mono ?_; rw [hs1]; rintro e w2 ⟨A1, n1, c1, vs, rfl, ho1, hls1, hb2⟩))
      go_ret
      exact ⟨rfl, hb1.trans (hb2.mono hz1)⟩
  · have hb' : bnd l [] = false := by simpa using hb
    clear hb
    go_wp2_with (first
        | (go_at_call 9; refine (bounded_any A none c 0 l [] _ _ hl Rd.nil HL.out (Nat.zero_le _)).mono ?_; rw [hb']; rintro e w1 ⟨rfl, rfl⟩)
        | (go_at_call 10; refine (shown_any _).mono ?_; rintro e w1 ⟨rfl, hb1⟩))
    go_ret
    exact ⟨rfl, hb1⟩
end Go.Proofs.Yteacjikkojglmaa
