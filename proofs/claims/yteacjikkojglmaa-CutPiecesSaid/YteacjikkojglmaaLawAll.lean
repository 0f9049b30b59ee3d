/-
  The walk of the law CutAll.
-/
import Derived.Test.YteacjikkojglmaaLawRolls
namespace Go.Proofs.Yteacjikkojglmaa
open Go.RowKit Go.Shelf
attribute [local go_sem ↓] Go.wp_at_zero Go.wp_at_succ

theorem pcs_at {w : World} {b o : Nat} {ts : List Nat} {vs : List Value} (hc : ∀ j (h : j < (pcs ts vs).length), w.cell? ⟨b, o + j, none⟩ = some (pcs ts vs)[j]) (h : ts.length = vs.length) (k : Nat) (hk : k < vs.length) :
    w.cell? ⟨b, o + k * 2, none⟩ = some (.int .i64 (ts[k]'(by omega))) ∧ w.cell? ⟨b, o + k * 2 + 1, none⟩ = some vs[k] := by
  have hl := pcs_length ts vs h
  have hg := pcs_get ts vs h k hk (by omega) (by omega)
  have h1 := hc (2 * k) (by omega)
  have h2 := hc (2 * k + 1) (by omega)
  rw [hg.1] at h1
  rw [hg.2] at h2
  rw [Nat.mul_comm] at h1 h2
  exact ⟨h1, h2⟩
/-- a piece of a row of pieces -/
theorem PcSt.at_ {w : World} {base e n c : Nat} {A : Option Addr} {P : List (Nat × List Cl)} {vs : List Value} (h : PcSt w base e A n c P vs) (k : Nat) (hk : k < n) (hk' : k < P.length) :
    ∃ (b o : Nat) (A2 : Option Addr) (c2 : Nat), A = some ⟨b, o, none⟩ ∧ b < w.heap.size ∧ w.cell? ⟨b, o + k * 2, none⟩ = some (.int .i64 P[k].1) ∧ w.cell? ⟨b, o + k * 2 + 1, none⟩ = some (.slice A2 P[k].2.length c2) ∧ Rd w w.heap.size A2 (vals P[k].2) := by
  obtain ⟨h1, h2, h3⟩ := h
  have hvl := PcSt.len ⟨h1, h2, h3⟩
  have hpl := pcs_length (P.map (·.1)) vs (by simp; omega)
  obtain ⟨b, o, e1, hb, hc⟩ := (Own.rd h1 (by decide)).at_ (List.ne_nil_of_length_pos (by omega))
  obtain ⟨x1, x2⟩ := pcs_at hc (by simp; omega) k (by omega)
  obtain ⟨A2, c2, e2, ho⟩ := h2.2 k (by omega) (by simpa using hk')
  have hr := Own.rd ho (by decide)
  simp only [List.getElem_map] at x1 e2 hr
  rw [e2] at x2
  exact ⟨b, o, A2, c2, e1, hb, x1, x2, hr⟩

theorem allSpec_len {l : List Cl} {ss : List ByteArray} {most : Int} (h : l.length ≤ 1000) (h' : ss.length ≤ 1000) : ∀ p ∈ (allSpec l ss most).1, p.2.length ≤ 1000 := by
  intro p hp
  unfold allSpec at hp
  split at hp
  · split at hp
    · rename_i hr
      split at hp
      · cases hp
      · have key : ∀ k, ∀ p ∈ pieces most.toNat (splitAt l ss) k, p.2.length ≤ 1000 := by
          intro k
          induction k with
          | zero => intro p hp; cases hp
          | succ k ih =>
            intro p hp
            rw [pieces] at hp
            rcases List.mem_append.1 hp with hp | hp
            · exact ih p hp
            · rw [List.mem_map] at hp
              obtain ⟨q, hq, rfl⟩ := hp
              have h1 := roll_le most.toNat _ [] 0 (by simp) q hq
              rw [total_rows] at h1
              have h2 : ((splitAt l ss).getD k []).length ≤ l.length := by
                rw [List.getD_eq_getElem?_getD]
                cases e : (splitAt l ss)[k]? with
                | none => simp
                | some p => exact (splitAt_mem ss l hr p (List.mem_of_getElem? e)).2
              show q.length ≤ 1000
              omega
        exact key _ p hp
    · cases hp
  · cases hp
theorem allSpec_count {l : List Cl} {ss : List ByteArray} {most : Int} (h : l.length ≤ 1000) (h' : ss.length ≤ 1000) : (allSpec l ss most).1.length ≤ 1001000 := by
  unfold allSpec
  split
  · split
    · rename_i hr
      split
      · simp
      · have := pieces_length most.toNat (splitAt l ss) 1000 (fun p hp => Nat.le_trans (splitAt_mem ss l hr p hp).2 h) (ss.length + 1)
        simp only at *
        omega
    · simp
  · simp

set_option maxHeartbeats 4000000 in
theorem cutAllLaw_any (A S : Option Addr) (c d : Nat) (l : List Cl) (ss : List ByteArray) (most : Int) (w : World) (hl : Rd w w.heap.size A (vals l)) (hs : Rd w w.heap.size S (strs ss)) (hlen : l.length ≤ maxLen) (hlen' : ss.length ≤ maxLen) (hcap : l.length ≤ c) (hm : most ≤ 9223372036854775807) :
    Calls Try.prog 5 #[.slice A l.length c, .slice S ss.length d, .int .i64 most] w fun e w' => e = .returned (.bool true) ∧ Below w.heap.size w w' := by
  have HL := Lib.hid hlen
  have HL' := Lib.hid hlen'
  clear hlen hlen'
  go_enter Try.func5, Try.ntmps5
  by_cases hb : bnd l ss = true
  · obtain ⟨b1, b2⟩ := bnd_parts hb
    go_wp2_with (first
        | (go_at_call 9; refine (bounded_any A S c d l ss _ _ hl hs HL.out HL'.out).mono ?_; rw [hb]; rintro e w1 ⟨rfl, rfl⟩)
        | (go_at_call 10; refine (shown_any _).mono ?_; rintro e w1 ⟨rfl, hb1⟩
           have hl1 := (hl.below hb1).more hb1.size
           have hs1 := (hs.below hb1).more hb1.size
           have hz1 := hb1.size)
        | (go_at_call 20; refine (cutAll_any A S c d l ss most _ hl1 hs1 (by omega) (by omega) hcap hm).mono ?_; rintro e w2 ⟨A1, n1, c1, vs, rfl, ho1, hb2⟩
           have hl2 := (hl1.below hb2).more hb2.size
           have hs2 := (hs1.below hb2).more hb2.size
           have hz2 := hb2.size)
        | (go_at_call 21; refine (refAll_any A S c d l ss most _ hl2 hs2 (by omega) (by omega) hcap hm).mono ?_; rintro e w3 ⟨A2, n2, c2, us, rfl, ho2, hb3⟩
           have hz3 := hb3.size
           have hnn : n2 = n1 := by rw [← ho1.2.2, ← ho2.2.2]
           subst hnn
           have hn1 : n2 ≤ 1001000 := by rw [← ho2.2.2]; exact allSpec_count (by omega) (by omega)
           have HP1 := Lib.hid (ho1.below hb3)
           have HP2 := Lib.hid ho2
           have HB := Lib.hid (hb1.trans ((hb2.mono hz1).trans (hb3.mono (Nat.le_trans hz1 hz2))))
           clear hl hs hl1 hs1 hl2 hs2 hb1 hb2 hb3 ho1 ho2))
    go_loopw [11] (fun i wr => ∃ k n : Nat, k ≤ n2 ∧ i = .int .i64 k ∧ wr = w3.drewN n) (fun i _ => n2 - (intOf i).toNat)
    case atStart => exact ⟨0, 0, Nat.zero_le _, rfl, rfl⟩
    case round =>
      obtain ⟨k, n, hk, rfl, rfl⟩ := hrel
      by_cases hlt : k < n2
      · have hkp : k < (allSpec l ss most).1.length := by have := HP1.out.2.2; omega
        obtain ⟨b, o, A3, c3, rfl, hb1, x1, x2, hr1⟩ := HP1.out.at_ k hlt hkp
        obtain ⟨b', o', A4, c4, rfl, hb2, y1, y2, hr2⟩ := HP2.out.at_ k hlt hkp
        have hq := allSpec_len (l := l) (ss := ss) (most := most) (by omega) (by omega) _ (List.getElem_mem hkp)
        obtain ⟨tb, htb⟩ : ∃ tb, ((allSpec l ss most).1[k]).1 = tb := ⟨_, rfl⟩
        obtain ⟨q, hqq⟩ : ∃ q, ((allSpec l ss most).1[k]).2 = q := ⟨_, rfl⟩
        rw [htb] at x1 y1
        rw [hqq] at x2 y2 hr1 hr2 hq
        have hsame := fun (W : World) D h1 h2 => sameCells_any A3 A4 c3 c4 q q W D h1 h2 (by unfold maxLen; omega) (by unfold maxLen; omega)
        rw [decide_eq_true rfl] at hsame
        obtain ⟨lp, hlp⟩ : ∃ lp, q.length = lp := ⟨_, rfl⟩
        rw [hlp] at x2 y2 hsame hq
        have j1 : (0 : Int) ≤ (k : Int) := by omega
        have j2 : (k : Int) < (n2 : Int) := by omega
        clear htb hqq hlp hkp
        have HC : (w3.drewN n).cell? ⟨b, o + k * 2, none⟩ = some (.int .i64 tb) ∧ (w3.drewN n).cell? ⟨b, o + k * 2 + 1, none⟩ = some (.slice A3 lp c3) ∧ (w3.drewN n).cell? ⟨b', o' + k * 2, none⟩ = some (.int .i64 tb) ∧ (w3.drewN n).cell? ⟨b', o' + k * 2 + 1, none⟩ = some (.slice A4 lp c4) := ⟨x1, x2, y1, y2⟩
        go_wp2
        refine region_wz (fun W' => W'.cell? ⟨b, o + k * 2, none⟩ = some (.int .i64 tb) ∧ W'.cell? ⟨b, o + k * 2 + 1, none⟩ = some (.slice A3 lp c3) ∧ W'.cell? ⟨b', o' + k * 2, none⟩ = some (.int .i64 tb) ∧ W'.cell? ⟨b', o' + k * 2 + 1, none⟩ = some (.slice A4 lp c4)) none (by kernel_rfl) ?_
        apply WZ.take (i := 0) (some 51) rfl rfl (by kernel_rfl) (by kernel_rfl) (by kernel_rfl) (calm_panic _) (by kernel_rfl)
        case hy => (refine .inl ⟨by kernel_rfl, fun W hC => ?_⟩; (try dsimp only at hC); go_simp; rfl)
        case hC => exact HC
        case ha => (simp only [Act.put, List.setIfInBounds_toArray, List.set_cons_zero, List.set_cons_succ]; rfl)
        apply WZ.take (i := 1) (some 52) rfl rfl (by kernel_rfl) (by kernel_rfl) (by kernel_rfl) (calm_panic _) (by kernel_rfl)
        case hy => (refine .inl ⟨by kernel_rfl, fun W hC => ?_⟩; (try dsimp only at hC); go_simp; rfl)
        case hC => exact HC
        case ha => (simp only [Act.put, List.setIfInBounds_toArray, List.set_cons_zero, List.set_cons_succ]; rfl)
        apply WZ.take (i := 2) (some 53) rfl rfl (by kernel_rfl) (by kernel_rfl) (by kernel_rfl) (calm_panic _) (by kernel_rfl)
        case hy => (refine .inl ⟨by kernel_rfl, fun W hC => ?_⟩; (try dsimp only at hC); go_simp; rfl)
        case hC => exact HC
        case ha => (simp only [Act.put, List.setIfInBounds_toArray, List.set_cons_zero, List.set_cons_succ]; rfl)
        apply WZ.take (i := 3) (some 54) rfl rfl (by kernel_rfl) (by kernel_rfl) (by kernel_rfl) (calm_panic _) (by kernel_rfl)
        case hy => (refine .inl ⟨by kernel_rfl, fun W hC => ?_⟩; (try dsimp only at hC); go_simp; rfl)
        case hC => exact HC
        case ha => (simp only [Act.put, List.setIfInBounds_toArray, List.set_cons_zero, List.set_cons_succ]; rfl)
        apply WZ.take (i := 4) (some 55) rfl rfl (by kernel_rfl) (by kernel_rfl) (by kernel_rfl) (calm_panic _) (by kernel_rfl)
        case hy => (refine .inl ⟨by kernel_rfl, fun W hC => ?_⟩; (try dsimp only at hC); go_simp; rfl)
        case hC => exact HC
        case ha => (simp only [Act.put, List.setIfInBounds_toArray, List.set_cons_zero, List.set_cons_succ]; rfl)
        apply WZ.take (i := 5) (some 56) rfl rfl (by kernel_rfl) (by kernel_rfl) (by kernel_rfl) (calm_panic _) (by kernel_rfl)
        case hy => (refine .inl ⟨by kernel_rfl, fun W hC => ?_⟩; (try dsimp only at hC); go_simp; rfl)
        case hC => exact HC
        case ha => (simp only [Act.put, List.setIfInBounds_toArray, List.set_cons_zero, List.set_cons_succ]; rfl)
        apply WZ.take (i := 6) (some 57) rfl rfl (by kernel_rfl) (by kernel_rfl) (by kernel_rfl) (calm_panic _) (by kernel_rfl)
        case hy => (refine .inl ⟨by kernel_rfl, fun W hC => ?_⟩; (try dsimp only at hC); go_simp; rfl)
        case hC => exact HC
        case ha => (simp only [Act.put, List.setIfInBounds_toArray, List.set_cons_zero, List.set_cons_succ]; rfl)
        apply WZ.take (i := 7) (some 58) rfl rfl (by kernel_rfl) (by kernel_rfl) (by kernel_rfl) (calm_panic _) (by kernel_rfl)
        case hy => (refine .inl ⟨by kernel_rfl, fun W hC => ?_⟩; (try dsimp only at hC); go_simp; rfl)
        case hC => exact HC
        case ha => (simp only [Act.put, List.setIfInBounds_toArray, List.set_cons_zero, List.set_cons_succ]; rfl)
        apply WZ.take (i := 8) (some 59) rfl rfl (by kernel_rfl) (by kernel_rfl) (by kernel_rfl) (calm_panic _) (by kernel_rfl)
        case hy => (refine .inl ⟨by kernel_rfl, fun W hC => ?_⟩; (try dsimp only at hC); go_simp; rfl)
        case hC => exact HC
        case ha => (simp only [Act.put, List.setIfInBounds_toArray, List.set_cons_zero, List.set_cons_succ]; rfl)
        apply WZ.take (i := 9) (some 60) rfl rfl (by kernel_rfl) (by kernel_rfl) (by kernel_rfl) (calm_panic _) (by kernel_rfl)
        case hy => (refine .inl ⟨by kernel_rfl, fun W hC => ?_⟩; (try dsimp only at hC); go_simp; rfl)
        case hC => exact HC
        case ha => (simp only [Act.put, List.setIfInBounds_toArray, List.set_cons_zero, List.set_cons_succ]; rfl)
        apply WZ.take (i := 10) (some 61) rfl rfl (by kernel_rfl) (by kernel_rfl) (by kernel_rfl) (calm_panic _) (by kernel_rfl)
        case hy => (refine .inl ⟨by kernel_rfl, fun W hC => ?_⟩; (try dsimp only at hC); go_simp; rfl)
        case hC => exact HC
        case ha => (simp only [Act.put, List.setIfInBounds_toArray, List.set_cons_zero, List.set_cons_succ]; rfl)
        apply WZ.take (i := 11) (some 62) rfl rfl (by kernel_rfl) (by kernel_rfl) (by kernel_rfl) (calm_panic _) (by kernel_rfl)
        case hy => (refine .inl ⟨by kernel_rfl, fun W hC => ?_⟩; (try dsimp only at hC); go_simp; rfl)
        case hC => exact HC
        case ha => (simp only [Act.put, List.setIfInBounds_toArray, List.set_cons_zero, List.set_cons_succ]; rfl)
        apply WZ.take (i := 12) (some 63) rfl rfl (by kernel_rfl) (by kernel_rfl) (by kernel_rfl) (calm_panic _) (by kernel_rfl)
        case hy => (refine .inl ⟨by kernel_rfl, fun W hC => ?_⟩; (try dsimp only at hC); go_simp; rfl)
        case hC => exact HC
        case ha => (simp only [Act.put, List.setIfInBounds_toArray, List.set_cons_zero, List.set_cons_succ]; rfl)
        apply WZ.take (i := 13) (some 64) rfl rfl (by kernel_rfl) (by kernel_rfl) (by kernel_rfl) (calm_panic _) (by kernel_rfl)
        case hy => (refine .inl ⟨by kernel_rfl, fun W hC => ?_⟩; (try dsimp only at hC); go_simp; rfl)
        case hC => exact HC
        case ha => (simp only [Act.put, List.setIfInBounds_toArray, List.set_cons_zero, List.set_cons_succ]; rfl)
        apply WZ.take (i := 14) (some 65) rfl rfl (by kernel_rfl) (by kernel_rfl) (by kernel_rfl) (calm_panic _) (by kernel_rfl)
        case hy => (refine .inl ⟨by kernel_rfl, fun W hC => ?_⟩; (try dsimp only at hC); go_simp; rfl)
        case hC => exact HC
        case ha => (simp only [Act.put, List.setIfInBounds_toArray, List.set_cons_zero, List.set_cons_succ]; rfl)
        apply WZ.take (i := 15) (some 66) rfl rfl (by kernel_rfl) (by kernel_rfl) (by kernel_rfl) (calm_panic _) (by kernel_rfl)
        case hy => (refine .inl ⟨by kernel_rfl, fun W hC => ?_⟩; (try dsimp only at hC); go_simp; rfl)
        case hC => exact HC
        case ha => (simp only [Act.put, List.setIfInBounds_toArray, List.set_cons_zero, List.set_cons_succ]; rfl)
        apply WZ.take (i := 16) (some 67) rfl rfl (by kernel_rfl) (by kernel_rfl) (by kernel_rfl) (calm_panic _) (by kernel_rfl)
        case hy => (refine .inl ⟨by kernel_rfl, fun W hC => ?_⟩; (try dsimp only at hC); go_simp; rfl)
        case hC => exact HC
        case ha => (simp only [Act.put, List.setIfInBounds_toArray, List.set_cons_zero, List.set_cons_succ]; rfl)
        apply WZ.take (i := 17) (some 68) rfl rfl (by kernel_rfl) (by kernel_rfl) (by kernel_rfl) (calm_panic _) (by kernel_rfl)
        case hy => (refine .inl ⟨by kernel_rfl, fun W hC => ?_⟩; (try dsimp only at hC); go_simp; rfl)
        case hC => exact HC
        case ha => (simp only [Act.put, List.setIfInBounds_toArray, List.set_cons_zero, List.set_cons_succ]; rfl)
        apply WZ.take (i := 18) (some 69) rfl rfl (by kernel_rfl) (by kernel_rfl) (by kernel_rfl) (calm_panic _) (by kernel_rfl)
        case hy => (refine .inl ⟨by kernel_rfl, fun W hC => ?_⟩; (try dsimp only at hC); go_simp; rfl)
        case hC => exact HC
        case ha => (simp only [Act.put, List.setIfInBounds_toArray, List.set_cons_zero, List.set_cons_succ]; rfl)
        apply WZ.take (i := 19) (some 70) rfl rfl (by kernel_rfl) (by kernel_rfl) (by kernel_rfl) (calm_panic _) (by kernel_rfl)
        case hy => (refine .inl ⟨by kernel_rfl, fun W hC => ?_⟩; (try dsimp only at hC); go_simp; rfl)
        case hC => exact HC
        case ha => (simp only [Act.put, List.setIfInBounds_toArray, List.set_cons_zero, List.set_cons_succ]; rfl)
        apply WZ.take (i := 20) (some 71) rfl rfl (by kernel_rfl) (by kernel_rfl) (by kernel_rfl) (calm_panic _) (by kernel_rfl)
        case hy => (refine .inl ⟨by kernel_rfl, fun W hC => ?_⟩; (try dsimp only at hC); go_simp; rfl)
        case hC => exact HC
        case ha => (simp only [Act.put, List.setIfInBounds_toArray, List.set_cons_zero, List.set_cons_succ]; rfl)
        apply WZ.take (i := 21) (some 72) rfl rfl (by kernel_rfl) (by kernel_rfl) (by kernel_rfl) (calm_panic _) (by kernel_rfl)
        case hy => (refine .inl ⟨by kernel_rfl, fun W hC => ?_⟩; (try dsimp only at hC); go_simp; rfl)
        case hC => exact HC
        case ha => (simp only [Act.put, List.setIfInBounds_toArray, List.set_cons_zero, List.set_cons_succ]; rfl)
        -- 22
        refine WZ.one (i := 22) rfl (by kernel_rfl) ?_
        conv => arg 4; arg 1; whnf
        go_wp2_with (go_at_call 22; refine (hsame _ w3.heap.size (hr1.drewN _) (hr2.drewN _)).mono ?_; rintro e w2 ⟨rfl, n3, rfl⟩)
        refine ⟨HC, ?_⟩
        apply WZ.take (i := 23) (some 74) rfl rfl (by kernel_rfl) (by kernel_rfl) (by kernel_rfl) (calm_panic _) (by kernel_rfl)
        case hy => (refine .inl ⟨by kernel_rfl, fun W hC => ?_⟩; (try dsimp only at hC); go_simp; rfl)
        case hC => exact HC
        case ha => (simp only [Act.put, List.setIfInBounds_toArray, List.set_cons_zero, List.set_cons_succ]; rfl)
        apply WZ.take (i := 24) (some 75) rfl rfl (by kernel_rfl) (by kernel_rfl) (by kernel_rfl) (calm_panic _) (by kernel_rfl)
        case hy => (refine .inl ⟨by kernel_rfl, fun W hC => ?_⟩; (try dsimp only at hC); go_simp; rfl)
        case hC => exact HC
        case ha => (simp only [Act.put, List.setIfInBounds_toArray, List.set_cons_zero, List.set_cons_succ]; rfl)
        refine WZ.done (by kernel_rfl) ?_ _
        simp only [Calm, Exit.then]
        go_wp2
        exact ⟨⟨k + 1, _, by omega, by go_num, rfl⟩, by simp [intOf]; omega⟩
      · have j2 : decide ((k : Int) < (n2 : Int)) = false := decide_eq_false (by omega)
        go_wp2
        go_ret
        exact ⟨rfl, below_drewN HB.out _⟩
  · have hb' : bnd l ss = false := by simpa using hb
    clear hb
    go_wp2_with (first
        | (go_at_call 9; refine (bounded_any A S c d l ss _ _ hl hs HL.out HL'.out).mono ?_; rw [hb']; rintro e w1 ⟨rfl, rfl⟩)
        | (go_at_call 10; refine (shown_any _).mono ?_; rintro e w1 ⟨rfl, hb1⟩))
    go_ret
    exact ⟨rfl, hb1⟩
end Go.Proofs.Yteacjikkojglmaa
