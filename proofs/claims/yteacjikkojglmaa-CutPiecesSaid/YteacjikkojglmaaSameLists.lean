/-
  The walk of the document's SameLists.
-/
import Derived.Test.YteacjikkojglmaaAllInv
import Derived.Test.YteacjikkojglmaaList
import Derived.Test.YteacjikkojglmaaRegion
namespace Go.Proofs.Yteacjikkojglmaa
open Go.RowKit Go.Shelf
attribute [local go_sem ↓] Go.wp_at_zero Go.wp_at_succ

/-- slices that read as lists of cells -/
def RdLists (w : World) (B : Nat) (vs : List Value) (ps : List (List Cl)) : Prop :=
  vs.length = ps.length ∧ ∀ i (h : i < vs.length) (h' : i < ps.length), ∃ (A : Option Addr) (c : Nat), vs[i] = .slice A ps[i].length c ∧ Rd w B A (vals ps[i])
theorem Lists.rds {w : World} {base : Nat} {vs : List Value} {ps : List (List Cl)} (h : Lists w base vs ps) : RdLists w w.heap.size vs ps := ⟨h.1, fun i hi hi' => by
  obtain ⟨A, c, e, ho⟩ := h.2 i hi hi'
  exact ⟨A, c, e, Own.rd ho (by decide)⟩⟩
theorem RdLists.below {w w' : World} {B : Nat} {vs : List Value} {ps : List (List Cl)} (h : RdLists w B vs ps) (hb : Below B w w') : RdLists w' B vs ps := ⟨h.1, fun i hi hi' => by
  obtain ⟨A, c, e, ho⟩ := h.2 i hi hi'
  exact ⟨A, c, e, ho.below hb⟩⟩
theorem RdLists.more {w : World} {B B' : Nat} {vs : List Value} {ps : List (List Cl)} (h : RdLists w B vs ps) (hb : B ≤ B') : RdLists w B' vs ps := ⟨h.1, fun i hi hi' => by
  obtain ⟨A, c, e, ho⟩ := h.2 i hi hi'
  exact ⟨A, c, e, ho.more hb⟩⟩

/-- the first lists are alike -/
def sameLs (ps qs : List (List Cl)) (k : Nat) : Prop := ps.take k = qs.take k
theorem sameLs_succ {ps qs : List (List Cl)} {k : Nat} (h : sameLs ps qs k) (hk : k < ps.length) (hk' : k < qs.length) (e : ps[k] = qs[k]) : sameLs ps qs (k + 1) := by
  unfold sameLs at *
  rw [← List.take_append_getElem hk, ← List.take_append_getElem hk', h, e]
theorem sameLs_end {ps qs : List (List Cl)} {k : Nat} (h : sameLs ps qs k) (hn : ps.length = qs.length) (hk : ps.length ≤ k) : true = decide (ps = qs) := by
  unfold sameLs at h
  rw [List.take_of_length_le hk, List.take_of_length_le (by omega)] at h
  simp [h]
theorem sameLs_not {ps qs : List (List Cl)} {k : Nat} (hk : k < ps.length) (hk' : k < qs.length) (e : ps[k] ≠ qs[k]) : false = decide (ps = qs) := by
  symm
  rw [decide_eq_false_iff_not]
  rintro rfl
  exact e rfl
theorem sameLs_len {ps qs : List (List Cl)} (hn : ps.length ≠ qs.length) : false = decide (ps = qs) := by
  symm
  rw [decide_eq_false_iff_not]
  rintro rfl
  exact hn rfl

set_option maxHeartbeats 1000000 in
theorem sameLists_any (A B : Option Addr) (n1 n2 c d : Nat) (vs us : List Value) (ps qs : List (List Cl)) (w : World) (D : Nat) (hv : Rd w D A vs) (hu : Rd w D B us) (hp : RdLists w D vs ps) (hq : RdLists w D us qs) (h1 : vs.length = n1) (h2 : us.length = n2) (hn1 : n1 ≤ maxLen) (hn2 : n2 ≤ maxLen)
    (hps : ∀ p ∈ ps, p.length ≤ maxLen) (hqs : ∀ p ∈ qs, p.length ≤ maxLen) :
    Calls Try.prog 13 #[.slice A n1 c, .slice B n2 d] w fun e w' => e = .returned (.bool (decide (ps = qs))) ∧ ∃ n, w' = w.drewN n := by
  unfold maxLen at hn1 hn2
  have HP := Lib.hid hps
  have HQ := Lib.hid hqs
  have H1 := Lib.hid h1
  have H2 := Lib.hid h2
  have HPL := Lib.hid hp.1
  have HQL := Lib.hid hq.1
  by_cases hn : n1 = n2
  · have hb : ((n1 : Int) != (n2 : Int)) = false := by simp [hn]
    have HN := Lib.hid (show ps.length = qs.length by rw [← hp.1, ← hq.1, h1, h2, hn])
    have HNN := Lib.hid hn
    clear hn hps hqs h1 h2
    go_enter Try.func13, Try.ntmps13
    go_wp2
    go_loopw [5] (fun i wr => ∃ k n : Nat, k ≤ n1 ∧ Hid (sameLs ps qs k) ∧ i = .int .i64 k ∧ wr = w.drewN n) (fun i _ => n1 - (intOf i).toNat)
    case atStart => exact ⟨0, 0, Nat.zero_le _, Lib.hid rfl, rfl, rfl⟩
    case round =>
      obtain ⟨k, n, hk, HS, rfl, rfl⟩ := hrel
      by_cases hlt : k < n1
      · have hkv : k < vs.length := by rw [H1.out]; exact hlt
        have hku : k < us.length := by rw [H2.out, ← HNN.out]; exact hlt
        have hkp : k < ps.length := by rw [← HPL.out]; exact hkv
        have hkq : k < qs.length := by rw [← HQL.out]; exact hku
        obtain ⟨A1, c1, e1, hr1⟩ := hp.2 k hkv hkp
        obtain ⟨A2, c2, e2, hr2⟩ := hq.2 k hku hkq
        obtain ⟨b, o, rfl, hb0, hc⟩ := hv.at_ (List.ne_nil_of_length_pos (by omega))
        obtain ⟨b', o', rfl, hb0', hc'⟩ := hu.at_ (List.ne_nil_of_length_pos (by omega))
        have x1 := hc k hkv
        have x2 := hc' k hku
        rw [e1] at x1
        rw [e2] at x2
        have m1 := HP.out _ (List.getElem_mem hkp)
        have m2 := HQ.out _ (List.getElem_mem hkq)
        have hsame := sameCells_any A1 A2 c1 c2 ps[k] qs[k]
        obtain ⟨p, hpk⟩ : ∃ p, ps[k] = p := ⟨_, rfl⟩
        obtain ⟨q, hqk⟩ : ∃ q, qs[k] = q := ⟨_, rfl⟩
        rw [hpk] at x1 m1 hr1 hsame
        rw [hqk] at x2 m2 hr2 hsame
        have HPK := Lib.hid hpk
        have HQK := Lib.hid hqk
        have j1 : (0 : Int) ≤ (k : Int) := by omega
        have j2 : (k : Int) < (n1 : Int) := by omega
        have j3 : (k : Int) < (n2 : Int) := by rw [← HNN.out]; exact j2
        have hkn2 : k < n2 := by omega
        clear hc hc' hv hu hp hq e1 e2 hpk hqk
        have j4 : decide ((k : Int) < (n1 : Int)) = true := decide_eq_true j2
        obtain ⟨lp, hlp⟩ : ∃ lp, p.length = lp := ⟨_, rfl⟩
        obtain ⟨lq, hlq⟩ : ∃ lq, q.length = lq := ⟨_, rfl⟩
        rw [hlp] at x1 m1 hsame
        rw [hlq] at x2 m2 hsame
        clear hlp hlq
        have HC : (w.drewN n).cell? ⟨b, o + k, none⟩ = some (.slice A1 lp c1) ∧ (w.drewN n).cell? ⟨b', o' + k, none⟩ = some (.slice A2 lq c2) := ⟨x1, x2⟩
        by_cases heq : p = q
        · have HE := Lib.hid (sameLs_succ HS.out hkp hkq (by rw [HPK.out, HQK.out, heq]))
          have ht : decide (p = q) = true := by simp [heq]
          clear heq
          go_wp2
          refine region_wz (fun W' => W'.cell? ⟨b, o + k, none⟩ = some (.slice A1 lp c1) ∧ W'.cell? ⟨b', o' + k, none⟩ = some (.slice A2 lq c2)) none (by kernel_rfl) ?_
          apply WZ.take (i := 0) (some 17) rfl rfl (by kernel_rfl) (by kernel_rfl) (by kernel_rfl) (calm_panic _) (by kernel_rfl)
          case hy => (refine .inl ⟨by kernel_rfl, fun W hC => ?_⟩; (try dsimp only at hC); go_simp; rfl)
          case hC => exact HC
          case ha => (simp only [Act.put, List.setIfInBounds_toArray, List.set_cons_zero, List.set_cons_succ]; rfl)
          apply WZ.take (i := 1) (some 18) rfl rfl (by kernel_rfl) (by kernel_rfl) (by kernel_rfl) (calm_panic _) (by kernel_rfl)
          case hy => (refine .inl ⟨by kernel_rfl, fun W hC => ?_⟩; (try dsimp only at hC); go_simp; rfl)
          case hC => exact HC
          case ha => (simp only [Act.put, List.setIfInBounds_toArray, List.set_cons_zero, List.set_cons_succ]; rfl)
          apply WZ.take (i := 2) (some 19) rfl rfl (by kernel_rfl) (by kernel_rfl) (by kernel_rfl) (calm_panic _) (by kernel_rfl)
          case hy => (refine .inl ⟨by kernel_rfl, fun W hC => ?_⟩; (try dsimp only at hC); go_simp; rfl)
          case hC => exact HC
          case ha => (simp only [Act.put, List.setIfInBounds_toArray, List.set_cons_zero, List.set_cons_succ]; rfl)
          apply WZ.take (i := 3) (some 20) rfl rfl (by kernel_rfl) (by kernel_rfl) (by kernel_rfl) (calm_panic _) (by kernel_rfl)
          case hy => (refine .inl ⟨by kernel_rfl, fun W hC => ?_⟩; (try dsimp only at hC); go_simp; rfl)
          case hC => exact HC
          case ha => (simp only [Act.put, List.setIfInBounds_toArray, List.set_cons_zero, List.set_cons_succ]; rfl)
          apply WZ.take (i := 4) (some 21) rfl rfl (by kernel_rfl) (by kernel_rfl) (by kernel_rfl) (calm_panic _) (by kernel_rfl)
          case hy => (refine .inl ⟨by kernel_rfl, fun W hC => ?_⟩; (try dsimp only at hC); go_simp; rfl)
          case hC => exact HC
          case ha => (simp only [Act.put, List.setIfInBounds_toArray, List.set_cons_zero, List.set_cons_succ]; rfl)
          apply WZ.take (i := 5) (some 22) rfl rfl (by kernel_rfl) (by kernel_rfl) (by kernel_rfl) (calm_panic _) (by kernel_rfl)
          case hy => (refine .inl ⟨by kernel_rfl, fun W hC => ?_⟩; (try dsimp only at hC); go_simp; rfl)
          case hC => exact HC
          case ha => (simp only [Act.put, List.setIfInBounds_toArray, List.set_cons_zero, List.set_cons_succ]; rfl)
          apply WZ.take (i := 6) (some 23) rfl rfl (by kernel_rfl) (by kernel_rfl) (by kernel_rfl) (calm_panic _) (by kernel_rfl)
          case hy => (refine .inl ⟨by kernel_rfl, fun W hC => ?_⟩; (try dsimp only at hC); go_simp; rfl)
          case hC => exact HC
          case ha => (simp only [Act.put, List.setIfInBounds_toArray, List.set_cons_zero, List.set_cons_succ]; rfl)
          apply WZ.take (i := 7) (some 24) rfl rfl (by kernel_rfl) (by kernel_rfl) (by kernel_rfl) (calm_panic _) (by kernel_rfl)
          case hy => (refine .inl ⟨by kernel_rfl, fun W hC => ?_⟩; (try dsimp only at hC); go_simp; rfl)
          case hC => exact HC
          case ha => (simp only [Act.put, List.setIfInBounds_toArray, List.set_cons_zero, List.set_cons_succ]; rfl)
          -- 8
          refine WZ.one (i := 8) rfl (by kernel_rfl) ?_
          conv => arg 4; arg 1; whnf
          go_wp2_with (go_at_call 22; refine (hsame _ D (hr1.drewN _) (hr2.drewN _) m1 m2).mono ?_; rintro e w2 ⟨rfl, n3, rfl⟩)
          refine ⟨HC, ?_⟩
          apply WZ.take (i := 9) (some 26) rfl rfl (by kernel_rfl) (by kernel_rfl) (by kernel_rfl) (calm_panic _) (by kernel_rfl)
          case hy => (refine .inl ⟨by kernel_rfl, fun W hC => ?_⟩; (try dsimp only at hC); go_simp; rfl)
          case hC => exact HC
          case ha => (simp only [Act.put, List.setIfInBounds_toArray, List.set_cons_zero, List.set_cons_succ]; rfl)
          refine WZ.done (by kernel_rfl) ?_ _
          simp only [Calm, Exit.then]
          go_wp2
          exact ⟨⟨k + 1, _, by omega, HE, by go_num, rfl⟩, by simp [intOf]; omega⟩
        · have HE := Lib.hid (sameLs_not hkp hkq (by rw [HPK.out, HQK.out]; exact heq))
          have ht : decide (p = q) = false := by simp [heq]
          clear heq
          go_wp2
          refine region_wz (fun W' => W'.cell? ⟨b, o + k, none⟩ = some (.slice A1 lp c1) ∧ W'.cell? ⟨b', o' + k, none⟩ = some (.slice A2 lq c2)) none (by kernel_rfl) ?_
          apply WZ.take (i := 0) (some 17) rfl rfl (by kernel_rfl) (by kernel_rfl) (by kernel_rfl) (calm_panic _) (by kernel_rfl)
          case hy => (refine .inl ⟨by kernel_rfl, fun W hC => ?_⟩; (try dsimp only at hC); go_simp; rfl)
          case hC => exact HC
          case ha => (simp only [Act.put, List.setIfInBounds_toArray, List.set_cons_zero, List.set_cons_succ]; rfl)
          apply WZ.take (i := 1) (some 18) rfl rfl (by kernel_rfl) (by kernel_rfl) (by kernel_rfl) (calm_panic _) (by kernel_rfl)
          case hy => (refine .inl ⟨by kernel_rfl, fun W hC => ?_⟩; (try dsimp only at hC); go_simp; rfl)
          case hC => exact HC
          case ha => (simp only [Act.put, List.setIfInBounds_toArray, List.set_cons_zero, List.set_cons_succ]; rfl)
          apply WZ.take (i := 2) (some 19) rfl rfl (by kernel_rfl) (by kernel_rfl) (by kernel_rfl) (calm_panic _) (by kernel_rfl)
          case hy => (refine .inl ⟨by kernel_rfl, fun W hC => ?_⟩; (try dsimp only at hC); go_simp; rfl)
          case hC => exact HC
          case ha => (simp only [Act.put, List.setIfInBounds_toArray, List.set_cons_zero, List.set_cons_succ]; rfl)
          apply WZ.take (i := 3) (some 20) rfl rfl (by kernel_rfl) (by kernel_rfl) (by kernel_rfl) (calm_panic _) (by kernel_rfl)
          case hy => (refine .inl ⟨by kernel_rfl, fun W hC => ?_⟩; (try dsimp only at hC); go_simp; rfl)
          case hC => exact HC
          case ha => (simp only [Act.put, List.setIfInBounds_toArray, List.set_cons_zero, List.set_cons_succ]; rfl)
          apply WZ.take (i := 4) (some 21) rfl rfl (by kernel_rfl) (by kernel_rfl) (by kernel_rfl) (calm_panic _) (by kernel_rfl)
          case hy => (refine .inl ⟨by kernel_rfl, fun W hC => ?_⟩; (try dsimp only at hC); go_simp; rfl)
          case hC => exact HC
          case ha => (simp only [Act.put, List.setIfInBounds_toArray, List.set_cons_zero, List.set_cons_succ]; rfl)
          apply WZ.take (i := 5) (some 22) rfl rfl (by kernel_rfl) (by kernel_rfl) (by kernel_rfl) (calm_panic _) (by kernel_rfl)
          case hy => (refine .inl ⟨by kernel_rfl, fun W hC => ?_⟩; (try dsimp only at hC); go_simp; rfl)
          case hC => exact HC
          case ha => (simp only [Act.put, List.setIfInBounds_toArray, List.set_cons_zero, List.set_cons_succ]; rfl)
          apply WZ.take (i := 6) (some 23) rfl rfl (by kernel_rfl) (by kernel_rfl) (by kernel_rfl) (calm_panic _) (by kernel_rfl)
          case hy => (refine .inl ⟨by kernel_rfl, fun W hC => ?_⟩; (try dsimp only at hC); go_simp; rfl)
          case hC => exact HC
          case ha => (simp only [Act.put, List.setIfInBounds_toArray, List.set_cons_zero, List.set_cons_succ]; rfl)
          apply WZ.take (i := 7) (some 24) rfl rfl (by kernel_rfl) (by kernel_rfl) (by kernel_rfl) (calm_panic _) (by kernel_rfl)
          case hy => (refine .inl ⟨by kernel_rfl, fun W hC => ?_⟩; (try dsimp only at hC); go_simp; rfl)
          case hC => exact HC
          case ha => (simp only [Act.put, List.setIfInBounds_toArray, List.set_cons_zero, List.set_cons_succ]; rfl)
          -- 8
          refine WZ.one (i := 8) rfl (by kernel_rfl) ?_
          conv => arg 4; arg 1; whnf
          go_wp2_with (go_at_call 22; refine (hsame _ D (hr1.drewN _) (hr2.drewN _) m1 m2).mono ?_; rintro e w2 ⟨rfl, n3, rfl⟩)
          refine ⟨HC, ?_⟩
          apply WZ.take (i := 9) (some 26) rfl rfl (by kernel_rfl) (by kernel_rfl) (by kernel_rfl) (calm_panic _) (by kernel_rfl)
          case hy => (refine .inl ⟨by kernel_rfl, fun W hC => ?_⟩; (try dsimp only at hC); go_simp; rfl)
          case hC => exact HC
          case ha => (simp only [Act.put, List.setIfInBounds_toArray, List.set_cons_zero, List.set_cons_succ]; rfl)
          refine WZ.done (by kernel_rfl) ?_ _
          simp only [Calm, Exit.then]
          go_wp2
          go_ret
          exact ⟨ret_bool HE.out, _, rfl⟩
      · have HE := Lib.hid (sameLs_end HS.out HN.out (by rw [← HPL.out, H1.out]; omega))
        have j2 : decide ((k : Int) < (n1 : Int)) = false := decide_eq_false (by omega)
        go_wp2
        go_ret
        exact ⟨ret_bool HE.out, _, rfl⟩
  · have hb : ((n1 : Int) != (n2 : Int)) = true := by simp; omega
    have HN := Lib.hid (show ps.length ≠ qs.length by rw [← hp.1, ← hq.1, h1, h2]; exact hn)
    clear hn
    go_enter Try.func13, Try.ntmps13
    go_wp2
    go_ret
    exact ⟨ret_bool (sameLs_len HN.out), 0, rfl⟩
end Go.Proofs.Yteacjikkojglmaa
