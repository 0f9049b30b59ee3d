/-
  The walk of the law RunsMakes.
-/
import Derived.Test.YtojelalgcokcfaaRefMake8
namespace Go.Proofs.Ytojelalgcokcfaa
open Go.RowKit
attribute [local go_sem ↓] Go.wp_at_zero Go.wp_at_succ

def mkPs (l : List Cl) (m : Int) : List (List It) := if m < 1 then [] else (chunks m.toNat (items l)).map resolve
def mkEr (m : Int) : Int := if m < 1 then 1 else 0
theorem make_any (A : Option Addr) (c : Nat) (l : List Cl) (m : Int) (w : World) (hl : Rd w w.heap.size A (vals l)) (hlen : l.length ≤ 100000) (hm2 : m ≤ 9223372036854775807) :
    Calls Try.prog 10 #[.slice A l.length c, .int .i64 m] w fun e w' => ∃ (A' : Option Addr) (c' : Nat) (vs : List Value), e = .returned (.tuple #[.slice A' (mkPs l m).length c', .int .i64 (mkEr m)]) ∧
      Own w' w.heap.size 35 1 A' (mkPs l m).length c' vs ∧ OLists 48 w' w.heap.size vs (mkPs l m) ∧ Below w.heap.size w w' := by
  unfold mkPs mkEr
  by_cases h : m < 1
  · rw [if_pos h, if_pos h]
    refine (make_bad A c l.length m w h).mono ?_
    rintro e w' ⟨rfl, hb⟩
    exact ⟨none, 0, [], rfl, Own.nil, OLists.nil, hb⟩
  · rw [if_neg h, if_neg h]
    obtain ⟨k, rfl⟩ : ∃ k : Nat, m = k := ⟨m.toNat, by omega⟩
    refine (make_ok A c l k w hl hlen (by omega) (by omega)).mono ?_
    rintro e w' ⟨A', n', c', vs, rfl, ho, hp, hb⟩
    have h1 := Own.vals_len' ho
    have h2 := hp.1
    obtain rfl : n' = ((chunks (k : Int).toNat (items l)).map resolve).length := by rw [Int.toNat_natCast]; omega
    exact ⟨A', c', vs, rfl, ho, hp, hb⟩
theorem refMake_any (A : Option Addr) (c : Nat) (l : List Cl) (m : Int) (w : World) (hl : Rd w w.heap.size A (vals l)) (hlen : l.length ≤ 100000) (hm2 : m ≤ 9223372036854775807) :
    Calls Try.prog 11 #[.slice A l.length c, .int .i64 m] w fun e w' => ∃ (A' : Option Addr) (c' : Nat) (vs : List Value), e = .returned (.tuple #[.slice A' (mkPs l m).length c', .int .i64 (mkEr m)]) ∧
      Own w' w.heap.size 33 1 A' (mkPs l m).length c' vs ∧ OLists 50 w' w.heap.size vs (mkPs l m) ∧ Below w.heap.size w w' := by
  unfold mkPs mkEr
  by_cases h : m < 1
  · rw [if_pos h, if_pos h]
    refine (refMake8_bad A c l.length m w h).mono ?_
    rintro e w' ⟨rfl, hb⟩
    exact ⟨none, 0, [], rfl, Own.nil, OLists.nil, hb⟩
  · rw [if_neg h, if_neg h]
    obtain ⟨k, rfl⟩ : ∃ k : Nat, m = k := ⟨m.toNat, by omega⟩
    refine (refMake8_ok A c l k w hl hlen (by omega) (by omega)).mono ?_
    rintro e w' ⟨A', n', c', vs, rfl, ho, hp, hb⟩
    have h1 := Own.vals_len' ho
    have h2 := hp.1
    obtain rfl : n' = ((chunks (k : Int).toNat (items l)).map resolve).length := by rw [Int.toNat_natCast]; omega
    exact ⟨A', c', vs, rfl, ho, hp, hb⟩
theorem OLists.lower {e : TypeId} {w : World} {base base' : Nat} {vs : List Value} {ps : List (List It)} (h : OLists e w base vs ps) (hb : base' ≤ base) : OLists e w base' vs ps := ⟨h.1, fun i hi hi' => by
  obtain ⟨A, c, e, ho⟩ := h.2 i hi hi'
  exact ⟨A, c, e, ho.lower hb⟩⟩
theorem chunks_all {m : Nat} : ∀ (n : Nat) (l : List It), l.length ≤ n → ∀ p ∈ chunks m l, p.length ≤ l.length
  | 0, l, hn, p, hp => by
    have : l = [] := List.eq_nil_of_length_eq_zero (by omega)
    subst this
    rw [chunks_nil] at hp
    cases hp
  | n + 1, l, hn, p, hp => by
    by_cases hl : l = []
    · subst hl
      rw [chunks_nil] at hp
      cases hp
    · rcases Nat.eq_zero_or_pos m with h0 | hm
      · subst h0
        rw [chunks] at hp
        cases hp
      · rw [chunks_cons hm hl] at hp
        have hpos : 0 < l.length := List.length_pos_iff.2 hl
        rcases List.mem_cons.1 hp with rfl | hp
        · rw [List.length_take]; omega
        · have := chunks_all n (l.drop m) (by rw [List.length_drop]; omega) p hp
          rw [List.length_drop] at this
          omega
theorem chunks_count {m : Nat} : ∀ (n : Nat) (l : List It), l.length ≤ n → (chunks m l).length ≤ l.length
  | 0, l, hn => by
    have : l = [] := List.eq_nil_of_length_eq_zero (by omega)
    subst this
    rw [chunks_nil]
    exact Nat.le_refl _
  | n + 1, l, hn => by
    by_cases hl : l = []
    · subst hl
      rw [chunks_nil]
      exact Nat.le_refl _
    · rcases Nat.eq_zero_or_pos m with h0 | hm
      · subst h0
        rw [chunks]
        exact Nat.zero_le _
      · rw [chunks_cons hm hl]
        have hpos : 0 < l.length := List.length_pos_iff.2 hl
        have := chunks_count (m := m) n (l.drop m) (by rw [List.length_drop]; omega)
        rw [List.length_drop] at this
        rw [List.length_cons]
        omega
theorem mkPs_count (l : List Cl) (m : Int) : (mkPs l m).length ≤ l.length := by
  unfold mkPs
  split
  · exact Nat.zero_le _
  · rw [List.length_map]
    have := chunks_count (m := m.toNat) _ _ (Nat.le_refl (items l).length)
    rwa [items_length] at this
theorem mkPs_len (l : List Cl) (m : Int) : ∀ p ∈ mkPs l m, p.length ≤ l.length := by
  unfold mkPs
  split
  · intro p hp; cases hp
  · intro p hp
    obtain ⟨q, hq, rfl⟩ := List.mem_map.1 hp
    have h1 := chunks_all _ _ (Nat.le_refl _) q hq
    have h2 := resolve_len q
    rw [items_length] at h1
    omega

set_option maxHeartbeats 8000000 in
theorem runsMakes_any (A : Option Addr) (c : Nat) (l : List Cl) (m : Int) (w : World) (hl : Rd w w.heap.size A (vals l)) (hlen : l.length ≤ maxLen) (hm2 : m ≤ 9223372036854775807) :
    Calls Try.prog 3 #[.slice A l.length c, .int .i64 m] w fun e w' => e = .returned (.bool true) ∧ Below w.heap.size w w' := by
  have hbnd := fun W B h => bounded_any A c l W B h hlen
  have hmk := fun (h : l.length ≤ 80) (W : World) (hr : Rd W W.heap.size A (vals l)) => make_any A c l m W hr (by omega) hm2
  have hrm := fun (h : l.length ≤ 80) (W : World) (hr : Rd W W.heap.size A (vals l)) => refMake_any A c l m W hr (by omega) hm2
  have hit := fun (h : l.length ≤ 80) (W : World) (hr : Rd W W.heap.size A (vals l)) => items_any A c l W hr (by omega)
  have hri := fun (h : l.length ≤ 80) (W : World) (hr : Rd W W.heap.size A (vals l)) => refItems_any A c l W hr (by omega)
  obtain ⟨L, hL⟩ : ∃ L, items l = L := ⟨_, rfl⟩
  have hLl : L.length = l.length := by rw [← hL, items_length]
  rw [hL] at hit hri
  have hpl := mkPs_len l m
  have hpc := mkPs_count l m
  obtain ⟨ps, hps⟩ : ∃ ps, mkPs l m = ps := ⟨_, rfl⟩
  obtain ⟨er, her⟩ : ∃ er, mkEr m = er := ⟨_, rfl⟩
  rw [hps] at hmk hrm hpl hpc
  rw [her] at hmk hrm
  have hll : bnd l = true → l.length ≤ 80 := bnd_len
  obtain ⟨N, hN⟩ : ∃ N, l.length = N := ⟨_, rfl⟩
  rw [hN] at hbnd hmk hrm hit hri hll hLl hpl hpc ⊢
  clear hlen hps her hL hN
  go_enter Try.func3, Try.ntmps3
  go_wp2_with fail
  go_at_call 8
  refine (hbnd w _ hl).mono ?_
  rintro e w1' ⟨rfl, rfl⟩
  by_cases hbd : bnd l = true
  · have hN80 := hll hbd
    rw [hbd]
    have hmk := hmk hN80
    have hrm := hrm hN80
    have hit := hit hN80
    have hri := hri hN80
    have hits := fun (W : World) (A : Option Addr) (c : Nat) (h : Rd W W.heap.size A (its L)) => its_any A c L W h (by omega)
    have hsm := fun (W : World) (A B : Option Addr) (c d : Nat) (h : Rd W W.heap.size A (its L)) (k : Rd W W.heap.size B (its L)) => sameItems_any A B c d L L W _ h k (by omega) (by omega)
    rw [decide_eq_true (show L = L from rfl)] at hsm
    have hpl : ∀ p ∈ ps, p.length ≤ 80 := fun p hp => Nat.le_trans (hpl p hp) hN80
    clear hbnd hll hbd
    rw [hLl] at hits hsm
    obtain ⟨P, hP⟩ : ∃ P, ps.length = P := ⟨_, rfl⟩
    rw [hP] at hmk hrm hpc
    have HP := Lib.hid hP
    have HPL := Lib.hid hpl
    clear hP hpl
    go_wp2_with fail
    go_at_call 9
    refine (shown_any _).mono ?_
    rintro e w1 ⟨rfl, hb1⟩
    go_wp2_with fail
    go_at_call 10
    refine (hmk _ ((hl.below hb1).more hb1.size)).mono ?_
    rintro e w2 ⟨Aa, ca, va, rfl, hoa, hpa, hb2⟩
    have hoa := hoa.lower hb1.size
    have hpa := hpa.lower hb1.size
    have hb2 := hb1.trans (hb2.mono hb1.size)
    go_wp2_with fail
    go_at_call 11
    refine (hrm _ ((hl.below hb2).more hb2.size)).mono ?_
    rintro e w3 ⟨Ab, cb, vb, rfl, hob, hpb, hb3⟩
    have hoa := hoa.below hb3
    have hpa := hpa.below hb3
    have hob := hob.lower hb2.size
    have hpb := hpb.lower hb2.size
    have hb3 := hb2.trans (hb3.mono hb2.size)
    have HA := Lib.hid (And.intro hoa hpa)
    have HB := Lib.hid (And.intro hob hpb)
    have HB3 := Lib.hid hb3
    clear hb1 hb2 hoa hpa hob hpb hb3
    have hPP : ((P : Int) != (P : Int)) = false := bne_self_eq_false _
    have hee : (er != er) = false := bne_self_eq_false _
    go_wp2_with fail
    go_at_call 14
    refine (hit _ ((hl.below HB3.out).more HB3.out.size)).mono ?_
    rintro e w4 ⟨A4, c4, rfl, ho4, hb4⟩
    go_wp2_with fail
    go_at_call 13
    refine (hits _ A4 c4 (ho4.rd (by omega))).mono ?_
    rintro e w5 ⟨A5, c5, rfl, ho5, hb5⟩
    have hb5 := hb4.trans (hb5.mono hb4.size)
    have hw5 := HB3.out.trans (hb5.mono HB3.out.size)
    go_wp2_with fail
    go_at_call 15
    refine (hri _ ((hl.below hw5).more hw5.size)).mono ?_
    rintro e w6 ⟨A6, c6, rfl, ho6, hb6⟩
    have ho5 := ho5.below hb6
    have hb6 := hb5.trans (hb6.mono hb5.size)
    go_wp2_with fail
    go_at_call 12
    refine (hsm _ A5 A6 c5 c6 (ho5.rd (by omega)) (ho6.rd (by omega))).mono ?_
    rintro e w7 ⟨rfl, hb7⟩
    have HB7 := Lib.hid (hb6.trans (hb7.mono hb6.size))
    clear hb4 hb5 hw5 hb6 hb7 ho4 ho5 ho6 hmk hrm hit hri hits hsm
    go_wp2_with fail
    go_loopw [9] (fun vi wr => ∃ i : Nat, i ≤ P ∧ vi = .int .i64 (i : Int) ∧ Hid (Below w3.heap.size w3 wr)) (fun vi _ => P - (intOf vi).toNat)
    case atStart => exact ⟨0, Nat.zero_le _, rfl, HB7⟩
    case round =>
      clear HB7
      obtain ⟨i, hi, rfl, HW⟩ := hrel
      by_cases hlt : i < P
      · obtain ⟨g, rfl, _, hg, hca⟩ := HA.out.1.at_ (by omega)
        obtain ⟨g', rfl, _, hg', hcb⟩ := HB.out.1.at_ (by omega)
        have la := HA.out.2.1
        have lb := HB.out.2.1
        have hPi : i < ps.length := by rw [HP.out]; exact hlt
        obtain ⟨A3, c3, e3, ho3⟩ := HA.out.2.2 i (by omega) hPi
        obtain ⟨A4, c4, e4, ho4⟩ := HB.out.2.2 i (by omega) hPi
        have h3 := (hca i (by omega)).1
        have h4 := (hcb i (by omega)).1
        rw [e3] at h3
        rw [e4] at h4

        have hpn := HPL.out ps[i] (List.getElem_mem _)
        obtain ⟨p, hp⟩ : ∃ p, ps[i] = p := ⟨_, rfl⟩
        rw [hp] at h3 h4 ho3 ho4 hpn
        have hits := fun (W : World) (A : Option Addr) (c : Nat) (h : Rd W W.heap.size A (its p)) => its_any A c p W h (by omega)
        have hsm := fun (W : World) (A B : Option Addr) (c d : Nat) (h : Rd W W.heap.size A (its p)) (k : Rd W W.heap.size B (its p)) => sameItems_any A B c d p p W _ h k (by omega) (by omega)
        rw [decide_eq_true (show p = p from rfl)] at hsm
        obtain ⟨n3, hn3⟩ : ∃ n3, p.length = n3 := ⟨_, rfl⟩
        rw [hn3] at h3 h4 ho3 ho4 hits hsm
        have e1 : decide ((i : Int) < (P : Int)) = true := decide_eq_true (by omega)
        have k1 : (0 : Int) ≤ (i : Int) := by omega
        have k2 : (i : Int) < (P : Int) := by omega
        have hw3 : IntKind.i64.wrap ((i : Int) + 1) = ((i + 1 : Nat) : Int) := by rw [IntWalk.i64_in _ (by omega)]; omega
        have hCC : ∀ W W', Below W.heap.size W W' → (fun W' => W'.cell? ⟨g, i, none⟩ = some (.slice A3 n3 c3) ∧ W'.cell? ⟨g', i, none⟩ = some (.slice A4 n3 c4) ∧ Own W' w.heap.size 48 7 A3 n3 c3 (its p) ∧ Own W' w.heap.size 50 7 A4 n3 c4 (its p) ∧ Below w3.heap.size w3 W') W → (fun W' => W'.cell? ⟨g, i, none⟩ = some (.slice A3 n3 c3) ∧ W'.cell? ⟨g', i, none⟩ = some (.slice A4 n3 c4) ∧ Own W' w.heap.size 48 7 A3 n3 c3 (its p) ∧ Own W' w.heap.size 50 7 A4 n3 c4 (its p) ∧ Below w3.heap.size w3 W') W' := by
          rintro W W' hb ⟨h1, h2, h3, h4, h5⟩
          exact ⟨(hb.cell (p := ⟨g, i, none⟩) (Nat.lt_of_lt_of_le hg h5.size)).trans h1, (hb.cell (p := ⟨g', i, none⟩) (Nat.lt_of_lt_of_le hg' h5.size)).trans h2, h3.below hb, h4.below hb, h5.trans (hb.mono h5.size)⟩
        have HC := hCC _ _ ((Below.refl wr.heap.size wr).drew) ⟨(HW.out.cell (p := ⟨g, i, none⟩) hg).trans h3, (HW.out.cell (p := ⟨g', i, none⟩) hg').trans h4, ho3.below HW.out, ho4.below HW.out, HW.out⟩
        clear h3 h4 ho3 ho4 hca hcb la lb e3 e4 hp hn3
        go_wp2
        refine region_wz (fun W' => W'.cell? ⟨g, i, none⟩ = some (.slice A3 n3 c3) ∧ W'.cell? ⟨g', i, none⟩ = some (.slice A4 n3 c4) ∧ Own W' w.heap.size 48 7 A3 n3 c3 (its p) ∧ Own W' w.heap.size 50 7 A4 n3 c4 (its p) ∧ Below w3.heap.size w3 W') none (by kernel_rfl) ?_
        apply WZ.take (i := 0) (some 55) rfl rfl (by kernel_rfl) (by kernel_rfl) (by kernel_rfl) (calm_panic _) (by kernel_rfl)
        case hy => (refine .inl ⟨by kernel_rfl, fun W hC => ?_⟩; (try dsimp only at hC); go_simp; rfl)
        case hC => exact HC
        case ha => (simp only [Act.put, List.setIfInBounds_toArray, List.set_cons_zero, List.set_cons_succ]; rfl)
        apply WZ.take (i := 1) (some 56) rfl rfl (by kernel_rfl) (by kernel_rfl) (by kernel_rfl) (calm_panic _) (by kernel_rfl)
        case hy => (refine .inl ⟨by kernel_rfl, fun W hC => ?_⟩; (try dsimp only at hC); go_simp; rfl)
        case hC => exact HC
        case ha => (simp only [Act.put, List.setIfInBounds_toArray, List.set_cons_zero, List.set_cons_succ]; rfl)
        apply WZ.take (i := 2) (some 57) rfl rfl (by kernel_rfl) (by kernel_rfl) (by kernel_rfl) (calm_panic _) (by kernel_rfl)
        case hy => (refine .inl ⟨by kernel_rfl, fun W hC => ?_⟩; (try dsimp only at hC); go_simp; rfl)
        case hC => exact HC
        case ha => (simp only [Act.put, List.setIfInBounds_toArray, List.set_cons_zero, List.set_cons_succ]; rfl)
        apply WZ.take (i := 3) (some 58) rfl rfl (by kernel_rfl) (by kernel_rfl) (by kernel_rfl) (calm_panic _) (by kernel_rfl)
        case hy => (refine .inl ⟨by kernel_rfl, fun W hC => ?_⟩; (try dsimp only at hC); go_simp; rfl)
        case hC => exact HC
        case ha => (simp only [Act.put, List.setIfInBounds_toArray, List.set_cons_zero, List.set_cons_succ]; rfl)
        apply WZ.take (i := 5) (some 60) rfl rfl (by kernel_rfl) (by kernel_rfl) (by kernel_rfl) (calm_panic _) (by kernel_rfl)
        case hy => (refine .inl ⟨by kernel_rfl, fun W hC => ?_⟩; (try dsimp only at hC); go_simp; rfl)
        case hC => exact HC
        case ha => (simp only [Act.put, List.setIfInBounds_toArray, List.set_cons_zero, List.set_cons_succ]; rfl)
        apply WZ.take (i := 6) (some 61) rfl rfl (by kernel_rfl) (by kernel_rfl) (by kernel_rfl) (calm_panic _) (by kernel_rfl)
        case hy => (refine .inl ⟨by kernel_rfl, fun W hC => ?_⟩; (try dsimp only at hC); go_simp; rfl)
        case hC => exact HC
        case ha => (simp only [Act.put, List.setIfInBounds_toArray, List.set_cons_zero, List.set_cons_succ]; rfl)
        apply WZ.take (i := 7) (some 62) rfl rfl (by kernel_rfl) (by kernel_rfl) (by kernel_rfl) (calm_panic _) (by kernel_rfl)
        case hy => (refine .inl ⟨by kernel_rfl, fun W hC => ?_⟩; (try dsimp only at hC); go_simp; rfl)
        case hC => exact HC
        case ha => (simp only [Act.put, List.setIfInBounds_toArray, List.set_cons_zero, List.set_cons_succ]; rfl)
        apply WZ.take (i := 8) (some 63) rfl rfl (by kernel_rfl) (by kernel_rfl) (by kernel_rfl) (calm_panic _) (by kernel_rfl)
        case hy => (refine .inl ⟨by kernel_rfl, fun W hC => ?_⟩; (try dsimp only at hC); go_simp; rfl)
        case hC => exact HC
        case ha => (simp only [Act.put, List.setIfInBounds_toArray, List.set_cons_zero, List.set_cons_succ]; rfl)
        -- 4
        refine WZ.one (i := 4) rfl (by kernel_rfl) ?_
        conv => arg 4; arg 1; whnf
        go_wp2_with (go_at_call 13; refine (hits _ A3 c3 (HC.2.2.1.rd (by omega))).mono ?_; rintro e w8 ⟨A8, c8, rfl, ho8, hb8⟩; have HC' := hCC _ _ hb8 HC)
        clear HC
        have HC := HC'
        clear HC' hb8
        refine ⟨HC, ?_⟩
        -- 9
        refine WZ.one (i := 9) rfl (by kernel_rfl) ?_
        conv => arg 4; arg 1; whnf
        go_wp2_with (go_at_call 12; refine (hsm _ A8 A4 c8 c4 (ho8.rd (by omega)) (HC.2.2.2.1.rd (by omega))).mono ?_; rintro e w9 ⟨rfl, hb9⟩; have HC' := hCC _ _ hb9 HC)
        clear HC ho8
        have HC := HC'
        clear HC' hb9
        refine ⟨HC, ?_⟩
        apply WZ.take (i := 10) (some 65) rfl rfl (by kernel_rfl) (by kernel_rfl) (by kernel_rfl) (calm_panic _) (by kernel_rfl)
        case hy => (refine .inl ⟨by kernel_rfl, fun W hC => ?_⟩; (try dsimp only at hC); go_simp; rfl)
        case hC => exact HC
        case ha => (simp only [Act.put, List.setIfInBounds_toArray, List.set_cons_zero, List.set_cons_succ]; rfl)
        refine WZ.done (by kernel_rfl) ?_ _
        simp only [Calm, Exit.then]
        go_wp2
        exact ⟨⟨i + 1, by omega, rfl, Lib.hid HC.2.2.2.2⟩, by simp [intOf]; omega⟩
      · have e1 : decide ((i : Int) < (P : Int)) = false := decide_eq_false (by omega)
        go_wp2
        go_ret
        exact ⟨rfl, HB3.out.trans (HW.out.mono HB3.out.size)⟩
  · have hbd' : bnd l = false := by simpa using hbd
    rw [hbd']
    go_wp2_with fail
    go_at_call 9
    refine (shown_any _).mono ?_
    rintro e w2 ⟨rfl, hb2⟩
    go_wp2_with fail
    go_ret
    exact ⟨rfl, hb2⟩
end Go.Proofs.Ytojelalgcokcfaa
