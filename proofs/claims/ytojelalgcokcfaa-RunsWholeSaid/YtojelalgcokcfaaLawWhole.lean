/-
  The walk of the law RunsWhole.
-/
import Derived.Test.YtojelalgcokcfaaLawMakes
import Derived.Test.YtojelalgcokcfaaResolveLaws
namespace Go.Proofs.Ytojelalgcokcfaa
open Go.RowKit
attribute [local go_sem ↓] Go.wp_at_zero Go.wp_at_succ

theorem chunks_flat {m : Nat} (hm : 1 ≤ m) : ∀ (n : Nat) (l : List It), l.length ≤ n → (chunks m l).flatten = l
  | 0, l, hn => by
    have : l = [] := List.eq_nil_of_length_eq_zero (by omega)
    subst this
    rw [chunks_nil]
    rfl
  | n + 1, l, hn => by
    by_cases hl : l = []
    · subst hl
      rw [chunks_nil]
      rfl
    · have hpos : 0 < l.length := List.length_pos_iff.2 hl
      rw [chunks_cons hm hl, List.flatten_cons, chunks_flat hm n (l.drop m) (by rw [List.length_drop]; omega), List.take_append_drop]
theorem chunks_number {m : Nat} (hm : 1 ≤ m) : ∀ (n : Nat) (l : List It), l.length ≤ n → (chunks m l).length = (l.length + (m - 1)) / m
  | 0, l, hn => by
    have : l = [] := List.eq_nil_of_length_eq_zero (by omega)
    subst this
    rw [chunks_nil]
    exact (Nat.div_eq_of_lt (by simp; omega)).symm
  | n + 1, l, hn => by
    by_cases hl : l = []
    · subst hl
      rw [chunks_nil]
      exact (Nat.div_eq_of_lt (by simp; omega)).symm
    · have hpos : 0 < l.length := List.length_pos_iff.2 hl
      rw [chunks_cons hm hl, List.length_cons, chunks_number hm n (l.drop m) (by rw [List.length_drop]; omega), List.length_drop]
      by_cases h : m ≤ l.length
      · rw [show l.length + (m - 1) = (l.length - m + (m - 1)) + m by omega, Nat.add_div_right _ (by omega)]
      · rw [show l.length - m + (m - 1) = m - 1 by omega, Nat.div_eq_of_lt (by omega), show l.length + (m - 1) = (l.length - 1) + m by omega, Nat.add_div_right _ (by omega), Nat.div_eq_of_lt (by omega)]
theorem chunks_size {m : Nat} (hm : 1 ≤ m) : ∀ (n : Nat) (l : List It), l.length ≤ n → ∀ p ∈ chunks m l, p.length ≤ m
  | 0, l, hn, p, hp => by
    have : l = [] := List.eq_nil_of_length_eq_zero (by omega)
    subst this
    rw [chunks_nil] at hp
    cases hp
  | n + 1, l, hn, p, hp => by
    by_cases hl : l = []
    · subst hl
      rw [chunks_nil] at hp
      cases hp
    · have hpos : 0 < l.length := List.length_pos_iff.2 hl
      rw [chunks_cons hm hl] at hp
      rcases List.mem_cons.1 hp with rfl | hp
      · rw [List.length_take]; omega
      · exact chunks_size hm n (l.drop m) (by rw [List.length_drop]; omega) p hp
theorem its_app' (l m : List It) : its (l ++ m) = its l ++ its m := List.flatMap_append
theorem flatten_take {ps : List (List It)} {i : Nat} (h : i < ps.length) : its (ps.take i).flatten ++ its ps[i] = its (ps.take (i + 1)).flatten := by
  rw [List.take_succ_eq_append_getElem h, List.flatten_append, ← its_app']
  simp
theorem flatten_len {ps : List (List It)} {m : Nat} (h : ∀ p ∈ ps, p.length ≤ m) : ps.flatten.length ≤ ps.length * m := by
  induction ps with
  | nil => simp
  | cons p ps ih =>
    have h1 := h p (by simp)
    have h2 := ih fun q hq => h q (by simp [hq])
    rw [List.flatten_cons, List.length_append, List.length_cons, Nat.add_mul]
    omega

set_option maxHeartbeats 8000000 in
theorem runsWhole_any (A : Option Addr) (c : Nat) (l : List Cl) (mem : Nat) (w : World) (hl : Rd w w.heap.size A (vals l)) (hlen : l.length ≤ maxLen) (hmem : mem ≤ 255) :
    Calls Try.prog 4 #[.slice A l.length c, .int .u8 mem] w fun e w' => e = .returned (.bool true) ∧ Below w.heap.size w w' := by
  obtain ⟨i0, hi0, hz0, hz1, hz2⟩ := info_parts itemInfo
  have hbnd := fun W B h => bounded_any A c l W B h hlen
  obtain ⟨md, hmd⟩ : ∃ md, mem % 20 = md := ⟨_, rfl⟩
  have hmd2 : md < 20 := by rw [← hmd]; exact Nat.mod_lt _ (by omega)
  obtain ⟨m, hm⟩ : ∃ m, md + 1 = m := ⟨_, rfl⟩
  have hr1 : (mem : Int) % 20 = (md : Int) := by rw [← hmd]; rfl
  have hr2 : Int.tmod (mem : Int) 20 = (md : Int) := by rw [← hmd]; rfl
  have hw1 : IntKind.i64.wrap (1 + (md : Int)) = (m : Int) := by rw [IntWalk.i64_in _ (by omega)]; omega
  have hm1 : 1 ≤ m := by omega
  have hmk := fun (h : l.length ≤ 80) (W : World) (hr : Rd W W.heap.size A (vals l)) => make_ok A c l m W hr (by omega) hm1 (by omega)
  have hit := fun (h : l.length ≤ 80) (W : World) (hr : Rd W W.heap.size A (vals l)) => items_any A c l W hr (by omega)
  obtain ⟨L, hL⟩ : ∃ L, items l = L := ⟨_, rfl⟩
  have hLl : L.length = l.length := by rw [← hL, items_length]
  rw [hL] at hmk hit
  obtain ⟨ps, hps⟩ : ∃ ps, (chunks m L).map resolve = ps := ⟨_, rfl⟩
  have hflat : resolve ps.flatten = resolve L := by
    have := resolve_flat (chunks m L) []
    rw [chunks_flat hm1 _ _ (Nat.le_refl _), hps] at this
    exact this.symm
  have hnum : ps.length = (l.length + md) / m := by rw [← hps, List.length_map, chunks_number hm1 _ _ (Nat.le_refl _), hLl, show m - 1 = md by omega]
  have hstr : ∀ p ∈ ps, Strict p ∧ p.length ≤ m := by
    intro p hp
    rw [← hps] at hp
    obtain ⟨q, hq, rfl⟩ := List.mem_map.1 hp
    exact ⟨(resolve_good q).strict, Nat.le_trans (resolve_len q) (chunks_size hm1 _ _ (Nat.le_refl _) q hq)⟩
  have hRl : (resolve L).length ≤ L.length := resolve_len L
  rw [hps] at hmk
  have hll : bnd l = true → l.length ≤ 80 := bnd_len
  have hq0 : ps.length ≤ l.length + md := by rw [hnum]; exact Nat.div_le_self _ _
  obtain ⟨P, hP⟩ : ∃ P, ps.length = P := ⟨_, rfl⟩
  obtain ⟨N, hN⟩ : ∃ N, l.length = N := ⟨_, rfl⟩
  rw [hP, hN] at hnum hq0
  rw [hN] at hbnd hmk hit hll hLl ⊢
  have HP := Lib.hid hP
  have HST := Lib.hid hstr
  have HFL := Lib.hid hflat
  clear hlen hps hL hN hP hstr hflat
  go_enter Try.func4, Try.ntmps4
  go_wp2_with fail
  go_at_call 8
  refine (hbnd w _ hl).mono ?_
  rintro e w1' ⟨rfl, rfl⟩
  by_cases hbd : bnd l = true
  · have hN80 := hll hbd
    rw [hbd]
    have hmk := hmk hN80
    have hit := hit hN80
    have hq1 : ((N : Int) + (md : Int)) / (m : Int) = (P : Int) := by rw [hnum]; rfl
    have hwn : IntKind.i64.wrap ((N : Int) + (md : Int)) = (N : Int) + (md : Int) := by rw [IntWalk.i64_in _ (by omega)]
    have hwp : IntKind.i64.wrap (P : Int) = (P : Int) := by rw [IntWalk.i64_in _ (by omega)]
    have hm0 : ¬ ((m : Int) = 0) := by omega
    have hm00 : ¬ (m = 0) := by omega
    have hPP : ((P : Int) != (P : Int)) = false := bne_self_eq_false _
    clear hbnd hll hbd hnum hmd
    go_wp2_with fail
    go_at_call 9
    refine (shown_any _).mono ?_
    rintro e w1 ⟨rfl, hb1⟩
    go_wp2_with fail
    go_at_call 10
    refine (hmk _ ((hl.below hb1).more hb1.size)).mono ?_
    rintro e w2 ⟨Aa, n', ca, va, rfl, hoa, hpa, hb2⟩
    have hoa := hoa.lower hb1.size
    have hpa : OLists 48 w2 w.heap.size va ps := OLists.lower hpa hb1.size
    have hb2 := hb1.trans (hb2.mono hb1.size)
    obtain rfl : P = n' := by
      have h1 := Own.vals_len' hoa
      have h2 := hpa.1
      have := HP.out
      omega
    have HA := Lib.hid (And.intro hoa hpa)
    have HB2 := Lib.hid hb2
    have HO0 := Lib.hid (Own.new0' w2 48 7)
    have HB0 := Lib.hid ((Below.refl w2.heap.size w2).alloc (Nat.le_refl _) (.cells #[] 48))
    clear hb1 hb2 hoa hpa
    go_wp2_with fail
    clear hq1
    go_loopw [7, 8] (fun vo vi wr => ∃ (i no co : Nat) (Ao : Option Addr), i ≤ P ∧ vo = .slice Ao no co ∧ vi = .int .i64 (i : Int) ∧ Hid (Own wr w2.heap.size 48 7 Ao no co (its (ps.take i).flatten)) ∧ Hid (Below w2.heap.size w2 wr)) (fun _ vi _ => P - (intOf vi).toNat)
    case atStart => exact ⟨0, 0, 0, _, Nat.zero_le _, rfl, rfl, HO0, HB0⟩
    case round =>
      clear HO0 HB0
      obtain ⟨i, no, co, Ao, hi, rfl, rfl, HO, HW⟩ := hrel
      have hnl : (ps.take i).flatten.length = no := by have := HO.out.1; rw [its_len] at this; omega
      have hno : no ≤ 2000 := by
        have h1 := flatten_len (ps := ps.take i) (m := m) (fun p hp => (HST.out p (List.mem_of_mem_take hp)).2)
        have h2 : (ps.take i).length ≤ 100 := by rw [List.length_take]; omega
        have h3 := Nat.mul_le_mul h2 (show m ≤ 20 by omega)
        omega
      by_cases hlt : i < P
      · obtain ⟨g, rfl, _, hg, hca⟩ := HA.out.1.at_ (by omega)
        have la := HA.out.2.1
        have hPi : i < ps.length := by rw [HP.out]; exact hlt
        obtain ⟨A3, c3, e3, ho3⟩ := HA.out.2.2 i (by omega) hPi
        have h3 := (hca i (by omega)).1
        rw [e3] at h3
        obtain ⟨hps, hpm⟩ := HST.out ps[i] (List.getElem_mem _)
        have hft := flatten_take hPi
        obtain ⟨p, hp⟩ : ∃ p, ps[i] = p := ⟨_, rfl⟩
        rw [hp] at h3 ho3 hps hpm hft
        have hso := fun (W : World) (h : Rd W W.heap.size A3 (its p)) => runsSorted_any A3 c3 p W h (by omega)
        rw [strict_sorted hps] at hso
        have hp7 : (its p).length = p.length * 7 := its_len p
        obtain ⟨n3, hn3⟩ : ∃ n3, p.length = n3 := ⟨_, rfl⟩
        rw [hn3] at h3 ho3 hso hpm hp7
        have HFT := Lib.hid hft
        have e1 : decide ((i : Int) < (P : Int)) = true := decide_eq_true (by omega)
        have e2 : decide ((m : Int) < (n3 : Int)) = false := decide_eq_false (by omega)
        have e5 : decide (m < n3) = false := decide_eq_false (by omega)
        have e4 : ¬ m < n3 := by omega
        have k1 : (0 : Int) ≤ (i : Int) := by omega
        have k2 : (i : Int) < (P : Int) := by omega
        have hw3 : IntKind.i64.wrap ((i : Int) + 1) = ((i + 1 : Nat) : Int) := by rw [IntWalk.i64_in _ (by omega)]; omega
        have c0 : wr.cell? ⟨g, i, none⟩ = some (.slice A3 n3 c3) := (HW.out.cell (p := ⟨g, i, none⟩) hg).trans h3
        have hgW : g < wr.heap.size := Nat.lt_of_lt_of_le hg HW.out.size
        have HO3 := Lib.hid (ho3.below HW.out)
        clear h3 ho3 hca la e3 hp hn3 hft hps hnl
        go_wp2_with (first
          | (go_at_call 16; refine (hso _ (HO3.out.rd (by omega))).mono ?_; rintro e w4 ⟨rfl, hb4⟩
             have c1 : w4.cell? ⟨g, i, none⟩ = some (.slice A3 n3 c3) := (hb4.cell (p := ⟨g, i, none⟩) hgW).trans c0
             have HO4 := Lib.hid (HO3.out.below hb4)
             have HA4 := Lib.hid (HO.out.below hb4)
             have HW4 := Lib.hid (HW.out.trans (hb4.mono HW.out.size))
             clear hb4)
          | (at_builtin; go_loud (refine wpList_app _ rfl _ _ _ rfl w2.heap.size 48 i0 zeroItem 7 80 Try.underlying35 hi0 hz0 hz1 hz2 rfl (by decide) _ _ _ _ rfl HA4.out _ _ n3 _ (its p) rfl (HO4.out.rd (by omega)) hp7 (its_one _) (by unfold maxLen; omega) (by omega) HW4.out.size ?_); intro A5 c5 w5 ho5 hg5 hat5
             rw [HFT.out] at ho5
             have HO5 := Lib.hid ho5
             have HW5 := Lib.hid (HA4.out.grow HW4.out HW4.out.size (Nat.le_refl _) hg5)
             clear ho5 hg5 hat5))
        exact ⟨⟨i + 1, no + n3, c5, A5, by omega, rfl, by first | rfl | go_num, HO5, HW5⟩, by simp [intOf]; omega⟩
      · have e1 : decide ((i : Int) < (P : Int)) = false := decide_eq_false (by omega)
        have hall : (ps.take i).flatten = ps.flatten := by rw [List.take_of_length_le (by rw [HP.out]; omega)]
        have ho := HO.out
        rw [hall] at ho hnl
        have hres := resolve_any Ao co ps.flatten wr (ho.rd (by omega)) (by omega)
        obtain ⟨R, hR⟩ : ∃ R, resolve L = R := ⟨_, rfl⟩
        rw [HFL.out, hnl] at hres
        have hrs := fun (W : World) (A : Option Addr) (c : Nat) (h : Rd W W.heap.size A (its L)) => resolve_any A c L W h (by omega)
        rw [hR, hLl] at hrs
        rw [hR] at hres hRl
        have hits := fun (W : World) (A : Option Addr) (c : Nat) (h : Rd W W.heap.size A (its R)) => its_any A c R W h (by omega)
        have hsm := fun (W : World) (A B : Option Addr) (c d : Nat) (h : Rd W W.heap.size A (its R)) (k : Rd W W.heap.size B (its R)) => sameItems_any A B c d R R W _ h k (by omega) (by omega)
        rw [decide_eq_true (show R = R from rfl)] at hsm
        obtain ⟨n, hn⟩ : ∃ n, R.length = n := ⟨_, rfl⟩
        rw [hn] at hres hrs hits hsm
        clear hall hnl hR hn
        go_wp2_with fail
        go_at_call 17
        refine hres.mono ?_
        rintro e w4 ⟨A4, c4, rfl, ho4, hb4⟩
        have hb4 := HW.out.trans (hb4.mono HW.out.size)
        go_wp2_with fail
        go_at_call 13
        refine (hits _ A4 c4 (ho4.rd (by omega))).mono ?_
        rintro e w5 ⟨A5, c5, rfl, ho5, hb5⟩
        have hb5 := hb4.trans (hb5.mono hb4.size)
        have hw5 := HB2.out.trans (hb5.mono HB2.out.size)
        go_wp2_with fail
        go_at_call 14
        refine (hit _ ((hl.below hw5).more hw5.size)).mono ?_
        rintro e w6 ⟨A6, c6, rfl, ho6, hb6⟩
        have ho5 := ho5.below hb6
        have hb6 := hb5.trans (hb6.mono hb5.size)
        go_wp2_with fail
        go_at_call 17
        refine (hrs _ A6 c6 (ho6.rd (by omega))).mono ?_
        rintro e w7 ⟨A7, c7, rfl, ho7, hb7⟩
        have ho5 := ho5.below hb7
        have hb7 := hb6.trans (hb7.mono hb6.size)
        go_wp2_with fail
        go_at_call 13
        refine (hits _ A7 c7 (ho7.rd (by omega))).mono ?_
        rintro e w8 ⟨A8, c8, rfl, ho8, hb8⟩
        have ho5 := ho5.below hb8
        have hb8 := hb7.trans (hb8.mono hb7.size)
        go_wp2_with fail
        go_at_call 12
        refine (hsm _ A5 A8 c5 c8 (ho5.rd (by omega)) (ho8.rd (by omega))).mono ?_
        rintro e w9 ⟨rfl, hb9⟩
        have hb9 := hb8.trans (hb9.mono hb8.size)
        go_wp2_with fail
        go_ret
        exact ⟨rfl, HB2.out.trans (hb9.mono HB2.out.size)⟩
  · have hbd' : bnd l = false := by simpa using hbd
    rw [hbd']
    go_wp2_with fail
    go_at_call 9
    refine (shown_any _).mono ?_
    rintro e w2 ⟨rfl, hb2⟩
    go_wp2_with fail
    go_ret
    exact ⟨rfl, hb2⟩
end Go.Proofs.Ytojelalgcokcfaa
