/-
  The walk of the heap's down, through the interface. No conditions.
-/
import Derived.Test.YtflppcgonbjnmaaHeapUp9
namespace Go.Proofs.Ytflppcgonbjnmaa
open Go.RowKit
attribute [local go_sem ↓] Go.wp_at_zero Go.wp_at_succ

theorem downL_stop {l : List Qs} {i n : Nat} (h : n ≤ 2 * i + 1) : downL ltQ l i n = l := by rw [downL, dif_pos h]
theorem downL_step {l : List Qs} {i n q : Nat} (h : ¬ n ≤ 2 * i + 1) (hq : kid ltQ l i n = q) (hql : q < l.length) (hil : i < l.length) : downL ltQ l i n = if ltQ l[q] l[i] = true then downL ltQ (swp l i q) q n else l := by
  subst hq
  rw [downL, dif_neg h, List.getElem?_eq_getElem hql, List.getElem?_eq_getElem hil]
theorem kid_two {l : List Qs} {i n : Nat} (h2 : 2 * i + 2 < n) (hl : n ≤ l.length) : kid ltQ l i n = if ltQ (l[2 * i + 2]'(by omega)) (l[2 * i + 1]'(by omega)) = true then 2 * i + 2 else 2 * i + 1 := by
  unfold kid
  rw [List.getElem?_eq_getElem (show 2 * i + 2 < l.length by omega), List.getElem?_eq_getElem (show 2 * i + 1 < l.length by omega)]
  simp only [decide_eq_true h2, Bool.true_and]
theorem kid_one {l : List Qs} {i n : Nat} (h2 : ¬ 2 * i + 2 < n) : kid ltQ l i n = 2 * i + 1 := by
  rcases kid_or ltQ l i n with h | h
  · exact h
  · omega
set_option maxRecDepth 20000 in
set_option maxHeartbeats 8000000 in
theorem down_any (B Hb g n c i0 n2 : Nat) (l : List Qs) (w : World) (h : HSt w B Hb g n c l) (hi : i0 < n) (hn2 : n2 ≤ n) (hmx : n ≤ 1000000) :
    Calls Try.prog 49 #[.iface 70 (.pointer (some ⟨Hb, 0, none⟩)), .int .i64 i0, .int .i64 n2] w fun e w' => ∃ b, e = .returned (.bool b) ∧ HSt w' B Hb g n c (downL ltQ l i0 n2) ∧ w.grownBy w' (some g) := by
  have HH := Lib.hid h
  have mL := mLess Hb
  have mS := mSwap Hb
  clear h
  go_enter Try.func49, Try.ntmps49
  go_wp2
  go_loopw [7] (fun v7 wr => ∃ (k : Nat) (m : List Qs), v7 = .int .i64 (k : Int) ∧ k < n ∧ Hid (HSt wr B Hb g n c m) ∧ Hid (downL ltQ m k n2 = downL ltQ l i0 n2) ∧ Hid (w.grownBy wr (some g))) (fun v7 _ => n - (intOf v7).toNat)
  case atStart => exact ⟨i0, l, rfl, hi, HH, Lib.hid rfl, Lib.hid (grownBy_refl _ _)⟩
  case round =>
    clear HH
    obtain ⟨k, m, rfl, hk, HM, HU, HG⟩ := hrel
    rename World => wr
    have c0 := HM.out.box.cell
    obtain ⟨p1, hp1⟩ : ∃ p, 2 * k + 1 = p := ⟨_, rfl⟩
    obtain ⟨p2, hp2⟩ : ∃ p, p1 + 1 = p := ⟨_, rfl⟩
    have hj1 : 2 * (k : Int) + 1 = (p1 : Int) := by omega
    have hj2 : (p1 : Int) + 1 = (p2 : Int) := by omega
    have hkm : k < m.length := by rw [HM.out.len]; exact hk
    have hlm := HM.out.len
    have HL := Lib.hid (fun (W : World) (h : HSt W B Hb g n c m) (x y : Nat) (hx : x < m.length) (hy : y < m.length) => less_any B (some ⟨g, 0, none⟩) n c x y m W h.rd h.len hx hy h.ins hmx)
    by_cases hst : n2 ≤ p1
    · have e1 : decide ((n2 : Int) ≤ (p1 : Int)) = true := decide_eq_true (by omega)
      have hu := HU.out
      rw [downL_stop (by omega)] at hu
      have HU2 := Lib.hid hu
      clear hu
      go_wp2
      go_ret
      exact ⟨_, rfl, by rw [← HU2.out]; exact HM.out, HG.out⟩
    have e1 : decide ((n2 : Int) ≤ (p1 : Int)) = false := decide_eq_false (by omega)
    have e2 : decide ((p1 : Int) < 0) = false := decide_eq_false (by omega)
    have hp1m : p1 < m.length := by omega
    by_cases h2 : p2 < n2
    · have e3 : decide ((p2 : Int) < (n2 : Int)) = true := decide_eq_true (by omega)
      have hp2m : p2 < m.length := by omega
      have hkd := kid_two (l := m) (i := k) (n := n2) (by omega) (by omega)
      have g1 : m[2 * k + 1]'(by omega) = m[p1] := by congr 1
      have g2 : m[2 * k + 2]'(by omega) = m[p2] := by congr 1; omega
      rw [g1, g2] at hkd
      cases hb : ltQ m[p2] m[p1] with
      | true =>
        rw [hb, if_pos rfl, show 2 * k + 2 = p2 by omega] at hkd
        have hdn := downL_step (l := m) (i := k) (n := n2) (by omega) hkd hp2m hkm
        cases hlt : ltQ m[p2] m[k] with
        | false =>
          rw [hlt, if_neg (by simp)] at hdn
          have hu := HU.out
          rw [hdn] at hu
          have HU2 := Lib.hid hu
          have hqm := hp2m
          clear hdn hu hkd g1 g2
          go_wp2_with (first
            | (go_at_call 87; have hq := HM1.out; refine (HL.out _ hq p2 k hqm hkm).mono ?_; rintro e w2 ⟨rfl, hb2⟩; rw [hlt]; have HM2 := Lib.hid (hq.below hb2); have HG2 := Lib.hid (grownBy_trans HG1.out (grownBy_below hb2 _)); clear hb2 hq; have c2 := HM2.out.box.cell)
            | (go_at_call 87; have hq := HM.out; refine (HL.out _ hq p2 p1 hp2m hp1m).mono ?_; rintro e w1 ⟨rfl, hb1⟩; rw [hb]; have HM1 := Lib.hid (hq.below hb1); have HG1 := Lib.hid (grownBy_trans HG.out (grownBy_below hb1 _)); clear hb1 hq; have c1 := HM1.out.box.cell))
          go_ret
          exact ⟨_, rfl, by rw [← HU2.out]; exact HM2.out, HG2.out⟩
        | true =>
          rw [hlt, if_pos rfl] at hdn
          have hu := HU.out
          rw [hdn] at hu
          have HU2 := Lib.hid hu
          have hqm := hp2m
          clear hdn hu hkd g1 g2
          go_wp2_with (first
            | (go_at_call 90; have hq := HM2.out; refine (swap_any g (c * 2) n c k p2 m _ hq.arr hq.len hkm hqm hmx).mono ?_; rintro e w3 ⟨rfl, ha2, hg2⟩; have HM3 := Lib.hid (hq.swap ha2 hg2 (swp_perm _ _ _)); have HG3 := Lib.hid (grownBy_trans HG2.out hg2); clear ha2 hg2 hq)
            | (go_at_call 87; have hq := HM1.out; refine (HL.out _ hq p2 k hqm hkm).mono ?_; rintro e w2 ⟨rfl, hb2⟩; rw [hlt]; have HM2 := Lib.hid (hq.below hb2); have HG2 := Lib.hid (grownBy_trans HG1.out (grownBy_below hb2 _)); clear hb2 hq; have c2 := HM2.out.box.cell)
            | (go_at_call 87; have hq := HM.out; refine (HL.out _ hq p2 p1 hp2m hp1m).mono ?_; rintro e w1 ⟨rfl, hb1⟩; rw [hb]; have HM1 := Lib.hid (hq.below hb1); have HG1 := Lib.hid (grownBy_trans HG.out (grownBy_below hb1 _)); clear hb1 hq; have c1 := HM1.out.box.cell))
          exact ⟨⟨p2, _, rfl, by omega, HM3, HU2, HG3⟩, by simp only [intOf]; omega⟩
      | false =>
        rw [hb, if_neg (by simp), show 2 * k + 1 = p1 by omega] at hkd
        have hdn := downL_step (l := m) (i := k) (n := n2) (by omega) hkd hp1m hkm
        cases hlt : ltQ m[p1] m[k] with
        | false =>
          rw [hlt, if_neg (by simp)] at hdn
          have hu := HU.out
          rw [hdn] at hu
          have HU2 := Lib.hid hu
          clear hdn hu hkd g1 g2
          go_wp2_with (first
            | (go_at_call 87; have hq := HM1.out; refine (HL.out _ hq p1 k hp1m hkm).mono ?_; rintro e w2 ⟨rfl, hb2⟩; rw [hlt]; have HM2 := Lib.hid (hq.below hb2); have HG2 := Lib.hid (grownBy_trans HG1.out (grownBy_below hb2 _)); clear hb2 hq; have c2 := HM2.out.box.cell)
            | (go_at_call 87; have hq := HM.out; refine (HL.out _ hq p2 p1 hp2m hp1m).mono ?_; rintro e w1 ⟨rfl, hb1⟩; rw [hb]; have HM1 := Lib.hid (hq.below hb1); have HG1 := Lib.hid (grownBy_trans HG.out (grownBy_below hb1 _)); clear hb1 hq; have c1 := HM1.out.box.cell))
          go_ret
          exact ⟨_, rfl, by rw [← HU2.out]; exact HM2.out, HG2.out⟩
        | true =>
          rw [hlt, if_pos rfl] at hdn
          have hu := HU.out
          rw [hdn] at hu
          have HU2 := Lib.hid hu
          clear hdn hu hkd g1 g2
          go_wp2_with (first
            | (go_at_call 90; have hq := HM2.out; refine (swap_any g (c * 2) n c k p1 m _ hq.arr hq.len hkm hp1m hmx).mono ?_; rintro e w3 ⟨rfl, ha2, hg2⟩; have HM3 := Lib.hid (hq.swap ha2 hg2 (swp_perm _ _ _)); have HG3 := Lib.hid (grownBy_trans HG2.out hg2); clear ha2 hg2 hq)
            | (go_at_call 87; have hq := HM1.out; refine (HL.out _ hq p1 k hp1m hkm).mono ?_; rintro e w2 ⟨rfl, hb2⟩; rw [hlt]; have HM2 := Lib.hid (hq.below hb2); have HG2 := Lib.hid (grownBy_trans HG1.out (grownBy_below hb2 _)); clear hb2 hq; have c2 := HM2.out.box.cell)
            | (go_at_call 87; have hq := HM.out; refine (HL.out _ hq p2 p1 hp2m hp1m).mono ?_; rintro e w1 ⟨rfl, hb1⟩; rw [hb]; have HM1 := Lib.hid (hq.below hb1); have HG1 := Lib.hid (grownBy_trans HG.out (grownBy_below hb1 _)); clear hb1 hq; have c1 := HM1.out.box.cell))
          exact ⟨⟨p1, _, rfl, by omega, HM3, HU2, HG3⟩, by simp only [intOf]; omega⟩
    · have e3 : decide ((p2 : Int) < (n2 : Int)) = false := decide_eq_false (by omega)
      have hkd := kid_one (l := m) (i := k) (n := n2) (by omega)
      rw [show 2 * k + 1 = p1 by omega] at hkd
      have hdn := downL_step (l := m) (i := k) (n := n2) (by omega) hkd hp1m hkm
      cases hlt : ltQ m[p1] m[k] with
      | false =>
        rw [hlt, if_neg (by simp)] at hdn
        have hu := HU.out
        rw [hdn] at hu
        have HU2 := Lib.hid hu
        clear hdn hu hkd
        go_wp2_with (go_at_call 87; have hq := HM.out; refine (HL.out _ hq p1 k hp1m hkm).mono ?_; rintro e w2 ⟨rfl, hb2⟩; rw [hlt]; have HM2 := Lib.hid (hq.below hb2); have HG2 := Lib.hid (grownBy_trans HG.out (grownBy_below hb2 _)); clear hb2 hq; have c2 := HM2.out.box.cell)
        go_ret
        exact ⟨_, rfl, by rw [← HU2.out]; exact HM2.out, HG2.out⟩
      | true =>
        rw [hlt, if_pos rfl] at hdn
        have hu := HU.out
        rw [hdn] at hu
        have HU2 := Lib.hid hu
        clear hdn hu hkd
        go_wp2_with (first
          | (go_at_call 90; have hq := HM2.out; refine (swap_any g (c * 2) n c k p1 m _ hq.arr hq.len hkm hp1m hmx).mono ?_; rintro e w3 ⟨rfl, ha2, hg2⟩; have HM3 := Lib.hid (hq.swap ha2 hg2 (swp_perm _ _ _)); have HG3 := Lib.hid (grownBy_trans HG2.out hg2); clear ha2 hg2 hq)
          | (go_at_call 87; have hq := HM.out; refine (HL.out _ hq p1 k hp1m hkm).mono ?_; rintro e w2 ⟨rfl, hb2⟩; rw [hlt]; have HM2 := Lib.hid (hq.below hb2); have HG2 := Lib.hid (grownBy_trans HG.out (grownBy_below hb2 _)); clear hb2 hq; have c2 := HM2.out.box.cell))
        exact ⟨⟨p1, _, rfl, by omega, HM3, HU2, HG3⟩, by simp only [intOf]; omega⟩
end Go.Proofs.Ytflppcgonbjnmaa
