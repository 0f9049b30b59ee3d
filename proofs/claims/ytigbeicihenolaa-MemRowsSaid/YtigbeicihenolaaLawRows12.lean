/-
  The walk of the law MemRows.
-/
import Derived.Test.YtigbeicihenolaaLawSpans12
namespace Go.Proofs.Ytigbeicihenolaa
open Go.RowKit Go.Shelf
attribute [local go_sem ↓] Go.wp_at_zero Go.wp_at_succ

/-- what has come behind k cells: the rows that have begun -/
def accR (m : List Cl) : Nat → List Cl
  | 0 => []
  | k + 1 => if h : k < m.length then upto m m[k].row else m
theorem accR_succ {m : List Cl} {k : Nat} (h : k < m.length) : accR m (k + 1) = upto m m[k].row := by
  show (if h : k < m.length then upto m m[k].row else m) = _
  rw [dif_pos h]
theorem accR_first {m : List Cl} (hu : Up m) (h : 0 < m.length) : accR m (0 + 1) = accR m 0 ++ rowed m m[0].row := by
  rw [accR_succ h, upto_first hu h]
  rfl
theorem accR_same {m : List Cl} {j : Nat} (h : j + 1 < m.length) (he : m[j].row = m[j + 1].row) : accR m (j + 1 + 1) = accR m (j + 1) := by
  rw [accR_succ h, accR_succ (by omega : j < m.length), he]
theorem accR_next {m : List Cl} (hu : Up m) {j : Nat} (h : j + 1 < m.length) (he : m[j].row ≠ m[j + 1].row) : accR m (j + 1 + 1) = accR m (j + 1) ++ rowed m m[j + 1].row := by
  rw [accR_succ h, accR_succ (by omega : j < m.length), upto_next hu h he]
theorem accR_end {m : List Cl} (hu : Up m) : accR m m.length = m := by
  rcases Nat.eq_zero_or_pos m.length with h | h
  · have := List.length_eq_zero_iff.1 h
    subst this
    rfl
  · obtain ⟨k, hk⟩ : ∃ k, m.length = k + 1 := ⟨m.length - 1, by omega⟩
    rw [hk, accR_succ (by omega : k < m.length), upto_last hu (by omega) (by omega)]
theorem accR_le (m : List Cl) : ∀ k, (accR m k).length ≤ m.length
  | 0 => Nat.zero_le _
  | k + 1 => by
    show (if h : k < m.length then upto m m[k].row else m).length ≤ _
    split
    · exact List.length_filter_le _ _
    · exact Nat.le_refl _

set_option maxHeartbeats 4000000 in
theorem memRows_any (A : Option Addr) (c : Nat) (l : List Cl) (w : World) (hl : Rd w w.heap.size A (vals l)) (hlen : l.length ≤ maxLen) :
    Calls Try.prog 4 #[.slice A l.length c] w fun e w' => e = .returned (.bool true) ∧ Below w.heap.size w w' := by
  have HL := Lib.hid hlen
  obtain ⟨i0, hi0, hz0, hz1, hz2⟩ := info_parts cellInfo12
  clear hlen
  go_enter Try.func4, Try.ntmps4
  by_cases hb : bnd l = true
  rotate_left
  · have hb : bnd l = false := by simpa using hb
    go_wp2_with (first
      | (go_at_call 7; refine (bounded_any A c l _ _ hl HL.out).mono ?_; rw [hb]; rintro e w1 ⟨rfl, rfl⟩)
      | (go_at_call 8; refine (shown_any _).mono ?_; rintro e w1 ⟨rfl, hb1⟩))
    go_ret
    exact ⟨rfl, hb1⟩
  have hb80 := bnd_len hb
  go_wp2_with (first
    | (go_at_call 7; refine (bounded_any A c l _ _ hl HL.out).mono ?_; rw [hb]; rintro e w1 ⟨rfl, rfl⟩)
    | (go_at_call 8; refine (shown_any _).mono ?_; rintro e w1 ⟨rfl, hb1⟩)
    | (go_at_call 9; refine (Has.new hb1).mono ?_; rintro e w2 ⟨rfl, hh2⟩; have HH2 := Lib.hid hh2; clear hh2))
  obtain ⟨tb, htb⟩ : ∃ tb, w1.heap.size = tb := ⟨_, rfl⟩
  rw [htb] at HH2 ⊢
  go_loopw [4] (fun i wr => ∃ k : Nat, k ≤ l.length ∧ i = .int .i64 k ∧ Hid (Has w wr tb (puts (l.take k)))) (fun i _ => l.length - (intOf i).toNat)
  case atStart => exact ⟨0, Nat.zero_le _, rfl, HH2⟩
  case round =>
    obtain ⟨k, hk, rfl, HH⟩ := hrel
    by_cases hlt : k < l.length
    · obtain ⟨b, o, rfl, hbl, hc⟩ := (hl.below HH.out.b).at_ (vals_ne hlt)
      obtain ⟨l0, l1, l2, l3, l4, l5⟩ := Rd.cell_at (B := 0) hc k hlt
      have HPS := Lib.hid (puts_succ hlt)
      have hpl := puts_len l k hb80
      clear hc hl
      go_wp2_with (go_at_call 10; refine (HH.out.put l[k] (by omega) (by omega)).mono ?_; rintro e w3 ⟨rfl, hh3⟩; have HH3 := Lib.hid hh3; clear hh3)
      exact ⟨⟨k + 1, by omega, by first | rfl | go_num, by rw [HPS.out]; exact HH3⟩, by simp [intOf]; omega⟩
    · have hk2 : k = l.length := by omega
      subst hk2
      rw [List.take_length] at HH
      have hpl := puts_len l l.length hb80
      rw [List.take_length] at hpl
      obtain ⟨m, hm⟩ : ∃ m, puts l = m := ⟨_, rfl⟩
      have hum := up_puts l
      rw [hm] at HH hpl hum
      have HU := Lib.hid hum
      clear hm hum HH2 hb1 hl
      go_wp2_with (go_at_call 13; refine (HH.out.cells (by omega)).mono ?_; rintro e w5 ⟨⟨A5, c5, rfl, ho5, hb5⟩, hh5⟩; have HM := Lib.hid (Own.rd ho5 (by omega)); have HH5 := Lib.hid hh5; clear ho5 hb5 hh5 HH)
      have hB6 : Below w5.heap.size w5 (w5.alloc (.cells #[] 31)) := (Below.refl _ _).alloc (Nat.le_refl _) _
      have HS6 := Lib.hid (And.intro (nil_row w5) (And.intro hB6 hB6.size))
      clear hB6
      go_loopw [6, 7] (fun s i wr' => ∃ (k : Nat) (A1 : Option Addr) (c1 : Nat), s = .slice A1 (accR m k).length c1 ∧ i = .int .i64 k ∧ k ≤ m.length ∧ Hid (Own wr' w5.heap.size 31 6 A1 (accR m k).length c1 (vals (accR m k)) ∧ Below w5.heap.size w5 wr' ∧ w5.heap.size ≤ wr'.heap.size)) (fun _ i _ => m.length - (intOf i).toNat)
      case atStart => exact ⟨0, _, 0, rfl, rfl, Nat.zero_le _, HS6⟩
      case round =>
        obtain ⟨k, A1, c1, rfl, rfl, hk, HS⟩ := hrel
        rename World => wz
        have hzr := HS.out.2.2
        by_cases hlt2 : k < m.length
        · have hpk := accR_le m k
          have hrl := rowed_le m m[k].row
          have HM2 := Lib.hid (HM.out.below HS.out.2.1)
          obtain ⟨b, o, rfl, hbl, hc⟩ := HM2.out.at_ (vals_ne hlt2)
          have r0 := (Rd.cell_at (B := 0) hc k hlt2).1
          have i3 : (k : Int) < (m.length : Int) := by omega
          have i4 : (0 : Int) ≤ (k : Int) := by omega
          by_cases hk0 : k = 0
          · subst hk0
            clear hc hlt
            have r0 : wz.cell? ⟨b, o, none⟩ = some (.string m[0].row) := by simpa using r0
            have HE := accR_first HU.out hlt2
            go_wp2
            go_quiet (fail)
            have HSq := Lib.hid (And.intro (Own.drewN HS.out.1 nq) (And.intro (below_drewN HS.out.2.1 nq) HS.out.2.2))
            have HRW := Lib.hid HE
            clear HE
            go_wp2_with (first
              | (go_at_call 14; refine ((HH5.out.below HSq.out.2.1).row m[0].row (by omega)).mono ?_; rintro e w8 ⟨⟨A8, c8, rfl, ho8, hb8⟩, _⟩;
                 have HN8 := Lib.hid (And.intro (Own.below HSq.out.1 hb8) (And.intro (Own.rd ho8 (by omega)) (HSq.out.2.1.trans (hb8.mono hzr)))); have hz8 : wz.heap.size ≤ w8.heap.size := hb8.size; clear ho8 hb8)
              | (at_builtin; go_loud (refine wpList_app _ rfl _ _ _ rfl w5.heap.size 31 i0 zeroCell 6 72 Try.underlying22 hi0 hz0 hz1 hz2 rfl (by decide) A1 _ c1 _ rfl HN8.out.1 w8.heap.size A8 _ c8 (vals (rowed m m[0].row)) rfl HN8.out.2.1 (by rw [length_vals, Nat.mul_comm]) (vals_one _) (by unfold maxLen; omega) (by omega) (by omega) ?_); intro A9 c9 w9 ho9 hg9 _;
                 have hB9 := Own.grow HN8.out.1 HN8.out.2.2 (by omega) (Nat.le_refl _) hg9; have HN9 := Lib.hid (And.intro ho9 hB9); clear ho9 hg9 hB9 HN8))
            have hln : (accR m (0 + 1)).length = (accR m 0).length + (rowed m m[0].row).length := by rw [HRW.out, List.length_append]
            refine ⟨⟨0 + 1, A9, c9, by rw [hln], by first | rfl | go_num, by omega, Lib.hid ⟨?_, HN9.out.2, HN9.out.2.size⟩⟩, by simp [intOf]; omega⟩
            rw [hln, HRW.out, ← vals_append]
            exact HN9.out.1
          · obtain ⟨j, hj⟩ : ∃ j, k = j + 1 := ⟨k - 1, by omega⟩
            have hjl : j < m.length := by omega
            have rj := (Rd.cell_at (B := 0) hc j hjl).1
            have hd' : IntKind.i64.wrap ((k : Int) - 1) = (j : Int) := by rw [IntWalk.i64_in _ (by omega)]; omega
            have i1 : (0 : Int) ≤ (j : Int) := by omega
            have i2 : (j : Int) < (m.length : Int) := by omega
            by_cases hrw : m[j].row = m[k].row
            · have hq : (m[j].row.toList == m[k].row.toList) = true := by rw [hrw]; simp
              have HE : Hid (accR m (k + 1) = accR m k) := Lib.hid (by subst hj; exact accR_same hlt2 hrw)
              clear hrw hj hc hlt
              go_wp2
              go_quiet (fail)
              go_wp2
              have hln : (accR m (k + 1)).length = (accR m k).length := by rw [HE.out]
              exact ⟨⟨k + 1, A1, c1, by rw [hln], by first | rfl | go_num, by omega, Lib.hid (by rw [HE.out]; exact ⟨Own.drewN HS.out.1 nq, below_drewN HS.out.2.1 nq, HS.out.2.2⟩)⟩, by simp [intOf]; omega⟩
            · have hq : (m[j].row.toList == m[k].row.toList) = false := by rw [beq_eq_false_iff_ne]; exact fun e => hrw (toList_inj e)
              have HE : accR m (k + 1) = accR m k ++ rowed m m[k].row := by subst hj; exact accR_next HU.out hlt2 hrw
              clear hrw hj hc hlt
              go_wp2
              go_quiet (fail)
              have HSq := Lib.hid (And.intro (Own.drewN HS.out.1 nq) (And.intro (below_drewN HS.out.2.1 nq) HS.out.2.2))
              have HRW := Lib.hid HE
              clear HE
              go_wp2_with (first
                | (go_at_call 14; refine ((HH5.out.below HSq.out.2.1).row m[k].row (by omega)).mono ?_; rintro e w8 ⟨⟨A8, c8, rfl, ho8, hb8⟩, _⟩;
                   have HN8 := Lib.hid (And.intro (Own.below HSq.out.1 hb8) (And.intro (Own.rd ho8 (by omega)) (HSq.out.2.1.trans (hb8.mono hzr)))); have hz8 : wz.heap.size ≤ w8.heap.size := hb8.size; clear ho8 hb8)
                | (at_builtin; go_loud (refine wpList_app _ rfl _ _ _ rfl w5.heap.size 31 i0 zeroCell 6 72 Try.underlying22 hi0 hz0 hz1 hz2 rfl (by decide) A1 _ c1 _ rfl HN8.out.1 w8.heap.size A8 _ c8 (vals (rowed m m[k].row)) rfl HN8.out.2.1 (by rw [length_vals, Nat.mul_comm]) (vals_one _) (by unfold maxLen; omega) (by omega) (by omega) ?_); intro A9 c9 w9 ho9 hg9 _;
                   have hB9 := Own.grow HN8.out.1 HN8.out.2.2 (by omega) (Nat.le_refl _) hg9; have HN9 := Lib.hid (And.intro ho9 hB9); clear ho9 hg9 hB9 HN8))
              have hln : (accR m (k + 1)).length = (accR m k).length + (rowed m m[k].row).length := by rw [HRW.out, List.length_append]
              refine ⟨⟨k + 1, A9, c9, by rw [hln], by first | rfl | go_num, by omega, Lib.hid ⟨?_, HN9.out.2, HN9.out.2.size⟩⟩, by simp [intOf]; omega⟩
              rw [hln, HRW.out, ← vals_append]
              exact HN9.out.1
        · have hk3 : k = m.length := by omega
          subst hk3
          have HE := Lib.hid (accR_end HU.out)
          have HM2 := Lib.hid (And.intro (HM.out.below HS.out.2.1) (Own.rd HS.out.1 (by omega)))
          have hle : (accR m m.length).length = m.length := by rw [HE.out]
          have HHz := Lib.hid (HH5.out.below HS.out.2.1)
          go_wp2_with (first
            | (go_at_call 12; refine (sameCells_any A1 A5 c1 c5 m m _ wz.heap.size (by have := HM2.out.2; rwa [HE.out] at this) (HM2.out.1.more hzr) (by unfold maxLen; omega) (by unfold maxLen; omega)).mono ?_; rw [decide_eq_true rfl]; rintro e w8 ⟨rfl, n8, rfl⟩)
            | (go_at_call 15; refine (Has.many (HHz.out.below (below_drewN (Below.refl _ _) n8))).mono ?_; rintro e w9 ⟨rfl, rfl⟩))
          go_ret
          exact ⟨rfl, below_drewN (HHz.out.b) n8⟩
end Go.Proofs.Ytigbeicihenolaa
