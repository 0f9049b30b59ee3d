/-
  The walk of the law MemOrder.
-/
import Derived.Test.YtigbeicihenolaaOrdPlain12
namespace Go.Proofs.Ytigbeicihenolaa
open Go.RowKit Go.Shelf
attribute [local go_sem ↓] Go.wp_at_zero Go.wp_at_succ

set_option maxHeartbeats 8000000 in
theorem memOrder_any (A : Option Addr) (c : Nat) (l : List Cl) (by_ : Nat) (w : World) (hl : Rd w w.heap.size A (vals l)) (hlen : l.length ≤ maxLen) (hby : by_ ≤ 255) :
    Calls Try.prog 6 #[.slice A l.length c, .int .u8 by_] w fun e w' => e = .returned (.bool true) ∧ Below w.heap.size w w' := by
  have HL := Lib.hid hlen
  obtain ⟨i0, hi0, hz0, hz1, hz2⟩ := info_parts cellInfo12
  clear hlen
  go_enter Try.func6, Try.ntmps6
  by_cases hb : bnd l = true
  rotate_left
  · have hb : bnd l = false := by simpa using hb
    go_wp2_with (first
      | (go_at_call 7; refine (bounded_any A c l _ _ hl HL.out).mono ?_; rw [hb]; rintro e w1 ⟨rfl, rfl⟩)
      | (go_at_call 8; refine (shown_any _).mono ?_; rintro e w1 ⟨rfl, hb1⟩))
    go_ret
    exact ⟨rfl, hb1⟩
  have hb80 := bnd_len hb
  have M0 : Hid True := trivial
  go_wp2_with (first
    | (go_at_call 7; refine (bounded_any A c l _ _ hl HL.out).mono ?_; rw [hb]; rintro e w1 ⟨rfl, rfl⟩)
    | (go_at_call 8; refine (shown_any _).mono ?_; rintro e w1 ⟨rfl, hb1⟩)
    | (go_at_call 9; have M := M0; clear M M0; refine (Has.new hb1).mono ?_; rintro e w2 ⟨rfl, hh2⟩; have HH2 := Lib.hid hh2; clear hh2)
    | (go_at_call 9; have M := HH2; clear M; refine (new_any w2).mono ?_; rintro e w3 ⟨rfl, ht3, hb3⟩; have HO3 := Lib.hid (And.intro (Ord.new HH2.out ht3 hb3 rfl) hb3.size); clear ht3 hb3 HH2))
  obtain ⟨ta, hta⟩ : ∃ ta, w1.heap.size = ta := ⟨_, rfl⟩
  obtain ⟨tb, htb⟩ : ∃ tb, w2.heap.size = tb := ⟨_, rfl⟩
  rw [hta, htb] at HO3 ⊢
  have hO4 := HO3.out.1.below ((Below.refl _ _).alloc (Nat.le_refl _) (.cells #[] 31))
  have hO4' : Ord w (w3.alloc (.cells #[] 31)) ta tb [] [] [] (some ⟨w3.heap.size, 0, none⟩) 0 := by
    obtain ⟨Sa, Ta, Sb, Tb, h1, h2, h3, h4, h5, h6, h7, h8⟩ := HO3.out.1
    have hbq := (Below.refl w3.heap.size w3).alloc (Nat.le_refl _) (.cells #[] 31)
    exact ⟨Sa, Ta, Sb, Tb, h1.below hbq, h2.below hbq, h3, fun k hk => by injection hk with hk; subst hk; exact ⟨fun e => Nat.lt_irrefl _ (h1.lt _ e), fun e => Nat.lt_irrefl _ (h2.lt _ e)⟩, (nil_row w3).lower h6.size, h6.trans (hbq.mono h6.size), h7, h8⟩
  have HO4 := Lib.hid hO4'
  clear hO4 hO4' HO3 hta htb hb1
  go_loopw [7, 8, 9] (fun g i _ wr => ∃ (k : Nat) (la gl : List Cl) (A1 : Option Addr) (c1 : Nat), g = .slice A1 gl.length c1 ∧ i = .int .i64 k ∧ k ≤ l.length ∧ gl.length ≤ k ∧ Hid (Good la gl k ∧ Ord w wr ta tb la [] gl A1 c1)) (fun _ i _ _ => l.length - (intOf i).toNat)
  case atStart => exact ⟨0, [], [], _, 0, rfl, rfl, Nat.zero_le _, Nat.le_refl _, Lib.hid ⟨Good.nil, HO4.out⟩⟩
  case round =>
    obtain ⟨k, la, gl, A1, c1, rfl, rfl, hk, hgl, HH⟩ := hrel
    by_cases hlt : k < l.length
    · obtain ⟨b, o, rfl, hbl, hc⟩ := (hl.below HH.out.2.b).at_ (vals_ne hlt)
      obtain ⟨l0, l1, l2, l3, l4, l5⟩ := Rd.cell_at (B := 0) hc k hlt
      have hyb := HH.out.1.bytes
      have hle := HH.out.1.le
      clear hc hl
      have hbx : Below wr.heap.size wr (wr.alloc (.cells #[.string l[k].row, .string l[k].col, .int .u64 l[k].ts, .int .u64 l[k].seq, .bool false, .string ⟨#[]⟩] 31)) := (Below.refl _ _).alloc (Nat.le_refl _) _
      have hcx : CBox (wr.alloc (.cells #[.string l[k].row, .string l[k].col, .int .u64 l[k].ts, .int .u64 l[k].seq, .bool false, .string ⟨#[]⟩] 31)) wr.heap.size (bare l[k]) := CBox.new wr (bare l[k])
      have hput := HH.out.2.putA' hbx (bare l[k]) (by omega) (by omega)
      have hput' : Calls Try.prog 10 #[.pointer (some ⟨ta, 0, none⟩), .agg #[.string l[k].row, .string l[k].col, .int .u64 l[k].ts, .int .u64 l[k].seq, .bool false, .string ⟨#[]⟩]] _ _ := hput
      have HP := Lib.hid (And.intro hput' hcx)
      clear hput hput' hcx hbx
      cases hp : isPut la (bare l[k]) with
      | true =>
        have hE : putE la (bare l[k]) = 0 := of_decide_eq_true ((putE_is la (bare l[k])).trans hp)
        have HG := Lib.hid (HH.out.1.yes (bare l[k]) hp)
        clear hp
        go_wp2_with (first
          | (go_at_call 10; refine HP.out.1.mono ?_; rintro e w4 ⟨rfl, ho4, hk4⟩; simp only [hE]; have hc4 := HP.out.2.keep (hk4 wr.heap.size (Nat.le_refl _) (by rw [World.size_alloc]; omega)); obtain ⟨q0, q1, q2, q3, q4, q5⟩ := hc4.cells; simp only [bare] at q0 q1 q2 q3 q4 q5; have HO4 := Lib.hid ho4;
             have hb4 := (Below.refl w4.heap.size w4).alloc (Nat.le_refl _) (.cells #[.string l[k].row, .string l[k].col, .int .u64 l[k].ts, .int .u64 l[k].seq, .bool false, .string ⟨#[]⟩] 31);
             have HO5 := Lib.hid (ho4.below hb4); have HR5 : Hid (Rd (w4.alloc (.cells #[.string l[k].row, .string l[k].col, .int .u64 l[k].ts, .int .u64 l[k].seq, .bool false, .string ⟨#[]⟩] 31)) (w4.alloc (.cells #[.string l[k].row, .string l[k].col, .int .u64 l[k].ts, .int .u64 l[k].seq, .bool false, .string ⟨#[]⟩] 31)).heap.size (some ⟨w4.heap.size, 0, none⟩) (vals [bare l[k]])) := Lib.hid (Rd.ofBlock (CBox.new w4 (bare l[k])) (by simp [vals, Cl.vals])); have hz5 := HO5.out.b.size; clear ho4 hk4 hc4 hb4)
          | (at_builtin; go_loud (refine wpList_app _ rfl _ _ _ rfl w.heap.size 31 i0 zeroCell 6 72 Try.underlying22 hi0 hz0 hz1 hz2 rfl (by decide) A1 gl.length c1 (vals gl) rfl HO5.out.row _ (some ⟨w4.heap.size, 0, none⟩) 1 1 (vals [bare l[k]]) rfl HR5.out (by rw [length_vals]; rfl) (vals_one _) (by unfold maxLen; omega) (by omega) hz5 ?_); intro A6 c6 w6 ho6 hg6 ha6))
        have hln : (gl ++ [bare l[k]]).length = gl.length + 1 := by simp
        refine ⟨⟨k + 1, put la (bare l[k]), gl ++ [bare l[k]], A6, c6, by rw [hln], by first | rfl | go_num, by omega, by omega, Lib.hid ⟨HG.out, ?_⟩⟩, by simp [intOf]; omega⟩
        exact HO5.out.app (by rw [hln, ← vals_append]; exact ho6) hg6 ha6
      | false =>
        have hE : ¬ putE la (bare l[k]) = 0 := of_decide_eq_false ((putE_is la (bare l[k])).trans hp)
        have hE2 : (putE la (bare l[k]) == 0) = false := beq_eq_false_iff_ne.2 hE
        have HG := Lib.hid (HH.out.1.no (bare l[k]) hp)
        clear hp
        go_wp2_with (go_at_call 10; refine HP.out.1.mono ?_; rintro e w4 ⟨rfl, ho4, hk4⟩; have HO4 := Lib.hid ho4; clear ho4 hk4)
        exact ⟨⟨k + 1, put la (bare l[k]), gl, A1, c1, rfl, by first | rfl | go_num, by omega, by omega, Lib.hid ⟨HG.out, HO4.out⟩⟩, by simp [intOf]; omega⟩
    · rename World => w5
      clear HO4 hl
      have hG := HH.out.1
      have hyb := hG.bytes
      have hle := hG.le
      have hlen2 := hG.perm.length_eq
      have hwg : IntKind.i64.wrap ((gl.length : Int) - 1) = (gl.length : Int) - 1 := by rw [IntWalk.i64_in _ (by omega)]
      have hgl80 : gl.length ≤ 80 := by omega
      clear hyb hle hlen2 hG
      go_wp2
      go_loopw [10] (fun i wr => ∃ (z : Int) (pre lb : List Cl) (j : Nat), i = .int .i64 z ∧ -2 ≤ z ∧ z ≤ gl.length - 1 ∧ (j : Int) ≤ gl.length - 1 - z ∧ Hid (Sec gl pre lb j ∧ Ord w wr ta tb la lb gl A1 c1)) (fun i _ => (intOf i + 2).toNat)
      case atStart => exact ⟨(gl.length : Int) - 1, [], [], 0, rfl, by omega, by omega, by omega, Lib.hid ⟨Sec.nil gl, HH.out.2⟩⟩
      case round =>
        obtain ⟨z, pre, lb, j, rfl, hz1', hz2', hj, HS⟩ := hrel
        have hbl := HS.out.1.le
        have hby2 := HS.out.1.bytes HH.out.1
        by_cases hz : 0 ≤ z
        · obtain ⟨m, rfl⟩ : ∃ m : Nat, z = m := ⟨z.toNat, by omega⟩
          have hml : m < gl.length := by omega
          obtain ⟨b, o, rfl, hbb, hc⟩ := (Own.rd HS.out.2.row (by omega)).at_ (vals_ne hml)
          obtain ⟨l0, l1, l2, l3, l4, l5⟩ := Rd.cell_at (B := 0) hc m hml
          have hd : decide ((0 : Int) ≤ (m : Int)) = true := decide_eq_true (by omega)
          have i1 : (0 : Int) ≤ (m : Int) := by omega
          have i2 : (m : Int) < (gl.length : Int) := by omega
          have hw2 : IntKind.i64.wrap ((m : Int) - 2) = (m : Int) - 2 := by rw [IntWalk.i64_in _ (by omega)]
          clear hc
          go_wp2_with (go_at_call 10; refine (HS.out.2.putB gl[m] (by omega) (by omega)).mono ?_; rintro e w7 ⟨rfl, ho7⟩; have HO7 := Lib.hid ho7; clear ho7)
          exact ⟨⟨(m : Int) - 2, pre ++ [gl[m]], put lb gl[m], j + 1, by first | rfl | go_num, by omega, by omega, by omega, Lib.hid ⟨HS.out.1.put HH.out.1 (List.getElem_mem hml), HO7.out⟩⟩, by simp [intOf]; omega⟩
        · have hd : decide ((0 : Int) ≤ z) = false := decide_eq_false hz
          go_wp2
          go_loopw [11] (fun i wr => ∃ (k3 : Nat) (pre lb : List Cl) (j : Nat), i = .int .i64 k3 ∧ k3 ≤ gl.length ∧ j ≤ 82 + k3 ∧ Hid (Sec gl pre lb j ∧ Ord w wr ta tb la lb gl A1 c1 ∧ Went gl pre by_ k3)) (fun i _ => gl.length - (intOf i).toNat)
          case atStart => exact ⟨0, pre, lb, j, rfl, Nat.zero_le _, by omega, Lib.hid ⟨HS.out.1, HS.out.2, fun j hj => by omega⟩⟩
          case round =>
            clear hbl hby2 HS
            obtain ⟨k3, pre3, lb3, j3, rfl, hk3, hj3, HS⟩ := hrel
            have hbl := HS.out.1.le
            have hby2 := HS.out.1.bytes HH.out.1
            by_cases hlt : k3 < gl.length
            · obtain ⟨q, hq⟩ : ∃ q, (k3 + by_) % gl.length = q := ⟨_, rfl⟩
              have hql : q < gl.length := by rw [← hq]; exact Nat.mod_lt _ (by omega)
              obtain ⟨b, o, rfl, hbb, hc⟩ := (Own.rd HS.out.2.1.row (by omega)).at_ (vals_ne hql)
              obtain ⟨l0, l1, l2, l3, l4, l5⟩ := Rd.cell_at (B := 0) hc q hql
              have hws : IntKind.i64.wrap ((k3 : Int) + (by_ : Int)) = ((k3 + by_ : Nat) : Int) := by rw [IntWalk.i64_in _ (by omega)]; omega
              have hrm : Int.tmod ((k3 + by_ : Nat) : Int) (gl.length : Int) = (q : Int) := by rw [← hq]; exact (Int.ofNat_tmod _ _).symm
              have hrm2 : ((k3 : Int) + (by_ : Int)) % (gl.length : Int) = (q : Int) := by rw [← hq, Int.natCast_emod, Int.natCast_add]
              have hne : ¬ gl.length = 0 := by omega
              have i1 : (0 : Int) ≤ (q : Int) := by omega
              have i2 : (q : Int) < (gl.length : Int) := by omega
              have HQ := Lib.hid hq
              clear hc
              go_wp2_with (go_at_call 10; refine (HS.out.2.1.putB gl[q] (by omega) (by omega)).mono ?_; rintro e w7 ⟨rfl, ho7⟩; have HO7 := Lib.hid ho7; clear ho7)
              exact ⟨⟨k3 + 1, pre3 ++ [gl[q]], put lb3 gl[q], j3 + 1, by first | rfl | go_num, by omega, by omega, Lib.hid ⟨HS.out.1.put HH.out.1 (List.getElem_mem hql), HO7.out, HS.out.2.2.succ (by rw [HQ.out]; exact hql) (by simp only [HQ.out])⟩⟩, by simp [intOf]; omega⟩
            · have hk4 : k3 = gl.length := by omega
              subst hk4
              have hend := HS.out.1.end_ HH.out.1 HS.out.2.2.all
              subst hend
              rename World => w8
              have hlen2 := HH.out.1.perm.length_eq
              have hA := Lib.hid HS.out.2.1.a
              have hB := Lib.hid HS.out.2.1.flip.a
              have HU := Lib.hid HH.out.1.up
              have HLN := Lib.hid hlen2
              have M0 : Hid True := trivial
              have hl82 : lb3.length ≤ 80 := by omega
              have d1 : decide ((lb3.length : Int) = (gl.length : Int)) = true := decide_eq_true (by omega)
              have d2 : ((lb3.length : Int) == (gl.length : Int)) = true := beq_iff_eq.2 (by omega)
              have d3 : (lb3.length == gl.length) = true := beq_iff_eq.2 (by omega)
              have d4 : decide (lb3.length = gl.length) = true := decide_eq_true (by omega)
              clear hlen2 hby2 hbl
              go_wp2_with (first
                | (go_at_call 13; have M := M0; clear M M0; refine (hB.out.cells (by omega)).mono ?_; rintro e w9 ⟨⟨A9, c9, rfl, ho9, hb9⟩, hh9⟩; have H9 := Lib.hid (And.intro (Own.rd ho9 (by omega)) (And.intro hb9 hh9)); clear ho9 hb9 hh9)
                | (go_at_call 13; have M := H9; clear M; refine ((hA.out.below H9.out.2.1).cells (by omega)).mono ?_; rintro e wa ⟨⟨Aa, ca, rfl, hoa, hba⟩, hha⟩; have HA := Lib.hid (And.intro (Own.rd hoa (by omega)) (And.intro ((H9.out.1.below hba).more hba.size) (And.intro hha (H9.out.2.2.below hba)))); clear hoa hba hha H9)
                | (go_at_call 12; have M := HA; clear M; refine (sameCells_any Aa A9 ca c9 lb3 lb3 _ wa.heap.size HA.out.1 HA.out.2.1 (by unfold maxLen; omega) (by unfold maxLen; omega)).mono ?_; rw [decide_eq_true rfl]; rintro e wb ⟨rfl, nb, rfl⟩)
                | (go_at_call 22; have M := HA; clear M; refine (cellRising_any A9 c9 lb3 _ (HA.out.2.1.drewN nb) (by unfold maxLen; omega)).mono ?_; rw [up_rising HU.out]; rintro e wc ⟨rfl, hbc⟩; have HC := Lib.hid (And.intro (Has.below (W := wa) HA.out.2.2.1 ((below_drewN (Below.refl _ wa) nb).trans hbc)) (Has.below (W := wa) HA.out.2.2.2 ((below_drewN (Below.refl _ wa) nb).trans hbc))); clear HA hbc)
                | (go_at_call 19; have M := HC; clear M; refine HC.out.1.bytes.mono ?_; rintro e wd ⟨rfl, rfl⟩; have HD := Lib.hid HC.out.2; have HE := Lib.hid HC.out.1.b; clear HC)
                | (go_at_call 19; have M := HD; clear M; refine HD.out.bytes.mono ?_; rintro e we ⟨rfl, rfl⟩))
              go_ret
              exact ⟨rfl, HE.out⟩
end Go.Proofs.Ytigbeicihenolaa
