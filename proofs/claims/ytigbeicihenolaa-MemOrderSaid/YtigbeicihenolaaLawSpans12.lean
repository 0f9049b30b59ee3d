/-
  The walk of the law MemSpans.
-/
import Derived.Test.YtigbeicihenolaaShown12
namespace Go.Proofs.Ytigbeicihenolaa
open Go.RowKit Go.Shelf
attribute [local go_sem ↓] Go.wp_at_zero Go.wp_at_succ

theorem puts_len (l : List Cl) (k : Nat) (h : l.length ≤ 80) : (puts (l.take k)).length ≤ 80 ∧ bytesOf (puts (l.take k)) ≤ 16000 := by
  have h1 := length_puts (l.take k)
  have h2 := bytes_puts (l.take k)
  have h3 : (l.take k).length ≤ l.length := by rw [List.length_take]; omega
  omega
theorem span_le (l : List Cl) (f t : ByteArray) : (span l f t).length ≤ l.length := List.length_filter_le _ _
theorem rowed_le (l : List Cl) (r : ByteArray) : (rowed l r).length ≤ l.length := List.length_filter_le _ _
theorem nil_row (w : World) : Own (w.alloc (.cells #[] 31)) w.heap.size 31 6 (some ⟨w.heap.size, 0, none⟩) 0 0 (vals []) := World.ownsRow_lit w #[] 0 (Nat.le_refl _) (by simp [maxLen]) (by simp)

set_option maxHeartbeats 4000000 in
theorem memSpans_any (A : Option Addr) (c : Nat) (l : List Cl) (at_ : ByteArray) (w : World) (hl : Rd w w.heap.size A (vals l)) (hlen : l.length ≤ maxLen) :
    Calls Try.prog 3 #[.slice A l.length c, .string at_] w fun e w' => e = .returned (.bool true) ∧ Below w.heap.size w w' := by
  have HL := Lib.hid hlen
  obtain ⟨i0, hi0, hz0, hz1, hz2⟩ := info_parts cellInfo12
  clear hlen
  have he := empty_size at_
  go_enter Try.func3, Try.ntmps3
  by_cases hb : bnd l = true
  rotate_left
  · have hb : bnd l = false := by simpa using hb
    clear he
    go_wp2_with (first
      | (go_at_call 7; refine (bounded_any A c l _ _ hl HL.out).mono ?_; rw [hb]; rintro e w1 ⟨rfl, rfl⟩)
      | (go_at_call 8; refine (shown_any _).mono ?_; rintro e w1 ⟨rfl, hb1⟩))
    go_ret
    exact ⟨rfl, hb1⟩
  by_cases ha : at_.size ≤ 100
  rotate_left
  · have ha2 : decide (100 < (at_.size : Int)) = true := decide_eq_true (by omega)
    clear he
    go_wp2_with (first
      | (go_at_call 7; refine (bounded_any A c l _ _ hl HL.out).mono ?_; rw [hb]; rintro e w1 ⟨rfl, rfl⟩)
      | (go_at_call 8; refine (shown_any _).mono ?_; rintro e w1 ⟨rfl, hb1⟩))
    go_ret
    exact ⟨rfl, hb1⟩
  have ha2 : decide (100 < (at_.size : Int)) = false := decide_eq_false (by omega)
  by_cases h0 : at_.size = 0
  · have h1 : (at_.toList == []) = true := by rw [he, h0]; rfl
    clear he
    go_wp2_with (first
      | (go_at_call 7; refine (bounded_any A c l _ _ hl HL.out).mono ?_; rw [hb]; rintro e w1 ⟨rfl, rfl⟩)
      | (go_at_call 8; refine (shown_any _).mono ?_; rintro e w1 ⟨rfl, hb1⟩))
    go_ret
    exact ⟨rfl, hb1⟩
  have h1 : (at_.toList == []) = false := by rw [he]; exact decide_eq_false h0
  have hne : at_.toList ≠ [] := fun e => by rw [e] at h1; cases h1
  have HNE := Lib.hid hne
  have hb80 := bnd_len hb
  clear he hne
  go_wp2_with (first
    | (go_at_call 7; refine (bounded_any A c l _ _ hl HL.out).mono ?_; rw [hb]; rintro e w1 ⟨rfl, rfl⟩)
    | (go_at_call 8; refine (shown_any _).mono ?_; rintro e w1 ⟨rfl, hb1⟩)
    | (go_at_call 9; refine (Has.new hb1).mono ?_; rintro e w2 ⟨rfl, hh2⟩; have HH2 := Lib.hid hh2; clear hh2))
  obtain ⟨tb, htb⟩ : ∃ tb, w1.heap.size = tb := ⟨_, rfl⟩
  rw [htb] at HH2 ⊢
  go_loopw [6] (fun i wr => ∃ k : Nat, k ≤ l.length ∧ i = .int .i64 k ∧ Hid (Has w wr tb (puts (l.take k)))) (fun i _ => l.length - (intOf i).toNat)
  case atStart => exact ⟨0, Nat.zero_le _, rfl, HH2⟩
  case round =>
    obtain ⟨k, hk, rfl, HH⟩ := hrel
    by_cases hlt : k < l.length
    · obtain ⟨b, o, rfl, hbl, hc⟩ := (hl.below HH.out.b).at_ (vals_ne hlt)
      obtain ⟨l0, l1, l2, l3, l4, l5⟩ := Rd.cell_at (B := 0) hc k hlt
      have HPS := Lib.hid (puts_succ hlt)
      have hpl := puts_len l k hb80
      clear hc hl
      go_wp2_with (go_at_call 10; refine (HH.out.put l[k] (by omega) (by omega)).mono ?_; rintro e w3 ⟨rfl, hh3⟩; have HH3 := Lib.hid hh3; clear hh3)
      exact ⟨⟨k + 1, by omega, by first | rfl | go_num, by rw [HPS.out]; exact HH3⟩, by simp [intOf]; omega⟩
    · have hk2 : k = l.length := by omega
      subst hk2
      rw [List.take_length] at HH
      have hpl := puts_len l l.length hb80
      rw [List.take_length] at hpl
      obtain ⟨m, hm⟩ : ∃ m, puts l = m := ⟨_, rfl⟩
      have hum := up_puts l
      rw [hm] at HH hpl hum
      have hp1 := span_le m ⟨#[]⟩ at_
      have hp2 := span_le m at_ ⟨#[]⟩
      have hp3 := rowed_le m at_
      have hsum : span m ⟨#[]⟩ at_ ++ span m at_ ⟨#[]⟩ = m := span_parts (by rw [ByteArray.toList_eq]) HNE.out hum
      obtain ⟨z, hz⟩ : ∃ z, at_ ++ ⟨#[0]⟩ = z := ⟨_, rfl⟩
      have hzl : z.toList = at_.toList ++ [0] := by
        rw [← hz, ByteArray.toList_eq, ByteArray.toList_eq]
        simp
      have hrow := span_row hzl m
      have hp4 := span_le m at_ z
      have HS := Lib.hid (And.intro hsum hrow)
      have HZ := Lib.hid hz
      have hadd : ∀ W, (Op.stringOp .add at_ ⟨#[0]⟩).run Try.prog W = .ok (.string z) W := fun W => by rw [← HZ.out]; exact run_string_add_sum W at_ ⟨#[0]⟩ (by show at_.size + 1 ≤ 9223372036854775807; omega)
      have hls : (span m ⟨#[]⟩ at_).length + (span m at_ ⟨#[]⟩).length = m.length := by rw [← List.length_append, hsum]
      have HLS := Lib.hid hls
      have M0 : Hid True := trivial
      clear hm hum hsum hrow hzl HH2 hb1 hl hz hls
      go_wp2_with (first
        | (go_at_call 11; have M := M0; refine ((HH.out.below ((Below.refl _ _).alloc (Nat.le_refl _) (.cells #[] 31))).span ⟨#[]⟩ at_ (by omega)).mono ?_; rintro e w3 ⟨⟨A3, c3, rfl, ho3, hb3⟩, _⟩;
           have hB3 : Below wr.heap.size wr w3 := ((Below.refl _ _).alloc (Nat.le_refl _) _).trans (hb3.mono (by rw [World.size_alloc]; omega));
           have HN3 := Lib.hid (And.intro (Own.below (nil_row wr) hb3) (And.intro (Own.rd ho3 (by omega)) hB3)); have hz3 := hB3.size; clear M0 M ho3 hb3 hB3)
        | (at_builtin; have M := HN3; clear M; refine wpList_app _ rfl _ _ _ rfl wr.heap.size 31 i0 zeroCell 6 72 Try.underlying22 hi0 hz0 hz1 hz2 rfl (by decide) (some ⟨wr.heap.size, 0, none⟩) 0 0 (vals []) rfl HN3.out.1 w3.heap.size A3 _ c3 (vals (span m ⟨#[]⟩ at_)) rfl HN3.out.2.1 (by rw [length_vals, Nat.mul_comm]) (vals_one _) (by unfold maxLen; omega) (by omega) hz3 ?_; intro A4 c4 w4 ho4 hg4 _;
           have hB4 := Own.grow HN3.out.1 HN3.out.2.2 hz3 (Nat.le_refl _) hg4; have hz4 := hB4.size; rw [Nat.zero_add] at ho4 ⊢; have HN4 := Lib.hid (And.intro ho4 hB4); clear ho4 hg4 hB4 HN3)
        | (go_at_call 11; have M := HN4; clear M; refine ((HH.out.below HN4.out.2).span at_ ⟨#[]⟩ (by omega)).mono ?_; rintro e w5 ⟨⟨A5, c5, rfl, ho5, hb5⟩, _⟩;
           have hB5 := HN4.out.2.trans (hb5.mono hz4); have hz5 := hB5.size; have HN5 := Lib.hid (And.intro (Own.below HN4.out.1 hb5) (And.intro (Own.rd ho5 (by omega)) hB5)); clear ho5 hb5 hB5 HN4)
        | (at_builtin; have M := HN5; clear M; refine wpList_app _ rfl _ _ _ rfl wr.heap.size 31 i0 zeroCell 6 72 Try.underlying22 hi0 hz0 hz1 hz2 rfl (by decide) A4 _ c4 _ rfl HN5.out.1 w5.heap.size A5 _ c5 (vals (span m at_ ⟨#[]⟩)) rfl HN5.out.2.1 (by rw [length_vals, Nat.mul_comm]) (vals_one _) (by unfold maxLen; omega) (by omega) hz5 ?_; intro A6 c6 w6 ho6 hg6 _;
           have hB6 := Own.grow HN5.out.1 HN5.out.2.2 hz5 (Nat.le_refl _) hg6; have hz6 := hB6.size; rw [HLS.out] at ho6 ⊢; have HN6 := Lib.hid (And.intro ho6 hB6); clear ho6 hg6 hB6 HN5)
        | (go_at_call 13; have M := HN6; clear M; refine ((HH.out.below HN6.out.2).cells (by omega)).mono ?_; rintro e w7 ⟨⟨A7, c7, rfl, ho7, hb7⟩, _⟩;
           have hB7 := HN6.out.2.trans (hb7.mono hz6); have hz7 := hB7.size; have HN7 := Lib.hid (And.intro (Own.rd (Own.below HN6.out.1 hb7) (by omega)) (And.intro (Own.rd ho7 (by omega)) hB7)); clear ho7 hb7 hB7 HN6)
        | (go_at_call 12; have M := HN7; clear M; refine (sameCells_any A6 A7 c6 c7 m m _ w7.heap.size (by have := HN7.out.1; rwa [vals_append, vals_append, List.nil_append, HS.out.1] at this) HN7.out.2.1 (by unfold maxLen; omega) (by unfold maxLen; omega)).mono ?_; rw [decide_eq_true rfl]; rintro e w8 ⟨rfl, n8, rfl⟩; have HN8 := Lib.hid (below_drewN HN7.out.2.2 n8); clear HN7)
        | (go_at_call 14; have M := HN8; clear M; refine ((HH.out.below HN8.out).row at_ (by omega)).mono ?_; rintro e w9 ⟨⟨A9, c9, rfl, ho9, hb9⟩, _⟩;
           have hz8 := HN8.out.size; have hB9 := HN8.out.trans (hb9.mono hz8); have hz9 := hB9.size; have HN9 := Lib.hid (And.intro (Own.rd ho9 (by omega)) hB9); clear ho9 hb9 hB9 HN8)
        | (go_at_call 11; have M := HN9; clear M; refine ((HH.out.below HN9.out.2).span at_ z (by omega)).mono ?_; rintro e wa ⟨⟨Aa, ca, rfl, hoa, hba⟩, _⟩;
           have hBa := HN9.out.2.trans (hba.mono hz9); have hza := hba.size; have HNa := Lib.hid (And.intro ((HN9.out.1.below hba).more hza) (And.intro (Own.rd hoa (by omega)) hBa)); clear hoa hba hBa HN9)
        | (go_at_call 12; have M := HNa; clear M; refine (sameCells_any A9 Aa c9 ca _ _ _ wa.heap.size HNa.out.1 HNa.out.2.1 (by unfold maxLen; omega) (by unfold maxLen; omega)).mono ?_; rw [decide_eq_true HS.out.2]; rintro e wb ⟨rfl, nb, rfl⟩; have HNb := Lib.hid (below_drewN HNa.out.2.2 nb); clear HNa))
      go_ret
      exact ⟨rfl, HH.out.b.trans (HNb.out.mono HH.out.b.size)⟩
end Go.Proofs.Ytigbeicihenolaa
