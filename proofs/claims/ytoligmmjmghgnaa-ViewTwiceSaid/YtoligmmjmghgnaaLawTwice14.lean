/-
  The walk of the law ViewTwice.
-/
import Derived.Test.YtoligmmjmghgnaaBounded14
import Derived.Test.YtoligmmjmghgnaaKeep14
namespace Go.Proofs.Ytoligmmjmghgnaa
open Go.RowKit Go.Shelf
attribute [local go_sem ↓] Go.wp_at_zero Go.wp_at_succ

theorem Once.sub {l m : List Cl} (h : Once Cl.lt l m) : ∀ x ∈ m, x ∈ l := fun x hx => h.mem cl_weak hx
set_option maxRecDepth 10000 in
set_option maxHeartbeats 2000000 in
theorem twice_wide (A : Option Addr) (c N fl : Nat) (last : Bool) (l : List Cl) (w : World) (hl : Rd w w.heap.size A (cls l)) (hN : l.length = N) (hlen : N ≤ maxLen) (hb : bnd l = false) :
    Calls Try.prog 6 #[.slice A N c, .int .u64 (fl : Int), .bool last] w fun e w' => e = .returned (.bool true) ∧ Below w.heap.size w w' := by
  have HBD := Lib.hid (bounded_w A c N l w _ hl hN hlen)
  clear hl hN
  go_enter Try.func6, Try.ntmps6
  go_wp2_with (first
    | (go_at_call 12; refine HBD.out.mono ?_; rintro e w1 ⟨rfl, rfl⟩; rw [hb])
    | (go_at_call 8; refine (shown_any _).mono ?_; rintro e w2 ⟨rfl, hb2⟩))
  go_ret
  exact ⟨rfl, hb2⟩
set_option maxRecDepth 10000 in
set_option maxHeartbeats 2000000 in
theorem twice_any (A : Option Addr) (c N fl : Nat) (last : Bool) (l : List Cl) (w : World) (hl : Rd w w.heap.size A (cls l)) (hN : l.length = N) (hlen : N ≤ maxLen) (hb : bnd l = true) (hf : ∀ x ∈ l, x.seq ≤ 18446744073709551615) :
    Calls Try.prog 6 #[.slice A N c, .int .u64 (fl : Int), .bool last] w fun e w' => e = .returned (.bool true) ∧ Below w.heap.size w w' := by
  have HBD := Lib.hid (bounded_w A c N l w _ hl hN hlen)
  have hn60 : N ≤ 60 := by rw [← hN]; exact bnd_len hb
  have HL := Lib.hid hl
  have HN := Lib.hid hN
  have HF := Lib.hid hf
  clear hl hN hf
  go_enter Try.func6, Try.ntmps6
  go_wp2_with (first
    | (go_at_call 12; refine HBD.out.mono ?_; rintro e w1 ⟨rfl, rfl⟩; rw [hb])
    | (go_at_call 8; refine (shown_any _).mono ?_; rintro e w2 ⟨rfl, hb2⟩; have HB2 := Lib.hid hb2; clear hb2; have hk1 := keep_any A c N fl last l w2 ((HL.out.below HB2.out).more HB2.out.size) HN.out (by omega) HF.out; have HK1 := Lib.hid hk1; clear hk1)
    | (go_at_call 14; refine HK1.out.mono ?_; clear HK1; rintro e w4 ⟨A4, n4, c4, m, rfl, hm, ho4, hb4⟩; have hn4 : n4 ≤ 100 := (by have h1 := ho4.len; have h2 : (keepP m fl last).length ≤ m.length := Nat.le_trans (List.length_filter_le _ _) (List.length_filter_le _ _); have h3 := hm.length_le cl_weak; have := HN.out; omega); have hs4 : ∀ x ∈ keepP m fl last, x ∈ m := (fun x hx => (List.mem_filter.1 (List.mem_filter.1 hx).1).1); have HK2 := Lib.hid (keep_any A4 c4 n4 fl last (keepP m fl last) w4 ho4.rd ho4.len (by omega) (fun x hx => HF.out x (hm.sub x (hs4 x hx)))); have HM := Lib.hid hm; have HO4 := Lib.hid ho4; have HB4 := Lib.hid hb4; clear hm ho4 hb4 hs4)
    | (go_at_call 14; refine HK2.out.mono ?_; clear HK2; rintro e w5 ⟨A5, n5, c5, m5, rfl, hm5, ho5, hb5⟩; have he := (Once.unique cl_weak hm5 (Once.self cl_weak (kept_strict HM.out.1 fl last))); subst he; rw [keep_twice] at ho5; have hsc := sameCells_w A5 A4 c5 c4 n5 n4 (keepP m fl last) (keepP m fl last) w5 ho5.rd (HO4.out.below hb5).rd ho5.len HO4.out.len (by have := ho5.len; have := HO4.out.len; unfold maxLen; omega) (by unfold maxLen; omega); rw [decide_eq_true rfl] at hsc; have HSC := Lib.hid hsc; have HB5 := Lib.hid hb5; clear hsc hb5 ho5)
    | (go_at_call 13; refine HSC.out.mono ?_; rintro e w6 ⟨rfl, hb6⟩))
  go_ret
  exact ⟨rfl, ((HB2.out.trans (HB4.out.mono HB2.out.size)).trans (HB5.out.mono (Nat.le_trans HB2.out.size HB4.out.size))).trans (hb6.mono (Nat.le_trans HB2.out.size (Nat.le_trans HB4.out.size HB5.out.size)))⟩
end Go.Proofs.Ytoligmmjmghgnaa
