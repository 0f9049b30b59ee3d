/-
  The walk of the law CutPlaces, and what it stands on: a row's place among borders that rise.
-/
import Derived.Test.YteacjikkojglmaaLawSplits
namespace Go.Proofs.Yteacjikkojglmaa
open Go.RowKit Go.Shelf
attribute [local go_sem ↓] Go.wp_at_zero Go.wp_at_succ

/-- not above -/
def leq (a b : ByteArray) : Bool := lt a b || decide (a = b)
theorem leq_iff (a b : ByteArray) : leq a b = true ↔ lt b a = false := by
  unfold leq
  rw [Bool.or_eq_true, decide_eq_true_iff]
  constructor
  · rintro (h | rfl)
    · exact lt_asymm h
    · exact lt_irrefl _
  · intro h
    cases k : lt a b with
    | true => exact .inl rfl
    | false => exact .inr (lt_total k h)
theorem leq_not (a b : ByteArray) : leq a b = false ↔ lt b a = true := by
  rw [← Bool.not_eq_true, leq_iff, Bool.not_eq_false]
theorem place_cons (s : ByteArray) (ss : List ByteArray) (row : ByteArray) : place (s :: ss) row = place ss row + if leq s row then 1 else 0 := by
  unfold place leq
  rw [List.countP_cons]
theorem up_cons {s : ByteArray} {ss : List ByteArray} (h : upTexts (s :: ss) = true) : upTexts ss = true ∧ ∀ t ∈ ss, lt s t = true := by
  induction ss generalizing s with
  | nil => exact ⟨rfl, by simp⟩
  | cons t ss ih =>
    rw [upTexts, Bool.and_eq_true] at h
    refine ⟨h.2, fun u hu => ?_⟩
    rcases List.mem_cons.1 hu with rfl | hu
    · exact h.1
    · exact lt_trans h.1 ((ih h.2).2 u hu)
/-- among texts that rise, those ahead of the place are not above the row, and all others are -/
theorem place_spec {ss : List ByteArray} (h : upTexts ss = true) (row : ByteArray) : ∀ i (hi : i < ss.length), leq ss[i] row = decide (i < place ss row) := by
  induction ss with
  | nil => intro i hi; simp at hi
  | cons s ss ih =>
    obtain ⟨h1, h2⟩ := up_cons h
    intro i hi
    rw [place_cons]
    cases k : leq s row with
    | true =>
      simp only [if_true]
      cases i with
      | zero => simp [k]
      | succ i =>
        rw [List.getElem_cons_succ, ih h1 i (by simpa using hi)]
        simp
    | false =>
      have hk := (leq_not _ _).1 k
      have hz : place ss row = 0 := by
        unfold place
        rw [List.countP_eq_zero]
        intro t ht
        have : leq t row = false := (leq_not _ _).2 (lt_trans hk (h2 t ht))
        unfold leq at this
        simpa using this
      simp only [hz, Bool.false_eq_true, if_false]
      cases i with
      | zero => simp [k]
      | succ i =>
        rw [List.getElem_cons_succ, (leq_not _ _).2 (lt_trans hk (h2 _ (List.getElem_mem _)))]
        simp
theorem borders_up {ss : List ByteArray} (h : borders ss = true) : upTexts ss = true := by
  rw [borders, Bool.and_eq_true] at h
  exact h.2
theorem leq_walk {a b : ByteArray} (h : leq a b = true) : (Op.bytesLess a.toList b.toList || a.toList == b.toList) = true := leq_true h

set_option maxHeartbeats 4000000 in
theorem cutPlacesLaw_any (S : Option Addr) (d : Nat) (ss : List ByteArray) (row : ByteArray) (w : World) (hs : Rd w w.heap.size S (strs ss)) (hlen' : ss.length ≤ maxLen) :
    Calls Try.prog 7 #[.slice S ss.length d, .string row] w fun e w' => e = .returned (.bool true) ∧ Below w.heap.size w w' := by
  have HL' := Lib.hid hlen'
  clear hlen'
  go_enter Try.func7, Try.ntmps7
  by_cases hb : bnd [] ss = true
  · obtain ⟨_, b2⟩ := bnd_parts hb
    by_cases hr : row.size ≤ 100
    · have d1 : decide ((100 : Int) < (row.size : Int)) = false := decide_eq_false (by omega)
      by_cases hbo : borders ss = true
      · have hps := place_spec (borders_up hbo) row
        have hpl := place_le ss row
        obtain ⟨n, hn⟩ : ∃ n, place ss row = n := ⟨_, rfl⟩
        rw [hn] at hps hpl
        have i1 : (n : Int) ≤ (ss.length : Int) := by omega
        have i0 : (0 : Int) ≤ (n : Int) := by omega
        have x1 : n = 0 ∨ ∃ j, n = j + 1 := by cases n <;> simp
        have x2 : n = ss.length ∨ n < ss.length := by omega
        rcases x1 with x1 | ⟨j, x1⟩ <;> rcases x2 with x2 | x2
        · have e1 : (n : Int) = 0 := by omega
          have e2 : (0 : Int) = (ss.length : Int) := by omega
          clear hps
          go_wp2_with (first
            | (go_at_call 9; refine (bounded_any none _ 0 d [] ss _ _ Rd.nil hs (Nat.zero_le _) HL'.out).mono ?_; rw [hb]; rintro e w1 ⟨rfl, rfl⟩)
            | (go_at_call 14; refine (cutBorders_any _ d ss _ _ hs HL'.out).mono ?_; rw [hbo]; rintro e w5 ⟨rfl, rfl⟩)
            | (go_at_call 10; refine (shown_any _).mono ?_; rintro e w1 ⟨rfl, hb1⟩
               have hs1 := (hs.below hb1).more hb1.size)
            | (go_at_call 16; refine (cutPlace_any _ d ss row _ w1.heap.size hs1 HL'.out).mono ?_; rw [hn]; rintro e w2 ⟨rfl, rfl⟩
               clear hs hs1
               have HN := Lib.hid hn
               clear hn
               try have m0' := (hb1.cell (p := ⟨b, _, none⟩) hbl).trans m0
               try have m1' := (hb1.cell (p := ⟨b, _, none⟩) hbl).trans m1))
          go_ret
          exact ⟨rfl, hb1⟩
        · have e1 : (n : Int) = 0 := by omega
          have e2 : ¬ (0 : Int) = (ss.length : Int) := by omega
          have e3 : (0 : Int) < (ss.length : Int) := by omega
          obtain ⟨b, o, rfl, hbl, hc⟩ := hs.at_ (strs_ne x2)
          have m0 := str_at hc 0 (by omega)
          have q0 := (leq_not _ _).1 ((hps 0 (by omega)).trans (by rw [x1]; rfl))
          have q1 : Op.bytesLess row.toList ss[0].toList = true := q0
          obtain ⟨s, hse⟩ : ∃ s, ss[0] = s := ⟨_, rfl⟩
          rw [hse] at m0 q1
          clear hse q0 hc
          rw [Nat.add_zero] at m0
          clear hps
          go_wp2_with (first
            | (go_at_call 9; refine (bounded_any none _ 0 d [] ss _ _ Rd.nil hs (Nat.zero_le _) HL'.out).mono ?_; rw [hb]; rintro e w1 ⟨rfl, rfl⟩)
            | (go_at_call 14; refine (cutBorders_any _ d ss _ _ hs HL'.out).mono ?_; rw [hbo]; rintro e w5 ⟨rfl, rfl⟩)
            | (go_at_call 10; refine (shown_any _).mono ?_; rintro e w1 ⟨rfl, hb1⟩
               have hs1 := (hs.below hb1).more hb1.size)
            | (go_at_call 16; refine (cutPlace_any _ d ss row _ w1.heap.size hs1 HL'.out).mono ?_; rw [hn]; rintro e w2 ⟨rfl, rfl⟩
               clear hs hs1
               have HN := Lib.hid hn
               clear hn
               try have m0' := (hb1.cell (p := ⟨b, _, none⟩) hbl).trans m0
               try have m1' := (hb1.cell (p := ⟨b, _, none⟩) hbl).trans m1))
          go_ret
          exact ⟨rfl, hb1⟩
        · have e1 : ¬ (n : Int) = 0 := by omega
          have e1' : ¬ n = 0 := by omega
          have e2 : (n : Int) = (ss.length : Int) := by omega
          obtain ⟨b, o, rfl, hbl, hc⟩ := hs.at_ (strs_ne (show j < ss.length by omega))
          have m0 := str_at hc j (by omega)
          have q1 := leq_walk ((hps j (by omega)).trans (by simp [x1]))
          obtain ⟨s, hse⟩ : ∃ s, ss[j] = s := ⟨_, rfl⟩
          rw [hse] at m0 q1
          have hd' : IntKind.i64.wrap ((ss.length : Int) - 1) = (j : Int) := by rw [IntWalk.i64_in _ (by omega)]; omega
          have i2 : (j : Int) < (ss.length : Int) := by omega
          have i3 : (0 : Int) ≤ (j : Int) := by omega
          have e4 : ¬ ss = [] := List.ne_nil_of_length_pos (by omega)
          clear hse hc x1
          clear hps
          go_wp2_with (first
            | (go_at_call 9; refine (bounded_any none _ 0 d [] ss _ _ Rd.nil hs (Nat.zero_le _) HL'.out).mono ?_; rw [hb]; rintro e w1 ⟨rfl, rfl⟩)
            | (go_at_call 14; refine (cutBorders_any _ d ss _ _ hs HL'.out).mono ?_; rw [hbo]; rintro e w5 ⟨rfl, rfl⟩)
            | (go_at_call 10; refine (shown_any _).mono ?_; rintro e w1 ⟨rfl, hb1⟩
               have hs1 := (hs.below hb1).more hb1.size)
            | (go_at_call 16; refine (cutPlace_any _ d ss row _ w1.heap.size hs1 HL'.out).mono ?_; rw [hn]; rintro e w2 ⟨rfl, rfl⟩
               clear hs hs1
               have HN := Lib.hid hn
               clear hn
               try have m0' := (hb1.cell (p := ⟨b, _, none⟩) hbl).trans m0
               try have m1' := (hb1.cell (p := ⟨b, _, none⟩) hbl).trans m1))
          go_ret
          exact ⟨rfl, hb1⟩
        · have e1 : ¬ (n : Int) = 0 := by omega
          have e1' : ¬ n = 0 := by omega
          have e2 : ¬ (n : Int) = (ss.length : Int) := by omega
          have e2' : ¬ n = ss.length := by omega
          have e3 : (n : Int) < (ss.length : Int) := by omega
          obtain ⟨b, o, rfl, hbl, hc⟩ := hs.at_ (strs_ne x2)
          have m0 := str_at hc j (by omega)
          have m1 := str_at hc n (by omega)
          have q1 := leq_walk ((hps j (by omega)).trans (by simp [x1]))
          have q0 := (leq_not _ _).1 ((hps n x2).trans (by simp))
          have q2 : Op.bytesLess row.toList ss[n].toList = true := q0
          obtain ⟨s, hse⟩ : ∃ s, ss[j] = s := ⟨_, rfl⟩
          obtain ⟨t, hte⟩ : ∃ t, ss[n] = t := ⟨_, rfl⟩
          rw [hse] at m0 q1
          rw [hte] at m1 q2
          have hd' : IntKind.i64.wrap ((n : Int) - 1) = (j : Int) := by rw [IntWalk.i64_in _ (by omega)]; omega
          have i2 : (j : Int) < (ss.length : Int) := by omega
          have i3 : (0 : Int) ≤ (j : Int) := by omega
          have e4 : ¬ ss = [] := List.ne_nil_of_length_pos (by omega)
          clear hse hte hc x1 q0
          clear hps
          go_wp2_with (first
            | (go_at_call 9; refine (bounded_any none _ 0 d [] ss _ _ Rd.nil hs (Nat.zero_le _) HL'.out).mono ?_; rw [hb]; rintro e w1 ⟨rfl, rfl⟩)
            | (go_at_call 14; refine (cutBorders_any _ d ss _ _ hs HL'.out).mono ?_; rw [hbo]; rintro e w5 ⟨rfl, rfl⟩)
            | (go_at_call 10; refine (shown_any _).mono ?_; rintro e w1 ⟨rfl, hb1⟩
               have hs1 := (hs.below hb1).more hb1.size)
            | (go_at_call 16; refine (cutPlace_any _ d ss row _ w1.heap.size hs1 HL'.out).mono ?_; rw [hn]; rintro e w2 ⟨rfl, rfl⟩
               clear hs hs1
               have HN := Lib.hid hn
               clear hn
               try have m0' := (hb1.cell (p := ⟨b, _, none⟩) hbl).trans m0
               try have m1' := (hb1.cell (p := ⟨b, _, none⟩) hbl).trans m1))
          go_ret
          exact ⟨rfl, hb1⟩
      · have hbo' : borders ss = false := by simpa using hbo
        go_wp2_with (first
          | (go_at_call 9; refine (bounded_any none S 0 d [] ss _ _ Rd.nil hs (Nat.zero_le _) HL'.out).mono ?_; rw [hb]; rintro e w1 ⟨rfl, rfl⟩)
          | (go_at_call 14; refine (cutBorders_any S d ss _ _ hs HL'.out).mono ?_; rw [hbo']; rintro e w5 ⟨rfl, rfl⟩)
          | (go_at_call 10; refine (shown_any _).mono ?_; rintro e w1 ⟨rfl, hb1⟩))
        go_ret
        exact ⟨rfl, hb1⟩
    · have d1 : decide ((100 : Int) < (row.size : Int)) = true := decide_eq_true (by omega)
      go_wp2_with (first
        | (go_at_call 9; refine (bounded_any none S 0 d [] ss _ _ Rd.nil hs (Nat.zero_le _) HL'.out).mono ?_; rw [hb]; rintro e w1 ⟨rfl, rfl⟩)
        | (go_at_call 10; refine (shown_any _).mono ?_; rintro e w1 ⟨rfl, hb1⟩))
      go_ret
      exact ⟨rfl, hb1⟩
  · have hb' : bnd [] ss = false := by simpa using hb
    clear hb
    go_wp2_with (first
        | (go_at_call 9; refine (bounded_any none S 0 d [] ss _ _ Rd.nil hs (Nat.zero_le _) HL'.out).mono ?_; rw [hb']; rintro e w1 ⟨rfl, rfl⟩)
        | (go_at_call 10; refine (shown_any _).mono ?_; rintro e w1 ⟨rfl, hb1⟩))
    go_ret
    exact ⟨rfl, hb1⟩
end Go.Proofs.Yteacjikkojglmaa
