/-
  The walk of layer 9's law function that turns lists into the reference's; merging, whatever the width. No conditions.
-/
import Derived.Test.YtflppcgonbjnmaaJK
namespace Go.Proofs.Ytflppcgonbjnmaa
open Go.RowKit
attribute [local go_sem ↓] Go.wp_at_zero Go.wp_at_succ

set_option maxHeartbeats 4000000 in
theorem its9_any (A : Option Addr) (c : Nat) (L : List (List It)) (w : World) (hl : LRd w w.heap.size A L) (hlen : L.length ≤ 100000) (hsh : ∀ r ∈ L, r.length ≤ 1000000) :
    Calls Try.prog 14 #[.slice A L.length c] w fun e w' => ∃ (A' : Option Addr) (c' : Nat) (vs : List Value), e = .returned (.slice A' L.length c') ∧
      Own w' w.heap.size 40 1 A' L.length c' vs ∧ OLists 56 w' w.heap.size vs L ∧ Below w.heap.size w w' := by
  obtain ⟨i0, hi0, hz0, hz1, hz2⟩ := info_parts refItemsInfo
  have HL := Lib.hid hl
  have HS := Lib.hid hsh
  obtain ⟨N, hN⟩ : ∃ N, L.length = N := ⟨_, rfl⟩
  have HN := Lib.hid hN
  rw [hN] at hlen ⊢
  have HO0 := Lib.hid (Own.new0' w 40 1)
  have HB0 := Lib.hid ((Below.refl w.heap.size w).alloc (Nat.le_refl _) (.cells #[] 40))
  clear hl hN hsh
  go_enter Try.func14, Try.ntmps14
  go_wp2_with fail
  go_loopw [3, 4] (fun vo vi wr => ∃ (k : Nat) (Ao : Option Addr) (co : Nat) (vs : List Value), k ≤ N ∧ vo = .slice Ao k co ∧ vi = .int .i64 (k : Int) ∧ Hid (Own wr w.heap.size 40 1 Ao k co vs) ∧ Hid (OLists 56 wr w.heap.size vs (L.take k)) ∧ Hid (Below w.heap.size w wr)) (fun _ vi _ => N - (intOf vi).toNat)
  case atStart => exact ⟨0, _, 0, [], Nat.zero_le _, rfl, rfl, HO0, Lib.hid (by rw [List.take_zero]; exact OLists.nil), HB0⟩
  case round =>
    clear HO0 HB0
    obtain ⟨k, Ao, co, vs, hk, rfl, rfl, HO, HLS, HB⟩ := hrel
    by_cases hlt : k < N
    · have hkl : k < L.length := by rw [HN.out]; exact hlt
      have e1 : decide ((k : Int) < (N : Int)) = true := decide_eq_true (by omega)
      have k1 : (0 : Int) ≤ (k : Int) := by omega
      have k2 : (k : Int) < (N : Int) := by omega
      have hw3 : IntKind.i64.wrap ((k : Int) + 1) = ((k + 1 : Nat) : Int) := by rw [IntWalk.i64_in _ (by omega)]; omega
      obtain ⟨b, o, A', c', rfl, hb, hc, hc', hr⟩ := (HL.out.below HB.out).get hkl
      have HC := Lib.hid (fun W h => its_any A' c' (L[k]'hkl) W h (HS.out _ (List.getElem_mem hkl)))
      have HR := Lib.hid hr
      have HT := Lib.hid (List.take_succ_eq_append_getElem hkl)
      obtain ⟨p, hp⟩ : ∃ p, L[k] = p := ⟨_, rfl⟩
      rw [hp] at HC hc HR HT
      obtain ⟨n, hn⟩ : ∃ n, p.length = n := ⟨_, rfl⟩
      rw [hn] at hc HC
      have HK := Lib.hid hn
      clear hp hn hc' hr
      go_wp2_with (first
        | (go_at_call 18; refine (HC.out _ (HR.out.more HB.out.size)).mono ?_; rintro e w2 ⟨A2, c2, rfl, ho2, hb2⟩
           have hown2 := Own.alloc (Own.below HO.out hb2) (.cells #[.slice A2 n c2] 40)
           have hsz2 : w.heap.size ≤ w2.heap.size := Nat.le_trans HB.out.size hb2.size)
        | (at_builtin; go_loud (refine wpList_app _ rfl _ _ _ rfl w.heap.size 40 i0 (.slice none 0 0) 1 24 Try.underlying33 hi0 hz0 hz1 hz2 rfl (by decide) Ao k co vs rfl hown2 (w2.heap.size + 1) (some ⟨w2.heap.size, 0, none⟩) 1 1 [.slice A2 n c2] rfl (Rd.new1 _ _ _) rfl (by simp [Value.oneCell']) (by unfold maxLen; omega) (by omega) (by rw [World.size_alloc]; omega) ?_); intro A5 c5 w3 ho3 hg3 hat3
           have hL2 := (HLS.out.below hb2).snoc (Own.lower ho2 HB.out.size) HK.out
           have hL3 := hL2.keep fun A n' c xs ho => (Own.alloc ho (.cells #[.slice A2 n c2] 40)).grown hg3 (Own.type_ne' (Own.alloc ho (.cells #[.slice A2 n c2] 40)) hown2 (by decide))
           rw [← HT.out] at hL3
           have HL3 := Lib.hid hL3
           have hB2 := HB.out.trans (hb2.mono HB.out.size)
           have HB3 := Lib.hid (hown2.grow (hB2.alloc hsz2 (.cells #[.slice A2 n c2] 40)) (by rw [World.size_alloc]; omega) (Nat.le_refl _) hg3)
           have HO3 := Lib.hid ho3
           clear ho3 hg3 hat3 hL2 hL3 hB2 hown2))
      exact ⟨⟨k + 1, A5, c5, _, by omega, rfl, by first | rfl | go_num, HO3, HL3, HB3⟩, by simp [intOf]; omega⟩
    · have e1 : decide ((k : Int) < (N : Int)) = false := decide_eq_false (by omega)
      obtain rfl : k = N := by omega
      have hL := HLS.out
      rw [List.take_of_length_le (by rw [HN.out]; exact Nat.le_refl _)] at hL
      have HL' := Lib.hid hL
      clear hL
      go_wp2
      go_ret
      exact ⟨Ao, co, vs, rfl, HO.out, HL'.out, HB.out⟩

/-- what lists are merged to, once, and to the end, whatever the width; their errors -/
def pmB (m : Int) (L : List (List It)) : Bool := decide (2 ≤ m) && sortedL L
def pmX (m : Int) (L : List (List It)) : List (List It) := if pmB m L then passP m.toNat L else []
def pmE (m : Int) (L : List (List It)) : Int := if m < 2 then 1 else if sortedL L then 0 else 40
def amX (m : Int) (L : List (List It)) : List It := if pmB m L then resolve L.flatten else []
def amN (m : Int) (L : List (List It)) : Nat := if pmB m L then passN m.toNat L.length else 0
theorem pm_low {m : Int} {L : List (List It)} (h : m < 2) : pmX m L = [] ∧ pmE m L = 1 ∧ amX m L = [] ∧ amN m L = 0 := by
  have hb : pmB m L = false := by unfold pmB; rw [decide_eq_false (by omega)]; rfl
  unfold pmX pmE amX amN
  rw [hb, if_pos h]
  exact ⟨rfl, rfl, rfl, rfl⟩
theorem pm_uns {m : Int} {L : List (List It)} (h : 2 ≤ m) (hs : sortedL L = false) : pmX m L = [] ∧ pmE m L = 40 ∧ amX m L = [] ∧ amN m L = 0 := by
  have hb : pmB m L = false := by unfold pmB; rw [hs, Bool.and_false]
  have hn : ¬ m < 2 := by omega
  exact ⟨by unfold pmX; rw [hb]; rfl, by unfold pmE; rw [if_neg hn, hs]; rfl, by unfold amX; rw [hb]; rfl, by unfold amN; rw [hb]; rfl⟩
theorem pm_ok {m : Nat} {L : List (List It)} (h : 2 ≤ m) (hs : sortedL L = true) : pmX m L = passP m L ∧ pmE m L = 0 ∧ amX m L = resolve L.flatten ∧ amN m L = passN m L.length := by
  have hb : pmB m L = true := by unfold pmB; rw [hs, decide_eq_true (by omega)]; rfl
  have hn : ¬ (m : Int) < 2 := by omega
  exact ⟨by unfold pmX; rw [hb]; rfl, by unfold pmE; rw [if_neg hn, hs]; rfl, by unfold amX; rw [hb]; rfl, by unfold amN; rw [hb]; rfl⟩
theorem passP_count {m : Nat} (hm : 1 ≤ m) (L : List (List It)) : (passP m L).length ≤ L.length := by
  rw [pass_len hm, Nat.div_le_iff_le_mul_add_pred (by omega)]
  have : L.length ≤ m * L.length := Nat.le_mul_of_pos_left _ (by omega)
  omega
theorem pmX_count (m : Int) (L : List (List It)) : (pmX m L).length ≤ L.length := by
  unfold pmX
  split
  · rename_i h
    unfold pmB at h
    rw [Bool.and_eq_true] at h
    have := of_decide_eq_true h.1
    exact passP_count (by omega) L
  · exact Nat.zero_le _
theorem pmX_flat (m : Int) (L : List (List It)) : (pmX m L).flatten.length ≤ L.flatten.length := by
  unfold pmX
  split
  · rename_i h
    unfold pmB at h
    rw [Bool.and_eq_true] at h
    have := of_decide_eq_true h.1
    exact pass_flat (by omega) L
  · exact Nat.zero_le _
theorem amX_len (m : Int) (L : List (List It)) : (amX m L).length ≤ L.flatten.length := by
  unfold amX
  split
  · exact resolve_len _
  · exact Nat.zero_le _
theorem amN_le (m : Int) (L : List (List It)) : amN m L ≤ L.length := by
  unfold amN
  split
  · rename_i h
    unfold pmB at h
    rw [Bool.and_eq_true] at h
    have := of_decide_eq_true h.1
    exact (AllI.start h.2 : AllI m.toNat L L 0).nn ▸ (by
      have key : ∀ n, passN m.toNat n ≤ n := by
        intro n
        induction n using Nat.strongRecOn with
        | ind n ih =>
          by_cases h2 : 2 ≤ n
          · rw [passN_more (by omega) h2]
            have h1 := ceil_lt (w := m.toNat) (by omega) h2
            have := ih _ h1
            omega
          · rw [passN_le (by omega)]
            omega
      exact key L.length)
  · exact Nat.zero_le _
theorem ILists.nil' {w : World} {base : Nat} : ILists w base [] [] := ILists.nil
theorem pass_gen (A : Option Addr) (c : Nat) (L : List (List It)) (m : Int) (w : World) (hl : LRd w w.heap.size A L) (hL : L.length ≤ 100000) (hF : L.flatten.length ≤ 1000000) (hcap : L.length ≤ c) (hm2 : m ≤ 9223372036854775807) :
    Calls Try.prog 15 #[.slice A L.length c, .int .i64 m] w fun e w' => ∃ (A' : Option Addr) (c' : Nat) (vs : List Value), e = .returned (.tuple #[.slice A' (pmX m L).length c', .int .i64 (pmE m L)]) ∧
      Own w' w.heap.size 32 1 A' (pmX m L).length c' vs ∧ OLists 59 w' w.heap.size vs (pmX m L) ∧ Below w.heap.size w w' := by
  by_cases hm : m < 2
  · obtain ⟨h1, h2, -, -⟩ := pm_low (L := L) hm
    rw [h1, h2]
    refine (pass_low A L.length c m w hm).mono ?_
    rintro e w' ⟨rfl, hb⟩
    exact ⟨none, 0, [], rfl, Own.nil, OLists.nil, hb⟩
  · cases hs : sortedL L with
    | false =>
      obtain ⟨h1, h2, -, -⟩ := pm_uns (show 2 ≤ m by omega) hs
      rw [h1, h2]
      refine (pass_uns A c L m w hl ⟨by omega, mem_flat_len hF⟩ (by omega) hs).mono ?_
      rintro e w' ⟨rfl, hb⟩
      exact ⟨none, 0, [], rfl, Own.nil, OLists.nil, hb⟩
    | true =>
      obtain ⟨k, rfl⟩ : ∃ k : Nat, m = k := ⟨m.toNat, by omega⟩
      obtain ⟨h1, h2, -, -⟩ := pm_ok (show 2 ≤ k by omega) hs
      rw [h1, h2]
      refine (pass_ok A c L k w hl hL hF hcap (by omega) (by omega) hs).mono ?_
      rintro e w' ⟨A', n', c', vs, rfl, ho, hi, hb⟩
      obtain rfl : n' = (passP k L).length := (hi.lrd ho).2
      exact ⟨A', c', vs, rfl, ho, hi, hb⟩
theorem refPass_gen (A : Option Addr) (c : Nat) (L : List (List It)) (m : Int) (w : World) (hl : LRd w w.heap.size A L) (hL : L.length ≤ 100000) (hF : L.flatten.length ≤ 1000000) (hcap : L.length ≤ c) (hm2 : m ≤ 9223372036854775807) :
    Calls Try.prog 16 #[.slice A L.length c, .int .i64 m] w fun e w' => ∃ (A' : Option Addr) (c' : Nat) (vs : List Value), e = .returned (.tuple #[.slice A' (pmX m L).length c', .int .i64 (pmE m L)]) ∧
      Own w' w.heap.size 40 1 A' (pmX m L).length c' vs ∧ OLists 56 w' w.heap.size vs (pmX m L) ∧ Below w.heap.size w w' := by
  by_cases hm : m < 2
  · obtain ⟨h1, h2, -, -⟩ := pm_low (L := L) hm
    rw [h1, h2]
    refine (refPass9_low A L.length c m w hm).mono ?_
    rintro e w' ⟨rfl, hb⟩
    exact ⟨none, 0, [], rfl, Own.nil, OLists.nil, hb⟩
  · cases hs : sortedL L with
    | false =>
      obtain ⟨h1, h2, -, -⟩ := pm_uns (show 2 ≤ m by omega) hs
      rw [h1, h2]
      refine (refPass9_uns A c L m w hl ⟨by omega, mem_flat_len hF⟩ (by omega) hs).mono ?_
      rintro e w' ⟨rfl, hb⟩
      exact ⟨none, 0, [], rfl, Own.nil, OLists.nil, hb⟩
    | true =>
      obtain ⟨k, rfl⟩ : ∃ k : Nat, m = k := ⟨m.toNat, by omega⟩
      obtain ⟨h1, h2, -, -⟩ := pm_ok (show 2 ≤ k by omega) hs
      rw [h1, h2]
      refine (refPass9_ok A c L k w hl hL hF hcap (by omega) (by omega) hs).mono ?_
      rintro e w' ⟨A', n', c', vs, rfl, ho, hi, hb⟩
      obtain rfl : n' = (passP k L).length := (hi.lrd ho).2
      exact ⟨A', c', vs, rfl, ho, hi, hb⟩
theorem all_gen (A : Option Addr) (c : Nat) (L : List (List It)) (m : Int) (w : World) (hl : LRd w w.heap.size A L) (hL : L.length ≤ 100000) (hF : L.flatten.length ≤ 1000000) (hcap : L.length ≤ c) (hm2 : m ≤ 9223372036854775807) :
    Calls Try.prog 19 #[.slice A L.length c, .int .i64 m] w fun e w' => ∃ (A' : Option Addr) (c' : Nat), e = .returned (.tuple #[.slice A' (amX m L).length c', .int .i64 ((amN m L : Nat) : Int), .int .i64 (pmE m L)]) ∧ Rd w' w'.heap.size A' (its (amX m L)) ∧ Below w.heap.size w w' := by
  by_cases hm : m < 2
  · obtain ⟨-, h2, h3, h4⟩ := pm_low (L := L) hm
    rw [h2, h3, h4]
    refine (all_low A L.length c m w hm).mono ?_
    rintro e w' ⟨rfl, hb⟩
    exact ⟨none, 0, rfl, Rd.nil, hb⟩
  · cases hs : sortedL L with
    | false =>
      obtain ⟨-, h2, h3, h4⟩ := pm_uns (show 2 ≤ m by omega) hs
      rw [h2, h3, h4]
      refine (all_uns A c L m w hl ⟨by omega, mem_flat_len hF⟩ (by omega) hs).mono ?_
      rintro e w' ⟨rfl, hb⟩
      exact ⟨none, 0, rfl, Rd.nil, hb⟩
    | true =>
      obtain ⟨k, rfl⟩ : ∃ k : Nat, m = k := ⟨m.toNat, by omega⟩
      obtain ⟨-, h2, h3, h4⟩ := pm_ok (show 2 ≤ k by omega) hs
      rw [h2, h3, h4]
      refine (all_ok A c L k w hl hL hF hcap (by omega) (by omega) hs).mono ?_
      rintro e w' ⟨A', c', rfl, ho, hb⟩
      exact ⟨A', c', rfl, ho.rd (by omega), hb⟩
theorem refAll_gen (A : Option Addr) (c : Nat) (L : List (List It)) (m : Int) (w : World) (hl : LRd w w.heap.size A L) (hL : L.length ≤ 100000) (hF : L.flatten.length ≤ 1000000) (hcap : L.length ≤ c) (hm2 : m ≤ 9223372036854775807) :
    Calls Try.prog 20 #[.slice A L.length c, .int .i64 m] w fun e w' => ∃ (A' : Option Addr) (c' : Nat), e = .returned (.tuple #[.slice A' (amX m L).length c', .int .i64 ((amN m L : Nat) : Int), .int .i64 (pmE m L)]) ∧ Rd w' w'.heap.size A' (its (amX m L)) ∧ Below w.heap.size w w' := by
  by_cases hm : m < 2
  · obtain ⟨-, h2, h3, h4⟩ := pm_low (L := L) hm
    rw [h2, h3, h4]
    refine (refAll9_low A L.length c m w hm).mono ?_
    rintro e w' ⟨rfl, hb⟩
    exact ⟨none, 0, rfl, Rd.nil, hb⟩
  · cases hs : sortedL L with
    | false =>
      obtain ⟨-, h2, h3, h4⟩ := pm_uns (show 2 ≤ m by omega) hs
      rw [h2, h3, h4]
      refine (refAll9_uns A c L m w hl ⟨by omega, mem_flat_len hF⟩ (by omega) hs).mono ?_
      rintro e w' ⟨rfl, hb⟩
      exact ⟨none, 0, rfl, Rd.nil, hb⟩
    | true =>
      obtain ⟨k, rfl⟩ : ∃ k : Nat, m = k := ⟨m.toNat, by omega⟩
      obtain ⟨-, h2, h3, h4⟩ := pm_ok (show 2 ≤ k by omega) hs
      rw [h2, h3, h4]
      refine (refAll9_ok A c L k w hl hL hF hcap (by omega) (by omega) hs).mono ?_
      rintro e w' ⟨A', c', rfl, ho, hb⟩
      exact ⟨A', c', rfl, ho, hb⟩
end Go.Proofs.Ytflppcgonbjnmaa
