/-
  The walks of merge.Cells, merge.Sort and the reference's Sort (layer 9). The walk of what layer 9's laws show. The walks of the laws MergeSorts and MergeAlike. No conditions.
-/
import Derived.Test.YtflppcgonbjnmaaJJ
import Derived.Test.YtflppcgonbjnmaaJC
import Derived.Test.YtflppcgonbjnmaaJO
namespace Go.Proofs.Ytflppcgonbjnmaa
open Go.RowKit
attribute [local go_sem ↓] Go.wp_at_zero Go.wp_at_succ

set_option maxHeartbeats 4000000 in
theorem mergeCells_any (A : Option Addr) (c : Nat) (l : List It) (w : World) (hl : Rd w w.heap.size A (its l)) (hlen : l.length ≤ 1759218604441) :
    Calls Try.prog 13 #[.slice A l.length c] w fun e w' => ∃ (A' : Option Addr) (c' : Nat), e = .returned (.slice A' l.length c') ∧ Own w' w.heap.size 53 6 A' l.length c' (vals (l.map (·.c))) ∧ Below w.heap.size w w' := by
  obtain ⟨i0, hi0, hz0, hz1, hz2⟩ := info_parts cellInfo
  have HL := Lib.hid hl
  obtain ⟨N, hN⟩ : ∃ N, l.length = N := ⟨_, rfl⟩
  have HN := Lib.hid hN
  rw [hN] at hlen ⊢
  have HB0 := Lib.hid (Below.refl w.heap.size w)
  have HO0 : Hid (Own w w.heap.size 53 6 none 0 0 (vals ((l.take 0).map (·.c)))) := Own.nil
  clear hl hN
  go_enter Try.func13, Try.ntmps13
  go_wp2
  go_loopw [2, 7] (fun vo vi wr => ∃ (k : Nat) (Ao : Option Addr) (co : Nat), k ≤ N ∧ vo = .slice Ao k co ∧ vi = .int .i64 (k : Int) ∧ Hid (Own wr w.heap.size 53 6 Ao k co (vals ((l.take k).map (·.c)))) ∧ Hid (Below w.heap.size w wr)) (fun _ vi _ => N - (intOf vi).toNat)
  case atStart => exact ⟨0, _, 0, Nat.zero_le _, rfl, rfl, HO0, HB0⟩
  case round =>
    obtain ⟨k, Ao, co, hk, rfl, rfl, HO, HB⟩ := hrel
    by_cases hlt : k < N
    · have hkl : k < l.length := by rw [HN.out]; exact hlt
      obtain ⟨b, o, rfl, hb, hc⟩ := (HL.out.below HB.out).at_ (its_ne hkl)
      obtain ⟨z0, z1, z2, z3, z4, z5, z6⟩ := Rd.it_at hc k hkl
      have e1 : decide ((k : Int) < (N : Int)) = true := decide_eq_true (by omega)
      have k1 : (0 : Int) ≤ (k : Int) := by omega
      have k2 : (k : Int) < (N : Int) := by omega
      have hz := HB.out.size
      have HT := Lib.hid (cells_take hkl)
      have hw3 : IntKind.i64.wrap ((k : Int) + 1) = ((k + 1 : Nat) : Int) := by rw [IntWalk.i64_in _ (by omega)]; omega
      clear hc
      go_wp2_with (first
        | (at_builtin; go_loud (refine wpList_app _ rfl _ _ _ rfl w.heap.size 53 i0 zeroCell 6 72 Try.underlying22 hi0 hz0 hz1 hz2 rfl (by decide) _ _ _ _ rfl (Own.alloc (Own.alloc HO.out _) _) _ _ 1 _ (l[k].c).vals rfl (Rd.all' _ _ _ _ (wr.heap.size + 1) (World.size_alloc _ _) rfl) rfl (cl_one l[k].c) (by unfold maxLen; omega) (by omega) (by rw [World.size_alloc, World.size_alloc]; omega) ?_); intro A4 c4 w4 ho4 hg4 hat4
           rw [HT.out] at ho4
           have HO4 := Lib.hid ho4
           have HB4 := Lib.hid ((Own.alloc (Own.alloc HO.out _) _).grow ((HB.out.alloc hz _).alloc (by rw [World.size_alloc]; omega) _) (by rw [World.size_alloc, World.size_alloc]; omega) (Nat.le_refl _) hg4)
           clear ho4 hg4 hat4))
      exact ⟨⟨k + 1, A4, c4, by omega, rfl, rfl, HO4, HB4⟩, by simp [intOf]; omega⟩
    · have e1 : decide ((k : Int) < (N : Int)) = false := decide_eq_false (by omega)
      have hkN : k = N := by omega
      have HK := Lib.hid hkN
      clear hkN
      go_wp2
      go_ret
      have := HO.out
      rw [HK.out, ← HN.out, List.take_length] at this
      exact ⟨Ao, co, by rw [← HK.out]; rfl, by rwa [HN.out] at this, HB.out⟩

/-- the runs of an input -/
def runsP (l : List Cl) (m : Nat) : List (List It) := (chunks m (items l)).map resolve
theorem chunks_flat {m : Nat} (hm : 1 ≤ m) : ∀ (n : Nat) (l : List It), l.length ≤ n → (chunks m l).flatten = l
  | 0, l, hn => by
    have : l = [] := List.eq_nil_of_length_eq_zero (by omega)
    subst this
    rw [chunks_nil]
    rfl
  | n + 1, l, hn => by
    by_cases hl : l = []
    · subst hl
      rw [chunks_nil]
      rfl
    · have hpos : 0 < l.length := List.length_pos_iff.2 hl
      rw [chunks_cons hm hl, List.flatten_cons, chunks_flat hm n (l.drop m) (by rw [List.length_drop]; omega), List.take_append_drop]
theorem runs_sorted (l : List Cl) (m : Nat) : sortedL (runsP l m) = true := by
  unfold sortedL runsP
  rw [List.all_eq_true]
  intro r hr
  obtain ⟨p, _, rfl⟩ := List.mem_map.1 hr
  exact strict_sorted (resolve_good _).strict
theorem runs_resolve (l : List Cl) {m : Nat} (hm : 1 ≤ m) : resolve (runsP l m).flatten = resolve (items l) := by
  have := resolve_flat (chunks m (items l)) []
  rw [chunks_flat hm _ _ (Nat.le_refl _)] at this
  exact this.symm
theorem map_resolve_le : ∀ P : List (List It), (P.map resolve).flatten.length ≤ P.flatten.length
  | [] => Nat.le_refl _
  | p :: P => by
    have h1 := map_resolve_le P
    have h2 := resolve_len p
    simp only [List.map_cons, List.flatten_cons, List.length_append] at h1 ⊢
    omega
theorem runs_flat (l : List Cl) {m : Nat} (hm : 1 ≤ m) : (runsP l m).flatten.length ≤ l.length := by
  have := map_resolve_le (chunks m (items l))
  rw [chunks_flat hm _ _ (Nat.le_refl _), items_length] at this
  exact this
theorem chunks_count {m : Nat} : ∀ (n : Nat) (l : List It), l.length ≤ n → (chunks m l).length ≤ l.length
  | 0, l, hn => by
    have : l = [] := List.eq_nil_of_length_eq_zero (by omega)
    subst this
    rw [chunks_nil]
    exact Nat.le_refl _
  | n + 1, l, hn => by
    by_cases hl : l = []
    · subst hl
      rw [chunks_nil]
      exact Nat.le_refl _
    · rcases Nat.eq_zero_or_pos m with h0 | hm
      · subst h0
        rw [chunks]
        exact Nat.zero_le _
      · rw [chunks_cons hm hl]
        have hpos : 0 < l.length := List.length_pos_iff.2 hl
        have := chunks_count (m := m) n (l.drop m) (by rw [List.length_drop]; omega)
        rw [List.length_drop] at this
        rw [List.length_cons]
        omega
theorem runs_count (l : List Cl) (m : Nat) : (runsP l m).length ≤ l.length := by
  unfold runsP
  rw [List.length_map]
  have := chunks_count (m := m) _ _ (Nat.le_refl (items l).length)
  rwa [items_length] at this

/-- what an input is sorted to; in how many passes; its error -/
def srtB (m wd : Int) : Bool := decide (1 ≤ m ∧ 2 ≤ wd)
def srtC (l : List Cl) (m wd : Int) : List Cl := if srtB m wd then (resolve (items l)).map (·.c) else []
def srtN (l : List Cl) (m wd : Int) : Nat := if srtB m wd then passN wd.toNat (runsP l m.toNat).length else 0
def srtE (m wd : Int) : Int := if srtB m wd then 0 else 1
theorem srtC_len (l : List Cl) (m wd : Int) : (srtC l m wd).length ≤ l.length := by
  unfold srtC
  split
  · rw [List.length_map]
    have := resolve_len (items l)
    rwa [items_length] at this
  · exact Nat.zero_le _

set_option maxHeartbeats 2000000 in
theorem mergeSort_low (A : Option Addr) (c n : Nat) (m wd : Int) (w : World) (hm : m < 1) :
    Calls Try.prog 10 #[.slice A n c, .int .i64 m, .int .i64 wd] w fun e w' => e = .returned (.tuple #[.slice none 0 0, .int .i64 0, .int .i64 1]) ∧ Below w.heap.size w w' := by
  have HM := Lib.hid (make_bad A c n m w hm)
  go_enter Try.func10, Try.ntmps10
  go_wp2_with (go_at_call 25; refine HM.out.mono ?_; rintro e w1 ⟨rfl, hb1⟩)
  go_ret3
  exact ⟨rfl, hb1⟩
set_option maxHeartbeats 2000000 in
theorem refSort9_low (A : Option Addr) (c n : Nat) (m wd : Int) (w : World) (hm : m < 1) :
    Calls Try.prog 11 #[.slice A n c, .int .i64 m, .int .i64 wd] w fun e w' => e = .returned (.tuple #[.slice none 0 0, .int .i64 0, .int .i64 1]) ∧ Below w.heap.size w w' := by
  have HM := Lib.hid (refMake8_bad A c n m w hm)
  go_enter Try.func11, Try.ntmps11
  go_wp2_with (go_at_call 26; refine HM.out.mono ?_; rintro e w1 ⟨rfl, hb1⟩)
  go_ret3
  exact ⟨rfl, hb1⟩
set_option maxHeartbeats 2000000 in
theorem mergeSort_thin (A : Option Addr) (c : Nat) (l : List Cl) (m : Nat) (wd : Int) (w : World) (hl : Rd w w.heap.size A (vals l)) (hlen : l.length ≤ 100000) (hm : 1 ≤ m) (hm2 : m ≤ 9223372036854775807) (hwd : wd < 2) :
    Calls Try.prog 10 #[.slice A l.length c, .int .i64 m, .int .i64 wd] w fun e w' => ∃ (A' : Option Addr) (c' : Nat), e = .returned (.tuple #[.slice A' 0 c', .int .i64 0, .int .i64 1]) ∧ Own w' w.heap.size 53 6 A' 0 c' [] ∧ Below w.heap.size w w' := by
  have HM := Lib.hid (make_ok A c l m w hl hlen hm hm2)
  generalize l.length = n at HM ⊢
  clear hl
  go_enter Try.func10, Try.ntmps10
  go_wp2_with (first
    | (go_at_call 13; refine (mergeCells_any none 0 [] w2 Rd.nil (by simp)).mono ?_; rintro e w3 ⟨A3, c3, rfl, ho3, hb3⟩)
    | (go_at_call 19; refine (all_low _ _ _ wd _ hwd).mono ?_; rintro e w2 ⟨rfl, hb2⟩)
    | (go_at_call 25; refine HM.out.mono ?_; rintro e w1 ⟨A1, n1, c1, vs, rfl, -, -, hb1⟩))
  go_ret3
  have hb := hb1.trans (hb2.mono hb1.size)
  exact ⟨A3, c3, rfl, ho3.lower hb.size, hb.trans (hb3.mono hb.size)⟩
set_option maxHeartbeats 2000000 in
theorem refSort9_thin (A : Option Addr) (c : Nat) (l : List Cl) (m : Nat) (wd : Int) (w : World) (hl : Rd w w.heap.size A (vals l)) (hlen : l.length ≤ 100000) (hm : 1 ≤ m) (hm2 : m ≤ 9223372036854775807) (hwd : wd < 2) :
    Calls Try.prog 11 #[.slice A l.length c, .int .i64 m, .int .i64 wd] w fun e w' => e = .returned (.tuple #[.slice none 0 0, .int .i64 0, .int .i64 1]) ∧ Below w.heap.size w w' := by
  have HM := Lib.hid (refMake8_ok A c l m w hl hlen hm hm2)
  generalize l.length = n at HM ⊢
  clear hl
  go_enter Try.func11, Try.ntmps11
  go_wp2_with (first
    | (go_at_call 20; refine (refAll9_low _ _ _ wd _ hwd).mono ?_; rintro e w2 ⟨rfl, hb2⟩)
    | (go_at_call 26; refine HM.out.mono ?_; rintro e w1 ⟨A1, n1, c1, vs, rfl, -, -, hb1⟩))
  go_ret3
  exact ⟨rfl, hb1.trans (hb2.mono hb1.size)⟩
set_option maxHeartbeats 2000000 in
theorem mergeSort_ok (A : Option Addr) (c : Nat) (l : List Cl) (m wd : Nat) (w : World) (hl : Rd w w.heap.size A (vals l)) (hlen : l.length ≤ 100000) (hm : 1 ≤ m) (hm2 : m ≤ 9223372036854775807) (hwd : 2 ≤ wd) (hwd2 : wd ≤ 9223372036854775807) :
    Calls Try.prog 10 #[.slice A l.length c, .int .i64 m, .int .i64 wd] w fun e w' => ∃ (A' : Option Addr) (c' : Nat), e = .returned (.tuple #[.slice A' (resolve (items l)).length c', .int .i64 ((passN wd (runsP l m).length : Nat) : Int), .int .i64 0]) ∧ Own w' w.heap.size 53 6 A' (resolve (items l)).length c' (vals ((resolve (items l)).map (·.c))) ∧ Below w.heap.size w w' := by
  have HM := Lib.hid (make_ok A c l m w hl hlen hm hm2)
  have hrl : (resolve (items l)).length ≤ 1000000 := by have := resolve_len (items l); rw [items_length] at this; omega
  have HC := Lib.hid (fun (W : World) (A : Option Addr) (c : Nat) (h : Rd W W.heap.size A (its (resolve (items l)))) => mergeCells_any A c (resolve (items l)) W h (by omega))
  have HA := Lib.hid (fun (W : World) (A : Option Addr) (n c : Nat) (h : LRd W W.heap.size A (runsP l m)) (hn : n = (runsP l m).length) (hc : n ≤ c) => show Calls Try.prog 19 #[.slice A n c, .int .i64 wd] W fun e w' => ∃ (A' : Option Addr) (c' : Nat), e = .returned (.tuple #[.slice A' (resolve (items l)).length c', .int .i64 ((passN wd (runsP l m).length : Nat) : Int), .int .i64 0]) ∧
      Own w' W.heap.size 59 7 A' (resolve (items l)).length c' (its (resolve (items l))) ∧ Below W.heap.size W w' by
    subst hn
    have h1 := runs_count l m
    have h2 := runs_flat l hm
    have := all_ok A c (runsP l m) wd W h (by omega) (by omega) hc hwd hwd2 (runs_sorted l m)
    rwa [runs_resolve l hm] at this)
  generalize passN wd (runsP l m).length = pn at HA ⊢
  obtain ⟨R, hR⟩ : ∃ R, resolve (items l) = R := ⟨_, rfl⟩
  rw [hR] at HA HC hrl ⊢
  obtain ⟨rl, hRl⟩ : ∃ rl, R.length = rl := ⟨_, rfl⟩
  rw [hRl] at HA HC hrl ⊢
  have hps : ∀ (w' : World) (A' : Option Addr) (n' c' : Nat) (vs : List Value), Own w' w.heap.size 32 1 A' n' c' vs → ILists w' w.heap.size vs ((chunks m (items l)).map resolve) → LRd w' w'.heap.size A' (runsP l m) ∧ n' = (runsP l m).length ∧ n' ≤ c' := fun w' A' n' c' vs ho hi => by
    obtain ⟨h1, h2⟩ := ILists.lrd hi ho
    exact ⟨h1, h2, ho.cap⟩
  have HPS := Lib.hid hps
  clear hps hR hRl hl
  generalize l.length = n at HM ⊢
  go_enter Try.func10, Try.ntmps10
  go_wp2_with (first
    | (go_at_call 13; refine (HC.out w2 A2 c2 (HO2.out.rd (by omega))).mono ?_; rintro e w3 ⟨A3, c3, rfl, ho3, hb3⟩)
    | (go_at_call 19; refine (HA.out w1 A1 n1 c1 HQ.out.1 HQ.out.2.1 HQ.out.2.2).mono ?_; rintro e w2 ⟨A2, c2, rfl, ho2, hb2⟩; have HO2 := Lib.hid ho2; clear ho2)
    | (go_at_call 25; refine HM.out.mono ?_; rintro e w1 ⟨A1, n1, c1, vs, rfl, ho1, hi1, hb1⟩; have HQ := Lib.hid (HPS.out w1 A1 n1 c1 vs ho1 hi1); clear ho1 hi1))
  go_ret3
  have hb := hb1.trans (hb2.mono hb1.size)
  exact ⟨A3, c3, rfl, ho3.lower hb.size, hb.trans (hb3.mono hb.size)⟩
set_option maxHeartbeats 2000000 in
theorem refSort9_ok (A : Option Addr) (c : Nat) (l : List Cl) (m wd : Nat) (w : World) (hl : Rd w w.heap.size A (vals l)) (hlen : l.length ≤ 100000) (hm : 1 ≤ m) (hm2 : m ≤ 9223372036854775807) (hwd : 2 ≤ wd) (hwd2 : wd ≤ 9223372036854775807) :
    Calls Try.prog 11 #[.slice A l.length c, .int .i64 m, .int .i64 wd] w fun e w' => ∃ (A' : Option Addr) (c' : Nat), e = .returned (.tuple #[.slice A' (resolve (items l)).length c', .int .i64 ((passN wd (runsP l m).length : Nat) : Int), .int .i64 0]) ∧ Own w' w.heap.size 53 6 A' (resolve (items l)).length c' (vals ((resolve (items l)).map (·.c))) ∧ Below w.heap.size w w' := by
  have HM := Lib.hid (refMake8_ok A c l m w hl hlen hm hm2)
  have hrl : (resolve (items l)).length ≤ 1000000 := by have := resolve_len (items l); rw [items_length] at this; omega
  have HC := Lib.hid (fun (W : World) (A : Option Addr) (c : Nat) (h : Rd W W.heap.size A (its (resolve (items l)))) => cells_any A c (resolve (items l)) W h (by omega))
  have HA := Lib.hid (fun (W : World) (A : Option Addr) (n c : Nat) (h : LRd W W.heap.size A (runsP l m)) (hn : n = (runsP l m).length) (hc : n ≤ c) => show Calls Try.prog 20 #[.slice A n c, .int .i64 wd] W fun e w' => ∃ (A' : Option Addr) (c' : Nat), e = .returned (.tuple #[.slice A' (resolve (items l)).length c', .int .i64 ((passN wd (runsP l m).length : Nat) : Int), .int .i64 0]) ∧
      Rd w' w'.heap.size A' (its (resolve (items l))) ∧ Below W.heap.size W w' by
    subst hn
    have h1 := runs_count l m
    have h2 := runs_flat l hm
    have := refAll9_ok A c (runsP l m) wd W h (by omega) (by omega) hc hwd hwd2 (runs_sorted l m)
    rwa [runs_resolve l hm] at this)
  generalize passN wd (runsP l m).length = pn at HA ⊢
  obtain ⟨R, hR⟩ : ∃ R, resolve (items l) = R := ⟨_, rfl⟩
  rw [hR] at HA HC hrl ⊢
  obtain ⟨rl, hRl⟩ : ∃ rl, R.length = rl := ⟨_, rfl⟩
  rw [hRl] at HA HC hrl ⊢
  have hps : ∀ (w' : World) (A' : Option Addr) (n' c' : Nat) (vs : List Value), Own w' w.heap.size 40 1 A' n' c' vs → OLists 56 w' w.heap.size vs ((chunks m (items l)).map resolve) → LRd w' w'.heap.size A' (runsP l m) ∧ n' = (runsP l m).length ∧ n' ≤ c' := fun w' A' n' c' vs ho hi => by
    obtain ⟨h1, h2⟩ := OLists.lrd hi ho
    exact ⟨h1, h2, ho.cap⟩
  have HPS := Lib.hid hps
  clear hps hR hRl hl
  generalize l.length = n at HM ⊢
  go_enter Try.func11, Try.ntmps11
  go_wp2_with (first
    | (go_at_call 27; refine (HC.out w2 A2 c2 HO2.out).mono ?_; rintro e w3 ⟨A3, c3, rfl, ho3, hb3⟩)
    | (go_at_call 20; refine (HA.out w1 A1 n1 c1 HQ.out.1 HQ.out.2.1 HQ.out.2.2).mono ?_; rintro e w2 ⟨A2, c2, rfl, ho2, hb2⟩; have HO2 := Lib.hid ho2; clear ho2)
    | (go_at_call 26; refine HM.out.mono ?_; rintro e w1 ⟨A1, n1, c1, vs, rfl, ho1, hi1, hb1⟩; have HQ := Lib.hid (HPS.out w1 A1 n1 c1 vs ho1 hi1); clear ho1 hi1))
  go_ret3
  have hb := hb1.trans (hb2.mono hb1.size)
  exact ⟨A3, c3, rfl, ho3.lower hb.size, hb.trans (hb3.mono hb.size)⟩
/-- what sorting comes to, in one statement -/
def SrtPost (w : World) (l : List Cl) (m wd : Int) (e : Ending) (w' : World) : Prop := ∃ (A' : Option Addr) (c' : Nat), e = .returned (.tuple #[.slice A' (srtC l m wd).length c', .int .i64 ((srtN l m wd : Nat) : Int), .int .i64 (srtE m wd)]) ∧ Own w' w.heap.size 53 6 A' (srtC l m wd).length c' (vals (srtC l m wd)) ∧ Below w.heap.size w w'
theorem srt_bad {l : List Cl} {m wd : Int} (h : srtB m wd = false) : srtC l m wd = [] ∧ srtN l m wd = 0 ∧ srtE m wd = 1 := by
  unfold srtC srtN srtE
  rw [h]
  exact ⟨rfl, rfl, rfl⟩
theorem srt_good {l : List Cl} {m wd : Nat} (hm : 1 ≤ m) (hwd : 2 ≤ wd) : srtC l m wd = (resolve (items l)).map (·.c) ∧ srtN l m wd = passN wd (runsP l m).length ∧ srtE m wd = 0 := by
  have h : srtB m wd = true := decide_eq_true (by omega)
  unfold srtC srtN srtE
  rw [h]
  exact ⟨rfl, rfl, rfl⟩
theorem mergeSort_any (A : Option Addr) (c : Nat) (l : List Cl) (m wd : Int) (w : World) (hl : Rd w w.heap.size A (vals l)) (hlen : l.length ≤ 100000) (hm2 : m ≤ 9223372036854775807) (hwd2 : wd ≤ 9223372036854775807) :
    Calls Try.prog 10 #[.slice A l.length c, .int .i64 m, .int .i64 wd] w (SrtPost w l m wd) := by
  by_cases hm : m < 1
  · obtain ⟨h1, h2, h3⟩ := srt_bad (l := l) (show srtB m wd = false from decide_eq_false (by omega))
    refine (mergeSort_low A c l.length m wd w hm).mono ?_
    rintro e w' ⟨rfl, hb⟩
    unfold SrtPost
    rw [h1, h2, h3]
    exact ⟨none, 0, rfl, Own.nil, hb⟩
  · obtain ⟨k, rfl⟩ : ∃ k : Nat, m = k := ⟨m.toNat, by omega⟩
    by_cases hwd : wd < 2
    · obtain ⟨h1, h2, h3⟩ := srt_bad (l := l) (show srtB k wd = false from decide_eq_false (by omega))
      refine (mergeSort_thin A c l k wd w hl hlen (by omega) (by omega) hwd).mono ?_
      rintro e w' ⟨A', c', rfl, ho, hb⟩
      unfold SrtPost
      rw [h1, h2, h3]
      exact ⟨A', c', rfl, ho, hb⟩
    · obtain ⟨v, rfl⟩ : ∃ v : Nat, wd = v := ⟨wd.toNat, by omega⟩
      obtain ⟨h1, h2, h3⟩ := srt_good (l := l) (show 1 ≤ k by omega) (show 2 ≤ v by omega)
      refine (mergeSort_ok A c l k v w hl hlen (by omega) (by omega) (by omega) (by omega)).mono ?_
      rintro e w' ⟨A', c', rfl, ho, hb⟩
      unfold SrtPost
      rw [h1, h2, h3, List.length_map]
      exact ⟨A', c', rfl, ho, hb⟩
theorem refSort9_any (A : Option Addr) (c : Nat) (l : List Cl) (m wd : Int) (w : World) (hl : Rd w w.heap.size A (vals l)) (hlen : l.length ≤ 100000) (hm2 : m ≤ 9223372036854775807) (hwd2 : wd ≤ 9223372036854775807) :
    Calls Try.prog 11 #[.slice A l.length c, .int .i64 m, .int .i64 wd] w (SrtPost w l m wd) := by
  by_cases hm : m < 1
  · obtain ⟨h1, h2, h3⟩ := srt_bad (l := l) (show srtB m wd = false from decide_eq_false (by omega))
    refine (refSort9_low A c l.length m wd w hm).mono ?_
    rintro e w' ⟨rfl, hb⟩
    unfold SrtPost
    rw [h1, h2, h3]
    exact ⟨none, 0, rfl, Own.nil, hb⟩
  · obtain ⟨k, rfl⟩ : ∃ k : Nat, m = k := ⟨m.toNat, by omega⟩
    by_cases hwd : wd < 2
    · obtain ⟨h1, h2, h3⟩ := srt_bad (l := l) (show srtB k wd = false from decide_eq_false (by omega))
      refine (refSort9_thin A c l k wd w hl hlen (by omega) (by omega) hwd).mono ?_
      rintro e w' ⟨rfl, hb⟩
      unfold SrtPost
      rw [h1, h2, h3]
      exact ⟨none, 0, rfl, Own.nil, hb⟩
    · obtain ⟨v, rfl⟩ : ∃ v : Nat, wd = v := ⟨wd.toNat, by omega⟩
      obtain ⟨h1, h2, h3⟩ := srt_good (l := l) (show 1 ≤ k by omega) (show 2 ≤ v by omega)
      refine (refSort9_ok A c l k v w hl hlen (by omega) (by omega) (by omega) (by omega)).mono ?_
      rintro e w' ⟨A', c', rfl, ho, hb⟩
      unfold SrtPost
      rw [h1, h2, h3, List.length_map]
      exact ⟨A', c', rfl, ho, hb⟩
end Go.Proofs.Ytflppcgonbjnmaa
namespace Go.Proofs.Ytflppcgonbjnmaa
open Go.RowKit
attribute [local go_sem ↓] Go.wp_at_zero Go.wp_at_succ

theorem chunks_number {m : Nat} (hm : 1 ≤ m) : ∀ (n : Nat) (l : List It), l.length ≤ n → (chunks m l).length = (l.length + (m - 1)) / m
  | 0, l, hn => by
    have : l = [] := List.eq_nil_of_length_eq_zero (by omega)
    subst this
    rw [chunks_nil]
    exact (Nat.div_eq_of_lt (by simp; omega)).symm
  | n + 1, l, hn => by
    by_cases hl : l = []
    · subst hl
      rw [chunks_nil]
      exact (Nat.div_eq_of_lt (by simp; omega)).symm
    · have hpos : 0 < l.length := List.length_pos_iff.2 hl
      rw [chunks_cons hm hl, List.length_cons, chunks_number hm n (l.drop m) (by rw [List.length_drop]; omega), List.length_drop]
      by_cases h : m ≤ l.length
      · rw [show l.length + (m - 1) = (l.length - m + (m - 1)) + m by omega, Nat.add_div_right _ (by omega)]
      · rw [show l.length - m + (m - 1) = m - 1 by omega, Nat.div_eq_of_lt (by omega), show l.length + (m - 1) = (l.length - 1) + m by omega, Nat.add_div_right _ (by omega), Nat.div_eq_of_lt (by omega)]

def shownCells : List Cl := [⟨⟨#[99]⟩, ⟨#[120]⟩, 0, 0, false, ⟨#[]⟩⟩, ⟨⟨#[98]⟩, ⟨#[120]⟩, 0, 0, false, ⟨#[]⟩⟩, ⟨⟨#[97]⟩, ⟨#[120]⟩, 0, 0, false, ⟨#[]⟩⟩, ⟨⟨#[99]⟩, ⟨#[120]⟩, 0, 0, false, ⟨#[118]⟩⟩]
def shownOut : List Cl := [⟨⟨#[97]⟩, ⟨#[120]⟩, 0, 0, false, ⟨#[]⟩⟩, ⟨⟨#[98]⟩, ⟨#[120]⟩, 0, 0, false, ⟨#[]⟩⟩, ⟨⟨#[99]⟩, ⟨#[120]⟩, 0, 0, false, ⟨#[118]⟩⟩]
theorem shown_c : srtC shownCells 1 2 = shownOut := by kernel_rfl
theorem shown_e : srtE 1 2 = 0 := by kernel_rfl
theorem shown_n : srtN shownCells 1 2 = 2 := by
  have h : (runsP shownCells (1 : Int).toNat).length = 4 := by
    show ((chunks 1 (items shownCells)).map resolve).length = 4
    rw [List.length_map, chunks_number (Nat.le_refl 1) _ _ (Nat.le_refl _), items_length]
    rfl
  have h2 : srtB 1 2 = true := by kernel_rfl
  unfold srtN
  rw [h2, if_pos rfl, h, show (2 : Int).toNat = 2 from rfl, passN_more (by omega) (by omega), show (4 + 2 - 1) / 2 = 2 from rfl, passN_more (by omega) (by omega), show (2 + 2 - 1) / 2 = 1 from rfl, passN_le (by omega)]

set_option maxHeartbeats 4000000 in
theorem shown_any (w : World) :
    Calls Try.prog 9 #[] w fun e w' => e = .returned (.bool true) ∧ Below w.heap.size w w' := by
  obtain ⟨W1, hW1⟩ : ∃ W1, w.alloc (.cells #[.string ⟨#[99]⟩, .string ⟨#[120]⟩, .int .u64 0, .int .u64 0, .bool false, .string ⟨#[]⟩, .string ⟨#[98]⟩, .string ⟨#[120]⟩, .int .u64 0, .int .u64 0, .bool false, .string ⟨#[]⟩, .string ⟨#[97]⟩, .string ⟨#[120]⟩, .int .u64 0, .int .u64 0, .bool false, .string ⟨#[]⟩, .string ⟨#[99]⟩, .string ⟨#[120]⟩, .int .u64 0, .int .u64 0, .bool false, .string ⟨#[118]⟩] 53) = W1 := ⟨_, rfl⟩
  have hz1 : W1.heap.size = w.heap.size + 1 := by rw [← hW1, World.size_alloc]
  have hl1 : Rd W1 W1.heap.size (some ⟨w.heap.size, 0, none⟩) (vals shownCells) := by rw [hz1, ← hW1]; exact Rd.all w _ _ _ rfl
  have hB1 : Below w.heap.size w W1 := by rw [← hW1]; exact (Below.refl _ _).alloc (Nat.le_refl _) _
  have HW := Lib.hid hW1
  have hmk : Calls Try.prog 10 #[.slice (some ⟨w.heap.size, 0, none⟩) 4 4, .int .i64 1, .int .i64 2] W1 fun e w' => ∃ (A' : Option Addr) (c' : Nat), e = .returned (.tuple #[.slice A' 3 c', .int .i64 2, .int .i64 0]) ∧ Rd w' w'.heap.size A' (vals shownOut) ∧ Below W1.heap.size W1 w' := by
    refine (mergeSort_any (some ⟨w.heap.size, 0, none⟩) 4 shownCells 1 2 W1 hl1 (by decide) (by decide) (by decide)).mono ?_
    rintro e w' ⟨A', c', rfl, ho, hb⟩
    rw [shown_c] at ho ⊢
    rw [shown_n, shown_e]
    exact ⟨A', c', rfl, ho.rd (by decide), hb⟩
  have HMK := Lib.hid hmk
  have HB1 := Lib.hid hB1
  clear hW1 hmk hl1 hz1 hB1
  go_enter Try.func9, Try.ntmps9
  go_wp2_with (rw [HW.out]; go_at_call 10; refine HMK.out.mono ?_; rintro e w2 ⟨A1, c1, rfl, hr2, hb⟩
               obtain ⟨b, o, rfl, _, hc⟩ := hr2.at_ (vals_ne (k := 0) (by decide))
               obtain ⟨z0, z1, z2, z3, z4, z5⟩ := Rd.cell_at (_B := 0) hc 0 (by decide)
               obtain ⟨y0, y1, y2, y3, y4, y5⟩ := Rd.cell_at (_B := 0) hc 2 (by decide)
               simp only [shownOut, List.getElem_cons_zero, List.getElem_cons_succ, Nat.zero_mul, Nat.add_zero, Nat.reduceMul] at z0 y5
               have hB2 := Lib.hid (HB1.out.trans (hb.mono HB1.out.size))
               clear hb hc hr2 z1 z2 z3 z4 z5 y0 y1 y2 y3 y4)
  go_ret
  exact ⟨rfl, hB2.out⟩
/-- what sorting comes to, its numbers abstract -/
theorem srt_abs (l : List Cl) (m wd : Int) (hlen : l.length ≤ 100000) (hm2 : m ≤ 9223372036854775807) (hwd2 : wd ≤ 9223372036854775807) : ∃ (C : List Cl) (cn : Nat) (pn : Int) (er : Int), srtC l m wd = C ∧ (srtN l m wd : Int) = pn ∧ srtE m wd = er ∧ C.length = cn ∧ cn ≤ l.length ∧
    (∀ A c W, Rd W W.heap.size A (vals l) → Calls Try.prog 10 #[.slice A l.length c, .int .i64 m, .int .i64 wd] W fun e w' => ∃ (A' : Option Addr) (c' : Nat), e = .returned (.tuple #[.slice A' cn c', .int .i64 pn, .int .i64 er]) ∧ Rd w' w'.heap.size A' (vals C) ∧ Below W.heap.size W w') ∧
    (∀ A c W, Rd W W.heap.size A (vals l) → Calls Try.prog 11 #[.slice A l.length c, .int .i64 m, .int .i64 wd] W fun e w' => ∃ (A' : Option Addr) (c' : Nat), e = .returned (.tuple #[.slice A' cn c', .int .i64 pn, .int .i64 er]) ∧ Rd w' w'.heap.size A' (vals C) ∧ Below W.heap.size W w') := by
  have h1 := srtC_len l m wd
  refine ⟨_, _, _, _, rfl, rfl, rfl, rfl, h1, fun A c W h => ?_, fun A c W h => ?_⟩
  · refine (mergeSort_any A c l m wd W h hlen hm2 hwd2).mono ?_
    rintro e w' ⟨A', c', rfl, ho, hb⟩
    exact ⟨A', c', rfl, ho.rd (by omega), hb⟩
  · refine (refSort9_any A c l m wd W h hlen hm2 hwd2).mono ?_
    rintro e w' ⟨A', c', rfl, ho, hb⟩
    exact ⟨A', c', rfl, ho.rd (by omega), hb⟩
end Go.Proofs.Ytflppcgonbjnmaa
namespace Go.Proofs.Ytflppcgonbjnmaa
open Go.RowKit
attribute [local go_sem ↓] Go.wp_at_zero Go.wp_at_succ

set_option maxHeartbeats 4000000 in
theorem mergeSorts_any (A : Option Addr) (c : Nat) (l : List Cl) (m wd : Int) (w : World) (hl : Rd w w.heap.size A (vals l)) (hlen : l.length ≤ maxLen) (hm2 : m ≤ 9223372036854775807) (hwd2 : wd ≤ 9223372036854775807) :
    Calls Try.prog 3 #[.slice A l.length c, .int .i64 m, .int .i64 wd] w fun e w' => e = .returned (.bool true) ∧ Below w.heap.size w w' := by
  have HBD := Lib.hid (bounded_any A c l w _ hl hlen)
  have HL := Lib.hid hl
  cases hb : bnd l with
  | false =>
    rw [hb] at HBD
    generalize l.length = n at HBD ⊢
    clear hl hb
    go_enter Try.func3, Try.ntmps3
    go_wp2_with (first
      | (go_at_call 8; refine HBD.out.mono ?_; rintro e w1 ⟨rfl, rfl⟩)
      | (go_at_call 9; refine (shown_any _).mono ?_; rintro e w2 ⟨rfl, hb2⟩))
    go_ret
    exact ⟨rfl, hb2⟩
  | true =>
    rw [hb] at HBD
    have h80 := bnd_len hb
    obtain ⟨C, cn, pn, er, -, -, -, hC, hcn, hs1, hs2⟩ := srt_abs l m wd (by omega) hm2 hwd2
    have HS1 := Lib.hid hs1
    have HS2 := Lib.hid hs2
    obtain ⟨N, hN⟩ : ∃ N, l.length = N := ⟨_, rfl⟩
    rw [hN] at HBD HS1 HS2 hcn h80 ⊢
    have HSC := Lib.hid (fun (W : World) (A B : Option Addr) (c d : Nat) h k => sameCells_any A B c d C C W W.heap.size h k (by unfold maxLen; omega) (by unfold maxLen; omega))
    rw [hC, decide_eq_true (show C = C from rfl)] at HSC
    have hpp : (pn == pn) = true := beq_self_eq_true _
    have hee : (er == er) = true := beq_self_eq_true _
    clear hs1 hs2 hl hb hN hC hlen
    go_enter Try.func3, Try.ntmps3
    go_wp2_with (first
      | (go_at_call 12; refine (HSC.out w4 A3 A4 c3 c4 HR3.out HR4.out).mono ?_; rintro e w5 ⟨rfl, n5, rfl⟩)
      | (go_at_call 11; refine (HS2.out A c w3 ((HL.out.below HB3.out).more HB3.out.size)).mono ?_; rintro e w4 ⟨A4, c4, rfl, hr4, hb4⟩; have HR3 := Lib.hid ((hr3.below hb4).more hb4.size); have HR4 := Lib.hid hr4; have HB4 := Lib.hid (HB3.out.trans (hb4.mono HB3.out.size)); clear hr3 hr4 hb4)
      | (go_at_call 10; refine (HS1.out A c w2 ((HL.out.below HB2.out).more HB2.out.size)).mono ?_; rintro e w3 ⟨A3, c3, rfl, hr3, hb3⟩; have HB3 := Lib.hid (HB2.out.trans (hb3.mono HB2.out.size)); clear hb3)
      | (go_at_call 9; refine (shown_any _).mono ?_; rintro e w2 ⟨rfl, hb2⟩; have HB2 := Lib.hid hb2; clear hb2)
      | (go_at_call 8; refine HBD.out.mono ?_; rintro e w1 ⟨rfl, rfl⟩))
    go_ret
    exact ⟨rfl, below_drewN' HB4.out n5⟩
theorem ceil_half {w n : Nat} (hw : 2 ≤ w) : (n + w - 1) / w ≤ (n + 1) / 2 := by
  rcases Nat.eq_zero_or_pos n with rfl | hn
  · rw [Nat.div_eq_of_lt (by omega)]
    exact Nat.zero_le _
  · have h1 : (n + w - 1) / w = (n - 1) / w + 1 := by
      rw [show n + w - 1 = (n - 1) + w by omega, Nat.add_div_right _ (by omega)]
    have h2 : (n + 1) / 2 = (n - 1) / 2 + 1 := by omega
    rw [h1, h2]
    have := Nat.div_le_div_left hw (show 0 < 2 by omega) (a := n - 1)
    omega
theorem passN_pow {w : Nat} (hw : 2 ≤ w) : ∀ (k n : Nat), n ≤ 2 ^ k → passN w n ≤ k
  | 0, n, h => by rw [passN_le (by simpa using h)]; exact Nat.le_refl _
  | k + 1, n, h => by
    by_cases h2 : 2 ≤ n
    · rw [passN_more hw h2]
      have h3 := ceil_half (n := n) hw
      have h4 : (n + 1) / 2 ≤ 2 ^ k := by rw [Nat.pow_succ] at h; omega
      have := passN_pow hw k _ (Nat.le_trans h3 h4)
      omega
    · rw [passN_le (by omega)]; omega
set_option maxHeartbeats 4000000 in
theorem mergeAlike_any (A : Option Addr) (c : Nat) (l : List Cl) (xa xb xc xd : Nat) (w : World) (hl : Rd w w.heap.size A (vals l)) (hlen : l.length ≤ maxLen) (ha : xa ≤ 255) (hb' : xb ≤ 255) (hc : xc ≤ 255) (hd : xd ≤ 255) :
    Calls Try.prog 5 #[.slice A l.length c, .int .u8 xa, .int .u8 xb, .int .u8 xc, .int .u8 xd] w fun e w' => e = .returned (.bool true) ∧ Below w.heap.size w w' := by
  have HBD := Lib.hid (bounded_any A c l w _ hl hlen)
  have HL := Lib.hid hl
  cases hb : bnd l with
  | false =>
    rw [hb] at HBD
    generalize l.length = n at HBD ⊢
    clear hl hb
    go_enter Try.func5, Try.ntmps5
    go_wp2_with (first
      | (go_at_call 8; refine HBD.out.mono ?_; rintro e w1 ⟨rfl, rfl⟩)
      | (go_at_call 9; refine (shown_any _).mono ?_; rintro e w2 ⟨rfl, hb2⟩))
    go_ret
    exact ⟨rfl, hb2⟩
  | true =>
    rw [hb] at HBD
    have h80 := bnd_len hb
    obtain ⟨a2, h1a⟩ : ∃ a2, xa % 100 = a2 := ⟨_, rfl⟩
    obtain ⟨b2, h1b⟩ : ∃ b2, xb % 10 = b2 := ⟨_, rfl⟩
    obtain ⟨c2, h1c⟩ : ∃ c2, xc % 100 = c2 := ⟨_, rfl⟩
    obtain ⟨d2, h1d⟩ : ∃ d2, xd % 10 = d2 := ⟨_, rfl⟩
    have ka : a2 < 100 := by rw [← h1a]; exact Nat.mod_lt _ (by omega)
    have kb : b2 < 10 := by rw [← h1b]; exact Nat.mod_lt _ (by omega)
    have kc : c2 < 100 := by rw [← h1c]; exact Nat.mod_lt _ (by omega)
    have kd : d2 < 10 := by rw [← h1d]; exact Nat.mod_lt _ (by omega)
    have ra1 : (xa : Int) % 100 = (a2 : Int) := by rw [← h1a]; rfl
    have ra2 : Int.tmod (xa : Int) 100 = (a2 : Int) := by rw [← h1a]; rfl
    have rb1 : (xb : Int) % 10 = (b2 : Int) := by rw [← h1b]; rfl
    have rb2 : Int.tmod (xb : Int) 10 = (b2 : Int) := by rw [← h1b]; rfl
    have rc1 : (xc : Int) % 100 = (c2 : Int) := by rw [← h1c]; rfl
    have rc2 : Int.tmod (xc : Int) 100 = (c2 : Int) := by rw [← h1c]; rfl
    have rd1 : (xd : Int) % 10 = (d2 : Int) := by rw [← h1d]; rfl
    have rd2 : Int.tmod (xd : Int) 10 = (d2 : Int) := by rw [← h1d]; rfl
    have wa : IntKind.i64.wrap (1 + (a2 : Int)) = ((a2 + 1 : Nat) : Int) := by rw [IntWalk.i64_in _ (by omega)]; omega
    have wb : IntKind.i64.wrap (2 + (b2 : Int)) = ((b2 + 2 : Nat) : Int) := by rw [IntWalk.i64_in _ (by omega)]; omega
    have wc : IntKind.i64.wrap (1 + (c2 : Int)) = ((c2 + 1 : Nat) : Int) := by rw [IntWalk.i64_in _ (by omega)]; omega
    have wd : IntKind.i64.wrap (2 + (d2 : Int)) = ((d2 + 2 : Nat) : Int) := by rw [IntWalk.i64_in _ (by omega)]; omega
    obtain ⟨C, cn, pn, er, hC1, hp1, he1, hC, hcn, hs1, -⟩ := srt_abs l ((a2 + 1 : Nat) : Int) ((b2 + 2 : Nat) : Int) (by omega) (by omega) (by omega)
    obtain ⟨C', cn', pn', er', hC1', hp1', he1', hC', hcn', hs2, -⟩ := srt_abs l ((c2 + 1 : Nat) : Int) ((d2 + 2 : Nat) : Int) (by omega) (by omega) (by omega)
    obtain ⟨g1, g2, g3⟩ := srt_good (l := l) (show 1 ≤ a2 + 1 by omega) (show 2 ≤ b2 + 2 by omega)
    obtain ⟨g1', g2', g3'⟩ := srt_good (l := l) (show 1 ≤ c2 + 1 by omega) (show 2 ≤ d2 + 2 by omega)
    rw [g1] at hC1
    rw [g1'] at hC1'
    rw [g2] at hp1
    rw [g2'] at hp1'
    rw [g3] at he1
    rw [g3'] at he1'
    subst he1 he1'
    have hq1 := passN_pow (show 2 ≤ b2 + 2 by omega) 7 (runsP l (a2 + 1)).length (by have := runs_count l (a2 + 1); omega)
    have hq2 := passN_pow (show 2 ≤ d2 + 2 by omega) 7 (runsP l (c2 + 1)).length (by have := runs_count l (c2 + 1); omega)
    have hCC : C' = C := by rw [← hC1, ← hC1']
    subst hCC
    have hcc : cn' = cn := by rw [← hC, ← hC']
    subst hcc
    have y1 : decide ((0 : Int) ≤ pn) = true := decide_eq_true (by omega)
    have y2 : decide ((0 : Int) ≤ pn') = true := decide_eq_true (by omega)
    have y3 : decide (pn ≤ (7 : Int)) = true := decide_eq_true (by omega)
    have y4 : decide (pn' ≤ (7 : Int)) = true := decide_eq_true (by omega)
    have HS1 := Lib.hid hs1
    have HS2 := Lib.hid hs2
    obtain ⟨N, hN⟩ : ∃ N, l.length = N := ⟨_, rfl⟩
    rw [hN] at HBD HS1 HS2 hcn h80 ⊢
    have HSC := Lib.hid (fun (W : World) (A B : Option Addr) (c d : Nat) h k => sameCells_any A B c d C' C' W W.heap.size h k (by unfold maxLen; omega) (by unfold maxLen; omega))
    rw [hC, decide_eq_true (show C' = C' from rfl)] at HSC
    clear hs1 hs2 hl hb hN hC hC' hlen hp1 hp1' hq1 hq2 hC1 hC1' g1 g2 g3 g1' g2' g3' h1a h1b h1c h1d hcn'
    go_enter Try.func5, Try.ntmps5
    go_wp2_with (first
      | (go_at_call 12; refine (HSC.out w4 A3 A4 c3 c4 HR3.out HR4.out).mono ?_; rintro e w5 ⟨rfl, n5, rfl⟩)
      | (go_at_call 10; have M := HB3; clear M; refine (HS2.out A c w3 ((HL.out.below HB3.out).more HB3.out.size)).mono ?_; rintro e w4 ⟨A4, c4, rfl, hr4, hb4⟩; have HR3 := Lib.hid ((hr3.below hb4).more hb4.size); have HR4 := Lib.hid hr4; have HB4 := Lib.hid (HB3.out.trans (hb4.mono HB3.out.size)); clear hr3 hr4 hb4)
      | (go_at_call 10; have M := HB2; clear M; refine (HS1.out A c w2 ((HL.out.below HB2.out).more HB2.out.size)).mono ?_; rintro e w3 ⟨A3, c3, rfl, hr3, hb3⟩; have HB3 := Lib.hid (HB2.out.trans (hb3.mono HB2.out.size)); clear hb3)
      | (go_at_call 9; refine (shown_any _).mono ?_; rintro e w2 ⟨rfl, hb2⟩; have HB2 := Lib.hid hb2; clear hb2)
      | (go_at_call 8; refine HBD.out.mono ?_; rintro e w1 ⟨rfl, rfl⟩))
    go_ret
    exact ⟨rfl, below_drewN' HB4.out n5⟩
end Go.Proofs.Ytflppcgonbjnmaa
