/-
  The walks: runs.Make with no memory; the reference's Make. The walks of the reference's sorted, and Group, of lists of items (layer 9). The walk of the reference's Pass (layer 9). The walk of the reference's All (layer 9). No conditions.
-/
import Derived.Test.YtflppcgonbjnmaaRefResolve8
import Derived.Test.YtflppcgonbjnmaaGroup9
import Derived.Test.YtflppcgonbjnmaaJI
namespace Go.Proofs.Ytflppcgonbjnmaa
open Go.RowKit Go.Shelf
attribute [local go_sem ↓] Go.wp_at_zero Go.wp_at_succ
attribute [local go_sem] Oper.semAt_some

set_option maxRecDepth 100000 in
set_option maxHeartbeats 1000000 in
theorem make_bad (A : Option Addr) (c n : Nat) (m : Int) (w : World) (hm : m < 1) :
    Calls Try.prog 25 #[.slice A n c, .int .i64 m] w fun e w' => e = .returned (.tuple #[.slice none 0 0, .int .i64 1]) ∧ Below w.heap.size w w' := by
  refine (callsIn_wide (n := 9)).1 ?_
  refine callsIn_of_wp_marks Try.func25 rfl trivial ?_ rfl
  simp only [Try.ntmps25, List.size_toArray, List.length_cons, List.length_nil, Nat.reduceAdd, Nat.reduceSub, Array.replicate_succ, Array.replicate_zero, List.push_toArray, List.append_toArray, List.nil_append, List.cons_append]
  have hmd : decide (m < 1) = true := decide_eq_true hm
  have hB0 : Below w.heap.size w (w.alloc (.cells #[.slice none 0 0] 30)) := (Below.refl _ _).alloc (Nat.le_refl _) _
  have hx1 : Box (w.alloc (.cells #[.slice none 0 0] 30)) w.heap.size 30 (.slice none 0 0) := Box.new w _ _
  gi_wp2
  have hc := (hx1.set (.slice none 0 0)).cell
  refine ⟨_, by rw [results_cell_tmp rfl]; go_simp, rfl, ?_⟩
  first | exact hB0.setCell (Nat.le_refl _) _ | exact hB0

attribute [-go_sem] Oper.semAt_some
/-- slices of elements of type e that own rows, each with its list of items -/
def OLists (e : TypeId) (w : World) (base : Nat) (vs : List Value) (ps : List (List It)) : Prop :=
  vs.length = ps.length ∧ ∀ i (h : i < vs.length) (h' : i < ps.length), ∃ (A : Option Addr) (c : Nat), vs[i] = .slice A ps[i].length c ∧ Own w base e 7 A ps[i].length c (its ps[i])
section
variable {e : TypeId} {w w' : World} {base base' : Nat} {vs : List Value} {ps : List (List It)}
theorem OLists.nil : OLists e w base [] [] := ⟨rfl, fun i h => absurd h (by simp)⟩
theorem OLists.keep (h : OLists e w base vs ps) (hk : ∀ A n c xs, Own w base e 7 A n c xs → Own w' base e 7 A n c xs) : OLists e w' base vs ps :=
  ⟨h.1, fun i hi hi' => by
    obtain ⟨A, c, e, ho⟩ := h.2 i hi hi'
    exact ⟨A, c, e, hk _ _ _ _ ho⟩⟩
theorem OLists.below (h : OLists e w base vs ps) (hb : Below w.heap.size w w') : OLists e w' base vs ps := h.keep fun _ _ _ _ ho => ho.below hb
theorem OLists.snoc (h : OLists e w base vs ps) {A : Option Addr} {n c : Nat} {p : List It} (ho : Own w base e 7 A n c (its p)) (hn : p.length = n) : OLists e w base (vs ++ [.slice A n c]) (ps ++ [p]) := by
  subst hn
  exact ⟨by simp [h.1], fun i hi hi' => by
    by_cases e : i < vs.length
    · obtain ⟨A', c', e', ho'⟩ := h.2 i e (by rw [← h.1]; exact e)
      exact ⟨A', c', by rw [List.getElem_append_left e, e', List.getElem_append_left (by rw [← h.1]; exact e)], by rw [List.getElem_append_left (by rw [← h.1]; exact e)]; exact ho'⟩
    · have hi0 : i = vs.length := by simp at hi; omega
      subst hi0
      refine ⟨A, c, ?_, ?_⟩
      · rw [List.getElem_append_right (Nat.le_refl _), List.getElem_append_right (by rw [h.1]; exact Nat.le_refl _)]
        simp [h.1]
      · rw [List.getElem_append_right (by rw [h.1]; exact Nat.le_refl _)]
        simp [h.1]
        exact ho⟩
end
def lenV : Value → Nat
  | .slice _ n _ => n
  | _ => 0
theorem chunks_step {m i e : Nat} {L : List It} (hm : 1 ≤ m) (hi : i < L.length) (he : min m (L.length - i) = e) : chunks m (L.drop i) = (L.drop i).take e :: chunks m (L.drop (i + e)) := by
  have hne : L.drop i ≠ [] := by
    intro h
    have := congrArg List.length h
    rw [List.length_drop] at this
    simp at this
    omega
  rw [chunks_cons hm hne, List.drop_drop]
  by_cases hc : m ≤ L.length - i
  · rw [show e = m by omega]
  · rw [List.take_of_length_le (by rw [List.length_drop]; omega), List.take_of_length_le (by rw [List.length_drop]; omega)]
    rw [List.drop_of_length_le (show L.length ≤ i + m by omega), List.drop_of_length_le (show L.length ≤ i + e by omega)]

set_option maxHeartbeats 4000000 in
theorem refMake8_bad (A : Option Addr) (c n : Nat) (m : Int) (w : World) (hm : m < 1) :
    Calls Try.prog 26 #[.slice A n c, .int .i64 m] w fun e w' => e = .returned (.tuple #[.slice none 0 0, .int .i64 1]) ∧ Below w.heap.size w w' := by
  have hmd : decide (m < 1) = true := decide_eq_true hm
  go_enter Try.func26, Try.ntmps26
  go_wp2
  go_ret2
  exact ⟨rfl, Below.refl _ _⟩

set_option maxHeartbeats 8000000 in
theorem refMake8_ok (A : Option Addr) (c : Nat) (l : List Cl) (m : Nat) (w : World) (hl : Rd w w.heap.size A (vals l)) (hlen : l.length ≤ 100000) (hm : 1 ≤ m) (hm2 : m ≤ 9223372036854775807) :
    Calls Try.prog 26 #[.slice A l.length c, .int .i64 m] w fun e w' => ∃ (A' : Option Addr) (n' c' : Nat) (vs : List Value), e = .returned (.tuple #[.slice A' n' c', .int .i64 0]) ∧
      Own w' w.heap.size 40 1 A' n' c' vs ∧ OLists 56 w' w.heap.size vs ((chunks m (items l)).map resolve) ∧ Below w.heap.size w w' := by
  obtain ⟨i0, hi0, hz0, hz1, hz2⟩ := info_parts refItemsInfo
  obtain ⟨j0, hj0, jz0, jz1, jz2⟩ := info_parts refItemInfo
  have hit := fun (W : World) (h : Rd W W.heap.size A (vals l)) => refItems_any A c l W h (by omega)
  obtain ⟨L, hL⟩ : ∃ L, items l = L := ⟨_, rfl⟩
  have hLN : l.length = L.length := by rw [← hL, items_length]
  rw [hL] at hit ⊢
  obtain ⟨N, hN⟩ : ∃ N, L.length = N := ⟨_, rfl⟩
  rw [hLN, hN] at hit hlen ⊢
  clear hL hLN
  have hmd : decide ((m : Int) < 1) = false := decide_eq_false (by omega)
  have hmd2 : ¬ m = 0 := by omega
  have hl0 := (hl.alloc (Nat.le_refl _) (.cells #[] 40)).more (show w.heap.size ≤ (w.alloc (.cells #[] 40)).heap.size by rw [World.size_alloc]; omega)
  have hn0 := Own.new0' w 40 1
  have hB0 := (Below.refl w.heap.size w).alloc (Nat.le_refl _) (.cells #[] 40)
  go_enter Try.func26, Try.ntmps26
  go_wp2_with fail
  go_at_call 42
  refine (hit _ hl0).mono ?_
  rintro e w1 ⟨A1, c1, rfl, ho1, hb1⟩
  have hb01 := hB0.trans (hb1.mono hB0.size)
  have hn1 := hn0.below hb1
  have ho1 := ho1.lower hB0.size
  have hcap : N ≤ c1 := by
    rcases ho1.2 with ⟨hv, hn⟩ | ⟨_, _, _, hv, _, _, h3, _⟩
    · omega
    · injection hv with _ _ hc
      omega
  have HO1 := Lib.hid ho1
  have HN1 := Lib.hid hn1
  have HB1 := Lib.hid hb01
  clear hit hl0 hn0 hB0 hb1 ho1 hn1 hb01 hl
  go_wp2_with fail
  go_loopw [6, 7] (fun vo vr wr => ∃ (i r : Nat) (Ao : Option Addr) (no co : Nat) (vs : List Value) (ps : List (List It)) (Ar : Option Addr) (cr : Nat), vo = .slice Ao no co ∧ vr = .slice Ar r cr ∧ i + r = N ∧ r ≤ cr ∧ no ≤ i ∧ Hid (Own wr w.heap.size 40 1 Ao no co vs) ∧ Hid (OLists 56 wr w.heap.size vs ps) ∧ Hid (ps ++ (chunks m (L.drop i)).map resolve = (chunks m L).map resolve) ∧ Hid (Own wr w.heap.size 56 7 A1 N c1 (its L)) ∧ Hid (∀ W : World, Rd W W.heap.size A1 (its L) → Rd W W.heap.size Ar (its (L.drop i))) ∧ Hid (Below w.heap.size w wr)) (fun _ vr _ => lenV vr)
  case atStart => exact ⟨0, N, _, 0, 0, [], [], A1, c1, rfl, rfl, by omega, hcap, Nat.le_refl _, HN1, Lib.hid OLists.nil, Lib.hid rfl, HO1, Lib.hid fun W h => h, HB1⟩
  case round =>
    clear HN1 HO1 HB1
    obtain ⟨i, r, Ao, no, co, vs, ps, Ar, cr, rfl, rfl, hir, hrc, hni, HO, HL, HPS, HI, HR, HB⟩ := hrel
    by_cases hr : 0 < r
    · obtain ⟨e, he⟩ : ∃ e, min m r = e := ⟨_, rfl⟩
      have hstep := chunks_step (L := L) (i := i) (e := e) hm (by omega) (by rw [hN, show N - i = r by omega]; exact he)
      have e1 : decide ((0 : Int) < (r : Int)) = true := decide_eq_true (by omega)
      have e2 : decide (0 < r) = true := decide_eq_true hr
      have hmin1 : (if r < m then (r : Int) else (m : Int)) = (e : Int) := by split <;> omega
      have hmin2 : (if (r : Int) < (m : Int) then (r : Int) else (m : Int)) = (e : Int) := by split <;> omega
      have her : e ≤ r := by omega
      have he1 : 1 ≤ e := by omega
      have hsl1 := fun W => run_front (P := Try.prog) (t := 40) (e := 56) (size := 7) Try.underlying40 hj0 jz1 Ar r cr e (by omega) W
      have hsl2 := fun W => run_tail (P := Try.prog) (t := 40) (e := 56) (size := 7) Try.underlying40 hj0 jz1 Ar r cr e (by omega) W
      obtain ⟨At, hAt⟩ : ∃ At, tailA Ar cr e 7 = At := ⟨_, rfl⟩
      obtain ⟨r', hr'⟩ : ∃ r', r - e = r' := ⟨_, rfl⟩
      obtain ⟨cr', hcr'⟩ : ∃ cr', cr - e = cr' := ⟨_, rfl⟩
      rw [hr', hcr'] at hsl2
      have hdl : (L.drop i).length = r := by rw [List.length_drop]; omega
      have htl : ((L.drop i).take e).length = e := by rw [List.length_take]; omega
      have hres := fun (W : World) (h : Rd W W.heap.size A1 (its L)) => refResolve8_any Ar cr ((L.drop i).take e) W ((HR.out W h).frontR It.vals_len (by omega)) (by omega)
      rw [htl] at hres
      obtain ⟨R, hR⟩ : ∃ R, resolve ((L.drop i).take e) = R := ⟨_, rfl⟩
      rw [hR] at hres
      have hRl : R.length ≤ e := by have := resolve_len ((L.drop i).take e); rw [hR, htl] at this; exact this
      obtain ⟨k, hk⟩ : ∃ k, R.length = k := ⟨_, rfl⟩
      rw [hk] at hres hRl
      have HPS2 : Hid ((ps ++ [R]) ++ (chunks m (L.drop (i + e))).map resolve = (chunks m L).map resolve) := Lib.hid (by
        have := HPS.out
        rw [hstep, List.map_cons, hR] at this
        rw [← this, List.append_assoc]
        rfl)
      have HR2 : Hid (∀ W : World, Rd W W.heap.size A1 (its L) → Rd W W.heap.size At (its (L.drop (i + e)))) := Lib.hid fun W h => by
        have h1 := (HR.out W h).tailR It.vals_len hdl hrc her
        rwa [hAt, List.drop_drop] at h1
      have HK := Lib.hid hk
      have hvl := Own.vals_len' HO.out
      have hno : no ≤ 100000 := by omega
      rw [hAt] at hsl2
      clear hstep hR hdl htl hAt hk HR
      go_wp2_with (first
        | (go_at_call 37; refine (hres _ (HI.out.rd (by omega))).mono ?_; rintro e w2 ⟨A2, c2, rfl, ho2, hb2⟩
           have hown2 := Own.alloc (Own.below HO.out hb2) (.cells #[.slice A2 k c2] 40)
           have hsz2 : w.heap.size ≤ w2.heap.size := Nat.le_trans HB.out.size hb2.size)
        | (at_builtin; go_loud (refine wpList_app _ rfl _ _ _ rfl w.heap.size 40 i0 (.slice none 0 0) 1 24 Try.underlying33 hi0 hz0 hz1 hz2 rfl (by decide) Ao no co vs rfl hown2 (w2.heap.size + 1) (some ⟨w2.heap.size, 0, none⟩) 1 1 [.slice A2 k c2] rfl (Rd.new1 _ _ _) rfl (by simp [Value.oneCell']) (by unfold maxLen; omega) (by omega) (by rw [World.size_alloc]; omega) ?_); intro A5 c5 w3 ho3 hg3 hat3
           have hI2 := Own.alloc (Own.below HI.out hb2) (.cells #[.slice A2 k c2] 40)
           have HI3 := Lib.hid (hI2.grown hg3 (Own.type_ne' hI2 hown2 (by decide)))
           have hL2 := (HL.out.below hb2).snoc (Own.lower ho2 HB.out.size) HK.out
           have HL3 := Lib.hid (hL2.keep fun A n c xs ho => (Own.alloc ho (.cells #[.slice A2 k c2] 40)).grown hg3 (Own.type_ne' (Own.alloc ho (.cells #[.slice A2 k c2] 40)) hown2 (by decide)))
           have hB2 := HB.out.trans (hb2.mono HB.out.size)
           have HB3 := Lib.hid (hown2.grow (hB2.alloc hsz2 (.cells #[.slice A2 k c2] 40)) (by rw [World.size_alloc]; omega) (Nat.le_refl _) hg3)
           have HO3 := Lib.hid ho3
           clear ho3 hg3 hat3 hI2 hL2 hB2 hown2))
      exact ⟨⟨i + e, r', A5, no + 1, c5, vs ++ [.slice A2 k c2], ps ++ [R], At, cr', rfl, rfl, by omega, by omega, by omega, HO3, HL3, HPS2, HI3, HR2, HB3⟩, by simp [lenV]; omega⟩
    · have e1 : decide ((0 : Int) < (r : Int)) = false := decide_eq_false (by omega)
      have e2 : decide (0 < r) = false := decide_eq_false hr
      have HF := Lib.hid (show ps = (chunks m L).map resolve by
        have := HPS.out
        rwa [List.drop_of_length_le (by omega), chunks_nil, List.map_nil, List.append_nil] at this)
      go_wp2_with fail
      go_ret2
      exact ⟨Ao, no, co, vs, rfl, HO.out, by rw [← HF.out]; exact HL.out, HB.out⟩
end Go.Proofs.Ytflppcgonbjnmaa
namespace Go.Proofs.Ytflppcgonbjnmaa
open Go.RowKit
attribute [local go_sem ↓] Go.wp_at_zero Go.wp_at_succ

theorem its_app' (l m : List It) : its (l ++ m) = its l ++ its m := List.flatMap_append
theorem flatten_take {ps : List (List It)} {i : Nat} (h : i < ps.length) : its (ps.take i).flatten ++ its ps[i] = its (ps.take (i + 1)).flatten := by
  rw [List.take_succ_eq_append_getElem h, List.flatten_append, ← its_app']
  simp
theorem flatten_take_len {α : Type} {ps : List (List α)} {i : Nat} (h : i < ps.length) : (ps.take i).flatten.length + ps[i].length ≤ ps.flatten.length := by
  have e : ps = ps.take i ++ ps[i] :: ps.drop (i + 1) := by
    rw [← List.drop_eq_getElem_cons h, List.take_append_drop]
  conv => rhs; rw [e]
  rw [List.flatten_append, List.flatten_cons, List.length_append, List.length_append]
  omega
theorem mem_flat_len {α : Type} {ps : List (List α)} {m : Nat} (h : ps.flatten.length ≤ m) : ∀ r ∈ ps, r.length ≤ m := fun r hr => by
  obtain ⟨s, t, rfl⟩ := List.append_of_mem hr
  simp at h
  omega

set_option maxHeartbeats 2000000 in
theorem refSorted9_any (w : World) (A : Option Addr) (c : Nat) (L : List (List It)) (hl : LRd w w.heap.size A L) (hlen : shortL L) :
    Calls Try.prog 30 #[.slice A L.length c] w fun e w' => e = .returned (.bool (sortedL L)) ∧ Below w.heap.size w w' := by
  have HL := Lib.hid hl
  obtain ⟨N, hN⟩ : ∃ N, L.length = N := ⟨_, rfl⟩
  have HN := Lib.hid hN
  have hlen1 := hlen.1
  have HS := Lib.hid hlen.2
  have HUA := Lib.hid (uns_any L)
  rw [hN] at hlen1 ⊢
  clear hl hN hlen
  go_enter Try.func30, Try.ntmps30
  go_wp2
  go_loopw [3] (fun vi wr => ∃ k : Nat, k ≤ N ∧ vi = .int .i64 (k : Int) ∧ Hid (noneTo unsB L k) ∧ Hid (Below w.heap.size w wr)) (fun vi _ => N - (intOf vi).toNat)
  case atStart => exact ⟨0, Nat.zero_le _, rfl, Lib.hid (noneTo.zero unsB L), Lib.hid (Below.refl _ _)⟩
  case round =>
    obtain ⟨k, hk, rfl, HU, HB⟩ := hrel
    by_cases hlt : k < N
    · have hkl : k < L.length := by rw [HN.out]; exact hlt
      have e1 : decide ((k : Int) < (N : Int)) = true := decide_eq_true (by omega)
      have k1 : (0 : Int) ≤ (k : Int) := by omega
      have k2 : (k : Int) < (N : Int) := by omega
      have hw3 : IntKind.i64.wrap ((k : Int) + 1) = ((k + 1 : Nat) : Int) := by rw [IntWalk.i64_in _ (by omega)]; omega
      obtain ⟨b, o, A', c', rfl, hb, hc, hc', hr⟩ := (HL.out.below HB.out).get hkl
      have HC := Lib.hid (fun W h => refSorted8_any A' c' (L[k]'hkl) W h (HS.out _ (List.getElem_mem hkl)))
      have HR := Lib.hid hr
      have HS2 := Lib.hid (fun h => HU.out.succ hkl h)
      have HH := Lib.hid (fun h => noneTo.hit (q := unsB) hkl h)
      obtain ⟨x, hx⟩ : ∃ x, L[k] = x := ⟨_, rfl⟩
      rw [hx] at HS2 HH HC hc HR
      obtain ⟨n, hn⟩ : ∃ n, x.length = n := ⟨_, rfl⟩
      rw [hn] at hc HC
      clear hx hn hc' hr
      have hsu : sortedB x = !unsB x := by unfold unsB; rw [Bool.not_not]
      rw [hsu] at HC
      clear hsu
      cases hqx : unsB x with
      | true =>
        rw [hqx] at HC
        have HF := Lib.hid (show false = sortedL L by rw [← HUA.out, HH.out hqx]; rfl)
        go_wp2_with (go_at_call 47; refine (HC.out _ (HR.out.more HB.out.size)).mono ?_; rintro e w2 ⟨rfl, hb2⟩)
        go_ret
        exact ⟨ret_bool HF.out, HB.out.trans (hb2.mono HB.out.size)⟩
      | false =>
        rw [hqx] at HC
        have HF := Lib.hid (HS2.out hqx)
        go_wp2_with (go_at_call 47; refine (HC.out _ (HR.out.more HB.out.size)).mono ?_; rintro e w2 ⟨rfl, hb2⟩)
        exact ⟨⟨k + 1, by omega, by first | rfl | go_num, HF, Lib.hid (HB.out.trans (hb2.mono HB.out.size))⟩, by simp [intOf]; omega⟩
    · have e1 : decide ((k : Int) < (N : Int)) = false := decide_eq_false (by omega)
      have HF := Lib.hid (show true = sortedL L by rw [← HUA.out, HU.out.miss (by rw [HN.out]; omega)]; rfl)
      go_wp2
      go_ret
      exact ⟨ret_bool HF.out, HB.out⟩

set_option maxHeartbeats 4000000 in
theorem refGroup9_any (A : Option Addr) (c0 : Nat) (L : List (List It)) (w : World) (hl : LRd w w.heap.size A L) (hL : L.length ≤ 100000) (hF : L.flatten.length ≤ 1000000) :
    Calls Try.prog 22 #[.slice A L.length c0] w fun e w' => ∃ (A' : Option Addr) (c' : Nat), e = .returned (.slice A' (groupP L).length c') ∧ Own w' w.heap.size 56 7 A' (groupP L).length c' (its (groupP L)) ∧ Below w.heap.size w w' := by
  obtain ⟨i0, hi0, hz0, hz1, hz2⟩ := info_parts refItemInfo
  have HSO := Lib.hid (fun W (h : LRd W W.heap.size A L) => refSorted9_any W A c0 L h ⟨by omega, mem_flat_len hF⟩)
  have HFT := Lib.hid (fun (i : Nat) (h : i < L.length) => flatten_take_len h)
  obtain ⟨N, hN⟩ : ∃ N, L.length = N := ⟨_, rfl⟩
  have HN := Lib.hid hN
  have HL := Lib.hid hl
  rw [hN] at HSO hL ⊢
  clear hl hN
  cases hs : sortedL L with
  | false =>
    rw [hs] at HSO
    have hg : groupP L = [] := by unfold groupP; rw [hs]; rfl
    rw [hg]
    clear hs hg
    go_enter Try.func22, Try.ntmps22
    go_wp2_with (go_at_call 30; refine (HSO.out _ HL.out).mono ?_; rintro e w1 ⟨rfl, hb1⟩)
    go_ret
    exact ⟨none, 0, rfl, Own.nil, hb1⟩
  | true =>
    rw [hs] at HSO
    have hg : groupP L = resolve L.flatten := by unfold groupP; rw [hs]; rfl
    have HG := Lib.hid hg
    clear hs hg
    go_enter Try.func22, Try.ntmps22
    go_wp2_with (go_at_call 30; refine (HSO.out _ HL.out).mono ?_; rintro e w1 ⟨rfl, hb1⟩)
    have HO0 := Lib.hid ((Own.new0' w1 56 7).lower hb1.size)
    have HB0 := Lib.hid (hb1.alloc hb1.size (.cells #[] 56))
    clear hb1
    go_loopw [3, 4] (fun vo vi wr => ∃ (i no co : Nat) (Ao : Option Addr), i ≤ N ∧ vo = .slice Ao no co ∧ vi = .int .i64 (i : Int) ∧ Hid (Own wr w.heap.size 56 7 Ao no co (its (L.take i).flatten)) ∧ Hid (Below w.heap.size w wr)) (fun _ vi _ => N - (intOf vi).toNat)
    case atStart => exact ⟨0, 0, 0, _, Nat.zero_le _, rfl, rfl, HO0, HB0⟩
    case round =>
      clear HO0 HB0
      obtain ⟨i, no, co, Ao, hi, rfl, rfl, HO, HB⟩ := hrel
      have hnl : (L.take i).flatten.length = no := by have := HO.out.1; rw [its_len] at this; omega
      by_cases hlt : i < N
      · have hil : i < L.length := by rw [HN.out]; exact hlt
        have hft := HFT.out i hil
        rw [hnl] at hft
        obtain ⟨b, o, A', c', rfl, hb, hc, hc', hr⟩ := (HL.out.below HB.out).get hil
        have HFL := Lib.hid (flatten_take hil)
        have HR := Lib.hid hr
        obtain ⟨p, hp⟩ : ∃ p, L[i] = p := ⟨_, rfl⟩
        rw [hp] at HFL HR hft hc
        have hp7 : (its p).length = p.length * 7 := its_len p
        obtain ⟨n3, hn3⟩ : ∃ n3, p.length = n3 := ⟨_, rfl⟩
        rw [hn3] at hft hc hp7
        have e1 : decide ((i : Int) < (N : Int)) = true := decide_eq_true (by omega)
        have k1 : (0 : Int) ≤ (i : Int) := by omega
        have k2 : (i : Int) < (N : Int) := by omega
        have hw3 : IntKind.i64.wrap ((i : Int) + 1) = ((i + 1 : Nat) : Int) := by rw [IntWalk.i64_in _ (by omega)]; omega
        clear hr hp hn3 hc' hnl
        go_wp2_with (first
          | (at_builtin; go_loud (refine wpList_app _ rfl _ _ _ rfl w.heap.size 56 i0 zeroItem 7 80 Try.underlying40 hi0 hz0 hz1 hz2 rfl (by decide) _ _ _ _ rfl HO.out _ _ n3 _ (its p) rfl (HR.out.more HB.out.size) hp7 (its_one _) (by unfold maxLen; omega) (by omega) HB.out.size ?_); intro A5 c5 w5 ho5 hg5 hat5
             rw [HFL.out] at ho5
             have HO5 := Lib.hid ho5
             have HB5 := Lib.hid (HO.out.grow HB.out HB.out.size (Nat.le_refl _) hg5)
             clear ho5 hg5 hat5))
        exact ⟨⟨i + 1, no + n3, c5, A5, by omega, rfl, by first | rfl | go_num, HO5, HB5⟩, by simp [intOf]; omega⟩
      · have e1 : decide ((i : Int) < (N : Int)) = false := decide_eq_false (by omega)
        have hfl : (L.take i).flatten = L.flatten := by rw [List.take_of_length_le (by rw [HN.out]; omega)]
        rw [hfl] at hnl HO
        have HRS := Lib.hid (refResolve8_any Ao co L.flatten wr (HO.out.rd (by omega)) hF)
        rw [hnl, ← HG.out] at HRS
        clear hfl hnl
        go_wp2_with (go_at_call 37; refine HRS.out.mono ?_; rintro e w2 ⟨A2, c2, rfl, ho2, hb2⟩)
        go_ret
        exact ⟨A2, c2, rfl, ho2.lower HB.out.size, HB.out.trans (hb2.mono HB.out.size)⟩
end Go.Proofs.Ytflppcgonbjnmaa
namespace Go.Proofs.Ytflppcgonbjnmaa
open Go.RowKit
attribute [local go_sem ↓] Go.wp_at_zero Go.wp_at_succ

theorem LRd.tailR {W : World} {B : Nat} {A : Option Addr} {L : List (List It)} (h : LRd W B A L) {n c i : Nat} (hn : L.length = n) (hc : n ≤ c) (hi : i ≤ n) : LRd W B (tailA A c i 1) (L.drop i) := by
  by_cases e : c = i
  · rw [List.drop_of_length_le (by omega)]
    exact LRd.nil
  · unfold tailA
    rw [if_neg e]
    have h1 := h.drop i
    simpa only [Nat.mul_one] using h1
theorem OLists.lrd {e : TypeId} {w : World} {base n c : Nat} {A : Option Addr} {vs : List Value} {ps : List (List It)} (h : OLists e w base vs ps) (ho : Own w base 40 1 A n c vs) : LRd w w.heap.size A ps ∧ n = ps.length :=
  ⟨⟨vs, h.1, ho.rd (by omega), fun k hk => by
    obtain ⟨A', c', e, ho'⟩ := h.2 k (by rw [h.1]; exact hk) hk
    refine ⟨A', c', by rw [List.getElem?_eq_getElem (by rw [h.1]; exact hk), e], ?_, ho'.rd (by omega)⟩
    rcases ho'.2 with ⟨hv, hn⟩ | ⟨_, _, _, hv, _, _, h3, _⟩
    · omega
    · injection hv with _ _ hc
      omega⟩, by rw [← h.1, ← ho.vals_len']⟩
theorem chunksL_step {m i e : Nat} {L : List (List It)} (hm : 1 ≤ m) (hi : i < L.length) (he : min m (L.length - i) = e) : chunksL m (L.drop i) = (L.drop i).take e :: chunksL m (L.drop (i + e)) := by
  have hne : L.drop i ≠ [] := by
    intro h
    have := congrArg List.length h
    rw [List.length_drop] at this
    simp at this
    omega
  rw [chunksL_cons hm hne, List.drop_drop]
  by_cases hc : m ≤ L.length - i
  · rw [show e = m by omega]
  · rw [List.take_of_length_le (by rw [List.length_drop]; omega), List.take_of_length_le (by rw [List.length_drop]; omega)]
    rw [List.drop_of_length_le (show L.length ≤ i + m by omega), List.drop_of_length_le (show L.length ≤ i + e by omega)]
theorem sorted_part {L : List (List It)} (h : sortedL L = true) (i e : Nat) : groupP ((L.drop i).take e) = resolve ((L.drop i).take e).flatten := by
  unfold groupP
  have : sortedL ((L.drop i).take e) = true := by
    unfold sortedL at h ⊢
    rw [List.all_eq_true] at h ⊢
    intro r hr
    exact h r (List.mem_of_mem_drop (List.mem_of_mem_take hr))
  rw [this]
  rfl
theorem part_flat (L : List (List It)) (i e : Nat) : ((L.drop i).take e).flatten.length ≤ L.flatten.length := by
  have h : L = L.take i ++ ((L.drop i).take e ++ (L.drop i).drop e) := by rw [List.take_append_drop, List.take_append_drop]
  conv => rhs; rw [h]
  rw [List.flatten_append, List.flatten_append, List.length_append, List.length_append]
  omega

set_option maxHeartbeats 1000000 in
theorem refPass9_low (A : Option Addr) (n c : Nat) (m : Int) (w : World) (hm : m < 2) :
    Calls Try.prog 16 #[.slice A n c, .int .i64 m] w fun e w' => e = .returned (.tuple #[.slice none 0 0, .int .i64 1]) ∧ Below w.heap.size w w' := by
  have hmd : decide (m < 2) = true := decide_eq_true hm
  go_enter Try.func16, Try.ntmps16
  go_wp2
  go_ret2
  exact ⟨rfl, Below.refl _ _⟩
set_option maxHeartbeats 1000000 in
theorem refPass9_uns (A : Option Addr) (c : Nat) (L : List (List It)) (m : Int) (w : World) (hl : LRd w w.heap.size A L) (hsh : shortL L) (hm : 2 ≤ m) (hs : sortedL L = false) :
    Calls Try.prog 16 #[.slice A L.length c, .int .i64 m] w fun e w' => e = .returned (.tuple #[.slice none 0 0, .int .i64 40]) ∧ Below w.heap.size w w' := by
  have HSO := Lib.hid (refSorted9_any w A c L hl hsh)
  rw [hs] at HSO
  have hmd : decide (m < 2) = false := decide_eq_false (by omega)
  generalize L.length = n at HSO ⊢
  go_enter Try.func16, Try.ntmps16
  go_wp2_with (go_at_call 30; refine HSO.out.mono ?_; rintro e w1 ⟨rfl, hb1⟩)
  go_ret2
  exact ⟨rfl, hb1⟩
set_option maxHeartbeats 8000000 in
theorem refPass9_ok (A : Option Addr) (c : Nat) (L : List (List It)) (m : Nat) (w : World) (hl : LRd w w.heap.size A L) (hlen : L.length ≤ 100000) (hF : L.flatten.length ≤ 1000000) (hcap : L.length ≤ c) (hm : 2 ≤ m) (hm2 : m ≤ 9223372036854775807) (hs : sortedL L = true) :
    Calls Try.prog 16 #[.slice A L.length c, .int .i64 m] w fun e w' => ∃ (A' : Option Addr) (n' c' : Nat) (vs : List Value), e = .returned (.tuple #[.slice A' n' c', .int .i64 0]) ∧
      Own w' w.heap.size 40 1 A' n' c' vs ∧ OLists 56 w' w.heap.size vs (passP m L) ∧ Below w.heap.size w w' := by
  obtain ⟨i0, hi0, hz0, hz1, hz2⟩ := info_parts refItemsInfo
  have HSO := Lib.hid (refSorted9_any w A c L hl ⟨by omega, mem_flat_len hF⟩)
  rw [hs] at HSO
  have HGP := Lib.hid (sorted_part hs)
  have HPF := Lib.hid (fun i e => Nat.le_trans (part_flat L i e) hF)
  have HLW := Lib.hid hl
  obtain ⟨N, hN⟩ : ∃ N, L.length = N := ⟨_, rfl⟩
  have HN := Lib.hid hN
  rw [hN] at HSO hlen hcap ⊢
  have hmd : decide ((m : Int) < 2) = false := decide_eq_false (by omega)
  clear hl hs
  go_enter Try.func16, Try.ntmps16
  go_wp2_with (go_at_call 30; refine HSO.out.mono ?_; rintro e w1 ⟨rfl, hb1⟩)
  have HN1 := Lib.hid ((Own.new0' w1 40 1).lower hb1.size)
  have HB1 := Lib.hid (hb1.alloc hb1.size (.cells #[] 40))
  clear hb1
  go_loopw [6, 0] (fun vo vr wr => ∃ (i r : Nat) (Ao : Option Addr) (no co : Nat) (vs : List Value) (ps : List (List It)) (Ar : Option Addr) (cr : Nat), vo = .slice Ao no co ∧ vr = .slice Ar r cr ∧ i + r = N ∧ r ≤ cr ∧ no ≤ i ∧ Hid (Own wr w.heap.size 40 1 Ao no co vs) ∧ Hid (OLists 56 wr w.heap.size vs ps) ∧ Hid (ps ++ (chunksL m (L.drop i)).map (fun p => resolve p.flatten) = passP m L) ∧ Hid (∀ W : World, LRd W w.heap.size A L → LRd W w.heap.size Ar (L.drop i)) ∧ Hid (Below w.heap.size w wr)) (fun _ vr _ => lenV vr)
  case atStart => exact ⟨0, N, _, 0, 0, [], [], A, c, rfl, rfl, by omega, hcap, Nat.le_refl _, HN1, Lib.hid OLists.nil, Lib.hid rfl, Lib.hid fun W h => h, HB1⟩
  case round =>
    clear HN1 HB1
    obtain ⟨i, r, Ao, no, co, vs, ps, Ar, cr, rfl, rfl, hir, hrc, hni, HO, HL, HPS, HR, HB⟩ := hrel
    by_cases hr : 0 < r
    · obtain ⟨e, he⟩ : ∃ e, min m r = e := ⟨_, rfl⟩
      have hstep := chunksL_step (L := L) (m := m) (i := i) (e := e) (by omega) (by omega) (by rw [hN, show N - i = r by omega]; exact he)
      have e1 : decide ((0 : Int) < (r : Int)) = true := decide_eq_true (by omega)
      have e2 : decide (0 < r) = true := decide_eq_true hr
      have hmin1 : (if r < m then (r : Int) else (m : Int)) = (e : Int) := by split <;> omega
      have hmin2 : (if (r : Int) < (m : Int) then (r : Int) else (m : Int)) = (e : Int) := by split <;> omega
      have her : e ≤ r := by omega
      have he1 : 1 ≤ e := by omega
      have hsl1 := fun W => run_front (P := Try.prog) (t := 33) (e := 40) (size := 1) Try.underlying33 hi0 hz1 Ar r cr e (by omega) W
      have hsl2 := fun W => run_tail (P := Try.prog) (t := 33) (e := 40) (size := 1) Try.underlying33 hi0 hz1 Ar r cr e (by omega) W
      obtain ⟨At, hAt⟩ : ∃ At, tailA Ar cr e 1 = At := ⟨_, rfl⟩
      obtain ⟨r', hr'⟩ : ∃ r', r - e = r' := ⟨_, rfl⟩
      obtain ⟨cr', hcr'⟩ : ∃ cr', cr - e = cr' := ⟨_, rfl⟩
      rw [hr', hcr'] at hsl2
      have hdl : (L.drop i).length = r := by rw [List.length_drop]; omega
      have htl : ((L.drop i).take e).length = e := by rw [List.length_take]; omega
      have hres := fun (W : World) (h : Below w.heap.size w W) => refGroup9_any Ar cr ((L.drop i).take e) W (((HR.out W (HLW.out.below h)).take e).more h.size) (by omega) (HPF.out i e)
      rw [htl, HGP.out i e] at hres
      obtain ⟨R, hR⟩ : ∃ R, resolve ((L.drop i).take e).flatten = R := ⟨_, rfl⟩
      rw [hR] at hres
      have hRl : R.length ≤ 1000000 := by have := resolve_len ((L.drop i).take e).flatten; have := HPF.out i e; rw [hR] at *; omega
      obtain ⟨k, hk⟩ : ∃ k, R.length = k := ⟨_, rfl⟩
      rw [hk] at hres hRl
      have HPS2 : Hid ((ps ++ [R]) ++ (chunksL m (L.drop (i + e))).map (fun p => resolve p.flatten) = passP m L) := Lib.hid (by
        have := HPS.out
        rw [hstep, List.map_cons, hR] at this
        rw [← this, List.append_assoc]
        rfl)
      have HR2 : Hid (∀ W : World, LRd W w.heap.size A L → LRd W w.heap.size At (L.drop (i + e))) := Lib.hid fun W h => by
        have h1 := (HR.out W h).tailR hdl hrc her
        rwa [hAt, List.drop_drop] at h1
      have HK := Lib.hid hk
      have hvl := Own.vals_len' HO.out
      have hno : no ≤ 100000 := by omega
      rw [hAt] at hsl2
      clear hstep hR hdl htl hAt hk HR
      go_wp2_with (first
        | (go_at_call 22; refine (hres _ HB.out).mono ?_; rintro e w2 ⟨A2, c2, rfl, ho2, hb2⟩
           have hown2 := Own.alloc (Own.below HO.out hb2) (.cells #[.slice A2 k c2] 40)
           have hsz2 : w.heap.size ≤ w2.heap.size := Nat.le_trans HB.out.size hb2.size)
        | (at_builtin; go_loud (refine wpList_app _ rfl _ _ _ rfl w.heap.size 40 i0 (.slice none 0 0) 1 24 Try.underlying33 hi0 hz0 hz1 hz2 rfl (by decide) Ao no co vs rfl hown2 (w2.heap.size + 1) (some ⟨w2.heap.size, 0, none⟩) 1 1 [.slice A2 k c2] rfl (Rd.new1 _ _ _) rfl (by simp [Value.oneCell']) (by unfold maxLen; omega) (by omega) (by rw [World.size_alloc]; omega) ?_); intro A5 c5 w3 ho3 hg3 hat3
           have hL2 := (HL.out.below hb2).snoc (Own.lower ho2 HB.out.size) HK.out
           have HL3 := Lib.hid (hL2.keep fun A n c xs ho => (Own.alloc ho (.cells #[.slice A2 k c2] 40)).grown hg3 (Own.type_ne' (Own.alloc ho (.cells #[.slice A2 k c2] 40)) hown2 (by decide)))
           have hB2 := HB.out.trans (hb2.mono HB.out.size)
           have HB3 := Lib.hid (hown2.grow (hB2.alloc hsz2 (.cells #[.slice A2 k c2] 40)) (by rw [World.size_alloc]; omega) (Nat.le_refl _) hg3)
           have HO3 := Lib.hid ho3
           clear ho3 hg3 hat3 hL2 hB2 hown2))
      exact ⟨⟨i + e, r', A5, no + 1, c5, vs ++ [.slice A2 k c2], ps ++ [R], At, cr', rfl, rfl, by omega, by omega, by omega, HO3, HL3, HPS2, HR2, HB3⟩, by simp [lenV]; omega⟩
    · have e1 : decide ((0 : Int) < (r : Int)) = false := decide_eq_false (by omega)
      have e2 : decide (0 < r) = false := decide_eq_false hr
      have HF := Lib.hid (show ps = passP m L by
        have := HPS.out
        rwa [List.drop_of_length_le (by omega), chunksL_nil, List.map_nil, List.append_nil] at this)
      go_wp2_with fail
      go_ret2
      exact ⟨Ao, no, co, vs, rfl, HO.out, by rw [← HF.out]; exact HL.out, HB.out⟩
end Go.Proofs.Ytflppcgonbjnmaa
namespace Go.Proofs.Ytflppcgonbjnmaa
open Go.RowKit
attribute [local go_sem ↓] Go.wp_at_zero Go.wp_at_succ

theorem AllW.nextR {w wr w' : World} {m : Nat} {L : List (List It)} {A : Option Addr} {n c : Nat} {M : List (List It)} {k : Nat} (h : AllW w wr m L A n c M k) (hm : 2 ≤ m) (h2 : 2 ≤ n) {A' : Option Addr} {n' c' : Nat} {vs : List Value} (ho : Own w' wr.heap.size 40 1 A' n' c' vs) (hi : OLists 56 w' wr.heap.size vs (passP m M)) (hb : Below wr.heap.size wr w') :
    AllW w w' m L A' n' c' (passP m M) (k + 1) ∧ n' < n := by
  obtain ⟨h3, h4⟩ := hi.lrd ho
  have hn := h.hn
  have h5 := ceil_lt hm (show 2 ≤ M.length by omega)
  have h6 := pass_len (show 1 ≤ m by omega) M
  exact ⟨⟨h3, h4.symm, ho.cap, h.ai.next hm (by omega), Nat.le_trans (pass_flat (by omega) M) h.fl, h.be.trans (hb.mono h.be.size)⟩, by omega⟩
set_option maxHeartbeats 1000000 in
theorem refAll9_low (A : Option Addr) (n c : Nat) (m : Int) (w : World) (hm : m < 2) :
    Calls Try.prog 20 #[.slice A n c, .int .i64 m] w fun e w' => e = .returned (.tuple #[.slice none 0 0, .int .i64 0, .int .i64 1]) ∧ Below w.heap.size w w' := by
  have hmd : decide (m < 2) = true := decide_eq_true hm
  go_enter Try.func20, Try.ntmps20
  go_wp2
  go_ret3
  exact ⟨rfl, Below.refl _ _⟩
set_option maxHeartbeats 1000000 in
theorem refAll9_uns (A : Option Addr) (c : Nat) (L : List (List It)) (m : Int) (w : World) (hl : LRd w w.heap.size A L) (hsh : shortL L) (hm : 2 ≤ m) (hs : sortedL L = false) :
    Calls Try.prog 20 #[.slice A L.length c, .int .i64 m] w fun e w' => e = .returned (.tuple #[.slice none 0 0, .int .i64 0, .int .i64 40]) ∧ Below w.heap.size w w' := by
  have HSO := Lib.hid (refSorted9_any w A c L hl hsh)
  rw [hs] at HSO
  have hmd : decide (m < 2) = false := decide_eq_false (by omega)
  generalize L.length = n at HSO ⊢
  go_enter Try.func20, Try.ntmps20
  go_wp2_with (go_at_call 30; refine HSO.out.mono ?_; rintro e w1 ⟨rfl, hb1⟩)
  go_ret3
  exact ⟨rfl, hb1⟩
set_option maxRecDepth 20000 in
set_option maxHeartbeats 4000000 in
theorem refAll9_ok (A : Option Addr) (c : Nat) (L : List (List It)) (m : Nat) (w : World) (hl : LRd w w.heap.size A L) (hL : L.length ≤ 100000) (hF : L.flatten.length ≤ 1000000) (hcap : L.length ≤ c) (hm : 2 ≤ m) (hm2 : m ≤ 9223372036854775807) (hs : sortedL L = true) :
    Calls Try.prog 20 #[.slice A L.length c, .int .i64 m] w fun e w' => ∃ (A' : Option Addr) (c' : Nat), e = .returned (.tuple #[.slice A' (resolve L.flatten).length c', .int .i64 ((passN m L.length : Nat) : Int), .int .i64 0]) ∧
      Rd w' w'.heap.size A' (its (resolve L.flatten)) ∧ Below w.heap.size w w' := by
  have HSO := Lib.hid (refSorted9_any w A c L hl ⟨by omega, mem_flat_len hF⟩)
  rw [hs] at HSO
  have HW0 := Lib.hid (show AllW w w m L A L.length c L 0 from ⟨hl, rfl, hcap, AllI.start hs, Nat.le_refl _, Below.refl _ _⟩)
  obtain ⟨N, hN⟩ : ∃ N, L.length = N := ⟨_, rfl⟩
  have HN := Lib.hid hN
  have hmd : decide ((m : Int) < 2) = false := decide_eq_false (by omega)
  rw [hN] at HSO HW0 hL ⊢
  clear hl hN hcap hs
  go_enter Try.func20, Try.ntmps20
  go_wp2_with (go_at_call 30; refine HSO.out.mono ?_; rintro e w1 ⟨rfl, hb1⟩; have HW1 := Lib.hid (show AllW w w1 m L A N c L 0 from ⟨(HW0.out.rd.below hb1).more hb1.size, HN.out, HW0.out.hc, HW0.out.ai, Nat.le_refl _, hb1⟩); clear hb1)
  go_loopw [0, 7] (fun v0 v7 wr => ∃ A n c M k, v0 = .slice A n c ∧ v7 = .int .i64 ((k : Nat) : Int) ∧ Hid (AllW w wr m L A n c M k)) (fun v0 _ _ => sliceLen v0)
  case atStart => exact ⟨A, N, c, L, 0, rfl, rfl, HW1⟩
  case round =>
    clear HW0 HSO HW1
    obtain ⟨A2, n, c2, M, k, rfl, rfl, HW⟩ := hrel
    rename World => wr
    have HNM := Lib.hid HW.out.hn
    have HKL := Lib.hid (HW.out.ai.len hm)
    have HNL := Lib.hid (show n ≤ N by have h1 := HW.out.ai.le; have h2 := HW.out.hn; have h3 := HN.out; omega)
    by_cases h2 : 2 ≤ n
    · have e1 : decide ((1 : Int) < (n : Int)) = true := decide_eq_true (by omega)
      have e2 : 1 < n := by omega
      have hwk : IntKind.i64.wrap ((k : Int) + 1) = ((k + 1 : Nat) : Int) := by have h1 := HKL.out; have h3 := HN.out; rw [IntWalk.i64_in _ (by omega)]; omega
      have hp := refPass9_ok A2 c2 M m wr HW.out.rd (by have h1 := HNM.out; have h3 := HNL.out; omega) (Nat.le_trans HW.out.fl hF) (by rw [HNM.out]; exact HW.out.hc) hm hm2 HW.out.ai.so
      rw [HNM.out] at hp
      have HP := Lib.hid hp
      clear hp
      go_wp2_with (go_at_call 16; refine HP.out.mono ?_; rintro e w2 ⟨A3, n3, c3, vs, rfl, ho, hi, hb2⟩; obtain ⟨h8, h9⟩ := HW.out.nextR hm h2 ho hi hb2; have HF := Lib.hid h8; have HLT := Lib.hid h9; clear h8 h9 ho hi hb2)
      exact ⟨⟨A3, n3, c3, _, k + 1, rfl, by first | rfl | go_num, HF⟩, HLT.out⟩
    · have e1 : decide ((1 : Int) < (n : Int)) = false := decide_eq_false (by omega)
      have e2 : ¬ 1 < n := by omega
      by_cases h0 : n = 0
      · subst h0
        have hM : M = [] := List.eq_nil_of_length_eq_zero HNM.out
        have hL0 : L = [] := by
          by_cases h : L = []
          · exact h
          · exact absurd hM (HW.out.ai.ne h)
        subst hL0
        have hk : k = 0 := by have := HKL.out; simpa using this
        have hN0 : N = 0 := by have := HN.out; simpa using this.symm
        subst hk
        subst hN0
        have HB := Lib.hid HW.out.be
        clear HW HN HNM HKL HNL
        go_wp2
        go_ret3
        exact ⟨none, 0, by rw [passN_le (by omega)]; rfl, Rd.nil, HB.out⟩
      · have h1 : n = 1 := by omega
        subst h1
        have hLn : L ≠ [] := by
          rintro rfl
          have h3 := HW.out.ai.le
          have h4 := HNM.out
          simp at h3
          rw [h3] at h4
          simp at h4
        obtain ⟨hM, hk⟩ := HW.out.ai.one (by have := HNM.out; omega) hLn
        subst hM
        subst hk
        obtain ⟨b, o, A4, c4, rfl, hb, hc, hc4, hr⟩ := HW.out.rd.get (k := 0) (by simp)
        simp only [List.getElem_cons_zero, Nat.add_zero] at hc hc4 hr
        have HB := Lib.hid HW.out.be
        have HR := Lib.hid hr
        rw [HN.out]
        obtain ⟨rl, hrl⟩ : ∃ rl, (resolve L.flatten).length = rl := ⟨_, rfl⟩
        have HRL := Lib.hid hrl
        rw [hrl] at hc
        clear hr hc4 hrl
        go_wp2
        go_ret3
        exact ⟨A4, c4, by rw [HRL.out]; rfl, HR.out, HB.out⟩
end Go.Proofs.Ytflppcgonbjnmaa
