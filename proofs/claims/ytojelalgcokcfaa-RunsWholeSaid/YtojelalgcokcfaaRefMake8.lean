/-
  The walks: runs.Make with no memory; the reference's Make.
-/
import Derived.Test.YtojelalgcokcfaaRefResolve8
namespace Go.Proofs.Ytojelalgcokcfaa
open Go.RowKit Go.Shelf
attribute [local go_sem ↓] Go.wp_at_zero Go.wp_at_succ
attribute [local go_sem] Oper.semAt_some

set_option maxRecDepth 100000 in
set_option maxHeartbeats 1000000 in
theorem make_bad (A : Option Addr) (c n : Nat) (m : Int) (w : World) (hm : m < 1) :
    Calls Try.prog 10 #[.slice A n c, .int .i64 m] w fun e w' => e = .returned (.tuple #[.slice none 0 0, .int .i64 1]) ∧ Below w.heap.size w w' := by
  refine (callsIn_wide (n := 9)).1 ?_
  refine callsIn_of_wp_marks Try.func10 rfl trivial ?_ rfl
  simp only [Try.ntmps10, List.size_toArray, List.length_cons, List.length_nil, Nat.reduceAdd, Nat.reduceSub, Array.replicate_succ, Array.replicate_zero, List.push_toArray, List.append_toArray, List.nil_append, List.cons_append]
  have hmd : decide (m < 1) = true := decide_eq_true hm
  have hB0 : Below w.heap.size w (w.alloc (.cells #[.slice none 0 0] 25)) := (Below.refl _ _).alloc (Nat.le_refl _) _
  have hx1 : Box (w.alloc (.cells #[.slice none 0 0] 25)) w.heap.size 25 (.slice none 0 0) := Box.new w _ _
  gi_wp2
  have hc := (hx1.set (.slice none 0 0)).cell
  refine ⟨_, by rw [results_cell_tmp rfl]; go_simp, rfl, ?_⟩
  first | exact hB0.setCell (Nat.le_refl _) _ | exact hB0

attribute [-go_sem] Oper.semAt_some
/-- slices of elements of type e that own rows, each with its list of items -/
def OLists (e : TypeId) (w : World) (base : Nat) (vs : List Value) (ps : List (List It)) : Prop :=
  vs.length = ps.length ∧ ∀ i (h : i < vs.length) (h' : i < ps.length), ∃ (A : Option Addr) (c : Nat), vs[i] = .slice A ps[i].length c ∧ Own w base e 7 A ps[i].length c (its ps[i])
section
variable {e : TypeId} {w w' : World} {base base' : Nat} {vs : List Value} {ps : List (List It)}
theorem OLists.nil : OLists e w base [] [] := ⟨rfl, fun i h => absurd h (by simp)⟩
theorem OLists.keep (h : OLists e w base vs ps) (hk : ∀ A n c xs, Own w base e 7 A n c xs → Own w' base e 7 A n c xs) : OLists e w' base vs ps :=
  ⟨h.1, fun i hi hi' => by
    obtain ⟨A, c, e, ho⟩ := h.2 i hi hi'
    exact ⟨A, c, e, hk _ _ _ _ ho⟩⟩
theorem OLists.below (h : OLists e w base vs ps) (hb : Below w.heap.size w w') : OLists e w' base vs ps := h.keep fun _ _ _ _ ho => ho.below hb
theorem OLists.snoc (h : OLists e w base vs ps) {A : Option Addr} {n c : Nat} {p : List It} (ho : Own w base e 7 A n c (its p)) (hn : p.length = n) : OLists e w base (vs ++ [.slice A n c]) (ps ++ [p]) := by
  subst hn
  exact ⟨by simp [h.1], fun i hi hi' => by
    by_cases e : i < vs.length
    · obtain ⟨A', c', e', ho'⟩ := h.2 i e (by rw [← h.1]; exact e)
      exact ⟨A', c', by rw [List.getElem_append_left e, e', List.getElem_append_left (by rw [← h.1]; exact e)], by rw [List.getElem_append_left (by rw [← h.1]; exact e)]; exact ho'⟩
    · have hi0 : i = vs.length := by simp at hi; omega
      subst hi0
      refine ⟨A, c, ?_, ?_⟩
      · rw [List.getElem_append_right (Nat.le_refl _), List.getElem_append_right (by rw [h.1]; exact Nat.le_refl _)]
        simp [h.1]
      · rw [List.getElem_append_right (by rw [h.1]; exact Nat.le_refl _)]
        simp [h.1]
        exact ho⟩
end
def lenV : Value → Nat
  | .slice _ n _ => n
  | _ => 0
theorem chunks_step {m i e : Nat} {L : List It} (hm : 1 ≤ m) (hi : i < L.length) (he : min m (L.length - i) = e) : chunks m (L.drop i) = (L.drop i).take e :: chunks m (L.drop (i + e)) := by
  have hne : L.drop i ≠ [] := by
    intro h
    have := congrArg List.length h
    rw [List.length_drop] at this
    simp at this
    omega
  rw [chunks_cons hm hne, List.drop_drop]
  by_cases hc : m ≤ L.length - i
  · rw [show e = m by omega]
  · rw [List.take_of_length_le (by rw [List.length_drop]; omega), List.take_of_length_le (by rw [List.length_drop]; omega)]
    rw [List.drop_of_length_le (show L.length ≤ i + m by omega), List.drop_of_length_le (show L.length ≤ i + e by omega)]

set_option maxHeartbeats 4000000 in
theorem refMake8_bad (A : Option Addr) (c n : Nat) (m : Int) (w : World) (hm : m < 1) :
    Calls Try.prog 11 #[.slice A n c, .int .i64 m] w fun e w' => e = .returned (.tuple #[.slice none 0 0, .int .i64 1]) ∧ Below w.heap.size w w' := by
  have hmd : decide (m < 1) = true := decide_eq_true hm
  go_enter Try.func11, Try.ntmps11
  go_wp2
  go_ret2
  exact ⟨rfl, Below.refl _ _⟩

set_option maxHeartbeats 8000000 in
theorem refMake8_ok (A : Option Addr) (c : Nat) (l : List Cl) (m : Nat) (w : World) (hl : Rd w w.heap.size A (vals l)) (hlen : l.length ≤ 100000) (hm : 1 ≤ m) (hm2 : m ≤ 9223372036854775807) :
    Calls Try.prog 11 #[.slice A l.length c, .int .i64 m] w fun e w' => ∃ (A' : Option Addr) (n' c' : Nat) (vs : List Value), e = .returned (.tuple #[.slice A' n' c', .int .i64 0]) ∧
      Own w' w.heap.size 33 1 A' n' c' vs ∧ OLists 50 w' w.heap.size vs ((chunks m (items l)).map resolve) ∧ Below w.heap.size w w' := by
  obtain ⟨i0, hi0, hz0, hz1, hz2⟩ := info_parts refItemsInfo
  obtain ⟨j0, hj0, jz0, jz1, jz2⟩ := info_parts refItemInfo
  have hit := fun (W : World) (h : Rd W W.heap.size A (vals l)) => refItems_any A c l W h (by omega)
  obtain ⟨L, hL⟩ : ∃ L, items l = L := ⟨_, rfl⟩
  have hLN : l.length = L.length := by rw [← hL, items_length]
  rw [hL] at hit ⊢
  obtain ⟨N, hN⟩ : ∃ N, L.length = N := ⟨_, rfl⟩
  rw [hLN, hN] at hit hlen ⊢
  clear hL hLN
  have hmd : decide ((m : Int) < 1) = false := decide_eq_false (by omega)
  have hmd2 : ¬ m = 0 := by omega
  have hl0 := (hl.alloc (Nat.le_refl _) (.cells #[] 33)).more (show w.heap.size ≤ (w.alloc (.cells #[] 33)).heap.size by rw [World.size_alloc]; omega)
  have hn0 := Own.new0' w 33 1
  have hB0 := (Below.refl w.heap.size w).alloc (Nat.le_refl _) (.cells #[] 33)
  go_enter Try.func11, Try.ntmps11
  go_wp2_with fail
  go_at_call 15
  refine (hit _ hl0).mono ?_
  rintro e w1 ⟨A1, c1, rfl, ho1, hb1⟩
  have hb01 := hB0.trans (hb1.mono hB0.size)
  have hn1 := hn0.below hb1
  have ho1 := ho1.lower hB0.size
  have hcap : N ≤ c1 := by
    rcases ho1.2 with ⟨hv, hn⟩ | ⟨_, _, _, hv, _, _, h3, _⟩
    · omega
    · injection hv with _ _ hc
      omega
  have HO1 := Lib.hid ho1
  have HN1 := Lib.hid hn1
  have HB1 := Lib.hid hb01
  clear hit hl0 hn0 hB0 hb1 ho1 hn1 hb01 hl
  go_wp2_with fail
  go_loopw [6, 7] (fun vo vr wr => ∃ (i r : Nat) (Ao : Option Addr) (no co : Nat) (vs : List Value) (ps : List (List It)) (Ar : Option Addr) (cr : Nat), vo = .slice Ao no co ∧ vr = .slice Ar r cr ∧ i + r = N ∧ r ≤ cr ∧ no ≤ i ∧ Hid (Own wr w.heap.size 33 1 Ao no co vs) ∧ Hid (OLists 50 wr w.heap.size vs ps) ∧ Hid (ps ++ (chunks m (L.drop i)).map resolve = (chunks m L).map resolve) ∧ Hid (Own wr w.heap.size 50 7 A1 N c1 (its L)) ∧ Hid (∀ W : World, Rd W W.heap.size A1 (its L) → Rd W W.heap.size Ar (its (L.drop i))) ∧ Hid (Below w.heap.size w wr)) (fun _ vr _ => lenV vr)
  case atStart => exact ⟨0, N, _, 0, 0, [], [], A1, c1, rfl, rfl, by omega, hcap, Nat.le_refl _, HN1, Lib.hid OLists.nil, Lib.hid rfl, HO1, Lib.hid fun W h => h, HB1⟩
  case round =>
    clear HN1 HO1 HB1
    obtain ⟨i, r, Ao, no, co, vs, ps, Ar, cr, rfl, rfl, hir, hrc, hni, HO, HL, HPS, HI, HR, HB⟩ := hrel
    by_cases hr : 0 < r
    · obtain ⟨e, he⟩ : ∃ e, min m r = e := ⟨_, rfl⟩
      have hstep := chunks_step (L := L) (i := i) (e := e) hm (by omega) (by rw [hN, show N - i = r by omega]; exact he)
      have e1 : decide ((0 : Int) < (r : Int)) = true := decide_eq_true (by omega)
      have e2 : decide (0 < r) = true := decide_eq_true hr
      have hmin1 : (if r < m then (r : Int) else (m : Int)) = (e : Int) := by split <;> omega
      have hmin2 : (if (r : Int) < (m : Int) then (r : Int) else (m : Int)) = (e : Int) := by split <;> omega
      have her : e ≤ r := by omega
      have he1 : 1 ≤ e := by omega
      have hsl1 := fun W => run_front (P := Try.prog) (t := 33) (e := 50) (size := 7) Try.underlying33 hj0 jz1 Ar r cr e (by omega) W
      have hsl2 := fun W => run_tail (P := Try.prog) (t := 33) (e := 50) (size := 7) Try.underlying33 hj0 jz1 Ar r cr e (by omega) W
      obtain ⟨At, hAt⟩ : ∃ At, tailA Ar cr e 7 = At := ⟨_, rfl⟩
      obtain ⟨r', hr'⟩ : ∃ r', r - e = r' := ⟨_, rfl⟩
      obtain ⟨cr', hcr'⟩ : ∃ cr', cr - e = cr' := ⟨_, rfl⟩
      rw [hr', hcr'] at hsl2
      have hdl : (L.drop i).length = r := by rw [List.length_drop]; omega
      have htl : ((L.drop i).take e).length = e := by rw [List.length_take]; omega
      have hres := fun (W : World) (h : Rd W W.heap.size A1 (its L)) => refResolve8_any Ar cr ((L.drop i).take e) W ((HR.out W h).frontR It.vals_len (by omega)) (by omega)
      rw [htl] at hres
      obtain ⟨R, hR⟩ : ∃ R, resolve ((L.drop i).take e) = R := ⟨_, rfl⟩
      rw [hR] at hres
      have hRl : R.length ≤ e := by have := resolve_len ((L.drop i).take e); rw [hR, htl] at this; exact this
      obtain ⟨k, hk⟩ : ∃ k, R.length = k := ⟨_, rfl⟩
      rw [hk] at hres hRl
      have HPS2 : Hid ((ps ++ [R]) ++ (chunks m (L.drop (i + e))).map resolve = (chunks m L).map resolve) := Lib.hid (by
        have := HPS.out
        rw [hstep, List.map_cons, hR] at this
        rw [← this, List.append_assoc]
        rfl)
      have HR2 : Hid (∀ W : World, Rd W W.heap.size A1 (its L) → Rd W W.heap.size At (its (L.drop (i + e)))) := Lib.hid fun W h => by
        have h1 := (HR.out W h).tailR It.vals_len hdl hrc her
        rwa [hAt, List.drop_drop] at h1
      have HK := Lib.hid hk
      have hvl := Own.vals_len' HO.out
      have hno : no ≤ 100000 := by omega
      rw [hAt] at hsl2
      clear hstep hR hdl htl hAt hk HR
      go_wp2_with (first
        | (go_at_call 21; refine (hres _ (HI.out.rd (by omega))).mono ?_; rintro e w2 ⟨A2, c2, rfl, ho2, hb2⟩
           have hown2 := Own.alloc (Own.below HO.out hb2) (.cells #[.slice A2 k c2] 33)
           have hsz2 : w.heap.size ≤ w2.heap.size := Nat.le_trans HB.out.size hb2.size)
        | (at_builtin; go_loud (refine wpList_app _ rfl _ _ _ rfl w.heap.size 33 i0 (.slice none 0 0) 1 24 Try.underlying29 hi0 hz0 hz1 hz2 rfl (by decide) Ao no co vs rfl hown2 (w2.heap.size + 1) (some ⟨w2.heap.size, 0, none⟩) 1 1 [.slice A2 k c2] rfl (Rd.new1 _ _ _) rfl (by simp [Value.oneCell']) (by unfold maxLen; omega) (by omega) (by rw [World.size_alloc]; omega) ?_); intro A5 c5 w3 ho3 hg3 hat3
           have hI2 := Own.alloc (Own.below HI.out hb2) (.cells #[.slice A2 k c2] 33)
           have HI3 := Lib.hid (hI2.grown hg3 (Own.type_ne' hI2 hown2 (by decide)))
           have hL2 := (HL.out.below hb2).snoc (Own.lower ho2 HB.out.size) HK.out
           have HL3 := Lib.hid (hL2.keep fun A n c xs ho => (Own.alloc ho (.cells #[.slice A2 k c2] 33)).grown hg3 (Own.type_ne' (Own.alloc ho (.cells #[.slice A2 k c2] 33)) hown2 (by decide)))
           have hB2 := HB.out.trans (hb2.mono HB.out.size)
           have HB3 := Lib.hid (hown2.grow (hB2.alloc hsz2 (.cells #[.slice A2 k c2] 33)) (by rw [World.size_alloc]; omega) (Nat.le_refl _) hg3)
           have HO3 := Lib.hid ho3
           clear ho3 hg3 hat3 hI2 hL2 hB2 hown2))
      exact ⟨⟨i + e, r', A5, no + 1, c5, vs ++ [.slice A2 k c2], ps ++ [R], At, cr', rfl, rfl, by omega, by omega, by omega, HO3, HL3, HPS2, HI3, HR2, HB3⟩, by simp [lenV]; omega⟩
    · have e1 : decide ((0 : Int) < (r : Int)) = false := decide_eq_false (by omega)
      have e2 : decide (0 < r) = false := decide_eq_false hr
      have HF := Lib.hid (show ps = (chunks m L).map resolve by
        have := HPS.out
        rwa [List.drop_of_length_le (by omega), chunks_nil, List.map_nil, List.append_nil] at this)
      go_wp2_with fail
      go_ret2
      exact ⟨Ao, no, co, vs, rfl, HO.out, by rw [← HF.out]; exact HL.out, HB.out⟩
end Go.Proofs.Ytojelalgcokcfaa
