/-
  The walk of cut.Split.
-/
import Derived.Test.YteacjikkojglmaaClone
import Derived.Test.YteacjikkojglmaaSearch
import Derived.Deep.RegionLaw
namespace Go.Proofs.Yteacjikkojglmaa
open Go.RowKit
attribute [local go_sem ↓] Go.wp_at_zero Go.wp_at_succ

/-- cells cut at borders -/
def splitAt : List Cl → List ByteArray → List (List Cl)
  | l, [] => [l]
  | l, s :: ss => l.takeWhile (fun c => lt c.row s) :: splitAt (l.dropWhile (fun c => lt c.row s)) ss

/-- slices that own rows, each with its list of cells -/
def Lists (w : World) (base : Nat) (vs : List Value) (ps : List (List Cl)) : Prop :=
  vs.length = ps.length ∧ ∀ i (h : i < vs.length) (h' : i < ps.length), ∃ (A : Option Addr) (c : Nat), vs[i] = .slice A ps[i].length c ∧ OwnC w base A c ps[i]

section
variable {w w' : World} {base base' : Nat} {vs : List Value} {ps : List (List Cl)}
theorem Lists.nil : Lists w base [] [] := ⟨rfl, fun i h => absurd h (by simp)⟩
theorem Lists.keep (h : Lists w base vs ps) (hk : ∀ A c p, OwnC w base A c p → OwnC w' base A c p) : Lists w' base vs ps :=
  ⟨h.1, fun i hi hi' => by
    obtain ⟨A, c, e, ho⟩ := h.2 i hi hi'
    exact ⟨A, c, e, hk _ _ _ ho⟩⟩
theorem Lists.lower (h : Lists w base vs ps) (hb : base' ≤ base) : Lists w base' vs ps :=
  ⟨h.1, fun i hi hi' => by
    obtain ⟨A, c, e, ho⟩ := h.2 i hi hi'
    exact ⟨A, c, e, Own.lower ho hb⟩⟩
theorem Lists.below (h : Lists w base vs ps) (hb : Below w.heap.size w w') : Lists w' base vs ps := h.keep fun _ _ _ ho => Own.below ho hb
theorem Lists.setCell (h : Lists w base vs ps) {p : Addr} (hp : p.block < base) (u : Value) : Lists (w.setCell p u) base vs ps :=
  h.keep fun A c q ho => Own.setCell ho (fun e => by have := (Own.lt ho _ e).1; omega) u
theorem Own.type_ne {A A' : Option Addr} {base base' e e' size size' n n' c c' : Nat} {xs xs' : List Value} (h : Own w base e size A n c xs) (h' : Own w base' e' size' A' n' c' xs') (hne : e ≠ e') : blk A = none ∨ blk A ≠ blk A' := by
  rcases h.2 with ⟨hv, _⟩ | ⟨g, cap, cur, hv, _, hg, _⟩
  · injection hv with hA
    subst hA
    exact .inl rfl
  · injection hv with hA
    subst hA
    right
    intro e
    rcases h'.2 with ⟨hv', _⟩ | ⟨g', cap', cur', hv', _, hg', _⟩
    · injection hv' with hA
      subst hA
      cases e
    · injection hv' with hA
      subst hA
      have : g = g' := by injection e
      subst this
      rw [hg] at hg'
      injection hg' with h1
      injection h1 with _ h2
      exact hne h2
/-- an append onto a row of another type -/
theorem Lists.grown {A' : Option Addr} {base2 e' size' n' c' : Nat} {xs' : List Value} (h : Lists w base vs ps) (h' : Own w base2 e' size' A' n' c' xs') (hne : 50 ≠ e') (hg : w.grownBy w' (blk A')) : Lists w' base vs ps :=
  h.keep fun A c q ho => Own.grown ho hg (Own.type_ne ho h' hne)
theorem Lists.snoc (h : Lists w base vs ps) {A : Option Addr} {c : Nat} {p : List Cl} (ho : OwnC w base A c p) : Lists w base (vs ++ [.slice A p.length c]) (ps ++ [p]) :=
  ⟨by simp [h.1], fun i hi hi' => by
    by_cases e : i < vs.length
    · obtain ⟨A', c', e', ho'⟩ := h.2 i e (by rw [← h.1]; exact e)
      refine ⟨A', c', ?_, ?_⟩
      · rw [List.getElem_append_left e, List.getElem_append_left (by rw [← h.1]; exact e)]; exact e'
      · rw [List.getElem_append_left (by rw [← h.1]; exact e)]; exact ho'
    · have hi2 : i = vs.length := by simp at hi; omega
      have hi3 : i = ps.length := by rw [← h.1]; exact hi2
      refine ⟨A, c, ?_, ?_⟩
      · rw [List.getElem_append_right (by omega), List.getElem_append_right (by omega)]; simp
      · rw [List.getElem_append_right (by omega)]; simpa using ho⟩
end

theorem cmp_rows {a b : Cl} (h : a.cmp b < 0) : lt b.row a.row = false := by
  cases k : lt b.row a.row with
  | false => rfl
  | true =>
    have h2 := lt_asymm k
    have : txt a.row b.row = 1 := by simp [txt, k, h2]
    rw [Cl.cmp, first4, this] at h
    simp at h
theorem lt_le_trans {a b s : ByteArray} (h : lt b a = false) (k : lt a s = false) : lt b s = false := by
  cases m : lt b s with
  | false => rfl
  | true =>
    cases n : lt a b with
    | true => rw [lt_trans n m] at k; cases k
    | false => rw [lt_total n h] at k; rw [k] at m; cases m
theorem rising_step {t : List Cl} (h : rising t = true) (s : ByteArray) (i : Nat) : ∀ d (hj : i + d < t.length), lt t[i].row s = false → lt t[i + d].row s = false
  | 0, _, k => k
  | d + 1, hj, k => lt_le_trans (cmp_rows ((rising_iff t).1 h (i + d) hj)) (rising_step h s i d (by omega) k)
theorem rising_mono {t : List Cl} (h : rising t = true) (s : ByteArray) (i j : Nat) (hj : j < t.length) (hij : i ≤ j) (k : lt t[i].row s = false) : lt t[j].row s = false := by
  obtain ⟨d, rfl⟩ : ∃ d, j = i + d := ⟨j - i, by omega⟩
  exact rising_step h s i d hj k
theorem rising_drop {t : List Cl} (h : rising t = true) (m : Nat) : rising (t.drop m) = true := by
  rw [rising_iff] at *
  intro i hi
  simp only [List.getElem_drop]
  exact h (m + i) (by rw [List.length_drop] at hi; omega)
theorem while_take (p : Cl → Bool) : ∀ (t : List Cl) (m : Nat), m ≤ t.length → (∀ j (hj : j < t.length), j < m → p t[j] = true) → (∀ j (hj : j < t.length), m ≤ j → p t[j] = false) → t.takeWhile p = t.take m ∧ t.dropWhile p = t.drop m
  | [], m, _, _, _ => by simp
  | x :: t, 0, _, _, h2 => by
    have := h2 0 (by simp) (by omega)
    simp at this
    simp [List.takeWhile_cons, List.dropWhile_cons, this]
  | x :: t, m + 1, hm, h1, h2 => by
    have h0 : p x = true := h1 0 (by simp) (by omega)
    obtain ⟨e1, e2⟩ := while_take p t m (by simpa using hm) (fun j hj hjm => h1 (j + 1) (by simpa using hj) (by omega)) (fun j hj hjm => h2 (j + 1) (by simpa using hj) (by omega))
    simp [List.takeWhile_cons, List.dropWhile_cons, h0, e1, e2]
theorem splitAt_step {t : List Cl} {s : ByteArray} {m : Nat} (rest : List ByteArray) (h : m ≤ t.length ∧ (∀ j (hj : j < t.length), j < m → lt t[j].row s = true) ∧ ∀ j (hj : j < t.length), m ≤ j → lt t[j].row s = false) :
    splitAt t (s :: rest) = t.take m :: splitAt (t.drop m) rest := by
  obtain ⟨e1, e2⟩ := while_take (fun c => lt c.row s) t m h.1 h.2.1 h.2.2
  rw [splitAt, e1, e2]
theorem vals_take (l : List Cl) : ∀ k, (vals l).take (k * 6) = vals (l.take k) := by
  induction l with
  | nil => intro k; simp [vals]
  | cons c l ih =>
    intro k
    cases k with
    | zero => simp [vals]
    | succ k =>
      have : (k + 1) * 6 = k * 6 + 6 := by omega
      have h := ih k
      simp only [vals, List.flatMap_cons, Cl.vals, List.take_succ_cons] at *
      rw [this]
      simp [h]
theorem vals_drop (l : List Cl) : ∀ k, (vals l).drop (k * 6) = vals (l.drop k) := by
  induction l with
  | nil => intro k; simp [vals]
  | cons c l ih =>
    intro k
    cases k with
    | zero => simp [vals]
    | succ k =>
      have : (k + 1) * 6 = k * 6 + 6 := by omega
      have h := ih k
      simp only [vals, List.flatMap_cons, Cl.vals, List.drop_succ_cons] at *
      rw [this]
      simp [h]
theorem Rd.head {w : World} {B : Nat} {A : Option Addr} {l : List Cl} (h : Rd w B A (vals l)) (k : Nat) : Rd w B A (vals (l.take k)) := by
  rw [← vals_take]; exact Rd.take h _
theorem Rd.tail {w : World} {B : Nat} {A : Option Addr} {l : List Cl} {c : Nat} (h : Rd w B A (vals l)) (k : Nat) (hc : l.length ≤ c) : Rd w B (tailA A c k 6) (vals (l.drop k)) := by
  unfold tailA
  split
  · have : l.drop k = [] := List.drop_eq_nil_of_le (by omega)
    rw [this]
    exact Rd.nil
  · rw [← vals_drop]; exact Rd.drop h _

set_option maxHeartbeats 1000000 in
theorem cutSplit_bad (A S : Option Addr) (c d : Nat) (l : List Cl) (ss : List ByteArray) (w : World) (hl : Rd w w.heap.size A (vals l)) (hs : Rd w w.heap.size S (strs ss)) (hlen : l.length ≤ 1000) (hlen' : ss.length ≤ 1000) (hb : borders ss = false) :
    Calls Try.prog 11 #[.slice A l.length c, .slice S ss.length d] w fun e w' => e = .returned (.tuple #[.slice none 0 0, .int .i64 1]) ∧ Below w.heap.size w w' := by
  go_enter Try.func11, Try.ntmps11
  go_wp2_with (go_at_call 14; refine (cutBorders_any S d ss _ w.heap.size (hs.alloc (Nat.le_refl _) _) (by unfold maxLen; omega)).mono ?_; rintro e w' ⟨rfl, rfl⟩)
  go_ret2
  exact ⟨rfl, (Below.refl _ _).alloc (Nat.le_refl _) _⟩

set_option maxHeartbeats 1000000 in
theorem cutSplit_low (A S : Option Addr) (c d : Nat) (l : List Cl) (ss : List ByteArray) (w : World) (hl : Rd w w.heap.size A (vals l)) (hs : Rd w w.heap.size S (strs ss)) (hlen : l.length ≤ 1000) (hlen' : ss.length ≤ 1000) (hb : borders ss = true) (hr : rising l = false) :
    Calls Try.prog 11 #[.slice A l.length c, .slice S ss.length d] w fun e w' => e = .returned (.tuple #[.slice none 0 0, .int .i64 40]) ∧ Below w.heap.size w w' := by
  go_enter Try.func11, Try.ntmps11
  go_wp2_with (first | (go_at_call 14; refine (cutBorders_any S d ss _ w.heap.size (hs.alloc (Nat.le_refl _) _) (by unfold maxLen; omega)).mono ?_; rintro e w' ⟨rfl, rfl⟩) |
    (go_at_call 24; refine (cellRising_any A c l _ ((hl.alloc (Nat.le_refl _) _).more (by simp)) (by unfold maxLen; omega)).mono ?_; rintro e w' ⟨rfl, hb1⟩))
  go_ret2
  exact ⟨rfl, ((Below.refl _ _).alloc (Nat.le_refl _) _).trans (hb1.mono (by simp))⟩

/-- what holds between two rounds: of the cells that are left, and of the lists that are made -/
def SplitInv (w : World) (l : List Cl) (ss : List ByteArray) (k : Nat) (Ao : Option Addr) (co : Nat) (t : List Cl) (At : Option Addr) (tc : Nat) (vs : List Value) (ps : List (List Cl)) (wr : World) : Prop :=
  Own wr (w.heap.size + 1) 22 1 Ao k co vs ∧ Lists wr (w.heap.size + 1) vs ps ∧ ps ++ splitAt t (ss.drop k) = splitAt l ss ∧ rising t = true ∧
    Box wr w.heap.size 22 (.slice At t.length tc) ∧ Rd wr w.heap.size At (vals t) ∧ t.length ≤ tc ∧ t.length ≤ 1000 ∧ Below w.heap.size w wr

theorem SplitInv.next {w wr w2 w3 : World} {l t : List Cl} {ss : List ByteArray} {k co c2 c3 tc m nn : Nat} {Ao At A2 A3 : Option Addr} {vs : List Value} {ps : List (List Cl)} {e1 : TypeId} (h : SplitInv w l ss k Ao co t At tc vs ps wr) (hk : k < ss.length)
    (hm : m ≤ t.length ∧ (∀ j (hj : j < t.length), j < m → lt t[j].row ss[k] = true) ∧ ∀ j (hj : j < t.length), m ≤ j → lt t[j].row ss[k] = false)
    (ho2 : OwnC w2 ((wr.alloc (.cells #[.string ss[k]] e1)).drewN nn).drew.heap.size A2 c2 (t.take m)) (hb2 : Below ((wr.alloc (.cells #[.string ss[k]] e1)).drewN nn).drew.heap.size ((wr.alloc (.cells #[.string ss[k]] e1)).drewN nn).drew w2)
    (ho3 : Own w3 (w.heap.size + 1) 22 1 A3 (k + 1) c3 (vs ++ [.slice A2 m c2])) (hg3 : (w2.alloc (.cells #[.slice A2 m c2] 22)).grownBy w3 (blk Ao)) :
    SplitInv w l ss (k + 1) A3 c3 (t.drop m) (tailA At tc m 6) (tc - m) (vs ++ [.slice A2 m c2]) (ps ++ [t.take m]) (w3.setCell ⟨w.heap.size, 0, none⟩ (.slice (tailA At tc m 6) (t.length - m) (tc - m))) := by
  obtain ⟨hown, hlist, hp, ht, hbox, hrd, htc, htl, hB⟩ := h
  have hsz := hbox.lt
  have hlen : (t.take m).length = m := by rw [List.length_take]; omega
  have hown1 : Own (w2.alloc (.cells #[.slice A2 m c2] 22)) (w.heap.size + 1) 22 1 Ao k co vs := Own.alloc (Own.below ((hown.alloc _).drewN nn).drew hb2) _
  have hlist1 : Lists (w2.alloc (.cells #[.slice A2 m c2] 22)) (w.heap.size + 1) vs ps := hlist.keep fun A c p h => Own.alloc (Own.below ((Own.alloc h _).drewN nn).drew hb2) _
  have hbase : w.heap.size + 1 ≤ ((wr.alloc (.cells #[.string ss[k]] e1)).drewN nn).drew.heap.size := by show _ ≤ (wr.alloc _).heap.size; rw [World.size_alloc]; omega
  have hne : some w.heap.size ≠ blk Ao := fun e => by have := (hown.lt _ e.symm).1; omega
  have hsz2 : w.heap.size < w2.heap.size := Nat.lt_of_lt_of_le (Nat.lt_of_lt_of_le (Nat.lt_succ_self _) hbase) hb2.size
  refine ⟨?_, ?_, ?_, rising_drop ht m, ?_, ?_, ?_, ?_, ?_⟩
  · exact ho3.setCell (fun e => Nat.not_succ_le_self _ (ho3.lt _ e).1) _
  · have h1 := (hlist1.grown hown1 (by decide) hg3).snoc (p := t.take m) (A := A2) (c := c2) (Own.grown (Own.alloc (Own.lower ho2 hbase) _) hg3 (Own.type_ne (Own.alloc ho2 _) hown1 (by decide)))
    rw [hlen] at h1
    exact h1.setCell (by show w.heap.size < _; omega) _
  · rw [List.drop_eq_getElem_cons hk, splitAt_step _ hm] at hp
    rw [← hp]
    simp
  · rw [List.length_drop]
    have hb1 : Box (w2.alloc (.cells #[.slice A2 m c2] 22)) w.heap.size 22 (.slice At t.length tc) := ((((hbox.alloc _).drewN nn).drew).below hb2 (Nat.lt_of_lt_of_le (Nat.lt_succ_self _) hbase)).alloc _
    exact (hb1.grown hg3 hne).set _
  · have h1 : Rd w3 w.heap.size At (vals t) := ((((hrd.alloc (by omega) _).drewN nn).drew.keep fun p hp => hb2.cell (Nat.lt_of_lt_of_le hp (Nat.le_trans (Nat.le_succ _) hbase))).alloc (by omega) _).grown hg3 (by rw [World.size_alloc]; omega) (fun g hg => by have := (hown.lt _ hg).1; omega)
    exact (h1.tail m htc).setCell (Nat.le_refl _) _
  · rw [List.length_drop]; omega
  · rw [List.length_drop]; omega
  · have h1 : Below w.heap.size w w2 := (below_drewN (hB.alloc (Nat.le_of_lt hsz) _) nn).drew.trans (hb2.mono (Nat.le_trans (Nat.le_succ _) hbase))
    exact (hown1.grow (h1.alloc (Nat.le_of_lt hsz2) _) (by rw [World.size_alloc]; omega) (Nat.le_succ _) hg3).setCell (Nat.le_refl _) _

theorem SplitInv.last {w wr w2 w3 : World} {l t : List Cl} {ss : List ByteArray} {k co c2 c3 tc : Nat} {Ao At A2 A3 : Option Addr} {vs : List Value} {ps : List (List Cl)} (h : SplitInv w l ss k Ao co t At tc vs ps wr) (hk : k = ss.length)
    (ho2 : OwnC w2 wr.heap.size A2 c2 t) (hb2 : Below wr.heap.size wr w2)
    (ho3 : Own w3 (w.heap.size + 1) 22 1 A3 (k + 1) c3 (vs ++ [.slice A2 t.length c2])) (hg3 : (w2.alloc (.cells #[.slice A2 t.length c2] 22)).grownBy w3 (blk Ao)) :
    Lists w3 w.heap.size (vs ++ [.slice A2 t.length c2]) (splitAt l ss) ∧ Below w.heap.size w w3 := by
  obtain ⟨hown, hlist, hp, ht, hbox, hrd, htc, htl, hB⟩ := h
  have hsz := hbox.lt
  have hown1 : Own (w2.alloc (.cells #[.slice A2 t.length c2] 22)) (w.heap.size + 1) 22 1 Ao k co vs := Own.alloc (Own.below hown hb2) _
  have hlist1 : Lists (w2.alloc (.cells #[.slice A2 t.length c2] 22)) (w.heap.size + 1) vs ps := hlist.keep fun A c p h => Own.alloc (Own.below h hb2) _
  constructor
  · have h1 := (hlist1.grown hown1 (by decide) hg3).snoc (p := t) (A := A2) (c := c2) (Own.grown (Own.alloc (Own.lower ho2 hsz) _) hg3 (Own.type_ne (Own.alloc ho2 _) hown1 (by decide)))
    rw [List.drop_eq_nil_of_le (by omega), splitAt] at hp
    rw [← hp]
    exact h1.lower (Nat.le_succ _)
  · have h1 : Below w.heap.size w w2 := hB.trans (hb2.mono (Nat.le_of_lt hsz))
    exact hown1.grow (h1.alloc (Nat.le_of_lt (Nat.lt_of_lt_of_le hsz hb2.size)) _) (by rw [World.size_alloc]; exact Nat.le_of_lt (Nat.lt_succ_of_lt (Nat.lt_of_lt_of_le hsz hb2.size))) (Nat.le_succ _) hg3

set_option maxHeartbeats 4000000 in
theorem cutSplit_ok (A S : Option Addr) (c d : Nat) (l : List Cl) (ss : List ByteArray) (w : World) (hl : Rd w w.heap.size A (vals l)) (hs : Rd w w.heap.size S (strs ss)) (hlen : l.length ≤ 1000) (hlen' : ss.length ≤ 1000) (hcap : l.length ≤ c) (hb : borders ss = true) (hr : rising l = true) :
    Calls Try.prog 11 #[.slice A l.length c, .slice S ss.length d] w fun e w' => ∃ (A' : Option Addr) (n' c' : Nat) (vs : List Value), e = .returned (.tuple #[.slice A' n' c', .int .i64 0]) ∧
      Own w' w.heap.size 22 1 A' n' c' vs ∧ Lists w' w.heap.size vs (splitAt l ss) ∧ Below w.heap.size w w' := by
  obtain ⟨i0, hi0, hz0, hz1, hz2⟩ := info_parts sliceInfo
  obtain ⟨j0, hj0, _, hj1, _⟩ := info_parts cellInfo
  go_enter Try.func11, Try.ntmps11
  go_wp2_with (first | (go_at_call 14; refine (cutBorders_any S d ss _ w.heap.size (hs.alloc (Nat.le_refl _) _) (by unfold maxLen; omega)).mono ?_; rintro e w' ⟨rfl, rfl⟩) |
    (go_at_call 24; refine (cellRising_any A c l _ ((hl.alloc (Nat.le_refl _) _).more (by simp)) (by unfold maxLen; omega)).mono ?_; rintro e w' ⟨rfl, hb1⟩))
  go_loopw [4, 19] (fun out i wr => ∃ (k : Nat) (Ao : Option Addr) (co : Nat) (t : List Cl) (At : Option Addr) (tc : Nat) (vs : List Value) (ps : List (List Cl)), k ≤ ss.length ∧ i = .int .i64 k ∧ out = .slice Ao k co ∧ SplitInv w l ss k Ao co t At tc vs ps wr) (fun _ i _ => ss.length - (intOf i).toNat)
  case atStart =>
    have h1 : Box (w.alloc (.cells #[.slice A l.length c] 22)) w.heap.size 22 (.slice A l.length c) := Box.new _ _ _
    have hz : w.heap.size < (w.alloc (.cells #[.slice A l.length c] 22)).heap.size := h1.lt
    exact ⟨0, none, 0, l, A, c, [], [], Nat.zero_le _, rfl, rfl, Own.nil, Lists.nil, rfl, hr, h1.below hb1 hz, (hl.alloc (Nat.le_refl _) _).keep (fun p hp => hb1.cell (Nat.lt_trans hp hz)), hcap, hlen,
      ((Below.refl _ _).alloc (Nat.le_refl _) _).trans (hb1.mono (Nat.le_of_lt hz))⟩
  case round =>
    obtain ⟨k, Ao, co, t, At, tc, vs, ps, hk, rfl, rfl, hI⟩ := hrel
    have HI := Lib.hid hI
    obtain ⟨hown, hlist, hp, ht, hbox, hrd, htc, htl, hB⟩ := hI
    by_cases hlt : k < ss.length
    · obtain ⟨b, o, rfl, hb, hc⟩ := (hs.below hB).at_ (strs_ne hlt)
      have l0 := str_at hc k hlt
      have hsz := hbox.lt
      have hbc := hbox.cell
      have hbf := hbox.free
      have HM := Lib.hid (rising_mono ht ss[k])
      have HO := Lib.hid hown
      have hne : some w.heap.size ≠ blk Ao := fun e => by have := (hown.lt _ e.symm).1; omega
      have HN := Lib.hid hne
      clear hs hl hlist hp ht hown hne
      go_wp2_with (go_at_call 25; refine (search_any At tc w.heap.size wr.heap.size t ss[k] _ w.heap.size (hrd.alloc (by omega) _) htl (hbox.alloc _).cell (Box.new _ _ _).cell HM.out).mono ?_; rintro e w1 ⟨m, rfl, hm, nn, rfl⟩)
      have HS := Lib.hid hm
      have hm1 := hm.1
      clear hm HM
      have i1 : (0 : Int) ≤ (m : Int) := by omega
      have i2 : (m : Int) ≤ (t.length : Int) := by omega
      have i3 : (m : Int) ≤ (tc : Int) := by omega
      have i4 : (t.length : Int) ≤ (tc : Int) := by omega
      have hsl := fun W => run_tail (P := Try.prog) (t := 22) (e := 50) (size := 6) Try.underlying22 hj0 hj1 At t.length tc m hm1 W
      have hbox1 := (hbox.alloc (.cells #[.string ss[k]] 9)).drewN nn
      have HO1 := Lib.hid ((HO.out.alloc (.cells #[.string ss[k]] 9)).drewN nn)
      have hrd1 := (hrd.alloc (by omega) (.cells #[.string ss[k]] 9)).drewN nn
      clear hbox hrd hB hbc hbf l0 hc HO
      have hsz1 := hbox1.lt
      obtain ⟨W1, hW1⟩ : ∃ W, W = (wr.alloc (.cells #[.string ss[k]] 9)).drewN nn := ⟨_, rfl⟩
      rw [← hW1] at hbox1 HO1 hrd1 hsz1 ⊢
      have HW := Lib.hid hW1
      clear hW1 hsz
      have hbc := hbox1.cell
      have hbf := hbox1.free
      go_region_law (first | (refine step_app _ (by rfl) _ _ _ (by rfl) (w.heap.size + 1) 22 i0 (.slice none 0 0) 1 24 Try.underlying26 hi0 hz0 hz1 hz2 rfl (by decide) Ao k co vs (by rfl) ho1 (w2.heap.size + 1) (some ⟨w2.heap.size, 0, none⟩) 1 1 [.slice A2 m c2] (by rfl) (Rd.new1 _ _ _) (by rfl) (by simp [Value.oneCell']) (by unfold maxLen; omega) (by omega) (Nat.succ_le_of_lt hy3) ?_; intro A3 c3 w3 ho3 hg3 hat3; have hk3 := hg3.cell_far ⟨w.heap.size, 0, none⟩ hy3 HN.out; have hf3 := hg3.frozen_far ⟨w.heap.size, 0, none⟩ hy3 HN.out) |
          (go_simp; go_at_call 27; (refine (clone_at At m tc (t.take m) _ ((hrd1.head m).more (Nat.le_of_lt hsz1)).drew (by rw [List.length_take]; omega) (by omega)).mono ?_); rintro e w2 ⟨A2, c2, rfl, ho2, hb2⟩; have hk2 := hb2.cell (p := ⟨w.heap.size, 0, none⟩) hsz1; have hf2 := hb2.frozen (p := ⟨w.heap.size, 0, none⟩) hsz1; have hy2 : w.heap.size < w2.heap.size := Nat.lt_of_lt_of_le hsz1 hb2.size; have hy3 : w.heap.size < (w2.alloc (.cells #[.slice A2 m c2] 22)).heap.size := (by rw [World.size_alloc]; omega); have ho1 := Own.alloc (Own.below HO1.out.drew hb2) (.cells #[.slice A2 m c2] 22)))
      all_goals
        have HF := Lib.hid (HI.out.next hlt HS.out (by rw [← HW.out]; exact ho2) (by rw [← HW.out]; exact hb2) ho3 hg3)
        clear ho2 hb2 ho3 hg3 hat3 hk3 hf3 hk2 hf2 ho1
        go_wp2
        exact ⟨⟨k + 1, A3, c3, _, _, _, _, _, by omega, by go_num, rfl, HF.out⟩, by simp [intOf]; omega⟩
    · have hk' : k = ss.length := by omega
      have hbc := hbox.cell
      have hsz := hbox.lt
      have HO := Lib.hid hown
      have HK := Lib.hid hk'
      clear hk' hs hl hlist hp ht hown
      go_wp2_with (first | (go_at_call 27; (refine (clone_any At tc t wr (hrd.more (Nat.le_of_lt hsz)) htl).mono ?_); rintro e w2 ⟨A2, c2, rfl, ho2, hb2⟩; have ho1 := Own.alloc (Own.below HO.out hb2) (.cells #[.slice A2 t.length c2] 22); have hy3 : w.heap.size < (w2.alloc (.cells #[.slice A2 t.length c2] 22)).heap.size := (by rw [World.size_alloc]; exact Nat.lt_succ_of_lt (Nat.lt_of_lt_of_le hsz hb2.size))) |
        (at_builtin; go_loud (refine wpList_app _ rfl _ _ _ rfl (w.heap.size + 1) 22 i0 (.slice none 0 0) 1 24 Try.underlying26 hi0 hz0 hz1 hz2 rfl (by decide) Ao k co vs rfl ho1 (w2.heap.size + 1) (some ⟨w2.heap.size, 0, none⟩) 1 1 [.slice A2 t.length c2] rfl (Rd.new1 _ _ _) rfl (by simp [Value.oneCell']) (by unfold maxLen; omega) (by omega) (Nat.succ_le_of_lt hy3) ?_); intro A3 c3 w3 ho3 hg3 hat3))
      go_ret2
      obtain ⟨f1, f2⟩ := HI.out.last HK.out ho2 hb2 ho3 hg3
      exact ⟨A3, k + 1, c3, _, rfl, ho3.lower (Nat.le_succ _), f1, f2⟩
end Go.Proofs.Yteacjikkojglmaa
