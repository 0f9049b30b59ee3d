/-
  Lists of lists of items in memory; the walks of merge.sorted and of what it calls. What the walk of merge.Group leans on: the least number that is so; how a heap's memory is kept; items that come out, each coordinate once. Between two rounds, and within one, of merge.Group's second loop. Append onto a row of items of the call's own; the last one of it. No conditions.
-/
import Derived.Test.YtflppcgonbjnmaaHeapPop9
import Derived.Test.YtflppcgonbjnmaaMergeLaw9
import Derived.Test.YtflppcgonbjnmaaJG
namespace Go.Proofs.Ytflppcgonbjnmaa
open Go.RowKit
attribute [local go_sem ↓] Go.wp_at_zero Go.wp_at_succ

/-- lists in memory, all of it below B -/
def LRd (w : World) (B : Nat) (A : Option Addr) (L : List (List It)) : Prop :=
  ∃ vs : List Value, vs.length = L.length ∧ Rd w B A vs ∧ ∀ k (h : k < L.length), ∃ A' c', vs[k]? = some (.slice A' L[k].length c') ∧ L[k].length ≤ c' ∧ Rd w B A' (its L[k])
section
variable {w w' : World} {B B' : Nat} {A : Option Addr} {L : List (List It)}
theorem LRd.imp (h : LRd w B A L) (f : ∀ A xs, Rd w B A xs → Rd w' B' A xs) : LRd w' B' A L := by
  obtain ⟨vs, h1, h2, h3⟩ := h
  exact ⟨vs, h1, f _ _ h2, fun k hk => by
    obtain ⟨A', c', a, b, c⟩ := h3 k hk
    exact ⟨A', c', a, b, f _ _ c⟩⟩
theorem LRd.below (h : LRd w B A L) (hb : Below B w w') : LRd w' B A L := h.imp fun _ _ h => h.below hb
theorem LRd.more (h : LRd w B A L) (hB : B ≤ B') : LRd w B' A L := h.imp fun _ _ h => h.more hB
theorem LRd.drew (h : LRd w B A L) : LRd w.drew B A L := h.imp fun _ _ h => h.drew
theorem LRd.alloc (h : LRd w B A L) (hB : B ≤ w.heap.size) (o : Obj) : LRd (w.alloc o) B A L := h.imp fun _ _ h => h.alloc hB o
theorem LRd.nil : LRd w B A [] := ⟨[], rfl, Rd.nil, fun k hk => absurd hk (by simp)⟩
theorem LRd.get (h : LRd w B A L) {k : Nat} (hk : k < L.length) : ∃ b o A' c', A = some ⟨b, o, none⟩ ∧ b < B ∧ w.cell? ⟨b, o + k, none⟩ = some (.slice A' L[k].length c') ∧ L[k].length ≤ c' ∧ Rd w B A' (its L[k]) := by
  obtain ⟨vs, h1, h2, h3⟩ := h
  obtain ⟨A', c', e, hc', hr⟩ := h3 k hk
  have hkv : k < vs.length := by omega
  obtain ⟨b, o, rfl, hb, hc⟩ := h2.at_ (fun e => by rw [e] at hkv; simp at hkv)
  have := hc k hkv
  rw [List.getElem?_eq_getElem hkv] at e
  injection e with e
  rw [e] at this
  exact ⟨b, o, A', c', rfl, hb, this, hc', hr⟩
theorem LRd.drop (h : LRd w B A L) (i : Nat) : LRd w B (A.map (·.add i)) (L.drop i) := by
  obtain ⟨vs, h1, h2, h3⟩ := h
  refine ⟨vs.drop i, by simp [h1], h2.drop i, fun k hk => ?_⟩
  rw [List.length_drop] at hk
  obtain ⟨A', c', a, b, c⟩ := h3 (i + k) (by omega)
  exact ⟨A', c', by rw [List.getElem?_drop, List.getElem_drop]; exact a, by rw [List.getElem_drop]; exact b, by rw [List.getElem_drop]; exact c⟩
theorem LRd.take (h : LRd w B A L) (i : Nat) : LRd w B A (L.take i) := by
  obtain ⟨vs, h1, h2, h3⟩ := h
  refine ⟨vs.take i, by simp [h1], h2.take i, fun k hk => ?_⟩
  rw [List.length_take] at hk
  obtain ⟨A', c', a, b, c⟩ := h3 k (by omega)
  exact ⟨A', c', by rw [List.getElem?_take_of_lt (by omega), List.getElem_take]; exact a, by rw [List.getElem_take]; exact b, by rw [List.getElem_take]; exact c⟩
theorem ILists.lrd {base n c : Nat} {vs : List Value} {ps : List (List It)} (h : ILists w base vs ps) (ho : Own w base 32 1 A n c vs) : LRd w w.heap.size A ps ∧ n = ps.length :=
  ⟨⟨vs, h.1, ho.rd (by omega), fun k hk => by
    obtain ⟨A', c', e, ho'⟩ := h.2 k (by rw [h.1]; exact hk) hk
    refine ⟨A', c', by rw [List.getElem?_eq_getElem (by rw [h.1]; exact hk), e], ?_, ho'.rd (by omega)⟩
    rcases ho'.2 with ⟨hv, hn⟩ | ⟨_, _, _, hv, _, _, h3, _⟩
    · omega
    · injection hv with _ _ hc
      omega⟩, by rw [← h.1, ← ho.vals_len']⟩
end
/-- all of them are short -/
def shortL (L : List (List It)) : Prop := L.length ≤ 1000000 ∧ ∀ r ∈ L, r.length ≤ 1000000

def noneTo {α : Type} (q : α → Bool) (l : List α) (k : Nat) : Prop := ∀ j (h : j < l.length), j < k → q l[j] = false
theorem noneTo.zero {α : Type} (q : α → Bool) (l : List α) : noneTo q l 0 := fun j h hj => by omega
theorem noneTo.succ {α : Type} {q : α → Bool} {l : List α} {k : Nat} (h : noneTo q l k) (hk : k < l.length) (hq : q l[k] = false) : noneTo q l (k + 1) := fun j hj hjk => by
  by_cases e : j = k
  · subst e; exact hq
  · exact h j hj (by omega)
theorem noneTo.miss {α : Type} {q : α → Bool} {l : List α} {k : Nat} (h : noneTo q l k) (hk : l.length ≤ k) : l.any q = false := by
  rw [List.any_eq_false]
  intro x hx
  obtain ⟨j, hj, rfl⟩ := List.getElem_of_mem hx
  rw [h j hj (by omega)]
  exact Bool.false_ne_true
theorem noneTo.hit {α : Type} {q : α → Bool} {l : List α} {k : Nat} (hk : k < l.length) (hq : q l[k] = true) : l.any q = true := List.any_eq_true.2 ⟨_, List.getElem_mem hk, hq⟩
def unsB (l : List It) : Bool := !sortedB l
theorem uns_any (L : List (List It)) : (!L.any unsB) = sortedL L := by
  unfold sortedL unsB
  rw [List.all_eq_not_any_not]
theorem unsorted_any (A : Option Addr) (c : Nat) (l : List It) (w : World) (hl : Rd w w.heap.size A (its l)) (hlen : l.length ≤ 1000000) :
    Calls Try.prog 44 #[.slice A l.length c] w fun e w' => e = .returned (.bool (unsB l)) ∧ Below w.heap.size w w' := by
  have HS := Lib.hid (fun W h => runsSorted_any A c l W h hlen)
  obtain ⟨n, hn⟩ : ∃ n, l.length = n := ⟨_, rfl⟩
  rw [hn] at HS ⊢
  obtain ⟨s, hs⟩ : ∃ s, sortedB l = s := ⟨_, rfl⟩
  have e2 : unsB l = !s := by rw [← hs]; rfl
  rw [hs] at HS
  rw [e2]
  clear e2 hs hn
  go_enter Try.func44, Try.ntmps44
  go_wp2_with (go_at_call 45; refine (HS.out _ hl).mono ?_; rintro e w1 ⟨rfl, hb1⟩)
  go_ret
  exact ⟨rfl, hb1⟩
theorem callUns (args : Array Value) (W : World) : (callFunc 44 args).run Try.prog W = .ok (.enter 44 args) W := by kernel_rfl
set_option maxHeartbeats 2000000 in
theorem indexUns_any (w : World) (A : Option Addr) (c : Nat) (L : List (List It)) (hl : LRd w w.heap.size A L) (hlen : shortL L) :
    Calls Try.prog 56 #[.slice A L.length c, .func (.func 44) #[] #[]] w fun e w' => (∃ k : Int, e = .returned (.int .i64 k) ∧ decide (0 ≤ k) = L.any unsB) ∧ Below w.heap.size w w' := by
  have HL := Lib.hid hl
  obtain ⟨N, hN⟩ : ∃ N, L.length = N := ⟨_, rfl⟩
  have HN := Lib.hid hN
  have hlen1 := hlen.1
  have HS := Lib.hid hlen.2
  rw [hN] at hlen1 ⊢
  clear hl hN hlen
  have eg := callUns
  go_enter Try.func56, Try.ntmps56
  go_wp2
  go_loopw [8] (fun vi wr => ∃ k : Nat, k ≤ N ∧ vi = .int .i64 (k : Int) ∧ Hid (noneTo unsB L k) ∧ Hid (Below w.heap.size w wr)) (fun vi _ => N - (intOf vi).toNat)
  case atStart => exact ⟨0, Nat.zero_le _, rfl, Lib.hid (noneTo.zero unsB L), Lib.hid (Below.refl _ _)⟩
  case round =>
    obtain ⟨k, hk, rfl, HU, HB⟩ := hrel
    by_cases hlt : k < N
    · have hkl : k < L.length := by rw [HN.out]; exact hlt
      have e1 : decide ((k : Int) < (N : Int)) = true := decide_eq_true (by omega)
      have k1 : (0 : Int) ≤ (k : Int) := by omega
      have k2 : (k : Int) < (N : Int) := by omega
      have hw3 : IntKind.i64.wrap ((k : Int) + 1) = ((k + 1 : Nat) : Int) := by rw [IntWalk.i64_in _ (by omega)]; omega
      obtain ⟨b, o, A', c', rfl, hb, hc, hc', hr⟩ := (HL.out.below HB.out).get hkl
      have HC := Lib.hid (fun W h => unsorted_any A' c' (L[k]'hkl) W h (HS.out _ (List.getElem_mem hkl)))
      have HR := Lib.hid hr
      have HS2 := Lib.hid (fun h => HU.out.succ hkl h)
      have HH := Lib.hid (fun h => noneTo.hit (q := unsB) hkl h)
      obtain ⟨x, hx⟩ : ∃ x, L[k] = x := ⟨_, rfl⟩
      rw [hx] at HS2 HH HC hc HR
      obtain ⟨n, hn⟩ : ∃ n, x.length = n := ⟨_, rfl⟩
      rw [hn] at hc HC
      clear hx hn hc' hr
      cases hqx : unsB x with
      | true =>
        rw [hqx] at HC
        have HF := Lib.hid (HH.out hqx)
        go_wp2_with (go_at_call 44; refine (HC.out _ (HR.out.more HB.out.size)).mono ?_; rintro e w2 ⟨rfl, hb2⟩)
        go_ret
        exact ⟨⟨_, rfl, by rw [HF.out]; exact decide_eq_true (by omega)⟩, HB.out.trans (hb2.mono HB.out.size)⟩
      | false =>
        rw [hqx] at HC
        have HF := Lib.hid (HS2.out hqx)
        go_wp2_with (go_at_call 44; refine (HC.out _ (HR.out.more HB.out.size)).mono ?_; rintro e w2 ⟨rfl, hb2⟩)
        exact ⟨⟨k + 1, by omega, by first | rfl | go_num, HF, Lib.hid (HB.out.trans (hb2.mono HB.out.size))⟩, by simp [intOf]; omega⟩
    · have e1 : decide ((k : Int) < (N : Int)) = false := decide_eq_false (by omega)
      have HF := Lib.hid (HU.out.miss (by rw [HN.out]; omega))
      go_wp2
      go_ret
      exact ⟨⟨_, rfl, by rw [HF.out]; rfl⟩, HB.out⟩
set_option maxHeartbeats 1000000 in
theorem mergeSorted_any (w : World) (A : Option Addr) (c : Nat) (L : List (List It)) (hl : LRd w w.heap.size A L) (hlen : shortL L) :
    Calls Try.prog 28 #[.slice A L.length c] w fun e w' => e = .returned (.bool (sortedL L)) ∧ Below w.heap.size w w' := by
  have HU := Lib.hid (uns_any L)
  have hc : Calls Try.prog 43 #[.slice A L.length c, .func (.func 44) #[] #[]] w fun e w' => e = .returned (.bool (L.any unsB)) ∧ Below w.heap.size w w' := by
    have HI := Lib.hid (indexUns_any w A c L hl hlen)
    clear hl HU
    go_enter Try.func43, Try.ntmps43
    go_wp2_with (go_at_call 56; refine HI.out.mono ?_; rintro e w1 ⟨⟨k, rfl, hk⟩, hb1⟩)
    go_ret
    exact ⟨rfl, hb1⟩
  have HC := Lib.hid hc
  clear hc hl
  go_enter Try.func28, Try.ntmps28
  go_wp2_with (go_at_call 43; refine HC.out.mono ?_; rintro e w1 ⟨rfl, hb1⟩)
  go_ret
  exact ⟨ret_bool HU.out, hb1⟩
end Go.Proofs.Ytflppcgonbjnmaa
namespace Go.Proofs.Ytflppcgonbjnmaa
open Go.RowKit

theorem least_exists {p : Nat → Prop} (h : ∃ m, p m) : ∃ m, p m ∧ ∀ k, p k → m ≤ k := by
  obtain ⟨m, hm⟩ := h
  induction m using Nat.strongRecOn with
  | ind m ih =>
    by_cases h : ∃ k, k < m ∧ p k
    · obtain ⟨k, hk, hp⟩ := h
      exact ih k hk hp
    · exact ⟨m, hm, fun k hk => Nat.le_of_not_lt fun hlt => h ⟨k, hlt, hk⟩⟩
open Classical in
noncomputable def leastN (p : Nat → Prop) : Nat := if h : ∃ m, p m then Classical.choose (least_exists h) else 0
theorem leastN_spec {p : Nat → Prop} (h : ∃ m, p m) : p (leastN p) := by
  unfold leastN
  rw [dif_pos h]
  exact (Classical.choose_spec (least_exists h)).1
theorem leastN_le {p : Nat → Prop} {k : Nat} (h : p k) : leastN p ≤ k := by
  unfold leastN
  rw [dif_pos ⟨k, h⟩]
  exact (Classical.choose_spec (least_exists ⟨k, h⟩)).2 k h

theorem Box.ne {w : World} {a b : Nat} {e e' : TypeId} {v v' : Value} (h : Box w a e v) (h' : Box w b e' v') (hne : e ≠ e') : a ≠ b := by
  rintro rfl
  unfold Box at h h'
  rw [h] at h'
  injection h' with h'
  injection h' with _ h'
  exact hne h'
theorem Own.box_ne {w : World} {base e size n c q : Nat} {A : Option Addr} {xs : List Value} {e' : TypeId} {v : Value} (h : Own w base e size A n c xs) (hb : Box w q e' v) (hne : e ≠ e') : ∀ k, blk A = some k → k ≠ q := by
  rintro k hk rfl
  rcases h.2 with ⟨hv, _⟩ | ⟨g, cap, cur, hv, _, hg, _⟩
  · injection hv with e1
    subst e1
    cases hk
  · injection hv with e1
    subst e1
    have : g = k := by injection hk
    subst this
    unfold Box at hb
    rw [hg] at hb
    injection hb with hb
    injection hb with _ hb
    exact hne hb
theorem Own.arr_ne {w : World} {base e size n c g k S : Nat} {A : Option Addr} {xs : List Value} {e' : TypeId} {α : Type} {enc : α → List Value} {l : List α} (h : Own w base e size A n c xs) (hb : Arr enc k w g e' S l) (hne : e ≠ e') : ∀ j, blk A = some j → j ≠ g := by
  rintro j hk rfl
  obtain ⟨cur', hc', _⟩ := hb.cur
  rcases h.2 with ⟨hv, _⟩ | ⟨g, cap, cur, hv, _, hg, _⟩
  · injection hv with e1
    subst e1
    cases hk
  · injection hv with e1
    subst e1
    have : g = j := by injection hk
    subst this
    rw [hg] at hc'
    injection hc' with hc'
    injection hc' with _ hc'
    exact hne hc'
section
variable {w w' : World} {B Hb g n c : Nat} {H : List Qs}
theorem Kp.below_of {w0 : World} {B : Nat} (h : Below B w0 w) (k : Kp w w' Hb g) (hB : B ≤ w.heap.size) (h1 : B ≤ Hb) (h2 : B ≤ g) : Below B w0 w' :=
  ⟨k.os.trans h.os, k.tape.trans h.tape, k.output.trans h.output, Nat.le_trans h.size k.size, fun j hj => (k.block j (by omega) (by omega) (by omega)).trans (h.block j hj)⟩
theorem Kp.own {base e size n' c' : Nat} {A : Option Addr} {xs : List Value} (k : Kp w w' Hb g) (h : Own w base e size A n' c' xs) (hH : HSt w B Hb g n c H) (h1 : e ≠ 72) (h2 : e ≠ 78) : Own w' base e size A n' c' xs :=
  h.keep fun j hj => k.block j (h.lt j hj).2 (h.box_ne hH.box h1 j hj) (h.arr_ne hH.arr h2 j hj)
theorem Kp.queue {q : Nat} {l : List It} (k : Kp w w' Hb g) (h : QBox w B q l) (hH : HSt w B Hb g n c H) : QBox w' B q l := by
  obtain ⟨A, c', h1, h2, h3, h4⟩ := h
  refine ⟨A, c', (k.block q h1.lt (h1.ne hH.box (by decide)) ?_).trans h1, h2.keep fun p hp => World.cell?_of_block (k.block p.block ?_ ?_ ?_), h3, h4⟩
  · exact row_ne hH.arr h1 (by decide)
  · have := h1.lt; omega
  · have := hH.hb; omega
  · have := hH.gb; omega
/-- the variable of a queue that is in no source -/
theorem HSt.setq (h : HSt w B Hb g n c H) {q : Nat} (hg : w.grownBy w' (some q)) (hq : ∀ s ∈ H, s.q ≠ q) (h1 : q ≠ Hb) (h2 : q ≠ g) (h3 : B ≤ q) : HSt w' B Hb g n c H :=
  ⟨h.box.grown hg (fun e => by injection e with e; exact h1 e.symm), h.arr.keep (hg.block g h.arr.lt (fun e => by injection e with e; exact h2 e.symm)), h.len, fun s hs => (h.ins s hs).grown hg (hq s hs) h3, h.nq, h.nh, h.gb, h.cp, h.cm, h.hb⟩
end

/-- of one coordinate -/
def sm (a b : It) : Bool := a.c.same b.c
theorem sm_cc (a b : It) : sm a b = decide (cc a b = 0) := cc_same a b
theorem comp_last : ∀ (r : List It) (p p' : It), cc p' p = 0 → ∃ z' z, (p' :: compactGo sm p r).getLast? = some z' ∧ (p :: r).getLast? = some z ∧ cc z' z = 0
  | [], p, p', h => ⟨p', p, rfl, rfl, h⟩
  | y :: r, p, p', h => by
    rw [compactGo]
    by_cases hs : sm y p = true
    · rw [if_pos hs]
      rw [sm_cc, decide_eq_true_iff] at hs
      obtain ⟨z', z, h1, h2, h3⟩ := comp_last r y p' (cc_cmp.eq_eq h (cc_sym.1 hs))
      exact ⟨z', z, h1, by rw [List.getLast?_cons_cons]; exact h2, h3⟩
    · rw [if_neg hs]
      obtain ⟨z', z, h1, h2, h3⟩ := comp_last r y y (cc_cmp.self y)
      exact ⟨z', z, by rw [List.getLast?_cons_cons]; exact h1, by rw [List.getLast?_cons_cons]; exact h2, h3⟩
/-- one more item, behind those that have come out -/
def addE (E : List It) (y : It) : List It := match E.getLast? with
  | none => [y]
  | some z => if sm z y then E else E ++ [y]
theorem comp_snoc (O : List It) (y : It) : compactF sm (O ++ [y]) = addE (compactF sm O) y := by
  cases O with
  | nil => rfl
  | cons x l =>
    obtain ⟨z', z, h1, h2, h3⟩ := comp_last l x x (cc_cmp.self x)
    have h1' : (compactF sm (x :: l)).getLast? = some z' := h1
    rw [compactF_snoc sm (x :: l) y z h2]
    unfold addE
    rw [h1']
    simp only
    have e : sm z' y = sm y z := by
      rw [sm_cc, sm_cc]
      congr 1
      exact propext ⟨fun h => cc_cmp.eq_eq (cc_sym.1 h) h3, fun h => cc_cmp.eq_eq h3 (cc_sym.1 h)⟩
    rw [e]
    split <;> simp
theorem comp_len (O : List It) : (compactF sm O).length ≤ O.length := compactF_length sm O
theorem srcs_len {α : Type} : ∀ (R : List (List α)) (k : Nat), (srcs k R).length ≤ R.length
  | [], _ => Nat.le_refl _
  | [] :: R, k => by rw [srcs]; have := srcs_len R (k + 1); simp; omega
  | (x :: r) :: R, k => by rw [srcs]; have := srcs_len R (k + 1); simp; omega
/-- what comes out, when all is done -/
theorem group_done {L R : List (List It)} {O : List It} (h : MrgI It.cmp L [] O R) : compactF sm O = resolve L.flatten := resolve_eq h.done
end Go.Proofs.Ytflppcgonbjnmaa
namespace Go.Proofs.Ytflppcgonbjnmaa
open Go.RowKit

theorem sum_flat {α : Type} {R : List (List α)} {A B : List (List α)} {x : α} {r : List α} (e : R = A ++ (x :: r) :: B) : R.flatten.length = (A ++ r :: B).flatten.length + 1 := by
  rw [e]
  simp
  omega
/-- between two rounds -/
structure GrpI (w0 wr : World) (Hb : Nat) (L : List (List It)) (g n c : Nat) (H : List Qs) (O : List It) (R : List (List It)) (A : Option Addr) (no co : Nat) (E : List It) (m : Nat) : Prop where
  st : HSt wr w0.heap.size Hb g n c H
  mi : MrgI It.cmp L (H.map Qs.src) O R
  ow : Own wr w0.heap.size 59 7 A no co (its E)
  en : E.length = no
  ee : E = compactF sm O
  rl : R.length = L.length
  nd : (H.map Qs.q).Nodup
  mm : R.flatten.length = m
  be : Below w0.heap.size w0 wr
/-- within a round: the heap without the source at hand, whose variable is σ -/
structure GrpM (w0 W : World) (Hb g n c : Nat) (H : List Qs) (A : Option Addr) (no co : Nat) (E : List It) (s : Qs) (Aq : Option Addr) (cq : Nat) (σ : Option Nat) : Prop where
  st : HSt W w0.heap.size Hb g n c H
  ow : Own W w0.heap.size 59 7 A no co (its E)
  qb : Box W s.q 76 (.slice Aq (s.r.length + 1) cq)
  qr : Rd W w0.heap.size Aq (its (s.x :: s.r))
  qc : s.r.length + 1 ≤ cq
  ql : w0.heap.size ≤ s.q
  qn : ∀ u ∈ H, u.q ≠ s.q
  sb : ∀ a, σ = some a → W.heap[a]? = some (.cells #[.pointer (some ⟨s.q, 0, none⟩), .int .i64 s.at_] 78 (0, 0))
  be : Below w0.heap.size w0 W
section
variable {w0 W W' : World} {Hb g n c no co cq : Nat} {H : List Qs} {A Aq : Option Addr} {E : List It} {s : Qs} {σ : Option Nat}
theorem GrpM.qbox (h : GrpM w0 W Hb g n c H A no co E s Aq cq σ) : QBox W w0.heap.size s.q (s.x :: s.r) := ⟨Aq, cq, h.qb, h.qr, h.qc, h.ql⟩
theorem GrpM.below (h : GrpM w0 W Hb g n c H A no co E s Aq cq σ) (hb : Below W.heap.size W W') : GrpM w0 W' Hb g n c H A no co E s Aq cq σ :=
  ⟨h.st.below hb, h.ow.below hb, h.qb.below hb h.qb.lt, h.qr.below (hb.mono h.be.size), h.qc, h.ql, h.qn, fun a ha => by
    have h1 := h.sb a ha
    exact (hb.block a (Array.getElem?_eq_some_iff.1 h1).1).trans h1, h.be.trans (hb.mono h.be.size)⟩
theorem GrpM.withS (h : GrpM w0 W Hb g n c H A no co E s Aq cq none) {a : Nat} (hs : W.heap[a]? = some (.cells #[.pointer (some ⟨s.q, 0, none⟩), .int .i64 s.at_] 78 (0, 0))) : GrpM w0 W Hb g n c H A no co E s Aq cq (some a) :=
  ⟨h.st, h.ow, h.qb, h.qr, h.qc, h.ql, h.qn, fun a ha => by injection ha with ha; rw [← ha]; exact hs, h.be⟩
theorem HSt.grownO {B base n' c' : Nat} {xs : List Value} (h : HSt W B Hb g n c H) (ho : Own W base 59 7 A n' c' xs) (hB : B ≤ base) (hg : W.grownBy W' (blk A)) : HSt W' B Hb g n c H :=
  ⟨h.box.grown hg (fun e => ho.box_ne h.box (by decide) _ e.symm rfl), h.arr.keep (hg.block g h.arr.lt (fun e => ho.arr_ne h.arr (by decide) _ e.symm rfl)), h.len, fun s hs => by
    obtain ⟨A', c', h1, h2, h3, h4⟩ := h.ins s hs
    have := h1.lt
    exact ⟨A', c', h1.grown hg (fun e => ho.box_ne h1 (by decide) _ e.symm rfl), h2.grown hg (by omega) (fun k hk => Nat.le_trans hB (ho.lt k hk).1), h3, h4⟩, h.nq, h.nh, h.gb, h.cp, h.cm, h.hb⟩
theorem GrpM.app (h : GrpM w0 W Hb g n c H A no co E s Aq cq σ) {A' : Option Addr} {no' co' : Nat} {E' : List It} (hg : W.grownBy W' (blk A)) (ho : Own W' w0.heap.size 59 7 A' no' co' (its E')) : GrpM w0 W' Hb g n c H A' no' co' E' s Aq cq σ :=
  ⟨h.st.grownO h.ow (Nat.le_refl _) hg, ho, h.qb.grown hg (fun e => h.ow.box_ne h.qb (by decide) _ e.symm rfl), h.qr.grown hg h.be.size (fun k hk => (h.ow.lt k hk).1), h.qc, h.ql, h.qn, fun a ha => by
    have h1 := h.sb a ha
    refine (hg.block a (Array.getElem?_eq_some_iff.1 h1).1 (fun e => ?_)).trans h1
    rcases h.ow.2 with ⟨hv, _⟩ | ⟨g', cap, cur, hv, _, hg', _⟩
    · injection hv with e1
      subst e1
      cases e
    · injection hv with e1
      subst e1
      have : a = g' := by injection e
      subst this
      rw [hg'] at h1
      injection h1 with h1
      injection h1 with _ h1
      exact absurd h1 (by decide), Own.grow h.ow h.be h.be.size (Nat.le_refl _) hg⟩
/-- the source at hand is one further: what is left for the next step -/
structure GrpN (w0 W : World) (Hb g n c : Nat) (H : List Qs) (A : Option Addr) (no co : Nat) (E : List It) (s : Qs) (Aq' : Option Addr) (cq' : Nat) (σ : Nat) : Prop where
  st : HSt W w0.heap.size Hb g n c H
  ow : Own W w0.heap.size 59 7 A no co (its E)
  qb : Box W s.q 76 (.slice Aq' s.r.length cq')
  qr : Rd W w0.heap.size Aq' (its s.r)
  qc : s.r.length ≤ cq'
  ql : w0.heap.size ≤ s.q
  qn : ∀ u ∈ H, u.q ≠ s.q
  sb : W.heap[σ]? = some (.cells #[.pointer (some ⟨s.q, 0, none⟩), .int .i64 s.at_] 78 (0, 0))
  be : Below w0.heap.size w0 W
theorem Rd.its_tail {w : World} {B c : Nat} {x : It} {r : List It} (h : Rd w B A (its (x :: r))) (hc : r.length + 1 ≤ c) : Rd w B (tailA A c 1 7) (its r) := by
  unfold tailA
  split
  · have : r = [] := List.eq_nil_of_length_eq_zero (by omega)
    subst this
    exact Rd.nil
  · exact h.its_drop 1
theorem GrpM.step {σ : Nat} (h : GrpM w0 W Hb g n c H A no co E s Aq cq (some σ)) : GrpN w0 (W.setCell ⟨s.q, 0, none⟩ (.slice (tailA Aq cq 1 7) s.r.length (cq - 1))) Hb g n c H A no co E s (tailA Aq cq 1 7) (cq - 1) σ := by
  have hs := h.sb σ rfl
  have hg2 : W.grownBy (W.setCell ⟨s.q, 0, none⟩ (.slice (tailA Aq cq 1 7) s.r.length (cq - 1))) (some s.q) := ⟨rfl, rfl, rfl, by simp [World.setCell], fun k _ hk => heap_setCell_other W ⟨s.q, 0, none⟩ k _ (fun e => hk (by simp [e]))⟩
  have hqc := h.qc
  refine ⟨h.st.setq hg2 h.qn (h.qb.ne h.st.box (by decide)) (row_ne h.st.arr h.qb (by decide)) h.ql, h.ow.setCell (fun e => h.ow.box_ne h.qb (by decide) _ e rfl) _, h.qb.set _, (h.qr.its_tail h.qc).setCell h.ql _, by omega, h.ql, h.qn, (Below.heap_setCell _ _ _ _ ?_).trans hs, h.be.setCell h.ql _⟩
  show σ ≠ s.q
  rintro rfl
  have := h.qb
  unfold Box at this
  rw [this] at hs
  injection hs with hs
  injection hs with _ hs
  exact absurd hs (by decide)
end
section
variable {w0 wr W : World} {Hb : Nat} {L : List (List It)} {g n c : Nat} {H : List Qs} {O : List It} {R : List (List It)} {A : Option Addr} {no co : Nat} {E : List It} {m : Nat}
theorem GrpI.n_le (h : GrpI w0 wr Hb L g n c H O R A no co E m) : n ≤ L.length := by
  have h1 := h.mi.pm.length_eq
  have h2 := srcs_len R 0
  rw [List.length_map, h.st.len] at h1
  have := h.rl
  omega
theorem GrpI.no_le (h : GrpI w0 wr Hb L g n c H O R A no co E m) : no + m ≤ L.flatten.length := by
  have h1 := h.mi.fp.length_eq
  have h2 := comp_len O
  have h3 := h.en
  have h4 := h.mm
  rw [← h.ee] at h2
  rw [List.length_append] at h1
  omega
theorem GrpI.done (h : GrpI w0 wr Hb L g 0 c H O R A no co E m) : E = resolve L.flatten := by
  have h0 : H = [] := List.eq_nil_of_length_eq_zero h.st.len
  have h1 := h.mi
  rw [h0] at h1
  rw [h.ee]
  exact group_done h1
/-- the source that is ahead of all is taken out -/
theorem GrpI.taken {k : Nat} (h : GrpI w0 wr Hb L g (k + 1) c H O R A no co E m) {s : Qs} (hs : H[0]? = some s) {w' : World} (h1 : HSt w' w0.heap.size Hb g k c ((popL ltQ H).take k)) (hk : Kp wr w' Hb g) :
    ∃ Aq cq, GrpM w0 w' Hb g k c ((popL ltQ H).take k) A no co E s Aq cq none := by
  have hsm : s ∈ H := List.mem_of_getElem? hs
  obtain ⟨Aq, cq, a1, a2, a3, a4⟩ := hk.queue (h.st.ins s hsm) h.st
  have hp : (s :: (popL ltQ H).take k).Perm H := by
    have := popL_perm (lt := ltQ) hs
    rw [h.st.len, Nat.add_sub_cancel] at this
    exact this
  have hn := (hp.map Qs.q).nodup_iff.2 h.nd
  rw [List.map_cons, List.nodup_cons] at hn
  exact ⟨Aq, cq, h1, hk.own h.ow h.st (by decide) (by decide), a1, a2, a3, a4, fun u hu e => hn.1 (List.mem_map.2 ⟨u, hu, e⟩), fun a ha => (by cases ha), Kp.below_of h.be hk h.be.size h.st.hb h.st.gb⟩
theorem GrpI.pops {k : Nat} (h : GrpI w0 wr Hb L g (k + 1) c H O R A no co E m) {s : Qs} (hs : H[0]? = some s) {H' : List Qs} (hh : heapL (srcL It.cmp) (H'.map Qs.src) (H'.map Qs.src).length) (hp : (H'.map Qs.src).Perm (next s.src ++ ((popL ltQ H).take k).map Qs.src)) (hnd : (H'.map Qs.q).Nodup)
    {g' n' c' : Nat} (h1 : HSt W w0.heap.size Hb g' n' c' H') {A' : Option Addr} {no' co' : Nat} {E' : List It} (ho : Own W w0.heap.size 59 7 A' no' co' (its E')) (hE : E' = addE E s.x) (hn : E'.length = no') (hb : Below w0.heap.size w0 W) :
    ∃ O' R', GrpI w0 W Hb L g' n' c' H' O' R' A' no' co' E' (m - 1) ∧ 0 < m := by
  have hm0 : (H.map Qs.src)[0]? = some s.src := by rw [List.getElem?_map, hs]; rfl
  obtain ⟨A1, B1, eR, hat, hnx⟩ := h.mi.pop it_cmp hm0
  have hsum := sum_flat eR
  have hmm := h.mm
  refine ⟨O ++ [s.x], A1 ++ s.r :: B1, ⟨h1, hnx (H'.map Qs.src) hh ?_, ho, hn, ?_, ?_, hnd, ?_, hb⟩, by omega⟩
  · rw [popL_map (lt := ltQ) (lt' := srcL It.cmp) (f := Qs.src) (fun a b => rfl), List.length_map, h.st.len, Nat.add_sub_cancel, ← List.map_take]
    exact hp
  · rw [comp_snoc, ← h.ee]
    exact hE
  · rw [← h.rl, eR]
    simp
  · have : (A1 ++ s.r :: B1).flatten.length = (A1 ++ s.src.r :: B1).flatten.length := rfl
    omega
theorem GrpI.heapT {k : Nat} (h : GrpI w0 wr Hb L g (k + 1) c H O R A no co E m) {s : Qs} (hs : H[0]? = some s) : heapL (srcL It.cmp) (((popL ltQ H).take k).map Qs.src) k ∧ ((popL ltQ H).take k).length = k ∧ (s.q :: ((popL ltQ H).take k).map Qs.q).Nodup := by
  have hl := h.st.len
  have h0 : heapL (srcL It.cmp) (H.map Qs.src) (H.map Qs.src).length := h.mi.hp
  have h1 := popL_heap (src_ord it_cmp) h0 (by rw [List.length_map]; omega)
  rw [popL_map (lt := ltQ) (lt' := srcL It.cmp) (f := Qs.src) (fun a b => rfl), List.length_map, hl, Nat.add_sub_cancel, ← List.map_take] at h1
  have hp : (s :: (popL ltQ H).take k).Perm H := by
    have := popL_perm (lt := ltQ) hs
    rw [hl, Nat.add_sub_cancel] at this
    exact this
  exact ⟨h1, by rw [List.length_take, popL_len]; omega, (hp.map Qs.q).nodup_iff.2 h.nd⟩
/-- nothing is left of the list that was ahead of all -/
theorem GrpI.nextN {k : Nat} (h : GrpI w0 wr Hb L g (k + 1) c H O R A no co E m) {s : Qs} (hs : H[0]? = some s) (hr : s.r = []) {A' Aq' : Option Addr} {no' co' cq' σ : Nat} {E' : List It} (hN : GrpN w0 W Hb g k c ((popL ltQ H).take k) A' no' co' E' s Aq' cq' σ) (hE : E' = addE E s.x) (hn : E'.length = no') :
    ∃ O' R', GrpI w0 W Hb L g k c ((popL ltQ H).take k) O' R' A' no' co' E' (m - 1) ∧ 0 < m := by
  obtain ⟨t1, t2, t3⟩ := h.heapT hs
  refine h.pops hs (by rw [List.length_map, t2]; exact t1) ?_ (List.nodup_cons.1 t3).2 hN.st hN.ow hE hn hN.be
  unfold next
  rw [show s.src.r = [] from hr]
  exact List.Perm.refl _
theorem GrpN.inn {k : Nat} {A' Aq' : Option Addr} {no' co' cq' σ : Nat} {E' : List It} {H' : List Qs} {s : Qs} (h : GrpN w0 W Hb g k c H' A' no' co' E' s Aq' cq' σ) {y : It} {t : List It} (hr : s.r = y :: t) : Qs.In W w0.heap.size ⟨s.q, s.at_, y, t⟩ := by
  have h1 := h.qb
  have h2 := h.qr
  have h3 := h.qc
  rw [hr] at h1 h2 h3
  exact ⟨Aq', cq', h1, h2, h3, h.ql⟩
theorem GrpI.nextS {k : Nat} (h : GrpI w0 wr Hb L g (k + 1) c H O R A no co E m) {s : Qs} (hs : H[0]? = some s) {y : It} {t : List It} (hr : s.r = y :: t) {A' Aq' : Option Addr} {no' co' cq' σ : Nat} {E' : List It} (hN : GrpN w0 W Hb g k c ((popL ltQ H).take k) A' no' co' E' s Aq' cq' σ) (hE : E' = addE E s.x) (hn : E'.length = no')
    {W' : World} {g' c' : Nat} (h2 : HSt W' w0.heap.size Hb g' (k + 1) c' (pushL ltQ ((popL ltQ H).take k) ⟨s.q, s.at_, y, t⟩)) (hk : Kp W W' Hb g) :
    ∃ O' R', GrpI w0 W' Hb L g' (k + 1) c' (pushL ltQ ((popL ltQ H).take k) ⟨s.q, s.at_, y, t⟩) O' R' A' no' co' E' (m - 1) ∧ 0 < m := by
  obtain ⟨t1, t2, t3⟩ := h.heapT hs
  have hpm := pushL_map (lt := ltQ) (lt' := srcL It.cmp) (f := Qs.src) (fun a b => rfl) ((popL ltQ H).take k) ⟨s.q, s.at_, y, t⟩
  refine h.pops hs ?_ ?_ ?_ h2 (hk.own hN.ow hN.st (by decide) (by decide)) hE hn (Kp.below_of hN.be hk hN.be.size hN.st.hb hN.st.gb)
  · rw [← hpm]
    have := pushL_heap (src_ord it_cmp) (l := ((popL ltQ H).take k).map Qs.src) (by rw [List.length_map, t2]; exact t1) (Qs.src ⟨s.q, s.at_, y, t⟩)
    rw [(pushL_perm _ _).length_eq, List.length_cons]
    exact this
  · rw [← hpm]
    refine (pushL_perm _ _).trans ?_
    unfold next
    rw [show s.src.r = y :: t from hr]
    exact List.Perm.refl _
  · have hp : ((pushL ltQ ((popL ltQ H).take k) ⟨s.q, s.at_, y, t⟩).map Qs.q).Perm (s.q :: ((popL ltQ H).take k).map Qs.q) := (pushL_perm _ _).map Qs.q
    rw [hp.nodup_iff]
    exact t3
theorem GrpI.pos {k : Nat} (h : GrpI w0 wr Hb L g (k + 1) c H O R A no co E m) {s : Qs} (hs : H[0]? = some s) : 0 < m := by
  have hm0 : (H.map Qs.src)[0]? = some s.src := by rw [List.getElem?_map, hs]; rfl
  obtain ⟨A1, B1, eR, _, _⟩ := h.mi.pop it_cmp hm0
  have := sum_flat eR
  have := h.mm
  omega
theorem addE_nil (x : It) : addE [] x = [x] := rfl
theorem addE_last {E : List It} {z x : It} (h : E.getLast? = some z) : addE E x = if sm z x then E else E ++ [x] := by unfold addE; rw [h]
end
end Go.Proofs.Ytflppcgonbjnmaa
namespace Go.Proofs.Ytflppcgonbjnmaa
open Go.RowKit
attribute [local go_sem ↓] Go.wp_at_zero Go.wp_at_succ

theorem its_app {w : World} {ops : Array Oper} {rest : List Oper} {o : Oper} {a : Act} {Q : Exit → Act → World → Prop} (hw : Region.wanted o (yielded ops a.tmps) = true) (s x : Operand)
    (ho : o.op = .call { callee := .builtin .append, args := #[s, x], argTypes := #[32, 32] })
    (B : Nat) (A : Option Addr) (n c N : Nat) (L add : List It) (hs : a.eval s = .slice A n c) (hown : Own w B 59 7 A n c (its L)) (A2 : Option Addr) (m c2 : Nat) (hx : a.eval x = .slice A2 m c2) (hr : Rd w w.heap.size A2 (its add)) (hm : add.length = m)
    (hN : n + m = N) (hl : N ≤ 1000000) (hB : B ≤ w.heap.size)
    (h : ∀ A' c' w', Hid (Own w' B 59 7 A' N c' (its (L ++ add))) → Hid (w.grownBy w' (blk A)) → wpList Try.prog ops Q rest (a.put o.dst (.slice A' N c')) w') : wpList Try.prog ops Q (o :: rest) a w := by
  obtain ⟨i0, hi0, hz0, hz1, hz2⟩ := info_parts itemInfo
  subst hN
  refine wpList_app_g hw s x 32 ho B 59 i0 zeroItem 7 80 Try.underlying32 hi0 hz0 hz1 hz2 rfl (by decide) A n c (its L) hs hown w.heap.size A2 m c2 (its add) hx hr (by rw [its_len, hm]) (its_one add) (by unfold maxLen; omega) (by omega) hB ?_
  intro A' c' w' h1 h2 _
  exact h A' c' w' (Lib.hid (by rw [show its (L ++ add) = its L ++ its add from List.flatMap_append]; exact h1)) (Lib.hid h2)
theorem rd_madeI {w : World} {g : Nat} {T : TypeId} (x : It) {c : Array Value} (hc : c.toList = x.vals) (hg : w.heap.size = g) : Rd (w.alloc (.cells c T)) (w.alloc (.cells c T)).heap.size (some ⟨g, 0, none⟩) (its [x]) := by
  rw [← hg]
  rw [show its [x] = x.vals by simp [its]]
  refine fun _ => ⟨w.heap.size, 0, rfl, by rw [World.size_alloc]; omega, fun j hj => ?_⟩
  rw [Nat.zero_add, cell_of_row _ _ j _ _ (0, 0) (heap_alloc_new w (.cells c T)), ← Array.getElem?_toList, hc]
  exact List.getElem?_eq_getElem hj
theorem range_front {w : World} {b o : Nat} {xs ys : List Value} (h : w.rangeAt b o (xs ++ ys)) : w.rangeAt b o xs := fun j v hv => h j v (by rw [List.getElem?_append_left (List.getElem?_eq_some_iff.1 hv).1]; exact hv)
theorem It.front (x : It) : x.vals = Cl.vals x.c ++ [.int .i64 x.pos] := rfl
theorem Own.lastI {w : World} {B j c : Nat} {A : Option Addr} {E : List It} (h : Own w B 59 7 A (j + 1) c (its E)) : ∃ g z, A = some ⟨g, 0, none⟩ ∧ B ≤ g ∧ g < w.heap.size ∧ E.getLast? = some z ∧ w.rangeAt g (j * 7) (Cl.vals z.c) := by
  obtain ⟨g, S, rfl, hg, hS, hnc, hcm, hl, harr⟩ := Own.arr It.vals_len h (by omega) (by omega)
  have hj : j < E.length := by omega
  have h1 := harr.get (List.getElem?_eq_getElem hj)
  refine ⟨g, E[j], rfl, hg, harr.lt, ?_, range_front (by rw [← It.front]; exact h1)⟩
  rw [List.getLast?_eq_getElem?, hl, Nat.add_sub_cancel, List.getElem?_eq_getElem hj]
theorem IBox.cell6 {w : World} {g : Nat} {x : It} (h : IBox w g x) : w.rangeAt g 0 (Cl.vals x.c) := range_front (by rw [← It.front]; exact h.range)
theorem addE_len {E : List It} {x : It} {n : Nat} (h : E.length = n) : (addE E x).length ≤ n + 1 := by
  unfold addE
  split
  · exact Nat.succ_le_succ (Nat.zero_le _)
  · split
    · omega
    · rw [List.length_append, List.length_singleton]; omega
end Go.Proofs.Ytflppcgonbjnmaa
