/-
  The walks of slices.IndexFunc and slices.ContainsFunc at files, by any function that answers for a file.
-/
import Derived.Test.YtaeemeoffnhgfaaFiMay
namespace Go.Proofs.Ytaeemeoffnhgfaa
open Go.RowKit
attribute [local go_sem ↓] Go.wp_at_zero Go.wp_at_succ

abbrev fis (l : List Fi) : List Value := l.flatMap Fi.vals
theorem fis_len (l : List Fi) : (fis l).length = l.length * 5 := encs_length Fi.vals_len l
theorem fis_one (l : List Fi) : ∀ u ∈ fis l, u.oneCell' = true := by
  intro u hu
  obtain ⟨x, _, hx⟩ := List.mem_flatMap.1 hu
  exact x.one u hx
theorem fis_ne {l : List Fi} {k : Nat} (h : k < l.length) : fis l ≠ [] := fun e => by
  have := fis_len l
  rw [e] at this
  simp at this
  omega
theorem Rd.enc_range {α : Type} {enc : α → List Value} {s : Nat} (hs : ∀ x, (enc x).length = s) {w : World} {b o : Nat} {l : List α} (hc : ∀ j (h : j < (l.flatMap enc).length), w.cell? ⟨b, o + j, none⟩ = some (l.flatMap enc)[j]) (k : Nat) (hk : k < l.length) : w.rangeAt b (o + k * s) (enc l[k]) := fun j v hv => by
  have h1 := encs_get hs l k j hk v hv
  have h2 := (List.getElem?_eq_some_iff.1 h1).1
  rw [Nat.add_assoc, hc (k * s + j) h2]
  rw [List.getElem?_eq_getElem h2] at h1
  exact h1
/-- the number of the first one that is so; -1: there is none -/
def idx {α : Type} (q : α → Bool) (l : List α) : Int := match l.findIdx? q with
  | some i => i
  | none => -1
def noneTo {α : Type} (q : α → Bool) (l : List α) (k : Nat) : Prop := ∀ j (h : j < l.length), j < k → q l[j] = false
theorem noneTo.zero {α : Type} (q : α → Bool) (l : List α) : noneTo q l 0 := fun j h hj => by omega
theorem noneTo.succ {α : Type} {q : α → Bool} {l : List α} {k : Nat} (h : noneTo q l k) (hk : k < l.length) (hq : q l[k] = false) : noneTo q l (k + 1) := fun j hj hjk => by
  by_cases e : j = k
  · subst e; exact hq
  · exact h j hj (by omega)
theorem noneTo.hit {α : Type} {q : α → Bool} {l : List α} {k : Nat} (h : noneTo q l k) (hk : k < l.length) (hq : q l[k] = true) : (k : Int) = idx q l := by
  unfold idx
  have : l.findIdx? q = some k := by
    rw [List.findIdx?_eq_some_iff_getElem]
    exact ⟨hk, hq, fun j hj => by rw [h j (by omega) hj]; exact Bool.false_ne_true⟩
  rw [this]
theorem noneTo.miss {α : Type} {q : α → Bool} {l : List α} {k : Nat} (h : noneTo q l k) (hk : l.length ≤ k) : (-1 : Int) = idx q l := by
  unfold idx
  have : l.findIdx? q = none := by
    rw [List.findIdx?_eq_none_iff]
    intro x hx
    obtain ⟨j, hj, rfl⟩ := List.getElem_of_mem hx
    exact h j hj (by omega)
  rw [this]
theorem idx_any {α : Type} (q : α → Bool) (l : List α) : decide (0 ≤ idx q l) = l.any q := by
  unfold idx
  cases h : l.findIdx? q with
  | none =>
    rw [List.findIdx?_eq_none_iff] at h
    have : l.any q = false := by rw [List.any_eq_false]; intro x hx; rw [h x hx]; exact Bool.false_ne_true
    rw [this]
    rfl
  | some i =>
    rw [List.findIdx?_eq_some_iff_getElem] at h
    obtain ⟨hi, hq, _⟩ := h
    have : l.any q = true := List.any_eq_true.2 ⟨_, List.getElem_mem hi, hq⟩
    rw [this]
    simp

set_option maxHeartbeats 2000000 in
theorem indexFile_any (f : FuncId) (caps : Array Value) (q : Fi → Bool) (w : World) (eg : ∀ args W, (callFunc f args).run Try.prog W = .ok (.enter f args) W) (hq : ∀ x W, Below w.heap.size w W → Calls Try.prog f (#[x.agg] ++ caps) W fun e w' => e = .returned (.bool (q x)) ∧ Below W.heap.size W w') (A : Option Addr) (c : Nat) (l : List Fi) (hl : Rd w w.heap.size A (fis l)) (hlen : l.length ≤ maxLen) :
    Calls Try.prog 33 #[.slice A l.length c, .func (.func f) #[] caps] w fun e w' => e = .returned (.int .i64 (idx q l)) ∧ Below w.heap.size w w' := by
  unfold maxLen at hlen
  have HL := Lib.hid hl
  obtain ⟨N, hN⟩ : ∃ N, l.length = N := ⟨_, rfl⟩
  have HN := Lib.hid hN
  have HQ := Lib.hid hq
  rw [hN] at hlen ⊢
  clear hl hN hq
  go_enter Try.func33, Try.ntmps33
  go_wp2
  go_loopw [8] (fun vi wr => ∃ k : Nat, k ≤ N ∧ vi = .int .i64 (k : Int) ∧ Hid (noneTo q l k) ∧ Hid (Below w.heap.size w wr)) (fun vi _ => N - (intOf vi).toNat)
  case atStart => exact ⟨0, Nat.zero_le _, rfl, Lib.hid (noneTo.zero q l), Lib.hid (Below.refl _ _)⟩
  case round =>
    obtain ⟨k, hk, rfl, HU, HB⟩ := hrel
    by_cases hlt : k < N
    · have hkl : k < l.length := by rw [HN.out]; exact hlt
      have e1 : decide ((k : Int) < (N : Int)) = true := decide_eq_true (by omega)
      have k1 : (0 : Int) ≤ (k : Int) := by omega
      have k2 : (k : Int) < (N : Int) := by omega
      have hw3 : IntKind.i64.wrap ((k : Int) + 1) = ((k + 1 : Nat) : Int) := by rw [IntWalk.i64_in _ (by omega)]; omega
      obtain ⟨b, o, rfl, hb, hc⟩ := (HL.out.below HB.out).at_ (fis_ne hkl)
      have r1 := Rd.enc_range Fi.vals_len hc k hkl
      have HS := Lib.hid (fun h => HU.out.succ hkl h)
      have HH := Lib.hid (fun h => HU.out.hit hkl h)
      obtain ⟨x, hx⟩ : ∃ x, l[k] = x := ⟨_, rfl⟩
      rw [hx] at r1 HS HH
      clear hc hx
      cases hqx : q x with
      | true =>
        have HF := Lib.hid (HH.out hqx)
        go_wp2_with (first
          | (show wpList _ _ _ ({ dst := some 15, op := Op.load _ _, type := _, pos := _, after := _, guard := _ } :: _) _ _; refine wpList_load_mid rfl 23 (.tmp 14) rfl b (o + k * 5) rfl x.vals _ r1 Try.underlying23 rfl (by kernel_rfl) ?_)
          | (refine (HQ.out x _ HB.out).mono ?_; rintro e w2 ⟨rfl, hb2⟩; rw [hqx]))
        go_ret
        exact ⟨ret_int HF.out, HB.out.trans (hb2.mono HB.out.size)⟩
      | false =>
        have HF := Lib.hid (HS.out hqx)
        go_wp2_with (first
          | (show wpList _ _ _ ({ dst := some 15, op := Op.load _ _, type := _, pos := _, after := _, guard := _ } :: _) _ _; refine wpList_load_mid rfl 23 (.tmp 14) rfl b (o + k * 5) rfl x.vals _ r1 Try.underlying23 rfl (by kernel_rfl) ?_)
          | (refine (HQ.out x _ HB.out).mono ?_; rintro e w2 ⟨rfl, hb2⟩; rw [hqx]))
        exact ⟨⟨k + 1, by omega, by first | rfl | go_num, HF, Lib.hid (HB.out.trans (hb2.mono HB.out.size))⟩, by simp [intOf]; omega⟩
    · have e1 : decide ((k : Int) < (N : Int)) = false := decide_eq_false (by omega)
      have HF := Lib.hid (HU.out.miss (by rw [HN.out]; omega))
      go_wp2
      go_ret
      exact ⟨ret_int HF.out, HB.out⟩
set_option maxHeartbeats 1000000 in
theorem containsFile_any (f : FuncId) (caps : Array Value) (q : Fi → Bool) (w : World) (eg : ∀ args W, (callFunc f args).run Try.prog W = .ok (.enter f args) W) (hq : ∀ x W, Below w.heap.size w W → Calls Try.prog f (#[x.agg] ++ caps) W fun e w' => e = .returned (.bool (q x)) ∧ Below W.heap.size W w') (A : Option Addr) (c : Nat) (l : List Fi) (hl : Rd w w.heap.size A (fis l)) (hlen : l.length ≤ maxLen) :
    Calls Try.prog 28 #[.slice A l.length c, .func (.func f) #[] caps] w fun e w' => e = .returned (.bool (l.any q)) ∧ Below w.heap.size w w' := by
  have HI := Lib.hid (indexFile_any f caps q w eg hq A c l hl hlen)
  have HE := Lib.hid (idx_any q l)
  clear hq hl
  go_enter Try.func28, Try.ntmps28
  go_wp2_with (go_at_call 33; refine HI.out.mono ?_; rintro e w1 ⟨rfl, hb1⟩)
  go_ret
  exact ⟨ret_bool HE.out, hb1⟩
end Go.Proofs.Ytaeemeoffnhgfaa
