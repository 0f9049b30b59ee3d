/-
  The walks of slices.Clone, IndexFunc, ContainsFunc at the types of tablet. States and effects, plain and in memory; tablet.Find, tablet.twice. The walk of tablet.twice. The walk of slices.Delete at clients: one is taken out. No conditions.
-/
import Derived.Test.YtiiogdgnccgehaaDecode19
import Derived.Test.YtiiogdgnccgehaaJA
import Derived.ArgAppend
import Derived.Lib.AppendZeros
namespace Go.Proofs.Ytiiogdgnccgehaa
open Go.RowKit
attribute [local go_sem ↓] Go.wp_at_zero Go.wp_at_succ

theorem Rd.enc_range {α : Type} {enc : α → List Value} {s : Nat} (hs : ∀ x, (enc x).length = s) {w : World} {b o : Nat} {l : List α} (hc : ∀ j (h : j < (l.flatMap enc).length), w.cell? ⟨b, o + j, none⟩ = some (l.flatMap enc)[j]) (k : Nat) (hk : k < l.length) : w.rangeAt b (o + k * s) (enc l[k]) := fun j v hv => by
  have h1 := encs_get hs l k j hk v hv
  have h2 := (List.getElem?_eq_some_iff.1 h1).1
  rw [Nat.add_assoc, hc (k * s + j) h2]
  rw [List.getElem?_eq_getElem h2] at h1
  exact h1
/-- the number of the first one that is so; -1: there is none -/
def idx {α : Type} (q : α → Bool) (l : List α) : Int := match l.findIdx? q with
  | some i => i
  | none => -1
def noneTo {α : Type} (q : α → Bool) (l : List α) (k : Nat) : Prop := ∀ j (h : j < l.length), j < k → q l[j] = false
theorem noneTo.zero {α : Type} (q : α → Bool) (l : List α) : noneTo q l 0 := fun j h hj => by omega
theorem noneTo.succ {α : Type} {q : α → Bool} {l : List α} {k : Nat} (h : noneTo q l k) (hk : k < l.length) (hq : q l[k] = false) : noneTo q l (k + 1) := fun j hj hjk => by
  by_cases e : j = k
  · subst e; exact hq
  · exact h j hj (by omega)
theorem noneTo.hit {α : Type} {q : α → Bool} {l : List α} {k : Nat} (h : noneTo q l k) (hk : k < l.length) (hq : q l[k] = true) : (k : Int) = idx q l := by
  unfold idx
  have : l.findIdx? q = some k := by
    rw [List.findIdx?_eq_some_iff_getElem]
    exact ⟨hk, hq, fun j hj => by rw [h j (by omega) hj]; exact Bool.false_ne_true⟩
  rw [this]
theorem noneTo.miss {α : Type} {q : α → Bool} {l : List α} {k : Nat} (h : noneTo q l k) (hk : l.length ≤ k) : (-1 : Int) = idx q l := by
  unfold idx
  have : l.findIdx? q = none := by
    rw [List.findIdx?_eq_none_iff]
    intro x hx
    obtain ⟨j, hj, rfl⟩ := List.getElem_of_mem hx
    exact h j hj (by omega)
  rw [this]
theorem idx_any {α : Type} (q : α → Bool) (l : List α) : decide (0 ≤ idx q l) = l.any q := by
  unfold idx
  cases h : l.findIdx? q with
  | none =>
    rw [List.findIdx?_eq_none_iff] at h
    have : l.any q = false := by rw [List.any_eq_false]; intro x hx; rw [h x hx]; exact Bool.false_ne_true
    rw [this]
    rfl
  | some i =>
    rw [List.findIdx?_eq_some_iff_getElem] at h
    obtain ⟨hi, hq, _⟩ := h
    have : l.any q = true := List.any_eq_true.2 ⟨_, List.getElem_mem hi, hq⟩
    rw [this]
    simp

theorem jbs_ne {l : List Jb} {k : Nat} (h : k < l.length) : jbs l ≠ [] := fun e => by
  have := jbs_len l
  rw [e] at this
  simp at this
  omega
theorem kls_ne {l : List Kl} {k : Nat} (h : k < l.length) : kls l ≠ [] := fun e => by
  have := kls_len l
  rw [e] at this
  simp at this
  omega
def txs (l : List ByteArray) : List Value := l.map Value.string
theorem txs_len (l : List ByteArray) : (txs l).length = l.length * 1 := by simp [txs]
theorem Jb.vs_len (j : Jb) : j.vs.length = 3 := rfl
theorem Kl.vs_len (j : Kl) : j.vs.length = 3 := rfl
theorem Cl.vals_len (j : Cl) : j.vals.length = 6 := rfl
set_option maxHeartbeats 1000000 in
theorem cloneCells_any (A : Option Addr) (c : Nat) (l : List Cl) (w : World) (hl : Rd w w.heap.size A (vals l)) (hlen : l.length ≤ 1000000) :
    Calls Try.prog 69 #[.slice A l.length c] w fun e w' => ∃ (A' : Option Addr) (c' : Nat), e = .returned (.slice A' l.length c') ∧ OwnC w' w.heap.size A' l.length c' l ∧ Below w.heap.size w w' := by
  obtain ⟨i0, hi0, hz0, hz1, hz2⟩ := info_parts clInfo
  have hq := fun (W : World) (a : Option Addr) (n c n' c' : Nat) => Lib.run_eql_slice_nil W 23 75 a n c n' c' Try.underlying23
  have HVL := Lib.hid (vals_len6 l)
  have HONE := Lib.hid (vals_one l)
  by_cases hA : A = none
  · subst hA
    have h0 : l = [] := by
      cases l with
      | nil => rfl
      | cons x l => obtain ⟨b, o, h, _⟩ := hl.at_ (by intro e; have := HVL.out; rw [e] at this; simp at this); cases h
    subst h0
    go_enter Try.func69, Try.ntmps69
    go_wp2
    go_ret
    exact ⟨none, 0, rfl, Own.nil, Below.refl _ _⟩
  · obtain ⟨a, rfl⟩ : ∃ a, A = some a := by cases A with
      | none => exact absurd rfl hA
      | some a => exact ⟨a, rfl⟩
    clear hA
    have c1 : Own (w.alloc (.cells #[] 75)) w.heap.size 75 6 (some ⟨w.heap.size, 0, none⟩) 0 0 [] := World.ownsRow_lit w #[] 0 (Nat.le_refl _) (by simp [maxLen]) rfl
    have c2 := hl.alloc (Nat.le_refl _) (.cells #[] 75)
    have c4 : 0 + l.length ≤ maxLen := by unfold maxLen; omega
    go_enter Try.func69, Try.ntmps69
    go_wp2_with (at_builtin; go_loud (refine wpList_app _ rfl (.tmp 5) (.tmp 6) _ rfl w.heap.size 75 i0 zeroCl 6 72 Try.underlying23 hi0 hz0 hz1 hz2 rfl (by decide) (some ⟨w.heap.size, 0, none⟩) 0 0 [] rfl c1 w.heap.size (some a) l.length c (vals l) rfl c2 HVL.out HONE.out c4 (by omega) (by simp) ?_); intro A' c' w1 hown hg hat)
    go_ret
    exact ⟨A', c', by simp, by unfold OwnC; first | simpa using hown | simpa [txs] using hown, c1.grow ((Below.refl _ _).alloc (Nat.le_refl _) _) (by simp) (Nat.le_refl _) hg⟩
set_option maxHeartbeats 1000000 in
theorem cloneJobs_any (A : Option Addr) (c : Nat) (l : List Jb) (w : World) (hl : Rd w w.heap.size A (jbs l)) (hlen : l.length ≤ 1000000) :
    Calls Try.prog 75 #[.slice A l.length c] w fun e w' => ∃ (A' : Option Addr) (c' : Nat), e = .returned (.slice A' l.length c') ∧ OwnJ w' w.heap.size A' l.length c' l ∧ Below w.heap.size w w' := by
  obtain ⟨i0, hi0, hz0, hz1, hz2⟩ := info_parts jbInfo
  have hq := fun (W : World) (a : Option Addr) (n c n' c' : Nat) => Lib.run_eql_slice_nil W 44 64 a n c n' c' Try.underlying44
  have HVL := Lib.hid (jbs_len l)
  have HONE := Lib.hid (jbs_one l)
  by_cases hA : A = none
  · subst hA
    have h0 : l = [] := by
      cases l with
      | nil => rfl
      | cons x l => obtain ⟨b, o, h, _⟩ := hl.at_ (by intro e; have := HVL.out; rw [e] at this; simp at this); cases h
    subst h0
    go_enter Try.func75, Try.ntmps75
    go_wp2
    go_ret
    exact ⟨none, 0, rfl, Own.nil, Below.refl _ _⟩
  · obtain ⟨a, rfl⟩ : ∃ a, A = some a := by cases A with
      | none => exact absurd rfl hA
      | some a => exact ⟨a, rfl⟩
    clear hA
    have c1 : Own (w.alloc (.cells #[] 64)) w.heap.size 64 3 (some ⟨w.heap.size, 0, none⟩) 0 0 [] := World.ownsRow_lit w #[] 0 (Nat.le_refl _) (by simp [maxLen]) rfl
    have c2 := hl.alloc (Nat.le_refl _) (.cells #[] 64)
    have c4 : 0 + l.length ≤ maxLen := by unfold maxLen; omega
    go_enter Try.func75, Try.ntmps75
    go_wp2_with (at_builtin; go_loud (refine wpList_app _ rfl (.tmp 5) (.tmp 6) _ rfl w.heap.size 64 i0 zeroJb 3 24 Try.underlying44 hi0 hz0 hz1 hz2 rfl (by decide) (some ⟨w.heap.size, 0, none⟩) 0 0 [] rfl c1 w.heap.size (some a) l.length c (jbs l) rfl c2 HVL.out HONE.out c4 (by omega) (by simp) ?_); intro A' c' w1 hown hg hat)
    go_ret
    exact ⟨A', c', by simp, by unfold OwnJ; first | simpa using hown | simpa [txs] using hown, c1.grow ((Below.refl _ _).alloc (Nat.le_refl _) _) (by simp) (Nat.le_refl _) hg⟩
set_option maxHeartbeats 1000000 in
theorem cloneClients_any (A : Option Addr) (c : Nat) (l : List Kl) (w : World) (hl : Rd w w.heap.size A (kls l)) (hlen : l.length ≤ 1000000) :
    Calls Try.prog 70 #[.slice A l.length c] w fun e w' => ∃ (A' : Option Addr) (c' : Nat), e = .returned (.slice A' l.length c') ∧ OwnK w' w.heap.size A' l.length c' l ∧ Below w.heap.size w w' := by
  obtain ⟨i0, hi0, hz0, hz1, hz2⟩ := info_parts klInfo
  have hq := fun (W : World) (a : Option Addr) (n c n' c' : Nat) => Lib.run_eql_slice_nil W 45 107 a n c n' c' Try.underlying45
  have HVL := Lib.hid (kls_len l)
  have HONE := Lib.hid (kls_one l)
  by_cases hA : A = none
  · subst hA
    have h0 : l = [] := by
      cases l with
      | nil => rfl
      | cons x l => obtain ⟨b, o, h, _⟩ := hl.at_ (by intro e; have := HVL.out; rw [e] at this; simp at this); cases h
    subst h0
    go_enter Try.func70, Try.ntmps70
    go_wp2
    go_ret
    exact ⟨none, 0, rfl, Own.nil, Below.refl _ _⟩
  · obtain ⟨a, rfl⟩ : ∃ a, A = some a := by cases A with
      | none => exact absurd rfl hA
      | some a => exact ⟨a, rfl⟩
    clear hA
    have c1 : Own (w.alloc (.cells #[] 107)) w.heap.size 107 3 (some ⟨w.heap.size, 0, none⟩) 0 0 [] := World.ownsRow_lit w #[] 0 (Nat.le_refl _) (by simp [maxLen]) rfl
    have c2 := hl.alloc (Nat.le_refl _) (.cells #[] 107)
    have c4 : 0 + l.length ≤ maxLen := by unfold maxLen; omega
    go_enter Try.func70, Try.ntmps70
    go_wp2_with (at_builtin; go_loud (refine wpList_app _ rfl (.tmp 5) (.tmp 6) _ rfl w.heap.size 107 i0 zeroKl 3 24 Try.underlying45 hi0 hz0 hz1 hz2 rfl (by decide) (some ⟨w.heap.size, 0, none⟩) 0 0 [] rfl c1 w.heap.size (some a) l.length c (kls l) rfl c2 HVL.out HONE.out c4 (by omega) (by simp) ?_); intro A' c' w1 hown hg hat)
    go_ret
    exact ⟨A', c', by simp, by unfold OwnK; first | simpa using hown | simpa [txs] using hown, c1.grow ((Below.refl _ _).alloc (Nat.le_refl _) _) (by simp) (Nat.le_refl _) hg⟩
set_option maxHeartbeats 1000000 in
theorem cloneTexts_any (A : Option Addr) (c : Nat) (l : List ByteArray) (w : World) (hl : Rd w w.heap.size A (txs l)) (hlen : l.length ≤ 1000000) :
    Calls Try.prog 74 #[.slice A l.length c] w fun e w' => ∃ (A' : Option Addr) (c' : Nat), e = .returned (.slice A' l.length c') ∧ OwnS w' w.heap.size A' l.length c' l ∧ Below w.heap.size w w' := by
  obtain ⟨i0, hi0, hz0, hz1, hz2⟩ := info_parts textInfo
  have hq := fun (W : World) (a : Option Addr) (n c n' c' : Nat) => Lib.run_eql_slice_nil W 43 9 a n c n' c' Try.underlying43
  have HVL := Lib.hid (txs_len l)
  have HONE := Lib.hid (texts_one l)
  by_cases hA : A = none
  · subst hA
    have h0 : l = [] := by
      cases l with
      | nil => rfl
      | cons x l => obtain ⟨b, o, h, _⟩ := hl.at_ (by intro e; have := HVL.out; rw [e] at this; simp at this); cases h
    subst h0
    go_enter Try.func74, Try.ntmps74
    go_wp2
    go_ret
    exact ⟨none, 0, rfl, Own.nil, Below.refl _ _⟩
  · obtain ⟨a, rfl⟩ : ∃ a, A = some a := by cases A with
      | none => exact absurd rfl hA
      | some a => exact ⟨a, rfl⟩
    clear hA
    have c1 : Own (w.alloc (.cells #[] 9)) w.heap.size 9 1 (some ⟨w.heap.size, 0, none⟩) 0 0 [] := World.ownsRow_lit w #[] 0 (Nat.le_refl _) (by simp [maxLen]) rfl
    have c2 := hl.alloc (Nat.le_refl _) (.cells #[] 9)
    have c4 : 0 + l.length ≤ maxLen := by unfold maxLen; omega
    go_enter Try.func74, Try.ntmps74
    go_wp2_with (at_builtin; go_loud (refine wpList_app _ rfl (.tmp 5) (.tmp 6) _ rfl w.heap.size 9 i0 (.string ⟨#[]⟩) 1 16 Try.underlying43 hi0 hz0 hz1 hz2 rfl (by decide) (some ⟨w.heap.size, 0, none⟩) 0 0 [] rfl c1 w.heap.size (some a) l.length c (txs l) rfl c2 HVL.out HONE.out c4 (by omega) (by simp) ?_); intro A' c' w1 hown hg hat)
    go_ret
    exact ⟨A', c', by simp, by unfold OwnS; first | simpa using hown | simpa [txs] using hown, c1.grow ((Below.refl _ _).alloc (Nat.le_refl _) _) (by simp) (Nat.le_refl _) hg⟩
set_option maxHeartbeats 2000000 in
theorem indexJobs_any (f : FuncId) (caps : Array Value) (q : Jb → Bool) (w : World) (eg : ∀ args W, (callFunc f args).run Try.prog W = .ok (.enter f args) W) (hq : ∀ x W, Below w.heap.size w W → Calls Try.prog f (#[(Value.agg x.vs.toArray)] ++ caps) W fun e w' => e = .returned (.bool (q x)) ∧ Below W.heap.size W w') (A : Option Addr) (c : Nat) (l : List Jb) (hl : Rd w w.heap.size A (jbs l)) (hlen : l.length ≤ maxLen) :
    Calls Try.prog 51 #[.slice A l.length c, .func (.func f) #[] caps] w fun e w' => e = .returned (.int .i64 (idx q l)) ∧ Below w.heap.size w w' := by
  unfold maxLen at hlen
  have HL := Lib.hid hl
  obtain ⟨N, hN⟩ : ∃ N, l.length = N := ⟨_, rfl⟩
  have HN := Lib.hid hN
  have HQ := Lib.hid hq
  rw [hN] at hlen ⊢
  clear hl hN hq
  go_enter Try.func51, Try.ntmps51
  go_wp2
  go_loopw [8] (fun vi wr => ∃ k : Nat, k ≤ N ∧ vi = .int .i64 (k : Int) ∧ Hid (noneTo q l k) ∧ Hid (Below w.heap.size w wr)) (fun vi _ => N - (intOf vi).toNat)
  case atStart => exact ⟨0, Nat.zero_le _, rfl, Lib.hid (noneTo.zero q l), Lib.hid (Below.refl _ _)⟩
  case round =>
    obtain ⟨k, hk, rfl, HU, HB⟩ := hrel
    by_cases hlt : k < N
    · have hkl : k < l.length := by rw [HN.out]; exact hlt
      have e1 : decide ((k : Int) < (N : Int)) = true := decide_eq_true (by omega)
      have k1 : (0 : Int) ≤ (k : Int) := by omega
      have k2 : (k : Int) < (N : Int) := by omega
      have hw3 : IntKind.i64.wrap ((k : Int) + 1) = ((k + 1 : Nat) : Int) := by rw [IntWalk.i64_in _ (by omega)]; omega
      obtain ⟨b, o, rfl, hb, hc⟩ := (HL.out.below HB.out).at_ (jbs_ne hkl)
      have r1 := Rd.enc_range Jb.vs_len hc k hkl
      have HS := Lib.hid (fun h => HU.out.succ hkl h)
      have HH := Lib.hid (fun h => HU.out.hit hkl h)
      obtain ⟨x, hx⟩ : ∃ x, l[k] = x := ⟨_, rfl⟩
      rw [hx] at r1 HS HH
      clear hc hx
      cases hqx : q x with
      | true =>
        have HF := Lib.hid (HH.out hqx)
        go_wp2_with (first
          | (show wpList _ _ _ ({ dst := some 15, op := Op.load _ _, type := _, pos := _, after := _, guard := _ } :: _) _ _; refine wpList_load_mid rfl 64 (.tmp 14) rfl b (o + k * 3) rfl x.vs _ r1 Try.underlying64 rfl (by kernel_rfl) ?_)
          | (refine (HQ.out x _ HB.out).mono ?_; rintro e w2 ⟨rfl, hb2⟩; rw [hqx]))
        go_ret
        exact ⟨ret_int HF.out, HB.out.trans (hb2.mono HB.out.size)⟩
      | false =>
        have HF := Lib.hid (HS.out hqx)
        go_wp2_with (first
          | (show wpList _ _ _ ({ dst := some 15, op := Op.load _ _, type := _, pos := _, after := _, guard := _ } :: _) _ _; refine wpList_load_mid rfl 64 (.tmp 14) rfl b (o + k * 3) rfl x.vs _ r1 Try.underlying64 rfl (by kernel_rfl) ?_)
          | (refine (HQ.out x _ HB.out).mono ?_; rintro e w2 ⟨rfl, hb2⟩; rw [hqx]))
        exact ⟨⟨k + 1, by omega, by first | rfl | go_num, HF, Lib.hid (HB.out.trans (hb2.mono HB.out.size))⟩, by simp [intOf]; omega⟩
    · have e1 : decide ((k : Int) < (N : Int)) = false := decide_eq_false (by omega)
      have HF := Lib.hid (HU.out.miss (by rw [HN.out]; omega))
      go_wp2
      go_ret
      exact ⟨ret_int HF.out, HB.out⟩
set_option maxHeartbeats 2000000 in
theorem indexClients_any (f : FuncId) (caps : Array Value) (q : Kl → Bool) (w : World) (eg : ∀ args W, (callFunc f args).run Try.prog W = .ok (.enter f args) W) (hq : ∀ x W, Below w.heap.size w W → Calls Try.prog f (#[(Value.agg x.vs.toArray)] ++ caps) W fun e w' => e = .returned (.bool (q x)) ∧ Below W.heap.size W w') (A : Option Addr) (c : Nat) (l : List Kl) (hl : Rd w w.heap.size A (kls l)) (hlen : l.length ≤ maxLen) :
    Calls Try.prog 66 #[.slice A l.length c, .func (.func f) #[] caps] w fun e w' => e = .returned (.int .i64 (idx q l)) ∧ Below w.heap.size w w' := by
  unfold maxLen at hlen
  have HL := Lib.hid hl
  obtain ⟨N, hN⟩ : ∃ N, l.length = N := ⟨_, rfl⟩
  have HN := Lib.hid hN
  have HQ := Lib.hid hq
  rw [hN] at hlen ⊢
  clear hl hN hq
  go_enter Try.func66, Try.ntmps66
  go_wp2
  go_loopw [8] (fun vi wr => ∃ k : Nat, k ≤ N ∧ vi = .int .i64 (k : Int) ∧ Hid (noneTo q l k) ∧ Hid (Below w.heap.size w wr)) (fun vi _ => N - (intOf vi).toNat)
  case atStart => exact ⟨0, Nat.zero_le _, rfl, Lib.hid (noneTo.zero q l), Lib.hid (Below.refl _ _)⟩
  case round =>
    obtain ⟨k, hk, rfl, HU, HB⟩ := hrel
    by_cases hlt : k < N
    · have hkl : k < l.length := by rw [HN.out]; exact hlt
      have e1 : decide ((k : Int) < (N : Int)) = true := decide_eq_true (by omega)
      have k1 : (0 : Int) ≤ (k : Int) := by omega
      have k2 : (k : Int) < (N : Int) := by omega
      have hw3 : IntKind.i64.wrap ((k : Int) + 1) = ((k + 1 : Nat) : Int) := by rw [IntWalk.i64_in _ (by omega)]; omega
      obtain ⟨b, o, rfl, hb, hc⟩ := (HL.out.below HB.out).at_ (kls_ne hkl)
      have r1 := Rd.enc_range Kl.vs_len hc k hkl
      have HS := Lib.hid (fun h => HU.out.succ hkl h)
      have HH := Lib.hid (fun h => HU.out.hit hkl h)
      obtain ⟨x, hx⟩ : ∃ x, l[k] = x := ⟨_, rfl⟩
      rw [hx] at r1 HS HH
      clear hc hx
      cases hqx : q x with
      | true =>
        have HF := Lib.hid (HH.out hqx)
        go_wp2_with (first
          | (show wpList _ _ _ ({ dst := some 15, op := Op.load _ _, type := _, pos := _, after := _, guard := _ } :: _) _ _; refine wpList_load_mid rfl 107 (.tmp 14) rfl b (o + k * 3) rfl x.vs _ r1 Try.underlying107 rfl (by kernel_rfl) ?_)
          | (refine (HQ.out x _ HB.out).mono ?_; rintro e w2 ⟨rfl, hb2⟩; rw [hqx]))
        go_ret
        exact ⟨ret_int HF.out, HB.out.trans (hb2.mono HB.out.size)⟩
      | false =>
        have HF := Lib.hid (HS.out hqx)
        go_wp2_with (first
          | (show wpList _ _ _ ({ dst := some 15, op := Op.load _ _, type := _, pos := _, after := _, guard := _ } :: _) _ _; refine wpList_load_mid rfl 107 (.tmp 14) rfl b (o + k * 3) rfl x.vs _ r1 Try.underlying107 rfl (by kernel_rfl) ?_)
          | (refine (HQ.out x _ HB.out).mono ?_; rintro e w2 ⟨rfl, hb2⟩; rw [hqx]))
        exact ⟨⟨k + 1, by omega, by first | rfl | go_num, HF, Lib.hid (HB.out.trans (hb2.mono HB.out.size))⟩, by simp [intOf]; omega⟩
    · have e1 : decide ((k : Int) < (N : Int)) = false := decide_eq_false (by omega)
      have HF := Lib.hid (HU.out.miss (by rw [HN.out]; omega))
      go_wp2
      go_ret
      exact ⟨ret_int HF.out, HB.out⟩
set_option maxHeartbeats 2000000 in
theorem indexCells_any (f : FuncId) (caps : Array Value) (q : Cl → Bool) (w : World) (eg : ∀ args W, (callFunc f args).run Try.prog W = .ok (.enter f args) W) (hq : ∀ x W, Below w.heap.size w W → Calls Try.prog f (#[x.agg] ++ caps) W fun e w' => e = .returned (.bool (q x)) ∧ Below W.heap.size W w') (A : Option Addr) (c : Nat) (l : List Cl) (hl : Rd w w.heap.size A (vals l)) (hlen : l.length ≤ maxLen) :
    Calls Try.prog 93 #[.slice A l.length c, .func (.func f) #[] caps] w fun e w' => e = .returned (.int .i64 (idx q l)) ∧ Below w.heap.size w w' := by
  unfold maxLen at hlen
  have HL := Lib.hid hl
  obtain ⟨N, hN⟩ : ∃ N, l.length = N := ⟨_, rfl⟩
  have HN := Lib.hid hN
  have HQ := Lib.hid hq
  rw [hN] at hlen ⊢
  clear hl hN hq
  go_enter Try.func93, Try.ntmps93
  go_wp2
  go_loopw [8] (fun vi wr => ∃ k : Nat, k ≤ N ∧ vi = .int .i64 (k : Int) ∧ Hid (noneTo q l k) ∧ Hid (Below w.heap.size w wr)) (fun vi _ => N - (intOf vi).toNat)
  case atStart => exact ⟨0, Nat.zero_le _, rfl, Lib.hid (noneTo.zero q l), Lib.hid (Below.refl _ _)⟩
  case round =>
    obtain ⟨k, hk, rfl, HU, HB⟩ := hrel
    by_cases hlt : k < N
    · have hkl : k < l.length := by rw [HN.out]; exact hlt
      have e1 : decide ((k : Int) < (N : Int)) = true := decide_eq_true (by omega)
      have k1 : (0 : Int) ≤ (k : Int) := by omega
      have k2 : (k : Int) < (N : Int) := by omega
      have hw3 : IntKind.i64.wrap ((k : Int) + 1) = ((k + 1 : Nat) : Int) := by rw [IntWalk.i64_in _ (by omega)]; omega
      obtain ⟨b, o, rfl, hb, hc⟩ := (HL.out.below HB.out).at_ (vals_ne hkl)
      have r1 := Rd.enc_range Cl.vals_len hc k hkl
      have HS := Lib.hid (fun h => HU.out.succ hkl h)
      have HH := Lib.hid (fun h => HU.out.hit hkl h)
      obtain ⟨x, hx⟩ : ∃ x, l[k] = x := ⟨_, rfl⟩
      rw [hx] at r1 HS HH
      clear hc hx
      cases hqx : q x with
      | true =>
        have HF := Lib.hid (HH.out hqx)
        go_wp2_with (first
          | (show wpList _ _ _ ({ dst := some 15, op := Op.load _ _, type := _, pos := _, after := _, guard := _ } :: _) _ _; refine wpList_load_mid rfl 75 (.tmp 14) rfl b (o + k * 6) rfl x.vals _ r1 Try.underlying75 rfl (by kernel_rfl) ?_)
          | (refine (HQ.out x _ HB.out).mono ?_; rintro e w2 ⟨rfl, hb2⟩; rw [hqx]))
        go_ret
        exact ⟨ret_int HF.out, HB.out.trans (hb2.mono HB.out.size)⟩
      | false =>
        have HF := Lib.hid (HS.out hqx)
        go_wp2_with (first
          | (show wpList _ _ _ ({ dst := some 15, op := Op.load _ _, type := _, pos := _, after := _, guard := _ } :: _) _ _; refine wpList_load_mid rfl 75 (.tmp 14) rfl b (o + k * 6) rfl x.vals _ r1 Try.underlying75 rfl (by kernel_rfl) ?_)
          | (refine (HQ.out x _ HB.out).mono ?_; rintro e w2 ⟨rfl, hb2⟩; rw [hqx]))
        exact ⟨⟨k + 1, by omega, by first | rfl | go_num, HF, Lib.hid (HB.out.trans (hb2.mono HB.out.size))⟩, by simp [intOf]; omega⟩
    · have e1 : decide ((k : Int) < (N : Int)) = false := decide_eq_false (by omega)
      have HF := Lib.hid (HU.out.miss (by rw [HN.out]; omega))
      go_wp2
      go_ret
      exact ⟨ret_int HF.out, HB.out⟩
set_option maxHeartbeats 1000000 in
theorem containsCells_any (f : FuncId) (caps : Array Value) (q : Cl → Bool) (w : World) (eg : ∀ args W, (callFunc f args).run Try.prog W = .ok (.enter f args) W) (hq : ∀ x W, Below w.heap.size w W → Calls Try.prog f (#[x.agg] ++ caps) W fun e w' => e = .returned (.bool (q x)) ∧ Below W.heap.size W w') (A : Option Addr) (c : Nat) (l : List Cl) (hl : Rd w w.heap.size A (vals l)) (hlen : l.length ≤ maxLen) :
    Calls Try.prog 83 #[.slice A l.length c, .func (.func f) #[] caps] w fun e w' => e = .returned (.bool (l.any q)) ∧ Below w.heap.size w w' := by
  have HI := Lib.hid (indexCells_any f caps q w eg hq A c l hl hlen)
  have HE := Lib.hid (idx_any q l)
  clear hq hl
  go_enter Try.func83, Try.ntmps83
  go_wp2_with (go_at_call 93; refine HI.out.mono ?_; rintro e w1 ⟨rfl, hb1⟩)
  go_ret
  exact ⟨ret_bool HE.out, hb1⟩
end Go.Proofs.Ytiiogdgnccgehaa
namespace Go.Proofs.Ytiiogdgnccgehaa
open Go.RowKit
attribute [local go_sem ↓] Go.wp_at_zero Go.wp_at_succ

structure Sta where
  index : Nat
  epoch : Nat
  borders : List ByteArray
  jobs : List Jb
  clients : List Kl
/-- where a state's lists lie -/
structure SA where
  A : Option Addr
  a : Nat
  D : Option Addr
  d : Nat
  F : Option Addr
  f : Nat
def Sta.vs (s : Sta) (x : SA) : List Value := [.int .u64 s.index, .int .u64 s.epoch, .slice x.A s.borders.length x.a, .slice x.D s.jobs.length x.d, .slice x.F s.clients.length x.f]
structure StaIn (w : World) (B : Nat) (s : Sta) (x : SA) : Prop where
  rb : Rd w B x.A (txs s.borders)
  rj : Rd w B x.D (jbs s.jobs)
  rc : Rd w B x.F (kls s.clients)
theorem StaIn.grown {w w' : World} {s : Sta} {x : SA} (h : StaIn w w.heap.size s x) (hb : Below w.heap.size w w') : StaIn w' w'.heap.size s x :=
  ⟨(h.rb.below hb).more hb.size, (h.rj.below hb).more hb.size, (h.rc.below hb).more hb.size⟩
structure Eff where
  e : Int
  done : Bool
  cells : List Cl
  files : List Nat
def Eff.vs (x : Eff) (A : Option Addr) (k : Nat) (D : Option Addr) (m : Nat) : List Value := [.int .i64 x.e, .bool x.done, .slice A x.cells.length k, .slice D x.files.length m]
/-- an effect's lists: the cells are its own -/
structure EffIn (w : World) (B : Nat) (x : Eff) (A : Option Addr) (k : Nat) (D : Option Addr) (m : Nat) : Prop where
  oc : OwnC w B A x.cells.length k x.cells
  rf : Rd w w.heap.size D (u32s x.files)
theorem eff_nil (w : World) (B : Nat) (e : Int) (d : Bool) : EffIn w B ⟨e, d, [], []⟩ none 0 none 0 := ⟨OwnC.nil, Rd.nil⟩

/-- the job of that number -/
def hasId (id : Nat) (j : Jb) : Bool := decide (j.id = id)
def findS (l : List Jb) (id : Nat) : Jb × Bool := match l.find? (hasId id) with
  | some j => (j, true)
  | none => (⟨0, 0, 0⟩, false)
theorem idx_find {α : Type} (q : α → Bool) (l : List α) : (idx q l = -1 ∧ l.find? q = none) ∨ ∃ (k : Nat) (h : k < l.length), idx q l = (k : Int) ∧ l.find? q = some l[k] ∧ l.findIdx? q = some k := by
  unfold idx
  cases h : l.findIdx? q with
  | none =>
    left
    refine ⟨rfl, ?_⟩
    rw [List.findIdx?_eq_none_iff] at h
    rw [List.find?_eq_none]
    intro x hx
    rw [h x hx]
    exact Bool.false_ne_true
  | some k =>
    right
    obtain ⟨hk, hq, hl⟩ := List.findIdx?_eq_some_iff_getElem.1 h
    refine ⟨k, hk, rfl, ?_, rfl⟩
    rw [List.find?_eq_some_iff_getElem]
    refine ⟨hq, k, hk, rfl, fun j hj => ?_⟩
    have := hl j hj
    cases hqj : q l[j]
    · rfl
    · exact absurd hqj this
theorem ofnat_beq (a b : Nat) : ((a : Int) == (b : Int)) = decide (a = b) := by
  by_cases h : a = b
  · simp [h]
  · have : ¬ (a : Int) = (b : Int) := by omega
    simp [h, this]
set_option maxHeartbeats 1000000 in
theorem jobId_any (j : Jb) (g id : Nat) (w : World) (hc : w.cell? ⟨g, 0, none⟩ = some (.int .u64 id)) (hg : g < w.heap.size) :
    Calls Try.prog 52 (#[.agg j.vs.toArray] ++ #[.pointer (some ⟨g, 0, none⟩)]) w fun e w' => e = .returned (.bool (hasId id j)) ∧ Below w.heap.size w w' := by
  have hc2 : ∀ o : Obj, (w.alloc o).cell? ⟨g, 0, none⟩ = some (.int .u64 id) := fun o => (World.cell?_alloc_lt w o ⟨g, 0, none⟩ hg).trans hc
  have he := ofnat_beq j.id id
  unfold hasId
  obtain ⟨i, s, q⟩ := j
  simp only at he
  show Calls Try.prog _ #[.agg #[.int .u64 i, .int .u32 s, .int .u64 q], .pointer (some ⟨g, 0, none⟩)] w _
  go_enter Try.func52, Try.ntmps52
  go_wp2
  go_ret
  exact ⟨rfl, below_al w _⟩
set_option maxRecDepth 20000 in
set_option maxHeartbeats 4000000 in
theorem find_any (s : Sta) (x : SA) (id : Nat) (w : World) (hin : StaIn w w.heap.size s x) (hl : s.jobs.length ≤ 1000) :
    Calls Try.prog 24 #[.agg (s.vs x).toArray, .int .u64 id] w fun e w' => e = .returned (.tuple #[.agg (findS s.jobs id).1.vs.toArray, .bool (findS s.jobs id).2]) ∧ Below w.heap.size w w' := by
  obtain ⟨index, epoch, borders, jobs, clients⟩ := s
  obtain ⟨A, a, D, d, F, f⟩ := x
  have hrj := hin.rj
  simp only at hrj hl
  clear hin
  unfold Sta.vs
  obtain ⟨W0, hW0⟩ : ∃ W0, ((w.alloc (.cells #[.int .u64 index, .int .u64 epoch, .slice A borders.length a, .slice D jobs.length d, .slice F clients.length f] 47)).alloc (.cells #[.int .u64 id] 22)).alloc (.cells #[.int .u64 0, .int .u32 0, .int .u64 0] 64) = W0 := ⟨_, rfl⟩
  have hs1 : (w.alloc (.cells #[.int .u64 index, .int .u64 epoch, .slice A borders.length a, .slice D jobs.length d, .slice F clients.length f] 47)).heap.size = w.heap.size + 1 := World.size_alloc _ _
  have hs2 : ((w.alloc (.cells #[.int .u64 index, .int .u64 epoch, .slice A borders.length a, .slice D jobs.length d, .slice F clients.length f] 47)).alloc (.cells #[.int .u64 id] 22)).heap.size = w.heap.size + 2 := by rw [World.size_alloc, hs1]
  have hs0 : W0.heap.size = w.heap.size + 3 := by rw [← hW0, World.size_alloc, hs2]
  have hbA : Below w.heap.size w W0 := by
    rw [← hW0]
    exact (below_al2 w _ _).trans ((below_al _ _).mono (by rw [hs2]; omega))
  have hI : Blk 22 W0 (w.heap.size + 1) [.int .u64 id] := by
    rw [← hW0]
    have h := Blk.new 22 (w.alloc (.cells #[.int .u64 index, .int .u64 epoch, .slice A borders.length a, .slice D jobs.length d, .slice F clients.length f] 47)) [.int .u64 id]
    rw [hs1] at h
    exact h.below (below_al _ _) h.lt
  have hZ : Blk 64 W0 (w.heap.size + 2) [.int .u64 0, .int .u32 0, .int .u64 0] := by
    rw [← hW0]
    have h := Blk.new 64 ((w.alloc (.cells #[.int .u64 index, .int .u64 epoch, .slice A borders.length a, .slice D jobs.length d, .slice F clients.length f] 47)).alloc (.cells #[.int .u64 id] 22)) [.int .u64 0, .int .u32 0, .int .u64 0]
    rw [hs2] at h
    exact h
  have hS : Blk 47 W0 w.heap.size [.int .u64 index, .int .u64 epoch, .slice A borders.length a, .slice D jobs.length d, .slice F clients.length f] := by
    rw [← hW0]
    have h := Blk.new 47 w [.int .u64 index, .int .u64 epoch, .slice A borders.length a, .slice D jobs.length d, .slice F clients.length f]
    have h1 : Below (w.heap.size + 1) _ _ := (below_al (w.alloc (.cells [Value.int .u64 index, .int .u64 epoch, .slice A borders.length a, .slice D jobs.length d, .slice F clients.length f].toArray 47)) (.cells #[.int .u64 id] 22)).mono (by rw [World.size_alloc]; omega)
    have h2 := h.below h1 (Nat.lt_succ_self _)
    exact h2.below (below_al _ _) h2.lt
  have HIX := Lib.hid (indexJobs_any 52 #[.pointer (some ⟨w.heap.size + 1, 0, none⟩)] (hasId id) W0 (fun args W => by kernel_rfl) (fun y W hb => jobId_any y _ id W ((hb.cell (p := ⟨w.heap.size + 1, 0, none⟩) hI.lt).trans (hI.cell (j := 0) rfl)) (Nat.lt_of_lt_of_le hI.lt hb.size)) D d jobs ((hrj.below hbA).more hbA.size) (by unfold maxLen; omega))
  have HBA := Lib.hid hbA
  have HS := Lib.hid hS
  have HZ := Lib.hid hZ
  have HRJ := Lib.hid hrj
  have HS0 := Lib.hid hs0
  have HW0 := Lib.hid hW0
  have c3 := hS.cell (j := 3) rfl
  clear hbA hI hS hZ hrj hs0 hs1 hs2 hW0
  rcases idx_find (hasId id) jobs with ⟨h1, h2⟩ | ⟨k, hk, h1, h2, _⟩
  · have HR := Lib.hid (show findS jobs id = (⟨0, 0, 0⟩, false) by unfold findS; rw [h2])
    rw [h1] at HIX
    go_enter Try.func24, Try.ntmps24
    go_wp2_with (first
      | (go_at_call 51; rw [HW0.out]; refine (HIX.out).mono ?_; rintro e w1 ⟨rfl, hb⟩; have HB1 := Lib.hid hb; have HZ1 := Lib.hid (HZ.out.below hb HZ.out.lt))
      | (show wpList _ _ _ ({ dst := none, op := Op.store _ (Operand.tmp 4) _, type := _, pos := _, after := _, guard := _ } :: _) _ _; refine wpList_store_mid rfl 64 (.tmp 4) (.tmp 13) rfl (w.heap.size + 1 + 1) 0 #[.int .u64 0, .int .u32 0, .int .u64 0] rfl rfl (HZ1.out.there 3 (Nat.le_refl _)) (by kernel_rfl) (by simp [Value.oneCell']) ?_; refine HZ1.out.setW [.int .u64 0, .int .u32 0, .int .u64 0] rfl ?_; intro w2 HZ2 HG2))
    (try simp only [Exit.inBlock, Exit.then])
    refine bodyPost_ret (blk_results rfl Try.underlying64 rfl _ _ (w.heap.size + 1 + 1) _ (by kernel_rfl) _ rfl rfl HZ2.out) rfl ?_
    have hb2 : Below w.heap.size w w2 := below_grown (HBA.out.trans (hb.mono HBA.out.size)) (Nat.le_trans HBA.out.size hb.size) HG2.out (by omega)
    exact ⟨by rw [HR.out]; rfl, hb2⟩
  · have HR := Lib.hid (show findS jobs id = (jobs[k], true) by unfold findS; rw [h2])
    rw [h1] at HIX
    obtain ⟨y, hy⟩ : ∃ y, jobs[k] = y := ⟨_, rfl⟩
    rw [hy] at HR
    have HY := Lib.hid hy
    have HK := Lib.hid hk
    clear h1 h2 hy
    have k0 : decide ((k : Int) < 0) = false := decide_eq_false (by omega)
    have k1 : (0 : Int) ≤ (k : Int) := by omega
    have k2 : (k : Int) < (jobs.length : Int) := by omega
    go_enter Try.func24, Try.ntmps24
    obtain ⟨b, o, hA, hb0, hc⟩ := HRJ.out.at_ (jbs_ne hk)
    subst hA
    have r1 := Rd.enc_range Jb.vs_len hc k hk
    rw [HY.out] at r1
    have R1 := Lib.hid r1
    have HB0 := Lib.hid hb0
    clear hc r1 hb0
    go_wp2_with (first
      | (go_at_call 51; rw [HW0.out]; refine (HIX.out).mono ?_; rintro e w1 ⟨rfl, hb⟩; have HB1 := Lib.hid hb; have HZ1 := Lib.hid (HZ.out.below hb HZ.out.lt); have HS1 := Lib.hid (HS.out.below hb HS.out.lt); have d3 := HS1.out.cell (j := 3) rfl; have HR1 := Lib.hid (rangeAt_below R1.out (HBA.out.trans (hb.mono HBA.out.size)) HB0.out))
      | (show wpList _ _ _ ({ dst := some 18, op := Op.load _ _, type := _, pos := _, after := _, guard := _ } :: _) _ _; refine wpList_load_mid rfl 64 (.tmp 17) rfl b (o + k * 3) rfl y.vs _ HR1.out Try.underlying64 rfl (by kernel_rfl) ?_)
      | (show wpList _ _ _ ({ dst := none, op := Op.store _ (Operand.tmp 4) _, type := _, pos := _, after := _, guard := _ } :: _) _ _; refine wpList_store_mid rfl 64 (.tmp 4) (.tmp 18) rfl (w.heap.size + 1 + 1) 0 y.vs.toArray rfl rfl (HZ1.out.there 3 (Nat.le_refl _)) (by kernel_rfl) (by simp [Value.oneCell', Jb.vs]) ?_; refine HZ1.out.setW y.vs rfl ?_; intro w2 HZ2 HG2))
    (try simp only [Exit.inBlock, Exit.then])
    refine bodyPost_ret (blk_results rfl Try.underlying64 rfl _ _ (w.heap.size + 1 + 1) _ (by kernel_rfl) _ rfl rfl HZ2.out) rfl ?_
    have hb2 : Below w.heap.size w w2 := below_grown (HBA.out.trans (hb.mono HBA.out.size)) (Nat.le_trans HBA.out.size hb.size) HG2.out (by omega)
    exact ⟨by rw [HR.out]; rfl, hb2⟩
end Go.Proofs.Ytiiogdgnccgehaa
namespace Go.Proofs.Ytiiogdgnccgehaa
open Go.RowKit
attribute [local go_sem ↓] Go.wp_at_zero Go.wp_at_succ

def dupAt (l : List Cl) (i : Nat) : Bool := match l[i]? with
  | some c => (l.take i).any fun x => x.same c
  | none => false
/-- two cells have one coordinate -/
def twiceL (l : List Cl) : Bool := (List.range l.length).any (dupAt l)
theorem dupAt_at {l : List Cl} {i : Nat} (h : i < l.length) : dupAt l i = (l.take i).any fun x => x.same l[i] := by
  unfold dupAt
  rw [List.getElem?_eq_getElem h]
theorem twiceL_hit {l : List Cl} {i : Nat} (h : i < l.length) (hd : dupAt l i = true) : twiceL l = true := List.any_eq_true.2 ⟨i, List.mem_range.2 h, hd⟩
theorem twiceL_miss {l : List Cl} (hd : ∀ i, i < l.length → dupAt l i = false) : twiceL l = false := by
  unfold twiceL
  rw [List.any_eq_false]
  intro i hi
  rw [hd i (List.mem_range.1 hi)]
  exact Bool.false_ne_true
theorem vals_take (l : List Cl) (k : Nat) : (vals l).take (k * 6) = vals (l.take k) := by
  induction l generalizing k with
  | nil => simp [vals]
  | cons c l ih =>
    cases k with
    | zero => simp [vals]
    | succ k =>
      have h1 : vals (c :: l) = c.vals ++ vals l := by simp [vals]
      have h2 : vals (c :: l.take k) = c.vals ++ vals (l.take k) := by simp [vals]
      rw [List.take_succ_cons, h1, h2, ← ih k, List.take_append, List.take_of_length_le (by rw [Cl.vals_len]; omega), Cl.vals_len]
      congr 2
      omega
set_option maxHeartbeats 1000000 in
theorem twiceCell_any (x c : Cl) (g : Nat) (w : World) (h : CBox w g c) :
    Calls Try.prog 84 (#[x.agg] ++ #[.pointer (some ⟨g, 0, none⟩)]) w fun e w' => e = .returned (.bool (x.same c)) ∧ Below w.heap.size w w' := by
  have HB := Lib.hid (below_al w (.cells #[.string x.row, .string x.col, .int .u64 x.ts, .int .u64 x.seq, .bool x.del, .string x.val] 75))
  have HR := Lib.hid (h.below HB.out h.lt).range
  have HC := Lib.hid (cellSame_any x c (w.alloc (.cells #[.string x.row, .string x.col, .int .u64 x.ts, .int .u64 x.seq, .bool x.del, .string x.val] 75)))
  show Calls Try.prog _ #[x.agg, .pointer (some ⟨g, 0, none⟩)] w _
  unfold Cl.agg
  go_enter Try.func84, Try.ntmps84
  go_wp2_with (first
    | (show wpList _ _ _ ({ dst := some 5, op := Op.load _ _, type := _, pos := _, after := _, guard := _ } :: _) _ _; refine wpList_load_mid rfl 75 (.tmp 1) rfl g 0 rfl c.vals _ HR.out Try.underlying75 rfl (by kernel_rfl) ?_)
    | (go_at_call 85; refine HC.out.mono ?_; rintro e w1 ⟨rfl, hb1⟩))
  go_ret
  exact ⟨rfl, HB.out.trans (hb1.mono HB.out.size)⟩
set_option maxRecDepth 20000 in
set_option maxHeartbeats 4000000 in
theorem twice_any (A : Option Addr) (c : Nat) (l : List Cl) (w : World) (hl : Rd w w.heap.size A (vals l)) (hlen : l.length ≤ c) (hcap : c ≤ maxLen) :
    Calls Try.prog 68 #[.slice A l.length c] w fun e w' => e = .returned (.bool (twiceL l)) ∧ Below w.heap.size w w' := by
  unfold maxLen at hcap
  have HL := Lib.hid hl
  obtain ⟨N, hN⟩ : ∃ N, l.length = N := ⟨_, rfl⟩
  have HN := Lib.hid hN
  rw [hN] at hlen ⊢
  clear hl hN
  go_enter Try.func68, Try.ntmps68
  go_wp2
  go_loopw [7] (fun vi wr => ∃ k : Nat, k ≤ N ∧ vi = .int .i64 (k : Int) ∧ Hid (∀ i, i < k → dupAt l i = false) ∧ Hid (Below w.heap.size w wr)) (fun vi _ => N - (intOf vi).toNat)
  case atStart => exact ⟨0, Nat.zero_le _, rfl, Lib.hid (fun i h => by omega), Lib.hid (Below.refl _ _)⟩
  case round =>
    obtain ⟨k, hk, rfl, HU, HB⟩ := hrel
    by_cases hlt : k < N
    · have hkl : k < l.length := by rw [HN.out]; exact hlt
      have e1 : decide ((k : Int) < (N : Int)) = true := decide_eq_true (by omega)
      have k1 : (0 : Int) ≤ (k : Int) := by omega
      have k2 : (k : Int) < (N : Int) := by omega
      have k3 : (k : Int) ≤ (c : Int) := by omega
      have k4 : k ≤ c := by omega
      have hw3 : IntKind.i64.wrap ((k : Int) + 1) = ((k + 1 : Nat) : Int) := by rw [IntWalk.i64_in _ (by omega)]; omega
      rename World => wr
      have HRL := Lib.hid ((HL.out.below HB.out).more HB.out.size)
      obtain ⟨b, o, rfl, hb, hc⟩ := (HL.out.below HB.out).at_ (vals_ne hkl)
      have r1 := Rd.enc_range Cl.vals_len hc k hkl
      obtain ⟨x, hx⟩ : ∃ x, l[k] = x := ⟨_, rfl⟩
      have HX := Lib.hid hx
      rw [hx] at r1
      have HR1 := Lib.hid r1
      have hq : (l.take k).length = k := by rw [List.length_take]; omega
      have hct := fun (W1 : World) (hx1 : Blk 75 W1 wr.heap.size x.vals) (hb1 : Below wr.heap.size wr W1) => containsCells_any 84 #[.pointer (some ⟨wr.heap.size, 0, none⟩)] (fun y => y.same x) W1 (fun args W => by kernel_rfl) (fun y W hbw => twiceCell_any y x wr.heap.size W (hx1.below hbw hx1.lt)) (some ⟨b, o, none⟩) c (l.take k) (by rw [← vals_take]; exact (((HRL.out.below hb1).more hb1.size).take (k * 6))) (by rw [hq]; unfold maxLen; omega)
      simp only [hq] at hct
      have HD := Lib.hid (show dupAt l k = (l.take k).any fun y => y.same x by rw [dupAt_at hkl, hx])
      obtain ⟨q, hqq⟩ : ∃ q, ((l.take k).any fun y => y.same x) = q := ⟨_, rfl⟩
      rw [hqq] at HD
      simp only [hqq] at hct
      have HCT := Lib.hid hct
      clear hc hx r1 hb hq hct hqq
      cases q with
      | true =>
        go_wp2_with (first
          | (show wpList _ _ _ ({ dst := some 11, op := Op.load _ _, type := _, pos := _, after := _, guard := _ } :: _) _ _; refine wpList_load_mid rfl 75 (.tmp 10) rfl b (o + k * 6) rfl x.vals _ HR1.out Try.underlying75 rfl (by kernel_rfl) ?_)
          | (show wpList _ _ _ ({ dst := none, op := Op.store _ (Operand.tmp 4) _, type := _, pos := _, after := _, guard := _ } :: _) _ _; refine wpList_store_mid rfl 75 (.tmp 4) (.tmp 11) rfl wr.heap.size 0 x.vals.toArray rfl rfl (there_madeB 75 wr zv 6 (Nat.le_refl _)) (by kernel_rfl) (by simp [Value.oneCell', Cl.vals]) ?_; refine Blk.madeW 75 wr zv x.vals rfl ?_; intro w1 HX1 HBW)
          | (go_at_call 83; go_loud (refine (HCT.out _ HX1.out HBW.out).mono ?_); rintro e w2 ⟨rfl, hb2⟩))
        go_ret
        exact ⟨by rw [twiceL_hit hkl HD.out]; rfl, HB.out.trans ((HBW.out.trans (hb2.mono HBW.out.size)).mono HB.out.size)⟩
      | false =>
        have HU2 := Lib.hid (fun i (h : i < k + 1) => show dupAt l i = false by
          by_cases e : i = k
          · subst e; exact HD.out
          · exact HU.out i (by omega))
        go_wp2_with (first
          | (show wpList _ _ _ ({ dst := some 11, op := Op.load _ _, type := _, pos := _, after := _, guard := _ } :: _) _ _; refine wpList_load_mid rfl 75 (.tmp 10) rfl b (o + k * 6) rfl x.vals _ HR1.out Try.underlying75 rfl (by kernel_rfl) ?_)
          | (show wpList _ _ _ ({ dst := none, op := Op.store _ (Operand.tmp 4) _, type := _, pos := _, after := _, guard := _ } :: _) _ _; refine wpList_store_mid rfl 75 (.tmp 4) (.tmp 11) rfl wr.heap.size 0 x.vals.toArray rfl rfl (there_madeB 75 wr zv 6 (Nat.le_refl _)) (by kernel_rfl) (by simp [Value.oneCell', Cl.vals]) ?_; refine Blk.madeW 75 wr zv x.vals rfl ?_; intro w1 HX1 HBW)
          | (go_at_call 83; go_loud (refine (HCT.out _ HX1.out HBW.out).mono ?_); rintro e w2 ⟨rfl, hb2⟩))
        exact ⟨⟨k + 1, by omega, by first | rfl | go_num, HU2, Lib.hid (HB.out.trans ((HBW.out.trans (hb2.mono HBW.out.size)).mono HB.out.size))⟩, by simp [intOf]; omega⟩
    · have e1 : decide ((k : Int) < (N : Int)) = false := decide_eq_false (by omega)
      have HF := Lib.hid (twiceL_miss (fun i h => HU.out i (by have := HN.out; omega)))
      go_wp2
      go_ret
      exact ⟨ret_bool HF.out.symm, HB.out⟩
end Go.Proofs.Ytiiogdgnccgehaa
namespace Go.Proofs.Ytiiogdgnccgehaa
open Go.RowKit
attribute [local go_sem ↓] Go.wp_at_zero Go.wp_at_succ

theorem Rd.tailR {α : Type} {enc : α → List Value} {s : Nat} (hs : ∀ x, (enc x).length = s) {W : World} {B : Nat} {A : Option Addr} {R : List α} (h : Rd W B A (R.flatMap enc)) {n c i : Nat} (hn : R.length = n) (hc : n ≤ c) (hi : i ≤ n) : Rd W B (tailA A c i s) ((R.drop i).flatMap enc) := by
  by_cases e : c = i
  · rw [List.drop_of_length_le (by omega)]
    exact Rd.nil
  · unfold tailA
    rw [if_neg e]
    have h1 := h.drop (i * s)
    have h2 : (R.flatMap enc).drop (i * s) = (R.drop i).flatMap enc := by
      have h3 : R.flatMap enc = (R.take i).flatMap enc ++ (R.drop i).flatMap enc := by rw [← List.flatMap_append, List.take_append_drop]
      have h4 : ((R.take i).flatMap enc).length = i * s := by rw [encs_length hs, List.length_take, Nat.min_eq_left (by omega)]
      rw [h3, ← h4, List.drop_left]
    rwa [h2] at h1
theorem run_front {P : Program} {t e : TypeId} {i : TypeInfo} {size : Nat} (ht : P.underlying t = some (.slice e)) (hi : P.info? e = some i) (hs : i.size = size) (A : Option Addr) (n c k : Nat) (hk : k ≤ c) (W : World) :
    (Instr.slice t (.slice A n c) none (some (.int .i64 (k : Int))) none).run P W = .ok (.slice A k c) W := by
  have he : P.underlying t = some (.slice (P.elem t)) := by rw [ht]; simp [Program.elem, ht]
  have hee : P.elem t = e := by simp [Program.elem, ht]
  rw [run_slice_h (P := P) W t A n c he .i64 k (by omega) (by omega), hee]
  simp [sizeOf, typeInfo, hi, Result.andThen, sliced, hs]
  intro _
  cases A <;> simp [Addr.add]
theorem Arr.rd {α : Type} {enc : α → List Value} {k : Nat} {w : World} {g : Nat} {e : TypeId} {S : Nat} {l : List α} (h : Arr enc k w g e S l) (hk : ∀ x, (enc x).length = k) (hk0 : 0 < k) : Rd w w.heap.size (some ⟨g, 0, none⟩) (l.flatMap enc) := fun _ =>
  ⟨g, 0, rfl, h.lt, fun p hp => by
    rw [encs_length hk] at hp
    have hi : p / k < l.length := (Nat.div_lt_iff_lt_mul hk0).2 hp
    have hj : p % k < k := Nat.mod_lt _ hk0
    have e1 : p / k * k + p % k = p := by rw [Nat.mul_comm]; exact Nat.div_add_mod p k
    have hv : (enc l[p / k])[p % k]? = some ((enc l[p / k])[p % k]'(by rw [hk]; exact hj)) := List.getElem?_eq_getElem _
    have h1 := h.at_ _ hi _ _ hv
    have h2 := encs_get hk l _ _ hi _ hv
    rw [e1] at h1 h2
    rw [Nat.zero_add, h1]
    obtain ⟨_, h3⟩ := List.getElem?_eq_some_iff.1 h2
    rw [← h3]⟩
/-- several elements stored anew from place i on -/
theorem Arr.put {α : Type} {enc : α → List Value} {k : Nat} {w : World} {g : Nat} {e : TypeId} {S : Nat} {l : List α} (h : Arr enc k w g e S l) (hk : ∀ x, (enc x).length = k) {i : Nat} (ys : List α) (hi : i + ys.length ≤ l.length) :
    Arr enc k (w.setCells g (i * k) (ys.flatMap enc)) g e S (l.take i ++ ys) ∧ w.grownBy (w.setCells g (i * k) (ys.flatMap enc)) (some g) := by
  obtain ⟨cur, hc, hs⟩ := h.cur
  obtain ⟨⟨cur', h1, h2⟩, h3⟩ := setCells_block g e (ys.flatMap enc) (i * k) w cur hc
  have hle : (i + ys.length) * k ≤ S := Nat.le_trans (Nat.mul_le_mul_right k hi) h.len
  have hyl := encs_length hk ys
  refine ⟨⟨⟨cur', h1, h2.trans hs⟩, by rw [List.length_append, List.length_take, Nat.min_eq_left (by omega)]; exact hle, fun j hj => ?_⟩, h3⟩
  rw [List.length_append, List.length_take, Nat.min_eq_left (by omega)] at hj
  by_cases hji : j < i
  · rw [List.getElem_append_left (by rw [List.length_take]; omega), List.getElem_take]
    refine World.rangeAt_setCells_apart (h.at_ j (by omega)) g _ _ (.inr (.inl ?_))
    rw [hk]
    exact mul_le_of hji
  · have hlt : (l.take i).length = i := by rw [List.length_take, Nat.min_eq_left (by omega)]
    rw [List.getElem_append_right (by rw [hlt]; omega)]
    have hr := World.rangeAt_setCells_same w g (i * k) (ys.flatMap enc) (h.there (by rw [hyl, ← Nat.add_mul]; exact hle))
    intro t v hv
    have hjl : j - i < ys.length := by omega
    have hv2 := encs_get hk ys (j - i) t hjl v (by simpa [hlt] using hv)
    have := hr _ _ hv2
    rw [← Nat.add_assoc, ← Nat.add_mul, show i + (j - i) = j by omega] at this
    exact this
set_option maxRecDepth 10000 in
set_option maxHeartbeats 2000000 in
theorem deleteClients_any (g S cap N i j : Nat) (l : List Kl) (w : World) (h : Arr Kl.vs 3 w g 107 S l) (hN : l.length = N) (hmax : N ≤ 1000000) (hcap : N ≤ cap) (hi : i < N) (hij : i + 1 = j) :
    Calls Try.prog 71 #[.slice (some ⟨g, 0, none⟩) N cap, .int .i64 (i : Int), .int .i64 (j : Int)] w fun e w' =>
      e = .returned (.slice (some ⟨g, 0, none⟩) (N - 1) cap) ∧ Arr Kl.vs 3 w' g 107 S (l.take i ++ l.drop j) ∧ w.grownBy w' (some g) := by
  obtain ⟨i0, hi0, hz0, hz1, hz2⟩ := info_parts klInfo
  obtain ⟨ys, hys⟩ : ∃ ys, l.drop j = ys := ⟨_, rfl⟩
  have hyl : ys.length = N - j := by rw [← hys, List.length_drop, hN]
  obtain ⟨M, hM⟩ : ∃ M, N - j = M := ⟨_, rfl⟩
  rw [hM] at hyl
  obtain ⟨a, ha, hat⟩ : ∃ a, tailA (some ⟨g, 0, none⟩) cap j 3 = some a ∧ ∀ t u, (kls ys)[t]? = some u → w.cell? (a.add t) = some u := by
    have hrd := (h.rd Kl.vs_len (by omega)).tailR (n := N) (c := cap) (i := j) Kl.vs_len hN hcap (by omega)
    rw [hys] at hrd
    by_cases hn : kls ys = []
    · obtain ⟨a, ha⟩ : ∃ a, tailA (some ⟨g, 0, none⟩) cap j 3 = some a := by
        unfold tailA
        split
        · exact ⟨_, rfl⟩
        · exact ⟨_, rfl⟩
      exact ⟨a, ha, fun t u hu => by rw [hn] at hu; simp at hu⟩
    · obtain ⟨b, o, e, _, hc⟩ := hrd hn
      refine ⟨_, e, fun t u hu => ?_⟩
      obtain ⟨ht, rfl⟩ := List.getElem?_eq_some_iff.1 hu
      rw [add_at]
      exact hc t ht
  have hput := h.drew.put Kl.vs_len (i := i) ys (by omega)
  have hth := fun t (ht : t < (kls ys).length) => h.drew.there (o := i * 3) (n := (kls ys).length) (by
    have := h.len
    have h2 := kls_len ys
    have h3 := Nat.mul_le_mul_right 3 (show i + ys.length ≤ l.length by omega)
    rw [Nat.add_mul] at h3
    omega) t ht
  have happ := run_append_room_cells (P := Try.prog) (w := w.drew) 45 45 107 i0 Try.underlying45 hi0 g 0 i cap a M (cap - j) (kls ys) (by rw [hz1, kls_len, hyl]) hat (kls_one ys) (by omega) (fun t ht => by rw [hz1, Nat.zero_add]; exact (hth t ht).1) (fun t ht => by rw [hz1, Nat.zero_add]; exact (hth t ht).2)
  rw [hz1, Nat.zero_add] at happ
  obtain ⟨w2, hw2⟩ : ∃ w2, w.drew.setCells g (i * 3) (kls ys) = w2 := ⟨_, rfl⟩
  obtain ⟨n1, hn1⟩ : ∃ n1, i + M = n1 := ⟨_, rfl⟩
  have hnn : N - 1 = n1 := by omega
  rw [show List.flatMap Kl.vs ys = kls ys from rfl] at hput
  rw [hw2] at hput happ
  rw [hn1] at happ
  rw [hnn, hys]
  obtain ⟨hA2, hG2⟩ := hput
  have hln : (l.take i ++ ys).length = n1 := by rw [List.length_append, List.length_take, hyl]; omega
  obtain ⟨m, hm⟩ : ∃ m, l.take i ++ ys = m := ⟨_, rfl⟩
  rw [hm] at hA2 hln ⊢
  have hsl1 := fun W => run_front (P := Try.prog) (t := 45) (e := 107) (size := 3) Try.underlying45 hi0 hz1 (some ⟨g, 0, none⟩) N cap i (by omega) W
  have hsl2 := fun W => run_tail (P := Try.prog) (t := 45) (e := 107) (size := 3) Try.underlying45 hi0 hz1 (some ⟨g, 0, none⟩) N cap j (by omega) W
  rw [ha, hM] at hsl2
  have hsl3 := fun W => run_mid (P := Try.prog) (t := 45) (e := 107) (size := 3) Try.underlying45 hi0 hz1 (some ⟨g, 0, none⟩) n1 cap n1 N (by omega) (by omega) W
  have htl : tailA (some ⟨g, 0, none⟩) cap n1 3 = some ⟨g, n1 * 3, none⟩ := by
    unfold tailA
    rw [if_neg (by omega), Option.map_some, add_at, Nat.zero_add]
  rw [htl, show N - n1 = 1 by omega] at hsl3
  have hS : (n1 + 1) * 3 ≤ S := by
    have := h.len
    rw [hN, show N = n1 + 1 by omega] at this
    exact this
  have hthz : w2.there g (n1 * 3) (Builtin.zeroCells (zeroKl).cells 1).size := hA2.there (by
    have h2 : (Builtin.zeroCells (zeroKl).cells 1).size = 3 := by simp [Builtin.zeroCells, Value.cells, zeroKl]
    omega)
  have hcl := fun ty => run_clear_mid (P := Try.prog) w2 45 107 ty zeroKl Try.underlying45 (fun W => by simp [zeroValue, typeInfo, hi0, hz0, Result.andThen]) (by simp [zeroKl, Value.cells, Value.oneCell']) g (n1 * 3) 1 (cap - n1) (by omega) hthz
  have hab := hA2.above Kl.vs_len (o := n1 * 3) (by omega) (Builtin.zeroCells (zeroKl).cells 1).toList
  have HAB := Lib.hid (And.intro hab.1 (grownBy_trans (grownBy_trans (grownBy_drew1 (grownBy_refl w (some g))) hG2) hab.2))
  generalize (Builtin.zeroCells (zeroKl).cells 1).toList = zs at hcl HAB
  obtain ⟨w3, hw3⟩ : ∃ w3, w2.setCells g (n1 * 3) zs = w3 := ⟨_, rfl⟩
  rw [hw3] at hcl HAB
  have e1 : decide ((i : Int) = (j : Int)) = false := decide_eq_false (by omega)
  have e2 : ((i : Int) == (j : Int)) = false := beq_eq_false_iff_ne.2 (by omega)
  have q1 : (0 : Int) ≤ (i : Int) := by omega
  have q2 : (i : Int) ≤ (j : Int) := by omega
  have q3 : (j : Int) ≤ (N : Int) := by omega
  have q4 : (N : Int) ≤ (cap : Int) := by omega
  obtain ⟨cj, hcj⟩ : ∃ cj, cap - j = cj := ⟨_, rfl⟩
  obtain ⟨cn, hcn⟩ : ∃ cn, cap - n1 = cn := ⟨_, rfl⟩
  rw [hcj] at hsl2 happ
  rw [hcn] at hsl3 hcl
  have HAPP := Lib.hid happ
  clear hA2 hG2 happ hth hthz hab hw3 hw2 hat ha h hS htl hln hm hyl hys hcj hcn hnn hn1 hM hN
  go_enter Try.func71, Try.ntmps71
  go_wp2
  have HC : True := trivial
  refine region_wz (fun W' => True) none (by kernel_rfl) ?_
  apply WZ.take (i := 0) (some 20) rfl rfl (by kernel_rfl) (by kernel_rfl) (by kernel_rfl) (calm_panic _) (by kernel_rfl)
  case hy => (refine .inl ⟨by kernel_rfl, fun W hC => ?_⟩; (try dsimp only at hC); go_simp; (try simp only [hsl1,hsl2]); rfl)
  case hC => exact HC
  case ha => (simp only [Act.put, List.setIfInBounds_toArray, List.set_cons_zero, List.set_cons_succ]; rfl)
  apply WZ.take (i := 1) (some 21) rfl rfl (by kernel_rfl) (by kernel_rfl) (by kernel_rfl) (calm_panic _) (by kernel_rfl)
  case hy => (refine .inl ⟨by kernel_rfl, fun W hC => ?_⟩; (try dsimp only at hC); go_simp; (try simp only [hsl1,hsl2]); rfl)
  case hC => exact HC
  case ha => (simp only [Act.put, List.setIfInBounds_toArray, List.set_cons_zero, List.set_cons_succ]; rfl)
  apply WZ.take (i := 2) (some 22) rfl rfl (by kernel_rfl) (by kernel_rfl) (by kernel_rfl) (calm_panic _) (by kernel_rfl)
  case hy => (refine .inl ⟨by kernel_rfl, fun W hC => ?_⟩; (try dsimp only at hC); go_simp; (try simp only [hsl1,hsl2]); rfl)
  case hC => exact HC
  case ha => (simp only [Act.put, List.setIfInBounds_toArray, List.set_cons_zero, List.set_cons_succ]; rfl)
  apply WZ.take (i := 3) (some 23) rfl rfl (by kernel_rfl) (by kernel_rfl) (by kernel_rfl) (calm_panic _) (by kernel_rfl)
  case hy => (refine .inl ⟨by kernel_rfl, fun W hC => ?_⟩; (try dsimp only at hC); go_simp; (try simp only [hsl1,hsl2]); rfl)
  case hC => exact HC
  case ha => (simp only [Act.put, List.setIfInBounds_toArray, List.set_cons_zero, List.set_cons_succ]; rfl)
  apply WZ.take (i := 4) (some 24) rfl rfl (by kernel_rfl) (by kernel_rfl) (by kernel_rfl) (calm_panic _) (by kernel_rfl)
  case hy => (refine .inl ⟨by kernel_rfl, fun W hC => ?_⟩; (try dsimp only at hC); go_simp; (try simp only [hsl1,hsl2]); rfl)
  case hC => exact HC
  case ha => (simp only [Act.put, List.setIfInBounds_toArray, List.set_cons_zero, List.set_cons_succ]; rfl)
  apply WZ.take (i := 5) (some 25) rfl rfl (by kernel_rfl) (by kernel_rfl) (by kernel_rfl) (calm_panic _) (by kernel_rfl)
  case hy => (refine .inl ⟨by kernel_rfl, fun W hC => ?_⟩; (try dsimp only at hC); go_simp; (try simp only [hsl1,hsl2]); rfl)
  case hC => exact HC
  case ha => (simp only [Act.put, List.setIfInBounds_toArray, List.set_cons_zero, List.set_cons_succ]; rfl)
  -- 6
  refine WZ.one (i := 6) rfl (by kernel_rfl) ?_
  conv => arg 4; arg 1; whnf
  go_wp2_with (at_builtin; go_loud (refine Lib.wpList_append_run _ rfl _ _ _ _ rfl _ _ rfl rfl _ _ HAPP.out ?_))
  refine ⟨trivial, ?_⟩
  apply WZ.take (i := 7) (some 0) rfl rfl (by kernel_rfl) (by kernel_rfl) (by kernel_rfl) (calm_panic _) (by kernel_rfl)
  case hy => (refine .inl ⟨by kernel_rfl, fun W hC => ?_⟩; (try dsimp only at hC); go_simp; (try simp only [hsl1,hsl2]); rfl)
  case hC => exact HC
  case ha => (simp only [Act.put, List.setIfInBounds_toArray, List.set_cons_zero, List.set_cons_succ]; rfl)
  refine WZ.done (by kernel_rfl) ?_ _
  simp only [Calm, Exit.then]
  clear HC
  go_wp2
  go_ret
  exact ⟨rfl, HAB.out.1, HAB.out.2⟩
end Go.Proofs.Ytiiogdgnccgehaa
