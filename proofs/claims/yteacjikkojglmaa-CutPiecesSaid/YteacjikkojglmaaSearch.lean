/-
  The walks of cut.Split's closure and of sort.Search over it.
-/
import Derived.Test.YteacjikkojglmaaPlace
namespace Go.Proofs.Yteacjikkojglmaa
open Go.RowKit
attribute [local go_sem ↓] Go.wp_at_zero Go.wp_at_succ

set_option maxHeartbeats 1000000 in
theorem atLeast_any (A : Option Addr) (c g h : Nat) (l : List Cl) (s : ByteArray) (k : Nat) (w : World) (B : Nat) (hl : Rd w B A (vals l)) (hlen : l.length ≤ maxLen) (hk : k < l.length)
    (hg : w.cell? ⟨g, 0, none⟩ = some (.slice A l.length c)) (hh : w.cell? ⟨h, 0, none⟩ = some (.string s)) :
    Calls Try.prog 26 #[.int .i64 k, .pointer (some ⟨g, 0, none⟩), .pointer (some ⟨h, 0, none⟩)] w fun e w' => e = .returned (.bool (!lt l[k].row s)) ∧ ∃ n, w' = w.drewN n := by
  unfold maxLen at hlen
  obtain ⟨b, o, rfl, hb, hc⟩ := hl.at_ (vals_ne hk)
  obtain ⟨l0, l1, l2, l3, l4, l5⟩ := Rd.cell_at (B := 0) hc k hk
  clear hc hl
  go_enter Try.func26, Try.ntmps26
  go_wp2
  go_quiet (fail)
  go_wp2
  go_ret
  exact ⟨rfl, _, rfl⟩

/-- from a place on all are so, and none ahead of it -/
def parts (p : Nat → Bool) (n m : Nat) : Prop := m ≤ n ∧ (∀ j, j < m → p j = false) ∧ ∀ j, m ≤ j → j < n → p j = true

set_option maxHeartbeats 1000000 in
theorem search_any (A : Option Addr) (c g h : Nat) (l : List Cl) (s : ByteArray) (w : World) (B : Nat) (hl : Rd w B A (vals l)) (hlen : l.length ≤ 1000)
    (hg : w.cell? ⟨g, 0, none⟩ = some (.slice A l.length c)) (hh : w.cell? ⟨h, 0, none⟩ = some (.string s))
    (mono : ∀ i j (hj : j < l.length), (hij : i ≤ j) → lt l[i].row s = false → lt l[j].row s = false) :
    Calls Try.prog 25 #[.int .i64 l.length, .func (.func 26) #[] #[.pointer (some ⟨g, 0, none⟩), .pointer (some ⟨h, 0, none⟩)]] w
      fun e w' => ∃ m : Nat, e = .returned (.int .i64 m) ∧ (m ≤ l.length ∧ (∀ j (hj : j < l.length), j < m → lt l[j].row s = true) ∧ ∀ j (hj : j < l.length), m ≤ j → lt l[j].row s = false) ∧ ∃ n, w' = w.drewN n := by
  go_enter Try.func25, Try.ntmps25
  go_wp2
  go_loopw [5, 6] (fun i j wr => ∃ x y n : Nat, x ≤ y ∧ y ≤ l.length ∧ i = .int .i64 x ∧ j = .int .i64 y ∧ wr = w.drewN n ∧
      (∀ j (hj : j < l.length), j < x → lt l[j].row s = true) ∧ ∀ j (hj : j < l.length), y ≤ j → lt l[j].row s = false) (fun i j _ => (intOf j).toNat - (intOf i).toNat)
  case atStart => exact ⟨0, l.length, 0, Nat.zero_le _, Nat.le_refl _, rfl, rfl, rfl, fun j hj h => by omega, fun j hj h => by omega⟩
  case round =>
    obtain ⟨x, y, n, hxy, hy, rfl, rfl, rfl, h1, h2⟩ := hrel
    have H1 := Lib.hid h1
    have H2 := Lib.hid h2
    have HM := Lib.hid mono
    clear h1 h2 mono
    by_cases hlt : x < y
    · obtain ⟨k, hk⟩ : ∃ k : Nat, k = (x + y) / 2 := ⟨_, rfl⟩
      have hkl : k < l.length := by omega
      have hxk : x ≤ k := by omega
      have hky : k < y := by omega
      have hd : ((x : Int) + (y : Int)) / 2 = (k : Int) := by omega
      clear hk
      cases hp : lt l[k].row s with
      | true =>
        have HP := Lib.hid hp
        go_wp2_with (go_at_call 26; go_loud (refine (atLeast_any A c g h l s k _ B (hl.drewN _) (by unfold maxLen; omega) hkl hg hh).mono ?_); rintro e w' ⟨rfl, nn, rfl⟩)
        exact ⟨⟨k + 1, y, _, by omega, hy, by go_num, rfl, rfl, fun j hj h => by
          cases hq : lt l[j].row s with
          | true => rfl
          | false => exact absurd (HM.out j k hkl (by omega) hq) (by rw [HP.out]; simp), H2.out⟩, by simp [intOf]; omega⟩
      | false =>
        have HP := Lib.hid hp
        go_wp2_with (go_at_call 26; go_loud (refine (atLeast_any A c g h l s k _ B (hl.drewN _) (by unfold maxLen; omega) hkl hg hh).mono ?_); rintro e w' ⟨rfl, nn, rfl⟩)
        exact ⟨⟨x, k, _, by omega, by omega, rfl, rfl, rfl, H1.out, fun j hj h => HM.out k j hj h HP.out⟩, by simp [intOf]; omega⟩
    · have e : x = y := by omega
      subst e
      go_wp2
      go_ret
      exact ⟨_, rfl, ⟨hy, H1.out, H2.out⟩, _, rfl⟩
end Go.Proofs.Yteacjikkojglmaa
