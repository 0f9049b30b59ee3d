/-
  The walk of runs.Resolve.
-/
import Derived.Test.YtojelalgcokcfaaResolvePlain
namespace Go.Proofs.Ytojelalgcokcfaa
open Go.RowKit
attribute [local go_sem ↓] Go.wp_at_zero Go.wp_at_succ

/-- items, as values -/
abbrev its (l : List It) : List Value := l.flatMap It.vals
theorem its_len (l : List It) : (its l).length = l.length * 7 := encs_length It.vals_len l
theorem its_one (l : List It) : ∀ u ∈ its l, u.oneCell' = true := by
  intro u hu
  obtain ⟨x, _, hx⟩ := List.mem_flatMap.1 hu
  exact x.one u hx

theorem compact_none (A : Option Addr) (c : Nat) (fv : Value) (w : World) :
    Calls Try.prog 28 #[.slice A 0 c, fv] w fun e w' => e = .returned (.slice A 0 c) ∧ w = w' := by
  go_enter Try.func28, Try.ntmps28
  go_wp2
  go_ret
  exact ⟨rfl, rfl⟩

theorem Strict.len {l R : List It} (h : Good l R) : R.length ≤ l.length := by
  have key : ∀ (R l : List It), Strict R → (∀ x ∈ R, x ∈ l) → R.length ≤ l.length := by
    intro R
    induction R with
    | nil => intro l _ _; simp
    | cons x R ih =>
      intro l hs hm
      unfold Strict at hs
      rw [List.pairwise_cons] at hs
      have hx := hm x (by simp)
      obtain ⟨s, t, rfl⟩ := List.append_of_mem hx
      have := ih (s ++ t) hs.2 fun y hy => by
        have h1 := hm y (by simp [hy])
        have h2 : y ≠ x := fun e => by have := hs.1 y hy; rw [e, cc_cmp.self] at this; omega
        simp only [List.mem_append, List.mem_cons] at h1 ⊢
        rcases h1 with h1 | h1 | h1
        · exact .inl h1
        · exact absurd h1 h2
        · exact .inr h1
      simp at this ⊢
      omega
  exact key R l h.strict fun x hx => (h.best x hx).mem
theorem resolve_len (l : List It) : (resolve l).length ≤ l.length := Strict.len (resolve_good l)

set_option maxHeartbeats 2000000 in
theorem resolve_any (A : Option Addr) (c : Nat) (l : List It) (w : World) (hl : Rd w w.heap.size A (its l)) (hlen : l.length ≤ 1000000) :
    Calls Try.prog 17 #[.slice A l.length c] w fun e w' => ∃ (A' : Option Addr) (c' : Nat), e = .returned (.slice A' (resolve l).length c') ∧ Own w' w.heap.size 48 7 A' (resolve l).length c' (its (resolve l)) ∧ Below w.heap.size w w' := by
  have hcl := cloneIt_any A c l w hl hlen
  by_cases h0 : l.length = 0
  · have hnil : l = [] := List.eq_nil_of_length_eq_zero h0
    subst hnil
    go_enter Try.func17, Try.ntmps17
    go_wp2_with (first
      | (go_at_call 26; refine hcl.mono ?_; rintro e w1 ⟨A1, c1, rfl, ho, hb⟩)
      | (go_at_call 27; refine (sortStable_none _ _ _ _).mono ?_; rintro e w2 ⟨rfl, rfl⟩)
      | (go_at_call 28; refine (compact_none _ _ _ _).mono ?_; rintro e w3 ⟨rfl, rfl⟩))
    go_ret
    exact ⟨A1, c1, rfl, ho, hb⟩
  · go_enter Try.func17, Try.ntmps17
    go_wp2_with (first
      | (go_at_call 26; refine hcl.mono ?_; rintro e w1 ⟨A1, c1, rfl, ho, hb⟩
         obtain ⟨g, S, rfl, hg, hS, hnc, hcm, _, harr⟩ := ho.arr It.vals_len (by omega) (by omega)
         have hst := sortStable_any it_weak g S c1 l.length l w1 harr rfl (by omega)
         clear ho harr)
      | (go_at_call 27; refine hst.mono ?_; rintro e w2 ⟨rfl, m, hss, hm, hg2⟩
         have hml : m.length = l.length := hss.2.2.length_eq.symm
         have hco := compactIt_any g S c1 l.length m w2 hm hml (by omega) hnc
         rw [resolve_eq hss] at hco
         clear hst hm)
      | (go_at_call 28; refine hco.mono ?_; rintro e w3 ⟨k, rfl, hk, hr, hg3⟩))
    go_ret
    subst hk
    subst hS
    refine ⟨_, c1, rfl, hr.own It.vals_len (by omega) hg (by have := resolve_len l; omega) hcm, ?_⟩
    have h1 := below_grown hb hb.size hg2 hg
    exact below_grown h1 h1.size hg3 hg
end Go.Proofs.Ytojelalgcokcfaa
