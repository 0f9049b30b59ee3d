/-
  The walks of the comparisons of texts and of integers; orders by more than one of them. No conditions.
-/
import Derived.Test.YtaeemeoffnhgfaaRegion
import Derived.Test.YtaeemeoffnhgfaaArr
import Derived.Test.YtaeemeoffnhgfaaSortPlain
import Derived.Test.YtaeemeoffnhgfaaAppG
import Derived.Test.YtaeemeoffnhgfaaRows
import Derived.WalkSpells
import Derived.Deep.QuietTactic
import Derived.BigQuiet
import Derived.Deep.RegionHeld3
import Derived.Deep.DrawnRows
import Derived.Lib.Hide
import Derived.RegionTactic
import Derived.ChangeAlike
import Derived.SliceStrings
namespace Go.Proofs.Ytaeemeoffnhgfaa
open Go.RowKit

set_option maxHeartbeats 400000 in
theorem compare_any (a b : ByteArray) (w : World) :
    Calls Try.prog 62 #[.string a, .string b] w fun e w' => e = .returned (.int .i64 (txt a b)) ∧ w = w' := by
  go_enter Try.func62, Try.ntmps62
  go_wp2
  rw [run_callFunc_extern Try.func77 (by kernel_rfl) (by kernel_rfl) (by kernel_rfl) (e := Extern.BytealgCompare.compare) (by kernel_rfl), Lib.run_compareString, compare_txt]
  simp only [Result.andThen]
  rw [Oper.upon_value]
  go_wp2
  go_ret
  exact ⟨rfl, rfl⟩

theorem take_all {l : List Int} {k : Nat} (hk : k < l.length) (h : ∀ z ∈ l.take k, z = 0) (h0 : l[k] = 0) : ∀ z ∈ l.take (k + 1), z = 0 := by
  rw [List.take_succ_eq_append_getElem hk]
  intro z hz
  rcases List.mem_append.1 hz with hz | hz
  · exact h z hz
  · rw [List.mem_singleton.1 hz, h0]

set_option maxHeartbeats 400000 in
theorem or_any (A : Option Addr) (c : Nat) (zs : List Int) (w : World) (B : Nat) (h : Rd w B A (zs.map (Value.int .i64))) (hz : zs.length ≤ maxLen) :
    Calls Try.prog 60 #[.slice A zs.length c] w fun e w' => e = .returned (.int .i64 (first zs)) ∧ w = w' := by
  unfold maxLen at hz
  go_enter Try.func60, Try.ntmps60
  go_wp2
  go_loop [5, 8] (fun _ i => ∃ k : Nat, k ≤ zs.length ∧ (∀ z ∈ zs.take k, z = 0) ∧ i = .int .i64 k) (fun _ i => zs.length - (intOf i).toNat)
  case atStart => exact ⟨0, Nat.zero_le _, by simp, rfl⟩
  case round =>
    obtain ⟨k, hk, h0, rfl⟩ := hrel
    by_cases hlt : k < zs.length
    · obtain ⟨b, o, rfl, hb, hc⟩ := h.at_ (by intro e; simp at e; subst e; simp at hlt)
      have hcell : w.cell? ⟨b, o + k, none⟩ = some (.int .i64 zs[k]) := by rw [hc k (by simpa using hlt)]; simp
      have H0 : Hid _ := h0
      clear h0 hc h
      have hT := take_all hlt H0
      have HT : Hid _ := hT
      clear hT
      by_cases hz0 : zs[k] = 0
      · have hb : (zs[k] != 0) = false := by simp [hz0]
        have HZ : Hid _ := hz0
        clear hz0
        go_wp2
        go_round
        case rel => exact ⟨k + 1, by omega, HT HZ, by go_num⟩
        case measure => simp [intOf]; omega
      · have hb : (zs[k] != 0) = true := by simp [hz0]
        have HF : Hid _ := first_take hlt H0 hz0
        clear hz0
        go_wp2
        go_ret
        exact ⟨ret_int (HF.symm), rfl⟩
    · have HF : Hid _ := first_all (l := zs) (by rw [List.take_of_length_le (by omega)] at h0; exact h0)
      clear h0
      go_wp2
      go_ret
      exact ⟨ret_int HF.symm, rfl⟩


def numI (a b : Int) : Int := if a < b then -1 else if b < a then 1 else 0
section
attribute [local go_sem ↓] Go.wp_at_zero Go.wp_at_succ
set_option maxHeartbeats 400000 in
theorem compareInt_any (a b : Int) (w : World) :
    Calls Try.prog 61 #[.int .i64 a, .int .i64 b] w fun e w' => e = .returned (.int .i64 (numI a b)) ∧ w = w' := by
  go_enter Try.func61, Try.ntmps61
  go_wp2
  all_goals (go_ret; exact ⟨ret_int (by unfold numI; split <;> (try split) <;> omega), rfl⟩)
end
theorem rangeAt_below {w w' : World} {B b o : Nat} {cs : List Value} (h : w.rangeAt b o cs) (hb : Below B w w') (hB : b < B) : w'.rangeAt b o cs := fun j v hv => (hb.cell (p := ⟨b, o + j, none⟩) hB).trans (h j v hv)
theorem rangeAt_list {w : World} {b o : Nat} {cs : List Value} (h : ∀ j (hj : j < cs.length), w.cell? ⟨b, o + j, none⟩ = some cs[j]) : w.rangeAt b o cs := fun j v hv => by
  obtain ⟨hj, rfl⟩ := List.getElem?_eq_some_iff.1 hv
  exact h j hj
/-- a comparison: turned about it changes its sign, and 'not above' goes on -/
structure IsCmp {α : Type} (c : α → α → Int) : Prop where
  anti : ∀ a b, c b a = - c a b
  trans : ∀ a b d, c a b ≤ 0 → c b d ≤ 0 → c a d ≤ 0
section
variable {α β : Type} {c d : α → α → Int}
theorem IsCmp.self (h : IsCmp c) (a : α) : c a a = 0 := by have := h.anti a a; omega
theorem IsCmp.lt_le (h : IsCmp c) {x y z : α} (h1 : c x y < 0) (h2 : c y z ≤ 0) : c x z < 0 := by
  have h3 := h.trans x y z (by omega) h2
  by_cases e : c x z = 0
  · have h4 := h.anti x z
    have h5 := h.trans y z x h2 (by omega)
    have h6 := h.anti x y
    omega
  · omega
theorem IsCmp.le_lt (h : IsCmp c) {x y z : α} (h1 : c x y ≤ 0) (h2 : c y z < 0) : c x z < 0 := by
  have h3 := h.trans x y z h1 (by omega)
  by_cases e : c x z = 0
  · have h4 := h.anti x z
    have h5 := h.trans z x y (by omega) h1
    have h6 := h.anti y z
    omega
  · omega
theorem IsCmp.eq_eq (h : IsCmp c) {x y z : α} (h1 : c x y = 0) (h2 : c y z = 0) : c x z = 0 := by
  have h3 := h.trans x y z (by omega) (by omega)
  have h4 := h.anti x y
  have h5 := h.anti y z
  have h6 := h.trans z y x (by omega) (by omega)
  have h7 := h.anti x z
  omega
theorem IsCmp.comap (h : IsCmp c) (f : β → α) : IsCmp fun a b => c (f a) (f b) := ⟨fun a b => h.anti _ _, fun a b d => h.trans _ _ _⟩
theorem IsCmp.flip (h : IsCmp c) : IsCmp fun a b => c b a := ⟨fun a b => h.anti b a, fun a b d h1 h2 => h.trans d b a h2 h1⟩
/-- first the one, then the other -/
theorem IsCmp.lex (h : IsCmp c) (k : IsCmp d) : IsCmp fun a b => if c a b = 0 then d a b else c a b := by
  refine ⟨fun a b => ?_, fun x y z h1 h2 => ?_⟩
  · have e := h.anti a b
    have e2 := k.anti a b
    by_cases hz : c a b = 0
    · rw [if_pos hz, if_pos (by omega)]; exact e2
    · rw [if_neg hz, if_neg (by omega)]; exact e
  · by_cases a1 : c x y = 0 <;> by_cases a2 : c y z = 0
    · rw [if_pos a1] at h1
      rw [if_pos a2] at h2
      rw [if_pos (h.eq_eq a1 a2)]
      exact k.trans _ _ _ h1 h2
    · rw [if_neg a2] at h2
      have := h.le_lt (show c x y ≤ 0 by omega) (show c y z < 0 by omega)
      rw [if_neg (by omega)]; omega
    · rw [if_neg a1] at h1
      have := h.lt_le (show c x y < 0 by omega) (show c y z ≤ 0 by omega)
      rw [if_neg (by omega)]; omega
    · rw [if_neg a1] at h1
      rw [if_neg a2] at h2
      have := h.lt_le (show c x y < 0 by omega) (show c y z ≤ 0 by omega)
      rw [if_neg (by omega)]; omega
theorem IsCmp.weak (h : IsCmp c) : Weak fun a b => decide (c a b < 0) := by
  refine ⟨fun a b k => ?_, fun a b d k l => ?_⟩
  · have k := of_decide_eq_true k
    have := h.anti a b
    exact decide_eq_false (by omega)
  · have k := of_decide_eq_false k
    have l := of_decide_eq_false l
    have e1 := h.anti a b
    have e2 := h.anti b d
    have e3 := h.anti a d
    have := h.trans a b d (by omega) (by omega)
    exact decide_eq_false (by omega)
end
theorem txt_cmp : IsCmp txt := by
  refine ⟨fun a b => ?_, fun a b d h1 h2 => ?_⟩
  · unfold txt
    cases h : lt a b with
    | true => have := lt_asymm h; simp [this]
    | false => cases k : lt b a <;> simp
  · have key : ∀ x y : ByteArray, txt x y ≤ 0 ↔ lt y x = false := fun x y => by
      unfold txt
      cases h : lt x y with
      | true => have := lt_asymm h; simp [this]
      | false => cases k : lt y x <;> simp
    rw [key] at *
    cases k : lt d a with
    | false => rfl
    | true =>
      cases l : lt a b with
      | true => have := lt_trans k l; rw [h2] at this; cases this
      | false => have := lt_total l h1; subst this; rw [h2] at k; cases k
theorem num_cmp : IsCmp num := by
  refine ⟨fun a b => ?_, fun a b d h1 h2 => ?_⟩
  · unfold num; split <;> split <;> (try split) <;> omega
  · unfold num at *; split at h1 <;> split at h2 <;> (try split at h1) <;> (try split at h2) <;> split <;> (try split) <;> omega
theorem numI_cmp : IsCmp numI := by
  refine ⟨fun a b => ?_, fun a b d h1 h2 => ?_⟩
  · unfold numI; split <;> split <;> (try split) <;> omega
  · unfold numI at *; split at h1 <;> split at h2 <;> (try split at h1) <;> (try split at h2) <;> split <;> (try split) <;> omega
theorem num_eq {a b : Nat} : num a b = 0 ↔ a = b := by unfold num; split <;> (try split) <;> omega
theorem numI_eq {a b : Int} : numI a b = 0 ↔ a = b := by unfold numI; split <;> (try split) <;> omega
end Go.Proofs.Ytaeemeoffnhgfaa
