/-
  The walks of the functions that tell borders, and where a row belongs: the program's and the reference's.
-/
import Derived.Test.YteacjikkojglmaaSmall
namespace Go.Proofs.Yteacjikkojglmaa
open Go.RowKit
attribute [local go_sem ↓] Go.wp_at_zero Go.wp_at_succ

/-- a border: not empty, and not too long -/
def okBorder (s : ByteArray) : Prop := 1 ≤ s.size ∧ s.size ≤ 40
instance (s : ByteArray) : Decidable (okBorder s) := inferInstanceAs (Decidable (_ ∧ _))
def bordersTo (ss : List ByteArray) (k : Nat) : Prop := (∀ i (h : i < ss.length), i < k → okBorder ss[i]) ∧ ∀ i (h : i + 1 < ss.length), i + 1 < k → lt ss[i] ss[i + 1] = true
def upTexts : List ByteArray → Bool
  | [] => true
  | [_] => true
  | a :: b :: l => lt a b && upTexts (b :: l)
theorem upTexts_iff : ∀ l : List ByteArray, upTexts l = true ↔ ∀ i (h : i + 1 < l.length), lt l[i] l[i + 1] = true
  | [] => by simp [upTexts]
  | [_] => by simp [upTexts]
  | a :: b :: l => by
    rw [upTexts, Bool.and_eq_true, upTexts_iff (b :: l)]
    constructor
    · rintro ⟨h0, h⟩ i hi
      cases i with
      | zero => exact h0
      | succ i => exact h i (by simpa using hi)
    · intro h
      exact ⟨h 0 (by simp), fun i hi => h (i + 1) (by simpa using hi)⟩
def borders (ss : List ByteArray) : Bool := decide (∀ s ∈ ss, okBorder s) && upTexts ss
theorem borders_iff (ss : List ByteArray) : borders ss = true ↔ bordersTo ss ss.length := by
  rw [borders, Bool.and_eq_true, decide_eq_true_iff, upTexts_iff]
  constructor
  · rintro ⟨h, k⟩
    exact ⟨fun i hi _ => h _ (List.getElem_mem hi), fun i hi _ => k i hi⟩
  · rintro ⟨h, k⟩
    refine ⟨fun s hs => ?_, fun i hi => k i hi hi⟩
    obtain ⟨i, hi, rfl⟩ := List.getElem_of_mem hs
    exact h i hi hi
theorem bordersTo_zero (ss : List ByteArray) : bordersTo ss 0 := ⟨fun i h hk => by omega, fun i h hk => by omega⟩
theorem bordersTo_succ {ss : List ByteArray} {k : Nat} (h : bordersTo ss k) (hk : k < ss.length) (hb : okBorder ss[k]) (hu : ∀ j (hj : j + 1 = k), lt ss[j] ss[k] = true) : bordersTo ss (k + 1) := by
  refine ⟨fun i hi hik => ?_, fun i hi hik => ?_⟩
  · by_cases e : i = k
    · subst e; exact hb
    · exact h.1 i hi (by omega)
  · by_cases e : i + 1 = k
    · subst e; exact hu i rfl
    · exact h.2 i hi (by omega)
theorem borders_end {ss : List ByteArray} {k : Nat} (h : bordersTo ss k) (hk : ss.length ≤ k) : true = borders ss := by
  symm
  rw [borders_iff]
  exact ⟨fun i hi _ => h.1 i hi (by omega), fun i hi _ => h.2 i hi (by omega)⟩
theorem borders_bad {ss : List ByteArray} {k : Nat} (hk : k < ss.length) (hb : ¬ okBorder ss[k]) : false = borders ss := by
  symm
  rw [Bool.eq_false_iff]
  intro h
  exact hb (((borders_iff ss).1 h).1 k hk hk)
theorem borders_low {ss : List ByteArray} {j k : Nat} (e : k = j + 1) (hj : j < ss.length) (hk : k < ss.length) (hb : lt ss[j] ss[k] = false) : false = borders ss := by
  subst e
  symm
  rw [Bool.eq_false_iff]
  intro h
  have := ((borders_iff ss).1 h).2 j hk hk
  rw [hb] at this
  cases this
theorem isEmpty_of_size {s : ByteArray} (h : 1 ≤ s.size) : s.toList.isEmpty = false := by
  rw [ByteArray.toList_eq]
  have : s.data.toList.length = s.size := Array.length_toList
  cases e : s.data.toList with
  | nil => rw [e] at this; simp at this; omega
  | cons a l => rfl
theorem isEmpty_of_size' {s : ByteArray} (h : ¬ 1 ≤ s.size) : s.toList.isEmpty = true := by
  rw [ByteArray.toList_eq]
  have : s.data.toList.length = s.size := Array.length_toList
  cases e : s.data.toList with
  | nil => rfl
  | cons a l => rw [e] at this; simp at this; omega

set_option maxHeartbeats 2000000 in
theorem cutBorders_any (S : Option Addr) (d : Nat) (ss : List ByteArray) (w : World) (B : Nat) (hs : Rd w B S (strs ss)) (hlen : ss.length ≤ maxLen) :
    Calls Try.prog 14 #[.slice S ss.length d] w fun e w' => e = .returned (.bool (borders ss)) ∧ w = w' := by
  unfold maxLen at hlen
  go_enter Try.func14, Try.ntmps14
  go_wp2
  go_loop [3, 4, 7] (fun _ _ i => ∃ k : Nat, k ≤ ss.length ∧ bordersTo ss k ∧ i = .int .i64 k) (fun _ _ i => ss.length - (intOf i).toNat)
  case atStart => exact ⟨0, Nat.zero_le _, bordersTo_zero _, rfl⟩
  case round =>
    obtain ⟨k, hk, hr, rfl⟩ := hrel
    have HR := Lib.hid hr
    clear hr
    by_cases hlt : k < ss.length
    · obtain ⟨b, o, rfl, hb, hc⟩ := hs.at_ (strs_ne hlt)
      have l0 := str_at hc k hlt
      by_cases hok : okBorder ss[k]
      · have HO := Lib.hid hok
        have he := isEmpty_of_size hok.1
        have he' : (!ss[k].toList.isEmpty) = true := by simp [he]
        obtain ⟨o1, o2⟩ := hok
        by_cases hk0 : k = 0
        · subst hk0
          clear hc hs
          have l1 : w.cell? ⟨b, o, none⟩ = some (.string ss[0]) := l0
          have HS := Lib.hid (bordersTo_succ HR.out hlt HO.out (fun j hj => by omega))
          go_wp2
          go_round
          case rel => exact ⟨1, by omega, HS.out, by go_num⟩
          case measure => simp [intOf]; omega
        · obtain ⟨j, hj⟩ : ∃ j, k = j + 1 := ⟨k - 1, by omega⟩
          have hjl : j < ss.length := by omega
          have l1 := str_at hc j hjl
          clear hc hs
          have hd : decide (0 < k) = true := by simp; omega
          have hd' : IntKind.i64.wrap ((k : Int) - 1) = (j : Int) := by rw [IntWalk.i64_in _ (by omega)]; omega
          have i1 : (0 : Int) ≤ (j : Int) := by omega
          have i2 : (j : Int) < (ss.length : Int) := by omega
          have HJ := Lib.hid hj
          clear hj
          cases hl : lt ss[j] ss[k] with
          | true =>
            have HS := Lib.hid (bordersTo_succ HR.out hlt HO.out (fun i hi => by have := HJ.out; have e : i = j := by omega
                                                                                 subst e; exact hl))
            have hl' : Op.bytesLess ss[j].toList ss[k].toList = true := hl
            clear hl
            go_wp2
            go_round
            case rel => exact ⟨k + 1, by omega, HS.out, by go_num⟩
            case measure => simp [intOf]; omega
          | false =>
            have HS := Lib.hid (borders_low HJ.out hjl hlt hl)
            have hl' : Op.bytesLess ss[j].toList ss[k].toList = false := hl
            clear hl
            go_wp2
            go_ret
            exact ⟨ret_bool HS.out, rfl⟩
      · have HS := Lib.hid (borders_bad hlt hok)
        clear hc hs
        by_cases h1 : 1 ≤ ss[k].size
        · have he := isEmpty_of_size h1
          have hn : 40 < ss[k].size := by unfold okBorder at hok; omega
          clear hok
          go_wp2
          go_ret
          exact ⟨ret_bool HS.out, rfl⟩
        · have he := isEmpty_of_size' h1
          clear hok
          go_wp2
          go_ret
          exact ⟨ret_bool HS.out, rfl⟩
    · have HS := Lib.hid (borders_end HR.out (by omega))
      go_wp2
      go_ret
      exact ⟨ret_bool HS.out, rfl⟩

end Go.Proofs.Yteacjikkojglmaa
