/-
  What cut and the document's own cut answer, at any input.
-/
import Derived.Test.YteacjikkojglmaaRefAll
import Derived.Test.YteacjikkojglmaaAll
import Derived.Test.YteacjikkojglmaaSameLists
import Derived.Test.YteacjikkojglmaaShown
import Derived.Test.YteacjikkojglmaaSmall
namespace Go.Proofs.Yteacjikkojglmaa
open Go.RowKit Go.Shelf

def splitSpec (l : List Cl) (ss : List ByteArray) : List (List Cl) × Int := if borders ss = true then (if rising l = true then (splitAt l ss, 0) else ([], 40)) else ([], 1)
def rollSpec (l : List Cl) (most : Int) : List (List Cl) × Int := if most < 1 then ([], 1) else if rising l = true then (roll l most.toNat, 0) else ([], 40)
def allSpec (l : List Cl) (ss : List ByteArray) (most : Int) : List (Nat × List Cl) × Int :=
  if borders ss = true then (if rising l = true then (if most < 1 then ([], 1) else (pieces most.toNat (splitAt l ss) (ss.length + 1), 0)) else ([], 40)) else ([], 1)

/-- lists of cells come back, and an error's number -/
def GivesLists (w : World) (x : List (List Cl) × Int) (e : Ending) (w' : World) : Prop := ∃ (A' : Option Addr) (n' c' : Nat) (vs : List Value), e = .returned (.tuple #[.slice A' n' c', .int .i64 x.2]) ∧
  Own w' w.heap.size 22 1 A' n' c' vs ∧ Lists w' w.heap.size vs x.1 ∧ Below w.heap.size w w'
def GivesPieces (t : TypeId) (w : World) (x : List (Nat × List Cl) × Int) (e : Ending) (w' : World) : Prop := ∃ (A' : Option Addr) (n' c' : Nat) (us : List Value), e = .returned (.tuple #[.slice A' n' c', .int .i64 x.2]) ∧
  PcSt w' w.heap.size t A' n' c' x.1 us ∧ Below w.heap.size w w'

theorem GivesLists.nils {w w' : World} {E : Int} (hb : Below w.heap.size w w') : GivesLists w ([], E) (.returned (.tuple #[.slice none 0 0, .int .i64 E])) w' := ⟨none, 0, 0, [], rfl, Own.nil, Lists.nil, hb⟩
theorem GivesPieces.nils {t : TypeId} {w w' : World} {E : Int} (hb : Below w.heap.size w w') : GivesPieces t w ([], E) (.returned (.tuple #[.slice none 0 0, .int .i64 E])) w' := ⟨none, 0, 0, [], rfl, PcSt.nil _ _ _, hb⟩

section
variable (A S : Option Addr) (c d : Nat) (l : List Cl) (ss : List ByteArray) (most : Int) (w : World)
theorem cutSplit_any (hl : Rd w w.heap.size A (vals l)) (hs : Rd w w.heap.size S (strs ss)) (hlen : l.length ≤ 1000) (hlen' : ss.length ≤ 1000) (hcap : l.length ≤ c) :
    Calls Try.prog 11 #[.slice A l.length c, .slice S ss.length d] w (GivesLists w (splitSpec l ss)) := by
  unfold splitSpec
  by_cases hb : borders ss = true
  · rw [if_pos hb]
    by_cases hr : rising l = true
    · rw [if_pos hr]
      exact (cutSplit_ok A S c d l ss w hl hs hlen hlen' hcap hb hr)
    · rw [if_neg hr]
      refine (cutSplit_low A S c d l ss w hl hs hlen hlen' hb (by simpa using hr)).mono ?_
      rintro e w' ⟨rfl, h⟩
      exact .nils h
  · rw [if_neg hb]
    refine (cutSplit_bad A S c d l ss w hl hs hlen hlen' (by simpa using hb)).mono ?_
    rintro e w' ⟨rfl, h⟩
    exact .nils h
theorem refSplit_any (hl : Rd w w.heap.size A (vals l)) (hs : Rd w w.heap.size S (strs ss)) (hlen : l.length ≤ 1000) (hlen' : ss.length ≤ 1000) :
    Calls Try.prog 12 #[.slice A l.length c, .slice S ss.length d] w (GivesLists w (splitSpec l ss)) := by
  unfold splitSpec
  by_cases hb : borders ss = true
  · rw [if_pos hb]
    by_cases hr : rising l = true
    · rw [if_pos hr]
      exact (refSplit_ok A S c d l ss w hl hs hlen hlen' hb hr)
    · rw [if_neg hr]
      refine (refSplit_low A S c d l ss w hl hs hlen hlen' hb (by simpa using hr)).mono ?_
      rintro e w' ⟨rfl, h⟩
      exact .nils h
  · rw [if_neg hb]
    refine (refSplit_bad A S c d l ss w hs hlen' (by simpa using hb)).mono ?_
    rintro e w' ⟨rfl, h⟩
    exact .nils h
theorem cutRoll_any (hl : Rd w w.heap.size A (vals l)) (hlen : l.length ≤ 1000) (hcap : l.length ≤ c) (hm : most ≤ 9223372036854775807) :
    Calls Try.prog 18 #[.slice A l.length c, .int .i64 most] w (GivesLists w (rollSpec l most)) := by
  unfold rollSpec
  by_cases hb : most < 1
  · rw [if_pos hb]
    refine (cutRoll_bad A c l most w hl hlen hb).mono ?_
    rintro e w' ⟨rfl, h⟩
    exact .nils h
  · rw [if_neg hb]
    by_cases hr : rising l = true
    · rw [if_pos hr]
      obtain ⟨m, rfl⟩ : ∃ m : Nat, most = m := ⟨most.toNat, by omega⟩
      rw [Int.toNat_natCast]
      refine (cutRoll_ok A c l m w hl hlen hcap (by omega) (by omega) hr).mono ?_
      rintro e w' ⟨A', n', c', vs, rfl, h1, h2, _, h3⟩
      exact ⟨A', n', c', vs, rfl, h1, h2, h3⟩
    · rw [if_neg hr]
      refine (cutRoll_low A c l most w hl hlen (by omega) (by simpa using hr)).mono ?_
      rintro e w' ⟨rfl, h⟩
      exact .nils h
theorem refRoll_any (hl : Rd w w.heap.size A (vals l)) (hlen : l.length ≤ 1000) (hcap : l.length ≤ c) (hm : most ≤ 9223372036854775807) :
    Calls Try.prog 19 #[.slice A l.length c, .int .i64 most] w (GivesLists w (rollSpec l most)) := by
  unfold rollSpec
  by_cases hb : most < 1
  · rw [if_pos hb]
    refine (refRoll_bad A c l most w hb).mono ?_
    rintro e w' ⟨rfl, rfl⟩
    exact .nils (Below.refl _ _)
  · rw [if_neg hb]
    by_cases hr : rising l = true
    · rw [if_pos hr]
      obtain ⟨m, rfl⟩ : ∃ m : Nat, most = m := ⟨most.toNat, by omega⟩
      rw [Int.toNat_natCast]
      exact refRoll_ok A c l m w hl hlen hcap (by omega) (by omega) hr
    · rw [if_neg hr]
      refine (refRoll_low A c l most w hl hlen (by omega) (by simpa using hr)).mono ?_
      rintro e w' ⟨rfl, h⟩
      exact .nils h
theorem cutAll_any (hl : Rd w w.heap.size A (vals l)) (hs : Rd w w.heap.size S (strs ss)) (hlen : l.length ≤ 1000) (hlen' : ss.length ≤ 1000) (hcap : l.length ≤ c) (hm : most ≤ 9223372036854775807) :
    Calls Try.prog 20 #[.slice A l.length c, .slice S ss.length d, .int .i64 most] w (GivesPieces 43 w (allSpec l ss most)) := by
  unfold allSpec
  by_cases hb : borders ss = true
  · rw [if_pos hb]
    by_cases hr : rising l = true
    · rw [if_pos hr]
      by_cases h1 : most < 1
      · rw [if_pos h1]
        refine (cutAll_most A S c d l ss most w hl hs hlen hlen' hcap hb hr h1).mono ?_
        rintro e w' ⟨rfl, h⟩
        exact .nils h
      · rw [if_neg h1]
        obtain ⟨m, rfl⟩ : ∃ m : Nat, most = m := ⟨most.toNat, by omega⟩
        rw [Int.toNat_natCast]
        exact cutAll_ok A S c d l ss m w hl hs hlen hlen' hcap hb hr (by omega) (by omega)
    · rw [if_neg hr]
      refine (cutAll_low A S c d l ss most w hl hs hlen hlen' hb (by simpa using hr)).mono ?_
      rintro e w' ⟨rfl, h⟩
      exact .nils h
  · rw [if_neg hb]
    refine (cutAll_bad A S c d l ss most w hl hs hlen hlen' (by simpa using hb)).mono ?_
    rintro e w' ⟨rfl, h⟩
    exact .nils h
theorem refAll_any (hl : Rd w w.heap.size A (vals l)) (hs : Rd w w.heap.size S (strs ss)) (hlen : l.length ≤ 1000) (hlen' : ss.length ≤ 1000) (hcap : l.length ≤ c) (hm : most ≤ 9223372036854775807) :
    Calls Try.prog 21 #[.slice A l.length c, .slice S ss.length d, .int .i64 most] w (GivesPieces 44 w (allSpec l ss most)) := by
  unfold allSpec
  by_cases hb : borders ss = true
  · rw [if_pos hb]
    by_cases hr : rising l = true
    · rw [if_pos hr]
      by_cases h1 : most < 1
      · rw [if_pos h1]
        refine (refAll_most A S c d l ss most w hl hs hlen hlen' hcap hb hr h1).mono ?_
        rintro e w' ⟨rfl, h⟩
        exact .nils h
      · rw [if_neg h1]
        obtain ⟨m, rfl⟩ : ∃ m : Nat, most = m := ⟨most.toNat, by omega⟩
        rw [Int.toNat_natCast]
        exact refAll_ok A S c d l ss m w hl hs hlen hlen' hcap hb hr (by omega) (by omega)
    · rw [if_neg hr]
      refine (refAll_low A S c d l ss most w hl hs hlen hlen' hb (by simpa using hr)).mono ?_
      rintro e w' ⟨rfl, h⟩
      exact .nils h
  · rw [if_neg hb]
    refine (refAll_bad A S c d l ss most w hl hs hlen hlen' (by simpa using hb)).mono ?_
    rintro e w' ⟨rfl, h⟩
    exact .nils h
end

theorem splitSpec_len {l : List Cl} {ss : List ByteArray} : ∀ p ∈ (splitSpec l ss).1, p.length ≤ l.length := by
  intro p hp
  unfold splitSpec at hp
  split at hp
  · split at hp
    · rename_i h
      exact (splitAt_mem ss l h p hp).2
    · cases hp
  · cases hp
theorem splitSpec_count {l : List Cl} {ss : List ByteArray} : (splitSpec l ss).1.length ≤ ss.length + 1 := by
  unfold splitSpec
  split
  · split
    · rw [splitAt_length]; exact Nat.le_refl _
    · simp
  · simp
theorem total_rows : ∀ l : List Cl, total (rowsOf l) = l.length
  | [] => rfl
  | c :: l => by
    have ih := total_rows l
    rw [rowsOf]
    split
    · rename_i e
      rw [e] at ih
      simp only [total, List.map_cons, List.sum_cons, List.length_cons, List.map_nil, List.sum_nil, List.length_nil] at *
      omega
    · rename_i gs e
      rw [e] at ih
      simp only [total, List.map_cons, List.sum_cons, List.length_cons, List.map_nil, List.sum_nil, List.length_nil] at *
      omega
    · rename_i d g gs e
      rw [e] at ih
      split <;> simp only [total, List.map_cons, List.sum_cons, List.length_cons, List.map_nil, List.sum_nil, List.length_nil] at * <;> omega
theorem rollSpec_len {l : List Cl} {most : Int} : ∀ p ∈ (rollSpec l most).1, p.length ≤ l.length := by
  intro p hp
  unfold rollSpec at hp
  split at hp
  · cases hp
  · split at hp
    · have := roll_le most.toNat (rowsOf l) [] 0 (by simp) p hp
      rw [total_rows] at this
      omega
    · cases hp
theorem rollSpec_count {l : List Cl} {most : Int} : (rollSpec l most).1.length ≤ l.length := by
  unfold rollSpec
  split
  · simp
  · split
    · exact roll_length _ _
    · simp
end Go.Proofs.Yteacjikkojglmaa
