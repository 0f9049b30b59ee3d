/-
  The same texts at states that are alike but for their numbers, plain. No conditions.
-/
import Derived.Test.YtiiogdgnccgehaaJK
namespace Go.Proofs.Ytiiogdgnccgehaa
open Go.RowKit

/-- alike, but for the sequences -/
structure Rel (s r : Sta) : Prop where
  ep : s.epoch = r.epoch
  bo : s.borders = r.borders
  jo : s.jobs.map (fun j => (j.id, j.sum)) = r.jobs.map (fun j => (j.id, j.sum))
  cl : s.clients = r.clients
theorem Rel.refl (s : Sta) : Rel s s := ⟨rfl, rfl, rfl, rfl⟩
structure RelE (x y : Eff) : Prop where
  e : x.e = y.e
  d : x.done = y.done
  c : seqTo 0 x.cells x.cells.length = seqTo 0 y.cells y.cells.length
  f : x.files = y.files
theorem RelE.refl (x : Eff) : RelE x x := ⟨rfl, rfl, rfl, rfl⟩
theorem Rel.jobs_len {s r : Sta} (h : Rel s r) : s.jobs.length = r.jobs.length := by
  have := congrArg List.length h.jo
  simpa using this
theorem find_rel (id : Nat) : ∀ (l m : List Jb), l.map (fun j => (j.id, j.sum)) = m.map (fun j => (j.id, j.sum)) → (findS l id).2 = (findS m id).2 ∧ (findS l id).1.sum = (findS m id).1.sum
  | [], [], _ => ⟨rfl, rfl⟩
  | [], _ :: _, h => by simp at h
  | _ :: _, [], h => by simp at h
  | x :: l, y :: m, h => by
    simp only [List.map_cons, List.cons.injEq, Prod.mk.injEq] at h
    obtain ⟨⟨h1, h2⟩, h3⟩ := h
    have ih := find_rel id l m h3
    unfold findS at ih ⊢
    rw [List.find?_cons, List.find?_cons]
    unfold hasId at ih ⊢
    rw [h1]
    by_cases hq : y.id = id
    · simp [hq, h2]
    · simp only [hq, decide_false]
      exact ih
theorem split_rel {s r : Sta} (h : Rel s r) (c : Cmd) : Rel (splitS s c).1 (splitS r c).1 ∧ RelE (splitS s c).2 (splitS r c).2 := by
  unfold splitS bad
  rw [h.bo]
  split
  · exact ⟨h, RelE.refl _⟩
  · split
    · exact ⟨h, RelE.refl _⟩
    · exact ⟨⟨by simp only; rw [h.ep], rfl, h.jo, h.cl⟩, RelE.refl _⟩
theorem ingest_rel {s r : Sta} (h : Rel s r) (c : Cmd) : Rel (ingestS s c).1 (ingestS r c).1 ∧ RelE (ingestS s c).2 (ingestS r c).2 := by
  obtain ⟨h1, h2⟩ := find_rel c.job s.jobs r.jobs h.jo
  unfold ingestS bad
  simp only [h1, h2, h.ep]
  split
  · exact ⟨h, RelE.refl _⟩
  · split
    · exact ⟨h, RelE.refl _⟩
    · split
      · exact ⟨h, RelE.refl _⟩
      · split
        · exact ⟨h, RelE.refl _⟩
        · refine ⟨⟨rfl, h.bo, ?_, h.cl⟩, RelE.refl _⟩
          simp only [List.map_append, h.jo, List.map_cons, List.map_nil]
theorem seqTo_map (q z : Nat) (l : List Cl) : seqTo z (l.map fun x => { x with seq := q }) (l.map fun x => { x with seq := q }).length = seqTo z l l.length := by
  rw [seqTo_all, seqTo_all, List.map_map]
  rfl
theorem new_rel {s r : Sta} (h : Rel s r) (c : Cmd) : Rel (newS s c).1 (newS r c).1 ∧ RelE (newS s c).2 (newS r c).2 := by
  unfold newS
  simp only [h.cl]
  refine ⟨⟨h.ep, h.bo, h.jo, rfl⟩, ⟨rfl, rfl, ?_, rfl⟩⟩
  simp only
  split
  · rfl
  · rw [seqTo_map, seqTo_map]
theorem batch_rel {s r : Sta} (h : Rel s r) (c : Cmd) : Rel (batchS s c).1 (batchS r c).1 ∧ RelE (batchS s c).2 (batchS r c).2 := by
  unfold batchS bad
  rw [h.cl]
  split
  · split
    · exact ⟨h, RelE.refl _⟩
    · split
      · exact ⟨h, RelE.refl _⟩
      · exact new_rel h c
  · exact new_rel h c
theorem apply_rel {s r : Sta} (h : Rel s r) (t : ByteArray) : Rel (applyS s t).1 (applyS r t).1 ∧ RelE (applyS s t).2 (applyS r t).2 := by
  have h1 : Rel { s with index := s.index + 1 } { r with index := r.index + 1 } := ⟨h.ep, h.bo, h.jo, h.cl⟩
  unfold applyS bad
  simp only
  split
  · exact ⟨h1, RelE.refl _⟩
  · split
    · exact ⟨h1, RelE.refl _⟩
    · split
      · exact batch_rel h1 _
      · split
        · exact split_rel h1 _
        · exact ingest_rel h1 _
theorem rel_bad {s r : Sta} (h : Rel s r) {t : ByteArray} (ht : t.size = 0 ∨ (decC t).2 ≠ 0) : Rel s (applyS r t).1 := by
  have h1 : Rel s { r with index := r.index + 1 } := ⟨h.ep, h.bo, h.jo, h.cl⟩
  unfold applyS bad
  simp only
  split
  · exact h1
  · split
    · exact h1
    · rename_i h2 h3
      rcases ht with h | h
      · exact absurd h h2
      · exact absurd h h3
def noneT : ByteArray := ⟨#[255, 32, 110, 111, 110, 101]⟩
theorem dec_noneT : (decC noneT).2 ≠ 0 := by decide
/-- an effect has cells or files, and not too many -/
structure EffOk (x : Eff) : Prop where
  one : x.cells = [] ∨ x.files = []
  lc : x.cells.length ≤ 100
  lf : x.files.length ≤ 255
theorem effOk_nil (e : Int) (d : Bool) : EffOk ⟨e, d, [], []⟩ := ⟨.inl rfl, Nat.zero_le _, Nat.zero_le _⟩
theorem split_eff (s : Sta) (c : Cmd) : EffOk (splitS s c).2 := by
  unfold splitS bad
  split
  · exact effOk_nil _ _
  · split <;> exact effOk_nil _ _
theorem ingest_eff (s : Sta) (c : Cmd) (h : c.files.length ≤ 255) : EffOk (ingestS s c).2 := by
  unfold ingestS bad
  split
  · exact effOk_nil _ _
  · split
    · exact effOk_nil _ _
    · split
      · exact effOk_nil _ _
      · split
        · exact effOk_nil _ _
        · exact ⟨.inl rfl, Nat.zero_le _, h⟩
theorem new_eff (s : Sta) (c : Cmd) (h : c.cells.length ≤ 100) : EffOk (newS s c).2 := by
  unfold newS
  refine ⟨.inr rfl, ?_, Nat.zero_le _⟩
  simp only
  split
  · exact Nat.zero_le _
  · rw [List.length_map]; exact h
theorem batch_eff (s : Sta) (c : Cmd) (h : c.cells.length ≤ 100) : EffOk (batchS s c).2 := by
  unfold batchS bad
  split
  · split
    · exact effOk_nil _ _
    · split
      · exact effOk_nil _ _
      · exact new_eff s c h
  · exact new_eff s c h
theorem dec_wide (t : ByteArray) : (decC t).1.cells.length ≤ 100 ∧ (decC t).1.files.length ≤ 255 := by
  rcases decC_spec t with ⟨_, h⟩ | h
  · obtain ⟨_, h2, _, _⟩ := encC_ok h
    simp only [wideC, Bool.or_eq_false_iff, decide_eq_false_iff_not, Nat.not_lt] at h2
    exact ⟨h2.1.1, h2.1.2⟩
  · rw [h]
    exact ⟨Nat.zero_le _, Nat.zero_le _⟩
theorem apply_eff (s : Sta) (t : ByteArray) : EffOk (applyS s t).2 := by
  obtain ⟨h1, h2⟩ := dec_wide t
  unfold applyS bad
  simp only
  split
  · exact effOk_nil _ _
  · split
    · exact effOk_nil _ _
    · split
      · exact batch_eff _ _ h1
      · split
        · exact split_eff _ _
        · exact ingest_eff _ _ h2
end Go.Proofs.Ytiiogdgnccgehaa
