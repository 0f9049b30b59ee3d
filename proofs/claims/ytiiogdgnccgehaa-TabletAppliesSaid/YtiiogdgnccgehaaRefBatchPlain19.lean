/-
  What the reference's batch leaves of the clients, plain; a client comes once. No conditions.
-/
import Derived.Test.YtiiogdgnccgehaaOncePlain19
namespace Go.Proofs.Ytiiogdgnccgehaa
open Go.RowKit

/-- a client comes once -/
def Uniq (s : Sta) : Prop := (s.clients.map Kl.id).Nodup
theorem uniq_zero : Uniq emptyS := List.nodup_nil
theorem uniq_oinv {s : Sta} (h : Uniq s) : OInv s [] [] := ⟨h, (fun p h => by cases h), (fun p h => by cases h)⟩
theorem uniq_eq {s s' : Sta} (h : Uniq s) (he : s'.clients = s.clients) : Uniq s' := by
  unfold Uniq
  rw [he]
  exact h
theorem split_clients (s : Sta) (c : Cmd) : (splitS s c).1.clients = s.clients := by
  unfold splitS bad
  split
  · rfl
  · split <;> rfl
theorem ingest_clients (s : Sta) (c : Cmd) : (ingestS s c).1.clients = s.clients := by
  unfold ingestS bad
  split
  · rfl
  · split
    · rfl
    · split
      · rfl
      · split <;> rfl
theorem uniq_next {s : Sta} (h : Uniq s) (t : ByteArray) : Uniq (applyS s t).1 := by
  unfold applyS
  simp only
  split
  · exact uniq_eq h rfl
  · split
    · exact uniq_eq h rfl
    · split
      · rename_i hk
        exact (batch_step (uniq_oinv h) hk).inv.uniq
      · split
        · exact uniq_eq h (split_clients _ _)
        · exact uniq_eq h (ingest_clients _ _)
theorem uniq_at {l : List Kl} (h : (l.map Kl.id).Nodup) {i j : Nat} (hi : i < l.length) (hj : j < l.length) (he : l[i].id = l[j].id) : i = j := by
  have hp := List.pairwise_iff_getElem.1 h
  rcases Nat.lt_trichotomy i j with k | k | k
  · exact absurd (by rw [List.getElem_map, List.getElem_map]; exact he) (hp i j (by simpa using hi) (by simpa using hj) k)
  · exact k
  · exact absurd (by rw [List.getElem_map, List.getElem_map]; exact he.symm) (hp j i (by simpa using hj) (by simpa using hi) k)
theorem find_at {l : List Kl} (h : (l.map Kl.id).Nodup) {k id : Nat} (hk : k < l.length) (he : l[k].id = id) : l.find? (isKl id) = some l[k] := by
  rw [List.find?_eq_some_iff_getElem]
  refine ⟨(isKl_iff _ _).2 he, k, hk, rfl, fun j hj => ?_⟩
  have : isKl id l[j] = false := by
    cases hq : isKl id l[j] with
    | false => rfl
    | true =>
      have := uniq_at h (show j < l.length by omega) hk (by rw [(isKl_iff _ _).1 hq, he])
      omega
  rw [this]
  rfl
/-- the clients but for one -/
def othersL (id : Nat) (l : List Kl) : List Kl := l.filter fun x => !isKl id x
theorem others_zero (id : Nat) (l : List Kl) : othersL id (l.take 0) = [] := rfl
theorem others_in {id k : Nat} {l : List Kl} (hk : k < l.length) (h : l[k].id ≠ id) : othersL id (l.take k) ++ [l[k]] = othersL id (l.take (k + 1)) := by
  have : isKl id l[k] = false := by
    cases hq : isKl id l[k] with
    | false => rfl
    | true => exact absurd ((isKl_iff _ _).1 hq) h
  unfold othersL
  rw [List.take_succ_eq_append_getElem hk, List.filter_append, List.filter_cons, this]
  simp
theorem others_out {id k : Nat} {l : List Kl} (hk : k < l.length) (h : l[k].id = id) : othersL id (l.take k) = othersL id (l.take (k + 1)) := by
  unfold othersL
  rw [List.take_succ_eq_append_getElem hk, List.filter_append, List.filter_cons, (isKl_iff _ _).2 h]
  simp
theorem others_eq {l : List Kl} (h : (l.map Kl.id).Nodup) (id : Nat) : (match l.findIdx? (isKl id) with | some i => l.take i ++ l.drop (i + 1) | none => l) = othersL id l := by
  unfold othersL
  cases hf : l.findIdx? (isKl id) with
  | none =>
    simp only
    rw [List.findIdx?_eq_none_iff] at hf
    rw [List.filter_eq_self.2]
    intro x hx
    rw [hf x hx]
    rfl
  | some i =>
    simp only
    obtain ⟨hi, hq, hl⟩ := List.findIdx?_eq_some_iff_getElem.1 hf
    have hid := (isKl_iff _ _).1 hq
    have hsplit : l = l.take i ++ l[i] :: l.drop (i + 1) := by rw [← List.drop_eq_getElem_cons hi, List.take_append_drop]
    have h1 : (l.take i).filter (fun x => !isKl id x) = l.take i := by
      rw [List.filter_eq_self.2]
      intro x hx
      obtain ⟨t, ht, rfl⟩ := List.mem_take_iff_getElem.1 hx
      have := hl t (by omega)
      cases hq : isKl id l[t] with
      | false => rfl
      | true => exact absurd hq this
    have h2 : (l.drop (i + 1)).filter (fun x => !isKl id x) = l.drop (i + 1) := by
      rw [List.filter_eq_self.2]
      intro x hx
      obtain ⟨t, ht, rfl⟩ := List.getElem_of_mem hx
      rw [List.length_drop] at ht
      rw [List.getElem_drop]
      cases hq : isKl id l[i + 1 + t] with
      | false => rfl
      | true =>
        have := uniq_at h (show i + 1 + t < l.length by omega) hi (by rw [(isKl_iff _ _).1 hq, hid])
        omega
    conv => rhs; rw [hsplit]
    rw [List.filter_append, List.filter_cons, hq, h1, h2]
    simp
/-- a batch that has been told -/
theorem batch_told {s : Sta} {c : Cmd} (h : Uniq s) {k : Nat} {x : Kl} (hk : k < s.clients.length) (hx : s.clients[k] = x) (he : x.id = c.client) (hn : c.num = x.num) : batchS s c = (s, ⟨x.e, true, [], []⟩) := by
  subst hx
  unfold batchS
  rw [find_at h hk he]
  simp only
  rw [if_pos hn]
theorem batch_stale {s : Sta} {c : Cmd} (h : Uniq s) {k : Nat} {x : Kl} (hk : k < s.clients.length) (hx : s.clients[k] = x) (he : x.id = c.client) (hn : c.num < x.num) : batchS s c = (s, ⟨4, false, [], []⟩) := by
  subst hx
  unfold batchS
  rw [find_at h hk he]
  simp only
  rw [if_neg (by omega), if_pos hn]
  rfl
def badB (c : Cmd) : Prop := c.cells = [] ∨ twiceL c.cells = true
instance (c : Cmd) : Decidable (badB c) := inferInstanceAs (Decidable (_ ∨ _))
theorem batch_new {s : Sta} {c : Cmd} (h : Uniq s) (hn : ∀ x ∈ s.clients, x.id = c.client → x.num < c.num) :
    batchS s c = ({ s with clients := othersL c.client s.clients ++ [⟨c.client, c.num, if badB c then 1 else 0⟩] }, ⟨if badB c then 1 else 0, false, if badB c then [] else c.cells.map fun x => { x with seq := s.index }, []⟩) := by
  have e : batchS s c = newS s c := by
    unfold batchS
    cases hf : s.clients.find? (isKl c.client) with
    | none => rfl
    | some was =>
      have h1 := List.find?_some hf
      have h2 := List.mem_of_find?_eq_some hf
      have := hn was h2 ((isKl_iff _ _).1 h1)
      simp only
      rw [if_neg (by omega), if_neg (by omega)]
  rw [e]
  unfold newS
  simp only
  have hq := others_eq h c.client
  cases hf : s.clients.findIdx? (isKl c.client) with
  | none =>
    rw [hf] at hq
    simp only at hq
    rw [← hq]
    rfl
  | some i =>
    rw [hf] at hq
    simp only at hq
    rw [← hq]
    rfl
end Go.Proofs.Ytiiogdgnccgehaa
