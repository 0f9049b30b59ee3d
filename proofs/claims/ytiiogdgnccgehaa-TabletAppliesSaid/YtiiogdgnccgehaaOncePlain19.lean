/-
  What came once, plain: numbers of a client's batches, jobs. No conditions.
-/
import Derived.Test.YtiiogdgnccgehaaAlikePlain19
namespace Go.Proofs.Ytiiogdgnccgehaa
open Go.RowKit

/-- the batches of B had an effect, and the jobs of J -/
structure OInv (s : Sta) (B : List (Nat × Nat)) (J : List Nat) : Prop where
  uniq : (s.clients.map Kl.id).Nodup
  cnt : ∀ p ∈ B, ∃ y ∈ s.clients, y.id = p.1 ∧ p.2 ≤ y.num
  jobs : ∀ j ∈ J, (findS s.jobs j).2 = true
theorem OInv.zero : OInv emptyS [] [] := ⟨List.nodup_nil, (fun p h => by cases h), (fun p h => by cases h)⟩
theorem OInv.index {s : Sta} {B : List (Nat × Nat)} {J : List Nat} (h : OInv s B J) : OInv { s with index := s.index + 1 } B J := ⟨h.uniq, h.cnt, h.jobs⟩
/-- what one command adds -/
def addB (c : Cmd) (x : Eff) (B : List (Nat × Nat)) : List (Nat × Nat) := if x.cells = [] then B else B ++ [(c.client, c.num)]
def addJ (c : Cmd) (x : Eff) (J : List Nat) : List Nat := if x.files = [] then J else J ++ [c.job]
structure OStep (s : Sta) (c : Cmd) (q : Sta × Eff) (B : List (Nat × Nat)) (J : List Nat) : Prop where
  inv : OInv q.1 (addB c q.2 B) (addJ c q.2 J)
  ix : q.1.index = s.index + 1
  cells : q.2.cells ≠ [] → q.2.e = 0 ∧ q.2.done = false ∧ c.kind = 1 ∧ (c.client, c.num) ∉ B ∧ ∀ x ∈ q.2.cells, x.seq = s.index + 1
  files : q.2.files ≠ [] → q.2.e = 0 ∧ q.2.done = false ∧ c.kind = 3 ∧ c.job ∉ J
section
variable {s : Sta} {B : List (Nat × Nat)} {J : List Nat} {c : Cmd}
theorem step_nil {q : Sta} (h : OInv q B J) (hx : q.index = s.index + 1) (e : Int) (d : Bool) : OStep s c (q, ⟨e, d, [], []⟩) B J :=
  ⟨h, hx, fun h => absurd rfl h, fun h => absurd rfl h⟩
theorem split_step (h : OInv s B J) : OStep s c (splitS { s with index := s.index + 1 } c) B J := by
  unfold splitS bad
  split
  · exact step_nil h.index rfl _ _
  · split
    · exact step_nil h.index rfl _ _
    · refine step_nil ?_ rfl _ _
      exact ⟨h.uniq, h.cnt, h.jobs⟩
theorem findS_snoc (l : List Jb) (x : Jb) (j : Nat) : (findS (l ++ [x]) j).2 = ((findS l j).2 || decide (x.id = j)) := by
  unfold findS
  rw [List.find?_append]
  cases h : l.find? (hasId j) with
  | some y => rfl
  | none =>
    simp only [Option.none_or, List.find?_cons, List.find?_nil]
    unfold hasId
    by_cases hq : x.id = j
    · simp [hq]
    · simp [hq]
theorem ingest_step (h : OInv s B J) (hk : c.kind = 3) : OStep s c (ingestS { s with index := s.index + 1 } c) B J := by
  unfold ingestS bad
  simp only
  split
  · exact step_nil h.index rfl _ _
  · split
    · exact step_nil h.index rfl _ _
    · rename_i hn
      split
      · exact step_nil h.index rfl _ _
      · rename_i hf
        split
        · exact step_nil h.index rfl _ _
        · refine ⟨⟨h.uniq, h.cnt, fun j hj => ?_⟩, rfl, fun h => absurd rfl h, fun _ => ⟨rfl, rfl, hk, fun hj => hn (h.jobs _ hj)⟩⟩
          unfold addJ at hj
          simp only [hf, if_false] at hj
          simp only
          rw [findS_snoc]
          rcases List.mem_append.1 hj with hj | hj
          · rw [h.jobs j hj]; rfl
          · rw [List.mem_singleton.1 hj]; simp
theorem isKl_iff (id : Nat) (x : Kl) : isKl id x = true ↔ x.id = id := by
  unfold isKl
  exact decide_eq_true_iff
/-- the clients but for one, and that one anew -/
theorem clients_new (h : OInv s B J) : ∃ l : List Kl, newS { s with index := s.index + 1 } c = ({ s with index := s.index + 1, clients := l ++ [⟨c.client, c.num, if c.cells = [] ∨ twiceL c.cells = true then 1 else 0⟩] }, ⟨if c.cells = [] ∨ twiceL c.cells = true then 1 else 0, false, if c.cells = [] ∨ twiceL c.cells = true then [] else c.cells.map fun x => { x with seq := s.index + 1 }, []⟩) ∧
    (∀ y, y ∈ l ↔ y ∈ s.clients ∧ y.id ≠ c.client) ∧ (l.map Kl.id).Nodup := by
  unfold newS
  simp only
  cases hf : s.clients.findIdx? (isKl c.client) with
  | none =>
    refine ⟨s.clients, rfl, ?_, h.uniq⟩
    rw [List.findIdx?_eq_none_iff] at hf
    intro y
    refine ⟨fun hy => ⟨hy, fun e => ?_⟩, fun hy => hy.1⟩
    have := hf y hy
    rw [(isKl_iff _ _).2 e] at this
    cases this
  | some i =>
    obtain ⟨hi, hq, _⟩ := List.findIdx?_eq_some_iff_getElem.1 hf
    have hid := (isKl_iff _ _).1 hq
    have hsplit : s.clients = s.clients.take i ++ s.clients[i] :: s.clients.drop (i + 1) := by
      rw [← List.drop_eq_getElem_cons hi, List.take_append_drop]
    have hu := h.uniq
    rw [hsplit, List.map_append, List.map_cons] at hu
    have hperm : ((s.clients.take i).map Kl.id ++ s.clients[i].id :: (s.clients.drop (i + 1)).map Kl.id).Perm (s.clients[i].id :: ((s.clients.take i).map Kl.id ++ (s.clients.drop (i + 1)).map Kl.id)) := List.perm_middle
    have hu2 := hperm.nodup_iff.1 hu
    rw [List.nodup_cons] at hu2
    refine ⟨s.clients.take i ++ s.clients.drop (i + 1), rfl, fun y => ⟨fun hy => ?_, fun hy => ?_⟩, by rw [List.map_append]; exact hu2.2⟩
    · refine ⟨?_, fun e => hu2.1 ?_⟩
      · rw [hsplit]
        rcases List.mem_append.1 hy with hy | hy
        · exact List.mem_append_left _ hy
        · exact List.mem_append_right _ (List.mem_cons_of_mem _ hy)
      · rw [← List.map_append, hid, ← e]
        exact List.mem_map.2 ⟨y, hy, rfl⟩
    · have hy1 := hy.1
      rw [hsplit] at hy1
      rcases List.mem_append.1 hy1 with h1 | h1
      · exact List.mem_append_left _ h1
      · rcases List.mem_cons.1 h1 with h1 | h1
        · exact absurd (by rw [h1]; exact hid) hy.2
        · exact List.mem_append_right _ h1
theorem new_step (h : OInv s B J) (hk : c.kind = 1) (hnum : ∀ y ∈ s.clients, y.id = c.client → y.num < c.num) : OStep s c (newS { s with index := s.index + 1 } c) B J := by
  obtain ⟨l, hl, hm, hn⟩ := clients_new (c := c) h
  rw [hl]
  have huniq : ∀ e : Int, ((l ++ [(⟨c.client, c.num, e⟩ : Kl)]).map Kl.id).Nodup := fun e => by
    rw [List.map_append, List.map_cons, List.map_nil, List.nodup_append]
    refine ⟨hn, by simp, fun a ha b hb hab => ?_⟩
    rw [List.mem_singleton] at hb
    obtain ⟨y, hy, rfl⟩ := List.mem_map.1 ha
    exact ((hm y).1 hy).2 (by rw [hab, hb])
  have hold : ∀ (e : Int), ∀ p ∈ B, ∃ y ∈ l ++ [(⟨c.client, c.num, e⟩ : Kl)], y.id = p.1 ∧ p.2 ≤ y.num := fun e p hp => by
    obtain ⟨y, hy, h1, h2⟩ := h.cnt p hp
    by_cases hc : y.id = c.client
    · refine ⟨⟨c.client, c.num, e⟩, by simp, by simp only; rw [← h1, hc], ?_⟩
      have := hnum y hy hc
      simp only
      omega
    · exact ⟨y, List.mem_append_left _ ((hm y).2 ⟨hy, hc⟩), h1, h2⟩
  by_cases hb : c.cells = [] ∨ twiceL c.cells = true
  · simp only [if_pos hb]
    refine step_nil ?_ rfl _ _
    exact ⟨huniq 1, hold 1, h.jobs⟩
  · simp only [if_neg hb]
    have hne : (c.cells.map fun x : Cl => { x with seq := s.index + 1 }) ≠ [] := fun e => hb (.inl (List.map_eq_nil_iff.1 e))
    refine ⟨⟨huniq 0, fun p hp => ?_, h.jobs⟩, rfl, fun _ => ⟨rfl, rfl, hk, fun hp => ?_, fun x hx => ?_⟩, fun h => absurd rfl h⟩
    · unfold addB at hp
      simp only [hne, if_false] at hp
      rcases List.mem_append.1 hp with hp | hp
      · exact hold 0 p hp
      · rw [List.mem_singleton.1 hp]
        exact ⟨⟨c.client, c.num, 0⟩, by simp, rfl, Nat.le_refl _⟩
    · obtain ⟨y, hy, h1, h2⟩ := h.cnt _ hp
      have := hnum y hy h1
      simp only at h2
      omega
    · obtain ⟨y, _, rfl⟩ := List.mem_map.1 hx
      rfl
theorem batch_step (h : OInv s B J) (hk : c.kind = 1) : OStep s c (batchS { s with index := s.index + 1 } c) B J := by
  unfold batchS bad
  simp only
  have huq : ∀ y z, y ∈ s.clients → z ∈ s.clients → y.id = z.id → y = z := by
    have := h.uniq
    intro y z hy hz he
    obtain ⟨i, hi, rfl⟩ := List.getElem_of_mem hy
    obtain ⟨j, hj, rfl⟩ := List.getElem_of_mem hz
    have hij : i = j := by
      have hp := List.pairwise_iff_getElem.1 this
      rcases Nat.lt_trichotomy i j with h | h | h
      · exact absurd (by rw [List.getElem_map, List.getElem_map]; exact he) (hp i j (by simpa using hi) (by simpa using hj) h)
      · exact h
      · exact absurd (by rw [List.getElem_map, List.getElem_map]; exact he.symm) (hp j i (by simpa using hj) (by simpa using hi) h)
    subst hij
    rfl
  cases hf : s.clients.find? (isKl c.client) with
  | none =>
    rw [List.find?_eq_none] at hf
    exact new_step h hk fun y hy e => absurd ((isKl_iff _ _).2 e) (hf y hy)
  | some was =>
    have hw := List.find?_some hf
    have hwm := List.mem_of_find?_eq_some hf
    simp only
    split
    · exact step_nil h.index rfl _ _
    · split
      · exact step_nil h.index rfl _ _
      · refine new_step h hk fun y hy e => ?_
        have := huq y was hy hwm (by rw [e]; exact ((isKl_iff _ _).1 hw).symm)
        subst this
        omega
/-- one command, encoded or not -/
theorem once_step (h : OInv s B J) (hf : fitsC c) : OStep s c (applyS s (encC c).1) B J := by
  rcases encC_cases c with ⟨_, he⟩ | ⟨_, he⟩
  · rw [applyS_enc hf he]
    obtain ⟨hp, _, _, _⟩ := encC_ok he
    unfold methS
    rcases plainC_cases hp with ⟨hk, _⟩ | ⟨hk, _⟩ | ⟨hk, _⟩
    · rw [if_pos hk]
      exact batch_step h hk
    · rw [if_neg (by omega), if_pos hk]
      exact split_step h
    · rw [if_neg (by omega), if_neg (by omega)]
      exact ingest_step h hk
  · rw [applyS_empty s he]
    exact step_nil h.index rfl _ _
end
end Go.Proofs.Ytiiogdgnccgehaa
