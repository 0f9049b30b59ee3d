/-
  Cells that are put, one behind the other. Plain, no walk.
-/
import Derived.Test.YtijicefakfpdcaaMemPlain
namespace Go.Proofs.Ytijicefakfpdcaa
open Go.RowKit

/-- may a cell be? -/
def may (c : Cl) : Bool := decide (1 ≤ c.row.size) && decide (c.row.size ≤ 40) && (decide (1 ≤ c.col.size) && decide (c.col.size ≤ 40)) && decide (c.val.size ≤ 100) && !(c.del && !decide (c.val.size = 0))
/-- how many bytes it takes -/
def encLen (c : Cl) : Nat := 20 + c.row.size + c.col.size + c.val.size
def bytesOf (l : List Cl) : Nat := (l.map encLen).sum
/-- one more cell -/
def put (l : List Cl) (c : Cl) : List Cl := if may c then insH c l else l
def puts (l : List Cl) : List Cl := l.foldl put []
def isPut (l : List Cl) (c : Cl) : Bool := may c && !has c l

theorem puts_succ {l : List Cl} {k : Nat} (h : k < l.length) : puts (l.take (k + 1)) = put (puts (l.take k)) l[k] := by
  unfold puts
  rw [List.take_succ_eq_append_getElem h, List.foldl_append]
  rfl
theorem up_put {l : List Cl} (h : Up l) (c : Cl) : Up (put l c) := by
  unfold put
  split
  · exact up_insH h
  · exact h
theorem up_puts (l : List Cl) : Up (puts l) := by
  have : ∀ (m s : List Cl), Up s → Up (m.foldl put s) := by
    intro m
    induction m with
    | nil => exact fun s h => h
    | cons c m ih => exact fun s h => ih _ (up_put h c)
  exact this l [] List.Pairwise.nil
theorem put_not {l : List Cl} {c : Cl} (h : isPut l c = false) : put l c = l := by
  unfold put insH
  unfold isPut at h
  split
  · next hm =>
    rw [hm] at h
    split
    · rfl
    · next hh => simp [hh] at h
  · rfl
theorem put_is {l : List Cl} {c : Cl} (h : isPut l c = true) : put l c = ins c l ∧ may c = true ∧ has c l = false := by
  unfold isPut at h
  rw [Bool.and_eq_true] at h
  have hh : has c l = false := by simpa using h.2
  refine ⟨?_, h.1, hh⟩
  unfold put insH
  rw [h.1, hh]
  rfl
theorem length_put (l : List Cl) (c : Cl) : (put l c).length = if isPut l c then l.length + 1 else l.length := by
  cases h : isPut l c with
  | true => rw [(put_is h).1, length_ins]; rfl
  | false => rw [put_not h]; rfl
theorem bytesOf_ins (c : Cl) (l : List Cl) : bytesOf (ins c l) = bytesOf l + encLen c := by
  unfold bytesOf
  have := ((perm_ins c l).map encLen).sum_nat
  rw [this, List.map_cons, List.sum_cons]
  omega
theorem bytesOf_put (l : List Cl) (c : Cl) : bytesOf (put l c) = if isPut l c then bytesOf l + encLen c else bytesOf l := by
  cases h : isPut l c with
  | true => rw [(put_is h).1, bytesOf_ins]; rfl
  | false => rw [put_not h]; rfl
theorem encLen_le {c : Cl} (h : may c = true) : encLen c ≤ 200 := by
  simp only [may, Bool.and_eq_true, decide_eq_true_eq] at h
  unfold encLen
  omega
theorem length_puts : ∀ l : List Cl, (puts l).length ≤ l.length := by
  have : ∀ (m s : List Cl), (m.foldl put s).length ≤ s.length + m.length := by
    intro m
    induction m with
    | nil => exact fun s => Nat.le_refl _
    | cons c m ih =>
      intro s
      have h1 := ih (put s c)
      have h2 := length_put s c
      simp only [List.foldl_cons, List.length_cons]
      split at h2 <;> omega
  intro l
  have := this l []
  simpa [puts] using this
theorem mem_ins {c x : Cl} {l : List Cl} : x ∈ ins c l ↔ x = c ∨ x ∈ l := by rw [(perm_ins c l).mem_iff, List.mem_cons]
theorem mem_put {c x : Cl} {l : List Cl} (h : x ∈ put l c) : x = c ∨ x ∈ l := by
  cases k : isPut l c with
  | true => rw [(put_is k).1] at h; exact mem_ins.1 h
  | false => rw [put_not k] at h; exact .inr h
theorem puts_may : ∀ l : List Cl, ∀ x ∈ puts l, may x = true := by
  have : ∀ (m s : List Cl), (∀ x ∈ s, may x = true) → ∀ x ∈ m.foldl put s, may x = true := by
    intro m
    induction m with
    | nil => exact fun s h => h
    | cons c m ih =>
      intro s h
      refine ih _ fun x hx => ?_
      cases k : isPut s c with
      | true =>
        obtain ⟨e, hm, _⟩ := put_is k
        rw [e] at hx
        rcases mem_ins.1 hx with rfl | hx
        · exact hm
        · exact h x hx
      | false => rw [put_not k] at hx; exact h x hx
  intro l
  exact this l [] (fun x hx => by cases hx)
theorem sum_le : ∀ (l : List Cl), (∀ x ∈ l, may x = true) → bytesOf l ≤ 200 * l.length
  | [], _ => by simp [bytesOf]
  | c :: l, h => by
    have := sum_le l fun x hx => h x (by simp [hx])
    have h2 := encLen_le (h c (by simp))
    unfold bytesOf at *
    simp only [List.map_cons, List.sum_cons, List.length_cons]
    omega
theorem bytes_puts (l : List Cl) : bytesOf (puts l) ≤ 200 * l.length := by
  have h1 := sum_le _ (puts_may l)
  have h2 := length_puts l
  omega

/-- cells of which no two are alike -/
def Lone (g : List Cl) : Prop := ∀ x ∈ g, ∀ y ∈ g, x.cmp y = 0 → x = y
theorem up_lone {l : List Cl} (hu : Up l) : Lone l := fun x hx y hy h => by
  obtain ⟨i, hi, rfl⟩ := List.getElem_of_mem hx
  obtain ⟨j, hj, rfl⟩ := List.getElem_of_mem hy
  have hp := List.pairwise_iff_getElem.1 hu
  rcases Nat.lt_trichotomy i j with h1 | h1 | h1
  · have := hp i j hi hj h1; omega
  · subst h1; rfl
  · have := hp j i hj hi h1
    have := cmp_flip l[i] l[j]
    omega
/-- in a table are just those cells -/
def Just (pre l : List Cl) : Prop := Up l ∧ ∀ x, x ∈ l ↔ x ∈ pre
theorem Just.nil : Just [] [] := ⟨List.Pairwise.nil, fun _ => Iff.rfl⟩
theorem Just.put {g pre l : List Cl} {c : Cl} (h : Just pre l) (hg : Lone g) (hp : ∀ x ∈ pre, x ∈ g) (hc : c ∈ g) (hm : may c = true) : Just (pre ++ [c]) (put l c) := by
  refine ⟨up_put h.1 c, fun x => ?_⟩
  rw [List.mem_append, List.mem_singleton]
  cases k : isPut l c with
  | true => rw [(put_is k).1, mem_ins, h.2 x]; exact Or.comm
  | false =>
    rw [put_not k, h.2 x]
    refine ⟨.inl, fun hx => hx.elim id fun e => ?_⟩
    subst e
    unfold isPut at k
    rw [hm, Bool.true_and, Bool.not_eq_false'] at k
    unfold has at k
    obtain ⟨d, hd, k⟩ := List.any_eq_true.1 k
    have hd' := (h.2 d).1 hd
    rw [← hg d (hp d hd') _ hc (of_decide_eq_true k)]
    exact hd'
theorem Just.unique {pre pre' l m : List Cl} (h : Just pre l) (k : Just pre' m) (e : ∀ x, x ∈ pre ↔ x ∈ pre') : l = m :=
  up_unique h.1 k.1 fun x => (h.2 x).trans ((e x).trans (k.2 x).symm)
theorem all_hit (n b j : Nat) (hj : j < n) : ∃ i, i < n ∧ (i + b) % n = j := by
  refine ⟨(j + (n - b % n)) % n, Nat.mod_lt _ (by omega), ?_⟩
  have hb : b % n < n := Nat.mod_lt _ (by omega)
  rw [Nat.mod_add_mod, Nat.add_mod, ]
  rw [show (j + (n - b % n)) % n + b % n = (j + (n - b % n)) % n + b % n from rfl, Nat.mod_add_mod]
  rw [show j + (n - b % n) + b % n = j + n by omega, Nat.add_mod_right, Nat.mod_eq_of_lt hj]
end Go.Proofs.Ytijicefakfpdcaa
