/-
  The order of items is an order of classes. Plain, no walk. Lists that rise, merged by a heap of what is left of each: what comes out is the stable sort of all of them. Plain; no conditions. What the program tells of the types of items. The walk of slices.Clone at items. No conditions.
-/
import Derived.Test.YtflppcgonbjnmaaStableItem
import Derived.Test.YtflppcgonbjnmaaJA
import Derived.SliceStrings
namespace Go.Proofs.Ytflppcgonbjnmaa
open Go.RowKit

/-- a comparison: turned about it changes its sign, and 'not above' goes on -/
structure IsCmp {α : Type} (c : α → α → Int) : Prop where
  anti : ∀ a b, c b a = - c a b
  trans : ∀ a b d, c a b ≤ 0 → c b d ≤ 0 → c a d ≤ 0
section
variable {α β : Type} {c d : α → α → Int}
theorem IsCmp.self (h : IsCmp c) (a : α) : c a a = 0 := by have := h.anti a a; omega
theorem IsCmp.lt_le (h : IsCmp c) {x y z : α} (h1 : c x y < 0) (h2 : c y z ≤ 0) : c x z < 0 := by
  have h3 := h.trans x y z (by omega) h2
  by_cases e : c x z = 0
  · have h4 := h.anti x z
    have h5 := h.trans y z x h2 (by omega)
    have h6 := h.anti x y
    omega
  · omega
theorem IsCmp.le_lt (h : IsCmp c) {x y z : α} (h1 : c x y ≤ 0) (h2 : c y z < 0) : c x z < 0 := by
  have h3 := h.trans x y z h1 (by omega)
  by_cases e : c x z = 0
  · have h4 := h.anti x z
    have h5 := h.trans z x y (by omega) h1
    have h6 := h.anti y z
    omega
  · omega
theorem IsCmp.eq_eq (h : IsCmp c) {x y z : α} (h1 : c x y = 0) (h2 : c y z = 0) : c x z = 0 := by
  have h3 := h.trans x y z (by omega) (by omega)
  have h4 := h.anti x y
  have h5 := h.anti y z
  have h6 := h.trans z y x (by omega) (by omega)
  have h7 := h.anti x z
  omega
theorem IsCmp.comap (h : IsCmp c) (f : β → α) : IsCmp fun a b => c (f a) (f b) := ⟨fun _a _b => h.anti _ _, fun _a _b _d => h.trans _ _ _⟩
theorem IsCmp.flip (h : IsCmp c) : IsCmp fun a b => c b a := ⟨fun a b => h.anti b a, fun a b d h1 h2 => h.trans d b a h2 h1⟩
/-- first the one, then the other -/
theorem IsCmp.lex (h : IsCmp c) (k : IsCmp d) : IsCmp fun a b => if c a b = 0 then d a b else c a b := by
  refine ⟨fun a b => ?_, fun x y z h1 h2 => ?_⟩
  · have e := h.anti a b
    have e2 := k.anti a b
    by_cases hz : c a b = 0
    · rw [if_pos hz, if_pos (by omega)]; exact e2
    · rw [if_neg hz, if_neg (by omega)]; exact e
  · by_cases a1 : c x y = 0 <;> by_cases a2 : c y z = 0
    · rw [if_pos a1] at h1
      rw [if_pos a2] at h2
      rw [if_pos (h.eq_eq a1 a2)]
      exact k.trans _ _ _ h1 h2
    · rw [if_neg a2] at h2
      have := h.le_lt (show c x y ≤ 0 by omega) (show c y z < 0 by omega)
      rw [if_neg (by omega)]; omega
    · rw [if_neg a1] at h1
      have := h.lt_le (show c x y < 0 by omega) (show c y z ≤ 0 by omega)
      rw [if_neg (by omega)]; omega
    · rw [if_neg a1] at h1
      rw [if_neg a2] at h2
      have := h.lt_le (show c x y < 0 by omega) (show c y z ≤ 0 by omega)
      rw [if_neg (by omega)]; omega
theorem IsCmp.weak (h : IsCmp c) : Weak fun a b => decide (c a b < 0) := by
  refine ⟨fun a b k => ?_, fun a b d k l => ?_⟩
  · have k := of_decide_eq_true k
    have := h.anti a b
    exact decide_eq_false (by omega)
  · have k := of_decide_eq_false k
    have l := of_decide_eq_false l
    have e1 := h.anti a b
    have e2 := h.anti b d
    have e3 := h.anti a d
    have := h.trans a b d (by omega) (by omega)
    exact decide_eq_false (by omega)
end
theorem txt_cmp : IsCmp txt := by
  refine ⟨fun a b => ?_, fun a b d h1 h2 => ?_⟩
  · unfold txt
    cases h : lt a b with
    | true => have := lt_asymm h; simp [this]
    | false => cases k : lt b a <;> simp
  · have key : ∀ x y : ByteArray, txt x y ≤ 0 ↔ lt y x = false := fun x y => by
      unfold txt
      cases h : lt x y with
      | true => have := lt_asymm h; simp [this]
      | false => cases k : lt y x <;> simp
    rw [key] at *
    cases k : lt d a with
    | false => rfl
    | true =>
      cases l : lt a b with
      | true => have := lt_trans k l; rw [h2] at this; cases this
      | false => have := lt_total l h1; subst this; rw [h2] at k; cases k
theorem num_cmp : IsCmp num := by
  refine ⟨fun a b => ?_, fun a b d h1 h2 => ?_⟩
  · unfold num; split <;> split <;> (try split) <;> omega
  · unfold num at *; split at h1 <;> split at h2 <;> (try split at h1) <;> (try split at h2) <;> split <;> (try split) <;> omega
theorem numI_cmp : IsCmp numI := by
  refine ⟨fun a b => ?_, fun a b d h1 h2 => ?_⟩
  · unfold numI; split <;> split <;> (try split) <;> omega
  · unfold numI at *; split at h1 <;> split at h2 <;> (try split at h1) <;> (try split at h2) <;> split <;> (try split) <;> omega
theorem Cl.cmp_eq (x y : Cl) : x.cmp y = if txt x.row y.row = 0 then (if txt x.col y.col = 0 then (if num y.ts x.ts = 0 then num y.seq x.seq else num y.ts x.ts) else txt x.col y.col) else txt x.row y.row := by
  unfold Cl.cmp
  rw [first4]
theorem cl_cmp : IsCmp Cl.cmp := by
  have h := (txt_cmp.comap Cl.row).lex ((txt_cmp.comap Cl.col).lex ((num_cmp.flip.comap Cl.ts).lex (num_cmp.flip.comap Cl.seq)))
  have e : (fun a b : Cl => if txt a.row b.row = 0 then (if txt a.col b.col = 0 then (if num b.ts a.ts = 0 then num b.seq a.seq else num b.ts a.ts) else txt a.col b.col) else txt a.row b.row) = Cl.cmp := by
    funext x y; rw [Cl.cmp_eq]
  rw [← e]
  exact h
theorem it_cmp : IsCmp It.cmp := by
  have h := (cl_cmp.comap fun x : It => x.c.plain).lex (numI_cmp.flip.comap It.pos)
  have e : (fun a b : It => if a.c.plain.cmp b.c.plain = 0 then numI b.pos a.pos else a.c.plain.cmp b.c.plain) = It.cmp := by
    funext x y; rw [icmp_eq]
  rw [← e]
  exact h
theorem it_weak : Weak It.lt := it_cmp.weak
theorem num_eq {a b : Nat} : num a b = 0 ↔ a = b := by unfold num; split <;> (try split) <;> omega
theorem numI_eq {a b : Int} : numI a b = 0 ↔ a = b := by unfold numI; split <;> (try split) <;> omega
theorem plain_eq (x y : Cl) : x.plain.cmp y.plain = 0 ↔ x.same y = true := by
  rw [Cl.cmp_eq]
  unfold Cl.same Cl.plain
  rw [decide_eq_true_iff]
  simp only
  have h0 : num 0 0 = 0 := rfl
  rw [h0]
  constructor
  · intro h
    split at h
    · rename_i h1
      split at h
      · rename_i h2
        split at h
        · rename_i h3
          exact ⟨txt_eq.1 h1, txt_eq.1 h2, (num_eq.1 h3).symm⟩
        · contradiction
      · contradiction
    · contradiction
  · rintro ⟨h1, h2, h3⟩
    rw [if_pos (txt_eq.2 h1), if_pos (txt_eq.2 h2), if_pos (num_eq.2 h3.symm)]
end Go.Proofs.Ytflppcgonbjnmaa
namespace Go.Proofs.Ytflppcgonbjnmaa

/-- what is left of a list: its number, its first, and the others -/
structure Src (α : Type) where
  at_ : Nat
  x : α
  r : List α
section
variable {α : Type}
theorem nat_cmp : IsCmp fun a b : Nat => (a : Int) - b := ⟨fun a b => by omega, fun a b d h1 h2 => by omega⟩
/-- the order of sources: by their first, then by their numbers -/
def srcC (cmp : α → α → Int) (s t : Src α) : Int := if cmp s.x t.x = 0 then (s.at_ : Int) - t.at_ else cmp s.x t.x
def srcL (cmp : α → α → Int) (s t : Src α) : Bool := decide (srcC cmp s t < 0)
theorem src_cmp {cmp : α → α → Int} (h : IsCmp cmp) : IsCmp (srcC cmp) := (h.comap fun s : Src α => s.x).lex (nat_cmp.comap fun s : Src α => s.at_)
theorem src_ord {cmp : α → α → Int} (h : IsCmp cmp) : Ord (srcL cmp) := ⟨(src_cmp h).weak.trans, (src_cmp h).weak.asymm⟩
/-- the sources of lists -/
def srcs : Nat → List (List α) → List (Src α)
  | _, [] => []
  | k, [] :: R => srcs (k + 1) R
  | k, (x :: r) :: R => ⟨k, x, r⟩ :: srcs (k + 1) R
theorem srcs_mem {s : Src α} : ∀ {R : List (List α)} {k : Nat}, s ∈ srcs k R → ∃ A B, R = A ++ (s.x :: s.r) :: B ∧ s.at_ = k + A.length
  | [], _, h => by cases h
  | [] :: R, k, h => by
    rw [srcs] at h
    obtain ⟨A, B, h1, h2⟩ := srcs_mem h
    exact ⟨[] :: A, B, by rw [h1]; rfl, by rw [h2, List.length_cons]; omega⟩
  | (x :: r) :: R, k, h => by
    rw [srcs] at h
    rcases List.mem_cons.1 h with rfl | h
    · exact ⟨[], R, rfl, rfl⟩
    · obtain ⟨A, B, h1, h2⟩ := srcs_mem h
      exact ⟨(x :: r) :: A, B, by rw [h1]; rfl, by rw [h2, List.length_cons]; omega⟩
theorem srcs_app : ∀ (A B : List (List α)) (k : Nat), srcs k (A ++ B) = srcs k A ++ srcs (k + A.length) B
  | [], B, k => rfl
  | [] :: A, B, k => by
    rw [List.cons_append, srcs, srcs, srcs_app A B (k + 1), List.length_cons, show k + 1 + A.length = k + (A.length + 1) by omega]
  | (x :: r) :: A, B, k => by
    rw [List.cons_append, srcs, srcs, srcs_app A B (k + 1), List.length_cons, show k + 1 + A.length = k + (A.length + 1) by omega]
    rfl
theorem srcs_none {R : List (List α)} {k : Nat} (h : srcs k R = []) : R.flatten = [] := by
  induction R generalizing k with
  | nil => rfl
  | cons l R ih =>
    cases l with
    | nil => rw [srcs] at h; exact ih h
    | cons x r => rw [srcs] at h; cases h
theorem srcs_head {R : List (List α)} {k : Nat} {y : α} {l : List α} {A B : List (List α)} (h : R = A ++ (y :: l) :: B) : (⟨k + A.length, y, l⟩ : Src α) ∈ srcs k R := by
  rw [h, srcs_app]
  exact List.mem_append_right _ (by rw [srcs]; exact List.mem_cons_self)
/-- the part that a source has taken behind its first -/
def next (s : Src α) : List (Src α) := match s.r with | [] => [] | y :: t => [⟨s.at_, y, t⟩]

variable (cmp : α → α → Int)
abbrev ltC (a b : α) : Bool := decide (cmp a b < 0)
/-- merging: the heap, what is left of each list, what has come out -/
structure MrgI (L : List (List α)) (H : List (Src α)) (O : List α) (R : List (List α)) : Prop where
  hp : heapL (srcL cmp) H H.length
  pm : H.Perm (srcs 0 R)
  so : ∀ r ∈ R, Srt (ltC cmp) r
  oo : Srt (ltC cmp) O
  ol : ∀ x ∈ O, ∀ y ∈ R.flatten, ltC cmp y x = false
  st : ∀ c, (O ++ R.flatten).filter (eqv (ltC cmp) c) = L.flatten.filter (eqv (ltC cmp) c)
  fp : (O ++ R.flatten).Perm L.flatten
variable {cmp}
theorem MrgI.done {L R : List (List α)} {O : List α} (h : MrgI cmp L [] O R) : SS (ltC cmp) L.flatten O := by
  have h1 := srcs_none (h.pm.symm.eq_nil)
  have h2 := h.st
  have h3 := h.fp
  rw [h1, List.append_nil] at h2 h3
  exact ⟨h.oo, h2, h3.symm⟩
theorem head_least (hc : IsCmp cmp) {L R : List (List α)} {H : List (Src α)} {O : List α} (h : MrgI cmp L H O R) {m : Src α} (hm : H[0]? = some m) {A B : List (List α)} {y : α} {l : List α} (e : R = A ++ (y :: l) :: B) :
    srcL cmp ⟨A.length, y, l⟩ m = false := by
  have hmem := srcs_head (k := 0) e
  rw [Nat.zero_add] at hmem
  have h1 := h.pm.symm.mem_iff.1 hmem
  obtain ⟨k, hk, hk2⟩ := List.getElem_of_mem h1
  exact heapL_least (src_ord hc) h.hp hm k _ hk hk (by rw [List.getElem?_eq_getElem hk, hk2])
theorem MrgI.pop (hc : IsCmp cmp) {L R : List (List α)} {H : List (Src α)} {O : List α} (h : MrgI cmp L H O R) {m : Src α} (hm : H[0]? = some m) :
    ∃ A B, R = A ++ (m.x :: m.r) :: B ∧ m.at_ = A.length ∧ ∀ H', heapL (srcL cmp) H' H'.length → H'.Perm (next m ++ (popL (srcL cmp) H).take (H.length - 1)) → MrgI cmp L H' (O ++ [m.x]) (A ++ m.r :: B) := by
  have hw := hc.weak
  have hmH : m ∈ H := List.mem_of_getElem? hm
  obtain ⟨A, B, e, hat⟩ := srcs_mem (h.pm.mem_iff.1 hmH)
  rw [Nat.zero_add] at hat
  refine ⟨A, B, e, hat, fun H' hp' hpm => ?_⟩
  have hsrt : Srt (ltC cmp) (m.x :: m.r) := h.so _ (by rw [e]; simp)
  have hsr := List.pairwise_cons.1 hsrt
  -- every other list begins with what is not below
  have hle : ∀ y ∈ R.flatten, ltC cmp y m.x = false := by
    intro y hy
    obtain ⟨l, hl, hyl⟩ := List.mem_flatten.1 hy
    obtain ⟨A', B', e'⟩ := List.append_of_mem hl
    cases l with
    | nil => cases hyl
    | cons z t =>
      have h1 := head_least hc h hm e'
      have h2 : ltC cmp z m.x = false := by
        unfold srcL srcC at h1
        have h1 := of_decide_eq_false h1
        simp only at h1
        refine decide_eq_false ?_
        by_cases hz : cmp z m.x = 0
        · omega
        · rw [if_neg hz] at h1; exact h1
      rcases List.mem_cons.1 hyl with rfl | hyt
      · exact h2
      · exact hw.trans m.x z y h2 ((List.pairwise_cons.1 (h.so _ (by rw [e']; simp))).1 y hyt)
  have hlt : ∀ y ∈ A.flatten, ltC cmp m.x y = true := by
    intro y hy
    obtain ⟨l, hl, hyl⟩ := List.mem_flatten.1 hy
    obtain ⟨A', B', e'⟩ := List.append_of_mem hl
    cases l with
    | nil => cases hyl
    | cons z t =>
      have e2 : R = A' ++ (z :: t) :: (B' ++ (m.x :: m.r) :: B) := by rw [e, e']; simp
      have h1 := head_least hc h hm e2
      have hAl : A'.length < A.length := by rw [e']; simp
      have h2 : ltC cmp m.x z = true := by
        unfold srcL srcC at h1
        have h1 := of_decide_eq_false h1
        simp only at h1
        refine decide_eq_true ?_
        have ha := hc.anti z m.x
        by_cases hz : cmp z m.x = 0
        · rw [if_pos hz] at h1; omega
        · rw [if_neg hz] at h1; omega
      rcases List.mem_cons.1 hyl with rfl | hyt
      · exact h2
      · exact hw.lt_le h2 ((List.pairwise_cons.1 (h.so _ (by rw [e2]; simp))).1 y hyt)
  have hfl : R.flatten = A.flatten ++ (m.x :: (m.r ++ B.flatten)) := by rw [e]; simp
  have hfl' : (A ++ m.r :: B).flatten = A.flatten ++ (m.r ++ B.flatten) := by simp
  refine ⟨hp', ?_, ?_, ?_, ?_, ?_, ?_⟩
  · -- the heap
    have h1 : (m :: (popL (srcL cmp) H).take (H.length - 1)).Perm H := popL_perm hm
    have h2 : (srcs 0 R).Perm (m :: (srcs 0 A ++ srcs (0 + A.length + 1) B)) := by
      rw [e, srcs_app, srcs]
      have : (⟨0 + A.length, m.x, m.r⟩ : Src α) = m := by
        rw [Nat.zero_add, ← hat]
      rw [this]
      exact List.perm_middle
    have h3 := (List.Perm.cons_inv ((h1.trans h.pm).trans h2))
    refine hpm.trans ((List.Perm.append_left _ h3).trans ?_)
    rw [srcs_app]
    unfold next
    cases hr : m.r with
    | nil => rw [srcs]; simp
    | cons y t =>
      rw [srcs, Nat.zero_add, ← hat]
      exact (List.perm_middle (l₁ := srcs 0 A)).symm
  · intro r hr
    rcases List.mem_append.1 hr with hr | hr
    · exact h.so r (by rw [e]; exact List.mem_append_left _ hr)
    · rcases List.mem_cons.1 hr with rfl | hr
      · exact hsr.2
      · exact h.so r (by rw [e]; exact List.mem_append_right _ (List.mem_cons_of_mem _ hr))
  · rw [srt_append]
    exact ⟨h.oo, List.pairwise_singleton _ _, fun x hx y hy => by rw [List.mem_singleton.1 hy]; exact h.ol x hx m.x (by rw [hfl]; simp)⟩
  · intro x hx y hy
    have hyR : y ∈ R.flatten := by
      rw [hfl'] at hy
      rw [hfl]
      rcases List.mem_append.1 hy with hy | hy
      · exact List.mem_append_left _ hy
      · exact List.mem_append_right _ (List.mem_cons_of_mem _ hy)
    rcases List.mem_append.1 hx with hx | hx
    · exact h.ol x hx y hyR
    · rw [List.mem_singleton.1 hx]
      exact hle y hyR
  · intro c
    rw [← h.st c, hfl, hfl']
    simp only [List.filter_append, List.append_assoc]
    congr 1
    by_cases hcx : eqv (ltC cmp) c m.x = true
    · have hA : A.flatten.filter (eqv (ltC cmp) c) = [] := by
        rw [List.filter_eq_nil_iff]
        intro y hy
        have := hw.eqv_lt hcx (hlt y hy)
        simp [this]
      rw [hA, List.filter_cons_of_pos hcx, List.filter_cons_of_pos hcx]
      simp
    · rw [List.filter_cons_of_neg hcx, List.filter_cons_of_neg hcx]
      simp
  · refine List.Perm.trans ?_ h.fp
    rw [hfl, hfl', List.append_assoc]
    exact List.Perm.append_left _ (List.perm_middle (l₁ := A.flatten)).symm
/-- before anything comes out: the lists that have been looked at -/
structure MrgB (cmp : α → α → Int) (H : List (Src α)) (R : List (List α)) : Prop where
  hp : heapL (srcL cmp) H H.length
  pm : H.Perm (srcs 0 R)
theorem MrgB.nil : MrgB cmp [] ([] : List (List α)) := ⟨fun j a b h1 h2 => by simp at h2, List.Perm.refl _⟩
theorem MrgB.skip {H : List (Src α)} {R : List (List α)} (h : MrgB cmp H R) : MrgB cmp H (R ++ [[]]) := ⟨h.hp, by rw [srcs_app]; simpa [srcs] using h.pm⟩
theorem MrgB.push (hc : IsCmp cmp) {H : List (Src α)} {R : List (List α)} (h : MrgB cmp H R) (x : α) (r : List α) : MrgB cmp (pushL (srcL cmp) H ⟨R.length, x, r⟩) (R ++ [x :: r]) := by
  have hp := pushL_heap (src_ord hc) h.hp ⟨R.length, x, r⟩
  have hl : (pushL (srcL cmp) H ⟨R.length, x, r⟩).length = H.length + 1 := by unfold pushL; rw [upL_len]; simp
  refine ⟨by rw [hl]; exact hp, (pushL_perm _ _).trans ?_⟩
  rw [srcs_app, srcs, srcs, Nat.zero_add]
  exact ((List.perm_append_singleton _ _).trans (List.Perm.cons _ h.pm.symm)).symm
theorem MrgB.start {H : List (Src α)} {L : List (List α)} (h : MrgB cmp H L) (hs : ∀ r ∈ L, Srt (ltC cmp) r) : MrgI cmp L H [] L :=
  ⟨h.hp, h.pm, hs, List.Pairwise.nil, (fun x hx => by cases hx), (fun c => rfl), List.Perm.refl _⟩
end
end Go.Proofs.Ytflppcgonbjnmaa
namespace Go.Proofs.Ytflppcgonbjnmaa
open Go.RowKit

/-- the zero of a cell -/
def zeroCell : Value := .agg #[.string ⟨#[]⟩, .string ⟨#[]⟩, .int .u64 0, .int .u64 0, .bool false, .string ⟨#[]⟩]
def zeroItem : Value := .agg #[.string ⟨#[]⟩, .string ⟨#[]⟩, .int .u64 0, .int .u64 0, .bool false, .string ⟨#[]⟩, .int .i64 0]
theorem cellInfo : (Try.prog.info? 53).map (fun i => (i.zero, i.size, i.bytes)) = some (some zeroCell, 6, 72) := by kernel_rfl
theorem itemInfo : (Try.prog.info? 59).map (fun i => (i.zero, i.size, i.bytes)) = some (some zeroItem, 7, 80) := by kernel_rfl
theorem refItemInfo : (Try.prog.info? 56).map (fun i => (i.zero, i.size, i.bytes)) = some (some zeroItem, 7, 80) := by kernel_rfl
theorem itemsInfo : (Try.prog.info? 32).map (fun i => (i.zero, i.size, i.bytes)) = some (some (.slice none 0 0), 1, 24) := by kernel_rfl
theorem refItemsInfo : (Try.prog.info? 40).map (fun i => (i.zero, i.size, i.bytes)) = some (some (.slice none 0 0), 1, 24) := by kernel_rfl
end Go.Proofs.Ytflppcgonbjnmaa
namespace Go.Proofs.Ytflppcgonbjnmaa
open Go.RowKit
attribute [local go_sem ↓] Go.wp_at_zero Go.wp_at_succ

set_option maxHeartbeats 1000000 in
theorem cloneIt_any (A : Option Addr) (c : Nat) (l : List It) (w : World) (hl : Rd w w.heap.size A (l.flatMap It.vals)) (hlen : l.length ≤ 1000000) :
    Calls Try.prog 31 #[.slice A l.length c] w fun e w' => ∃ (A' : Option Addr) (c' : Nat), e = .returned (.slice A' l.length c') ∧ Own w' w.heap.size 59 7 A' l.length c' (l.flatMap It.vals) ∧ Below w.heap.size w w' := by
  obtain ⟨i0, hi0, hz0, hz1, hz2⟩ := info_parts itemInfo
  have hq := fun (W : World) (a : Option Addr) (n c n' c' : Nat) => Lib.run_eql_slice_nil W 32 59 a n c n' c' Try.underlying32
  have HVL := Lib.hid (encs_length (It.vals_len) l)
  have HONE := Lib.hid (show ∀ u ∈ l.flatMap It.vals, u.oneCell' = true from fun u hu => by
    obtain ⟨x, _, hx⟩ := List.mem_flatMap.1 hu
    exact It.one x u hx)
  by_cases hA : A = none
  · subst hA
    have h0 : l = [] := by
      cases l with
      | nil => rfl
      | cons x l => obtain ⟨b, o, h, _⟩ := hl.at_ (by intro e; have := HVL.out; rw [e] at this; simp at this); cases h
    subst h0
    go_enter Try.func31, Try.ntmps31
    go_wp2
    go_ret
    exact ⟨none, 0, rfl, Own.nil, Below.refl _ _⟩
  · obtain ⟨a, rfl⟩ : ∃ a, A = some a := by cases A with
      | none => exact absurd rfl hA
      | some a => exact ⟨a, rfl⟩
    clear hA
    have c1 : Own (w.alloc (.cells #[] 59)) w.heap.size 59 7 (some ⟨w.heap.size, 0, none⟩) 0 0 [] := World.ownsRow_lit w #[] 0 (Nat.le_refl _) (by simp [maxLen]) rfl
    have c2 := hl.alloc (Nat.le_refl _) (.cells #[] 59)
    have c4 : 0 + l.length ≤ maxLen := by unfold maxLen; omega
    go_enter Try.func31, Try.ntmps31
    go_wp2_with (at_builtin; go_loud (refine wpList_app _ rfl (.tmp 5) (.tmp 6) _ rfl w.heap.size 59 i0 zeroItem 7 80 Try.underlying32 hi0 hz0 hz1 hz2 rfl (by decide) (some ⟨w.heap.size, 0, none⟩) 0 0 [] rfl c1 w.heap.size (some a) l.length c (l.flatMap It.vals) rfl c2 HVL.out HONE.out c4 (by omega) (by simp) ?_); intro A' c' w1 hown hg hat)
    go_ret
    exact ⟨A', c', by simp, by simpa using hown, c1.grow ((Below.refl _ _).alloc (Nat.le_refl _) _) (by simp) (Nat.le_refl _) hg⟩
end Go.Proofs.Ytflppcgonbjnmaa
