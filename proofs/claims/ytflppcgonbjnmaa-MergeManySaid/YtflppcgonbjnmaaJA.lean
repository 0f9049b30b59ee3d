/-
  Plain data, no program: cells as Lean data, the order of texts, and the comparisons of cells. Plain laws on sorting that keeps what is alike in order: lists that rise, lists alike class by class, and what of the two determines a list. No program, no memory. A heap in a list: up, down, push, pop; what pop gives is least, and nothing is lost. Plain; no conditions. No conditions.
-/
import Derived.WalkKit
import Derived.WalkLawsBesides
import Derived.Lib.Bytealg
namespace Go.Proofs.Ytflppcgonbjnmaa
open Go.RowKit

/-- is the one text below the other -/
def lt (a b : ByteArray) : Bool := Op.bytesLess a.toList b.toList
/-- the order of texts, as a number: -1, 0, 1 -/
def txt (a b : ByteArray) : Int := if lt a b then -1 else if lt b a then 1 else 0

theorem less_irrefl : ∀ l : List UInt8, Op.bytesLess l l = false
  | [] => rfl
  | a :: l => by simp [Op.bytesLess, less_irrefl l]
theorem less_trans : ∀ a b c : List UInt8, Op.bytesLess a b = true → Op.bytesLess b c = true → Op.bytesLess a c = true
  | _, [], _, h, _ => by cases ‹List UInt8› <;> simp [Op.bytesLess] at h
  | _, _ :: _, [], _, h => by simp [Op.bytesLess] at h
  | [], _ :: _, _ :: _, _, _ => by simp [Op.bytesLess]
  | x :: a, y :: b, z :: c, h, k => by
    simp only [Op.bytesLess, Bool.or_eq_true, Bool.and_eq_true, decide_eq_true_eq, beq_iff_eq] at h k ⊢
    rcases h with h | ⟨rfl, h⟩ <;> rcases k with k | ⟨rfl, k⟩
    · exact .inl (UInt8.lt_trans h k)
    · exact .inl h
    · exact .inl k
    · exact .inr ⟨rfl, less_trans a b c h k⟩
theorem less_total : ∀ a b : List UInt8, Op.bytesLess a b = false → Op.bytesLess b a = false → a = b
  | [], [], _, _ => rfl
  | [], _ :: _, h, _ => by simp [Op.bytesLess] at h
  | _ :: _, [], _, h => by simp [Op.bytesLess] at h
  | x :: a, y :: b, h, k => by
    simp only [Op.bytesLess, Bool.or_eq_false_iff, decide_eq_false_iff_not, Bool.and_eq_false_iff, beq_eq_false_iff_ne] at h k
    obtain ⟨h1, h2⟩ := h
    obtain ⟨k1, k2⟩ := k
    have e : x = y := by
      rw [UInt8.lt_iff_toNat_lt] at h1 k1
      exact UInt8.toNat.inj (by omega)
    subst e
    rw [less_total a b (by simpa using h2) (by simpa using k2)]

theorem toList_inj {a b : ByteArray} (h : a.toList = b.toList) : a = b := by
  rw [ByteArray.toList_eq, ByteArray.toList_eq] at h
  obtain ⟨⟨x⟩⟩ := a
  obtain ⟨⟨y⟩⟩ := b
  simpa using h

theorem lt_irrefl (a : ByteArray) : lt a a = false := less_irrefl _
theorem lt_trans {a b c : ByteArray} (h : lt a b = true) (k : lt b c = true) : lt a c = true := less_trans _ _ _ h k
theorem lt_total {a b : ByteArray} (h : lt a b = false) (k : lt b a = false) : a = b := toList_inj (less_total _ _ h k)
theorem lt_asymm {a b : ByteArray} (h : lt a b = true) : lt b a = false := by
  cases k : lt b a with
  | false => rfl
  | true => have := lt_trans h k; rw [lt_irrefl] at this; cases this
theorem compare_txt (a b : ByteArray) : Lib.compareBytes a.data.toList b.data.toList = txt a b := by
  have main : ∀ x y : List UInt8, Lib.compareBytes x y = if Op.bytesLess x y then -1 else if Op.bytesLess y x then 1 else 0 := by
    intro x
    induction x with
    | nil => intro y; cases y <;> rfl
    | cons x xs ih =>
      intro y
      cases y with
      | nil => rfl
      | cons y ys =>
        simp only [Lib.compareBytes, Op.bytesLess]
        by_cases h : x < y
        · simp [h]
        · by_cases k : y < x
          · have hne : ¬ x = y := by rintro rfl; exact h k
            simp [h, k, hne]
          · have e : x = y := by
              rw [UInt8.lt_iff_toNat_lt] at h k
              exact UInt8.toNat.inj (by omega)
            subst e
            simp [h, ih]
  rw [main, txt, lt, lt, ByteArray.toList_eq, ByteArray.toList_eq]

theorem txt_m {a b : ByteArray} (h : Op.bytesLess a.toList b.toList = true) : (-1 : Int) = txt a b := by simp [txt, lt, h]
theorem txt_p {a b : ByteArray} (h : Op.bytesLess a.toList b.toList = false) (k : (!a.toList == b.toList) = true) : (1 : Int) = txt a b := by
  have hn : ¬ a = b := by rintro rfl; simp at k
  cases h2 : Op.bytesLess b.toList a.toList with
  | true => simp [txt, lt, h, h2]
  | false => exact absurd (lt_total h h2) hn
theorem txt_0 {a b : ByteArray} (k : (!a.toList == b.toList) = false) : (0 : Int) = txt a b := by
  have e : a = b := toList_inj (by simpa using k)
  subst e
  simp [txt, lt_irrefl]
theorem txt_self (a : ByteArray) : txt a a = 0 := by simp [txt, lt_irrefl]
theorem txt_eq {a b : ByteArray} : txt a b = 0 ↔ a = b := by
  unfold txt
  cases h : lt a b <;> cases k : lt b a <;> simp
  · exact lt_total h k
  · rintro rfl; rw [lt_irrefl] at k; cases k
  · rintro rfl; rw [lt_irrefl] at h; cases h
  · rintro rfl; rw [lt_irrefl] at h; cases h

theorem ret_int {k : IntKind} {a b : Int} (h : a = b) : Ending.returned (.int k a) = .returned (.int k b) := by rw [h]
theorem ret_bool {a b : Bool} (h : a = b) : Ending.returned (.bool a) = .returned (.bool b) := by rw [h]

/-- a cell as data -/
structure Cl where
  row : ByteArray
  col : ByteArray
  ts : Nat
  seq : Nat
  del : Bool
  val : ByteArray
  deriving DecidableEq

def Cl.vals (c : Cl) : List Value := [.string c.row, .string c.col, .int .u64 c.ts, .int .u64 c.seq, .bool c.del, .string c.val]
abbrev Cl.agg (c : Cl) : Value := .agg #[.string c.row, .string c.col, .int .u64 c.ts, .int .u64 c.seq, .bool c.del, .string c.val]
def vals (l : List Cl) : List Value := l.flatMap Cl.vals

/-- numbers, by size: -1, 0, 1 -/
def num (a b : Nat) : Int := if a < b then -1 else if b < a then 1 else 0
/-- the first that is not 0 -/
def first (l : List Int) : Int := (l.find? (· != 0)).getD 0

theorem first_nil : first [] = 0 := rfl
theorem first_cons (z : Int) (l : List Int) : first (z :: l) = if z = 0 then first l else z := by
  unfold first
  by_cases h : z = 0 <;> simp [h]
theorem first_all {l : List Int} (h : ∀ z ∈ l, z = 0) : first l = 0 := by
  induction l with
  | nil => rfl
  | cons z l ih => rw [first_cons, if_pos (h z (by simp)), ih fun z hz => h z (by simp [hz])]
theorem first_take {l : List Int} {k : Nat} (hk : k < l.length) (h : ∀ z ∈ l.take k, z = 0) (hne : l[k] ≠ 0) : first l = l[k] := by
  induction l generalizing k with
  | nil => simp at hk
  | cons z l ih =>
    cases k with
    | zero => rw [first_cons, if_neg (by simpa using hne)]; rfl
    | succ k =>
      rw [first_cons, if_pos (h z (by simp))]
      exact ih (by simpa using hk) (fun y hy => h y (by simp [hy])) (by simpa using hne)

def Cl.cmp (a b : Cl) : Int := first [txt a.row b.row, txt a.col b.col, num b.ts a.ts, num b.seq a.seq]

theorem length_vals (l : List Cl) : (vals l).length = 6 * l.length := by
  induction l with
  | nil => rfl
  | cons c l ih => simp [vals, Cl.vals] at *; omega

end Go.Proofs.Ytflppcgonbjnmaa
namespace Go.Proofs.Ytflppcgonbjnmaa
open Go.RowKit

section
variable {α : Type} (lt : α → α → Bool)

/-- an order of classes: never both ways, and 'not above' goes on -/
structure Weak : Prop where
  asymm : ∀ a b, lt a b = true → lt b a = false
  trans : ∀ a b c, lt b a = false → lt c b = false → lt c a = false
def eqv (c x : α) : Bool := !lt c x && !lt x c
def Srt (l : List α) : Prop := l.Pairwise fun a b => lt b a = false
/-- alike, class by class -/
def Stb (l l' : List α) : Prop := ∀ c, l'.filter (eqv lt c) = l.filter (eqv lt c)

variable {lt}
theorem Weak.irrefl (h : Weak lt) (a : α) : lt a a = false := by
  cases k : lt a a with
  | false => rfl
  | true => have := h.asymm a a k; rw [k] at this; cases this
theorem Weak.eqv_self (h : Weak lt) (a : α) : eqv lt a a = true := by simp [eqv, h.irrefl]
theorem Weak.lt_trans (h : Weak lt) {a b c : α} (h1 : lt a b = true) (h2 : lt b c = true) : lt a c = true := by
  cases k : lt a c with
  | true => rfl
  | false =>
    have := h.trans b c a (h.asymm _ _ h2) k
    rw [h1] at this
    cases this
theorem Weak.lt_le (h : Weak lt) {a b c : α} (h1 : lt a b = true) (h2 : lt c b = false) : lt a c = true := by
  cases k : lt a c with
  | true => rfl
  | false =>
    have := h.trans b c a h2 k
    rw [h1] at this
    cases this
theorem Weak.le_lt (h : Weak lt) {a b c : α} (h1 : lt b a = false) (h2 : lt b c = true) : lt a c = true := by
  cases k : lt a c with
  | true => rfl
  | false =>
    have := h.trans c a b k h1
    rw [h2] at this
    cases this
theorem Weak.eqv_lt (h : Weak lt) {c x y : α} (h1 : eqv lt c x = true) (h2 : lt x y = true) : eqv lt c y = false := by
  unfold eqv at *
  simp only [Bool.and_eq_true, Bool.not_eq_true'] at h1
  have : lt c y = true := h.le_lt h1.2 h2
  simp [this]

theorem Stb.refl (l : List α) : Stb lt l l := fun _ => rfl
theorem Stb.trans {a b c : List α} (h : Stb lt a b) (k : Stb lt b c) : Stb lt a c := fun x => (k x).trans (h x)
theorem Stb.symm {a b : List α} (h : Stb lt a b) : Stb lt b a := fun x => (h x).symm
theorem Stb.append {a b c d : List α} (h : Stb lt a b) (k : Stb lt c d) : Stb lt (a ++ c) (b ++ d) := fun x => by
  rw [List.filter_append, List.filter_append, h x, k x]
theorem Stb.mid {a b : List α} (h : Stb lt a b) (x y : List α) : Stb lt (x ++ a ++ y) (x ++ b ++ y) := ((Stb.refl x).append h).append (Stb.refl y)
/-- two parts change their places, where the later one is below -/
theorem Stb.swap (hw : Weak lt) {x y : List α} (h : ∀ a ∈ x, ∀ b ∈ y, lt b a = true) : Stb lt (x ++ y) (y ++ x) := fun c => by
  rw [List.filter_append, List.filter_append]
  by_cases hx : x.filter (eqv lt c) = []
  · rw [hx]; simp
  · have hy : y.filter (eqv lt c) = [] := by
      obtain ⟨a, ha⟩ := List.exists_mem_of_ne_nil _ hx
      rw [List.mem_filter] at ha
      rw [List.filter_eq_nil_iff]
      intro b hb e
      have := hw.eqv_lt e (h a ha.1 b hb)
      rw [ha.2] at this
      cases this
    rw [hy]; simp

theorem Srt.unique (hw : Weak lt) : ∀ {l m : List α}, Srt lt l → Srt lt m → Stb lt l m → l = m
  | [], [], _, _, _ => rfl
  | [], y :: m, _, _, h => by
    have := h y
    rw [List.filter_cons_of_pos (hw.eqv_self y)] at this
    cases this
  | x :: l, [], _, _, h => by
    have := h x
    rw [List.filter_cons_of_pos (hw.eqv_self x)] at this
    cases this
  | x :: l, y :: m, hl, hm, h => by
    unfold Srt at hl hm
    rw [List.pairwise_cons] at hl hm
    have hx := h x
    have hy := h y
    rw [List.filter_cons_of_pos (hw.eqv_self x)] at hx
    rw [List.filter_cons_of_pos (hw.eqv_self y)] at hy
    have h1 : x ∈ y :: m := by
      have : x ∈ (y :: m).filter (eqv lt x) := by rw [hx]; simp
      exact (List.mem_filter.1 this).1
    have h2 : y ∈ x :: l := by
      have : y ∈ (x :: l).filter (eqv lt y) := by rw [← hy]; simp
      exact (List.mem_filter.1 this).1
    have l1 : lt x y = false := by
      rcases List.mem_cons.1 h1 with rfl | h1
      · exact hw.irrefl _
      · exact hm.1 x h1
    have l2 : lt y x = false := by
      rcases List.mem_cons.1 h2 with rfl | h2
      · exact hw.irrefl _
      · exact hl.1 y h2
    have he : eqv lt x y = true := by simp [eqv, l1, l2]
    rw [List.filter_cons_of_pos he] at hx
    injection hx with e1 e2
    subst e1
    have : l = m := Srt.unique hw hl.2 hm.2 fun c => by
      have hc := h c
      by_cases hcy : eqv lt c y = true
      · rw [List.filter_cons_of_pos hcy, List.filter_cons_of_pos hcy] at hc
        injection hc
      · rw [List.filter_cons_of_neg hcy, List.filter_cons_of_neg hcy] at hc
        exact hc
    rw [this]

/-- sorted, and alike class by class -/
def SS (lt : α → α → Bool) (l m : List α) : Prop := Srt lt m ∧ Stb lt l m ∧ l.Perm m
theorem SS.unique (hw : Weak lt) {l m n : List α} (h : SS lt l m) (k : SS lt l n) : m = n := Srt.unique hw h.1 k.1 (h.2.1.symm.trans k.2.1)

theorem srt_append {a b : List α} : Srt lt (a ++ b) ↔ Srt lt a ∧ Srt lt b ∧ ∀ x ∈ a, ∀ y ∈ b, lt y x = false := List.pairwise_append

/-- what is to be put in goes ahead of all that is above it -/
theorem ins_done (hw : Weak lt) {s1 s2 : List α} {x : α} (h : Srt lt (s1 ++ s2)) (h2 : ∀ y ∈ s2, lt x y = true) (h1 : ∀ y, s1.getLast? = some y → lt x y = false) : Srt lt (s1 ++ [x] ++ s2) := by
  rw [srt_append] at h
  rw [srt_append, srt_append]
  have key : ∀ y ∈ s1, lt x y = false := by
    intro y hy
    rcases List.eq_nil_or_concat s1 with rfl | ⟨t, z, rfl⟩
    · cases hy
    · rw [List.concat_eq_append] at *
      have hz := h1 z (by simp)
      have hs := (srt_append.1 h.1).2.2
      rcases List.mem_append.1 hy with hy | hy
      · exact hw.trans _ _ _ (hs y hy z (by simp)) hz
      · rw [List.mem_singleton.1 hy]; exact hz
  refine ⟨⟨h.1, by simp [Srt], fun a ha b hb => by rw [List.mem_singleton.1 hb]; exact key a ha⟩, h.2.1, fun a ha b hb => ?_⟩
  rcases List.mem_append.1 ha with ha | ha
  · exact h.2.2 a ha b hb
  · rw [List.mem_singleton.1 ha]; exact hw.asymm _ _ (h2 b hb)

/-- two sorted parts, cut at one place each, so that what changes its place is below, and the rest is not -/
theorem merge_join (hw : Weak lt) {a1 a2 b1 b2 m1 m2 : List α} (ha : Srt lt (a1 ++ a2)) (hb : Srt lt (b1 ++ b2)) (h1 : ∀ x ∈ a2, ∀ y ∈ b1, lt y x = true) (h2 : ∀ x ∈ a1, ∀ y ∈ b2, lt y x = false)
    (k1 : SS lt (a1 ++ b1) m1) (k2 : SS lt (a2 ++ b2) m2) : SS lt ((a1 ++ a2) ++ (b1 ++ b2)) (m1 ++ m2) := by
  rw [srt_append] at ha hb
  have mem1 : ∀ x ∈ m1, x ∈ a1 ∨ x ∈ b1 := fun x hx => List.mem_append.1 (k1.2.2.symm.subset hx)
  have mem2 : ∀ x ∈ m2, x ∈ a2 ∨ x ∈ b2 := fun x hx => List.mem_append.1 (k2.2.2.symm.subset hx)
  refine ⟨srt_append.2 ⟨k1.1, k2.1, fun x hx y hy => ?_⟩, ?_, ?_⟩
  · rcases mem1 x hx with hx | hx <;> rcases mem2 y hy with hy | hy
    · exact ha.2.2 x hx y hy
    · exact h2 x hx y hy
    · exact hw.asymm _ _ (h1 y hy x hx)
    · exact hb.2.2 x hx y hy
  · have e1 : (a1 ++ a2) ++ (b1 ++ b2) = a1 ++ (a2 ++ b1) ++ b2 := by simp
    have e2 : a1 ++ (b1 ++ a2) ++ b2 = (a1 ++ b1) ++ (a2 ++ b2) := by simp
    rw [e1]
    refine ((Stb.swap hw (fun x hx y hy => h1 x hx y hy)).mid a1 b2).trans ?_
    rw [e2]
    exact k1.2.1.append k2.2.1
  · refine List.Perm.trans ?_ (k1.2.2.append k2.2.2)
    simp only [List.append_assoc]
    refine List.Perm.append_left a1 ?_
    rw [← List.append_assoc, ← List.append_assoc]
    exact List.Perm.append_right b2 List.perm_append_comm

theorem SS.refl {l : List α} (h : Srt lt l) : SS lt l l := ⟨h, Stb.refl l, List.Perm.refl l⟩
theorem SS.of_stb {l m n : List α} (h : Stb lt l m) (hp : l.Perm m) (k : SS lt m n) : SS lt l n := ⟨k.1, h.trans k.2.1, hp.trans k.2.2⟩
theorem SS.append2 {a b c d : List α} (h : Stb lt a b) (hp : a.Perm b) (k : Stb lt c d) (kp : c.Perm d) : Stb lt (a ++ c) (b ++ d) ∧ (a ++ c).Perm (b ++ d) := ⟨h.append k, hp.append kp⟩
end
end Go.Proofs.Ytflppcgonbjnmaa
namespace Go.Proofs.Ytflppcgonbjnmaa

section
variable {α : Type} (lt : α → α → Bool)
def swp (l : List α) (i j : Nat) : List α := match l[i]?, l[j]? with | some a, some b => (l.set i b).set j a | _, _ => l
def upL (l : List α) (j : Nat) : List α :=
  if _h : j = 0 then l else
  match l[j]?, l[(j - 1) / 2]? with
  | some a, some b => if lt a b then upL (swp l ((j - 1) / 2) j) ((j - 1) / 2) else l
  | _, _ => l
termination_by j
decreasing_by omega
/-- the lesser child of i, of the first n -/
def kid (l : List α) (i n : Nat) : Nat := match l[2 * i + 2]?, l[2 * i + 1]? with
  | some a, some b => if 2 * i + 2 < n && lt a b then 2 * i + 2 else 2 * i + 1
  | _, _ => 2 * i + 1
theorem kid_or (l : List α) (i n : Nat) : kid lt l i n = 2 * i + 1 ∨ (kid lt l i n = 2 * i + 2 ∧ 2 * i + 2 < n) := by
  unfold kid
  split
  · split
    · rename_i h
      simp only [Bool.and_eq_true, decide_eq_true_eq] at h
      exact .inr ⟨rfl, h.1⟩
    · exact .inl rfl
  · exact .inl rfl
def downL (l : List α) (i n : Nat) : List α :=
  if _h : n ≤ 2 * i + 1 then l else
  match l[kid lt l i n]?, l[i]? with
  | some a, some b => if lt a b then downL (swp l i (kid lt l i n)) (kid lt l i n) n else l
  | _, _ => l
termination_by n - i
decreasing_by
  rcases kid_or lt l i n with h1 | h1 <;> omega
def heapL (l : List α) (n : Nat) : Prop := ∀ j a b, 0 < j → j < n → l[j]? = some a → l[(j - 1) / 2]? = some b → lt a b = false
end

section
variable {α : Type}
theorem swp_len (l : List α) (i j : Nat) : (swp l i j).length = l.length := by
  unfold swp
  split <;> simp
theorem swp_get {l : List α} {i j : Nat} {a b : α} (hi : l[i]? = some a) (hj : l[j]? = some b) (k : Nat) : (swp l i j)[k]? = if k = j then some a else if k = i then some b else l[k]? := by
  have li := (List.getElem?_eq_some_iff.1 hi).1
  have lj := (List.getElem?_eq_some_iff.1 hj).1
  unfold swp
  rw [hi, hj]
  simp only
  rw [List.getElem?_set, List.getElem?_set]
  by_cases h1 : j = k
  · subst h1
    simp [lj]
  · have h1' : ¬ k = j := fun h => h1 h.symm
    rw [if_neg h1, if_neg h1']
    by_cases h2 : i = k
    · subst h2
      simp [li]
    · have h2' : ¬ k = i := fun h => h2 h.symm
      rw [if_neg h2, if_neg h2']
theorem swp_perm (l : List α) (i j : Nat) : (swp l i j).Perm l := by
  unfold swp
  split
  · rename_i a b hi hj
    obtain ⟨li, ei⟩ := List.getElem?_eq_some_iff.1 hi
    obtain ⟨lj, ej⟩ := List.getElem?_eq_some_iff.1 hj
    subst ei ej
    exact List.set_set_perm li lj
  · exact List.Perm.refl _
variable {lt : α → α → Bool}
theorem upL_len (l : List α) (j : Nat) : (upL lt l j).length = l.length := by
  induction j using Nat.strongRecOn generalizing l with
  | ind j ih =>
    rw [upL]
    split
    · rfl
    · split
      · split
        · rw [ih _ (by omega), swp_len]
        · rfl
      · rfl
theorem upL_perm (l : List α) (j : Nat) : (upL lt l j).Perm l := by
  induction j using Nat.strongRecOn generalizing l with
  | ind j ih =>
    rw [upL]
    split
    · exact List.Perm.refl _
    · split
      · split
        · exact (ih _ (by omega) _).trans (swp_perm _ _ _)
        · exact List.Perm.refl _
      · exact List.Perm.refl _
theorem downL_len (n : Nat) : ∀ (l : List α) (i : Nat), (downL lt l i n).length = l.length := by
  intro l i
  induction h : n - i using Nat.strongRecOn generalizing l i with
  | ind k ih =>
    rw [downL]
    split
    · rfl
    · have hk := kid_or lt l i n
      split
      · split
        · rw [ih _ (by rcases hk with h1 | h1 <;> omega) _ _ rfl, swp_len]
        · rfl
      · rfl
theorem downL_perm (n : Nat) : ∀ (l : List α) (i : Nat), (downL lt l i n).Perm l := by
  intro l i
  induction h : n - i using Nat.strongRecOn generalizing l i with
  | ind k ih =>
    rw [downL]
    split
    · exact List.Perm.refl _
    · have hk := kid_or lt l i n
      split
      · split
        · exact (ih _ (by rcases hk with h1 | h1 <;> omega) _ _ rfl).trans (swp_perm _ _ _)
        · exact List.Perm.refl _
      · exact List.Perm.refl _
/-- down does not touch what lies behind the first n -/
theorem downL_tail (n : Nat) : ∀ (l : List α) (i k : Nat), i < n → n ≤ k → (downL lt l i n)[k]? = l[k]? := by
  intro l i k hin hk
  induction h : n - i using Nat.strongRecOn generalizing l i with
  | ind m ih =>
    rw [downL]
    split
    · rfl
    · have hkd := kid_or lt l i n
      split
      · rename_i a b ha hb
        split
        · rw [ih _ (by rcases hkd with h1 | h1 <;> omega) _ _ (by rcases hkd with h1 | h1 <;> omega) rfl, swp_get hb ha]
          rw [if_neg (by rcases hkd with h1 | h1 <;> omega), if_neg (by omega)]
        · rfl
      · rfl

/-- what a heap asks of its order: 'not less' is transitive, and less is not both ways -/
structure Ord (lt : α → α → Bool) : Prop where
  tr : ∀ a b c, lt b a = false → lt c b = false → lt c a = false
  as : ∀ a b, lt a b = true → lt b a = false
/-- a heap, but that j may be less than its parent -/
structure UpI (lt : α → α → Bool) (l : List α) (n j : Nat) : Prop where
  h : ∀ k a b, 0 < k → k < n → k ≠ j → l[k]? = some a → l[(k - 1) / 2]? = some b → lt a b = false
  g : ∀ k a b, 0 < k → k < n → (k - 1) / 2 = j → 0 < j → l[k]? = some a → l[(j - 1) / 2]? = some b → lt a b = false
theorem upL_heap (O : Ord lt) (n : Nat) : ∀ (j : Nat) (l : List α), l.length = n → j < n → UpI lt l n j → heapL lt (upL lt l j) n := by
  intro j
  induction j using Nat.strongRecOn with
  | ind j ih =>
    intro l hl hj I
    rw [upL]
    split
    · rename_i h0
      subst h0
      exact fun k a b h1 h2 => I.h k a b h1 h2 (by omega)
    · rename_i h0
      have lj : j < l.length := by omega
      have lp : (j - 1) / 2 < l.length := by omega
      rw [List.getElem?_eq_getElem lj, List.getElem?_eq_getElem lp]
      simp only
      have gj := List.getElem?_eq_getElem lj
      have gp := List.getElem?_eq_getElem lp
      generalize l[j] = a at gj
      generalize l[(j - 1) / 2] = b at gp
      cases hab : lt a b with
      | false =>
        rw [if_neg (by simp)]
        intro k x y h1 h2 hx hy
        by_cases e : k = j
        · subst e
          rw [gj] at hx; rw [gp] at hy
          injection hx with hx; injection hy with hy
          rw [← hx, ← hy]; exact hab
        · exact I.h k x y h1 h2 e hx hy
      | true =>
        rw [if_pos rfl]
        have S := swp_get gp gj
        refine ih _ (by omega) _ (by rw [swp_len, hl]) (by omega) ⟨?_, ?_⟩
        · intro k x y h1 h2 hk hx hy
          rw [S] at hx hy
          by_cases e : k = j
          · subst e
            rw [if_pos rfl] at hx
            rw [if_neg (by omega), if_pos rfl] at hy
            injection hx with hx; injection hy with hy
            rw [← hx, ← hy]
            exact O.as _ _ hab
          · rw [if_neg e, if_neg hk] at hx
            by_cases e2 : (k - 1) / 2 = j
            · rw [if_pos e2] at hy
              injection hy with hy
              rw [← hy]
              exact I.g k x b h1 h2 e2 (by omega) hx gp
            · rw [if_neg e2] at hy
              by_cases e3 : (k - 1) / 2 = (j - 1) / 2
              · rw [if_pos e3] at hy
                injection hy with hy
                rw [← hy]
                have := I.h k x b h1 h2 e hx (by rw [e3]; exact gp)
                exact O.tr _ _ _ (O.as _ _ hab) this
              · rw [if_neg e3] at hy
                exact I.h k x y h1 h2 e hx hy
        · intro k x y h1 h2 hk h3 hx hy
          rw [S] at hx hy
          rw [if_neg (by omega), if_neg (by omega)] at hy
          have hbp := I.h ((j - 1) / 2) b y h3 (by omega) (by omega) gp hy
          by_cases e : k = j
          · subst e
            rw [if_pos rfl] at hx
            injection hx with hx
            rw [← hx]; exact hbp
          · rw [if_neg e, if_neg (by omega)] at hx
            exact O.tr _ _ _ hbp (I.h k x b h1 h2 e hx (by rw [hk]; exact gp))
/-- a heap, but that i may be greater than its children -/
structure DnI (lt : α → α → Bool) (l : List α) (n i : Nat) : Prop where
  h : ∀ k a b, 0 < k → k < n → (k - 1) / 2 ≠ i → l[k]? = some a → l[(k - 1) / 2]? = some b → lt a b = false
  g : ∀ k a b, 0 < k → k < n → (k - 1) / 2 = i → 0 < i → l[k]? = some a → l[(i - 1) / 2]? = some b → lt a b = false
theorem kid_least (O : Ord lt) {l : List α} {i n : Nat} {c : α} (hn : n ≤ l.length) (hi : ¬ n ≤ 2 * i + 1) (hc : l[kid lt l i n]? = some c) : ∀ k a, 0 < k → k < n → (k - 1) / 2 = i → l[k]? = some a → lt a c = false := by
  have irr : ∀ a, lt a a = false := fun a => by
    cases h : lt a a with
    | false => rfl
    | true =>
      have := O.as a a h
      rw [h] at this
      exact this
  intro k a h1 h2 hk ha
  have hk2 : k = 2 * i + 1 ∨ k = 2 * i + 2 := by omega
  have l1 : 2 * i + 1 < l.length := by omega
  have g1 := List.getElem?_eq_getElem l1
  unfold kid at hc
  rw [g1] at hc
  by_cases h3 : 2 * i + 2 < l.length
  · rw [List.getElem?_eq_getElem h3] at hc
    simp only at hc
    have g2 := List.getElem?_eq_getElem h3
    by_cases h4 : (decide (2 * i + 2 < n) && lt l[2 * i + 2] l[2 * i + 1]) = true
    · rw [if_pos h4, g2] at hc
      rw [Bool.and_eq_true, decide_eq_true_eq] at h4
      injection hc with hc
      rw [hc] at h4 g2
      rcases hk2 with rfl | rfl
      · rw [g1] at ha; injection ha with ha; rw [← ha]; exact O.as _ _ h4.2
      · rw [g2] at ha; injection ha with ha; rw [← ha]; exact irr _
    · rw [if_neg h4, g1] at hc
      injection hc with hc
      rcases hk2 with rfl | rfl
      · rw [g1] at ha; injection ha with ha; rw [← ha, hc]; exact irr _
      · rw [g2] at ha
        injection ha with ha
        rw [← ha, ← hc]
        cases h5 : lt l[2 * i + 2] l[2 * i + 1] with
        | false => rfl
        | true => rw [h5, decide_eq_true h2] at h4; exact absurd rfl h4
  · have gn : l[2 * i + 2]? = none := List.getElem?_eq_none (by omega)
    rw [gn] at hc
    simp only at hc
    rw [g1] at hc
    injection hc with hc
    rcases hk2 with rfl | rfl
    · rw [g1] at ha; injection ha with ha; rw [← ha, hc]; exact irr _
    · omega
theorem downL_heap (O : Ord lt) (n : Nat) : ∀ (l : List α) (i : Nat), n ≤ l.length → i < n → DnI lt l n i → heapL lt (downL lt l i n) n := by
  intro l i
  induction hm : n - i using Nat.strongRecOn generalizing l i with
  | ind m ih =>
    intro hn hi I
    rw [downL]
    split
    · rename_i h0
      exact fun k a b h1 h2 ha hb => I.h k a b h1 h2 (by omega) ha hb
    · rename_i h0
      have hkd := kid_or lt l i n
      have lk : kid lt l i n < l.length := by rcases hkd with h1 | h1 <;> omega
      have li : i < l.length := by omega
      have gk := List.getElem?_eq_getElem lk
      have gi := List.getElem?_eq_getElem li
      have hle := fun c (hc : l[kid lt l i n]? = some c) => kid_least O hn h0 hc
      rw [gk, gi]
      simp only
      generalize kid lt l i n = j at *
      generalize l[j] = a at gk
      generalize l[i] = b at gi
      have hle := hle a gk
      cases hab : lt a b with
      | false =>
        rw [if_neg (by simp)]
        intro k x y h1 h2 hx hy
        by_cases e : (k - 1) / 2 = i
        · rw [e, gi] at hy
          injection hy with hy
          rw [← hy]
          exact O.tr _ _ _ hab (hle k x h1 h2 e hx)
        · exact I.h k x y h1 h2 e hx hy
      | true =>
        rw [if_pos rfl]
        have S := swp_get gi gk
        have hji : (j - 1) / 2 = i := by rcases hkd with h1 | h1 <;> omega
        have hjn : j < n := by rcases hkd with h1 | h1 <;> omega
        have hj0 : 0 < j := by rcases hkd with h1 | h1 <;> omega
        have hij : i ≠ j := by rcases hkd with h1 | h1 <;> omega
        refine ih _ (by rcases hkd with h1 | h1 <;> omega) _ _ rfl (by rw [swp_len]; exact hn) hjn ⟨?_, ?_⟩
        · intro k x y h1 h2 hk hx hy
          rw [S] at hx hy
          rw [if_neg hk] at hy
          by_cases e : (k - 1) / 2 = i
          · rw [if_pos e] at hy
            injection hy with hy
            rw [← hy]
            by_cases e2 : k = j
            · rw [if_pos e2] at hx
              injection hx with hx
              rw [← hx]; exact O.as _ _ hab
            · rw [if_neg e2, if_neg (by omega)] at hx
              exact hle k x h1 h2 e hx
          · rw [if_neg e] at hy
            by_cases e2 : k = j
            · exact absurd (e2 ▸ hji) e
            · rw [if_neg e2] at hx
              by_cases e3 : k = i
              · rw [if_pos e3] at hx
                injection hx with hx
                rw [← hx]
                exact I.g j a y hj0 hjn hji (by omega) gk (by rw [← e3]; exact hy)
              · rw [if_neg e3] at hx
                exact I.h k x y h1 h2 e hx hy
        · intro k x y h1 h2 hk h3 hx hy
          rw [S] at hx hy
          rw [hji, if_neg hij, if_pos rfl] at hy
          injection hy with hy
          rw [← hy]
          rw [if_neg (by omega), if_neg (by omega)] at hx
          exact I.h k x a h1 h2 (by rw [hk]; exact fun h => hij h.symm) hx (by rw [hk]; exact gk)
theorem heapL_least (O : Ord lt) {l : List α} {n : Nat} {m : α} (h : heapL lt l n) (hm : l[0]? = some m) : ∀ k a, k < n → k < l.length → l[k]? = some a → lt a m = false := by
  intro k
  induction k using Nat.strongRecOn with
  | ind k ih =>
    intro a hk hl ha
    by_cases h0 : k = 0
    · subst h0
      rw [hm] at ha
      injection ha with ha
      subst ha
      cases h : lt m m with
      | false => rfl
      | true => rw [← h]; exact O.as m m h
    · have lp : (k - 1) / 2 < l.length := by omega
      have gp := List.getElem?_eq_getElem lp
      exact O.tr _ _ _ (ih ((k - 1) / 2) (by omega) _ (by omega) lp gp) (h k a _ (by omega) hk ha gp)
/-- push -/
def pushL (lt : α → α → Bool) (l : List α) (x : α) : List α := upL lt (l ++ [x]) l.length
theorem pushL_perm (l : List α) (x : α) : (pushL lt l x).Perm (x :: l) := (upL_perm _ _).trans (List.perm_append_singleton x l)
theorem pushL_heap (O : Ord lt) {l : List α} (h : heapL lt l l.length) (x : α) : heapL lt (pushL lt l x) (l.length + 1) := by
  refine upL_heap O (l.length + 1) l.length (l ++ [x]) (by simp) (by omega) ⟨?_, ?_⟩
  · intro k a b h1 h2 hk ha hb
    rw [List.getElem?_append_left (by omega)] at ha hb
    exact h k a b h1 (by omega) ha hb
  · intro k a b h1 h2 hk
    omega
/-- pop: what is left, and what is given -/
def popL (lt : α → α → Bool) (l : List α) : List α := downL lt (swp l 0 (l.length - 1)) 0 (l.length - 1)
theorem popL_len (l : List α) : (popL lt l).length = l.length := by unfold popL; rw [downL_len, swp_len]
theorem popL_last {l : List α} {m : α} (hm : l[0]? = some m) : (popL lt l)[l.length - 1]? = some m := by
  have h0 := (List.getElem?_eq_some_iff.1 hm).1
  have hl := List.getElem?_eq_getElem (show l.length - 1 < l.length by omega)
  unfold popL
  by_cases h1 : l.length - 1 = 0
  · rw [downL, dif_pos (by omega), swp_get hm hl, if_pos rfl]
  · rw [downL_tail _ _ _ _ (by omega) (Nat.le_refl _), swp_get hm hl, if_pos rfl]
theorem popL_heap (O : Ord lt) {l : List α} (h : heapL lt l l.length) (h0 : 0 < l.length) : heapL lt ((popL lt l).take (l.length - 1)) (l.length - 1) := by
  have hm := List.getElem?_eq_getElem h0
  have hl := List.getElem?_eq_getElem (show l.length - 1 < l.length by omega)
  by_cases h1 : l.length - 1 = 0
  · rw [h1]
    exact fun k a b h2 h3 => by omega
  · have S := swp_get hm hl
    have H : heapL lt (popL lt l) (l.length - 1) := by
      refine downL_heap O _ _ _ (by rw [swp_len]; omega) (by omega) ⟨?_, ?_⟩
      · intro k a b h2 h3 hk ha hb
        rw [S, if_neg (by omega), if_neg (by omega)] at ha
        rw [S, if_neg (by omega), if_neg hk] at hb
        exact h k a b h2 (by omega) ha hb
      · intro k a b h2 h3 hk h4
        omega
    intro k a b h2 h3 ha hb
    rw [List.getElem?_take_of_lt h3] at ha
    rw [List.getElem?_take_of_lt (by omega)] at hb
    exact H k a b h2 h3 ha hb
theorem popL_perm {l : List α} {m : α} (hm : l[0]? = some m) : (m :: (popL lt l).take (l.length - 1)).Perm l := by
  have h0 := (List.getElem?_eq_some_iff.1 hm).1
  have hp : (popL lt l).Perm l := (downL_perm _ _ _).trans (swp_perm _ _ _)
  have hl := popL_len (lt := lt) l
  have he : popL lt l = (popL lt l).take (l.length - 1) ++ [m] := by
    have h1 := popL_last (lt := lt) hm
    have h2 : l.length - 1 < (popL lt l).length := by omega
    have h3 := (List.getElem?_eq_some_iff.1 h1).2
    have h4 := List.take_succ_eq_append_getElem h2
    rw [h3, show l.length - 1 + 1 = l.length by omega, List.take_of_length_le (by omega)] at h4
    exact h4
  have h5 : (m :: (popL lt l).take (l.length - 1)).Perm ((popL lt l).take (l.length - 1) ++ [m]) := (List.perm_append_singleton m _).symm
  rw [← he] at h5
  exact h5.trans hp
end
section
variable {α β : Type} {lt : α → α → Bool} {lt' : β → β → Bool} {f : α → β}
theorem swp_map (l : List α) (i j : Nat) : swp (l.map f) i j = (swp l i j).map f := by
  unfold swp
  rw [List.getElem?_map, List.getElem?_map]
  cases l[i]? <;> cases l[j]? <;> simp [List.map_set]
theorem upL_map (h : ∀ a b, lt' (f a) (f b) = lt a b) (l : List α) (j : Nat) : upL lt' (l.map f) j = (upL lt l j).map f := by
  induction j using Nat.strongRecOn generalizing l with
  | ind j ih =>
    conv => lhs; rw [upL]
    conv => rhs; rw [upL]
    by_cases h0 : j = 0
    · rw [dif_pos h0, dif_pos h0]
    · rw [dif_neg h0, dif_neg h0, List.getElem?_map, List.getElem?_map]
      cases hj : l[j]? with
      | none => rfl
      | some a =>
        cases hp : l[(j - 1) / 2]? with
        | none => rfl
        | some b =>
          simp only [Option.map_some, h]
          split
          · rw [swp_map, ih _ (by omega)]
          · rfl
theorem kid_map (h : ∀ a b, lt' (f a) (f b) = lt a b) (l : List α) (i n : Nat) : kid lt' (l.map f) i n = kid lt l i n := by
  unfold kid
  rw [List.getElem?_map, List.getElem?_map]
  cases l[2 * i + 2]? <;> cases l[2 * i + 1]? <;> simp [h]
theorem downL_map (h : ∀ a b, lt' (f a) (f b) = lt a b) (n : Nat) : ∀ (l : List α) (i : Nat), downL lt' (l.map f) i n = (downL lt l i n).map f := by
  intro l i
  induction hm : n - i using Nat.strongRecOn generalizing l i with
  | ind m ih =>
    conv => lhs; rw [downL]
    conv => rhs; rw [downL]
    by_cases h0 : n ≤ 2 * i + 1
    · rw [dif_pos h0, dif_pos h0]
    · rw [dif_neg h0, dif_neg h0, kid_map h, List.getElem?_map, List.getElem?_map]
      have hkd := kid_or lt l i n
      cases hj : l[kid lt l i n]? with
      | none => rfl
      | some a =>
        cases hp : l[i]? with
        | none => rfl
        | some b =>
          simp only [Option.map_some, h]
          split
          · rw [swp_map, ih _ (by rcases hkd with h1 | h1 <;> omega) _ _ rfl]
          · rfl
theorem pushL_map (h : ∀ a b, lt' (f a) (f b) = lt a b) (l : List α) (x : α) : pushL lt' (l.map f) (f x) = (pushL lt l x).map f := by
  unfold pushL
  rw [← upL_map h, List.map_append, List.length_map]
  rfl
theorem popL_map (h : ∀ a b, lt' (f a) (f b) = lt a b) (l : List α) : popL lt' (l.map f) = (popL lt l).map f := by
  unfold popL
  rw [← downL_map h, swp_map, List.length_map]
end
end Go.Proofs.Ytflppcgonbjnmaa
