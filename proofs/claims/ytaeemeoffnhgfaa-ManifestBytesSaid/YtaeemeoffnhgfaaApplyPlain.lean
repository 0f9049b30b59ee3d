/-
  What manifest.Apply answers, plain. No program in sight.
-/
import Derived.Test.YtaeemeoffnhgfaaApplyBad
namespace Go.Proofs.Ytaeemeoffnhgfaa
open Go.RowKit

open Classical in
/-- the sorted list -/
noncomputable def srt (l : List Fi) : List Fi := if h : ∃ m, SS Fi.lt l m then h.choose else l
theorem srt_eq {l m : List Fi} (h : SS Fi.lt l m) : srt l = m := by
  have hx : ∃ m, SS Fi.lt l m := ⟨m, h⟩
  unfold srt
  rw [dif_pos hx]
  exact SS.unique fi_weak hx.choose_spec h
def named (d : ByteArray) (f : Fi) : Bool := decide (f.name = d)
def delAll : List Fi → List ByteArray → Option (List Fi)
  | l, [] => some l
  | l, d :: ds => match l.findIdx? (named d) with
    | none => none
    | some i => delAll (l.eraseIdx i) ds
theorem delAll_miss {l : List Fi} {d : ByteArray} (ds : List ByteArray) (h : l.findIdx? (named d) = none) : delAll l (d :: ds) = none := by
  rw [delAll, h]
theorem delAll_hit {l : List Fi} {d : ByteArray} {i : Nat} (ds : List ByteArray) (h : l.findIdx? (named d) = some i) : delAll l (d :: ds) = delAll (l.eraseIdx i) ds := by
  rw [delAll, h]
theorem delAll_append : ∀ (l : List Fi) (a b : List ByteArray), delAll l (a ++ b) = (delAll l a).bind fun m => delAll m b
  | l, [], b => rfl
  | l, d :: a, b => by
    rw [List.cons_append]
    cases h : l.findIdx? (named d) with
    | none => rw [delAll_miss _ h, delAll_miss _ h]; rfl
    | some i => rw [delAll_hit _ h, delAll_hit _ h]; exact delAll_append _ a b
theorem delAll_next {l m : List Fi} {ds : List ByteArray} {k : Nat} (h : delAll l (ds.take k) = some m) (hk : k < ds.length) {i : Nat} (hi : m.findIdx? (named ds[k]) = some i) : delAll l (ds.take (k + 1)) = some (m.eraseIdx i) := by
  rw [List.take_succ_eq_append_getElem hk, delAll_append, h]
  show delAll m [ds[k]] = _
  rw [delAll_hit _ hi]
  rfl
theorem delAll_none {l m : List Fi} {ds : List ByteArray} {k : Nat} (h : delAll l (ds.take k) = some m) (hk : k < ds.length) (hi : m.findIdx? (named ds[k]) = none) : delAll l ds = none := by
  have e : ds = ds.take k ++ ds[k] :: ds.drop (k + 1) := by rw [List.getElem_cons_drop, List.take_append_drop]
  rw [e, delAll_append, h]
  show delAll m (ds[k] :: ds.drop (k + 1)) = none
  exact delAll_miss _ hi
theorem delAll_all {l m : List Fi} {ds : List ByteArray} {k : Nat} (h : delAll l (ds.take k) = some m) (hk : ds.length ≤ k) : delAll l ds = some m := by
  rw [List.take_of_length_le hk] at h
  exact h
theorem delAll_sub : ∀ {ds : List ByteArray} {l m : List Fi}, delAll l ds = some m → m.Sublist l
  | [], l, m, h => by cases h; exact List.Sublist.refl _
  | d :: ds, l, m, h => by
    cases hi : l.findIdx? (named d) with
    | none => rw [delAll_miss _ hi] at h; cases h
    | some i => rw [delAll_hit _ hi] at h; exact (delAll_sub h).trans (List.eraseIdx_sublist l i)
def nms (l : List Fi) : List ByteArray := l.map (·.name)
def twice (add l : List Fi) : Bool := add.any fun f => decide (1 < cnt f.name (nms l))
/-- behind the check of the edit: the error, and the files -/
noncomputable def applyM (ls add : List Fi) (del : List ByteArray) : Int × List Fi :=
  match delAll (srt ls) del with
  | none => (3, [])
  | some l => if twice add (l ++ add) then (4, []) else if apart (srt (l ++ add)) then (0, srt (l ++ add)) else (40, [])
theorem applyM_none {ls add : List Fi} {del : List ByteArray} (h : delAll (srt ls) del = none) : applyM ls add del = (3, []) := by unfold applyM; rw [h]
theorem applyM_twice {ls add l : List Fi} {del : List ByteArray} (h : delAll (srt ls) del = some l) (h2 : twice add (l ++ add) = true) : applyM ls add del = (4, []) := by
  unfold applyM; rw [h]; show (if twice add (l ++ add) = true then _ else _) = _; rw [if_pos h2]
theorem applyM_order {ls add l : List Fi} {del : List ByteArray} (h : delAll (srt ls) del = some l) (h2 : twice add (l ++ add) = false) (h3 : apart (srt (l ++ add)) = false) : applyM ls add del = (40, []) := by
  unfold applyM; rw [h]; show (if twice add (l ++ add) = true then _ else _) = _; rw [h2, h3]; rfl
theorem applyM_ok {ls add l : List Fi} {del : List ByteArray} (h : delAll (srt ls) del = some l) (h2 : twice add (l ++ add) = false) (h3 : apart (srt (l ++ add)) = true) : applyM ls add del = (0, srt (l ++ add)) := by
  unfold applyM; rw [h]; show (if twice add (l ++ add) = true then _ else _) = _; rw [h2, h3]; rfl
def onceTo (add l : List Fi) (k : Nat) : Prop := ∀ j (h : j < add.length), j < k → ¬ 1 < cnt add[j].name (nms l)
theorem onceTo.zero (add l : List Fi) : onceTo add l 0 := fun j h hk => by omega
theorem onceTo.succ {add l : List Fi} {k : Nat} (h : onceTo add l k) (hk : k < add.length) (hc : ¬ 1 < cnt add[k].name (nms l)) : onceTo add l (k + 1) := fun j hj hjk => by
  by_cases e : j = k
  · subst e; exact hc
  · exact h j hj (by omega)
theorem onceTo.all {add l : List Fi} {k : Nat} (h : onceTo add l k) (hk : add.length ≤ k) : twice add l = false := by
  unfold twice
  rw [List.any_eq_false]
  intro x hx
  obtain ⟨j, hj, rfl⟩ := List.getElem_of_mem hx
  rw [decide_eq_false (h j hj (by omega))]
  exact Bool.false_ne_true
theorem twice_hit {add l : List Fi} {k : Nat} (hk : k < add.length) (hc : 1 < cnt add[k].name (nms l)) : twice add l = true :=
  List.any_eq_true.2 ⟨_, List.getElem_mem hk, decide_eq_true hc⟩
/-- what Apply gives back, where the edit may be -/
def AppOut (w0 : World) (nx fl : Int) (rm : Int × List Fi) (e : Ending) (w' : World) : Prop :=
  ∃ (A : Option Addr) (c : Nat), e = .returned (.tuple #[stV A rm.2.length c (if rm.1 = 0 then nx else 0) (if rm.1 = 0 then fl else 0), .int .i64 rm.1]) ∧ Rd w' w'.heap.size A (fis rm.2) ∧ Below w0.heap.size w0 w'
theorem AppOut.bad {w0 w' : World} {nx fl r : Int} {rm : Int × List Fi} {e : Ending} (h : rm = (r, [])) (hr : r ≠ 0) (he : e = .returned (.tuple #[stV none 0 0 0 0, .int .i64 r])) (hb : Below w0.heap.size w0 w') : AppOut w0 nx fl rm e w' := by
  subst h
  exact ⟨none, 0, by rw [he, if_neg hr, if_neg hr]; rfl, Rd.nil, hb⟩
end Go.Proofs.Ytaeemeoffnhgfaa
