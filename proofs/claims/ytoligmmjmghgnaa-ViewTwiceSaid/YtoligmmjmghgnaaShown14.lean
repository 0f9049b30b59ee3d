/-
  The walk of the law's shown.
-/
import Derived.Test.YtoligmmjmghgnaaGet14
namespace Go.Proofs.Ytoligmmjmghgnaa
open Go.RowKit Go.Shelf
attribute [local go_sem ↓] Go.wp_at_zero Go.wp_at_succ

theorem once_perm {α : Type} {lt : α → α → Bool} (hw : Weak lt) {l A : List α} (h : A.Pairwise fun a b => lt a b = true) (hp : l.Perm A) : Once lt l A := by
  refine ⟨h, fun c => ?_⟩
  have h1 := strict_class hw c h
  have h2 := hp.filter (eqv lt c)
  match hq : A.filter (eqv lt c), h1, h2 with
  | [], _, h2 =>
    rw [List.perm_nil.1 h2]
    rfl
  | [x], _, h2 =>
    rw [List.perm_singleton.1 h2]
    rfl
theorem lt_seq {a b : Cl} (h1 : a.row = b.row) (h2 : a.col = b.col) (h3 : a.ts = b.ts) (h4 : b.seq < a.seq) : Cl.lt a b = true := by
  apply decide_eq_true
  rw [Cl.cmp_eq, h1, h2, h3, txt_self, txt_self]
  simp [num, h4]
def cA : Cl := ⟨⟨#[114]⟩, ⟨#[99]⟩, 5, 1, false, ⟨#[97]⟩⟩
def cB : Cl := ⟨⟨#[114]⟩, ⟨#[99]⟩, 5, 3, false, ⟨#[98]⟩⟩
def cD : Cl := ⟨⟨#[114]⟩, ⟨#[99]⟩, 5, 2, true, ⟨#[]⟩⟩
def L0 (p : Nat) : List Cs := [⟨some ⟨p, 0, none⟩, 2, [cA, cB]⟩, ⟨some ⟨p + 1, 0, none⟩, 1, [cD]⟩]
theorem lBD : Cl.lt cB cD = true := lt_seq rfl rfl rfl (by decide)
theorem lBA : Cl.lt cB cA = true := lt_seq rfl rfl rfl (by decide)
theorem lDA : Cl.lt cD cA = true := lt_seq rfl rfl rfl (by decide)
theorem all2 (p : Nat) : Once Cl.lt (allOf (L0 p) 2) [cD, cA] := by
  have e : allOf (L0 p) 2 = [cA, cD] := rfl
  rw [e]
  exact once_perm cl_weak (List.pairwise_pair.2 lDA) (List.Perm.swap cD cA [])
theorem all3 (p : Nat) : Once Cl.lt (allOf (L0 p) 3) [cB, cD, cA] := by
  have e : allOf (L0 p) 3 = [cA, cB, cD] := rfl
  rw [e]
  refine once_perm cl_weak (List.pairwise_cons.2 ⟨fun y hy => ?_, List.pairwise_pair.2 lDA⟩) ?_
  · simp only [List.mem_cons, List.not_mem_nil, or_false] at hy
    rcases hy with rfl | rfl
    · exact lBD
    · exact lBA
  · exact (List.Perm.swap cB cA [cD]).trans (List.Perm.cons cB (List.Perm.swap cD cA []))
theorem all1 (p : Nat) : Once Cl.lt (allOf (L0 p) 1) [cA] := by
  have e : allOf (L0 p) 1 = [cA] := rfl
  rw [e]
  exact Once.self cl_weak (List.pairwise_singleton _ _)
theorem inR_row : inR ⟨#[114]⟩ ⟨#[]⟩ ⟨#[114]⟩ = true := by
  unfold inR
  rw [lt_irrefl]
  rfl
theorem hid1 : seen [cD, cA] cA = false := by
  unfold seen
  have : hidIn [cD, cA] cA = true := List.any_eq_true.2 ⟨cD, List.mem_cons_self, by decide⟩
  rw [this]
  rfl
theorem hid2 : seen [cB, cD, cA] cA = false := by
  unfold seen
  have : hidIn [cB, cD, cA] cA = true := List.any_eq_true.2 ⟨cB, List.mem_cons_self, by decide⟩
  rw [this]
  rfl
theorem vis3 : seen [cB, cD, cA] cB = true := by decide
theorem vis1 : seen [cA] cA = true := by decide
theorem scan2 : scanP [cD, cA] ⟨#[114]⟩ ⟨#[]⟩ = [] := by
  unfold scanP
  rw [List.filter_cons, List.filter_cons, hid1, show seen [cD, cA] cD = false from rfl]
  simp
theorem scan3 : scanP [cB, cD, cA] ⟨#[114]⟩ ⟨#[]⟩ = [cB] := by
  unfold scanP
  rw [List.filter_cons, List.filter_cons, List.filter_cons, hid2, show seen [cB, cD, cA] cD = false from rfl, vis3, show cB.row = ⟨#[114]⟩ from rfl, inR_row]
  simp
theorem scan1 : scanP [cA] ⟨#[]⟩ ⟨#[]⟩ = [cA] := by
  unfold scanP
  rw [List.filter_cons, vis1, inR_all _ _ rfl]
  rfl
/-- the lists of shown -/
def LBox (w : World) (p : Nat) : Prop := w.heap[p]? = some (.cells #[.string ⟨#[114]⟩, .string ⟨#[99]⟩, .int .u64 5, .int .u64 1, .bool false, .string ⟨#[97]⟩, .string ⟨#[114]⟩, .string ⟨#[99]⟩, .int .u64 5, .int .u64 3, .bool false, .string ⟨#[98]⟩] 29 (0, 0)) ∧
  w.heap[p + 1]? = some (.cells #[.string ⟨#[114]⟩, .string ⟨#[99]⟩, .int .u64 5, .int .u64 2, .bool true, .string ⟨#[]⟩] 29 (0, 0)) ∧
  w.heap[p + 2]? = some (.cells #[.slice (some ⟨p, 0, none⟩) 2 2, .slice (some ⟨p + 1, 0, none⟩) 1 1] 26 (0, 0))
theorem LBox.lt {w : World} {p : Nat} (h : LBox w p) : p + 2 < w.heap.size := (Array.getElem?_eq_some_iff.1 h.2.2).1
theorem LBox.below {w w' : World} {p : Nat} (h : LBox w p) (hb : Below w.heap.size w w') : LBox w' p := by
  have hl := h.lt
  exact ⟨(hb.block p (by omega)).trans h.1, (hb.block (p + 1) (by omega)).trans h.2.1, (hb.block (p + 2) hl).trans h.2.2⟩
theorem LBox.rd {w : World} {p : Nat} (h : LBox w p) : Rd w w.heap.size (some ⟨p + 2, 0, none⟩) ((L0 p).map Cs.val) := Rd.ofBlock h.2.2 rfl
theorem LBox.cs {w : World} {p : Nat} (h : LBox w p) : CsIn w w.heap.size (L0 p) := fun x hx => by
  simp only [L0, List.mem_cons, List.not_mem_nil, or_false] at hx
  rcases hx with rfl | rfl
  · exact Rd.ofBlock h.1 rfl
  · exact Rd.ofBlock h.2.1 rfl
theorem LBox.new (w : World) : LBox (((w.alloc (.cells #[.string ⟨#[114]⟩, .string ⟨#[99]⟩, .int .u64 5, .int .u64 1, .bool false, .string ⟨#[97]⟩, .string ⟨#[114]⟩, .string ⟨#[99]⟩, .int .u64 5, .int .u64 3, .bool false, .string ⟨#[98]⟩] 29)).alloc (.cells #[.string ⟨#[114]⟩, .string ⟨#[99]⟩, .int .u64 5, .int .u64 2, .bool true, .string ⟨#[]⟩] 29)).alloc (.cells #[.slice (some ⟨w.heap.size, 0, none⟩) 2 2, .slice (some ⟨w.heap.size + 1, 0, none⟩) 1 1] 26)) w.heap.size ∧ Below w.heap.size w (((w.alloc (.cells #[.string ⟨#[114]⟩, .string ⟨#[99]⟩, .int .u64 5, .int .u64 1, .bool false, .string ⟨#[97]⟩, .string ⟨#[114]⟩, .string ⟨#[99]⟩, .int .u64 5, .int .u64 3, .bool false, .string ⟨#[98]⟩] 29)).alloc (.cells #[.string ⟨#[114]⟩, .string ⟨#[99]⟩, .int .u64 5, .int .u64 2, .bool true, .string ⟨#[]⟩] 29)).alloc (.cells #[.slice (some ⟨w.heap.size, 0, none⟩) 2 2, .slice (some ⟨w.heap.size + 1, 0, none⟩) 1 1] 26)) := by
  have h1 := below_al (w.alloc (.cells #[.string ⟨#[114]⟩, .string ⟨#[99]⟩, .int .u64 5, .int .u64 1, .bool false, .string ⟨#[97]⟩, .string ⟨#[114]⟩, .string ⟨#[99]⟩, .int .u64 5, .int .u64 3, .bool false, .string ⟨#[98]⟩] 29)) (.cells #[.string ⟨#[114]⟩, .string ⟨#[99]⟩, .int .u64 5, .int .u64 2, .bool true, .string ⟨#[]⟩] 29)
  have h2 := below_al ((w.alloc (.cells #[.string ⟨#[114]⟩, .string ⟨#[99]⟩, .int .u64 5, .int .u64 1, .bool false, .string ⟨#[97]⟩, .string ⟨#[114]⟩, .string ⟨#[99]⟩, .int .u64 5, .int .u64 3, .bool false, .string ⟨#[98]⟩] 29)).alloc (.cells #[.string ⟨#[114]⟩, .string ⟨#[99]⟩, .int .u64 5, .int .u64 2, .bool true, .string ⟨#[]⟩] 29)) (.cells #[.slice (some ⟨w.heap.size, 0, none⟩) 2 2, .slice (some ⟨w.heap.size + 1, 0, none⟩) 1 1] 26)
  refine ⟨⟨?_, ?_, ?_⟩, ((below_al w (.cells #[.string ⟨#[114]⟩, .string ⟨#[99]⟩, .int .u64 5, .int .u64 1, .bool false, .string ⟨#[97]⟩, .string ⟨#[114]⟩, .string ⟨#[99]⟩, .int .u64 5, .int .u64 3, .bool false, .string ⟨#[98]⟩] 29)).trans (h1.mono (below_al w (.cells #[.string ⟨#[114]⟩, .string ⟨#[99]⟩, .int .u64 5, .int .u64 1, .bool false, .string ⟨#[97]⟩, .string ⟨#[114]⟩, .string ⟨#[99]⟩, .int .u64 5, .int .u64 3, .bool false, .string ⟨#[98]⟩] 29)).size)).trans (h2.mono (Nat.le_trans (below_al w (.cells #[.string ⟨#[114]⟩, .string ⟨#[99]⟩, .int .u64 5, .int .u64 1, .bool false, .string ⟨#[97]⟩, .string ⟨#[114]⟩, .string ⟨#[99]⟩, .int .u64 5, .int .u64 3, .bool false, .string ⟨#[98]⟩] 29)).size h1.size))⟩
  · exact (h2.block _ (by simp only [World.size_alloc]; omega)).trans ((h1.block _ (by simp only [World.size_alloc]; omega)).trans (heap_alloc_new w _))
  · have := heap_alloc_new (w.alloc (.cells #[.string ⟨#[114]⟩, .string ⟨#[99]⟩, .int .u64 5, .int .u64 1, .bool false, .string ⟨#[97]⟩, .string ⟨#[114]⟩, .string ⟨#[99]⟩, .int .u64 5, .int .u64 3, .bool false, .string ⟨#[98]⟩] 29)) (.cells #[.string ⟨#[114]⟩, .string ⟨#[99]⟩, .int .u64 5, .int .u64 2, .bool true, .string ⟨#[]⟩] 29)
    rw [World.size_alloc] at this
    exact (h2.block _ (by simp only [World.size_alloc]; omega)).trans this
  · have := heap_alloc_new ((w.alloc (.cells #[.string ⟨#[114]⟩, .string ⟨#[99]⟩, .int .u64 5, .int .u64 1, .bool false, .string ⟨#[97]⟩, .string ⟨#[114]⟩, .string ⟨#[99]⟩, .int .u64 5, .int .u64 3, .bool false, .string ⟨#[98]⟩] 29)).alloc (.cells #[.string ⟨#[114]⟩, .string ⟨#[99]⟩, .int .u64 5, .int .u64 2, .bool true, .string ⟨#[]⟩] 29)) (.cells #[.slice (some ⟨w.heap.size, 0, none⟩) 2 2, .slice (some ⟨w.heap.size + 1, 0, none⟩) 1 1] 26)
    rw [World.size_alloc, World.size_alloc] at this
    exact this
theorem get2 (p : Nat) (w : World) (h : LBox w p) : Calls Try.prog 15 #[.slice (some ⟨p + 2, 0, none⟩) 2 2, .int .u64 2, .string ⟨#[114]⟩, .string ⟨#[99]⟩] w fun e w' => e = .returned (.tuple #[.agg #[.string ⟨#[]⟩, .string ⟨#[]⟩, .int .u64 0, .int .u64 0, .bool false, .string ⟨#[]⟩], .bool false]) ∧ Below w.heap.size w w' := by
  refine (get_any (some ⟨p + 2, 0, none⟩) 2 2 2 (L0 p) ⟨#[114]⟩ ⟨#[99]⟩ w h.rd h.cs rfl (by omega) (by show 3 ≤ 100000; omega)).mono ?_
  rintro e w' ⟨m, hm, rfl, hb⟩
  rw [Once.unique cl_weak hm (all2 p), scan2]
  exact ⟨rfl, hb⟩
theorem get3 (p : Nat) (w : World) (h : LBox w p) : Calls Try.prog 15 #[.slice (some ⟨p + 2, 0, none⟩) 2 2, .int .u64 3, .string ⟨#[114]⟩, .string ⟨#[99]⟩] w fun e w' => e = .returned (.tuple #[.agg #[.string ⟨#[114]⟩, .string ⟨#[99]⟩, .int .u64 5, .int .u64 3, .bool false, .string ⟨#[98]⟩], .bool true]) ∧ Below w.heap.size w w' := by
  refine (get_any (some ⟨p + 2, 0, none⟩) 2 2 3 (L0 p) ⟨#[114]⟩ ⟨#[99]⟩ w h.rd h.cs rfl (by omega) (by show 3 ≤ 100000; omega)).mono ?_
  rintro e w' ⟨m, hm, rfl, hb⟩
  rw [Once.unique cl_weak hm (all3 p), scan3]
  exact ⟨rfl, hb⟩
theorem scanOne (p : Nat) (w : World) (h : LBox w p) : Calls Try.prog 9 #[.slice (some ⟨p + 2, 0, none⟩) 2 2, .int .u64 1, .string ⟨#[]⟩, .string ⟨#[]⟩] w fun e w' => ∃ (A' : Option Addr) (c' : Nat), e = .returned (.slice A' 1 c') ∧ Below w.heap.size w w' := by
  refine (scan_any (some ⟨p + 2, 0, none⟩) 2 2 1 (L0 p) ⟨#[]⟩ ⟨#[]⟩ w h.rd h.cs rfl (by omega) (by show 3 ≤ 100000; omega)).mono ?_
  rintro e w' ⟨A', n', c', m, rfl, hm, ho, hb⟩
  rw [Once.unique cl_weak hm (all1 p), scan1] at ho
  have := ho.len
  subst this
  exact ⟨A', c', rfl, hb⟩
set_option maxRecDepth 10000 in
set_option maxHeartbeats 2000000 in
theorem shown_any (w : World) : Calls Try.prog 8 #[] w fun e w' => e = .returned (.bool true) ∧ Below w.heap.size w w' := by
  obtain ⟨hl, hb⟩ := LBox.new w
  have HL := Lib.hid hl
  have HB := Lib.hid hb
  clear hl hb
  go_enter Try.func8, Try.ntmps8
  go_wp2_with (first
    | (go_at_call 15; have M := HL; clear M; refine (get2 _ _ HL.out).mono ?_; rintro e w4 ⟨rfl, hb4⟩; have HL4 := Lib.hid ((HL.out.below hb4).below (below_al w4 (.cells #[.string ⟨#[]⟩, .string ⟨#[]⟩, .int .u64 0, .int .u64 0, .bool false, .string ⟨#[]⟩] 29))); have HB4 := Lib.hid ((HB.out.trans (hb4.mono HB.out.size)).trans ((below_al w4 (.cells #[.string ⟨#[]⟩, .string ⟨#[]⟩, .int .u64 0, .int .u64 0, .bool false, .string ⟨#[]⟩] 29)).mono (Nat.le_trans HB.out.size hb4.size))); clear hb4 HL)
    | (go_at_call 15; have M := HL4; clear M; refine (get3 _ _ HL4.out).mono ?_; rintro e w5 ⟨rfl, hb5⟩; have HL5 := Lib.hid ((HL4.out.below hb5).below (below_al w5 (.cells #[.string ⟨#[114]⟩, .string ⟨#[99]⟩, .int .u64 5, .int .u64 3, .bool false, .string ⟨#[98]⟩] 29))); have HB5 := Lib.hid ((HB4.out.trans (hb5.mono HB4.out.size)).trans ((below_al w5 (.cells #[.string ⟨#[114]⟩, .string ⟨#[99]⟩, .int .u64 5, .int .u64 3, .bool false, .string ⟨#[98]⟩] 29)).mono (Nat.le_trans HB4.out.size hb5.size))); clear hb5 HL4)
    | (go_at_call 9; refine (scanOne _ _ HL5.out).mono ?_; rintro e w6 ⟨A6, c6, rfl, hb6⟩))
  go_ret
  exact ⟨rfl, HB5.out.trans (hb6.mono HB5.out.size)⟩
end Go.Proofs.Ytoligmmjmghgnaa
