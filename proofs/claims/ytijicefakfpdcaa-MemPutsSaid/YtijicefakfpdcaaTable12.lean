/-
  The walks of the table of cells in memory.
-/
import Derived.Test.YtijicefakfpdcaaAllRowT
import Derived.Test.YtijicefakfpdcaaAllSpanT
import Derived.Test.YtijicefakfpdcaaSpan12
import Derived.Test.YtijicefakfpdcaaPutWalk
namespace Go.Proofs.Ytijicefakfpdcaa
open Go Go.RowKit Go.Shelf
attribute [local go_sem ↓] Go.wp_at_zero Go.wp_at_succ

theorem collect_any (Bn Bo n0 : Nat) (xs : List Cl) (w : World) (hxs : xs.length ≤ 1000) (hn0 : n0 ≤ w.heap.size) (hBn : Bn < w.heap.size) (hBo : Bo < w.heap.size)
    (hseq : ∀ n, Flow Fence.wide n Try.prog 36 #[.pointer (some ⟨Bn, 0, none⟩), .pointer (some ⟨Bo, 0, none⟩)] (fun c : Cl => #[c.agg]) n0 [Bn, Bo] xs w) :
    Calls Try.prog 23 #[.func (.func 36) #[] #[.pointer (some ⟨Bn, 0, none⟩), .pointer (some ⟨Bo, 0, none⟩)]] w fun e w' =>
      ∃ (A' : Option Addr) (c' : Nat), e = .returned (.slice A' xs.length c') ∧ Own w' w.heap.size 31 6 A' xs.length c' (vals xs) ∧ Below w.heap.size w w' := by
  have h := appendSeq_any Bn Bo n0 xs w hxs hn0 hBn hBo hseq
  have H := Lib.hid h
  clear h hseq
  go_enter Try.func23, Try.ntmps23
  go_wp2_with (go_at_call 35; refine H.out.mono ?_; rintro e w1 ⟨A', c', rfl, ho, hb⟩)
  go_ret
  exact ⟨A', c', rfl, ho.lower (by omega), hb⟩

/-- block tb is a table -/
def Tab (w : World) (tb : Nat) (p : Option Addr) (m y : Int) : Prop := w.heap[tb]? = some (.cells #[.pointer p, .int .i64 m, .int .i64 y] 45 (0, 0))
section
variable {w w' : World} {tb : Nat} {p : Option Addr} {m y : Int}
theorem Tab.lt (h : Tab w tb p m y) : tb < w.heap.size := (Array.getElem?_eq_some_iff.1 h).1
theorem Tab.at_ (h : Tab w tb p m y) : w.cell? ⟨tb, 0, none⟩ = some (.pointer p) ∧ w.cell? ⟨tb, 1, none⟩ = some (.int .i64 m) ∧ w.cell? ⟨tb, 2, none⟩ = some (.int .i64 y) := by
  have f := fun j => cell_of_row w tb j _ _ (0, 0) h
  exact ⟨f 0, f 1, f 2⟩
theorem Tab.free (h : Tab w tb p m y) (j : Nat) : w.frozen? ⟨tb, j, none⟩ = false := frozen_of_row w tb j _ _ h
theorem Tab.keep (h : Tab w tb p m y) (hk : w'.heap[tb]? = w.heap[tb]?) : Tab w' tb p m y := hk.trans h
theorem Tab.setAt (h : Tab w tb p m y) (j : Nat) (v : Value) : (w.setCell ⟨tb, j, none⟩ v).heap[tb]? = some (.cells ((#[.pointer p, .int .i64 m, .int .i64 y] : Array Value).setIfInBounds j v) 45 (0, 0)) := by
  obtain ⟨hlt, hk⟩ := Array.getElem?_eq_some_iff.1 h
  show (w.heap.modify tb _)[tb]? = _
  rw [Array.getElem?_eq_getElem (by rw [Array.size_modify]; exact hlt), Array.getElem_modify_self, hk]
  rfl
theorem Tab.root (h : Tab w tb p m y) (q : Option Addr) : Tab (w.setCell ⟨tb, 0, none⟩ (.pointer q)) tb q m y := h.setAt 0 _
theorem Tab.many (h : Tab w tb p m y) (z : Int) : Tab (w.setCell ⟨tb, 1, none⟩ (.int .i64 z)) tb p z y := h.setAt 1 _
theorem Tab.bytes (h : Tab w tb p m y) (z : Int) : Tab (w.setCell ⟨tb, 2, none⟩ (.int .i64 z)) tb p m z := h.setAt 2 _
theorem Tab.new (w : World) (p : Option Addr) (m y : Int) : Tab (w.alloc (.cells #[.pointer p, .int .i64 m, .int .i64 y] 45)) w.heap.size p m y := heap_alloc_new w _
end
/-- a table with these cells, that lies in the blocks S -/
structure Tbl (w : World) (S : List Nat) (tb : Nat) (T : Tr) (l : List Cl) : Prop where
  tab : Tab w tb T.ptr l.length (bytesOf l)
  lies : T.In w
  nodup : T.blocks.Nodup
  cells : T.cells = l
  up : Up l
  out : tb ∉ T.blocks
  s : S = tb :: T.blocks
theorem Tbl.lt {w : World} {S : List Nat} {tb : Nat} {T : Tr} {l : List Cl} (h : Tbl w S tb T l) : ∀ k ∈ S, k < w.heap.size := by
  intro k hk
  rw [h.s] at hk
  rcases List.mem_cons.1 hk with rfl | hk
  · exact h.tab.lt
  · exact h.lies.lt k hk
theorem Tbl.keep {w w' : World} {S : List Nat} {tb : Nat} {T : Tr} {l : List Cl} (h : Tbl w S tb T l) (hk : ∀ k ∈ S, w'.heap[k]? = w.heap[k]?) : Tbl w' S tb T l :=
  ⟨h.tab.keep (hk tb (by rw [h.s]; simp)), h.lies.keep fun k hb => hk k (by rw [h.s]; simp [hb]), h.nodup, h.cells, h.up, h.out, h.s⟩
theorem Tbl.below {w w' : World} {S : List Nat} {tb : Nat} {T : Tr} {l : List Cl} (h : Tbl w S tb T l) (hb : Below w.heap.size w w') : Tbl w' S tb T l := h.keep fun k hk => hb.block k (h.lt k hk)

theorem new_any (w : World) : Calls Try.prog 6 #[] w fun e w' => e = .returned (.pointer (some ⟨w.heap.size, 0, none⟩)) ∧ Tbl w' [w.heap.size] w.heap.size .leaf [] ∧ Below w.heap.size w w' := by
  have h := Tab.new w none 0 0
  have hb := (Below.refl w.heap.size w).alloc (Nat.le_refl _) (.cells #[.pointer none, .int .i64 0, .int .i64 0] 45)
  have H := Lib.hid (And.intro h hb)
  clear h hb
  go_enter Try.func6, Try.ntmps6
  go_wp2
  go_ret
  exact ⟨rfl, ⟨H.out.1, trivial, by simp [Tr.blocks], rfl, List.Pairwise.nil, by simp [Tr.blocks], rfl⟩, H.out.2⟩

theorem many_any (w : World) (S : List Nat) (tb : Nat) (T : Tr) (l : List Cl) (h : Tbl w S tb T l) : Calls Try.prog 15 #[.pointer (some ⟨tb, 0, none⟩)] w fun e w' => e = .returned (.int .i64 l.length) ∧ w = w' := by
  have h1 := h.tab.at_.2.1
  clear h
  go_enter Try.func15, Try.ntmps15
  go_wp2
  go_ret
  exact ⟨rfl, rfl⟩
theorem bytes_any (w : World) (S : List Nat) (tb : Nat) (T : Tr) (l : List Cl) (h : Tbl w S tb T l) : Calls Try.prog 16 #[.pointer (some ⟨tb, 0, none⟩)] w fun e w' => e = .returned (.int .i64 (bytesOf l)) ∧ w = w' := by
  have h1 := h.tab.at_.2.2
  clear h
  go_enter Try.func16, Try.ntmps16
  go_wp2
  go_ret
  exact ⟨rfl, rfl⟩

/-- cells in a row of their own -/
def GivesCells (w : World) (l : List Cl) (e : Ending) (w' : World) : Prop :=
  ∃ (A' : Option Addr) (c' : Nat), e = .returned (.slice A' l.length c') ∧ Own w' w.heap.size 31 6 A' l.length c' (vals l) ∧ Below w.heap.size w w'

set_option maxHeartbeats 2000000 in
theorem rowT_any (w : World) (S : List Nat) (tb : Nat) (T : Tr) (l : List Cl) (row : ByteArray) (h : Tbl w S tb T l) (hl : l.length ≤ 1000) :
    Calls Try.prog 13 #[.pointer (some ⟨tb, 0, none⟩), .string row] w fun e w' => GivesCells w (rowed l row) e w' := by
  obtain ⟨W1, hW1⟩ : ∃ W1, w.alloc (.cells #[.string row] 9) = W1 := ⟨_, rfl⟩
  have hB1 : Below w.heap.size w W1 := by rw [← hW1]; exact (Below.refl _ _).alloc (Nat.le_refl _) _
  have hs1 : W1.heap.size = w.heap.size + 1 := by rw [← hW1, World.size_alloc]
  have hbx : Box W1 w.heap.size 9 (.string row) := by rw [← hW1]; exact Box.new _ _ _
  have h1 := h.below hB1
  have hroot := h1.tab.at_.1
  have hseen : T.seen (fun s => !lt s row) (fun s => decide (s = row)) (fun s => !lt row s) = rowed l row := by
    have := Tr.seen_eq (lo := fun s => !lt s row) (he := fun s => decide (s = row)) (hi := fun s => !lt row s) (fun s s' ha hb => decide_eq_false fun e => by subst e; rw [hb] at ha; cases ha) (fun s s' ha hb => decide_eq_false fun e => by subst e; rw [hb] at ha; cases ha) T (by rw [h.cells]; exact h.up)
    rw [this, h.cells]
    rfl
  have hlen : (rowed l row).length ≤ 1000 := Nat.le_trans (List.length_filter_le _ _) hl
  have hfl : ∀ w3, Below W1.heap.size W1 w3 → Box w3 W1.heap.size 43 (.pointer T.ptr) → Box w3 (W1.heap.size + 1) 56 (.func (.func 26) #[] #[.pointer (some ⟨w.heap.size, 0, none⟩)]) → ∀ n, Flow Fence.wide n Try.prog 36 #[.pointer (some ⟨W1.heap.size, 0, none⟩), .pointer (some ⟨W1.heap.size + 1, 0, none⟩)] (fun c : Cl => #[c.agg]) W1.heap.size [W1.heap.size, W1.heap.size + 1] (rowed l row) w3 := fun w3 hb hn ho n => by
    rw [← hseen]
    exact all1R W1.heap.size w.heap.size 0 W1 _ _ _ (fun Wx hx s => onRow_any w.heap.size s row Wx ((World.cell?_of_block (a := ⟨w.heap.size, 0, none⟩) (hx _ hbx.lt)).trans hbx.cell)) T n W1.heap.size (W1.heap.size + 1) w3 (fun j hj => hb.block j hj) hb.size (h1.lies.keep fun k hk => hb.block k (h1.lies.lt k hk)) (fun k hk => h1.lies.lt k hk) hn ho
  have H := Lib.hid (And.intro hB1 (And.intro hs1 (And.intro hlen hfl)))
  clear hB1 hs1 hbx h1 hseen hlen hfl h
  go_enter Try.func13, Try.ntmps13
  go_wp2_with (first
    | (go_at_call 24; refine (all_anyR T.ptr w.heap.size 0 _).mono ?_; rintro e w3 ⟨rfl, hw3⟩;
       have hb3 : Below W1.heap.size W1 w3 := (by rw [← hw3]; exact ((Below.refl W1.heap.size W1).alloc (Nat.le_refl _) _).alloc (by rw [World.size_alloc]; exact Nat.le_succ _) _);
       have hn3 : Box w3 W1.heap.size 43 (.pointer T.ptr) := (by rw [← hw3]; exact (Box.new W1 _ _).alloc _);
       have ho3 : Box w3 (W1.heap.size + 1) 56 (.func (.func 26) #[] #[.pointer (some ⟨w.heap.size, 0, none⟩)]) := (by
        rw [← hw3]
        have := Box.new (W1.alloc (.cells #[.pointer T.ptr] 43)) 56 (.func (.func 26) #[] #[.pointer (some ⟨w.heap.size, 0, none⟩)])
        rwa [World.size_alloc] at this);
       have HC := Lib.hid (collect_any W1.heap.size (W1.heap.size + 1) W1.heap.size (rowed l row) w3 H.out.2.2.1 hb3.size hn3.lt ho3.lt (H.out.2.2.2 w3 hb3 hn3 ho3));
       have HB3 := Lib.hid hb3; clear hw3 hb3 hn3 ho3)
    | (go_at_call 23; refine HC.out.mono ?_; rintro e w4 ⟨A4, c4, rfl, ho4, hb4⟩))
  go_ret
  have hz := HB3.out.size
  have hz1 := H.out.2.1
  exact ⟨A4, c4, rfl, ho4.lower (by omega), H.out.1.trans ((HB3.out.mono (by omega)).trans (hb4.mono (by omega)))⟩
set_option maxHeartbeats 2000000 in
theorem spanT_any (w : World) (S : List Nat) (tb : Nat) (T : Tr) (l : List Cl) (f t : ByteArray) (h : Tbl w S tb T l) (hl : l.length ≤ 1000) :
    Calls Try.prog 11 #[.pointer (some ⟨tb, 0, none⟩), .string f, .string t] w fun e w' => GivesCells w (span l f t) e w' := by
  obtain ⟨W1, hW1⟩ : ∃ W1, (w.alloc (.cells #[.string f] 9)).alloc (.cells #[.string t] 9) = W1 := ⟨_, rfl⟩
  have hB1 : Below w.heap.size w W1 := by rw [← hW1]; exact ((Below.refl _ _).alloc (Nat.le_refl _) _).alloc (by rw [World.size_alloc]; omega) _
  have hs1 : W1.heap.size = w.heap.size + 2 := by rw [← hW1, World.size_alloc, World.size_alloc]
  have hbf : Box W1 w.heap.size 9 (.string f) := by rw [← hW1]; exact (Box.new _ _ _).alloc _
  have hbt : Box W1 (w.heap.size + 1) 9 (.string t) := by
    rw [← hW1]
    have := Box.new (w.alloc (.cells #[.string f] 9)) 9 (.string t)
    rwa [World.size_alloc] at this
  have h1 := h.below hB1
  have hroot := h1.tab.at_.1
  have hseen : T.seen (fun s => !lt s f) (spanned f t) (fun s => decide (t.toList = []) || lt s t) = span l f t := by
    have := Tr.seen_eq (lo := fun s => !lt s f) (he := spanned f t) (hi := fun s => decide (t.toList = []) || lt s t) (fun s s' ha hb => by
        have ha : lt s f = true := by simpa using ha
        unfold spanned
        cases k : lt s' f with
        | true => rfl
        | false => have := le_trans' k hb; rw [ha] at this; cases this) (fun s s' ha hb => by
        simp only [Bool.or_eq_false_iff] at ha
        unfold spanned
        rw [ha.1, le_trans' ha.2 hb]
        simp) T (by rw [h.cells]; exact h.up)
    rw [this, h.cells]
    rfl
  have hlen : (span l f t).length ≤ 1000 := Nat.le_trans (List.length_filter_le _ _) hl
  have hfl : ∀ w3, Below W1.heap.size W1 w3 → Box w3 W1.heap.size 43 (.pointer T.ptr) → Box w3 (W1.heap.size + 1) 56 (.func (.func 25) #[] #[.pointer (some ⟨w.heap.size + 1, 0, none⟩), .pointer (some ⟨w.heap.size, 0, none⟩)]) → ∀ n, Flow Fence.wide n Try.prog 36 #[.pointer (some ⟨W1.heap.size, 0, none⟩), .pointer (some ⟨W1.heap.size + 1, 0, none⟩)] (fun c : Cl => #[c.agg]) W1.heap.size [W1.heap.size, W1.heap.size + 1] (span l f t) w3 := fun w3 hb hn ho n => by
    rw [← hseen]
    exact all1S W1.heap.size (w.heap.size + 1) w.heap.size W1 _ _ _ (fun Wx hx s => onSpan_any (w.heap.size + 1) w.heap.size s f t Wx ((World.cell?_of_block (a := ⟨w.heap.size + 1, 0, none⟩) (hx _ hbt.lt)).trans hbt.cell) ((World.cell?_of_block (a := ⟨w.heap.size, 0, none⟩) (hx _ hbf.lt)).trans hbf.cell)) T n W1.heap.size (W1.heap.size + 1) w3 (fun j hj => hb.block j hj) hb.size (h1.lies.keep fun k hk => hb.block k (h1.lies.lt k hk)) (fun k hk => h1.lies.lt k hk) hn ho
  have H := Lib.hid (And.intro hB1 (And.intro hs1 (And.intro hlen hfl)))
  clear hB1 hs1 hbf hbt h1 hseen hlen hfl h
  go_enter Try.func11, Try.ntmps11
  go_wp2_with (first
    | (go_at_call 24; refine (all_anyS T.ptr (w.heap.size + 1) w.heap.size _).mono ?_; rintro e w3 ⟨rfl, hw3⟩;
       have hb3 : Below W1.heap.size W1 w3 := (by rw [← hw3]; exact ((Below.refl W1.heap.size W1).alloc (Nat.le_refl _) _).alloc (by rw [World.size_alloc]; exact Nat.le_succ _) _);
       have hn3 : Box w3 W1.heap.size 43 (.pointer T.ptr) := (by rw [← hw3]; exact (Box.new W1 _ _).alloc _);
       have ho3 : Box w3 (W1.heap.size + 1) 56 (.func (.func 25) #[] #[.pointer (some ⟨w.heap.size + 1, 0, none⟩), .pointer (some ⟨w.heap.size, 0, none⟩)]) := (by
        rw [← hw3]
        have := Box.new (W1.alloc (.cells #[.pointer T.ptr] 43)) 56 (.func (.func 25) #[] #[.pointer (some ⟨w.heap.size + 1, 0, none⟩), .pointer (some ⟨w.heap.size, 0, none⟩)])
        rwa [World.size_alloc] at this);
       have HC := Lib.hid (collect_any W1.heap.size (W1.heap.size + 1) W1.heap.size (span l f t) w3 H.out.2.2.1 hb3.size hn3.lt ho3.lt (H.out.2.2.2 w3 hb3 hn3 ho3));
       have HB3 := Lib.hid hb3; clear hw3 hb3 hn3 ho3)
    | (go_at_call 23; refine HC.out.mono ?_; rintro e w4 ⟨A4, c4, rfl, ho4, hb4⟩))
  go_ret
  have hz := HB3.out.size
  have hz1 := H.out.2.1
  exact ⟨A4, c4, rfl, ho4.lower (by omega), H.out.1.trans ((HB3.out.mono (by omega)).trans (hb4.mono (by omega)))⟩
theorem cellsT_any (w : World) (S : List Nat) (tb : Nat) (T : Tr) (l : List Cl) (h : Tbl w S tb T l) (hl : l.length ≤ 1000) :
    Calls Try.prog 10 #[.pointer (some ⟨tb, 0, none⟩)] w fun e w' => GivesCells w l e w' := by
  have hs := spanT_any w S tb T l ⟨#[]⟩ ⟨#[]⟩ h hl
  rw [span_all (by rw [ByteArray.toList_eq])] at hs
  have H := Lib.hid hs
  clear h hs
  go_enter Try.func10, Try.ntmps10
  go_wp2_with (go_at_call 11; refine H.out.mono ?_; rintro e w1 ⟨A', c', rfl, ho, hb⟩)
  go_ret
  exact ⟨A', c', rfl, ho, hb⟩

/-- what a put answers -/
def putE (l : List Cl) (c : Cl) : Int := if may c then (if has c l then 4 else 0) else 1

set_option maxHeartbeats 2000000 in
theorem clearT_any (w : World) (S : List Nat) (tb : Nat) (T : Tr) (l : List Cl) (h : Tbl w S tb T l) :
    Calls Try.prog 18 #[.pointer (some ⟨tb, 0, none⟩)] w fun e w' => e = .returned (.tuple #[]) ∧ Tbl w' [tb] tb .leaf [] ∧ Mv S [tb] w w' := by
  obtain ⟨c0, c1, c2⟩ := h.tab.at_
  have f := h.tab.free
  have h1 := ((h.tab.root none).many 0).bytes 0
  have hm : Mv S [tb] w (((w.setCell ⟨tb, 0, none⟩ (.pointer none)).setCell ⟨tb, 1, none⟩ (.int .i64 0)).setCell ⟨tb, 2, none⟩ (.int .i64 0)) :=
    (((Mv.refl h.lt).setCell (p := ⟨tb, 0, none⟩) (by rw [h.s]; simp) _).setCell (p := ⟨tb, 1, none⟩) (by rw [h.s]; simp) _).setCell (p := ⟨tb, 2, none⟩) (by rw [h.s]; simp) _ |>.wide (fun k hk => hk) (fun k hk => by rw [List.mem_singleton.1 hk, h.s]; exact .inl (by simp))
  have H := Lib.hid (And.intro h1 hm)
  clear h h1 hm
  go_enter Try.func18, Try.ntmps18
  go_wp2
  go_end0
  exact ⟨rfl, ⟨H.out.1, trivial, by simp [Tr.blocks], rfl, List.Pairwise.nil, by simp [Tr.blocks], rfl⟩, H.out.2⟩
end Go.Proofs.Ytijicefakfpdcaa
