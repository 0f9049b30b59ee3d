/-
  The walk of shown.
-/
import Derived.Test.YtaeemeoffnhgfaaApplySmall
namespace Go.Proofs.Ytaeemeoffnhgfaa
open Go.RowKit
attribute [local go_sem ↓] Go.wp_at_zero Go.wp_at_succ

/-- a variable that holds a state -/
def SBox (w : World) (g : Nat) (A : Option Addr) (n c : Nat) (nx fl : Int) : Prop := w.heap[g]? = some (.cells #[.slice A n c, .int .u64 nx, .int .u64 fl] 30 (0, 0))
theorem SBox.lt {w : World} {g n c : Nat} {A : Option Addr} {nx fl : Int} (h : SBox w g A n c nx fl) : g < w.heap.size := (Array.getElem?_eq_some_iff.1 h).1
theorem SBox.cells {w : World} {g n c : Nat} {A : Option Addr} {nx fl : Int} (h : SBox w g A n c nx fl) : w.cell? ⟨g, 0, none⟩ = some (.slice A n c) ∧ w.cell? ⟨g, 1, none⟩ = some (.int .u64 nx) ∧ w.cell? ⟨g, 2, none⟩ = some (.int .u64 fl) := by
  have f := fun j => cell_of_row w g j _ _ (0, 0) h
  exact ⟨f 0, f 1, f 2⟩
theorem SBox.below {w w' : World} {g n c : Nat} {A : Option Addr} {nx fl : Int} (h : SBox w g A n c nx fl) (hb : Below w.heap.size w w') : SBox w' g A n c nx fl := (hb.block g h.lt).trans h
theorem SBox.new (w : World) (A : Option Addr) (n c : Nat) (nx fl : Int) : SBox (w.alloc (.cells #[.slice A n c, .int .u64 nx, .int .u64 fl] 30)) w.heap.size A n c nx fl := heap_alloc_new w _
theorem FBox.below' {T : TypeId} {w w' : World} {g : Nat} {x : Fi} (h : FBox T w g x) (hb : Below w.heap.size w w') : FBox T w' g x := h.below hb h.lt
/-- manifest.Apply at an edit that adds one file -/
theorem apply_put {As Ad : Option Addr} {cs cd n nd g k : Nat} {ls : List Fi} {f : Fi} {del : List ByteArray} {nx fl nx' fl' r X Y : Int} {m : List Fi} {W : World} (hrm : applyF nx fl nx' fl' ls [f] del = (r, m)) (hX : (if r = 0 then nx' else 0) = X) (hY : (if r = 0 then fl' else 0) = Y) (hk : m.length = k)
    (h1 : Rd W W.heap.size As (fis ls)) (h2 : Rd W W.heap.size (some ⟨g, 0, none⟩) (fis [f])) (h3 : Rd W W.heap.size Ad (del.map Value.string))
    (e1 : ls.length = n) (e3 : del.length = nd) (l1 : n ≤ 100000) (l3 : nd ≤ 100000) (hnm : ∀ x ∈ ls, x.name.size ≤ maxLen) :
    Calls Try.prog 12 #[.agg #[.slice As n cs, .int .u64 nx, .int .u64 fl], .agg #[.slice (some ⟨g, 0, none⟩) 1 1, .slice Ad nd cd, .int .u64 nx', .int .u64 fl']] W fun e w' =>
      ∃ (A : Option Addr) (c : Nat), e = .returned (.tuple #[.agg #[.slice A k c, .int .u64 X, .int .u64 Y], .int .i64 r]) ∧ Rd w' w'.heap.size A (fis m) ∧ Below W.heap.size W w' := by
  have h := apply_any As (some ⟨g, 0, none⟩) Ad cs 1 cd n 1 nd ls [f] del nx fl nx' fl' W h1 h2 h3 e1 rfl e3 l1 (by omega) l3 hnm
  rw [hrm] at h
  subst hX hY hk
  exact h
theorem rd_made {w : World} {g : Nat} {T : TypeId} (x : Fi) {c : Array Value} (hc : c.toList = x.vals) (hg : w.heap.size = g) : Rd (w.alloc (.cells c T)) (w.alloc (.cells c T)).heap.size (some ⟨g, 0, none⟩) (fis [x]) := by
  subst hg
  exact Rd.ofBlock1 x hc T
theorem below_al (w : World) (o : Obj) : Below w.heap.size w (w.alloc o) := (Below.refl _ w).alloc (Nat.le_refl _) o
/-- two blocks are made, then a call: what the first block held is there, and all that was there ahead -/
theorem made_two {w w1 : World} {c : Array Value} {T : TypeId} {b : Obj} (hb : Below ((w.alloc (.cells c T)).alloc b).heap.size ((w.alloc (.cells c T)).alloc b) w1) : w1.heap[w.heap.size]? = some (.cells c T (0, 0)) ∧ Below w.heap.size w w1 := by
  have h1 := below_al w (.cells c T)
  have h2 := below_al (w.alloc (.cells c T)) b
  have hs : w.heap.size < (w.alloc (.cells c T)).heap.size := by rw [World.size_alloc]; omega
  refine ⟨(hb.block _ (Nat.lt_of_lt_of_le hs h2.size)).trans ((h2.block _ hs).trans (heap_alloc_new w _)), (h1.trans (h2.mono h1.size)).trans (hb.mono (Nat.le_trans h1.size h2.size))⟩
theorem made_one {w w1 : World} {c : Array Value} {T : TypeId} (hb : Below (w.alloc (.cells c T)).heap.size (w.alloc (.cells c T)) w1) : w1.heap[w.heap.size]? = some (.cells c T (0, 0)) ∧ Below w.heap.size w w1 := by
  have h1 := below_al w (.cells c T)
  have hs : w.heap.size < (w.alloc (.cells c T)).heap.size := by rw [World.size_alloc]; omega
  exact ⟨(hb.block _ hs).trans (heap_alloc_new w _), h1.trans (hb.mono h1.size)⟩
def f0 : Fi := ⟨1, ⟨#[116, 49]⟩, ⟨#[97]⟩, ⟨#[109]⟩, 3⟩
theorem f0_cells {T : TypeId} {w : World} {g : Nat} (h : FBox T w g f0) : w.cell? ⟨g, 0, none⟩ = some (.int .i64 1) ∧ w.cell? ⟨g, 1, none⟩ = some (.string ⟨#[116, 49]⟩) ∧ w.cell? ⟨g, 2, none⟩ = some (.string ⟨#[97]⟩) ∧ w.cell? ⟨g, 3, none⟩ = some (.string ⟨#[109]⟩) ∧ w.cell? ⟨g, 4, none⟩ = some (.int .i64 3) := h.cells
theorem lt_data (a b : ByteArray) : lt a b = Op.bytesLess a.data.toList b.data.toList := by
  show Op.bytesLess a.toList b.toList = _
  rw [ByteArray.toList_eq, ByteArray.toList_eq]
theorem may_f0 : may f0 = true := by
  unfold may
  rw [lt_data]
  decide
theorem row_f0 : onRow ⟨#[98]⟩ f0 = true := by
  unfold onRow meets
  rw [lt_data, lt_data]
  decide
theorem first_f0 : applyF 0 0 2 0 [] [f0] [] = (0, [f0]) := by rw [applyF_ok (by intro x hx; rw [List.mem_singleton.1 hx]; exact may_f0) (by omega) (by omega), applyM_first]
theorem again_f0 : applyF 2 0 2 0 [f0] [f0] [] = (4, []) := by rw [applyF_ok (by intro x hx; rw [List.mem_singleton.1 hx]; exact may_f0) (by omega) (by omega), applyM_same _ _ rfl]
theorem find_f0 (W : World) (A : Option Addr) (c : Nat) (h : Rd W W.heap.size A (fis [f0])) : Calls Try.prog 18 #[.agg #[.slice A 1 c, .int .u64 2, .int .u64 0], .string ⟨#[98]⟩] W fun e w' => ∃ (A' : Option Addr) (c' : Nat), e = .returned (.slice A' 1 c') ∧ Below W.heap.size W w' := by
  refine (find_any A c 1 [f0] 2 0 ⟨#[98]⟩ W h rfl (by omega)).mono ?_
  rintro e w' ⟨A', n', c', rfl, ho, hb⟩
  have hl := ho.len
  rw [List.filter_cons, row_f0, if_pos rfl, List.filter_nil, List.length_singleton] at hl
  subst hl
  exact ⟨A', c', rfl, hb⟩
set_option maxRecDepth 10000 in
set_option maxHeartbeats 2000000 in
theorem shown_any (w : World) : Calls Try.prog 11 #[] w fun e w' => e = .returned (.bool true) ∧ Below w.heap.size w w' := by
  have HA := Lib.hid (fun W g h2 => apply_put (cs := 0) (cd := 0) (g := g) (W := W) (n := 0) (nd := 0) (k := 1) (X := 2) (Y := 0) first_f0 rfl rfl rfl Rd.nil h2 (Ad := none) Rd.nil (As := none) rfl rfl (by omega) (by omega) (fun x hx => by cases hx))
  have HA2 := Lib.hid (fun W g As cs h1 h2 => apply_put (cs := cs) (cd := 0) (g := g) (W := W) (n := 1) (nd := 0) (k := 0) (X := 0) (Y := 0) again_f0 rfl rfl rfl h1 h2 (Ad := none) Rd.nil (As := As) rfl rfl (by omega) (by omega) (fun x hx => by rw [List.mem_singleton.1 hx]; decide))
  go_enter Try.func11, Try.ntmps11
  go_wp2_with (first
    | (go_at_call 12; refine (HA.out _ _ ?_).mono ?_; (exact rd_made f0 rfl (by simp only [World.size_alloc])); rintro e w1 ⟨A1, c1, rfl, hr1, hb1⟩; obtain ⟨hf1, hb1'⟩ := made_two hb1; have HR1 := Lib.hid hr1; have HF1 := Lib.hid (show FBox 23 w1 w.heap.size f0 from hf1); have HB1 := Lib.hid hb1'; obtain ⟨m0, m1, m2, m3, m4⟩ := f0_cells (FBox.below' HF1.out (below_al w1 (.cells #[.slice A1 1 c1, .int .u64 2, .int .u64 0] 30))); clear hr1 hb1 hf1 hb1' HA)
    | (go_at_call 12; refine (HA2.out _ _ _ _ ?_ ?_).mono ?_; (exact (HR1.out.allocS _).allocS _); (exact rd_made f0 rfl (by simp only [World.size_alloc])); rintro e w4 ⟨A4, c4, rfl, hr4, hb4⟩; obtain ⟨hs4, hb4'⟩ := made_two hb4; have HR4 := Lib.hid (((HR1.out.below hb4').more hb4'.size).allocS (.cells #[.slice A4 0 c4, .int .u64 0, .int .u64 0] 30)); have HB4 := Lib.hid ((HB1.out.trans (hb4'.mono HB1.out.size)).trans ((below_al w4 (.cells #[.slice A4 0 c4, .int .u64 0, .int .u64 0] 30)).mono (Nat.le_trans HB1.out.size hb4'.size))); obtain ⟨s0, s1, s2⟩ := SBox.cells (SBox.below (show SBox w4 w1.heap.size A1 1 c1 2 0 from hs4) (below_al w4 (.cells #[.slice A4 0 c4, .int .u64 0, .int .u64 0] 30))); clear hs4 hb4 hb4' hr4 HA2 m0 m1 m2 m3 m4)
    | (go_at_call 18; refine (find_f0 _ _ _ HR4.out).mono ?_; rintro e w6 ⟨A6, c6, rfl, hb6⟩))
  go_ret
  exact ⟨rfl, HB4.out.trans (hb6.mono HB4.out.size)⟩
end Go.Proofs.Ytaeemeoffnhgfaa
