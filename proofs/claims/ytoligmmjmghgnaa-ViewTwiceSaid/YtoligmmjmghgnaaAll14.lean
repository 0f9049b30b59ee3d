/-
  The walk of view.All.
-/
import Derived.Test.YtoligmmjmghgnaaOwnCell
import Derived.Test.YtoligmmjmghgnaaViewSmall
namespace Go.Proofs.Ytoligmmjmghgnaa
open Go.RowKit
attribute [local go_sem ↓] Go.wp_at_zero Go.wp_at_succ

/-- a list of cells, where it lies -/
structure Cs where
  A : Option Addr
  c : Nat
  l : List Cl
def Cs.sl (x : Cs) : Sl := ⟨x.A, x.l.length, x.c, cls x.l⟩
def Cs.val (x : Cs) : Value := .slice x.A x.l.length x.c
theorem joined_cs (L : List Cs) : joined (L.map Cs.sl) = cls (L.flatMap Cs.l) := by
  induction L with
  | nil => rfl
  | cons x L ih =>
    unfold joined at *
    rw [List.map_cons, List.flatMap_cons, List.flatMap_cons, ih, show cls (x.l ++ L.flatMap Cs.l) = cls x.l ++ cls (L.flatMap Cs.l) from List.flatMap_append]
    rfl
theorem total_cs (L : List Cs) : total (L.map Cs.sl) = (L.flatMap Cs.l).length := by
  induction L with
  | nil => rfl
  | cons x L ih =>
    unfold total at *
    rw [List.map_cons, List.map_cons, List.sum_cons, ih, List.flatMap_cons, List.length_append]
    rfl
theorem vals_cs (L : List Cs) : (L.map Cs.sl).map Sl.val = L.map Cs.val := by
  rw [List.map_map]
  rfl
def CsIn (w : World) (B : Nat) (L : List Cs) : Prop := ∀ x ∈ L, Rd w B x.A (cls x.l)
theorem CsIn.sls {w : World} {B : Nat} {L : List Cs} (h : CsIn w B L) : SlsIn w B 6 (L.map Cs.sl) := fun x hx => by
  obtain ⟨y, hy, rfl⟩ := List.mem_map.1 hx
  exact ⟨h y hy, cls_len y.l, cls_one y.l⟩
theorem CsIn.below {w w' : World} {B : Nat} {L : List Cs} (h : CsIn w B L) (hb : Below B w w') : CsIn w' B L := fun x hx => (h x hx).below hb
theorem CsIn.more {w : World} {B B' : Nat} {L : List Cs} (h : CsIn w B L) (hB : B ≤ B') : CsIn w B' L := fun x hx => (h x hx).more hB
/-- what All gives: those up to a sequence, each coordinate once -/
def allOf (L : List Cs) (at_ : Nat) : List Cl := (L.flatMap Cs.l).filter fun x => !decide (at_ < x.seq)
set_option maxRecDepth 10000 in
set_option maxHeartbeats 2000000 in
theorem all_any (A : Option Addr) (c N at_ : Nat) (L : List Cs) (w : World) (hA : Rd w w.heap.size A (L.map Cs.val)) (hl : CsIn w w.heap.size L) (hN : L.length = N) (hlen : N ≤ 1000) (htot : (L.flatMap Cs.l).length ≤ 100000) :
    Calls Try.prog 17 #[.slice A N c, .int .u64 (at_ : Int)] w fun e w' => ∃ (A' : Option Addr) (n' c' : Nat) (m : List Cl), e = .returned (.slice A' n' c') ∧ n' ≤ 100000 ∧ Once Cl.lt (allOf L at_) m ∧ OwnC w' w.heap.size A' n' c' m ∧ Below w.heap.size w w' := by
  obtain ⟨T, hT⟩ : ∃ T, (L.flatMap Cs.l).length = T := ⟨_, rfl⟩
  rw [hT] at htot
  obtain ⟨w1, hw1⟩ : ∃ w1, w.alloc (.cells #[.int .u64 (at_ : Int)] 23) = w1 := ⟨_, rfl⟩
  have hb1 : Below w.heap.size w w1 := hw1 ▸ below_al w _
  have hs1 : w1.heap.size = w.heap.size + 1 := by rw [← hw1, World.size_alloc]
  have hc1 : w1.cell? ⟨w.heap.size, 0, none⟩ = some (.int .u64 (at_ : Int)) := by
    have := cell_of_row w1 w.heap.size 0 #[.int .u64 (at_ : Int)] 23 (0, 0) (hw1 ▸ heap_alloc_new w _)
    exact this
  have hcc := concat_any A c (L.map Cs.sl) w1 (by rw [vals_cs]; exact (hA.below hb1).more hb1.size) (((hl.below hb1).more hb1.size).sls) (by rw [List.length_map]; omega) (by rw [total_cs, hT]; omega)
  rw [List.length_map, hN, total_cs, hT, joined_cs] at hcc
  have HCC := Lib.hid hcc
  have HW1 := Lib.hid hw1
  have HB1 := Lib.hid hb1
  have HC1 := Lib.hid hc1
  have HS1 := Lib.hid hs1
  have HT := Lib.hid hT
  clear hcc hw1 hb1 hc1 hA hl hN hT hs1
  go_enter Try.func17, Try.ntmps17
  go_wp2_with (first
    | (go_at_call 30; rw [HW1.out]; refine HCC.out.mono ?_; rintro e w2 ⟨A2, c2, rfl, ho2, hb2⟩; have HO2 := Lib.hid (show OwnC w2 w1.heap.size A2 T c2 (L.flatMap Cs.l) from ho2); have HB2 := Lib.hid hb2; clear ho2 hb2)
    | (go_at_call 20; refine (deleteOwnC 31 #[.pointer (some ⟨w.heap.size, 0, none⟩)] (fun x => decide (at_ < x.seq)) w1.heap.size T c2 A2 _ w2 (fun args W => by kernel_rfl) HO2.out (by omega) (fun x W hg => later_any x w.heap.size at_ W (Nat.lt_of_lt_of_le (by have := HS1.out; have := HB2.out.size; omega) hg.size) (((World.cell?_of_block (a := ⟨w.heap.size, 0, none⟩) (hg.block w.heap.size (by have := HS1.out; have := HB2.out.size; omega) (fun e => by have := (Own.lt HO2.out w.heap.size e.symm).1; have := HS1.out; omega))).trans (HB2.out.cell (p := ⟨w.heap.size, 0, none⟩) (by have := HS1.out; show w.heap.size < w1.heap.size; omega))).trans HC1.out))).mono ?_; rintro e w3 ⟨n3, rfl, hn3, ho3, hg3⟩; have HO3 := Lib.hid ho3; have HB3 := Lib.hid (Own.grow HO2.out HB2.out HB2.out.size (Nat.le_refl _) hg3); clear ho3 hg3)
    | (go_at_call 32; refine (sortOwnC w1.heap.size n3 c2 A2 _ w3 HO3.out (by omega)).mono ?_; rintro e w4 ⟨rfl, m4, hm4, ho4, hg4⟩; have HO4 := Lib.hid ho4; have HM4 := Lib.hid hm4; have HB4 := Lib.hid (Own.grow HO3.out HB3.out HB3.out.size (Nat.le_refl _) hg4); clear ho4 hg4 hm4)
    | (go_at_call 34; refine (compactOwnC w1.heap.size n3 c2 A2 m4 w4 HO4.out (by omega)).mono ?_; rintro e w5 ⟨n5, rfl, hn5, ho5, hg5⟩; have HO5 := Lib.hid ho5; have HB5 := Lib.hid (Own.grow HO4.out HB4.out HB4.out.size (Nat.le_refl _) hg5); clear ho5 hg5))
  go_ret
  exact ⟨A2, n5, c2, _, rfl, by omega, compact_once cl_weak HM4.out, OwnC.lower HO5.out HB1.out.size, HB1.out.trans (HB5.out.mono HB1.out.size)⟩
end Go.Proofs.Ytoligmmjmghgnaa
