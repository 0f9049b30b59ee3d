/-
  The walk of the iterator over a tree's cells, where a span of rows is looked for.
-/
import Derived.Test.YtijicefakfpdcaaEncode
import Derived.Test.YtijicefakfpdcaaOnRow
import Derived.RangeFuncLeaves
import Derived.Shelf.Abstract
import Derived.OwnWalkIn
import Derived.TacticsInMore
import Derived.LoopNIn
import Derived.LoopIn
import Derived.Shelf.RegionOpen
namespace Go.Proofs.Ytijicefakfpdcaa
open Go Go.RowKit Go.Shelf
attribute [local go_sem ↓] Go.wp_at_zero Go.wp_at_succ
attribute [local go_sem] Oper.semAt_some

/-- the two boxes that an iterator over a tree leans on -/
structure OnS (W : World) (p : Option Addr) (fv : Value) (Bn Bo : Nat) : Prop where
  n : Box W Bn 43 (.pointer p)
  o : Box W Bo 56 fv

theorem all_anyS (p : Option Addr) (g k : Nat) (w : World) :
    Calls Try.prog 24 #[.pointer p, .func (.func 25) #[] #[.pointer (some ⟨g, 0, none⟩), .pointer (some ⟨k, 0, none⟩)]] w fun e w' => e = .returned (.func (.func 36) #[] #[.pointer (some ⟨w.heap.size, 0, none⟩), .pointer (some ⟨w.heap.size + 1, 0, none⟩)]) ∧
      (w.alloc (.cells #[.pointer p] 43)).alloc (.cells #[.func (.func 25) #[] #[.pointer (some ⟨g, 0, none⟩), .pointer (some ⟨k, 0, none⟩)]] 56) = w' := by
  go_enter Try.func24, Try.ntmps24
  go_wp2
  go_ret
  exact ⟨rfl, rfl⟩

/-- what lies still while an iterator over a node's tree is under way -/
structure CtxS (n0 : Nat) (w0 : World) (b : Nat) (lv : Int) (tl : Tr) (d : Cl) (tr : Tr) (g k Bn Bo l : Nat) (own : List Nat) (W W1 : World) : Prop where
  w1 : ∀ j, j < n0 → W1.heap[j]? = w0.heap[j]?
  inl : (Tr.node b lv tl d tr).In W1
  bn : Box W1 Bn 43 (.pointer (some ⟨b, 0, none⟩))
  bo : Box W1 Bo 56 (.func (.func 25) #[] #[.pointer (some ⟨g, 0, none⟩), .pointer (some ⟨k, 0, none⟩)])
  by_ : Box W1 W.heap.size 50 (.func (.yield l) #[] #[])
  ow : ∀ j ∈ own, n0 ≤ j ∧ j ∉ [Bn, Bo] ∧ j < W.heap.size
  s1 : W1.heap.size = W.heap.size + 1
  nle : n0 ≤ W.heap.size
  lt : ∀ j ∈ (Tr.node b lv tl d tr).blocks, j < n0
theorem CtxS.at_ {n0 : Nat} {w0 : World} {b : Nat} {lv : Int} {tl : Tr} {d : Cl} {tr : Tr} {g k Bn Bo l : Nat} {own own2 : List Nat} {W W1 Wx : World} (C : CtxS n0 w0 b lv tl d tr g k Bn Bo l own W W1) (h : Mv own own2 W1 Wx) :
    (∀ j, j < n0 → Wx.heap[j]? = w0.heap[j]?) ∧ (Tr.node b lv tl d tr).In Wx ∧ Box Wx Bn 43 (.pointer (some ⟨b, 0, none⟩)) ∧ Box Wx Bo 56 (.func (.func 25) #[] #[.pointer (some ⟨g, 0, none⟩), .pointer (some ⟨k, 0, none⟩)]) ∧ Box Wx W.heap.size 50 (.func (.yield l) #[] #[]) ∧
      (∀ j ∈ own2, n0 ≤ j ∧ j < Wx.heap.size) ∧ W.heap.size < Wx.heap.size := by
  have hs := C.s1
  have hn := C.nle
  have hno : ∀ j, j < n0 → j ∉ own := fun j hj e => by have := (C.ow j e).1; omega
  refine ⟨fun j hj => (h.block j (by omega) (hno j hj)).trans (C.w1 j hj), C.inl.keep fun j hj => h.block j (C.inl.lt j hj) (hno j (C.lt j hj)), C.bn.keepB (h.block Bn C.bn.lt fun e => (C.ow _ e).2.1 (by simp)), C.bo.keepB (h.block Bo C.bo.lt fun e => (C.ow _ e).2.1 (by simp)),
    C.by_.keepB (h.block _ C.by_.lt fun e => by have := (C.ow _ e).2.2; omega), fun j hj => ⟨(h.more j hj).elim (fun e => (C.ow j e).1) (fun e => by omega), h.lies j hj⟩, by have := h.size; omega⟩
theorem region_calm_in {F : Fence} {n : Nat} {P : Program} {id : Nat} {ops : Array Oper} {dr : Bool} {Q : Exit → Act → World → Prop} {a : Act} {w : World} (h : (Code.region id ops dr).wpIn F n P (Calm (Q .normal)) a w) : (Code.region id ops dr).wpIn F n P Q a w :=
  wpIn_mono h fun _ _ _ => calm_le
theorem Mv.still {own own1 : List Nat} {W1 X Y : World} {N : Nat} (h : Mv own own1 W1 X) (hs : Still N own1 X Y) (hN : W1.heap.size ≤ N) : Mv own own1 W1 Y :=
  ⟨hs.os.trans h.os, hs.tape.trans h.tape, hs.output.trans h.output, Nat.le_trans h.size hs.size, fun k hk hn => (hs.block k (Nat.lt_of_lt_of_le hk h.size) (.inl (by omega))).trans (h.block k hk hn), h.more, fun k hk => Nat.lt_of_lt_of_le (h.lies k hk) hs.size⟩
theorem Still.mono {n n' : Nat} {own : List Nat} {X Y : World} (h : Still n own X Y) (hn : n' ≤ n) : Still n' own X Y := ⟨h.os, h.tape, h.output, h.size, fun k h1 h2 => h.block k h1 (h2.imp (fun e => by omega) id)⟩
theorem Still.turn {n : Nat} {own : List Nat} {l : Nat} {X Y : World} (h : Turn l X Y) (hl : n ≤ l) (ho : l ∉ own) : Still n own X Y :=
  ⟨h.os, h.tape, h.output, Nat.le_of_eq h.size.symm, fun k _ h2 => h.block k (fun e => by subst e; exact h2.elim (by omega) ho)⟩
theorem Mv.putObj {own own' : List Nat} {W X : World} (h : Mv own own' W X) {D : Nat} (o : Obj) (hD : W.heap.size ≤ D) : Mv own own' W (X.putObj D o) :=
  ⟨h.os, h.tape, h.output, by rw [World.putObj_size]; exact h.size, fun k hk hn => (World.putObj_heap_other (by omega)).trans (h.block k hk hn), h.more, fun k hk => by rw [World.putObj_size]; exact h.lies k hk⟩
theorem anyDepth {m : Nat} (m' r : Nat) {P : Program} {l : Nat} {args : Array Value} {W : World} {R : Ending → World → Prop} (h : YieldAt Fence.wide m P l args W R) : YieldAt (Fence.wide.inRound r) m' P l args W R := by
  obtain ⟨fn, tmps, assign, body, hy, h1, h2⟩ := h
  exact ⟨fn, tmps, assign, body, hy, h1, fun c cs _ => h2 c cs (fun d h => by cases h)⟩
theorem anyDepth' {m : Nat} (m' : Nat) {P : Program} {l : Nat} {args : Array Value} {W : World} {R : Ending → World → Prop} (h : YieldAt Fence.wide m P l args W R) : YieldAt Fence.wide m' P l args W R := by
  obtain ⟨fn, tmps, assign, body, hy, h1, h2⟩ := h
  exact ⟨fn, tmps, assign, body, hy, h1, fun c cs _ => h2 c cs (fun d h => by cases h)⟩

set_option maxRecDepth 100000 in
set_option maxHeartbeats 40000000 in
theorem all1S (n0 g k : Nat) (w0 : World) (lo he hi : ByteArray → Bool) (hon : ∀ W, (∀ j, j < n0 → W.heap[j]? = w0.heap[j]?) → ∀ s, Calls Try.prog 25 (#[.string s] ++ #[.pointer (some ⟨g, 0, none⟩), .pointer (some ⟨k, 0, none⟩)]) W fun e w' => e = .returned (.tuple #[.bool (lo s), .bool (he s), .bool (hi s)]) ∧ Below W.heap.size W w') :
    ∀ (t : Tr) (n Bn Bo : Nat) (w : World), (∀ j, j < n0 → w.heap[j]? = w0.heap[j]?) → n0 ≤ w.heap.size → t.In w → (∀ b ∈ t.blocks, b < n0) → Box w Bn 43 (.pointer t.ptr) → Box w Bo 56 (.func (.func 25) #[] #[.pointer (some ⟨g, 0, none⟩), .pointer (some ⟨k, 0, none⟩)]) →
      Flow Fence.wide n Try.prog 36 #[.pointer (some ⟨Bn, 0, none⟩), .pointer (some ⟨Bo, 0, none⟩)] (fun c : Cl => #[c.agg]) n0 [Bn, Bo] (t.seen lo he hi) w
  | .leaf, n, Bn, Bo, w, hw0, hn0, hIn, hlt, hBn, hBo => by
    intro l J own W hW hWs hown hJ hY h0
    have hc := (hBn.keepB (hW Bn hBn.lt)).cell
    have hJ1 := hJ [] own W _ h0 (Still.of_below ((Below.refl W.heap.size W).alloc (Nat.le_refl _) (.cells #[.func (.yield l) #[] #[]] 50)))
    have hm := Mv.of_below (own := own) ((Below.refl W.heap.size W).alloc (Nat.le_refl _) (.cells #[.func (.yield l) #[] #[]] 50)) (fun k hk => (hown k hk).2.2)
    have HJ := Lib.hid (And.intro hJ1 hm)
    have hc2 : (W.alloc (.cells #[.func (.yield l) #[] #[]] 50)).cell? ⟨Bn, 0, none⟩ = some (.pointer none) := (World.cell?_alloc_lt W _ ⟨Bn, 0, none⟩ (Nat.lt_of_lt_of_le hBn.lt hWs)).trans hc
    clear hJ1 hm hY hJ h0 hW hIn hw0 hon hBn hBo
    refine callsIn_of_wp_marks Try.func36 rfl trivial ?_ rfl
    simp only [Try.ntmps36, List.size_toArray, List.length_cons, List.length_nil, Nat.reduceAdd, Nat.reduceSub, Array.replicate_succ, Array.replicate_zero, List.push_toArray, List.append_toArray, List.nil_append, List.cons_append]
    gi_wp2
    exact ⟨_, results_none rfl _ _ _, ⟨_, rfl⟩, own, HJ.out.1, HJ.out.2⟩
  | .node b lv tl d tr, n, Bn, Bo, w, hw0, hn0, hIn, hlt, hBn, hBo => by
    have ihl := all1S n0 g k w0 lo he hi hon tl
    have ihr := all1S n0 g k w0 lo he hi hon tr
    intro l J own W hW hWs hown hJ hY h0
    have hww : ∀ j, j < n0 → W.heap[j]? = w0.heap[j]? := fun j hj => (hW j (by omega)).trans (hw0 j hj)
    have hInW : (Tr.node b lv tl d tr).In W := hIn.keep fun k hk => hW k (hIn.lt k hk)
    have hBnW : Box W Bn 43 (.pointer (some ⟨b, 0, none⟩)) := hBn.keepB (hW Bn hBn.lt)
    have hBoW : Box W Bo 56 (.func (.func 25) #[] #[.pointer (some ⟨g, 0, none⟩), .pointer (some ⟨k, 0, none⟩)]) := hBo.keepB (hW Bo hBo.lt)
    obtain ⟨W1, hW1⟩ : ∃ W1, W.alloc (.cells #[.func (.yield l) #[] #[]] 50) = W1 := ⟨_, rfl⟩
    have hB1 : Below W.heap.size W W1 := by rw [← hW1]; exact (Below.refl _ _).alloc (Nat.le_refl _) _
    have hs1 : W1.heap.size = W.heap.size + 1 := by rw [← hW1, World.size_alloc]
    have hBy : Box W1 W.heap.size 50 (.func (.yield l) #[] #[]) := by rw [← hW1]; exact Box.new _ _ _
    have hJ1 := hJ [] own W W1 h0 (Still.of_below hB1)
    have hm1 := Mv.of_below (own := own) hB1 (fun k hk => (hown k hk).2.2)
    have hInl : (Tr.node b lv tl d tr).In W1 := hInW.keep fun k hk => hB1.block k (hInW.lt k hk)
    have hBn1 : Box W1 Bn 43 (.pointer (some ⟨b, 0, none⟩)) := hBnW.below hB1 hBnW.lt
    have hBo1 : Box W1 Bo 56 (.func (.func 25) #[] #[.pointer (some ⟨g, 0, none⟩), .pointer (some ⟨k, 0, none⟩)]) := hBoW.below hB1 hBoW.lt
    have hw1 : ∀ j, j < n0 → W1.heap[j]? = w0.heap[j]? := fun j hj => (hB1.block j (by omega)).trans (hww j hj)
    have hon1 := hon
    have HC : W1.drew.cell? ⟨Bo, 0, none⟩ = some (.func (.func 25) #[] #[.pointer (some ⟨g, 0, none⟩), .pointer (some ⟨k, 0, none⟩)]) ∧ W1.drew.cell? ⟨Bn, 0, none⟩ = some (.pointer (some ⟨b, 0, none⟩)) ∧ W1.drew.cell? ⟨b, 0, none⟩ = some (.string d.row) := ⟨hBo1.cell, hBn1.cell, hInl.1.at_.1⟩
    refine callsIn_of_wp_marks Try.func36 rfl trivial ?_ rfl
    simp only [Try.ntmps36, List.size_toArray, List.length_cons, List.length_nil, Nat.reduceAdd, Nat.reduceSub, Array.replicate_succ, Array.replicate_zero, List.push_toArray, List.append_toArray, List.nil_append, List.cons_append]
    have hc1 := hBn1.cell
    have hC0 : CtxS n0 w0 b lv tl d tr g k Bn Bo l own W W1 := ⟨hw1, hInl, hBn1, hBo1, hBy, hown, hs1, by omega, hlt⟩
    have HC0 := Lib.hid hC0
    have HS := Lib.hid (And.intro hJ1 (Mv.refl (W := W1) hm1.lies))
    have HM1 := Lib.hid hm1
    have HX := Lib.hid (And.intro hJ hY)
    have HI := Lib.hid (And.intro ihl ihr)
    clear hC0 hw1 hInl hBn1 hBo1 hBy hJ1 hm1 hww hInW hBnW hBoW hB1 hs1 hown hJ hY hlt h0 hW hw0 hIn hBn hBo ihl ihr hon1
    gi_wp2
    refine wpIn_wide.2 ?_
    refine region_wz (fun W' => W'.cell? ⟨Bo, 0, none⟩ = some (.func (.func 25) #[] #[.pointer (some ⟨g, 0, none⟩), .pointer (some ⟨k, 0, none⟩)]) ∧ W'.cell? ⟨Bn, 0, none⟩ = some (.pointer (some ⟨b, 0, none⟩)) ∧ W'.cell? ⟨b, 0, none⟩ = some (.string d.row)) none (by kernel_rfl) ?_
    apply WZ.take (i := 0) (some 12) rfl rfl (by kernel_rfl) (by kernel_rfl) (by kernel_rfl) (calm_panic _) (by kernel_rfl)
    case hy => (refine .inl ⟨by kernel_rfl, fun W hC => ?_⟩; (try dsimp only at hC); go_simp; rfl)
    case hC => exact HC
    case ha => (simp only [Act.put, List.setIfInBounds_toArray, List.set_cons_zero, List.set_cons_succ]; rfl)
    apply WZ.take (i := 1) (some 13) rfl rfl (by kernel_rfl) (by kernel_rfl) (by kernel_rfl) (calm_panic _) (by kernel_rfl)
    case hy => (refine .inl ⟨by kernel_rfl, fun W hC => ?_⟩; (try dsimp only at hC); go_simp; rfl)
    case hC => exact HC
    case ha => (simp only [Act.put, List.setIfInBounds_toArray, List.set_cons_zero, List.set_cons_succ]; rfl)
    apply WZ.take (i := 2) (some 14) rfl rfl (by kernel_rfl) (by kernel_rfl) (by kernel_rfl) (calm_panic _) (by kernel_rfl)
    case hy => (refine .inl ⟨by kernel_rfl, fun W hC => ?_⟩; (try dsimp only at hC); go_simp; rfl)
    case hC => exact HC
    case ha => (simp only [Act.put, List.setIfInBounds_toArray, List.set_cons_zero, List.set_cons_succ]; rfl)
    apply WZ.take (i := 3) (some 15) rfl rfl (by kernel_rfl) (by kernel_rfl) (by kernel_rfl) (calm_panic _) (by kernel_rfl)
    case hy => (refine .inl ⟨by kernel_rfl, fun W hC => ?_⟩; (try dsimp only at hC); go_simp; rfl)
    case hC => exact HC
    case ha => (simp only [Act.put, List.setIfInBounds_toArray, List.set_cons_zero, List.set_cons_succ]; rfl)
    apply WZ.take (i := 4) (some 16) rfl rfl (by kernel_rfl) (by kernel_rfl) (by kernel_rfl) (calm_panic _) (by kernel_rfl)
    case hy => (refine .inl ⟨by kernel_rfl, fun W hC => ?_⟩; (try dsimp only at hC); go_simp; rfl)
    case hC => exact HC
    case ha => (simp only [Act.put, List.setIfInBounds_toArray, List.set_cons_zero, List.set_cons_succ]; rfl)
    apply WZ.take (i := 5) (some 17) rfl rfl (by kernel_rfl) (by kernel_rfl) (by kernel_rfl) (calm_panic _) (by kernel_rfl)
    case hy => (refine .inl ⟨by kernel_rfl, fun W hC => ?_⟩; (try dsimp only at hC); go_simp; rfl)
    case hC => exact HC
    case ha => (simp only [Act.put, List.setIfInBounds_toArray, List.set_cons_zero, List.set_cons_succ]; rfl)
    -- 6
    refine WZ.one (i := 6) rfl (by kernel_rfl) ?_
    conv => arg 4; arg 1; whnf
    go_wp2_with (go_at_call 25; refine (hon W1.drew HC0.out.w1 d.row).mono ?_; rintro e w2 ⟨rfl, hb2⟩)
    have HC : w2.cell? ⟨Bo, 0, none⟩ = some (.func (.func 25) #[] #[.pointer (some ⟨g, 0, none⟩), .pointer (some ⟨k, 0, none⟩)]) ∧ w2.cell? ⟨Bn, 0, none⟩ = some (.pointer (some ⟨b, 0, none⟩)) ∧ w2.cell? ⟨b, 0, none⟩ = some (.string d.row) := ⟨(hb2.cell (p := ⟨Bo, 0, none⟩) HC0.out.bo.lt).trans HC.1, (hb2.cell (p := ⟨Bn, 0, none⟩) HC0.out.bn.lt).trans HC.2.1, (hb2.cell (p := ⟨b, 0, none⟩) HC0.out.inl.1.lt).trans HC.2.2⟩
    refine ⟨HC, ?_⟩
    apply WZ.take (i := 7) (some 11) rfl rfl (by kernel_rfl) (by kernel_rfl) (by kernel_rfl) (calm_panic _) (by kernel_rfl)
    case hy => (refine .inl ⟨by kernel_rfl, fun W hC => ?_⟩; (try dsimp only at hC); go_simp; rfl)
    case hC => exact HC
    case ha => (simp only [Act.put, List.setIfInBounds_toArray, List.set_cons_zero, List.set_cons_succ]; rfl)
    apply WZ.take (i := 8) (some 19) rfl rfl (by kernel_rfl) (by kernel_rfl) (by kernel_rfl) (calm_panic _) (by kernel_rfl)
    case hy => (refine .inl ⟨by kernel_rfl, fun W hC => ?_⟩; (try dsimp only at hC); go_simp; rfl)
    case hC => exact HC
    case ha => (simp only [Act.put, List.setIfInBounds_toArray, List.set_cons_zero, List.set_cons_succ]; rfl)
    apply WZ.take (i := 9) (some 20) rfl rfl (by kernel_rfl) (by kernel_rfl) (by kernel_rfl) (calm_panic _) (by kernel_rfl)
    case hy => (refine .inl ⟨by kernel_rfl, fun W hC => ?_⟩; (try dsimp only at hC); go_simp; rfl)
    case hC => exact HC
    case ha => (simp only [Act.put, List.setIfInBounds_toArray, List.set_cons_zero, List.set_cons_succ]; rfl)
    apply WZ.take (i := 10) (some 21) rfl rfl (by kernel_rfl) (by kernel_rfl) (by kernel_rfl) (calm_panic _) (by kernel_rfl)
    case hy => (refine .inl ⟨by kernel_rfl, fun W hC => ?_⟩; (try dsimp only at hC); go_simp; rfl)
    case hC => exact HC
    case ha => (simp only [Act.put, List.setIfInBounds_toArray, List.set_cons_zero, List.set_cons_succ]; rfl)
    apply WZ.take (i := 11) (some 4) rfl rfl (by kernel_rfl) (by kernel_rfl) (by kernel_rfl) (calm_panic _) (by kernel_rfl)
    case hy => (refine .inl ⟨by kernel_rfl, fun W hC => ?_⟩; (try dsimp only at hC); go_simp; rfl)
    case hC => exact HC
    case ha => (simp only [Act.put, List.setIfInBounds_toArray, List.set_cons_zero, List.set_cons_succ]; rfl)
    apply WZ.take (i := 12) (some 5) rfl rfl (by kernel_rfl) (by kernel_rfl) (by kernel_rfl) (calm_panic _) (by kernel_rfl)
    case hy => (refine .inl ⟨by kernel_rfl, fun W hC => ?_⟩; (try dsimp only at hC); go_simp; rfl)
    case hC => exact HC
    case ha => (simp only [Act.put, List.setIfInBounds_toArray, List.set_cons_zero, List.set_cons_succ]; rfl)
    apply WZ.take (i := 13) (some 6) rfl rfl (by kernel_rfl) (by kernel_rfl) (by kernel_rfl) (calm_panic _) (by kernel_rfl)
    case hy => (refine .inl ⟨by kernel_rfl, fun W hC => ?_⟩; (try dsimp only at hC); go_simp; rfl)
    case hC => exact HC
    case ha => (simp only [Act.put, List.setIfInBounds_toArray, List.set_cons_zero, List.set_cons_succ]; rfl)
    refine WZ.done (by kernel_rfl) ?_ _
    simp only [Calm, Exit.then]
    have hb2' : Below W1.heap.size W1 w2 := below_of_drew' hb2
    have HS0 := Lib.hid (And.intro (HX.out.1 _ _ _ _ HS.out.1 (Still.of_below (n0 := W.heap.size) hb2')) (HS.out.2.trans (Mv.of_below hb2' HS.out.2.lies)))
    clear HC hb2 hb2' hc1
    cases hlo : lo d.row with
    | true =>
      cases hhe : he d.row with
      | true =>
        cases hhi : hi d.row with
        | true =>
          have HSE : Hid ((Tr.node b lv tl d tr).seen lo he hi = tl.seen lo he hi ++ ([d] ++ tr.seen lo he hi)) := Lib.hid (by simp [Tr.seen, hlo, hhe, hhi])

          gi_wp2
          refine wpIn_wide.2 ?_
          have hF := HC0.out.at_ HS0.out.2
          have HC : w2.drew.cell? ⟨Bo, 0, none⟩ = some (.func (.func 25) #[] #[.pointer (some ⟨g, 0, none⟩), .pointer (some ⟨k, 0, none⟩)]) ∧ w2.drew.cell? ⟨Bn, 0, none⟩ = some (.pointer (some ⟨b, 0, none⟩)) ∧ w2.drew.cell? ⟨b, 6, none⟩ = some (.pointer tl.ptr) := ⟨hF.2.2.2.1.cell, hF.2.2.1.cell, hF.2.1.1.at_.2.2.2.2.2.2.1⟩
          have HF := Lib.hid hF
          clear hF
          refine region_wz (fun W' => W'.cell? ⟨Bo, 0, none⟩ = some (.func (.func 25) #[] #[.pointer (some ⟨g, 0, none⟩), .pointer (some ⟨k, 0, none⟩)]) ∧ W'.cell? ⟨Bn, 0, none⟩ = some (.pointer (some ⟨b, 0, none⟩)) ∧ W'.cell? ⟨b, 6, none⟩ = some (.pointer tl.ptr)) none (by kernel_rfl) ?_
          apply WZ.take (i := 0) (some 23) rfl rfl (by kernel_rfl) (by kernel_rfl) (by kernel_rfl) (calm_panic _) (by kernel_rfl)
          case hy => (refine .inl ⟨by kernel_rfl, fun W hC => ?_⟩; (try dsimp only at hC); go_simp; rfl)
          case hC => exact HC
          case ha => (simp only [Act.put, List.setIfInBounds_toArray, List.set_cons_zero, List.set_cons_succ]; rfl)
          apply WZ.take (i := 1) (some 24) rfl rfl (by kernel_rfl) (by kernel_rfl) (by kernel_rfl) (calm_panic _) (by kernel_rfl)
          case hy => (refine .inl ⟨by kernel_rfl, fun W hC => ?_⟩; (try dsimp only at hC); go_simp; rfl)
          case hC => exact HC
          case ha => (simp only [Act.put, List.setIfInBounds_toArray, List.set_cons_zero, List.set_cons_succ]; rfl)
          apply WZ.take (i := 2) (some 25) rfl rfl (by kernel_rfl) (by kernel_rfl) (by kernel_rfl) (calm_panic _) (by kernel_rfl)
          case hy => (refine .inl ⟨by kernel_rfl, fun W hC => ?_⟩; (try dsimp only at hC); go_simp; rfl)
          case hC => exact HC
          case ha => (simp only [Act.put, List.setIfInBounds_toArray, List.set_cons_zero, List.set_cons_succ]; rfl)
          apply WZ.take (i := 3) (some 26) rfl rfl (by kernel_rfl) (by kernel_rfl) (by kernel_rfl) (calm_panic _) (by kernel_rfl)
          case hy => (refine .inl ⟨by kernel_rfl, fun W hC => ?_⟩; (try dsimp only at hC); go_simp; rfl)
          case hC => exact HC
          case ha => (simp only [Act.put, List.setIfInBounds_toArray, List.set_cons_zero, List.set_cons_succ]; rfl)
          apply WZ.take (i := 4) (some 27) rfl rfl (by kernel_rfl) (by kernel_rfl) (by kernel_rfl) (calm_panic _) (by kernel_rfl)
          case hy => (refine .inl ⟨by kernel_rfl, fun W hC => ?_⟩; (try dsimp only at hC); go_simp; rfl)
          case hC => exact HC
          case ha => (simp only [Act.put, List.setIfInBounds_toArray, List.set_cons_zero, List.set_cons_succ]; rfl)
          -- 5
          refine WZ.one (i := 5) rfl (by kernel_rfl) ?_
          conv => arg 4; arg 1; whnf
          go_wp2_with (go_at_call 24; refine (all_anyS tl.ptr g k _).mono ?_; rintro e w3 ⟨rfl, hw3⟩)
          have hb3 : Below w2.heap.size w2 w3 := by rw [← hw3]; exact ((Below.refl w2.heap.size w2).drew.alloc (Nat.le_refl _) _).alloc (by rw [World.size_alloc]; exact Nat.le_succ _) _
          have hn3 : Box w3 w2.heap.size 43 (.pointer tl.ptr) := by rw [← hw3]; exact (Box.new w2.drew _ _).alloc _
          have ho3 : Box w3 (w2.heap.size + 1) 56 (.func (.func 25) #[] #[.pointer (some ⟨g, 0, none⟩), .pointer (some ⟨k, 0, none⟩)]) := by
            rw [← hw3]
            have := Box.new (w2.drew.alloc (.cells #[.pointer tl.ptr] 43)) 56 (.func (.func 25) #[] #[.pointer (some ⟨g, 0, none⟩), .pointer (some ⟨k, 0, none⟩)])
            rwa [World.size_alloc] at this
          have HC : w3.cell? ⟨Bo, 0, none⟩ = some (.func (.func 25) #[] #[.pointer (some ⟨g, 0, none⟩), .pointer (some ⟨k, 0, none⟩)]) ∧ w3.cell? ⟨Bn, 0, none⟩ = some (.pointer (some ⟨b, 0, none⟩)) ∧ w3.cell? ⟨b, 6, none⟩ = some (.pointer tl.ptr) := ⟨(hb3.cell (p := ⟨Bo, 0, none⟩) HF.out.2.2.2.1.lt).trans HC.1, (hb3.cell (p := ⟨Bn, 0, none⟩) HF.out.2.2.1.lt).trans HC.2.1, (hb3.cell (p := ⟨b, 6, none⟩) HF.out.2.1.1.lt).trans HC.2.2⟩
          have HN3 := Lib.hid (And.intro hb3 (And.intro hn3 ho3))
          clear hb3 hn3 ho3 hw3
          refine ⟨HC, ?_⟩
          refine WZ.done (by kernel_rfl) ?_ _
          simp only [Calm, Exit.then]
          clear HC
          gi_wp2
          have hsz3 : w2.heap.size ≤ w3.heap.size := HN3.out.1.size
          have hlo3 := HN3.out.2.2.lt
          refine wpIn_flow (F := Fence.wide) (n := n) rfl rfl (gf := 36) (lb := #[.pointer (some ⟨w2.heap.size, 0, none⟩), .pointer (some ⟨w2.heap.size + 1, 0, none⟩)]) rfl trivial (enters_of Try.func36 (by kernel_rfl) rfl) (fun _ => rfl)
            (HI.out.1 (n - 1) w2.heap.size (w2.heap.size + 1) w3 (fun j hj => (HN3.out.1.block j (by have := HF.out.2.2.2.2.2.2; have := HC0.out.nle; omega)).trans (HF.out.1 j hj)) (by have := HF.out.2.2.2.2.2.2; have := HC0.out.nle; omega) (Tr.In.keep HF.out.2.1.2.1 (fun j hj => HN3.out.1.block j (HF.out.2.1.2.1.lt j hj))) (fun j hj => HC0.out.lt j (by simp [Tr.blocks, hj])) HN3.out.2.1 HN3.out.2.2)
            (by have := HF.out.2.2.2.2.2.2; have := HC0.out.nle; omega) (by intro k hk; simp only [List.mem_cons, List.not_mem_nil, or_false] at hk; omega)
            (fun pre own1 Wx => J (([] : List Cl) ++ pre) own1 Wx ∧ Mv own own1 W1 Wx) ?hI own ?how ?h0 ?hround ?hdone
          case hI =>
            rintro pre own1 X Y ⟨hj, hm⟩ hs
            exact ⟨HX.out.1 _ _ _ _ hj (hs.mono (by have := HF.out.2.2.2.2.2.2; omega)), hm.still hs (by have := HS0.out.2.size; omega)⟩
          case how => exact fun j hj => ⟨(HF.out.2.2.2.2.2.1 j hj).1, by have := (HF.out.2.2.2.2.2.1 j hj).2; simp only [List.mem_cons, List.not_mem_nil, or_false, not_or]; omega, by have := (HF.out.2.2.2.2.2.1 j hj).2; omega⟩
          case h0 => exact ⟨by rw [List.append_nil]; exact HX.out.1 _ _ _ _ HS0.out.1 (Still.of_below HN3.out.1), HS0.out.2.trans (Mv.of_below HN3.out.1 HS0.out.2.lies)⟩
          case hround =>
            rintro r pre x own1 Wx hr ⟨hj, hm⟩ hin hpre
            have HR := Lib.hid (And.intro hr hpre)
            clear hr hj hm hin hpre
            gi_wp2
            refine ⟨(Below.refl _ _).alloc (Nat.le_refl _) _, ?_⟩
            intro W2 hT hI2
            have hb2 : CBox W2 Wx.heap.size x := (CBox.new Wx x).keep (hT.block _ (by have := HR.out.1; omega))
            have hy2 := (HC0.out.at_ hI2.2).2.2.2.2.1.cell
            obtain ⟨z, hz⟩ := HR.out.2
            obtain ⟨fn, tmps, assign, body, hyr, hR⟩ := anyDepth (n - 1 - 1 - 1) r (HX.out.2 (([] : List Cl) ++ pre) x own1 W2 hI2.1 ⟨z ++ ([d] ++ tr.seen lo he hi), by rw [HSE.out, ← hz]; simp⟩)
            obtain ⟨q0, q1, q2, q3, q4, q5⟩ := hb2.cells
            have HI2 := Lib.hid hI2
            clear hb2 hI2 hT hz
            gi_wp2
            refine ⟨fun h => (by cases h), ?_⟩
            refine hR.mono ?_
            rintro e W3 ⟨rfl, own2, hj3, hm3⟩
            gi_wp2
            exact ⟨own2, ⟨by simpa using hj3, HI2.out.2.trans hm3⟩, hm3⟩
          case hdone =>
            rintro D1 own1 Wd1 ⟨hj, hm⟩ hmv hD1 hD2 hD3 hD4
            have HS1 := Lib.hid (And.intro hj hm)
            have HD1 : Hid (D1 < Wd1.heap.size ∧ D1 ∉ own1 ∧ Wd1.heap[D1]? = some (.deferred (some [])) ∧ W.heap.size ≤ D1) := Lib.hid ⟨hD2, hD3, hD4, by have := HF.out.2.2.2.2.2.2; omega⟩
            clear hj hm hmv hD1 hD2 hD3 hD4 HF HN3
            gi_wp2
            have hF := HC0.out.at_ HS1.out.2
            have HF := Lib.hid hF
            have hy2 : Wd1.drew.cell? ⟨W.heap.size, 0, none⟩ = some (.func (.yield l) #[] #[]) := hF.2.2.2.2.1.cell
            have hn2 : Wd1.drew.cell? ⟨Bn, 0, none⟩ = some (.pointer (some ⟨b, 0, none⟩)) := hF.2.2.1.cell
            obtain ⟨q0, q1, q2, q3, q4, q5, q6, q7, q8⟩ := (Tr.In.drew hF.2.1).1.at_
            clear hF q6 q7 q8
            obtain ⟨fn, tmps, assign, body, hyr, hR⟩ := anyDepth' (n - 1) (HX.out.2 (([] : List Cl) ++ tl.seen lo he hi) d own1 Wd1.drew (HX.out.1 _ _ _ _ HS1.out.1 ⟨rfl, rfl, rfl, Nat.le_refl _, fun _ _ _ => rfl⟩) ⟨tr.seen lo he hi, by rw [HSE.out]; simp⟩)
            have mixed : Try.prog.follows Departure.mixedOrders = true := by kernel_rfl
            refine region_calm_in ?_
            gi_region_with_o ((try refine ⟨fun h => (by cases h), ?_⟩); refine hR.mono ?_; rintro e W2 ⟨rfl, own2, hj2, hm2⟩)
            all_goals
              simp only [Calm, Exit.then]
              have HS2 := Lib.hid (And.intro hj2 (HS1.out.2.trans (Mv.drew' hm2)))
              have HD1x2 : Hid (D1 < W2.heap.size ∧ D1 ∉ own2 ∧ W2.heap[D1]? = some (.deferred (some [])) ∧ W.heap.size ≤ D1) := by
                have h0 := HD1.out
                exact Lib.hid ⟨Nat.lt_of_lt_of_le h0.1 hm2.size, hm2.out h0.1 h0.2.1, (hm2.block _ h0.1 h0.2.1).trans h0.2.2.1, h0.2.2.2⟩
              clear hj2 hm2 hy2 hn2 q0 q1 q2 q3 q4 q5 HF hyr hR

              gi_wp2
              refine wpIn_wide.2 ?_
              have hF := HC0.out.at_ HS2.out.2
              have HC : W2.drew.cell? ⟨Bo, 0, none⟩ = some (.func (.func 25) #[] #[.pointer (some ⟨g, 0, none⟩), .pointer (some ⟨k, 0, none⟩)]) ∧ W2.drew.cell? ⟨Bn, 0, none⟩ = some (.pointer (some ⟨b, 0, none⟩)) ∧ W2.drew.cell? ⟨b, 7, none⟩ = some (.pointer tr.ptr) := ⟨hF.2.2.2.1.cell, hF.2.2.1.cell, hF.2.1.1.at_.2.2.2.2.2.2.2.1⟩
              have HF := Lib.hid hF
              clear hF
              refine region_wz (fun W' => W'.cell? ⟨Bo, 0, none⟩ = some (.func (.func 25) #[] #[.pointer (some ⟨g, 0, none⟩), .pointer (some ⟨k, 0, none⟩)]) ∧ W'.cell? ⟨Bn, 0, none⟩ = some (.pointer (some ⟨b, 0, none⟩)) ∧ W'.cell? ⟨b, 7, none⟩ = some (.pointer tr.ptr)) none (by kernel_rfl) ?_
              apply WZ.take (i := 0) (some 45) rfl rfl (by kernel_rfl) (by kernel_rfl) (by kernel_rfl) (calm_panic _) (by kernel_rfl)
              case hy => (refine .inl ⟨by kernel_rfl, fun W hC => ?_⟩; (try dsimp only at hC); go_simp; rfl)
              case hC => exact HC
              case ha => (simp only [Act.put, List.setIfInBounds_toArray, List.set_cons_zero, List.set_cons_succ]; rfl)
              apply WZ.take (i := 1) (some 46) rfl rfl (by kernel_rfl) (by kernel_rfl) (by kernel_rfl) (calm_panic _) (by kernel_rfl)
              case hy => (refine .inl ⟨by kernel_rfl, fun W hC => ?_⟩; (try dsimp only at hC); go_simp; rfl)
              case hC => exact HC
              case ha => (simp only [Act.put, List.setIfInBounds_toArray, List.set_cons_zero, List.set_cons_succ]; rfl)
              apply WZ.take (i := 2) (some 47) rfl rfl (by kernel_rfl) (by kernel_rfl) (by kernel_rfl) (calm_panic _) (by kernel_rfl)
              case hy => (refine .inl ⟨by kernel_rfl, fun W hC => ?_⟩; (try dsimp only at hC); go_simp; rfl)
              case hC => exact HC
              case ha => (simp only [Act.put, List.setIfInBounds_toArray, List.set_cons_zero, List.set_cons_succ]; rfl)
              apply WZ.take (i := 3) (some 48) rfl rfl (by kernel_rfl) (by kernel_rfl) (by kernel_rfl) (calm_panic _) (by kernel_rfl)
              case hy => (refine .inl ⟨by kernel_rfl, fun W hC => ?_⟩; (try dsimp only at hC); go_simp; rfl)
              case hC => exact HC
              case ha => (simp only [Act.put, List.setIfInBounds_toArray, List.set_cons_zero, List.set_cons_succ]; rfl)
              apply WZ.take (i := 4) (some 49) rfl rfl (by kernel_rfl) (by kernel_rfl) (by kernel_rfl) (calm_panic _) (by kernel_rfl)
              case hy => (refine .inl ⟨by kernel_rfl, fun W hC => ?_⟩; (try dsimp only at hC); go_simp; rfl)
              case hC => exact HC
              case ha => (simp only [Act.put, List.setIfInBounds_toArray, List.set_cons_zero, List.set_cons_succ]; rfl)
              -- 5
              refine WZ.one (i := 5) rfl (by kernel_rfl) ?_
              conv => arg 4; arg 1; whnf
              go_wp2_with (go_at_call 24; refine (all_anyS tr.ptr g k _).mono ?_; rintro e w3 ⟨rfl, hw3⟩)
              have hb3 : Below W2.heap.size W2 w3 := by rw [← hw3]; exact ((Below.refl W2.heap.size W2).drew.alloc (Nat.le_refl _) _).alloc (by rw [World.size_alloc]; exact Nat.le_succ _) _
              have hn3 : Box w3 W2.heap.size 43 (.pointer tr.ptr) := by rw [← hw3]; exact (Box.new W2.drew _ _).alloc _
              have ho3 : Box w3 (W2.heap.size + 1) 56 (.func (.func 25) #[] #[.pointer (some ⟨g, 0, none⟩), .pointer (some ⟨k, 0, none⟩)]) := by
                rw [← hw3]
                have := Box.new (W2.drew.alloc (.cells #[.pointer tr.ptr] 43)) 56 (.func (.func 25) #[] #[.pointer (some ⟨g, 0, none⟩), .pointer (some ⟨k, 0, none⟩)])
                rwa [World.size_alloc] at this
              have HC : w3.cell? ⟨Bo, 0, none⟩ = some (.func (.func 25) #[] #[.pointer (some ⟨g, 0, none⟩), .pointer (some ⟨k, 0, none⟩)]) ∧ w3.cell? ⟨Bn, 0, none⟩ = some (.pointer (some ⟨b, 0, none⟩)) ∧ w3.cell? ⟨b, 7, none⟩ = some (.pointer tr.ptr) := ⟨(hb3.cell (p := ⟨Bo, 0, none⟩) HF.out.2.2.2.1.lt).trans HC.1, (hb3.cell (p := ⟨Bn, 0, none⟩) HF.out.2.2.1.lt).trans HC.2.1, (hb3.cell (p := ⟨b, 7, none⟩) HF.out.2.1.1.lt).trans HC.2.2⟩
              have HN3 := Lib.hid (And.intro hb3 (And.intro hn3 ho3))
              clear hb3 hn3 ho3 hw3
              refine ⟨HC, ?_⟩
              refine WZ.done (by kernel_rfl) ?_ _
              simp only [Calm, Exit.then]
              clear HC
              gi_wp2
              have hsz3 : W2.heap.size ≤ w3.heap.size := HN3.out.1.size
              have hlo3 := HN3.out.2.2.lt
              refine wpIn_flow (F := Fence.wide) (n := n) rfl rfl (gf := 36) (lb := #[.pointer (some ⟨W2.heap.size, 0, none⟩), .pointer (some ⟨W2.heap.size + 1, 0, none⟩)]) rfl trivial (enters_of Try.func36 (by kernel_rfl) rfl) (fun _ => rfl)
                (HI.out.2 (n - 1) W2.heap.size (W2.heap.size + 1) w3 (fun j hj => (HN3.out.1.block j (by have := HF.out.2.2.2.2.2.2; have := HC0.out.nle; omega)).trans (HF.out.1 j hj)) (by have := HF.out.2.2.2.2.2.2; have := HC0.out.nle; omega) (Tr.In.keep HF.out.2.1.2.2 (fun j hj => HN3.out.1.block j (HF.out.2.1.2.2.lt j hj))) (fun j hj => HC0.out.lt j (by simp [Tr.blocks, hj])) HN3.out.2.1 HN3.out.2.2)
                (by have := HF.out.2.2.2.2.2.2; have := HC0.out.nle; omega) (by intro k hk; simp only [List.mem_cons, List.not_mem_nil, or_false] at hk; omega)
                (fun pre own1 Wx => J (((([] : List Cl) ++ tl.seen lo he hi) ++ [d]) ++ pre) own1 Wx ∧ Mv own own1 W1 Wx) ?hI own2 ?how ?h0 ?hround ?hdone
              case hI =>
                rintro pre own1 X Y ⟨hj, hm⟩ hs
                exact ⟨HX.out.1 _ _ _ _ hj (hs.mono (by have := HF.out.2.2.2.2.2.2; omega)), hm.still hs (by have := HS2.out.2.size; omega)⟩
              case how => exact fun j hj => ⟨(HF.out.2.2.2.2.2.1 j hj).1, by have := (HF.out.2.2.2.2.2.1 j hj).2; simp only [List.mem_cons, List.not_mem_nil, or_false, not_or]; omega, by have := (HF.out.2.2.2.2.2.1 j hj).2; omega⟩
              case h0 => exact ⟨by rw [List.append_nil]; exact HX.out.1 _ _ _ _ HS2.out.1 (Still.of_below HN3.out.1), HS2.out.2.trans (Mv.of_below HN3.out.1 HS2.out.2.lies)⟩
              case hround =>
                rintro r pre x own1 Wx hr ⟨hj, hm⟩ hin hpre
                have HR := Lib.hid (And.intro hr hpre)
                clear hr hj hm hin hpre
                gi_wp2
                refine ⟨(Below.refl _ _).alloc (Nat.le_refl _) _, ?_⟩
                intro W2 hT hI2
                have hb2 : CBox W2 Wx.heap.size x := (CBox.new Wx x).keep (hT.block _ (by have := HR.out.1; omega))
                have hy2 := (HC0.out.at_ hI2.2).2.2.2.2.1.cell
                obtain ⟨z, hz⟩ := HR.out.2
                obtain ⟨fn, tmps, assign, body, hyr, hR⟩ := anyDepth (n - 1 - 1 - 1) r (HX.out.2 (((([] : List Cl) ++ tl.seen lo he hi) ++ [d]) ++ pre) x own1 W2 hI2.1 ⟨z ++ (([] : List Cl)), by rw [HSE.out, ← hz]; simp⟩)
                obtain ⟨q0, q1, q2, q3, q4, q5⟩ := hb2.cells
                have HI2 := Lib.hid hI2
                clear hb2 hI2 hT hz
                gi_wp2
                refine ⟨fun h => (by cases h), ?_⟩
                refine hR.mono ?_
                rintro e W3 ⟨rfl, own2, hj3, hm3⟩
                gi_wp2
                exact ⟨own2, ⟨by simpa using hj3, HI2.out.2.trans hm3⟩, hm3⟩
              case hdone =>
                rintro D3 own3 Wd3 ⟨hj, hm⟩ hmv hD1 hD2 hD3 hD4
                have HS3 := Lib.hid (And.intro hj hm)
                have HD3 : Hid (D3 < Wd3.heap.size ∧ D3 ∉ own3 ∧ Wd3.heap[D3]? = some (.deferred (some [])) ∧ W.heap.size ≤ D3) := Lib.hid ⟨hD2, hD3, hD4, by have := HF.out.2.2.2.2.2.2; omega⟩
                have HD1x3 : Hid (D1 < Wd3.heap.size ∧ D1 ∉ own3 ∧ Wd3.heap[D1]? = some (.deferred (some [])) ∧ W.heap.size ≤ D1 ∧ D1 ≠ D3) := by
                  have h0 := HD1x2.out
                  have hlt : D1 < w3.heap.size := by have := h0.1; omega
                  exact Lib.hid ⟨Nat.lt_of_lt_of_le hlt hmv.size, hmv.out hlt h0.2.1, (hmv.block _ hlt h0.2.1).trans ((HN3.out.1.block _ h0.1).trans h0.2.2.1), h0.2.2.2, by omega⟩
                clear hj hm hmv hD1 hD2 hD3 hD4 HF HN3
                have HE := Lib.hid HSE.out
                gi_wp2
                refine ⟨by simp, .inl ⟨_, _, rfl, run_takeDeferred HD3.out.2.2.1, ?_⟩⟩
                refine ⟨by simp, .inl ⟨_, _, rfl, run_takeDeferred ((World.putObj_heap_other HD1x3.out.2.2.2.2).trans HD1x3.out.2.2.1), ?_⟩⟩
                exact ⟨_, results_none rfl _ _ _, ⟨_, rfl⟩, own3, by rw [HSE.out]; simpa using HX.out.1 _ _ _ _ (HX.out.1 _ _ _ _ HS3.out.1 (Still.putObj _ _ HD3.out.2.2.2 HD3.out.2.1)) (Still.putObj _ _ HD1x3.out.2.2.2.1 HD1x3.out.2.1), ((HM1.out.trans HS3.out.2).putObj _ HD3.out.2.2.2).putObj _ HD1x3.out.2.2.2.1⟩
        | false =>
          have HSE : Hid ((Tr.node b lv tl d tr).seen lo he hi = tl.seen lo he hi ++ ([d] ++ ([] : List Cl))) := Lib.hid (by simp [Tr.seen, hlo, hhe, hhi])

          gi_wp2
          refine wpIn_wide.2 ?_
          have hF := HC0.out.at_ HS0.out.2
          have HC : w2.drew.cell? ⟨Bo, 0, none⟩ = some (.func (.func 25) #[] #[.pointer (some ⟨g, 0, none⟩), .pointer (some ⟨k, 0, none⟩)]) ∧ w2.drew.cell? ⟨Bn, 0, none⟩ = some (.pointer (some ⟨b, 0, none⟩)) ∧ w2.drew.cell? ⟨b, 6, none⟩ = some (.pointer tl.ptr) := ⟨hF.2.2.2.1.cell, hF.2.2.1.cell, hF.2.1.1.at_.2.2.2.2.2.2.1⟩
          have HF := Lib.hid hF
          clear hF
          refine region_wz (fun W' => W'.cell? ⟨Bo, 0, none⟩ = some (.func (.func 25) #[] #[.pointer (some ⟨g, 0, none⟩), .pointer (some ⟨k, 0, none⟩)]) ∧ W'.cell? ⟨Bn, 0, none⟩ = some (.pointer (some ⟨b, 0, none⟩)) ∧ W'.cell? ⟨b, 6, none⟩ = some (.pointer tl.ptr)) none (by kernel_rfl) ?_
          apply WZ.take (i := 0) (some 23) rfl rfl (by kernel_rfl) (by kernel_rfl) (by kernel_rfl) (calm_panic _) (by kernel_rfl)
          case hy => (refine .inl ⟨by kernel_rfl, fun W hC => ?_⟩; (try dsimp only at hC); go_simp; rfl)
          case hC => exact HC
          case ha => (simp only [Act.put, List.setIfInBounds_toArray, List.set_cons_zero, List.set_cons_succ]; rfl)
          apply WZ.take (i := 1) (some 24) rfl rfl (by kernel_rfl) (by kernel_rfl) (by kernel_rfl) (calm_panic _) (by kernel_rfl)
          case hy => (refine .inl ⟨by kernel_rfl, fun W hC => ?_⟩; (try dsimp only at hC); go_simp; rfl)
          case hC => exact HC
          case ha => (simp only [Act.put, List.setIfInBounds_toArray, List.set_cons_zero, List.set_cons_succ]; rfl)
          apply WZ.take (i := 2) (some 25) rfl rfl (by kernel_rfl) (by kernel_rfl) (by kernel_rfl) (calm_panic _) (by kernel_rfl)
          case hy => (refine .inl ⟨by kernel_rfl, fun W hC => ?_⟩; (try dsimp only at hC); go_simp; rfl)
          case hC => exact HC
          case ha => (simp only [Act.put, List.setIfInBounds_toArray, List.set_cons_zero, List.set_cons_succ]; rfl)
          apply WZ.take (i := 3) (some 26) rfl rfl (by kernel_rfl) (by kernel_rfl) (by kernel_rfl) (calm_panic _) (by kernel_rfl)
          case hy => (refine .inl ⟨by kernel_rfl, fun W hC => ?_⟩; (try dsimp only at hC); go_simp; rfl)
          case hC => exact HC
          case ha => (simp only [Act.put, List.setIfInBounds_toArray, List.set_cons_zero, List.set_cons_succ]; rfl)
          apply WZ.take (i := 4) (some 27) rfl rfl (by kernel_rfl) (by kernel_rfl) (by kernel_rfl) (calm_panic _) (by kernel_rfl)
          case hy => (refine .inl ⟨by kernel_rfl, fun W hC => ?_⟩; (try dsimp only at hC); go_simp; rfl)
          case hC => exact HC
          case ha => (simp only [Act.put, List.setIfInBounds_toArray, List.set_cons_zero, List.set_cons_succ]; rfl)
          -- 5
          refine WZ.one (i := 5) rfl (by kernel_rfl) ?_
          conv => arg 4; arg 1; whnf
          go_wp2_with (go_at_call 24; refine (all_anyS tl.ptr g k _).mono ?_; rintro e w3 ⟨rfl, hw3⟩)
          have hb3 : Below w2.heap.size w2 w3 := by rw [← hw3]; exact ((Below.refl w2.heap.size w2).drew.alloc (Nat.le_refl _) _).alloc (by rw [World.size_alloc]; exact Nat.le_succ _) _
          have hn3 : Box w3 w2.heap.size 43 (.pointer tl.ptr) := by rw [← hw3]; exact (Box.new w2.drew _ _).alloc _
          have ho3 : Box w3 (w2.heap.size + 1) 56 (.func (.func 25) #[] #[.pointer (some ⟨g, 0, none⟩), .pointer (some ⟨k, 0, none⟩)]) := by
            rw [← hw3]
            have := Box.new (w2.drew.alloc (.cells #[.pointer tl.ptr] 43)) 56 (.func (.func 25) #[] #[.pointer (some ⟨g, 0, none⟩), .pointer (some ⟨k, 0, none⟩)])
            rwa [World.size_alloc] at this
          have HC : w3.cell? ⟨Bo, 0, none⟩ = some (.func (.func 25) #[] #[.pointer (some ⟨g, 0, none⟩), .pointer (some ⟨k, 0, none⟩)]) ∧ w3.cell? ⟨Bn, 0, none⟩ = some (.pointer (some ⟨b, 0, none⟩)) ∧ w3.cell? ⟨b, 6, none⟩ = some (.pointer tl.ptr) := ⟨(hb3.cell (p := ⟨Bo, 0, none⟩) HF.out.2.2.2.1.lt).trans HC.1, (hb3.cell (p := ⟨Bn, 0, none⟩) HF.out.2.2.1.lt).trans HC.2.1, (hb3.cell (p := ⟨b, 6, none⟩) HF.out.2.1.1.lt).trans HC.2.2⟩
          have HN3 := Lib.hid (And.intro hb3 (And.intro hn3 ho3))
          clear hb3 hn3 ho3 hw3
          refine ⟨HC, ?_⟩
          refine WZ.done (by kernel_rfl) ?_ _
          simp only [Calm, Exit.then]
          clear HC
          gi_wp2
          have hsz3 : w2.heap.size ≤ w3.heap.size := HN3.out.1.size
          have hlo3 := HN3.out.2.2.lt
          refine wpIn_flow (F := Fence.wide) (n := n) rfl rfl (gf := 36) (lb := #[.pointer (some ⟨w2.heap.size, 0, none⟩), .pointer (some ⟨w2.heap.size + 1, 0, none⟩)]) rfl trivial (enters_of Try.func36 (by kernel_rfl) rfl) (fun _ => rfl)
            (HI.out.1 (n - 1) w2.heap.size (w2.heap.size + 1) w3 (fun j hj => (HN3.out.1.block j (by have := HF.out.2.2.2.2.2.2; have := HC0.out.nle; omega)).trans (HF.out.1 j hj)) (by have := HF.out.2.2.2.2.2.2; have := HC0.out.nle; omega) (Tr.In.keep HF.out.2.1.2.1 (fun j hj => HN3.out.1.block j (HF.out.2.1.2.1.lt j hj))) (fun j hj => HC0.out.lt j (by simp [Tr.blocks, hj])) HN3.out.2.1 HN3.out.2.2)
            (by have := HF.out.2.2.2.2.2.2; have := HC0.out.nle; omega) (by intro k hk; simp only [List.mem_cons, List.not_mem_nil, or_false] at hk; omega)
            (fun pre own1 Wx => J (([] : List Cl) ++ pre) own1 Wx ∧ Mv own own1 W1 Wx) ?hI own ?how ?h0 ?hround ?hdone
          case hI =>
            rintro pre own1 X Y ⟨hj, hm⟩ hs
            exact ⟨HX.out.1 _ _ _ _ hj (hs.mono (by have := HF.out.2.2.2.2.2.2; omega)), hm.still hs (by have := HS0.out.2.size; omega)⟩
          case how => exact fun j hj => ⟨(HF.out.2.2.2.2.2.1 j hj).1, by have := (HF.out.2.2.2.2.2.1 j hj).2; simp only [List.mem_cons, List.not_mem_nil, or_false, not_or]; omega, by have := (HF.out.2.2.2.2.2.1 j hj).2; omega⟩
          case h0 => exact ⟨by rw [List.append_nil]; exact HX.out.1 _ _ _ _ HS0.out.1 (Still.of_below HN3.out.1), HS0.out.2.trans (Mv.of_below HN3.out.1 HS0.out.2.lies)⟩
          case hround =>
            rintro r pre x own1 Wx hr ⟨hj, hm⟩ hin hpre
            have HR := Lib.hid (And.intro hr hpre)
            clear hr hj hm hin hpre
            gi_wp2
            refine ⟨(Below.refl _ _).alloc (Nat.le_refl _) _, ?_⟩
            intro W2 hT hI2
            have hb2 : CBox W2 Wx.heap.size x := (CBox.new Wx x).keep (hT.block _ (by have := HR.out.1; omega))
            have hy2 := (HC0.out.at_ hI2.2).2.2.2.2.1.cell
            obtain ⟨z, hz⟩ := HR.out.2
            obtain ⟨fn, tmps, assign, body, hyr, hR⟩ := anyDepth (n - 1 - 1 - 1) r (HX.out.2 (([] : List Cl) ++ pre) x own1 W2 hI2.1 ⟨z ++ ([d] ++ ([] : List Cl)), by rw [HSE.out, ← hz]; simp⟩)
            obtain ⟨q0, q1, q2, q3, q4, q5⟩ := hb2.cells
            have HI2 := Lib.hid hI2
            clear hb2 hI2 hT hz
            gi_wp2
            refine ⟨fun h => (by cases h), ?_⟩
            refine hR.mono ?_
            rintro e W3 ⟨rfl, own2, hj3, hm3⟩
            gi_wp2
            exact ⟨own2, ⟨by simpa using hj3, HI2.out.2.trans hm3⟩, hm3⟩
          case hdone =>
            rintro D4 own4 Wd4 ⟨hj, hm⟩ hmv hD1 hD2 hD3 hD4
            have HS4 := Lib.hid (And.intro hj hm)
            have HD4 : Hid (D4 < Wd4.heap.size ∧ D4 ∉ own4 ∧ Wd4.heap[D4]? = some (.deferred (some [])) ∧ W.heap.size ≤ D4) := Lib.hid ⟨hD2, hD3, hD4, by have := HF.out.2.2.2.2.2.2; omega⟩
            clear hj hm hmv hD1 hD2 hD3 hD4 HF HN3
            gi_wp2
            have hF := HC0.out.at_ HS4.out.2
            have HF := Lib.hid hF
            have hy2 : Wd4.drew.cell? ⟨W.heap.size, 0, none⟩ = some (.func (.yield l) #[] #[]) := hF.2.2.2.2.1.cell
            have hn2 : Wd4.drew.cell? ⟨Bn, 0, none⟩ = some (.pointer (some ⟨b, 0, none⟩)) := hF.2.2.1.cell
            obtain ⟨q0, q1, q2, q3, q4, q5, q6, q7, q8⟩ := (Tr.In.drew hF.2.1).1.at_
            clear hF q6 q7 q8
            obtain ⟨fn, tmps, assign, body, hyr, hR⟩ := anyDepth' (n - 1) (HX.out.2 (([] : List Cl) ++ tl.seen lo he hi) d own4 Wd4.drew (HX.out.1 _ _ _ _ HS4.out.1 ⟨rfl, rfl, rfl, Nat.le_refl _, fun _ _ _ => rfl⟩) ⟨([] : List Cl), by rw [HSE.out]; simp⟩)
            have mixed : Try.prog.follows Departure.mixedOrders = true := by kernel_rfl
            refine region_calm_in ?_
            gi_region_with_o ((try refine ⟨fun h => (by cases h), ?_⟩); refine hR.mono ?_; rintro e W5 ⟨rfl, own5, hj5, hm5⟩)
            all_goals
              simp only [Calm, Exit.then]
              have HS5 := Lib.hid (And.intro hj5 (HS4.out.2.trans (Mv.drew' hm5)))
              have HD4x5 : Hid (D4 < W5.heap.size ∧ D4 ∉ own5 ∧ W5.heap[D4]? = some (.deferred (some [])) ∧ W.heap.size ≤ D4) := by
                have h0 := HD4.out
                exact Lib.hid ⟨Nat.lt_of_lt_of_le h0.1 hm5.size, hm5.out h0.1 h0.2.1, (hm5.block _ h0.1 h0.2.1).trans h0.2.2.1, h0.2.2.2⟩
              clear hj5 hm5 hy2 hn2 q0 q1 q2 q3 q4 q5 HF hyr hR

              have HE := Lib.hid HSE.out
              gi_wp2
              refine ⟨by simp, .inl ⟨_, _, rfl, run_takeDeferred HD4x5.out.2.2.1, ?_⟩⟩
              exact ⟨_, results_none rfl _ _ _, ⟨_, rfl⟩, own5, by rw [HSE.out]; simpa using HX.out.1 _ _ _ _ HS5.out.1 (Still.putObj _ _ HD4x5.out.2.2.2 HD4x5.out.2.1), (HM1.out.trans HS5.out.2).putObj _ HD4x5.out.2.2.2⟩
      | false =>
        cases hhi : hi d.row with
        | true =>
          have HSE : Hid ((Tr.node b lv tl d tr).seen lo he hi = tl.seen lo he hi ++ (([] : List Cl) ++ tr.seen lo he hi)) := Lib.hid (by simp [Tr.seen, hlo, hhe, hhi])

          gi_wp2
          refine wpIn_wide.2 ?_
          have hF := HC0.out.at_ HS0.out.2
          have HC : w2.drew.cell? ⟨Bo, 0, none⟩ = some (.func (.func 25) #[] #[.pointer (some ⟨g, 0, none⟩), .pointer (some ⟨k, 0, none⟩)]) ∧ w2.drew.cell? ⟨Bn, 0, none⟩ = some (.pointer (some ⟨b, 0, none⟩)) ∧ w2.drew.cell? ⟨b, 6, none⟩ = some (.pointer tl.ptr) := ⟨hF.2.2.2.1.cell, hF.2.2.1.cell, hF.2.1.1.at_.2.2.2.2.2.2.1⟩
          have HF := Lib.hid hF
          clear hF
          refine region_wz (fun W' => W'.cell? ⟨Bo, 0, none⟩ = some (.func (.func 25) #[] #[.pointer (some ⟨g, 0, none⟩), .pointer (some ⟨k, 0, none⟩)]) ∧ W'.cell? ⟨Bn, 0, none⟩ = some (.pointer (some ⟨b, 0, none⟩)) ∧ W'.cell? ⟨b, 6, none⟩ = some (.pointer tl.ptr)) none (by kernel_rfl) ?_
          apply WZ.take (i := 0) (some 23) rfl rfl (by kernel_rfl) (by kernel_rfl) (by kernel_rfl) (calm_panic _) (by kernel_rfl)
          case hy => (refine .inl ⟨by kernel_rfl, fun W hC => ?_⟩; (try dsimp only at hC); go_simp; rfl)
          case hC => exact HC
          case ha => (simp only [Act.put, List.setIfInBounds_toArray, List.set_cons_zero, List.set_cons_succ]; rfl)
          apply WZ.take (i := 1) (some 24) rfl rfl (by kernel_rfl) (by kernel_rfl) (by kernel_rfl) (calm_panic _) (by kernel_rfl)
          case hy => (refine .inl ⟨by kernel_rfl, fun W hC => ?_⟩; (try dsimp only at hC); go_simp; rfl)
          case hC => exact HC
          case ha => (simp only [Act.put, List.setIfInBounds_toArray, List.set_cons_zero, List.set_cons_succ]; rfl)
          apply WZ.take (i := 2) (some 25) rfl rfl (by kernel_rfl) (by kernel_rfl) (by kernel_rfl) (calm_panic _) (by kernel_rfl)
          case hy => (refine .inl ⟨by kernel_rfl, fun W hC => ?_⟩; (try dsimp only at hC); go_simp; rfl)
          case hC => exact HC
          case ha => (simp only [Act.put, List.setIfInBounds_toArray, List.set_cons_zero, List.set_cons_succ]; rfl)
          apply WZ.take (i := 3) (some 26) rfl rfl (by kernel_rfl) (by kernel_rfl) (by kernel_rfl) (calm_panic _) (by kernel_rfl)
          case hy => (refine .inl ⟨by kernel_rfl, fun W hC => ?_⟩; (try dsimp only at hC); go_simp; rfl)
          case hC => exact HC
          case ha => (simp only [Act.put, List.setIfInBounds_toArray, List.set_cons_zero, List.set_cons_succ]; rfl)
          apply WZ.take (i := 4) (some 27) rfl rfl (by kernel_rfl) (by kernel_rfl) (by kernel_rfl) (calm_panic _) (by kernel_rfl)
          case hy => (refine .inl ⟨by kernel_rfl, fun W hC => ?_⟩; (try dsimp only at hC); go_simp; rfl)
          case hC => exact HC
          case ha => (simp only [Act.put, List.setIfInBounds_toArray, List.set_cons_zero, List.set_cons_succ]; rfl)
          -- 5
          refine WZ.one (i := 5) rfl (by kernel_rfl) ?_
          conv => arg 4; arg 1; whnf
          go_wp2_with (go_at_call 24; refine (all_anyS tl.ptr g k _).mono ?_; rintro e w3 ⟨rfl, hw3⟩)
          have hb3 : Below w2.heap.size w2 w3 := by rw [← hw3]; exact ((Below.refl w2.heap.size w2).drew.alloc (Nat.le_refl _) _).alloc (by rw [World.size_alloc]; exact Nat.le_succ _) _
          have hn3 : Box w3 w2.heap.size 43 (.pointer tl.ptr) := by rw [← hw3]; exact (Box.new w2.drew _ _).alloc _
          have ho3 : Box w3 (w2.heap.size + 1) 56 (.func (.func 25) #[] #[.pointer (some ⟨g, 0, none⟩), .pointer (some ⟨k, 0, none⟩)]) := by
            rw [← hw3]
            have := Box.new (w2.drew.alloc (.cells #[.pointer tl.ptr] 43)) 56 (.func (.func 25) #[] #[.pointer (some ⟨g, 0, none⟩), .pointer (some ⟨k, 0, none⟩)])
            rwa [World.size_alloc] at this
          have HC : w3.cell? ⟨Bo, 0, none⟩ = some (.func (.func 25) #[] #[.pointer (some ⟨g, 0, none⟩), .pointer (some ⟨k, 0, none⟩)]) ∧ w3.cell? ⟨Bn, 0, none⟩ = some (.pointer (some ⟨b, 0, none⟩)) ∧ w3.cell? ⟨b, 6, none⟩ = some (.pointer tl.ptr) := ⟨(hb3.cell (p := ⟨Bo, 0, none⟩) HF.out.2.2.2.1.lt).trans HC.1, (hb3.cell (p := ⟨Bn, 0, none⟩) HF.out.2.2.1.lt).trans HC.2.1, (hb3.cell (p := ⟨b, 6, none⟩) HF.out.2.1.1.lt).trans HC.2.2⟩
          have HN3 := Lib.hid (And.intro hb3 (And.intro hn3 ho3))
          clear hb3 hn3 ho3 hw3
          refine ⟨HC, ?_⟩
          refine WZ.done (by kernel_rfl) ?_ _
          simp only [Calm, Exit.then]
          clear HC
          gi_wp2
          have hsz3 : w2.heap.size ≤ w3.heap.size := HN3.out.1.size
          have hlo3 := HN3.out.2.2.lt
          refine wpIn_flow (F := Fence.wide) (n := n) rfl rfl (gf := 36) (lb := #[.pointer (some ⟨w2.heap.size, 0, none⟩), .pointer (some ⟨w2.heap.size + 1, 0, none⟩)]) rfl trivial (enters_of Try.func36 (by kernel_rfl) rfl) (fun _ => rfl)
            (HI.out.1 (n - 1) w2.heap.size (w2.heap.size + 1) w3 (fun j hj => (HN3.out.1.block j (by have := HF.out.2.2.2.2.2.2; have := HC0.out.nle; omega)).trans (HF.out.1 j hj)) (by have := HF.out.2.2.2.2.2.2; have := HC0.out.nle; omega) (Tr.In.keep HF.out.2.1.2.1 (fun j hj => HN3.out.1.block j (HF.out.2.1.2.1.lt j hj))) (fun j hj => HC0.out.lt j (by simp [Tr.blocks, hj])) HN3.out.2.1 HN3.out.2.2)
            (by have := HF.out.2.2.2.2.2.2; have := HC0.out.nle; omega) (by intro k hk; simp only [List.mem_cons, List.not_mem_nil, or_false] at hk; omega)
            (fun pre own1 Wx => J (([] : List Cl) ++ pre) own1 Wx ∧ Mv own own1 W1 Wx) ?hI own ?how ?h0 ?hround ?hdone
          case hI =>
            rintro pre own1 X Y ⟨hj, hm⟩ hs
            exact ⟨HX.out.1 _ _ _ _ hj (hs.mono (by have := HF.out.2.2.2.2.2.2; omega)), hm.still hs (by have := HS0.out.2.size; omega)⟩
          case how => exact fun j hj => ⟨(HF.out.2.2.2.2.2.1 j hj).1, by have := (HF.out.2.2.2.2.2.1 j hj).2; simp only [List.mem_cons, List.not_mem_nil, or_false, not_or]; omega, by have := (HF.out.2.2.2.2.2.1 j hj).2; omega⟩
          case h0 => exact ⟨by rw [List.append_nil]; exact HX.out.1 _ _ _ _ HS0.out.1 (Still.of_below HN3.out.1), HS0.out.2.trans (Mv.of_below HN3.out.1 HS0.out.2.lies)⟩
          case hround =>
            rintro r pre x own1 Wx hr ⟨hj, hm⟩ hin hpre
            have HR := Lib.hid (And.intro hr hpre)
            clear hr hj hm hin hpre
            gi_wp2
            refine ⟨(Below.refl _ _).alloc (Nat.le_refl _) _, ?_⟩
            intro W2 hT hI2
            have hb2 : CBox W2 Wx.heap.size x := (CBox.new Wx x).keep (hT.block _ (by have := HR.out.1; omega))
            have hy2 := (HC0.out.at_ hI2.2).2.2.2.2.1.cell
            obtain ⟨z, hz⟩ := HR.out.2
            obtain ⟨fn, tmps, assign, body, hyr, hR⟩ := anyDepth (n - 1 - 1 - 1) r (HX.out.2 (([] : List Cl) ++ pre) x own1 W2 hI2.1 ⟨z ++ (([] : List Cl) ++ tr.seen lo he hi), by rw [HSE.out, ← hz]; simp⟩)
            obtain ⟨q0, q1, q2, q3, q4, q5⟩ := hb2.cells
            have HI2 := Lib.hid hI2
            clear hb2 hI2 hT hz
            gi_wp2
            refine ⟨fun h => (by cases h), ?_⟩
            refine hR.mono ?_
            rintro e W3 ⟨rfl, own2, hj3, hm3⟩
            gi_wp2
            exact ⟨own2, ⟨by simpa using hj3, HI2.out.2.trans hm3⟩, hm3⟩
          case hdone =>
            rintro D6 own6 Wd6 ⟨hj, hm⟩ hmv hD1 hD2 hD3 hD4
            have HS6 := Lib.hid (And.intro hj hm)
            have HD6 : Hid (D6 < Wd6.heap.size ∧ D6 ∉ own6 ∧ Wd6.heap[D6]? = some (.deferred (some [])) ∧ W.heap.size ≤ D6) := Lib.hid ⟨hD2, hD3, hD4, by have := HF.out.2.2.2.2.2.2; omega⟩
            clear hj hm hmv hD1 hD2 hD3 hD4 HF HN3
            gi_wp2
            refine wpIn_wide.2 ?_
            go_quiet (fail)
            have HS7 := Lib.hid (And.intro (HX.out.1 _ _ _ _ HS6.out.1 (⟨rfl, rfl, rfl, Nat.le_refl _, fun _ _ _ => rfl⟩ : Still W.heap.size own6 Wd6 (Wd6.drewN nq))) (HS6.out.2.drewN nq))
            have HD6x7 : Hid (D6 < (Wd6.drewN nq).heap.size ∧ D6 ∉ own6 ∧ (Wd6.drewN nq).heap[D6]? = some (.deferred (some [])) ∧ W.heap.size ≤ D6) := HD6
            obtain ⟨Wq7, hWq7⟩ : ∃ Wq, Wd6.drewN nq = Wq := ⟨_, rfl⟩
            rw [hWq7] at HS7 HD6x7 ⊢
            clear hWq7

            gi_wp2
            refine wpIn_wide.2 ?_
            have hF := HC0.out.at_ HS7.out.2
            have HC : Wq7.drew.cell? ⟨Bo, 0, none⟩ = some (.func (.func 25) #[] #[.pointer (some ⟨g, 0, none⟩), .pointer (some ⟨k, 0, none⟩)]) ∧ Wq7.drew.cell? ⟨Bn, 0, none⟩ = some (.pointer (some ⟨b, 0, none⟩)) ∧ Wq7.drew.cell? ⟨b, 7, none⟩ = some (.pointer tr.ptr) := ⟨hF.2.2.2.1.cell, hF.2.2.1.cell, hF.2.1.1.at_.2.2.2.2.2.2.2.1⟩
            have HF := Lib.hid hF
            clear hF
            refine region_wz (fun W' => W'.cell? ⟨Bo, 0, none⟩ = some (.func (.func 25) #[] #[.pointer (some ⟨g, 0, none⟩), .pointer (some ⟨k, 0, none⟩)]) ∧ W'.cell? ⟨Bn, 0, none⟩ = some (.pointer (some ⟨b, 0, none⟩)) ∧ W'.cell? ⟨b, 7, none⟩ = some (.pointer tr.ptr)) none (by kernel_rfl) ?_
            apply WZ.take (i := 0) (some 45) rfl rfl (by kernel_rfl) (by kernel_rfl) (by kernel_rfl) (calm_panic _) (by kernel_rfl)
            case hy => (refine .inl ⟨by kernel_rfl, fun W hC => ?_⟩; (try dsimp only at hC); go_simp; rfl)
            case hC => exact HC
            case ha => (simp only [Act.put, List.setIfInBounds_toArray, List.set_cons_zero, List.set_cons_succ]; rfl)
            apply WZ.take (i := 1) (some 46) rfl rfl (by kernel_rfl) (by kernel_rfl) (by kernel_rfl) (calm_panic _) (by kernel_rfl)
            case hy => (refine .inl ⟨by kernel_rfl, fun W hC => ?_⟩; (try dsimp only at hC); go_simp; rfl)
            case hC => exact HC
            case ha => (simp only [Act.put, List.setIfInBounds_toArray, List.set_cons_zero, List.set_cons_succ]; rfl)
            apply WZ.take (i := 2) (some 47) rfl rfl (by kernel_rfl) (by kernel_rfl) (by kernel_rfl) (calm_panic _) (by kernel_rfl)
            case hy => (refine .inl ⟨by kernel_rfl, fun W hC => ?_⟩; (try dsimp only at hC); go_simp; rfl)
            case hC => exact HC
            case ha => (simp only [Act.put, List.setIfInBounds_toArray, List.set_cons_zero, List.set_cons_succ]; rfl)
            apply WZ.take (i := 3) (some 48) rfl rfl (by kernel_rfl) (by kernel_rfl) (by kernel_rfl) (calm_panic _) (by kernel_rfl)
            case hy => (refine .inl ⟨by kernel_rfl, fun W hC => ?_⟩; (try dsimp only at hC); go_simp; rfl)
            case hC => exact HC
            case ha => (simp only [Act.put, List.setIfInBounds_toArray, List.set_cons_zero, List.set_cons_succ]; rfl)
            apply WZ.take (i := 4) (some 49) rfl rfl (by kernel_rfl) (by kernel_rfl) (by kernel_rfl) (calm_panic _) (by kernel_rfl)
            case hy => (refine .inl ⟨by kernel_rfl, fun W hC => ?_⟩; (try dsimp only at hC); go_simp; rfl)
            case hC => exact HC
            case ha => (simp only [Act.put, List.setIfInBounds_toArray, List.set_cons_zero, List.set_cons_succ]; rfl)
            -- 5
            refine WZ.one (i := 5) rfl (by kernel_rfl) ?_
            conv => arg 4; arg 1; whnf
            go_wp2_with (go_at_call 24; refine (all_anyS tr.ptr g k _).mono ?_; rintro e w3 ⟨rfl, hw3⟩)
            have hb3 : Below Wq7.heap.size Wq7 w3 := by rw [← hw3]; exact ((Below.refl Wq7.heap.size Wq7).drew.alloc (Nat.le_refl _) _).alloc (by rw [World.size_alloc]; exact Nat.le_succ _) _
            have hn3 : Box w3 Wq7.heap.size 43 (.pointer tr.ptr) := by rw [← hw3]; exact (Box.new Wq7.drew _ _).alloc _
            have ho3 : Box w3 (Wq7.heap.size + 1) 56 (.func (.func 25) #[] #[.pointer (some ⟨g, 0, none⟩), .pointer (some ⟨k, 0, none⟩)]) := by
              rw [← hw3]
              have := Box.new (Wq7.drew.alloc (.cells #[.pointer tr.ptr] 43)) 56 (.func (.func 25) #[] #[.pointer (some ⟨g, 0, none⟩), .pointer (some ⟨k, 0, none⟩)])
              rwa [World.size_alloc] at this
            have HC : w3.cell? ⟨Bo, 0, none⟩ = some (.func (.func 25) #[] #[.pointer (some ⟨g, 0, none⟩), .pointer (some ⟨k, 0, none⟩)]) ∧ w3.cell? ⟨Bn, 0, none⟩ = some (.pointer (some ⟨b, 0, none⟩)) ∧ w3.cell? ⟨b, 7, none⟩ = some (.pointer tr.ptr) := ⟨(hb3.cell (p := ⟨Bo, 0, none⟩) HF.out.2.2.2.1.lt).trans HC.1, (hb3.cell (p := ⟨Bn, 0, none⟩) HF.out.2.2.1.lt).trans HC.2.1, (hb3.cell (p := ⟨b, 7, none⟩) HF.out.2.1.1.lt).trans HC.2.2⟩
            have HN3 := Lib.hid (And.intro hb3 (And.intro hn3 ho3))
            clear hb3 hn3 ho3 hw3
            refine ⟨HC, ?_⟩
            refine WZ.done (by kernel_rfl) ?_ _
            simp only [Calm, Exit.then]
            clear HC
            gi_wp2
            have hsz3 : Wq7.heap.size ≤ w3.heap.size := HN3.out.1.size
            have hlo3 := HN3.out.2.2.lt
            refine wpIn_flow (F := Fence.wide) (n := n) rfl rfl (gf := 36) (lb := #[.pointer (some ⟨Wq7.heap.size, 0, none⟩), .pointer (some ⟨Wq7.heap.size + 1, 0, none⟩)]) rfl trivial (enters_of Try.func36 (by kernel_rfl) rfl) (fun _ => rfl)
              (HI.out.2 (n - 1) Wq7.heap.size (Wq7.heap.size + 1) w3 (fun j hj => (HN3.out.1.block j (by have := HF.out.2.2.2.2.2.2; have := HC0.out.nle; omega)).trans (HF.out.1 j hj)) (by have := HF.out.2.2.2.2.2.2; have := HC0.out.nle; omega) (Tr.In.keep HF.out.2.1.2.2 (fun j hj => HN3.out.1.block j (HF.out.2.1.2.2.lt j hj))) (fun j hj => HC0.out.lt j (by simp [Tr.blocks, hj])) HN3.out.2.1 HN3.out.2.2)
              (by have := HF.out.2.2.2.2.2.2; have := HC0.out.nle; omega) (by intro k hk; simp only [List.mem_cons, List.not_mem_nil, or_false] at hk; omega)
              (fun pre own1 Wx => J ((([] : List Cl) ++ tl.seen lo he hi) ++ pre) own1 Wx ∧ Mv own own1 W1 Wx) ?hI own6 ?how ?h0 ?hround ?hdone
            case hI =>
              rintro pre own1 X Y ⟨hj, hm⟩ hs
              exact ⟨HX.out.1 _ _ _ _ hj (hs.mono (by have := HF.out.2.2.2.2.2.2; omega)), hm.still hs (by have := HS7.out.2.size; omega)⟩
            case how => exact fun j hj => ⟨(HF.out.2.2.2.2.2.1 j hj).1, by have := (HF.out.2.2.2.2.2.1 j hj).2; simp only [List.mem_cons, List.not_mem_nil, or_false, not_or]; omega, by have := (HF.out.2.2.2.2.2.1 j hj).2; omega⟩
            case h0 => exact ⟨by rw [List.append_nil]; exact HX.out.1 _ _ _ _ HS7.out.1 (Still.of_below HN3.out.1), HS7.out.2.trans (Mv.of_below HN3.out.1 HS7.out.2.lies)⟩
            case hround =>
              rintro r pre x own1 Wx hr ⟨hj, hm⟩ hin hpre
              have HR := Lib.hid (And.intro hr hpre)
              clear hr hj hm hin hpre
              gi_wp2
              refine ⟨(Below.refl _ _).alloc (Nat.le_refl _) _, ?_⟩
              intro W2 hT hI2
              have hb2 : CBox W2 Wx.heap.size x := (CBox.new Wx x).keep (hT.block _ (by have := HR.out.1; omega))
              have hy2 := (HC0.out.at_ hI2.2).2.2.2.2.1.cell
              obtain ⟨z, hz⟩ := HR.out.2
              obtain ⟨fn, tmps, assign, body, hyr, hR⟩ := anyDepth (n - 1 - 1 - 1) r (HX.out.2 ((([] : List Cl) ++ tl.seen lo he hi) ++ pre) x own1 W2 hI2.1 ⟨z ++ (([] : List Cl)), by rw [HSE.out, ← hz]; simp⟩)
              obtain ⟨q0, q1, q2, q3, q4, q5⟩ := hb2.cells
              have HI2 := Lib.hid hI2
              clear hb2 hI2 hT hz
              gi_wp2
              refine ⟨fun h => (by cases h), ?_⟩
              refine hR.mono ?_
              rintro e W3 ⟨rfl, own2, hj3, hm3⟩
              gi_wp2
              exact ⟨own2, ⟨by simpa using hj3, HI2.out.2.trans hm3⟩, hm3⟩
            case hdone =>
              rintro D8 own8 Wd8 ⟨hj, hm⟩ hmv hD1 hD2 hD3 hD4
              have HS8 := Lib.hid (And.intro hj hm)
              have HD8 : Hid (D8 < Wd8.heap.size ∧ D8 ∉ own8 ∧ Wd8.heap[D8]? = some (.deferred (some [])) ∧ W.heap.size ≤ D8) := Lib.hid ⟨hD2, hD3, hD4, by have := HF.out.2.2.2.2.2.2; omega⟩
              have HD6x8 : Hid (D6 < Wd8.heap.size ∧ D6 ∉ own8 ∧ Wd8.heap[D6]? = some (.deferred (some [])) ∧ W.heap.size ≤ D6 ∧ D6 ≠ D8) := by
                have h0 := HD6x7.out
                have hlt : D6 < w3.heap.size := by have := h0.1; omega
                exact Lib.hid ⟨Nat.lt_of_lt_of_le hlt hmv.size, hmv.out hlt h0.2.1, (hmv.block _ hlt h0.2.1).trans ((HN3.out.1.block _ h0.1).trans h0.2.2.1), h0.2.2.2, by omega⟩
              clear hj hm hmv hD1 hD2 hD3 hD4 HF HN3
              have HE := Lib.hid HSE.out
              gi_wp2
              refine ⟨by simp, .inl ⟨_, _, rfl, run_takeDeferred HD8.out.2.2.1, ?_⟩⟩
              refine ⟨by simp, .inl ⟨_, _, rfl, run_takeDeferred ((World.putObj_heap_other HD6x8.out.2.2.2.2).trans HD6x8.out.2.2.1), ?_⟩⟩
              exact ⟨_, results_none rfl _ _ _, ⟨_, rfl⟩, own8, by rw [HSE.out]; simpa using HX.out.1 _ _ _ _ (HX.out.1 _ _ _ _ HS8.out.1 (Still.putObj _ _ HD8.out.2.2.2 HD8.out.2.1)) (Still.putObj _ _ HD6x8.out.2.2.2.1 HD6x8.out.2.1), ((HM1.out.trans HS8.out.2).putObj _ HD8.out.2.2.2).putObj _ HD6x8.out.2.2.2.1⟩
        | false =>
          have HSE : Hid ((Tr.node b lv tl d tr).seen lo he hi = tl.seen lo he hi ++ (([] : List Cl) ++ ([] : List Cl))) := Lib.hid (by simp [Tr.seen, hlo, hhe, hhi])

          gi_wp2
          refine wpIn_wide.2 ?_
          have hF := HC0.out.at_ HS0.out.2
          have HC : w2.drew.cell? ⟨Bo, 0, none⟩ = some (.func (.func 25) #[] #[.pointer (some ⟨g, 0, none⟩), .pointer (some ⟨k, 0, none⟩)]) ∧ w2.drew.cell? ⟨Bn, 0, none⟩ = some (.pointer (some ⟨b, 0, none⟩)) ∧ w2.drew.cell? ⟨b, 6, none⟩ = some (.pointer tl.ptr) := ⟨hF.2.2.2.1.cell, hF.2.2.1.cell, hF.2.1.1.at_.2.2.2.2.2.2.1⟩
          have HF := Lib.hid hF
          clear hF
          refine region_wz (fun W' => W'.cell? ⟨Bo, 0, none⟩ = some (.func (.func 25) #[] #[.pointer (some ⟨g, 0, none⟩), .pointer (some ⟨k, 0, none⟩)]) ∧ W'.cell? ⟨Bn, 0, none⟩ = some (.pointer (some ⟨b, 0, none⟩)) ∧ W'.cell? ⟨b, 6, none⟩ = some (.pointer tl.ptr)) none (by kernel_rfl) ?_
          apply WZ.take (i := 0) (some 23) rfl rfl (by kernel_rfl) (by kernel_rfl) (by kernel_rfl) (calm_panic _) (by kernel_rfl)
          case hy => (refine .inl ⟨by kernel_rfl, fun W hC => ?_⟩; (try dsimp only at hC); go_simp; rfl)
          case hC => exact HC
          case ha => (simp only [Act.put, List.setIfInBounds_toArray, List.set_cons_zero, List.set_cons_succ]; rfl)
          apply WZ.take (i := 1) (some 24) rfl rfl (by kernel_rfl) (by kernel_rfl) (by kernel_rfl) (calm_panic _) (by kernel_rfl)
          case hy => (refine .inl ⟨by kernel_rfl, fun W hC => ?_⟩; (try dsimp only at hC); go_simp; rfl)
          case hC => exact HC
          case ha => (simp only [Act.put, List.setIfInBounds_toArray, List.set_cons_zero, List.set_cons_succ]; rfl)
          apply WZ.take (i := 2) (some 25) rfl rfl (by kernel_rfl) (by kernel_rfl) (by kernel_rfl) (calm_panic _) (by kernel_rfl)
          case hy => (refine .inl ⟨by kernel_rfl, fun W hC => ?_⟩; (try dsimp only at hC); go_simp; rfl)
          case hC => exact HC
          case ha => (simp only [Act.put, List.setIfInBounds_toArray, List.set_cons_zero, List.set_cons_succ]; rfl)
          apply WZ.take (i := 3) (some 26) rfl rfl (by kernel_rfl) (by kernel_rfl) (by kernel_rfl) (calm_panic _) (by kernel_rfl)
          case hy => (refine .inl ⟨by kernel_rfl, fun W hC => ?_⟩; (try dsimp only at hC); go_simp; rfl)
          case hC => exact HC
          case ha => (simp only [Act.put, List.setIfInBounds_toArray, List.set_cons_zero, List.set_cons_succ]; rfl)
          apply WZ.take (i := 4) (some 27) rfl rfl (by kernel_rfl) (by kernel_rfl) (by kernel_rfl) (calm_panic _) (by kernel_rfl)
          case hy => (refine .inl ⟨by kernel_rfl, fun W hC => ?_⟩; (try dsimp only at hC); go_simp; rfl)
          case hC => exact HC
          case ha => (simp only [Act.put, List.setIfInBounds_toArray, List.set_cons_zero, List.set_cons_succ]; rfl)
          -- 5
          refine WZ.one (i := 5) rfl (by kernel_rfl) ?_
          conv => arg 4; arg 1; whnf
          go_wp2_with (go_at_call 24; refine (all_anyS tl.ptr g k _).mono ?_; rintro e w3 ⟨rfl, hw3⟩)
          have hb3 : Below w2.heap.size w2 w3 := by rw [← hw3]; exact ((Below.refl w2.heap.size w2).drew.alloc (Nat.le_refl _) _).alloc (by rw [World.size_alloc]; exact Nat.le_succ _) _
          have hn3 : Box w3 w2.heap.size 43 (.pointer tl.ptr) := by rw [← hw3]; exact (Box.new w2.drew _ _).alloc _
          have ho3 : Box w3 (w2.heap.size + 1) 56 (.func (.func 25) #[] #[.pointer (some ⟨g, 0, none⟩), .pointer (some ⟨k, 0, none⟩)]) := by
            rw [← hw3]
            have := Box.new (w2.drew.alloc (.cells #[.pointer tl.ptr] 43)) 56 (.func (.func 25) #[] #[.pointer (some ⟨g, 0, none⟩), .pointer (some ⟨k, 0, none⟩)])
            rwa [World.size_alloc] at this
          have HC : w3.cell? ⟨Bo, 0, none⟩ = some (.func (.func 25) #[] #[.pointer (some ⟨g, 0, none⟩), .pointer (some ⟨k, 0, none⟩)]) ∧ w3.cell? ⟨Bn, 0, none⟩ = some (.pointer (some ⟨b, 0, none⟩)) ∧ w3.cell? ⟨b, 6, none⟩ = some (.pointer tl.ptr) := ⟨(hb3.cell (p := ⟨Bo, 0, none⟩) HF.out.2.2.2.1.lt).trans HC.1, (hb3.cell (p := ⟨Bn, 0, none⟩) HF.out.2.2.1.lt).trans HC.2.1, (hb3.cell (p := ⟨b, 6, none⟩) HF.out.2.1.1.lt).trans HC.2.2⟩
          have HN3 := Lib.hid (And.intro hb3 (And.intro hn3 ho3))
          clear hb3 hn3 ho3 hw3
          refine ⟨HC, ?_⟩
          refine WZ.done (by kernel_rfl) ?_ _
          simp only [Calm, Exit.then]
          clear HC
          gi_wp2
          have hsz3 : w2.heap.size ≤ w3.heap.size := HN3.out.1.size
          have hlo3 := HN3.out.2.2.lt
          refine wpIn_flow (F := Fence.wide) (n := n) rfl rfl (gf := 36) (lb := #[.pointer (some ⟨w2.heap.size, 0, none⟩), .pointer (some ⟨w2.heap.size + 1, 0, none⟩)]) rfl trivial (enters_of Try.func36 (by kernel_rfl) rfl) (fun _ => rfl)
            (HI.out.1 (n - 1) w2.heap.size (w2.heap.size + 1) w3 (fun j hj => (HN3.out.1.block j (by have := HF.out.2.2.2.2.2.2; have := HC0.out.nle; omega)).trans (HF.out.1 j hj)) (by have := HF.out.2.2.2.2.2.2; have := HC0.out.nle; omega) (Tr.In.keep HF.out.2.1.2.1 (fun j hj => HN3.out.1.block j (HF.out.2.1.2.1.lt j hj))) (fun j hj => HC0.out.lt j (by simp [Tr.blocks, hj])) HN3.out.2.1 HN3.out.2.2)
            (by have := HF.out.2.2.2.2.2.2; have := HC0.out.nle; omega) (by intro k hk; simp only [List.mem_cons, List.not_mem_nil, or_false] at hk; omega)
            (fun pre own1 Wx => J (([] : List Cl) ++ pre) own1 Wx ∧ Mv own own1 W1 Wx) ?hI own ?how ?h0 ?hround ?hdone
          case hI =>
            rintro pre own1 X Y ⟨hj, hm⟩ hs
            exact ⟨HX.out.1 _ _ _ _ hj (hs.mono (by have := HF.out.2.2.2.2.2.2; omega)), hm.still hs (by have := HS0.out.2.size; omega)⟩
          case how => exact fun j hj => ⟨(HF.out.2.2.2.2.2.1 j hj).1, by have := (HF.out.2.2.2.2.2.1 j hj).2; simp only [List.mem_cons, List.not_mem_nil, or_false, not_or]; omega, by have := (HF.out.2.2.2.2.2.1 j hj).2; omega⟩
          case h0 => exact ⟨by rw [List.append_nil]; exact HX.out.1 _ _ _ _ HS0.out.1 (Still.of_below HN3.out.1), HS0.out.2.trans (Mv.of_below HN3.out.1 HS0.out.2.lies)⟩
          case hround =>
            rintro r pre x own1 Wx hr ⟨hj, hm⟩ hin hpre
            have HR := Lib.hid (And.intro hr hpre)
            clear hr hj hm hin hpre
            gi_wp2
            refine ⟨(Below.refl _ _).alloc (Nat.le_refl _) _, ?_⟩
            intro W2 hT hI2
            have hb2 : CBox W2 Wx.heap.size x := (CBox.new Wx x).keep (hT.block _ (by have := HR.out.1; omega))
            have hy2 := (HC0.out.at_ hI2.2).2.2.2.2.1.cell
            obtain ⟨z, hz⟩ := HR.out.2
            obtain ⟨fn, tmps, assign, body, hyr, hR⟩ := anyDepth (n - 1 - 1 - 1) r (HX.out.2 (([] : List Cl) ++ pre) x own1 W2 hI2.1 ⟨z ++ (([] : List Cl) ++ ([] : List Cl)), by rw [HSE.out, ← hz]; simp⟩)
            obtain ⟨q0, q1, q2, q3, q4, q5⟩ := hb2.cells
            have HI2 := Lib.hid hI2
            clear hb2 hI2 hT hz
            gi_wp2
            refine ⟨fun h => (by cases h), ?_⟩
            refine hR.mono ?_
            rintro e W3 ⟨rfl, own2, hj3, hm3⟩
            gi_wp2
            exact ⟨own2, ⟨by simpa using hj3, HI2.out.2.trans hm3⟩, hm3⟩
          case hdone =>
            rintro D9 own9 Wd9 ⟨hj, hm⟩ hmv hD1 hD2 hD3 hD4
            have HS9 := Lib.hid (And.intro hj hm)
            have HD9 : Hid (D9 < Wd9.heap.size ∧ D9 ∉ own9 ∧ Wd9.heap[D9]? = some (.deferred (some [])) ∧ W.heap.size ≤ D9) := Lib.hid ⟨hD2, hD3, hD4, by have := HF.out.2.2.2.2.2.2; omega⟩
            clear hj hm hmv hD1 hD2 hD3 hD4 HF HN3
            gi_wp2
            refine wpIn_wide.2 ?_
            go_quiet (fail)
            have HS10 := Lib.hid (And.intro (HX.out.1 _ _ _ _ HS9.out.1 (⟨rfl, rfl, rfl, Nat.le_refl _, fun _ _ _ => rfl⟩ : Still W.heap.size own9 Wd9 (Wd9.drewN nq))) (HS9.out.2.drewN nq))
            have HD9x10 : Hid (D9 < (Wd9.drewN nq).heap.size ∧ D9 ∉ own9 ∧ (Wd9.drewN nq).heap[D9]? = some (.deferred (some [])) ∧ W.heap.size ≤ D9) := HD9
            obtain ⟨Wq10, hWq10⟩ : ∃ Wq, Wd9.drewN nq = Wq := ⟨_, rfl⟩
            rw [hWq10] at HS10 HD9x10 ⊢
            clear hWq10

            have HE := Lib.hid HSE.out
            gi_wp2
            refine ⟨by simp, .inl ⟨_, _, rfl, run_takeDeferred HD9x10.out.2.2.1, ?_⟩⟩
            exact ⟨_, results_none rfl _ _ _, ⟨_, rfl⟩, own9, by rw [HSE.out]; simpa using HX.out.1 _ _ _ _ HS10.out.1 (Still.putObj _ _ HD9x10.out.2.2.2 HD9x10.out.2.1), (HM1.out.trans HS10.out.2).putObj _ HD9x10.out.2.2.2⟩
    | false =>
      cases hhe : he d.row with
      | true =>
        cases hhi : hi d.row with
        | true =>
          have HSE : Hid ((Tr.node b lv tl d tr).seen lo he hi = ([] : List Cl) ++ ([d] ++ tr.seen lo he hi)) := Lib.hid (by simp [Tr.seen, hlo, hhe, hhi])

          gi_wp2
          have hF := HC0.out.at_ HS0.out.2
          have HF := Lib.hid hF
          have hy2 : w2.drew.cell? ⟨W.heap.size, 0, none⟩ = some (.func (.yield l) #[] #[]) := hF.2.2.2.2.1.cell
          have hn2 : w2.drew.cell? ⟨Bn, 0, none⟩ = some (.pointer (some ⟨b, 0, none⟩)) := hF.2.2.1.cell
          obtain ⟨q0, q1, q2, q3, q4, q5, q6, q7, q8⟩ := (Tr.In.drew hF.2.1).1.at_
          clear hF q6 q7 q8
          obtain ⟨fn, tmps, assign, body, hyr, hR⟩ := anyDepth' (n - 1) (HX.out.2 ([] : List Cl) d own w2.drew (HX.out.1 _ _ _ _ HS0.out.1 ⟨rfl, rfl, rfl, Nat.le_refl _, fun _ _ _ => rfl⟩) ⟨tr.seen lo he hi, by rw [HSE.out]; simp⟩)
          have mixed : Try.prog.follows Departure.mixedOrders = true := by kernel_rfl
          refine region_calm_in ?_
          gi_region_with_o ((try refine ⟨fun h => (by cases h), ?_⟩); refine hR.mono ?_; rintro e W11 ⟨rfl, own11, hj11, hm11⟩)
          all_goals
            simp only [Calm, Exit.then]
            have HS11 := Lib.hid (And.intro hj11 (HS0.out.2.trans (Mv.drew' hm11)))
            clear hj11 hm11 hy2 hn2 q0 q1 q2 q3 q4 q5 HF hyr hR

            gi_wp2
            refine wpIn_wide.2 ?_
            have hF := HC0.out.at_ HS11.out.2
            have HC : W11.drew.cell? ⟨Bo, 0, none⟩ = some (.func (.func 25) #[] #[.pointer (some ⟨g, 0, none⟩), .pointer (some ⟨k, 0, none⟩)]) ∧ W11.drew.cell? ⟨Bn, 0, none⟩ = some (.pointer (some ⟨b, 0, none⟩)) ∧ W11.drew.cell? ⟨b, 7, none⟩ = some (.pointer tr.ptr) := ⟨hF.2.2.2.1.cell, hF.2.2.1.cell, hF.2.1.1.at_.2.2.2.2.2.2.2.1⟩
            have HF := Lib.hid hF
            clear hF
            refine region_wz (fun W' => W'.cell? ⟨Bo, 0, none⟩ = some (.func (.func 25) #[] #[.pointer (some ⟨g, 0, none⟩), .pointer (some ⟨k, 0, none⟩)]) ∧ W'.cell? ⟨Bn, 0, none⟩ = some (.pointer (some ⟨b, 0, none⟩)) ∧ W'.cell? ⟨b, 7, none⟩ = some (.pointer tr.ptr)) none (by kernel_rfl) ?_
            apply WZ.take (i := 0) (some 45) rfl rfl (by kernel_rfl) (by kernel_rfl) (by kernel_rfl) (calm_panic _) (by kernel_rfl)
            case hy => (refine .inl ⟨by kernel_rfl, fun W hC => ?_⟩; (try dsimp only at hC); go_simp; rfl)
            case hC => exact HC
            case ha => (simp only [Act.put, List.setIfInBounds_toArray, List.set_cons_zero, List.set_cons_succ]; rfl)
            apply WZ.take (i := 1) (some 46) rfl rfl (by kernel_rfl) (by kernel_rfl) (by kernel_rfl) (calm_panic _) (by kernel_rfl)
            case hy => (refine .inl ⟨by kernel_rfl, fun W hC => ?_⟩; (try dsimp only at hC); go_simp; rfl)
            case hC => exact HC
            case ha => (simp only [Act.put, List.setIfInBounds_toArray, List.set_cons_zero, List.set_cons_succ]; rfl)
            apply WZ.take (i := 2) (some 47) rfl rfl (by kernel_rfl) (by kernel_rfl) (by kernel_rfl) (calm_panic _) (by kernel_rfl)
            case hy => (refine .inl ⟨by kernel_rfl, fun W hC => ?_⟩; (try dsimp only at hC); go_simp; rfl)
            case hC => exact HC
            case ha => (simp only [Act.put, List.setIfInBounds_toArray, List.set_cons_zero, List.set_cons_succ]; rfl)
            apply WZ.take (i := 3) (some 48) rfl rfl (by kernel_rfl) (by kernel_rfl) (by kernel_rfl) (calm_panic _) (by kernel_rfl)
            case hy => (refine .inl ⟨by kernel_rfl, fun W hC => ?_⟩; (try dsimp only at hC); go_simp; rfl)
            case hC => exact HC
            case ha => (simp only [Act.put, List.setIfInBounds_toArray, List.set_cons_zero, List.set_cons_succ]; rfl)
            apply WZ.take (i := 4) (some 49) rfl rfl (by kernel_rfl) (by kernel_rfl) (by kernel_rfl) (calm_panic _) (by kernel_rfl)
            case hy => (refine .inl ⟨by kernel_rfl, fun W hC => ?_⟩; (try dsimp only at hC); go_simp; rfl)
            case hC => exact HC
            case ha => (simp only [Act.put, List.setIfInBounds_toArray, List.set_cons_zero, List.set_cons_succ]; rfl)
            -- 5
            refine WZ.one (i := 5) rfl (by kernel_rfl) ?_
            conv => arg 4; arg 1; whnf
            go_wp2_with (go_at_call 24; refine (all_anyS tr.ptr g k _).mono ?_; rintro e w3 ⟨rfl, hw3⟩)
            have hb3 : Below W11.heap.size W11 w3 := by rw [← hw3]; exact ((Below.refl W11.heap.size W11).drew.alloc (Nat.le_refl _) _).alloc (by rw [World.size_alloc]; exact Nat.le_succ _) _
            have hn3 : Box w3 W11.heap.size 43 (.pointer tr.ptr) := by rw [← hw3]; exact (Box.new W11.drew _ _).alloc _
            have ho3 : Box w3 (W11.heap.size + 1) 56 (.func (.func 25) #[] #[.pointer (some ⟨g, 0, none⟩), .pointer (some ⟨k, 0, none⟩)]) := by
              rw [← hw3]
              have := Box.new (W11.drew.alloc (.cells #[.pointer tr.ptr] 43)) 56 (.func (.func 25) #[] #[.pointer (some ⟨g, 0, none⟩), .pointer (some ⟨k, 0, none⟩)])
              rwa [World.size_alloc] at this
            have HC : w3.cell? ⟨Bo, 0, none⟩ = some (.func (.func 25) #[] #[.pointer (some ⟨g, 0, none⟩), .pointer (some ⟨k, 0, none⟩)]) ∧ w3.cell? ⟨Bn, 0, none⟩ = some (.pointer (some ⟨b, 0, none⟩)) ∧ w3.cell? ⟨b, 7, none⟩ = some (.pointer tr.ptr) := ⟨(hb3.cell (p := ⟨Bo, 0, none⟩) HF.out.2.2.2.1.lt).trans HC.1, (hb3.cell (p := ⟨Bn, 0, none⟩) HF.out.2.2.1.lt).trans HC.2.1, (hb3.cell (p := ⟨b, 7, none⟩) HF.out.2.1.1.lt).trans HC.2.2⟩
            have HN3 := Lib.hid (And.intro hb3 (And.intro hn3 ho3))
            clear hb3 hn3 ho3 hw3
            refine ⟨HC, ?_⟩
            refine WZ.done (by kernel_rfl) ?_ _
            simp only [Calm, Exit.then]
            clear HC
            gi_wp2
            have hsz3 : W11.heap.size ≤ w3.heap.size := HN3.out.1.size
            have hlo3 := HN3.out.2.2.lt
            refine wpIn_flow (F := Fence.wide) (n := n) rfl rfl (gf := 36) (lb := #[.pointer (some ⟨W11.heap.size, 0, none⟩), .pointer (some ⟨W11.heap.size + 1, 0, none⟩)]) rfl trivial (enters_of Try.func36 (by kernel_rfl) rfl) (fun _ => rfl)
              (HI.out.2 (n - 1) W11.heap.size (W11.heap.size + 1) w3 (fun j hj => (HN3.out.1.block j (by have := HF.out.2.2.2.2.2.2; have := HC0.out.nle; omega)).trans (HF.out.1 j hj)) (by have := HF.out.2.2.2.2.2.2; have := HC0.out.nle; omega) (Tr.In.keep HF.out.2.1.2.2 (fun j hj => HN3.out.1.block j (HF.out.2.1.2.2.lt j hj))) (fun j hj => HC0.out.lt j (by simp [Tr.blocks, hj])) HN3.out.2.1 HN3.out.2.2)
              (by have := HF.out.2.2.2.2.2.2; have := HC0.out.nle; omega) (by intro k hk; simp only [List.mem_cons, List.not_mem_nil, or_false] at hk; omega)
              (fun pre own1 Wx => J ((([] : List Cl) ++ [d]) ++ pre) own1 Wx ∧ Mv own own1 W1 Wx) ?hI own11 ?how ?h0 ?hround ?hdone
            case hI =>
              rintro pre own1 X Y ⟨hj, hm⟩ hs
              exact ⟨HX.out.1 _ _ _ _ hj (hs.mono (by have := HF.out.2.2.2.2.2.2; omega)), hm.still hs (by have := HS11.out.2.size; omega)⟩
            case how => exact fun j hj => ⟨(HF.out.2.2.2.2.2.1 j hj).1, by have := (HF.out.2.2.2.2.2.1 j hj).2; simp only [List.mem_cons, List.not_mem_nil, or_false, not_or]; omega, by have := (HF.out.2.2.2.2.2.1 j hj).2; omega⟩
            case h0 => exact ⟨by rw [List.append_nil]; exact HX.out.1 _ _ _ _ HS11.out.1 (Still.of_below HN3.out.1), HS11.out.2.trans (Mv.of_below HN3.out.1 HS11.out.2.lies)⟩
            case hround =>
              rintro r pre x own1 Wx hr ⟨hj, hm⟩ hin hpre
              have HR := Lib.hid (And.intro hr hpre)
              clear hr hj hm hin hpre
              gi_wp2
              refine ⟨(Below.refl _ _).alloc (Nat.le_refl _) _, ?_⟩
              intro W2 hT hI2
              have hb2 : CBox W2 Wx.heap.size x := (CBox.new Wx x).keep (hT.block _ (by have := HR.out.1; omega))
              have hy2 := (HC0.out.at_ hI2.2).2.2.2.2.1.cell
              obtain ⟨z, hz⟩ := HR.out.2
              obtain ⟨fn, tmps, assign, body, hyr, hR⟩ := anyDepth (n - 1 - 1 - 1) r (HX.out.2 ((([] : List Cl) ++ [d]) ++ pre) x own1 W2 hI2.1 ⟨z ++ (([] : List Cl)), by rw [HSE.out, ← hz]; simp⟩)
              obtain ⟨q0, q1, q2, q3, q4, q5⟩ := hb2.cells
              have HI2 := Lib.hid hI2
              clear hb2 hI2 hT hz
              gi_wp2
              refine ⟨fun h => (by cases h), ?_⟩
              refine hR.mono ?_
              rintro e W3 ⟨rfl, own2, hj3, hm3⟩
              gi_wp2
              exact ⟨own2, ⟨by simpa using hj3, HI2.out.2.trans hm3⟩, hm3⟩
            case hdone =>
              rintro D12 own12 Wd12 ⟨hj, hm⟩ hmv hD1 hD2 hD3 hD4
              have HS12 := Lib.hid (And.intro hj hm)
              have HD12 : Hid (D12 < Wd12.heap.size ∧ D12 ∉ own12 ∧ Wd12.heap[D12]? = some (.deferred (some [])) ∧ W.heap.size ≤ D12) := Lib.hid ⟨hD2, hD3, hD4, by have := HF.out.2.2.2.2.2.2; omega⟩
              clear hj hm hmv hD1 hD2 hD3 hD4 HF HN3
              have HE := Lib.hid HSE.out
              gi_wp2
              refine ⟨by simp, .inl ⟨_, _, rfl, run_takeDeferred HD12.out.2.2.1, ?_⟩⟩
              exact ⟨_, results_none rfl _ _ _, ⟨_, rfl⟩, own12, by rw [HSE.out]; simpa using HX.out.1 _ _ _ _ HS12.out.1 (Still.putObj _ _ HD12.out.2.2.2 HD12.out.2.1), (HM1.out.trans HS12.out.2).putObj _ HD12.out.2.2.2⟩
        | false =>
          have HSE : Hid ((Tr.node b lv tl d tr).seen lo he hi = ([] : List Cl) ++ ([d] ++ ([] : List Cl))) := Lib.hid (by simp [Tr.seen, hlo, hhe, hhi])

          gi_wp2
          have hF := HC0.out.at_ HS0.out.2
          have HF := Lib.hid hF
          have hy2 : w2.drew.cell? ⟨W.heap.size, 0, none⟩ = some (.func (.yield l) #[] #[]) := hF.2.2.2.2.1.cell
          have hn2 : w2.drew.cell? ⟨Bn, 0, none⟩ = some (.pointer (some ⟨b, 0, none⟩)) := hF.2.2.1.cell
          obtain ⟨q0, q1, q2, q3, q4, q5, q6, q7, q8⟩ := (Tr.In.drew hF.2.1).1.at_
          clear hF q6 q7 q8
          obtain ⟨fn, tmps, assign, body, hyr, hR⟩ := anyDepth' (n - 1) (HX.out.2 ([] : List Cl) d own w2.drew (HX.out.1 _ _ _ _ HS0.out.1 ⟨rfl, rfl, rfl, Nat.le_refl _, fun _ _ _ => rfl⟩) ⟨([] : List Cl), by rw [HSE.out]; simp⟩)
          have mixed : Try.prog.follows Departure.mixedOrders = true := by kernel_rfl
          refine region_calm_in ?_
          gi_region_with_o ((try refine ⟨fun h => (by cases h), ?_⟩); refine hR.mono ?_; rintro e W13 ⟨rfl, own13, hj13, hm13⟩)
          all_goals
            simp only [Calm, Exit.then]
            have HS13 := Lib.hid (And.intro hj13 (HS0.out.2.trans (Mv.drew' hm13)))
            clear hj13 hm13 hy2 hn2 q0 q1 q2 q3 q4 q5 HF hyr hR

            have HE := Lib.hid HSE.out
            gi_wp2
            exact ⟨_, results_none rfl _ _ _, ⟨_, rfl⟩, own13, by rw [HSE.out]; simpa using HS13.out.1, HM1.out.trans HS13.out.2⟩
      | false =>
        cases hhi : hi d.row with
        | true =>
          have HSE : Hid ((Tr.node b lv tl d tr).seen lo he hi = ([] : List Cl) ++ (([] : List Cl) ++ tr.seen lo he hi)) := Lib.hid (by simp [Tr.seen, hlo, hhe, hhi])

          gi_wp2
          refine wpIn_wide.2 ?_
          go_quiet (fail)
          have HS14 := Lib.hid (And.intro (HX.out.1 _ _ _ _ HS0.out.1 (⟨rfl, rfl, rfl, Nat.le_refl _, fun _ _ _ => rfl⟩ : Still W.heap.size own w2 (w2.drewN nq))) (HS0.out.2.drewN nq))
          obtain ⟨Wq14, hWq14⟩ : ∃ Wq, w2.drewN nq = Wq := ⟨_, rfl⟩
          rw [hWq14] at HS14  ⊢
          clear hWq14

          gi_wp2
          refine wpIn_wide.2 ?_
          have hF := HC0.out.at_ HS14.out.2
          have HC : Wq14.drew.cell? ⟨Bo, 0, none⟩ = some (.func (.func 25) #[] #[.pointer (some ⟨g, 0, none⟩), .pointer (some ⟨k, 0, none⟩)]) ∧ Wq14.drew.cell? ⟨Bn, 0, none⟩ = some (.pointer (some ⟨b, 0, none⟩)) ∧ Wq14.drew.cell? ⟨b, 7, none⟩ = some (.pointer tr.ptr) := ⟨hF.2.2.2.1.cell, hF.2.2.1.cell, hF.2.1.1.at_.2.2.2.2.2.2.2.1⟩
          have HF := Lib.hid hF
          clear hF
          refine region_wz (fun W' => W'.cell? ⟨Bo, 0, none⟩ = some (.func (.func 25) #[] #[.pointer (some ⟨g, 0, none⟩), .pointer (some ⟨k, 0, none⟩)]) ∧ W'.cell? ⟨Bn, 0, none⟩ = some (.pointer (some ⟨b, 0, none⟩)) ∧ W'.cell? ⟨b, 7, none⟩ = some (.pointer tr.ptr)) none (by kernel_rfl) ?_
          apply WZ.take (i := 0) (some 45) rfl rfl (by kernel_rfl) (by kernel_rfl) (by kernel_rfl) (calm_panic _) (by kernel_rfl)
          case hy => (refine .inl ⟨by kernel_rfl, fun W hC => ?_⟩; (try dsimp only at hC); go_simp; rfl)
          case hC => exact HC
          case ha => (simp only [Act.put, List.setIfInBounds_toArray, List.set_cons_zero, List.set_cons_succ]; rfl)
          apply WZ.take (i := 1) (some 46) rfl rfl (by kernel_rfl) (by kernel_rfl) (by kernel_rfl) (calm_panic _) (by kernel_rfl)
          case hy => (refine .inl ⟨by kernel_rfl, fun W hC => ?_⟩; (try dsimp only at hC); go_simp; rfl)
          case hC => exact HC
          case ha => (simp only [Act.put, List.setIfInBounds_toArray, List.set_cons_zero, List.set_cons_succ]; rfl)
          apply WZ.take (i := 2) (some 47) rfl rfl (by kernel_rfl) (by kernel_rfl) (by kernel_rfl) (calm_panic _) (by kernel_rfl)
          case hy => (refine .inl ⟨by kernel_rfl, fun W hC => ?_⟩; (try dsimp only at hC); go_simp; rfl)
          case hC => exact HC
          case ha => (simp only [Act.put, List.setIfInBounds_toArray, List.set_cons_zero, List.set_cons_succ]; rfl)
          apply WZ.take (i := 3) (some 48) rfl rfl (by kernel_rfl) (by kernel_rfl) (by kernel_rfl) (calm_panic _) (by kernel_rfl)
          case hy => (refine .inl ⟨by kernel_rfl, fun W hC => ?_⟩; (try dsimp only at hC); go_simp; rfl)
          case hC => exact HC
          case ha => (simp only [Act.put, List.setIfInBounds_toArray, List.set_cons_zero, List.set_cons_succ]; rfl)
          apply WZ.take (i := 4) (some 49) rfl rfl (by kernel_rfl) (by kernel_rfl) (by kernel_rfl) (calm_panic _) (by kernel_rfl)
          case hy => (refine .inl ⟨by kernel_rfl, fun W hC => ?_⟩; (try dsimp only at hC); go_simp; rfl)
          case hC => exact HC
          case ha => (simp only [Act.put, List.setIfInBounds_toArray, List.set_cons_zero, List.set_cons_succ]; rfl)
          -- 5
          refine WZ.one (i := 5) rfl (by kernel_rfl) ?_
          conv => arg 4; arg 1; whnf
          go_wp2_with (go_at_call 24; refine (all_anyS tr.ptr g k _).mono ?_; rintro e w3 ⟨rfl, hw3⟩)
          have hb3 : Below Wq14.heap.size Wq14 w3 := by rw [← hw3]; exact ((Below.refl Wq14.heap.size Wq14).drew.alloc (Nat.le_refl _) _).alloc (by rw [World.size_alloc]; exact Nat.le_succ _) _
          have hn3 : Box w3 Wq14.heap.size 43 (.pointer tr.ptr) := by rw [← hw3]; exact (Box.new Wq14.drew _ _).alloc _
          have ho3 : Box w3 (Wq14.heap.size + 1) 56 (.func (.func 25) #[] #[.pointer (some ⟨g, 0, none⟩), .pointer (some ⟨k, 0, none⟩)]) := by
            rw [← hw3]
            have := Box.new (Wq14.drew.alloc (.cells #[.pointer tr.ptr] 43)) 56 (.func (.func 25) #[] #[.pointer (some ⟨g, 0, none⟩), .pointer (some ⟨k, 0, none⟩)])
            rwa [World.size_alloc] at this
          have HC : w3.cell? ⟨Bo, 0, none⟩ = some (.func (.func 25) #[] #[.pointer (some ⟨g, 0, none⟩), .pointer (some ⟨k, 0, none⟩)]) ∧ w3.cell? ⟨Bn, 0, none⟩ = some (.pointer (some ⟨b, 0, none⟩)) ∧ w3.cell? ⟨b, 7, none⟩ = some (.pointer tr.ptr) := ⟨(hb3.cell (p := ⟨Bo, 0, none⟩) HF.out.2.2.2.1.lt).trans HC.1, (hb3.cell (p := ⟨Bn, 0, none⟩) HF.out.2.2.1.lt).trans HC.2.1, (hb3.cell (p := ⟨b, 7, none⟩) HF.out.2.1.1.lt).trans HC.2.2⟩
          have HN3 := Lib.hid (And.intro hb3 (And.intro hn3 ho3))
          clear hb3 hn3 ho3 hw3
          refine ⟨HC, ?_⟩
          refine WZ.done (by kernel_rfl) ?_ _
          simp only [Calm, Exit.then]
          clear HC
          gi_wp2
          have hsz3 : Wq14.heap.size ≤ w3.heap.size := HN3.out.1.size
          have hlo3 := HN3.out.2.2.lt
          refine wpIn_flow (F := Fence.wide) (n := n) rfl rfl (gf := 36) (lb := #[.pointer (some ⟨Wq14.heap.size, 0, none⟩), .pointer (some ⟨Wq14.heap.size + 1, 0, none⟩)]) rfl trivial (enters_of Try.func36 (by kernel_rfl) rfl) (fun _ => rfl)
            (HI.out.2 (n - 1) Wq14.heap.size (Wq14.heap.size + 1) w3 (fun j hj => (HN3.out.1.block j (by have := HF.out.2.2.2.2.2.2; have := HC0.out.nle; omega)).trans (HF.out.1 j hj)) (by have := HF.out.2.2.2.2.2.2; have := HC0.out.nle; omega) (Tr.In.keep HF.out.2.1.2.2 (fun j hj => HN3.out.1.block j (HF.out.2.1.2.2.lt j hj))) (fun j hj => HC0.out.lt j (by simp [Tr.blocks, hj])) HN3.out.2.1 HN3.out.2.2)
            (by have := HF.out.2.2.2.2.2.2; have := HC0.out.nle; omega) (by intro k hk; simp only [List.mem_cons, List.not_mem_nil, or_false] at hk; omega)
            (fun pre own1 Wx => J (([] : List Cl) ++ pre) own1 Wx ∧ Mv own own1 W1 Wx) ?hI own ?how ?h0 ?hround ?hdone
          case hI =>
            rintro pre own1 X Y ⟨hj, hm⟩ hs
            exact ⟨HX.out.1 _ _ _ _ hj (hs.mono (by have := HF.out.2.2.2.2.2.2; omega)), hm.still hs (by have := HS14.out.2.size; omega)⟩
          case how => exact fun j hj => ⟨(HF.out.2.2.2.2.2.1 j hj).1, by have := (HF.out.2.2.2.2.2.1 j hj).2; simp only [List.mem_cons, List.not_mem_nil, or_false, not_or]; omega, by have := (HF.out.2.2.2.2.2.1 j hj).2; omega⟩
          case h0 => exact ⟨by rw [List.append_nil]; exact HX.out.1 _ _ _ _ HS14.out.1 (Still.of_below HN3.out.1), HS14.out.2.trans (Mv.of_below HN3.out.1 HS14.out.2.lies)⟩
          case hround =>
            rintro r pre x own1 Wx hr ⟨hj, hm⟩ hin hpre
            have HR := Lib.hid (And.intro hr hpre)
            clear hr hj hm hin hpre
            gi_wp2
            refine ⟨(Below.refl _ _).alloc (Nat.le_refl _) _, ?_⟩
            intro W2 hT hI2
            have hb2 : CBox W2 Wx.heap.size x := (CBox.new Wx x).keep (hT.block _ (by have := HR.out.1; omega))
            have hy2 := (HC0.out.at_ hI2.2).2.2.2.2.1.cell
            obtain ⟨z, hz⟩ := HR.out.2
            obtain ⟨fn, tmps, assign, body, hyr, hR⟩ := anyDepth (n - 1 - 1 - 1) r (HX.out.2 (([] : List Cl) ++ pre) x own1 W2 hI2.1 ⟨z ++ (([] : List Cl)), by rw [HSE.out, ← hz]; simp⟩)
            obtain ⟨q0, q1, q2, q3, q4, q5⟩ := hb2.cells
            have HI2 := Lib.hid hI2
            clear hb2 hI2 hT hz
            gi_wp2
            refine ⟨fun h => (by cases h), ?_⟩
            refine hR.mono ?_
            rintro e W3 ⟨rfl, own2, hj3, hm3⟩
            gi_wp2
            exact ⟨own2, ⟨by simpa using hj3, HI2.out.2.trans hm3⟩, hm3⟩
          case hdone =>
            rintro D15 own15 Wd15 ⟨hj, hm⟩ hmv hD1 hD2 hD3 hD4
            have HS15 := Lib.hid (And.intro hj hm)
            have HD15 : Hid (D15 < Wd15.heap.size ∧ D15 ∉ own15 ∧ Wd15.heap[D15]? = some (.deferred (some [])) ∧ W.heap.size ≤ D15) := Lib.hid ⟨hD2, hD3, hD4, by have := HF.out.2.2.2.2.2.2; omega⟩
            clear hj hm hmv hD1 hD2 hD3 hD4 HF HN3
            have HE := Lib.hid HSE.out
            gi_wp2
            refine ⟨by simp, .inl ⟨_, _, rfl, run_takeDeferred HD15.out.2.2.1, ?_⟩⟩
            exact ⟨_, results_none rfl _ _ _, ⟨_, rfl⟩, own15, by rw [HSE.out]; simpa using HX.out.1 _ _ _ _ HS15.out.1 (Still.putObj _ _ HD15.out.2.2.2 HD15.out.2.1), (HM1.out.trans HS15.out.2).putObj _ HD15.out.2.2.2⟩
        | false =>
          have HSE : Hid ((Tr.node b lv tl d tr).seen lo he hi = ([] : List Cl) ++ (([] : List Cl) ++ ([] : List Cl))) := Lib.hid (by simp [Tr.seen, hlo, hhe, hhi])

          gi_wp2
          refine wpIn_wide.2 ?_
          go_quiet (fail)
          have HS16 := Lib.hid (And.intro (HX.out.1 _ _ _ _ HS0.out.1 (⟨rfl, rfl, rfl, Nat.le_refl _, fun _ _ _ => rfl⟩ : Still W.heap.size own w2 (w2.drewN nq))) (HS0.out.2.drewN nq))
          obtain ⟨Wq16, hWq16⟩ : ∃ Wq, w2.drewN nq = Wq := ⟨_, rfl⟩
          rw [hWq16] at HS16  ⊢
          clear hWq16

          have HE := Lib.hid HSE.out
          gi_wp2
          exact ⟨_, results_none rfl _ _ _, ⟨_, rfl⟩, own, by rw [HSE.out]; simpa using HS16.out.1, HM1.out.trans HS16.out.2⟩
end Go.Proofs.Ytijicefakfpdcaa

