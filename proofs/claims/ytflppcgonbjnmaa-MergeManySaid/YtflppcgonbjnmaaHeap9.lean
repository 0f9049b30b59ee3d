/-
  The walks of the sources' methods: first, Len, Less, Swap. No conditions.
-/
import Derived.Test.YtflppcgonbjnmaaJN
import Derived.Test.YtflppcgonbjnmaaJE
namespace Go.Proofs.Ytflppcgonbjnmaa
open Go.RowKit
attribute [local go_sem ↓] Go.wp_at_zero Go.wp_at_succ

/-- a source in memory: the block of its queue, its number, its first, the others -/
structure Qs where
  q : Nat
  at_ : Nat
  x : It
  r : List It
def Qs.src (s : Qs) : Src It := ⟨s.at_, s.x, s.r⟩
def Qs.vals (s : Qs) : List Value := [.pointer (some ⟨s.q, 0, none⟩), .int .i64 s.at_]
theorem Qs.vals_len (s : Qs) : s.vals.length = 2 := rfl
theorem Qs.one (s : Qs) : ∀ v ∈ s.vals, v.oneCell' = true := by
  intro v hv
  simp only [Qs.vals, List.mem_cons, List.not_mem_nil, or_false] at hv
  rcases hv with rfl | rfl <;> rfl
abbrev qvs (l : List Qs) : List Value := l.flatMap Qs.vals
def ltQ (s t : Qs) : Bool := srcL It.cmp s.src t.src
/-- a queue in memory: what is left of its list, whose items lie below B -/
def QBox (w : World) (B q : Nat) (l : List It) : Prop := ∃ (A : Option Addr) (c : Nat), Box w q 76 (.slice A l.length c) ∧ Rd w B A (its l) ∧ l.length ≤ c ∧ B ≤ q
theorem QBox.lt {w : World} {B q : Nat} {l : List It} (h : QBox w B q l) : B ≤ q ∧ q < w.heap.size := by
  obtain ⟨A, c, h1, h2, h3, h4⟩ := h
  exact ⟨h4, h1.lt⟩
theorem QBox.below {w w' : World} {B q : Nat} {l : List It} (h : QBox w B q l) (hb : Below w.heap.size w w') : QBox w' B q l := by
  obtain ⟨A, c, h1, h2, h3, h4⟩ := h
  have := h1.lt
  exact ⟨A, c, h1.below hb h1.lt, h2.below (hb.mono (by omega)), h3, h4⟩
theorem QBox.grown {w w' : World} {B q : Nat} {l : List It} (h : QBox w B q l) {g : Nat} (hg : w.grownBy w' (some g)) (hne : q ≠ g) (hB : B ≤ g) : QBox w' B q l := by
  obtain ⟨A, c, h1, h2, h3, h4⟩ := h
  have := h1.lt
  exact ⟨A, c, h1.grown hg (fun e => by injection e with e; exact hne e), h2.grown hg (by omega) (fun k hk => by injection hk with hk; omega), h3, h4⟩
def Qs.In (w : World) (B : Nat) (s : Qs) : Prop := QBox w B s.q (s.x :: s.r)
theorem Rd.q_range {w : World} {b o : Nat} {l : List Qs} (hc : ∀ j (h : j < (qvs l).length), w.cell? ⟨b, o + j, none⟩ = some (qvs l)[j]) (k : Nat) (hk : k < l.length) : w.cell? ⟨b, o + k * 2, none⟩ = some (.pointer (some ⟨l[k].q, 0, none⟩)) ∧ w.cell? ⟨b, o + k * 2 + 1, none⟩ = some (.int .i64 l[k].at_) := by
  have hl : (qvs l).length = l.length * 2 := encs_length Qs.vals_len l
  have g := fun j v (hv : (l[k].vals)[j]? = some v) => encs_get Qs.vals_len l k j hk v hv
  have f0 := g 0 _ rfl
  have f1 := g 1 _ rfl
  obtain ⟨h0, e0⟩ := List.getElem?_eq_some_iff.1 f0
  obtain ⟨h1, e1⟩ := List.getElem?_eq_some_iff.1 f1
  have c0 := hc _ h0
  have c1 := hc _ h1
  rw [e0] at c0
  rw [e1] at c1
  exact ⟨c0, by rw [Nat.add_assoc]; exact c1⟩

/-- a variable that holds an item -/
def IBox (w : World) (g : Nat) (x : It) : Prop := w.heap[g]? = some (.cells #[.string x.c.row, .string x.c.col, .int .u64 x.c.ts, .int .u64 x.c.seq, .bool x.c.del, .string x.c.val, .int .i64 x.pos] 59 (0, 0))
theorem IBox.lt {w : World} {g : Nat} {x : It} (h : IBox w g x) : g < w.heap.size := (Array.getElem?_eq_some_iff.1 h).1
theorem IBox.below {w w' : World} {g B : Nat} {x : It} (h : IBox w g x) (hb : Below B w w') (hg : g < B) : IBox w' g x := (hb.block g hg).trans h
theorem IBox.range {w : World} {g : Nat} {x : It} (h : IBox w g x) : w.rangeAt g 0 x.vals := fun j v hv => by
  rw [Nat.zero_add, cell_of_row w g j _ _ (0, 0) h, ← Array.getElem?_toList]
  exact hv
set_option maxHeartbeats 4000000 in
theorem IBox.madeW (w : World) (v0 v1 v2 v3 v4 v5 v6 : Value) (x : It) {M : World → Prop} (hM : ∀ w1, Hid (IBox w1 w.heap.size x) → Hid (Below w.heap.size w w1) → M w1) :
    M ((w.alloc (.cells #[v0, v1, v2, v3, v4, v5, v6] 59)).setCells w.heap.size 0 x.vals.toArray.toList) := by
  have h := heap_alloc_new w (.cells #[v0, v1, v2, v3, v4, v5, v6] 59)
  have hg := (setCells_block _ _ x.vals.toArray.toList 0 _ _ h).2
  have h1 := heap_setCell_same _ _ 0 _ _ (.string x.c.row) h
  have h2 := heap_setCell_same _ _ 1 _ _ (.string x.c.col) h1
  have h3 := heap_setCell_same _ _ 2 _ _ (.int .u64 x.c.ts) h2
  have h4 := heap_setCell_same _ _ 3 _ _ (.int .u64 x.c.seq) h3
  have h5 := heap_setCell_same _ _ 4 _ _ (.bool x.c.del) h4
  have h6 := heap_setCell_same _ _ 5 _ _ (.string x.c.val) h5
  have h7 := heap_setCell_same _ _ 6 _ _ (.int .i64 x.pos) h6
  exact hM _ (Lib.hid h7) (Lib.hid (below_grown ((Below.refl _ w).alloc (Nat.le_refl _) _) (by rw [World.size_alloc]; omega) hg (Nat.le_refl _)))
theorem there_made7 (w : World) (v0 v1 v2 v3 v4 v5 v6 : Value) : (w.alloc (.cells #[v0, v1, v2, v3, v4, v5, v6] 59)).there w.heap.size 0 7 := fun j hj => by
  have h := heap_alloc_new w (.cells #[v0, v1, v2, v3, v4, v5, v6] 59)
  refine ⟨?_, frozen_of_row _ _ _ _ _ h⟩
  rw [Nat.zero_add, cell_of_row _ _ _ _ _ (0, 0) h, Array.getElem?_eq_getElem (by simpa using hj)]
  rfl
set_option maxHeartbeats 2000000 in
theorem first_any (B q : Nat) (x : It) (r : List It) (w : World) (h : QBox w B q (x :: r)) :
    Calls Try.prog 35 #[.pointer (some ⟨q, 0, none⟩)] w fun e w' => e = .returned x.agg ∧ Below w.heap.size w w' := by
  have hal := (Below.refl w.heap.size w).alloc (Nat.le_refl _) (.cells #[.string ⟨#[]⟩, .string ⟨#[]⟩, .int .u64 0, .int .u64 0, .bool false, .string ⟨#[]⟩, .int .i64 0] 59)
  obtain ⟨A, c, h1, h2, h3, -⟩ := h.below hal
  obtain ⟨b, o, rfl, hb, hc⟩ := h2.at_ (its_ne (k := 0) (by simp))
  have hr := Rd.it_range (l := x :: r) hc 0 (by simp)
  rw [Nat.zero_mul, Nat.add_zero] at hr
  have hr : World.rangeAt _ b o x.vals := hr
  have c0 := h1.cell
  rw [List.length_cons] at c0
  have k1 : (0 : Int) < ((r.length + 1 : Nat) : Int) := by omega
  have HR := Lib.hid hr
  clear hc hr h1 h2 h h3 hb hal
  go_enter Try.func35, Try.ntmps35
  go_wp2_with (first
    | (show wpList _ _ _ ({ dst := some 8, op := Op.load _ _, type := _, pos := _, after := _, guard := _ } :: _) _ _; refine wpList_load_mid rfl 59 (.tmp 7) rfl b o rfl x.vals _ HR.out Try.underlying59 rfl (by kernel_rfl) ?_)
    | (show wpList _ _ _ ({ dst := none, op := Op.store _ _ _, type := _, pos := _, after := _, guard := _ } :: _) _ _; refine wpList_store_mid rfl 59 (.tmp 2) (.tmp 8) rfl w.heap.size 0 x.vals.toArray rfl rfl (there_made7 _ _ _ _ _ _ _ _) (by kernel_rfl) (all_oneCell_toArray (It.one x)) ?_; refine IBox.madeW w _ _ _ _ _ _ _ x ?_; intro w1 HI HB))
  (try simp only [Exit.inBlock, Exit.then])
  refine bodyPost_ret (results_cell_row rfl _ _ w.heap.size _ _ _ _ rfl HI.out Try.underlying59 rfl (by kernel_rfl)) rfl ?_
  exact ⟨rfl, HB.out⟩

theorem qvs_ne {l : List Qs} {k : Nat} (h : k < l.length) : qvs l ≠ [] := fun e => by
  have := encs_length Qs.vals_len l
  rw [show l.flatMap Qs.vals = qvs l from rfl, e] at this
  simp at this
  omega
theorem ltQ_eq (s t : Qs) : ltQ s t = (decide (s.x.cmp t.x < 0) || ((s.x.cmp t.x == 0) && decide ((s.at_ : Int) < t.at_))) := by
  unfold ltQ srcL srcC Qs.src
  simp only
  by_cases h : s.x.cmp t.x = 0
  · rw [if_pos h, h]
    simp
    omega
  · rw [if_neg h]
    simp [h]
set_option maxRecDepth 20000 in
set_option maxHeartbeats 4000000 in
theorem less_any (B : Nat) (A : Option Addr) (n c i j : Nat) (l : List Qs) (w : World) (hl : Rd w w.heap.size A (qvs l)) (hn : l.length = n) (hi : i < l.length) (hj : j < l.length) (hin : ∀ s ∈ l, s.In w B) (_hmx : n ≤ 1000000) :
    Calls Try.prog 87 #[.slice A n c, .int .i64 i, .int .i64 j] w fun e w' => e = .returned (.bool (ltQ l[i] l[j])) ∧ Below w.heap.size w w' := by
  obtain ⟨b, o, rfl, hb, hc⟩ := hl.at_ (qvs_ne hi)
  obtain ⟨p0, p1⟩ := Rd.q_range hc i hi
  obtain ⟨q0, q1⟩ := Rd.q_range hc j hj
  have hqi := hin _ (List.getElem_mem hi)
  have hqj := hin _ (List.getElem_mem hj)
  obtain ⟨si, hsi⟩ : ∃ s, l[i] = s := ⟨_, rfl⟩
  obtain ⟨sj, hsj⟩ : ∃ s, l[j] = s := ⟨_, rfl⟩
  rw [hsi] at p0 p1 hqi
  rw [hsj] at q0 q1 hqj
  rw [hsi, hsj]
  have HQI := Lib.hid (show QBox w B si.q (si.x :: si.r) from hqi)
  have HQJ := Lib.hid (show QBox w B sj.q (sj.x :: sj.r) from hqj)
  have k1 : (0 : Int) ≤ (i : Int) := by omega
  have k2 : (i : Int) < (n : Int) := by omega
  have k3 : (0 : Int) ≤ (j : Int) := by omega
  have k4 : (j : Int) < (n : Int) := by omega
  obtain ⟨CC, hCD⟩ : ∃ CC : World → Prop, ∀ W, CC W ↔ Below w.heap.size w W := ⟨fun W => Below w.heap.size w W, fun W => Iff.rfl⟩
  have hmk : ∀ W, Below w.heap.size w W → (fun W => W.cell? ⟨b, o + i * 2, none⟩ = some (.pointer (some ⟨si.q, 0, none⟩)) ∧ W.cell? ⟨b, o + i * 2 + 1, none⟩ = some (.int .i64 si.at_) ∧ W.cell? ⟨b, o + j * 2, none⟩ = some (.pointer (some ⟨sj.q, 0, none⟩)) ∧ W.cell? ⟨b, o + j * 2 + 1, none⟩ = some (.int .i64 sj.at_) ∧ CC W) W := fun W h => ⟨(h.cell (p := ⟨b, o + i * 2, none⟩) hb).trans p0, (h.cell (p := ⟨b, o + i * 2 + 1, none⟩) hb).trans p1, (h.cell (p := ⟨b, o + j * 2, none⟩) hb).trans q0, (h.cell (p := ⟨b, o + j * 2 + 1, none⟩) hb).trans q1, (hCD W).2 h⟩
  have HBZ := Lib.hid ((Below.refl w.heap.size w).drew)
  have HC := hmk _ HBZ.out
  have HMK := Lib.hid hmk
  clear hc hqi hqj hsi hsj hl p0 p1 q0 q1
  go_enter Try.func87, Try.ntmps87
  go_wp2
  refine region_wz (fun W => W.cell? ⟨b, o + i * 2, none⟩ = some (.pointer (some ⟨si.q, 0, none⟩)) ∧ W.cell? ⟨b, o + i * 2 + 1, none⟩ = some (.int .i64 si.at_) ∧ W.cell? ⟨b, o + j * 2, none⟩ = some (.pointer (some ⟨sj.q, 0, none⟩)) ∧ W.cell? ⟨b, o + j * 2 + 1, none⟩ = some (.int .i64 sj.at_) ∧ CC W) none (by kernel_rfl) ?_
  apply WZ.take (i := 0) (some 8) rfl rfl (by kernel_rfl) (by kernel_rfl) (by kernel_rfl) (calm_panic _) (by kernel_rfl)
  case hy => (refine .inl ⟨by kernel_rfl, fun W hC => ?_⟩; (try dsimp only at hC); go_simp; rfl)
  case hC => exact HC
  case ha => (simp only [Act.put, List.setIfInBounds_toArray, List.set_cons_zero, List.set_cons_succ]; rfl)
  apply WZ.take (i := 1) (some 9) rfl rfl (by kernel_rfl) (by kernel_rfl) (by kernel_rfl) (calm_panic _) (by kernel_rfl)
  case hy => (refine .inl ⟨by kernel_rfl, fun W hC => ?_⟩; (try dsimp only at hC); go_simp; rfl)
  case hC => exact HC
  case ha => (simp only [Act.put, List.setIfInBounds_toArray, List.set_cons_zero, List.set_cons_succ]; rfl)
  apply WZ.take (i := 2) (some 10) rfl rfl (by kernel_rfl) (by kernel_rfl) (by kernel_rfl) (calm_panic _) (by kernel_rfl)
  case hy => (refine .inl ⟨by kernel_rfl, fun W hC => ?_⟩; (try dsimp only at hC); go_simp; rfl)
  case hC => exact HC
  case ha => (simp only [Act.put, List.setIfInBounds_toArray, List.set_cons_zero, List.set_cons_succ]; rfl)
  apply WZ.take (i := 3) (some 11) rfl rfl (by kernel_rfl) (by kernel_rfl) (by kernel_rfl) (calm_panic _) (by kernel_rfl)
  case hy => (refine .inl ⟨by kernel_rfl, fun W hC => ?_⟩; (try dsimp only at hC); go_simp; rfl)
  case hC => exact HC
  case ha => (simp only [Act.put, List.setIfInBounds_toArray, List.set_cons_zero, List.set_cons_succ]; rfl)
  apply WZ.take (i := 4) (some 12) rfl rfl (by kernel_rfl) (by kernel_rfl) (by kernel_rfl) (calm_panic _) (by kernel_rfl)
  case hy => (refine .inl ⟨by kernel_rfl, fun W hC => ?_⟩; (try dsimp only at hC); go_simp; rfl)
  case hC => exact HC
  case ha => (simp only [Act.put, List.setIfInBounds_toArray, List.set_cons_zero, List.set_cons_succ]; rfl)
  apply WZ.take (i := 6) (some 14) rfl rfl (by kernel_rfl) (by kernel_rfl) (by kernel_rfl) (calm_panic _) (by kernel_rfl)
  case hy => (refine .inl ⟨by kernel_rfl, fun W hC => ?_⟩; (try dsimp only at hC); go_simp; rfl)
  case hC => exact HC
  case ha => (simp only [Act.put, List.setIfInBounds_toArray, List.set_cons_zero, List.set_cons_succ]; rfl)
  apply WZ.take (i := 7) (some 15) rfl rfl (by kernel_rfl) (by kernel_rfl) (by kernel_rfl) (calm_panic _) (by kernel_rfl)
  case hy => (refine .inl ⟨by kernel_rfl, fun W hC => ?_⟩; (try dsimp only at hC); go_simp; rfl)
  case hC => exact HC
  case ha => (simp only [Act.put, List.setIfInBounds_toArray, List.set_cons_zero, List.set_cons_succ]; rfl)
  apply WZ.take (i := 8) (some 16) rfl rfl (by kernel_rfl) (by kernel_rfl) (by kernel_rfl) (calm_panic _) (by kernel_rfl)
  case hy => (refine .inl ⟨by kernel_rfl, fun W hC => ?_⟩; (try dsimp only at hC); go_simp; rfl)
  case hC => exact HC
  case ha => (simp only [Act.put, List.setIfInBounds_toArray, List.set_cons_zero, List.set_cons_succ]; rfl)
  apply WZ.take (i := 9) (some 17) rfl rfl (by kernel_rfl) (by kernel_rfl) (by kernel_rfl) (calm_panic _) (by kernel_rfl)
  case hy => (refine .inl ⟨by kernel_rfl, fun W hC => ?_⟩; (try dsimp only at hC); go_simp; rfl)
  case hC => exact HC
  case ha => (simp only [Act.put, List.setIfInBounds_toArray, List.set_cons_zero, List.set_cons_succ]; rfl)
  apply WZ.take (i := 10) (some 18) rfl rfl (by kernel_rfl) (by kernel_rfl) (by kernel_rfl) (calm_panic _) (by kernel_rfl)
  case hy => (refine .inl ⟨by kernel_rfl, fun W hC => ?_⟩; (try dsimp only at hC); go_simp; rfl)
  case hC => exact HC
  case ha => (simp only [Act.put, List.setIfInBounds_toArray, List.set_cons_zero, List.set_cons_succ]; rfl)
  -- 5
  refine WZ.one (i := 5) rfl (by kernel_rfl) ?_
  conv => arg 4; arg 1; whnf
  go_wp2_with (go_at_call 35; refine (first_any B si.q si.x si.r _ (HQI.out.below HBZ.out)).mono ?_; rintro e w1 ⟨rfl, hb9⟩)
  have HBY := Lib.hid (HBZ.out.trans (hb9.mono HBZ.out.size))
  clear HBZ HC hb9
  have HBZ := HBY
  clear HBY
  have HC := hmk _ HBZ.out
  refine ⟨HC, ?_⟩
  -- 11
  refine WZ.one (i := 11) rfl (by kernel_rfl) ?_
  conv => arg 4; arg 1; whnf
  go_wp2_with (go_at_call 35; refine (first_any B sj.q sj.x sj.r _ (HQJ.out.below HBZ.out)).mono ?_; rintro e w2 ⟨rfl, hb9⟩)
  have HBY := Lib.hid (HBZ.out.trans (hb9.mono HBZ.out.size))
  clear HBZ HC hb9
  have HBZ := HBY
  clear HBY
  have HC := hmk _ HBZ.out
  refine ⟨HC, ?_⟩
  -- 12
  refine WZ.one (i := 12) rfl (by kernel_rfl) ?_
  conv => arg 4; arg 1; whnf
  go_wp2_with (go_at_call 91; refine (runsCmp_any si.x sj.x _).mono ?_; rintro e w3 ⟨rfl, hb9⟩)
  have HBY := Lib.hid (HBZ.out.trans (hb9.mono HBZ.out.size))
  clear HBZ HC hb9
  have HBZ := HBY
  clear HBY
  have HC := hmk _ HBZ.out
  refine ⟨HC, ?_⟩
  apply WZ.take (i := 13) (some 7) rfl rfl (by kernel_rfl) (by kernel_rfl) (by kernel_rfl) (calm_panic _) (by kernel_rfl)
  case hy => (refine .inl ⟨by kernel_rfl, fun W hC => ?_⟩; (try dsimp only at hC); go_simp; rfl)
  case hC => exact HC
  case ha => (simp only [Act.put, List.setIfInBounds_toArray, List.set_cons_zero, List.set_cons_succ]; rfl)
  refine WZ.done (by kernel_rfl) ?_ _
  simp only [Calm, Exit.then]
  have hq9 := ltQ_eq si sj
  obtain ⟨z, hz⟩ : ∃ z, si.x.cmp sj.x = z := ⟨_, rfl⟩
  rw [hz] at hq9
  have HQ9 := Lib.hid hq9
  rw [hz]
  have HBL := Lib.hid HBZ.out
  clear hq9 hz hmk HC
  have HC := HMK.out _ HBL.out.drew
  by_cases h1 : z < 0
  · have e1 : decide (z < 0) = true := decide_eq_true h1
    have hr : ltQ si sj = true := by rw [HQ9.out, e1]; rfl
    have HR := Lib.hid hr
    clear hr
    go_wp2
    refine region_wz (fun W => W.cell? ⟨b, o + i * 2, none⟩ = some (.pointer (some ⟨si.q, 0, none⟩)) ∧ W.cell? ⟨b, o + i * 2 + 1, none⟩ = some (.int .i64 si.at_) ∧ W.cell? ⟨b, o + j * 2, none⟩ = some (.pointer (some ⟨sj.q, 0, none⟩)) ∧ W.cell? ⟨b, o + j * 2 + 1, none⟩ = some (.int .i64 sj.at_) ∧ CC W) none (by kernel_rfl) ?_
    apply WZ.take (i := 0) (some 21) rfl rfl (by kernel_rfl) (by kernel_rfl) (by kernel_rfl) (calm_panic _) (by kernel_rfl)
    case hy => (refine .inl ⟨by kernel_rfl, fun W hC => ?_⟩; (try dsimp only at hC); go_simp; rfl)
    case hC => exact HC
    case ha => (simp only [Act.put, List.setIfInBounds_toArray, List.set_cons_zero, List.set_cons_succ]; rfl)
    apply WZ.take (i := 1) (some 22) rfl rfl (by kernel_rfl) (by kernel_rfl) (by kernel_rfl) (calm_panic _) (by kernel_rfl)
    case hy => (refine .inl ⟨by kernel_rfl, fun W hC => ?_⟩; (try dsimp only at hC); go_simp; rfl)
    case hC => exact HC
    case ha => (simp only [Act.put, List.setIfInBounds_toArray, List.set_cons_zero, List.set_cons_succ]; rfl)
    apply WZ.take (i := 2) (some 23) rfl rfl (by kernel_rfl) (by kernel_rfl) (by kernel_rfl) (calm_panic _) (by kernel_rfl)
    case hy => (refine .inl ⟨by kernel_rfl, fun W hC => ?_⟩; (try dsimp only at hC); go_simp; rfl)
    case hC => exact HC
    case ha => (simp only [Act.put, List.setIfInBounds_toArray, List.set_cons_zero, List.set_cons_succ]; rfl)
    apply WZ.take (i := 3) (some 24) rfl rfl (by kernel_rfl) (by kernel_rfl) (by kernel_rfl) (calm_panic _) (by kernel_rfl)
    case hy => exact .inr ⟨by kernel_rfl, rfl⟩
    case hC => exact HC
    case ha => (simp only [Act.put, List.setIfInBounds_toArray, List.set_cons_zero, List.set_cons_succ]; rfl)
    apply WZ.take (i := 4) (some 25) rfl rfl (by kernel_rfl) (by kernel_rfl) (by kernel_rfl) (calm_panic _) (by kernel_rfl)
    case hy => exact .inr ⟨by kernel_rfl, rfl⟩
    case hC => exact HC
    case ha => (simp only [Act.put, List.setIfInBounds_toArray, List.set_cons_zero, List.set_cons_succ]; rfl)
    apply WZ.take (i := 5) (some 26) rfl rfl (by kernel_rfl) (by kernel_rfl) (by kernel_rfl) (calm_panic _) (by kernel_rfl)
    case hy => exact .inr ⟨by kernel_rfl, rfl⟩
    case hC => exact HC
    case ha => (simp only [Act.put, List.setIfInBounds_toArray, List.set_cons_zero, List.set_cons_succ]; rfl)
    apply WZ.take (i := 6) (some 27) rfl rfl (by kernel_rfl) (by kernel_rfl) (by kernel_rfl) (calm_panic _) (by kernel_rfl)
    case hy => exact .inr ⟨by kernel_rfl, rfl⟩
    case hC => exact HC
    case ha => (simp only [Act.put, List.setIfInBounds_toArray, List.set_cons_zero, List.set_cons_succ]; rfl)
    apply WZ.take (i := 7) (some 28) rfl rfl (by kernel_rfl) (by kernel_rfl) (by kernel_rfl) (calm_panic _) (by kernel_rfl)
    case hy => exact .inr ⟨by kernel_rfl, rfl⟩
    case hC => exact HC
    case ha => (simp only [Act.put, List.setIfInBounds_toArray, List.set_cons_zero, List.set_cons_succ]; rfl)
    apply WZ.take (i := 8) (some 29) rfl rfl (by kernel_rfl) (by kernel_rfl) (by kernel_rfl) (calm_panic _) (by kernel_rfl)
    case hy => exact .inr ⟨by kernel_rfl, rfl⟩
    case hC => exact HC
    case ha => (simp only [Act.put, List.setIfInBounds_toArray, List.set_cons_zero, List.set_cons_succ]; rfl)
    apply WZ.take (i := 9) (some 30) rfl rfl (by kernel_rfl) (by kernel_rfl) (by kernel_rfl) (calm_panic _) (by kernel_rfl)
    case hy => exact .inr ⟨by kernel_rfl, rfl⟩
    case hC => exact HC
    case ha => (simp only [Act.put, List.setIfInBounds_toArray, List.set_cons_zero, List.set_cons_succ]; rfl)
    apply WZ.take (i := 10) (some 31) rfl rfl (by kernel_rfl) (by kernel_rfl) (by kernel_rfl) (calm_panic _) (by kernel_rfl)
    case hy => exact .inr ⟨by kernel_rfl, rfl⟩
    case hC => exact HC
    case ha => (simp only [Act.put, List.setIfInBounds_toArray, List.set_cons_zero, List.set_cons_succ]; rfl)
    apply WZ.take (i := 11) (some 32) rfl rfl (by kernel_rfl) (by kernel_rfl) (by kernel_rfl) (calm_panic _) (by kernel_rfl)
    case hy => exact .inr ⟨by kernel_rfl, rfl⟩
    case hC => exact HC
    case ha => (simp only [Act.put, List.setIfInBounds_toArray, List.set_cons_zero, List.set_cons_succ]; rfl)
    apply WZ.take (i := 12) (some 33) rfl rfl (by kernel_rfl) (by kernel_rfl) (by kernel_rfl) (calm_panic _) (by kernel_rfl)
    case hy => exact .inr ⟨by kernel_rfl, rfl⟩
    case hC => exact HC
    case ha => (simp only [Act.put, List.setIfInBounds_toArray, List.set_cons_zero, List.set_cons_succ]; rfl)
    apply WZ.take (i := 13) (some 34) rfl rfl (by kernel_rfl) (by kernel_rfl) (by kernel_rfl) (calm_panic _) (by kernel_rfl)
    case hy => exact .inr ⟨by kernel_rfl, rfl⟩
    case hC => exact HC
    case ha => (simp only [Act.put, List.setIfInBounds_toArray, List.set_cons_zero, List.set_cons_succ]; rfl)
    apply WZ.take (i := 14) (some 35) rfl rfl (by kernel_rfl) (by kernel_rfl) (by kernel_rfl) (calm_panic _) (by kernel_rfl)
    case hy => exact .inr ⟨by kernel_rfl, rfl⟩
    case hC => exact HC
    case ha => (simp only [Act.put, List.setIfInBounds_toArray, List.set_cons_zero, List.set_cons_succ]; rfl)
    apply WZ.take (i := 15) (some 36) rfl rfl (by kernel_rfl) (by kernel_rfl) (by kernel_rfl) (calm_panic _) (by kernel_rfl)
    case hy => exact .inr ⟨by kernel_rfl, rfl⟩
    case hC => exact HC
    case ha => (simp only [Act.put, List.setIfInBounds_toArray, List.set_cons_zero, List.set_cons_succ]; rfl)
    apply WZ.take (i := 16) (some 37) rfl rfl (by kernel_rfl) (by kernel_rfl) (by kernel_rfl) (calm_panic _) (by kernel_rfl)
    case hy => exact .inr ⟨by kernel_rfl, rfl⟩
    case hC => exact HC
    case ha => (simp only [Act.put, List.setIfInBounds_toArray, List.set_cons_zero, List.set_cons_succ]; rfl)
    apply WZ.take (i := 17) (some 38) rfl rfl (by kernel_rfl) (by kernel_rfl) (by kernel_rfl) (calm_panic _) (by kernel_rfl)
    case hy => exact .inr ⟨by kernel_rfl, rfl⟩
    case hC => exact HC
    case ha => (simp only [Act.put, List.setIfInBounds_toArray, List.set_cons_zero, List.set_cons_succ]; rfl)
    apply WZ.take (i := 18) (some 39) rfl rfl (by kernel_rfl) (by kernel_rfl) (by kernel_rfl) (calm_panic _) (by kernel_rfl)
    case hy => (refine .inl ⟨by kernel_rfl, fun W hC => ?_⟩; (try dsimp only at hC); go_simp; rfl)
    case hC => exact HC
    case ha => (simp only [Act.put, List.setIfInBounds_toArray, List.set_cons_zero, List.set_cons_succ]; rfl)
    apply WZ.take (i := 19) (some 6) rfl rfl (by kernel_rfl) (by kernel_rfl) (by kernel_rfl) (calm_panic _) (by kernel_rfl)
    case hy => (refine .inl ⟨by kernel_rfl, fun W hC => ?_⟩; (try dsimp only at hC); go_simp; rfl)
    case hC => exact HC
    case ha => (simp only [Act.put, List.setIfInBounds_toArray, List.set_cons_zero, List.set_cons_succ]; rfl)
    refine WZ.done (by kernel_rfl) ?_ _
    simp only [Calm, Exit.then]
    go_wp2
    go_ret
    exact ⟨by rw [HR.out]; rfl, HBL.out.drew⟩
  have e1 : decide (z < 0) = false := decide_eq_false h1
  by_cases h2 : z = 0
  · subst h2
    have hr : ltQ si sj = decide (si.at_ < sj.at_) := by rw [HQ9.out]; simp
    have HR := Lib.hid hr
    clear hr
    clear HQ9
    go_wp2
    refine region_wz (fun W => W.cell? ⟨b, o + i * 2, none⟩ = some (.pointer (some ⟨si.q, 0, none⟩)) ∧ W.cell? ⟨b, o + i * 2 + 1, none⟩ = some (.int .i64 si.at_) ∧ W.cell? ⟨b, o + j * 2, none⟩ = some (.pointer (some ⟨sj.q, 0, none⟩)) ∧ W.cell? ⟨b, o + j * 2 + 1, none⟩ = some (.int .i64 sj.at_) ∧ CC W) none (by kernel_rfl) ?_
    apply WZ.take (i := 0) (some 21) rfl rfl (by kernel_rfl) (by kernel_rfl) (by kernel_rfl) (calm_panic _) (by kernel_rfl)
    case hy => (refine .inl ⟨by kernel_rfl, fun W hC => ?_⟩; (try dsimp only at hC); go_simp; rfl)
    case hC => exact HC
    case ha => (simp only [Act.put, List.setIfInBounds_toArray, List.set_cons_zero, List.set_cons_succ]; rfl)
    apply WZ.take (i := 1) (some 22) rfl rfl (by kernel_rfl) (by kernel_rfl) (by kernel_rfl) (calm_panic _) (by kernel_rfl)
    case hy => (refine .inl ⟨by kernel_rfl, fun W hC => ?_⟩; (try dsimp only at hC); go_simp; rfl)
    case hC => exact HC
    case ha => (simp only [Act.put, List.setIfInBounds_toArray, List.set_cons_zero, List.set_cons_succ]; rfl)
    apply WZ.take (i := 2) (some 23) rfl rfl (by kernel_rfl) (by kernel_rfl) (by kernel_rfl) (calm_panic _) (by kernel_rfl)
    case hy => (refine .inl ⟨by kernel_rfl, fun W hC => ?_⟩; (try dsimp only at hC); go_simp; rfl)
    case hC => exact HC
    case ha => (simp only [Act.put, List.setIfInBounds_toArray, List.set_cons_zero, List.set_cons_succ]; rfl)
    apply WZ.take (i := 3) (some 24) rfl rfl (by kernel_rfl) (by kernel_rfl) (by kernel_rfl) (calm_panic _) (by kernel_rfl)
    case hy => (refine .inl ⟨by kernel_rfl, fun W hC => ?_⟩; (try dsimp only at hC); go_simp; rfl)
    case hC => exact HC
    case ha => (simp only [Act.put, List.setIfInBounds_toArray, List.set_cons_zero, List.set_cons_succ]; rfl)
    apply WZ.take (i := 4) (some 25) rfl rfl (by kernel_rfl) (by kernel_rfl) (by kernel_rfl) (calm_panic _) (by kernel_rfl)
    case hy => (refine .inl ⟨by kernel_rfl, fun W hC => ?_⟩; (try dsimp only at hC); go_simp; rfl)
    case hC => exact HC
    case ha => (simp only [Act.put, List.setIfInBounds_toArray, List.set_cons_zero, List.set_cons_succ]; rfl)
    apply WZ.take (i := 5) (some 26) rfl rfl (by kernel_rfl) (by kernel_rfl) (by kernel_rfl) (calm_panic _) (by kernel_rfl)
    case hy => (refine .inl ⟨by kernel_rfl, fun W hC => ?_⟩; (try dsimp only at hC); go_simp; rfl)
    case hC => exact HC
    case ha => (simp only [Act.put, List.setIfInBounds_toArray, List.set_cons_zero, List.set_cons_succ]; rfl)
    apply WZ.take (i := 6) (some 27) rfl rfl (by kernel_rfl) (by kernel_rfl) (by kernel_rfl) (calm_panic _) (by kernel_rfl)
    case hy => (refine .inl ⟨by kernel_rfl, fun W hC => ?_⟩; (try dsimp only at hC); go_simp; rfl)
    case hC => exact HC
    case ha => (simp only [Act.put, List.setIfInBounds_toArray, List.set_cons_zero, List.set_cons_succ]; rfl)
    apply WZ.take (i := 7) (some 28) rfl rfl (by kernel_rfl) (by kernel_rfl) (by kernel_rfl) (calm_panic _) (by kernel_rfl)
    case hy => (refine .inl ⟨by kernel_rfl, fun W hC => ?_⟩; (try dsimp only at hC); go_simp; rfl)
    case hC => exact HC
    case ha => (simp only [Act.put, List.setIfInBounds_toArray, List.set_cons_zero, List.set_cons_succ]; rfl)
    apply WZ.take (i := 8) (some 29) rfl rfl (by kernel_rfl) (by kernel_rfl) (by kernel_rfl) (calm_panic _) (by kernel_rfl)
    case hy => (refine .inl ⟨by kernel_rfl, fun W hC => ?_⟩; (try dsimp only at hC); go_simp; rfl)
    case hC => exact HC
    case ha => (simp only [Act.put, List.setIfInBounds_toArray, List.set_cons_zero, List.set_cons_succ]; rfl)
    apply WZ.take (i := 9) (some 30) rfl rfl (by kernel_rfl) (by kernel_rfl) (by kernel_rfl) (calm_panic _) (by kernel_rfl)
    case hy => (refine .inl ⟨by kernel_rfl, fun W hC => ?_⟩; (try dsimp only at hC); go_simp; rfl)
    case hC => exact HC
    case ha => (simp only [Act.put, List.setIfInBounds_toArray, List.set_cons_zero, List.set_cons_succ]; rfl)
    apply WZ.take (i := 10) (some 31) rfl rfl (by kernel_rfl) (by kernel_rfl) (by kernel_rfl) (calm_panic _) (by kernel_rfl)
    case hy => (refine .inl ⟨by kernel_rfl, fun W hC => ?_⟩; (try dsimp only at hC); go_simp; rfl)
    case hC => exact HC
    case ha => (simp only [Act.put, List.setIfInBounds_toArray, List.set_cons_zero, List.set_cons_succ]; rfl)
    apply WZ.take (i := 11) (some 32) rfl rfl (by kernel_rfl) (by kernel_rfl) (by kernel_rfl) (calm_panic _) (by kernel_rfl)
    case hy => (refine .inl ⟨by kernel_rfl, fun W hC => ?_⟩; (try dsimp only at hC); go_simp; rfl)
    case hC => exact HC
    case ha => (simp only [Act.put, List.setIfInBounds_toArray, List.set_cons_zero, List.set_cons_succ]; rfl)
    apply WZ.take (i := 12) (some 33) rfl rfl (by kernel_rfl) (by kernel_rfl) (by kernel_rfl) (calm_panic _) (by kernel_rfl)
    case hy => (refine .inl ⟨by kernel_rfl, fun W hC => ?_⟩; (try dsimp only at hC); go_simp; rfl)
    case hC => exact HC
    case ha => (simp only [Act.put, List.setIfInBounds_toArray, List.set_cons_zero, List.set_cons_succ]; rfl)
    apply WZ.take (i := 13) (some 34) rfl rfl (by kernel_rfl) (by kernel_rfl) (by kernel_rfl) (calm_panic _) (by kernel_rfl)
    case hy => (refine .inl ⟨by kernel_rfl, fun W hC => ?_⟩; (try dsimp only at hC); go_simp; rfl)
    case hC => exact HC
    case ha => (simp only [Act.put, List.setIfInBounds_toArray, List.set_cons_zero, List.set_cons_succ]; rfl)
    apply WZ.take (i := 14) (some 35) rfl rfl (by kernel_rfl) (by kernel_rfl) (by kernel_rfl) (calm_panic _) (by kernel_rfl)
    case hy => (refine .inl ⟨by kernel_rfl, fun W hC => ?_⟩; (try dsimp only at hC); go_simp; rfl)
    case hC => exact HC
    case ha => (simp only [Act.put, List.setIfInBounds_toArray, List.set_cons_zero, List.set_cons_succ]; rfl)
    apply WZ.take (i := 15) (some 36) rfl rfl (by kernel_rfl) (by kernel_rfl) (by kernel_rfl) (calm_panic _) (by kernel_rfl)
    case hy => (refine .inl ⟨by kernel_rfl, fun W hC => ?_⟩; (try dsimp only at hC); go_simp; rfl)
    case hC => exact HC
    case ha => (simp only [Act.put, List.setIfInBounds_toArray, List.set_cons_zero, List.set_cons_succ]; rfl)
    apply WZ.take (i := 16) (some 37) rfl rfl (by kernel_rfl) (by kernel_rfl) (by kernel_rfl) (calm_panic _) (by kernel_rfl)
    case hy => (refine .inl ⟨by kernel_rfl, fun W hC => ?_⟩; (try dsimp only at hC); go_simp; rfl)
    case hC => exact HC
    case ha => (simp only [Act.put, List.setIfInBounds_toArray, List.set_cons_zero, List.set_cons_succ]; rfl)
    apply WZ.take (i := 17) (some 38) rfl rfl (by kernel_rfl) (by kernel_rfl) (by kernel_rfl) (calm_panic _) (by kernel_rfl)
    case hy => (refine .inl ⟨by kernel_rfl, fun W hC => ?_⟩; (try dsimp only at hC); go_simp; rfl)
    case hC => exact HC
    case ha => (simp only [Act.put, List.setIfInBounds_toArray, List.set_cons_zero, List.set_cons_succ]; rfl)
    apply WZ.take (i := 18) (some 39) rfl rfl (by kernel_rfl) (by kernel_rfl) (by kernel_rfl) (calm_panic _) (by kernel_rfl)
    case hy => (refine .inl ⟨by kernel_rfl, fun W hC => ?_⟩; (try dsimp only at hC); go_simp; rfl)
    case hC => exact HC
    case ha => (simp only [Act.put, List.setIfInBounds_toArray, List.set_cons_zero, List.set_cons_succ]; rfl)
    apply WZ.take (i := 19) (some 6) rfl rfl (by kernel_rfl) (by kernel_rfl) (by kernel_rfl) (calm_panic _) (by kernel_rfl)
    case hy => (refine .inl ⟨by kernel_rfl, fun W hC => ?_⟩; (try dsimp only at hC); go_simp; rfl)
    case hC => exact HC
    case ha => (simp only [Act.put, List.setIfInBounds_toArray, List.set_cons_zero, List.set_cons_succ]; rfl)
    refine WZ.done (by kernel_rfl) ?_ _
    simp only [Calm, Exit.then]
    go_wp2
    go_ret
    exact ⟨by rw [HR.out]; rfl, HBL.out.drew⟩
  · have e2 : (z == 0) = false := by simpa using h2
    have hr : ltQ si sj = false := by rw [HQ9.out, e1, e2]; rfl
    have HR := Lib.hid hr
    clear hr
    clear HQ9
    go_wp2
    refine region_wz (fun W => W.cell? ⟨b, o + i * 2, none⟩ = some (.pointer (some ⟨si.q, 0, none⟩)) ∧ W.cell? ⟨b, o + i * 2 + 1, none⟩ = some (.int .i64 si.at_) ∧ W.cell? ⟨b, o + j * 2, none⟩ = some (.pointer (some ⟨sj.q, 0, none⟩)) ∧ W.cell? ⟨b, o + j * 2 + 1, none⟩ = some (.int .i64 sj.at_) ∧ CC W) none (by kernel_rfl) ?_
    apply WZ.take (i := 0) (some 21) rfl rfl (by kernel_rfl) (by kernel_rfl) (by kernel_rfl) (calm_panic _) (by kernel_rfl)
    case hy => (refine .inl ⟨by kernel_rfl, fun W hC => ?_⟩; (try dsimp only at hC); go_simp; rfl)
    case hC => exact HC
    case ha => (simp only [Act.put, List.setIfInBounds_toArray, List.set_cons_zero, List.set_cons_succ]; rfl)
    apply WZ.take (i := 1) (some 22) rfl rfl (by kernel_rfl) (by kernel_rfl) (by kernel_rfl) (calm_panic _) (by kernel_rfl)
    case hy => (refine .inl ⟨by kernel_rfl, fun W hC => ?_⟩; (try dsimp only at hC); go_simp; rfl)
    case hC => exact HC
    case ha => (simp only [Act.put, List.setIfInBounds_toArray, List.set_cons_zero, List.set_cons_succ]; rfl)
    apply WZ.take (i := 2) (some 23) rfl rfl (by kernel_rfl) (by kernel_rfl) (by kernel_rfl) (calm_panic _) (by kernel_rfl)
    case hy => (refine .inl ⟨by kernel_rfl, fun W hC => ?_⟩; (try dsimp only at hC); go_simp; rfl)
    case hC => exact HC
    case ha => (simp only [Act.put, List.setIfInBounds_toArray, List.set_cons_zero, List.set_cons_succ]; rfl)
    apply WZ.take (i := 3) (some 24) rfl rfl (by kernel_rfl) (by kernel_rfl) (by kernel_rfl) (calm_panic _) (by kernel_rfl)
    case hy => (refine .inl ⟨by kernel_rfl, fun W hC => ?_⟩; (try dsimp only at hC); go_simp; rfl)
    case hC => exact HC
    case ha => (simp only [Act.put, List.setIfInBounds_toArray, List.set_cons_zero, List.set_cons_succ]; rfl)
    apply WZ.take (i := 4) (some 25) rfl rfl (by kernel_rfl) (by kernel_rfl) (by kernel_rfl) (calm_panic _) (by kernel_rfl)
    case hy => (refine .inl ⟨by kernel_rfl, fun W hC => ?_⟩; (try dsimp only at hC); go_simp; rfl)
    case hC => exact HC
    case ha => (simp only [Act.put, List.setIfInBounds_toArray, List.set_cons_zero, List.set_cons_succ]; rfl)
    apply WZ.take (i := 5) (some 26) rfl rfl (by kernel_rfl) (by kernel_rfl) (by kernel_rfl) (calm_panic _) (by kernel_rfl)
    case hy => (refine .inl ⟨by kernel_rfl, fun W hC => ?_⟩; (try dsimp only at hC); go_simp; rfl)
    case hC => exact HC
    case ha => (simp only [Act.put, List.setIfInBounds_toArray, List.set_cons_zero, List.set_cons_succ]; rfl)
    apply WZ.take (i := 6) (some 27) rfl rfl (by kernel_rfl) (by kernel_rfl) (by kernel_rfl) (calm_panic _) (by kernel_rfl)
    case hy => exact .inr ⟨by kernel_rfl, rfl⟩
    case hC => exact HC
    case ha => (simp only [Act.put, List.setIfInBounds_toArray, List.set_cons_zero, List.set_cons_succ]; rfl)
    apply WZ.take (i := 7) (some 28) rfl rfl (by kernel_rfl) (by kernel_rfl) (by kernel_rfl) (calm_panic _) (by kernel_rfl)
    case hy => exact .inr ⟨by kernel_rfl, rfl⟩
    case hC => exact HC
    case ha => (simp only [Act.put, List.setIfInBounds_toArray, List.set_cons_zero, List.set_cons_succ]; rfl)
    apply WZ.take (i := 8) (some 29) rfl rfl (by kernel_rfl) (by kernel_rfl) (by kernel_rfl) (calm_panic _) (by kernel_rfl)
    case hy => exact .inr ⟨by kernel_rfl, rfl⟩
    case hC => exact HC
    case ha => (simp only [Act.put, List.setIfInBounds_toArray, List.set_cons_zero, List.set_cons_succ]; rfl)
    apply WZ.take (i := 9) (some 30) rfl rfl (by kernel_rfl) (by kernel_rfl) (by kernel_rfl) (calm_panic _) (by kernel_rfl)
    case hy => exact .inr ⟨by kernel_rfl, rfl⟩
    case hC => exact HC
    case ha => (simp only [Act.put, List.setIfInBounds_toArray, List.set_cons_zero, List.set_cons_succ]; rfl)
    apply WZ.take (i := 10) (some 31) rfl rfl (by kernel_rfl) (by kernel_rfl) (by kernel_rfl) (calm_panic _) (by kernel_rfl)
    case hy => exact .inr ⟨by kernel_rfl, rfl⟩
    case hC => exact HC
    case ha => (simp only [Act.put, List.setIfInBounds_toArray, List.set_cons_zero, List.set_cons_succ]; rfl)
    apply WZ.take (i := 11) (some 32) rfl rfl (by kernel_rfl) (by kernel_rfl) (by kernel_rfl) (calm_panic _) (by kernel_rfl)
    case hy => exact .inr ⟨by kernel_rfl, rfl⟩
    case hC => exact HC
    case ha => (simp only [Act.put, List.setIfInBounds_toArray, List.set_cons_zero, List.set_cons_succ]; rfl)
    apply WZ.take (i := 12) (some 33) rfl rfl (by kernel_rfl) (by kernel_rfl) (by kernel_rfl) (calm_panic _) (by kernel_rfl)
    case hy => exact .inr ⟨by kernel_rfl, rfl⟩
    case hC => exact HC
    case ha => (simp only [Act.put, List.setIfInBounds_toArray, List.set_cons_zero, List.set_cons_succ]; rfl)
    apply WZ.take (i := 13) (some 34) rfl rfl (by kernel_rfl) (by kernel_rfl) (by kernel_rfl) (calm_panic _) (by kernel_rfl)
    case hy => exact .inr ⟨by kernel_rfl, rfl⟩
    case hC => exact HC
    case ha => (simp only [Act.put, List.setIfInBounds_toArray, List.set_cons_zero, List.set_cons_succ]; rfl)
    apply WZ.take (i := 14) (some 35) rfl rfl (by kernel_rfl) (by kernel_rfl) (by kernel_rfl) (calm_panic _) (by kernel_rfl)
    case hy => exact .inr ⟨by kernel_rfl, rfl⟩
    case hC => exact HC
    case ha => (simp only [Act.put, List.setIfInBounds_toArray, List.set_cons_zero, List.set_cons_succ]; rfl)
    apply WZ.take (i := 15) (some 36) rfl rfl (by kernel_rfl) (by kernel_rfl) (by kernel_rfl) (calm_panic _) (by kernel_rfl)
    case hy => exact .inr ⟨by kernel_rfl, rfl⟩
    case hC => exact HC
    case ha => (simp only [Act.put, List.setIfInBounds_toArray, List.set_cons_zero, List.set_cons_succ]; rfl)
    apply WZ.take (i := 16) (some 37) rfl rfl (by kernel_rfl) (by kernel_rfl) (by kernel_rfl) (calm_panic _) (by kernel_rfl)
    case hy => exact .inr ⟨by kernel_rfl, rfl⟩
    case hC => exact HC
    case ha => (simp only [Act.put, List.setIfInBounds_toArray, List.set_cons_zero, List.set_cons_succ]; rfl)
    apply WZ.take (i := 17) (some 38) rfl rfl (by kernel_rfl) (by kernel_rfl) (by kernel_rfl) (calm_panic _) (by kernel_rfl)
    case hy => (refine .inl ⟨by kernel_rfl, fun W hC => ?_⟩; (try dsimp only at hC); go_simp; rfl)
    case hC => exact HC
    case ha => (simp only [Act.put, List.setIfInBounds_toArray, List.set_cons_zero, List.set_cons_succ]; rfl)
    apply WZ.take (i := 18) (some 39) rfl rfl (by kernel_rfl) (by kernel_rfl) (by kernel_rfl) (calm_panic _) (by kernel_rfl)
    case hy => (refine .inl ⟨by kernel_rfl, fun W hC => ?_⟩; (try dsimp only at hC); go_simp; rfl)
    case hC => exact HC
    case ha => (simp only [Act.put, List.setIfInBounds_toArray, List.set_cons_zero, List.set_cons_succ]; rfl)
    apply WZ.take (i := 19) (some 6) rfl rfl (by kernel_rfl) (by kernel_rfl) (by kernel_rfl) (calm_panic _) (by kernel_rfl)
    case hy => (refine .inl ⟨by kernel_rfl, fun W hC => ?_⟩; (try dsimp only at hC); go_simp; rfl)
    case hC => exact HC
    case ha => (simp only [Act.put, List.setIfInBounds_toArray, List.set_cons_zero, List.set_cons_succ]; rfl)
    refine WZ.done (by kernel_rfl) ?_ _
    simp only [Calm, Exit.then]
    go_wp2
    go_ret
    exact ⟨by rw [HR.out]; rfl, HBL.out.drew⟩
set_option maxRecDepth 20000 in
set_option maxHeartbeats 4000000 in
theorem swap_any (g S n c i j : Nat) (l : List Qs) (w : World) (h : Arr Qs.vals 2 w g 78 S l) (hn : l.length = n) (hi : i < l.length) (hj : j < l.length) (_hmx : n ≤ 1000000) :
    Calls Try.prog 90 #[.slice (some ⟨g, 0, none⟩) n c, .int .i64 i, .int .i64 j] w fun e w' => e = .returned (.tuple #[]) ∧ Arr Qs.vals 2 w' g 78 S (swp l i j) ∧ w.grownBy w' (some g) := by
  have HA := Lib.hid h
  have r1 := h.get (List.getElem?_eq_getElem hi)
  have r2 := h.get (List.getElem?_eq_getElem hj)
  have hsw : swp l i j = (l.set i l[j]).set j l[i] := by unfold swp; rw [List.getElem?_eq_getElem hi, List.getElem?_eq_getElem hj]
  obtain ⟨si, hsi⟩ : ∃ s, l[i] = s := ⟨_, rfl⟩
  obtain ⟨sj, hsj⟩ : ∃ s, l[j] = s := ⟨_, rfl⟩
  rw [hsi, hsj] at hsw
  rw [hsi] at r1
  rw [hsj] at r2
  have HSW := Lib.hid hsw
  have HC : w.drew.rangeAt g (i * 2) (Qs.vals si) ∧ w.drew.rangeAt g (j * 2) (Qs.vals sj) := ⟨r1, r2⟩
  have k1 : (0 : Int) ≤ (i : Int) := by omega
  have k2 : (i : Int) < (n : Int) := by omega
  have k3 : (0 : Int) ≤ (j : Int) := by omega
  have k4 : (j : Int) < (n : Int) := by omega
  clear r1 r2 hsw hsi hsj h
  go_enter Try.func90, Try.ntmps90
  refine region_wz (fun W' => W'.rangeAt g (i * 2) (Qs.vals si) ∧ W'.rangeAt g (j * 2) (Qs.vals sj)) (some 13) (by kernel_rfl) ?_
  apply WZ.take (i := 0) (some 6) rfl rfl (by kernel_rfl) (by kernel_rfl) (by kernel_rfl) (calm_panic _) (by kernel_rfl)
  case hy => (refine .inl ⟨by kernel_rfl, fun W hC => ?_⟩; (try dsimp only at hC); go_simp; rfl)
  case hC => exact HC
  case ha => (simp only [Act.put, List.setIfInBounds_toArray, List.set_cons_zero, List.set_cons_succ]; rfl)
  apply WZ.take (i := 1) (some 7) rfl rfl (by kernel_rfl) (by kernel_rfl) (by kernel_rfl) (calm_panic _) (by kernel_rfl)
  case hy => (refine .inl ⟨by kernel_rfl, fun W hC => ?_⟩; (try dsimp only at hC); go_simp; rfl)
  case hC => exact HC
  case ha => (simp only [Act.put, List.setIfInBounds_toArray, List.set_cons_zero, List.set_cons_succ]; rfl)
  apply WZ.takeF (i := 2) (some 8) rfl rfl (by kernel_rfl) (by kernel_rfl) (by kernel_rfl) (calm_panic _) (by kernel_rfl)
  case hy => (refine .inl ⟨by kernel_rfl, fun W hC => ?_⟩; (try dsimp only at hC); go_simp; rfl)
  case hC => exact HC
  case ha => (simp only [Act.put, List.setIfInBounds_toArray, List.set_cons_zero, List.set_cons_succ]; rfl)
  apply WZ.takeF (i := 3) (some 9) rfl rfl (by kernel_rfl) (by kernel_rfl) (by kernel_rfl) (calm_panic _) (by kernel_rfl)
  case hy => (refine .inl ⟨by kernel_rfl, fun W hC => ?_⟩; (try dsimp only at hC); go_simp; rfl)
  case hC => exact HC
  case ha => (simp only [Act.put, List.setIfInBounds_toArray, List.set_cons_zero, List.set_cons_succ]; rfl)
  apply WZ.take (i := 4) (some 10) rfl rfl (by kernel_rfl) (by kernel_rfl) (by kernel_rfl) (calm_panic _) (by kernel_rfl)
  case hy => (refine .inl ⟨by kernel_rfl, fun W hC => ?_⟩; (try dsimp only at hC); go_simp; rfl)
  case hC => exact HC
  case ha => (simp only [Act.put, List.setIfInBounds_toArray, List.set_cons_zero, List.set_cons_succ]; rfl)
  apply WZ.take (i := 5) (some 11) rfl rfl (by kernel_rfl) (by kernel_rfl) (by kernel_rfl) (calm_panic _) (by kernel_rfl)
  case hy => (refine .inl ⟨by kernel_rfl, fun W hC => ?_⟩; (try dsimp only at hC); go_simp; rfl)
  case hC => exact HC
  case ha => (simp only [Act.put, List.setIfInBounds_toArray, List.set_cons_zero, List.set_cons_succ]; rfl)
  apply WZ.take (i := 6) (some 12) rfl rfl (by kernel_rfl) (by kernel_rfl) (by kernel_rfl) (calm_panic _) (by kernel_rfl)
  case hy => (refine .inl ⟨by kernel_rfl, fun W hC => ?_⟩; (try dsimp only at hC); go_simp; rfl)
  case hC => exact HC
  case ha => (simp only [Act.put, List.setIfInBounds_toArray, List.set_cons_zero, List.set_cons_succ]; rfl)
  apply WZ.take (i := 7) (some 13) rfl rfl (by kernel_rfl) (by kernel_rfl) (by kernel_rfl) (calm_panic _) (by kernel_rfl)
  case hy => first | (apply yieldsIf_load_mid (by kernel_rfl) _ _ rfl _ _ rfl; (case hS => (intro W hC; exact (show World.rangeAt _ _ _ (Qs.vals _) from hC.1))); (case hu => exact Try.underlying78); (case hd => rfl); (case hi => kernel_rfl)) | (apply yieldsIf_load_mid (by kernel_rfl) _ _ rfl _ _ rfl; (case hS => (intro W hC; exact (show World.rangeAt _ _ _ (Qs.vals _) from hC.2.1))); (case hu => exact Try.underlying78); (case hd => rfl); (case hi => kernel_rfl)) | (apply yieldsIf_load_mid (by kernel_rfl) _ _ rfl _ _ rfl; (case hS => (intro W hC; exact (show World.rangeAt _ _ _ (Qs.vals _) from hC.2.2.1))); (case hu => exact Try.underlying78); (case hd => rfl); (case hi => kernel_rfl)) | (apply yieldsIf_load_mid (by kernel_rfl) _ _ rfl _ _ rfl; (case hS => (intro W hC; exact (show World.rangeAt _ _ _ (Qs.vals _) from hC.2.2.2.1))); (case hu => exact Try.underlying78); (case hd => rfl); (case hi => kernel_rfl)) | (apply yieldsIf_load_mid (by kernel_rfl) _ _ rfl _ _ rfl; (case hS => (intro W hC; exact (show World.rangeAt _ _ _ (Qs.vals _) from hC.2.2.2))); (case hu => exact Try.underlying78); (case hd => rfl); (case hi => kernel_rfl)) | (apply yieldsIf_load_mid (by kernel_rfl) _ _ rfl _ _ rfl; (case hS => (intro W hC; exact (show World.rangeAt _ _ _ (Qs.vals _) from hC.2.2))); (case hu => exact Try.underlying78); (case hd => rfl); (case hi => kernel_rfl)) | (apply yieldsIf_load_mid (by kernel_rfl) _ _ rfl _ _ rfl; (case hS => (intro W hC; exact (show World.rangeAt _ _ _ (Qs.vals _) from hC.2))); (case hu => exact Try.underlying78); (case hd => rfl); (case hi => kernel_rfl)) | (apply yieldsIf_load_mid (by kernel_rfl) _ _ rfl _ _ rfl; (case hS => (intro W hC; exact (show World.rangeAt _ _ _ (Qs.vals _) from hC))); (case hu => exact Try.underlying78); (case hd => rfl); (case hi => kernel_rfl))
  case hC => exact HC
  case ha => (simp only [Act.put, List.setIfInBounds_toArray, List.set_cons_zero, List.set_cons_succ]; rfl)
  apply WZ.takeF (i := 8) (some 14) rfl rfl (by kernel_rfl) (by kernel_rfl) (by kernel_rfl) (calm_panic _) (by kernel_rfl)
  case hy => (refine .inl ⟨by kernel_rfl, fun W hC => ?_⟩; (try dsimp only at hC); go_simp; rfl)
  case hC => exact HC
  case ha => (simp only [Act.put, List.setIfInBounds_toArray, List.set_cons_zero, List.set_cons_succ]; rfl)
  apply WZ.takeF (i := 9) (some 15) rfl rfl (by kernel_rfl) (by kernel_rfl) (by kernel_rfl) (calm_panic _) (by kernel_rfl)
  case hy => (refine .inl ⟨by kernel_rfl, fun W hC => ?_⟩; (try dsimp only at hC); go_simp; rfl)
  case hC => exact HC
  case ha => (simp only [Act.put, List.setIfInBounds_toArray, List.set_cons_zero, List.set_cons_succ]; rfl)
  apply WZ.takeF (i := 10) (some 16) rfl rfl (by kernel_rfl) (by kernel_rfl) (by kernel_rfl) (calm_panic _) (by kernel_rfl)
  case hy => (refine .inl ⟨by kernel_rfl, fun W hC => ?_⟩; (try dsimp only at hC); go_simp; rfl)
  case hC => exact HC
  case ha => (simp only [Act.put, List.setIfInBounds_toArray, List.set_cons_zero, List.set_cons_succ]; rfl)
  apply WZ.take (i := 11) (some 17) rfl rfl (by kernel_rfl) (by kernel_rfl) (by kernel_rfl) (calm_panic _) (by kernel_rfl)
  case hy => first | (apply yieldsIf_load_mid (by kernel_rfl) _ _ rfl _ _ rfl; (case hS => (intro W hC; exact (show World.rangeAt _ _ _ (Qs.vals _) from hC.1))); (case hu => exact Try.underlying78); (case hd => rfl); (case hi => kernel_rfl)) | (apply yieldsIf_load_mid (by kernel_rfl) _ _ rfl _ _ rfl; (case hS => (intro W hC; exact (show World.rangeAt _ _ _ (Qs.vals _) from hC.2.1))); (case hu => exact Try.underlying78); (case hd => rfl); (case hi => kernel_rfl)) | (apply yieldsIf_load_mid (by kernel_rfl) _ _ rfl _ _ rfl; (case hS => (intro W hC; exact (show World.rangeAt _ _ _ (Qs.vals _) from hC.2.2.1))); (case hu => exact Try.underlying78); (case hd => rfl); (case hi => kernel_rfl)) | (apply yieldsIf_load_mid (by kernel_rfl) _ _ rfl _ _ rfl; (case hS => (intro W hC; exact (show World.rangeAt _ _ _ (Qs.vals _) from hC.2.2.2.1))); (case hu => exact Try.underlying78); (case hd => rfl); (case hi => kernel_rfl)) | (apply yieldsIf_load_mid (by kernel_rfl) _ _ rfl _ _ rfl; (case hS => (intro W hC; exact (show World.rangeAt _ _ _ (Qs.vals _) from hC.2.2.2))); (case hu => exact Try.underlying78); (case hd => rfl); (case hi => kernel_rfl)) | (apply yieldsIf_load_mid (by kernel_rfl) _ _ rfl _ _ rfl; (case hS => (intro W hC; exact (show World.rangeAt _ _ _ (Qs.vals _) from hC.2.2))); (case hu => exact Try.underlying78); (case hd => rfl); (case hi => kernel_rfl)) | (apply yieldsIf_load_mid (by kernel_rfl) _ _ rfl _ _ rfl; (case hS => (intro W hC; exact (show World.rangeAt _ _ _ (Qs.vals _) from hC.2))); (case hu => exact Try.underlying78); (case hd => rfl); (case hi => kernel_rfl)) | (apply yieldsIf_load_mid (by kernel_rfl) _ _ rfl _ _ rfl; (case hS => (intro W hC; exact (show World.rangeAt _ _ _ (Qs.vals _) from hC))); (case hu => exact Try.underlying78); (case hd => rfl); (case hi => kernel_rfl))
  case hC => exact HC
  case ha => (simp only [Act.put, List.setIfInBounds_toArray, List.set_cons_zero, List.set_cons_succ]; rfl)
  apply WZ.take (i := 12) (some 18) rfl rfl (by kernel_rfl) (by kernel_rfl) (by kernel_rfl) (calm_panic _) (by kernel_rfl)
  case hy => (refine .inl ⟨by kernel_rfl, fun W hC => ?_⟩; (try dsimp only at hC); go_simp; rfl)
  case hC => exact HC
  case ha => (simp only [Act.put, List.setIfInBounds_toArray, List.set_cons_zero, List.set_cons_succ]; rfl)
  -- 13
  refine WZ.last (i := 13) rfl (by kernel_rfl) (by kernel_rfl) ?_
  conv => arg 4; arg 1; whnf
  refine wpList_store_mid rfl 78 _ _ rfl g (i * 2) _ rfl rfl (HA.out.drew.there_at hi) (by kernel_rfl) (all_oneCell_toArray (Qs.one _)) ?_
  have HA2 := HA.out.drew.set Qs.vals_len hi sj
  -- 14
  refine WZ.last (i := 14) rfl (by kernel_rfl) (by kernel_rfl) ?_
  conv => arg 4; arg 1; whnf
  go_wp2
  -- 15
  refine WZ.last (i := 15) rfl (by kernel_rfl) (by kernel_rfl) ?_
  conv => arg 4; arg 1; whnf
  refine wpList_store_mid rfl 78 _ _ rfl g (j * 2) _ rfl rfl (HA2.1.there_at (by rw [List.length_set]; exact hj)) (by kernel_rfl) (all_oneCell_toArray (Qs.one _)) ?_
  have HA3 := HA2.1.set Qs.vals_len (show j < (l.set i sj).length by rw [List.length_set]; exact hj) si
  refine WZ.done (by kernel_rfl) ?_ _
  simp only [Calm, Exit.then]
  go_end0
  exact ⟨rfl, by rw [HSW.out]; exact HA3.1, grownBy_trans (grownBy_drew1 (grownBy_refl _ _)) (grownBy_trans HA2.2 HA3.2)⟩
end Go.Proofs.Ytflppcgonbjnmaa
