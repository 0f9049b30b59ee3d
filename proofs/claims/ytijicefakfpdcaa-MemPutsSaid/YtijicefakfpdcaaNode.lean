/-
  Trees of cells in memory; the walks of the two turns that keep them flat.
-/
import Derived.Test.YtijicefakfpdcaaPutsPlain
import Derived.Test.YtijicefakfpdcaaFlow
import Derived.Test.YtijicefakfpdcaaOwn
import Derived.Test.YtijicefakfpdcaaRegion
import Derived.StillTailTactics
namespace Go.Proofs.Ytijicefakfpdcaa
open Go.RowKit
attribute [local go_sem ↓] Go.wp_at_zero Go.wp_at_succ

/-- the values of a node -/
def nodeVals (c : Cl) (lo hi : Option Addr) (lv : Int) : Array Value := #[.string c.row, .string c.col, .int .u64 c.ts, .int .u64 c.seq, .bool c.del, .string c.val, .pointer lo, .pointer hi, .int .i64 lv]
/-- block b is a node -/
def Nd (w : World) (b : Nat) (c : Cl) (lo hi : Option Addr) (lv : Int) : Prop := w.heap[b]? = some (.cells (nodeVals c lo hi lv) 61 (0, 0))
section
variable {w w' : World} {b : Nat} {c : Cl} {lo hi : Option Addr} {lv : Int}
theorem Nd.lt (h : Nd w b c lo hi lv) : b < w.heap.size := (Array.getElem?_eq_some_iff.1 h).1
theorem Nd.at_ (h : Nd w b c lo hi lv) : w.cell? ⟨b, 0, none⟩ = some (.string c.row) ∧ w.cell? ⟨b, 1, none⟩ = some (.string c.col) ∧ w.cell? ⟨b, 2, none⟩ = some (.int .u64 c.ts) ∧ w.cell? ⟨b, 3, none⟩ = some (.int .u64 c.seq) ∧
    w.cell? ⟨b, 4, none⟩ = some (.bool c.del) ∧ w.cell? ⟨b, 5, none⟩ = some (.string c.val) ∧ w.cell? ⟨b, 6, none⟩ = some (.pointer lo) ∧ w.cell? ⟨b, 7, none⟩ = some (.pointer hi) ∧ w.cell? ⟨b, 8, none⟩ = some (.int .i64 lv) := by
  have f := fun j => cell_of_row w b j _ _ (0, 0) h
  exact ⟨f 0, f 1, f 2, f 3, f 4, f 5, f 6, f 7, f 8⟩
theorem Nd.free (h : Nd w b c lo hi lv) (j : Nat) : w.frozen? ⟨b, j, none⟩ = false := frozen_of_row w b j _ _ h
theorem Nd.keep (h : Nd w b c lo hi lv) (hk : w'.heap[b]? = w.heap[b]?) : Nd w' b c lo hi lv := hk.trans h
theorem Nd.new (w : World) (c : Cl) (lo hi : Option Addr) (lv : Int) : Nd (w.alloc (.cells (nodeVals c lo hi lv) 61)) w.heap.size c lo hi lv := heap_alloc_new w _
theorem Nd.setAt (h : Nd w b c lo hi lv) (j : Nat) (v : Value) : (w.setCell ⟨b, j, none⟩ v).heap[b]? = some (.cells ((nodeVals c lo hi lv).setIfInBounds j v) 61 (0, 0)) := by
  obtain ⟨hlt, hk⟩ := Array.getElem?_eq_some_iff.1 h
  show (w.heap.modify b _)[b]? = _
  rw [Array.getElem?_eq_getElem (by rw [Array.size_modify]; exact hlt), Array.getElem_modify_self, hk]
  rfl
theorem Nd.low (h : Nd w b c lo hi lv) (p : Option Addr) : Nd (w.setCell ⟨b, 6, none⟩ (.pointer p)) b c p hi lv := h.setAt 6 _
theorem Nd.high (h : Nd w b c lo hi lv) (p : Option Addr) : Nd (w.setCell ⟨b, 7, none⟩ (.pointer p)) b c lo p lv := h.setAt 7 _
theorem Nd.lev (h : Nd w b c lo hi lv) (z : Int) : Nd (w.setCell ⟨b, 8, none⟩ (.int .i64 z)) b c lo hi z := h.setAt 8 _
theorem Nd.drew1 (h : Nd w b c lo hi lv) : Nd w.drew b c lo hi lv := h
theorem Nd.drewN (h : Nd w b c lo hi lv) (n : Nat) : Nd (w.drewN n) b c lo hi lv := h
theorem Nd.far (h : Nd w b c lo hi lv) {p : Addr} (hp : b ≠ p.block) (u : Value) : Nd (w.setCell p u) b c lo hi lv := h.keep (Below.heap_setCell w p u b hp)
end

/-- the tree lies in memory -/
def Tr.In (w : World) : Tr → Prop
  | .leaf => True
  | .node b lv l c r => Nd w b c l.ptr r.ptr lv ∧ l.In w ∧ r.In w
theorem Tr.In.keep {w w' : World} : ∀ {t : Tr}, t.In w → (∀ b ∈ t.blocks, w'.heap[b]? = w.heap[b]?) → t.In w'
  | .leaf, _, _ => trivial
  | .node b lv l c r, ⟨h, hl, hr⟩, hk => ⟨h.keep (hk b (by simp [Tr.blocks])), hl.keep fun k hb => hk k (by simp [Tr.blocks, hb]), hr.keep fun k hb => hk k (by simp [Tr.blocks, hb])⟩
theorem Tr.In.lt {w : World} : ∀ {t : Tr}, t.In w → ∀ b ∈ t.blocks, b < w.heap.size
  | .leaf, _, _, hb => by cases hb
  | .node b lv l c r, ⟨h, hl, hr⟩, k, hk => by
    simp only [Tr.blocks, List.mem_cons, List.mem_append] at hk
    rcases hk with rfl | hk | hk
    · exact h.lt
    · exact hl.lt k hk
    · exact hr.lt k hk
theorem Tr.In.far {w : World} {t : Tr} (h : t.In w) {p : Addr} (hp : p.block ∉ t.blocks) (u : Value) : t.In (w.setCell p u) :=
  h.keep fun b hb => Below.heap_setCell w p u b (fun e => hp (e ▸ hb))
theorem Tr.In.drew {w : World} {t : Tr} (h : t.In w) : t.In w.drew := h.keep fun _ _ => rfl
theorem Tr.In.drewN {w : World} {t : Tr} (h : t.In w) (n : Nat) : t.In (w.drewN n) := h.keep fun _ _ => rfl
theorem Mv.setCell {own own' : List Nat} {W W' : World} (h : Mv own own' W W') {p : Addr} (hp : p.block ∈ own') (u : Value) : Mv own own' W (W'.setCell p u) :=
  ⟨h.os, h.tape, h.output, by simp [World.setCell]; exact h.size, fun k hk hn => (Below.heap_setCell W' p u k (fun e => by subst e; exact h.out hk hn hp)).trans (h.block k hk hn), h.more, fun k hk => by simp [World.setCell]; exact h.lies k hk⟩
theorem Mv.drewN {own own' : List Nat} {W W' : World} (h : Mv own own' W W') (n : Nat) : Mv own own' W (W'.drewN n) := ⟨h.os, h.tape, h.output, h.size, h.block, h.more, h.lies⟩
theorem Mv.drewN' {own own' : List Nat} {W W' : World} {n : Nat} (h : Mv own own' (W.drewN n) W') : Mv own own' W W' := ⟨h.os, h.tape, h.output, h.size, h.block, h.more, h.lies⟩
theorem Mv.drew' {own own' : List Nat} {W W' : World} (h : Mv own own' W.drew W') : Mv own own' W W' := ⟨h.os, h.tape, h.output, h.size, h.block, h.more, h.lies⟩
theorem Mv.perm {own own' own2 : List Nat} {W W' : World} (h : Mv own own' W W') (hp : ∀ k, k ∈ own2 ↔ k ∈ own') : Mv own own2 W W' :=
  ⟨h.os, h.tape, h.output, h.size, h.block, fun k hk => h.more k ((hp k).1 hk), fun k hk => h.lies k ((hp k).1 hk)⟩
theorem Mv.perm1 {own own' own1 : List Nat} {W W' : World} (h : Mv own own' W W') (hp : ∀ k, k ∈ own1 ↔ k ∈ own) : Mv own1 own' W W' :=
  ⟨h.os, h.tape, h.output, h.size, fun k hk hn => h.block k hk (fun e => hn ((hp k).2 e)), fun k hk => (h.more k hk).imp (hp k).2 id, h.lies⟩

theorem Box.keepB {w w' : World} {g : Nat} {e : TypeId} {v : Value} (h : Box w g e v) (hk : w'.heap[g]? = w.heap[g]?) : Box w' g e v := hk.trans h

/-- behind a turn -/
structure Turned (t t' : Tr) (w w' : World) : Prop where
  lies : t'.In w'
  cells : t'.cells = t.cells
  perm : t'.blocks.Perm t.blocks
  mv : Mv t.blocks t'.blocks w w'
  node : t' ≠ .leaf

theorem Turned.node' {t t' : Tr} {w w' : World} (h : Turned t t' w w') : ∃ b lv l c r, t' = .node b lv l c r := by
  cases t' with
  | leaf => exact absurd rfl h.node
  | node b lv l c r => exact ⟨_, _, _, _, _, rfl⟩
theorem Turned.refl {t : Tr} {w : World} (h : t.In w) (n : Nat) (hn : t ≠ .leaf) : Turned t t w (w.drewN n) := ⟨h.drewN n, rfl, List.Perm.refl _, (Mv.refl h.lt).drewN n, hn⟩

set_option maxHeartbeats 1000000 in
theorem skew_any (b : Nat) (lv : Int) (l : Tr) (c : Cl) (r : Tr) (w : World) (h : (Tr.node b lv l c r).In w) (hd : (Tr.node b lv l c r).blocks.Nodup) :
    Calls Try.prog 32 #[.pointer (some ⟨b, 0, none⟩)] w fun e w' => ∃ t', e = .returned (.pointer t'.ptr) ∧ Turned (.node b lv l c r) t' w w' := by
  obtain ⟨hN, hl, hr⟩ := h
  obtain ⟨n0, n1, n2, n3, n4, n5, n6, n7, n8⟩ := hN.at_
  cases l with
  | leaf =>
    simp only [Tr.ptr] at n6
    have HT := Lib.hid (Turned.refl (t := .node b lv .leaf c r) (w := w) ⟨hN, hl, hr⟩)
    clear hN hl hr
    go_enter Try.func32, Try.ntmps32
    go_wp2
    go_quiet (fail)
    go_wp2
    go_ret
    exact ⟨_, rfl, HT.out _ (by simp)⟩
  | node b2 lv2 a x m =>
    simp only [Tr.ptr] at n6
    obtain ⟨hN2, ha, hm⟩ := hl
    obtain ⟨m0, m1, m2, m3, m4, m5, m6, m7, m8⟩ := hN2.at_
    have hb := (List.nodup_cons.1 hd).1
    have hd2 := List.nodup_append.1 (List.nodup_cons.1 hd).2
    have hb2 := (List.nodup_cons.1 hd2.1).1
    have hne : b ≠ b2 := fun e => hb (by simp [e, Tr.blocks])
    have hab : b ∉ a.blocks := fun e => hb (by simp [e, Tr.blocks])
    have hmb : b ∉ m.blocks := fun e => hb (by simp [e, Tr.blocks])
    have hrb : b ∉ r.blocks := fun e => hb (by simp [e, Tr.blocks])
    have hab2 : b2 ∉ a.blocks := fun e => hb2 (by simp [e])
    have hmb2 : b2 ∉ m.blocks := fun e => hb2 (by simp [e])
    have hrb2 : b2 ∉ r.blocks := fun e => hd2.2.2 b2 (by simp [Tr.blocks]) b2 e rfl
    by_cases he : lv2 = lv
    · subst he
      have H1 := ((hN.drewN 1).low m.ptr).far (p := ⟨b2, 7, none⟩) hne (.pointer (some ⟨b, 0, none⟩))
      have H2 := ((hN2.drewN 1).far (p := ⟨b, 6, none⟩) (Ne.symm hne) (.pointer m.ptr)).high (some ⟨b, 0, none⟩)
      have HT : ∀ n, Turned (.node b lv2 (.node b2 lv2 a x m) c r) (.node b2 lv2 a x (.node b lv2 m c r)) w (((w.drewN n).setCell ⟨b, 6, none⟩ (.pointer m.ptr)).setCell ⟨b2, 7, none⟩ (.pointer (some ⟨b, 0, none⟩))) := fun n => by
        refine ⟨⟨((hN2.drewN n).far (p := ⟨b, 6, none⟩) (Ne.symm hne) (.pointer m.ptr)).high (some ⟨b, 0, none⟩), ((ha.drewN n).far hab _).far hab2 _, ((hN.drewN n).low m.ptr).far (p := ⟨b2, 7, none⟩) hne _, ((hm.drewN n).far hmb _).far hmb2 _, ((hr.drewN n).far hrb _).far hrb2 _⟩, ?_, ?_, ?_, by simp⟩
        · simp [Tr.cells]
        · simp only [Tr.blocks, List.cons_append, List.append_assoc]
          refine (List.Perm.trans (List.Perm.cons b2 ?_) (List.Perm.swap b b2 _))
          exact List.perm_middle
        · have h1 := (((Mv.refl (own := (Tr.node b lv2 (.node b2 lv2 a x m) c r).blocks) (W := w) (Tr.In.lt ⟨hN, ⟨hN2, ha, hm⟩, hr⟩)).drewN n).setCell (p := ⟨b, 6, none⟩) (by simp [Tr.blocks]) (.pointer m.ptr)).setCell (p := ⟨b2, 7, none⟩) (by simp [Tr.blocks]) (.pointer (some ⟨b, 0, none⟩))
          exact h1.perm fun k => by simp only [Tr.blocks, List.mem_cons, List.mem_append]; grind
      have f1 := hN.free 6
      have f2 := fun n => ((hN2.drewN n).far (p := ⟨b, 6, none⟩) (Ne.symm hne) (.pointer m.ptr)).free 7
      have f3 := fun n => ((hN2.drewN n).far (p := ⟨b, 6, none⟩) (Ne.symm hne) (.pointer m.ptr)).at_.2.2.2.2.2.2.2.1
      have HH := Lib.hid HT
      clear H1 H2 HT hN hN2 ha hm hr hne hb hd hd2
      go_enter Try.func32, Try.ntmps32
      go_wp2
      go_quiet (fail)
      go_wp2
      go_ret
      exact ⟨_, rfl, HH.out _⟩
    · have HT := Lib.hid (Turned.refl (t := .node b lv (.node b2 lv2 a x m) c r) (w := w) ⟨hN, ⟨hN2, ha, hm⟩, hr⟩)
      have he2 : decide (lv2 = lv) = false := decide_eq_false he
      clear hN hN2 ha hm hr hne hb hd hd2
      go_enter Try.func32, Try.ntmps32
      go_wp2
      go_quiet (fail)
      go_wp2
      go_ret
      exact ⟨_, rfl, HT.out _ (by simp)⟩
end Go.Proofs.Ytijicefakfpdcaa
