/-
  The walk of a cell that is put into a tree.
-/
import Derived.Test.YtijicefakfpdcaaNodeSplit
import Derived.Test.YtijicefakfpdcaaArr
namespace Go.Proofs.Ytijicefakfpdcaa
open Go.RowKit
attribute [local go_sem ↓] Go.wp_at_zero Go.wp_at_succ

/-- block g is a cell -/
def CBox (w : World) (g : Nat) (c : Cl) : Prop := w.heap[g]? = some (.cells #[.string c.row, .string c.col, .int .u64 c.ts, .int .u64 c.seq, .bool c.del, .string c.val] 31 (0, 0))
theorem CBox.lt {w : World} {g : Nat} {c : Cl} (h : CBox w g c) : g < w.heap.size := (Array.getElem?_eq_some_iff.1 h).1
theorem CBox.new (w : World) (c : Cl) : CBox (w.alloc (.cells #[.string c.row, .string c.col, .int .u64 c.ts, .int .u64 c.seq, .bool c.del, .string c.val] 31)) w.heap.size c := heap_alloc_new w _
theorem CBox.keep {w w' : World} {g : Nat} {c : Cl} (h : CBox w g c) (hk : w'.heap[g]? = w.heap[g]?) : CBox w' g c := hk.trans h
theorem CBox.below {w w' : World} {g B : Nat} {c : Cl} (h : CBox w g c) (hb : Below B w w') (hg : g < B) : CBox w' g c := h.keep (hb.block g hg)
theorem CBox.range {w : World} {g : Nat} {c : Cl} (h : CBox w g c) : w.rangeAt g 0 c.vals := fun j v hv => by
  rw [Nat.zero_add, cell_of_row w g j _ _ (0, 0) h]
  have hj : j < 6 := by
    have := (List.getElem?_eq_some_iff.1 hv).1
    simpa [Cl.vals] using this
  rw [← hv]
  match j, hj with
  | 0, _ => rfl
  | 1, _ => rfl
  | 2, _ => rfl
  | 3, _ => rfl
  | 4, _ => rfl
  | 5, _ => rfl
theorem Nd.range {w : World} {b : Nat} {c : Cl} {lo hi : Option Addr} {lv : Int} (h : Nd w b c lo hi lv) : w.rangeAt b 0 c.vals := fun j v hv => by
  rw [Nat.zero_add, cell_of_row w b j _ _ (0, 0) h]
  have hj : j < 6 := by
    have := (List.getElem?_eq_some_iff.1 hv).1
    simpa [Cl.vals] using this
  rw [← hv]
  match j, hj with
  | 0, _ => rfl
  | 1, _ => rfl
  | 2, _ => rfl
  | 3, _ => rfl
  | 4, _ => rfl
  | 5, _ => rfl

/-- behind a put -/
structure Put (c : Cl) (t t' : Tr) (w w' : World) : Prop where
  lies : t'.In w'
  cells : t'.cells = insH c t.cells
  nodup : t'.blocks.Nodup
  mv : Mv t.blocks t'.blocks w w'

theorem Put.before {c : Cl} {t t' : Tr} {w w1 w2 : World} (h : Put c t t' w1 w2) (hb : Below w.heap.size w w1) (hi : t.In w) : Put c t t' w w2 :=
  ⟨h.lies, h.cells, h.nodup, (Mv.of_below hb hi.lt).trans h.mv⟩
theorem Put.turn {c : Cl} {t t1 t2 : Tr} {w w1 w2 : World} (h : Put c t t1 w w1) (k : Turned t1 t2 w1 w2) : Put c t t2 w w2 :=
  ⟨k.lies, k.cells.trans h.cells, (k.perm.nodup_iff).2 h.nodup, h.mv.trans k.mv⟩
theorem Tr.nodup {b : Nat} {lv : Int} {l : Tr} {c : Cl} {r : Tr} (h : (Tr.node b lv l c r).blocks.Nodup) : b ∉ l.blocks ∧ b ∉ r.blocks ∧ l.blocks.Nodup ∧ r.blocks.Nodup ∧ ∀ k ∈ l.blocks, k ∉ r.blocks := by
  have h1 := List.nodup_cons.1 h
  have h2 := List.nodup_append.1 h1.2
  exact ⟨fun e => h1.1 (by simp [e]), fun e => h1.1 (by simp [e]), h2.1, h2.2.1, fun k hk hr => h2.2.2 k hk k hr rfl⟩
theorem Tr.nodup' {b : Nat} {lv : Int} {l : Tr} {c : Cl} {r : Tr} (h1 : b ∉ l.blocks) (h2 : b ∉ r.blocks) (h3 : l.blocks.Nodup) (h4 : r.blocks.Nodup) (h5 : ∀ k ∈ l.blocks, k ∉ r.blocks) : (Tr.node b lv l c r).blocks.Nodup :=
  List.nodup_cons.2 ⟨fun e => (List.mem_append.1 e).elim h1 h2, List.nodup_append.2 ⟨h3, h4, fun a ha b hb e => h5 a ha (e ▸ hb)⟩⟩
theorem Put.low {c d : Cl} {b : Nat} {lv : Int} {l l' r : Tr} {w1 w2 : World} (hi : (Tr.node b lv l d r).In w1) (hd : (Tr.node b lv l d r).blocks.Nodup) (hu : Up (Tr.node b lv l d r).cells) (hc : c.cmp d < 0) (hp : Put c l l' w1 w2) :
    Put c (.node b lv l d r) (.node b lv l' d r) w1 (w2.setCell ⟨b, 6, none⟩ (.pointer l'.ptr)) := by
  obtain ⟨hN, hl, hr⟩ := hi
  obtain ⟨d1, d2, d3, d4, d5⟩ := Tr.nodup hd
  have hbl' := hp.mv.out hN.lt d1
  have hrl' : ∀ k ∈ l'.blocks, k ∉ r.blocks := fun k hk hkr => (hp.mv.more k hk).elim (fun e => d5 k e hkr) (fun e => by have := hr.lt k hkr; omega)
  have hr2 : r.In w2 := hr.keep fun k hk => hp.mv.block k (hr.lt k hk) (fun e => d5 k e hk)
  have hN2 : Nd w2 b d l.ptr r.ptr lv := hN.keep (hp.mv.block b hN.lt d1)
  refine ⟨⟨hN2.low _, hp.lies.far hbl' _, hr2.far d2 _⟩, ?_, Tr.nodup' hbl' d2 hp.nodup d4 hrl', ?_⟩
  · show l'.cells ++ d :: r.cells = _
    rw [hp.cells]
    exact (insH_low hu hc).symm
  · refine Mv.setCell (hp.mv.wide (fun k hk => by simp [Tr.blocks, hk]) (fun k hk => ?_)) (p := ⟨b, 6, none⟩) (by simp [Tr.blocks]) _
    simp only [Tr.blocks, List.mem_cons, List.mem_append] at hk ⊢
    rcases hk with rfl | hk | hk
    · exact .inr ⟨.inl rfl, hN.lt⟩
    · exact .inl hk
    · exact .inr ⟨.inr (.inr hk), hr.lt k hk⟩
theorem Put.high {c d : Cl} {b : Nat} {lv : Int} {l r r' : Tr} {w1 w2 : World} (hi : (Tr.node b lv l d r).In w1) (hd : (Tr.node b lv l d r).blocks.Nodup) (hu : Up (Tr.node b lv l d r).cells) (hc : d.cmp c < 0) (hp : Put c r r' w1 w2) :
    Put c (.node b lv l d r) (.node b lv l d r') w1 (w2.setCell ⟨b, 7, none⟩ (.pointer r'.ptr)) := by
  obtain ⟨hN, hl, hr⟩ := hi
  obtain ⟨d1, d2, d3, d4, d5⟩ := Tr.nodup hd
  have hbr' := hp.mv.out hN.lt d2
  have hlr' : ∀ k ∈ l.blocks, k ∉ r'.blocks := fun k hk hkr => (hp.mv.more k hkr).elim (fun e => d5 k hk e) (fun e => by have := hl.lt k hk; omega)
  have hl2 : l.In w2 := hl.keep fun k hk => hp.mv.block k (hl.lt k hk) (fun e => d5 k hk e)
  have hN2 : Nd w2 b d l.ptr r.ptr lv := hN.keep (hp.mv.block b hN.lt d2)
  refine ⟨⟨hN2.high _, hl2.far d1 _, hp.lies.far hbr' _⟩, ?_, Tr.nodup' d1 hbr' d3 hp.nodup hlr', ?_⟩
  · show l.cells ++ d :: r'.cells = _
    rw [hp.cells]
    exact (insH_high hu hc).symm
  · refine Mv.setCell (hp.mv.wide (fun k hk => by simp [Tr.blocks, hk]) (fun k hk => ?_)) (p := ⟨b, 7, none⟩) (by simp [Tr.blocks]) _
    simp only [Tr.blocks, List.mem_cons, List.mem_append] at hk ⊢
    rcases hk with rfl | hk | hk
    · exact .inr ⟨.inl rfl, hN.lt⟩
    · exact .inr ⟨.inr (.inl hk), hl.lt k hk⟩
    · exact .inl hk
theorem Put.mid {c d : Cl} {b : Nat} {lv : Int} {l r : Tr} {w w1 : World} (hi : (Tr.node b lv l d r).In w) (hd : (Tr.node b lv l d r).blocks.Nodup) (hc : c.cmp d = 0) (hb : Below w.heap.size w w1) : Put c (.node b lv l d r) (.node b lv l d r) w w1 :=
  ⟨hi.keep fun k hk => hb.block k (hi.lt k hk), (insH_mid hc).symm, hd, Mv.of_below hb hi.lt⟩
theorem Put.leaf {c : Cl} {w w1 : World} (hb : Below w.heap.size w w1) : Put c .leaf (.node w1.heap.size 0 .leaf c .leaf) w (w1.alloc (.cells (nodeVals c none none 0) 61)) :=
  ⟨⟨Nd.new w1 c none none 0, trivial, trivial⟩, rfl, by simp [Tr.blocks], ⟨hb.os, hb.tape, hb.output, by have := hb.size; simp; omega, fun k hk _ => (Below.heap_alloc _ _ _ (Nat.lt_of_lt_of_le hk hb.size)).trans (hb.block k hk),
    fun k hk => by simp only [Tr.blocks, List.append_nil, List.mem_singleton] at hk; subst hk; exact .inr hb.size, fun k hk => by simp only [Tr.blocks, List.append_nil, List.mem_singleton] at hk; subst hk; simp⟩⟩

end Go.Proofs.Ytijicefakfpdcaa
