/-
  Two tables of the call's own, and a slice of cells beside them.
-/
import Derived.Test.YtigbeicihenolaaLawSpans12
import Derived.Test.YtigbeicihenolaaCellRise
namespace Go.Proofs.Ytigbeicihenolaa
open Go.RowKit Go.Shelf
attribute [local go_sem ↓] Go.wp_at_zero Go.wp_at_succ

/-- a cell that may be put, if its names may -/
def bare (c : Cl) : Cl := { c with del := false, val := ⟨#[]⟩ }
/-- two tables, and a slice of their own -/
def Ord (w W : World) (ta tb : Nat) (la lb gl : List Cl) (A : Option Addr) (c : Nat) : Prop :=
  ∃ Sa Ta Sb Tb, Tbl W Sa ta Ta la ∧ Tbl W Sb tb Tb lb ∧ (∀ k ∈ Sa, k ∉ Sb) ∧ (∀ k, blk A = some k → k ∉ Sa ∧ k ∉ Sb) ∧ Own W w.heap.size 31 6 A gl.length c (vals gl) ∧ Below w.heap.size w W ∧ (∀ k ∈ Sa, w.heap.size ≤ k) ∧ (∀ k ∈ Sb, w.heap.size ≤ k)
theorem Ord.b {w W : World} {ta tb : Nat} {la lb gl : List Cl} {A : Option Addr} {c : Nat} (h : Ord w W ta tb la lb gl A c) : Below w.heap.size w W := by obtain ⟨_, _, _, _, _, _, _, _, _, h, _⟩ := h; exact h
theorem Ord.row {w W : World} {ta tb : Nat} {la lb gl : List Cl} {A : Option Addr} {c : Nat} (h : Ord w W ta tb la lb gl A c) : Own W w.heap.size 31 6 A gl.length c (vals gl) := by obtain ⟨_, _, _, _, _, _, _, _, h, _⟩ := h; exact h
theorem Ord.below {w W W' : World} {ta tb : Nat} {la lb gl : List Cl} {A : Option Addr} {c : Nat} (h : Ord w W ta tb la lb gl A c) (hb : Below W.heap.size W W') : Ord w W' ta tb la lb gl A c := by
  obtain ⟨Sa, Ta, Sb, Tb, h1, h2, h3, h4, h5, h6, h7, h8⟩ := h
  exact ⟨Sa, Ta, Sb, Tb, h1.below hb, h2.below hb, h3, h4, Own.below h5 hb, h6.trans (hb.mono h6.size), h7, h8⟩
theorem Ord.putA {w W : World} {ta tb : Nat} {la lb gl : List Cl} {A : Option Addr} {c : Nat} (h : Ord w W ta tb la lb gl A c) (x : Cl) (hl : la.length ≤ 1000) (hy : bytesOf la ≤ 1000000) :
    Calls Try.prog 10 #[.pointer (some ⟨ta, 0, none⟩), x.agg] W fun e W' => e = .returned (.int .i64 (putE la x)) ∧ Ord w W' ta tb (put la x) lb gl A c := by
  obtain ⟨Sa, Ta, Sb, Tb, h1, h2, h3, h4, h5, h6, h7, h8⟩ := h
  refine (putT_any W Sa ta Ta la x h1 hl hy).mono fun e W' ⟨S', T', k1, k2, k3⟩ => ⟨k1, S', T', Sb, Tb, k2, h2.keep fun k hk => k3.block k (h2.lt k hk) (fun e => h3 k e hk), fun k hk hb => (k3.more k hk).elim (fun e => h3 k e hb) (fun e => by have := h2.lt k hb; omega),
    fun k hk => ⟨k3.out (h5.lt k hk).2 (h4 k hk).1, (h4 k hk).2⟩, h5.keep fun k hk => k3.block k (h5.lt k hk).2 (h4 k hk).1, k3.below h6 h6.size h7, k3.above h6.size h7, h8⟩
theorem Ord.putA' {w W0 W : World} {ta tb : Nat} {la lb gl : List Cl} {A : Option Addr} {c : Nat} (h : Ord w W0 ta tb la lb gl A c) (hb : Below W0.heap.size W0 W) (x : Cl) (hl : la.length ≤ 1000) (hy : bytesOf la ≤ 1000000) :
    Calls Try.prog 10 #[.pointer (some ⟨ta, 0, none⟩), x.agg] W fun e W' => e = .returned (.int .i64 (putE la x)) ∧ Ord w W' ta tb (put la x) lb gl A c ∧ ∀ k, W0.heap.size ≤ k → k < W.heap.size → W'.heap[k]? = W.heap[k]? := by
  obtain ⟨Sa, Ta, Sb, Tb, h1, h2, h3, h4, h5, h6, h7, h8⟩ := h
  have h1' := h1.below hb
  have h2' := h2.below hb
  have h5' := Own.below h5 hb
  have h6' := h6.trans (hb.mono h6.size)
  refine (putT_any W Sa ta Ta la x h1' hl hy).mono fun e W' ⟨S', T', k1, k2, k3⟩ => ⟨k1, ⟨S', T', Sb, Tb, k2, h2'.keep fun k hk => k3.block k (h2'.lt k hk) (fun e => h3 k e hk), fun k hk hb => (k3.more k hk).elim (fun e => h3 k e hb) (fun e => by have := h2'.lt k hb; omega),
    fun k hk => ⟨k3.out (h5'.lt k hk).2 (h4 k hk).1, (h4 k hk).2⟩, h5'.keep fun k hk => k3.block k (h5'.lt k hk).2 (h4 k hk).1, k3.below h6' h6'.size h7, k3.above h6'.size h7, h8⟩, fun k hk hkW => k3.block k hkW (fun e => by have := h1.lt k e; omega)⟩
theorem Ord.flip {w W : World} {ta tb : Nat} {la lb gl : List Cl} {A : Option Addr} {c : Nat} (h : Ord w W ta tb la lb gl A c) : Ord w W tb ta lb la gl A c := by
  obtain ⟨Sa, Ta, Sb, Tb, h1, h2, h3, h4, h5, h6, h7, h8⟩ := h
  exact ⟨Sb, Tb, Sa, Ta, h2, h1, fun k hk hb => h3 k hb hk, fun k hk => ⟨(h4 k hk).2, (h4 k hk).1⟩, h5, h6, h8, h7⟩
theorem Ord.putB {w W : World} {ta tb : Nat} {la lb gl : List Cl} {A : Option Addr} {c : Nat} (h : Ord w W ta tb la lb gl A c) (x : Cl) (hl : lb.length ≤ 1000) (hy : bytesOf lb ≤ 1000000) :
    Calls Try.prog 10 #[.pointer (some ⟨tb, 0, none⟩), x.agg] W fun e W' => e = .returned (.int .i64 (putE lb x)) ∧ Ord w W' ta tb la (put lb x) gl A c :=
  (h.flip.putA x hl hy).mono fun _ _ ⟨h1, h2⟩ => ⟨h1, h2.flip⟩
theorem Ord.app {w W W' : World} {ta tb : Nat} {la lb gl gl' : List Cl} {A A' : Option Addr} {c c' : Nat} (h : Ord w W ta tb la lb gl A c) (ho : Own W' w.heap.size 31 6 A' gl'.length c' (vals gl')) (hg : W.grownBy W' (blk A)) (ha : blk A' = blk A ∨ blk A' = some W.heap.size) :
    Ord w W' ta tb la lb gl' A' c' := by
  obtain ⟨Sa, Ta, Sb, Tb, h1, h2, h3, h4, h5, h6, h7, h8⟩ := h
  refine ⟨Sa, Ta, Sb, Tb, h1.keep fun k hk => hg.block k (h1.lt k hk) (fun e => (h4 k e.symm).1 hk), h2.keep fun k hk => hg.block k (h2.lt k hk) (fun e => (h4 k e.symm).2 hk), h3, fun k hk => ?_, ho, Own.grow h5 h6 h6.size (Nat.le_refl _) hg, h7, h8⟩
  rcases ha with e | e
  · rw [e] at hk; exact h4 k hk
  · rw [e] at hk
    injection hk with hk
    subst hk
    exact ⟨fun e => Nat.lt_irrefl _ (h1.lt _ e), fun e => Nat.lt_irrefl _ (h2.lt _ e)⟩
theorem Ord.a {w W : World} {ta tb : Nat} {la lb gl : List Cl} {A : Option Addr} {c : Nat} (h : Ord w W ta tb la lb gl A c) : Has w W ta la := by
  obtain ⟨Sa, Ta, Sb, Tb, h1, h2, h3, h4, h5, h6, h7, h8⟩ := h
  exact ⟨Sa, Ta, h1, h6, h7⟩
theorem Ord.new {w W W' : World} {ta tb : Nat} (ha : Has w W ta []) (h : Tbl W' [tb] tb .leaf []) (hb : Below W.heap.size W W') (htb : tb = W.heap.size) : Ord w W' ta tb [] [] [] none 0 := by
  obtain ⟨Sa, Ta, h1, h6, h7⟩ := ha
  refine ⟨Sa, Ta, [tb], .leaf, h1.below hb, h, fun k hk hb => ?_, fun k hk => (by cases hk), Own.nil, h6.trans (hb.mono h6.size), h7, fun k hk => ?_⟩
  · rw [List.mem_singleton] at hb
    have := h1.lt k hk
    omega
  · rw [List.mem_singleton] at hk
    have := h6.size
    omega

/-- what the first table and the good cells are to one another -/
structure Good (la gl : List Cl) (k : Nat) : Prop where
  up : Up la
  perm : gl.Perm la
  may : ∀ x ∈ la, may x = true
  le : la.length ≤ k
theorem Good.nil : Good [] [] 0 := ⟨List.Pairwise.nil, List.Perm.refl _, fun x h => by (cases h), Nat.le_refl _⟩
theorem Good.yes {la gl : List Cl} {k : Nat} (h : Good la gl k) (x : Cl) (hp : isPut la x = true) : Good (put la x) (gl ++ [x]) (k + 1) := by
  obtain ⟨e, hm, hh⟩ := put_is hp
  refine ⟨up_put h.up x, ?_, fun y hy => ?_, ?_⟩
  · rw [e]
    exact (List.perm_append_comm.trans (List.Perm.cons x h.perm)).trans (perm_ins x la).symm
  · rcases mem_put hy with rfl | hy
    · exact hm
    · exact h.may y hy
  · rw [e, length_ins]; have := h.le; omega
theorem Good.no {la gl : List Cl} {k : Nat} (h : Good la gl k) (x : Cl) (hp : isPut la x = false) : Good (put la x) gl (k + 1) := by
  rw [put_not hp]
  exact ⟨h.up, h.perm, h.may, by have := h.le; omega⟩
theorem putE_is (la : List Cl) (x : Cl) : decide (putE la x = 0) = isPut la x := by
  unfold putE isPut
  cases may x <;> cases has x la <;> rfl
theorem Good.bytes {la gl : List Cl} {k : Nat} (h : Good la gl k) : bytesOf la ≤ 200 * k := by
  have h1 := sum_le la h.may
  have h2 := h.le
  omega
theorem Good.lone {la gl : List Cl} {k : Nat} (h : Good la gl k) : Lone gl := fun x hx y hy e => up_lone h.up x (h.perm.mem_iff.1 hx) y (h.perm.mem_iff.1 hy) e
/-- what the second table has -/
structure Sec (gl pre lb : List Cl) (k : Nat) : Prop where
  just : Just pre lb
  sub : ∀ x ∈ pre, x ∈ gl
  le : lb.length ≤ k
theorem Sec.nil (gl : List Cl) : Sec gl [] [] 0 := ⟨Just.nil, fun x h => by (cases h), Nat.le_refl _⟩
theorem Sec.put {la gl pre lb : List Cl} {k n : Nat} (h : Sec gl pre lb k) (hg : Good la gl n) {x : Cl} (hx : x ∈ gl) : Sec gl (pre ++ [x]) (put lb x) (k + 1) := by
  refine ⟨h.just.put hg.lone h.sub hx (hg.may x (hg.perm.mem_iff.1 hx)), fun y hy => ?_, ?_⟩
  · rcases List.mem_append.1 hy with hy | hy
    · exact h.sub y hy
    · rw [List.mem_singleton.1 hy]; exact hx
  · have h1 := length_put lb x
    have h2 := h.le
    split at h1 <;> omega
theorem Sec.bytes {la gl pre lb : List Cl} {k n : Nat} (h : Sec gl pre lb k) (hg : Good la gl n) : bytesOf lb ≤ 200 * k := by
  have h1 := sum_le lb fun x hx => hg.may x (hg.perm.mem_iff.1 (h.sub x ((h.just.2 x).1 hx)))
  have h2 := h.le
  omega
theorem Sec.end_ {la gl pre lb : List Cl} {k n : Nat} (h : Sec gl pre lb k) (hg : Good la gl n) (ha : ∀ x ∈ gl, x ∈ pre) : lb = la :=
  Just.unique (pre := pre) (pre' := gl) h.just ⟨hg.up, fun x => hg.perm.mem_iff.symm⟩ fun x => ⟨h.sub x, ha x⟩
theorem up_rising {l : List Cl} (h : Up l) : rising l = true := (rising_iff l).2 fun i hi => List.pairwise_iff_getElem.1 h i (i + 1) (by omega) hi (by omega)
/-- those that were put a third time around -/
def Went (gl pre : List Cl) (b i : Nat) : Prop := ∀ j, j < i → ∀ h : (j + b) % gl.length < gl.length, gl[(j + b) % gl.length] ∈ pre
theorem Went.all {gl pre : List Cl} {b : Nat} (h : Went gl pre b gl.length) : ∀ x ∈ gl, x ∈ pre := fun x hx => by
  obtain ⟨j, hj, rfl⟩ := List.getElem_of_mem hx
  obtain ⟨i, hi, he⟩ := all_hit gl.length b j hj
  have := h i hi (by rw [he]; exact hj)
  simp only [he] at this
  exact this
theorem Went.succ {gl pre : List Cl} {b i : Nat} (h : Went gl pre b i) {x : Cl} (hlt : (i + b) % gl.length < gl.length) (hx : gl[(i + b) % gl.length] = x) : Went gl (pre ++ [x]) b (i + 1) := fun j hj hk => by
  by_cases e : j = i
  · subst e; simp [hx]
  · exact List.mem_append_left _ (h j (by omega) hk)
end Go.Proofs.Ytigbeicihenolaa
