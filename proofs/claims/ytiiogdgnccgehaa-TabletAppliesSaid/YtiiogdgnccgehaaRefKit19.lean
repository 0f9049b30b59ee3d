/-
  Inside the methods of the reference's state, and what they give. No conditions.
-/
import Derived.Test.YtiiogdgnccgehaaRefSta19
namespace Go.Proofs.Ytiiogdgnccgehaa
open Go.RowKit

/-- what a method gives -/
def ROut (w : World) (xs : SA) (DC : Option Addr) (r : Sta × Eff) (e : Ending) (w' : World) : Prop :=
  ∃ (ys : SA) (A : Option Addr) (k : Nat) (D : Option Addr) (m : Nat), e = .returned (.tuple #[.agg (r.1.vs ys).toArray, .agg (r.2.vs A k D m).toArray]) ∧ StaIn w' w'.heap.size r.1 ys ∧ SFrom xs ys w.heap.size w'.heap.size ∧ Rd w' w'.heap.size A (vals r.2.cells) ∧ Rd w' w'.heap.size D (u32s r.2.files) ∧ Below w.heap.size w w' ∧ (∀ b, blk A = some b → w.heap.size ≤ b) ∧ (D = none ∨ D = DC)
/-- inside a method: the state in the first block, the answers' in q and behind it -/
structure RM (w W : World) (q : Nat) (s : Sta) (xs : SA) : Prop where
  bl : Below w.heap.size w W
  st : Blk 51 W w.heap.size (s.vs xs)
  a : Blk 51 W q staz
  e : Blk 56 W (q + 1) effz
  q0 : w.heap.size < q
/-- ahead of the answer -/
structure RF (w W : World) (q : Nat) (r : Sta × Eff) (xs ys : SA) (A : Option Addr) (k : Nat) (D : Option Addr) (m : Nat) : Prop where
  bl : Below w.heap.size w W
  st : Blk 51 W w.heap.size (r.1.vs ys)
  a : Blk 51 W q staz
  e : Blk 56 W (q + 1) effz
  q0 : w.heap.size < q
  sin : StaIn W W.heap.size r.1 ys
  frm : SFrom xs ys w.heap.size W.heap.size
  na : NotAt ys q
  ne : NotAt ys (q + 1)
  rA : Rd W W.heap.size A (vals r.2.cells)
  rD : Rd W W.heap.size D (u32s r.2.files)
  oA : blk A ≠ some q ∧ blk A ≠ some (q + 1)
  oD : blk D ≠ some q ∧ blk D ≠ some (q + 1)
  pA : ∀ b, blk A = some b → w.heap.size ≤ b
section
variable {w W W' : World} {q : Nat} {s : Sta} {xs ys : SA} {r : Sta × Eff} {A : Option Addr} {k : Nat} {D : Option Addr} {m : Nat}
theorem RM.below (h : RM w W q s xs) (hb : Below W.heap.size W W') : RM w W' q s xs :=
  ⟨h.bl.trans (hb.mono h.bl.size), h.st.below hb h.st.lt, h.a.below hb h.a.lt, h.e.below hb h.e.lt, h.q0⟩
theorem RM.own (h : RM w W q s xs) {row : Option Nat} (hg : W.grownBy W' row) (hq : ∀ b, row = some b → q + 1 < b) : RM w W' q s xs :=
  have h0 := h.q0
  ⟨h.bl.grown hg h.bl.size (fun b e => by have := hq b e; omega), h.st.grown hg (fun e => by have := hq _ e; omega), h.a.grown hg (fun e => by have := hq _ e; omega), h.e.grown hg (fun e => by have := hq _ e; omega), h0⟩
theorem RM.set (h : RM w W q s xs) (j : Nat) (v : Value) {s' : Sta} {ys : SA} (hs : (s.vs xs).set j v = s'.vs ys) : RM w (W.setCell ⟨w.heap.size, j, none⟩ v) q s' ys := by
  have hg := grown_set W w.heap.size j v
  have h0 := h.q0
  refine ⟨below_grown h.bl h.bl.size hg (Nat.le_refl _), ?_, h.a.grown hg (fun e => by injection e; omega), h.e.grown hg (fun e => by injection e; omega), h0⟩
  rw [← hs]
  exact h.st.set j v
theorem RM.drew (h : RM w W q s xs) : RM w W.drew q s xs := ⟨h.bl.drew, h.st, h.a, h.e, h.q0⟩
theorem RF.drew (h : RF w W q r xs ys A k D m) : RF w W.drew q r xs ys A k D m := ⟨h.bl.drew, h.st, h.a, h.e, h.q0, ⟨h.sin.rb, h.sin.rj, h.sin.rc⟩, h.frm, h.na, h.ne, h.rA, h.rD, h.oA, h.oD, h.pA⟩
theorem blk_none (g : Nat) : blk none ≠ some g := fun h => by cases h
theorem pa_none (B : Nat) : ∀ b, blk none = some b → B ≤ b := fun b h => by cases h
/-- nothing is done -/
theorem RM.same (h : RM w W q s xs) (hin : StaIn w w.heap.size s xs) (hi : InW w xs) (e : Int) (d : Bool) : RF w W q (s, ⟨e, d, [], []⟩) xs xs none 0 none 0 :=
  have h0 := h.q0
  ⟨h.bl, h.st, h.a, h.e, h0, hin.grown h.bl, SFrom.refl _ _ _, hi.notAt (by omega), hi.notAt (by omega), Rd.nil, Rd.nil, ⟨blk_none _, blk_none _⟩, ⟨blk_none _, blk_none _⟩, pa_none _⟩
theorem StaIn.off (h : StaIn W W.heap.size s xs) {g : Nat} (hg : W.grownBy W' (some g)) (hn : NotAt xs g) : StaIn W' W'.heap.size s xs := ⟨h.rb.grownOff hg (.inr hn.A), h.rj.grownOff hg (.inr hn.D), h.rc.grownOff hg (.inr hn.F)⟩
theorem SFrom.wider {B E E' : Nat} (h : SFrom xs ys B E) (he : E ≤ E') : SFrom xs ys B E' := by
  have fr : ∀ {X Y : Option Addr}, From X Y B E → From X Y B E' := fun hh b hb => by
    rcases hh b hb with h | h
    · exact .inl h
    · exact .inr (by omega)
  exact ⟨fr h.A, fr h.D, fr h.F⟩
theorem RF.out {W1 W2 : World} {DC : Option Addr} (h : RF w W q r xs ys A k D m) (h1 : W.grownBy W1 (some q)) (h2 : W1.grownBy W2 (some (q + 1))) (hD : D = none ∨ D = DC) :
    ROut w xs DC r (.returned (.tuple #[.agg (r.1.vs ys).toArray, .agg (r.2.vs A k D m).toArray])) W2 := by
  have h0 := h.q0
  have s1 := h.bl.size
  have s2 := h1.size
  have hb := below_grown (below_grown h.bl h.bl.size h1 (by omega)) (Nat.le_trans s1 s2) h2 (by omega)
  exact ⟨ys, A, k, D, m, rfl, (h.sin.off h1 h.na).off h2 h.ne, h.frm.wider (Nat.le_trans s2 h2.size), (h.rA.grownOff h1 (.inr h.oA.1)).grownOff h2 (.inr h.oA.2), (h.rD.grownOff h1 (.inr h.oD.1)).grownOff h2 (.inr h.oD.2), hb, h.pA, hD⟩
end
/-- a state and the answers' blocks -/
theorem RM.start3 (w : World) (s : Sta) (xs : SA) : RM w (((w.alloc (.cells (s.vs xs).toArray 51)).alloc (.cells staz.toArray 51)).alloc (.cells effz.toArray 56)) (w.heap.size + 1) s xs := by
  obtain ⟨b1, b2, b3⟩ := three_blocks w 51 51 56 (s.vs xs) staz effz
  refine ⟨b3, ?_, b1, b2, by omega⟩
  have h1 := Blk.new 51 w (s.vs xs)
  have h2 := h1.below (below_al _ (.cells staz.toArray 51)) h1.lt
  exact h2.below (below_al _ _) h2.lt
/-- and a command between -/
theorem RM.start4 (w : World) (s : Sta) (xs : SA) (vs : List Value) : RM w ((((w.alloc (.cells (s.vs xs).toArray 51)).alloc (.cells vs.toArray 34)).alloc (.cells staz.toArray 51)).alloc (.cells effz.toArray 56)) (w.heap.size + 1 + 1) s xs ∧
    Blk 34 ((((w.alloc (.cells (s.vs xs).toArray 51)).alloc (.cells vs.toArray 34)).alloc (.cells staz.toArray 51)).alloc (.cells effz.toArray 56)) (w.heap.size + 1) vs := by
  have hs : (w.alloc (.cells (s.vs xs).toArray 51)).heap.size = w.heap.size + 1 := World.size_alloc _ _
  have ha := below_al w (.cells (s.vs xs).toArray 51)
  have h1 := Blk.new 51 w (s.vs xs)
  generalize w.alloc (.cells (s.vs xs).toArray 51) = W1 at *
  obtain ⟨b1, b2, b3⟩ := three_blocks W1 34 51 56 vs staz effz
  have h2 := Blk.new 34 W1 vs
  rw [hs] at b1 b2 h2
  have h3 := h2.below (below_al _ (.cells staz.toArray 51)) h2.lt
  exact ⟨⟨ha.trans (b3.mono ha.size), h1.below b3 h1.lt, b1, b2, by omega⟩, h3.below (below_al _ _) h3.lt⟩
end Go.Proofs.Ytiiogdgnccgehaa
