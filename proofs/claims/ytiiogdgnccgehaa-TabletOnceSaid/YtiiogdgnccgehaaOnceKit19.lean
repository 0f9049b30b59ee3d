/-
  What lies in memory while the law TabletOnce goes. No conditions.
-/
import Derived.Test.YtiiogdgnccgehaaOncePlain19
import Derived.Test.YtiiogdgnccgehaaOnceMap19
import Derived.Test.YtiiogdgnccgehaaAlikeKit19
namespace Go.Proofs.Ytiiogdgnccgehaa
open Go.RowKit Go.Maps

def pairV (p : Nat × Nat) : Value := .agg #[.int .u64 (p.1 : Int), .int .u64 (p.2 : Int)]
def numV (n : Nat) : Value := .int .u64 (n : Int)
theorem pairV_inj {p q : Nat × Nat} (h : pairV p = pairV q) : p = q := by
  obtain ⟨a, b⟩ := p
  obtain ⟨c, d⟩ := q
  unfold pairV at h
  injection h with h
  simp at h
  obtain ⟨h1, h2⟩ := h
  have e1 : a = c := Int.ofNat.inj h1
  have e2 : b = d := Int.ofNat.inj h2
  rw [e1, e2]
theorem numV_inj {n m : Nat} (h : numV n = numV m) : n = m := by
  unfold numV at h
  injection h with _ h
  exact Int.ofNat.inj h
theorem pair_not {p : Nat × Nat} {B : List (Nat × Nat)} (h : p ∉ B) : pairV p ∉ B.map pairV := fun e => by
  obtain ⟨q, hq, he⟩ := List.mem_map.1 e
  exact h (pairV_inj he ▸ hq)
theorem num_not {n : Nat} {J : List Nat} (h : n ∉ J) : numV n ∉ J.map numV := fun e => by
  obtain ⟨q, hq, he⟩ := List.mem_map.1 e
  exact h (numV_inj he ▸ hq)
/-- behind k commands -/
structure OL (w W : World) (g m1 m2 : Nat) (s : Sta) (xs : SA) (B : List (Nat × Nat)) (J : List Nat) (k : Nat) : Prop where
  inv : OInv s B J
  ok : SOk s k
  sv : StV W g s xs
  n0 : NotAt xs g
  n1 : NotAt xs m1
  n2 : NotAt xs m2
  k1 : MapK W 73 m1 (B.map pairV)
  k2 : MapK W 22 m2 (J.map numV)
  bl : Below w.heap.size w W
/-- where all that lies -/
structure OSt (w : World) (g m1 m2 : Nat) : Prop where
  wg : w.heap.size ≤ g
  w1 : w.heap.size ≤ m1
  w2 : w.heap.size ≤ m2
  ne1 : g ≠ m1
  ne2 : g ≠ m2
  ne3 : m1 ≠ m2
/-- inside a round: the maps told apart -/
structure OR (w W : World) (g ga Bx : Nat) (s s' : Sta) (xs xs' : SA) (X : Eff) (A : Option Addr) (a : Nat) (D : Option Addr) (d : Nat) : Prop where
  sv : StV W g s xs
  av : StV W ga s' xs'
  ev : EfV W Bx (ga + 1) X A a D d
  bl : Below w.heap.size w W
section
variable {w W W' : World} {g ga Bx m1 m2 : Nat} {s s' : Sta} {xs xs' : SA} {X : Eff} {A : Option Addr} {a : Nat} {D : Option Addr} {d : Nat} {B : List (Nat × Nat)} {J : List Nat} {k : Nat}
theorem OL.below (h : OL w W g m1 m2 s xs B J k) (hb : Below W.heap.size W W') : OL w W' g m1 m2 s xs B J k := ⟨h.inv, h.ok, h.sv.below hb, h.n0, h.n1, h.n2, h.k1.below hb, h.k2.below hb, h.bl.trans (hb.mono h.bl.size)⟩
theorem OR.below (h : OR w W g ga Bx s s' xs xs' X A a D d) (hb : Below W.heap.size W W') : OR w W' g ga Bx s s' xs xs' X A a D d := ⟨h.sv.below hb, h.av.below hb, h.ev.below hb, h.bl.trans (hb.mono h.bl.size)⟩
theorem EfV.own2 {x : Eff} {gg : Nat} (h : EfV W Bx gg x A a D d) {q : Nat} (hg : W.grownBy W' (some q)) (hq : q ≠ gg) (hqB : q < Bx) (hD : blk D ≠ some q) : EfV W' Bx gg x A a D d :=
  ⟨h.bk.grown hg (fun e => hq (by injection e)), h.oc.grown hg (.inr (fun e => by have := (Own.lt h.oc _ e).1; omega)), h.rf.grownOff hg (.inr hD)⟩
/-- a map is written -/
structure OFree (w : World) (q g ga Bx : Nat) (xs xs' : SA) (D : Option Addr) : Prop where
  w : w.heap.size ≤ q
  g : g ≠ q
  a1 : ga ≠ q
  a2 : q ≠ ga + 1
  b : q < Bx
  xs : NotAt xs q
  xs' : NotAt xs' q
  D : blk D ≠ some q
theorem OR.own (h : OR w W g ga Bx s s' xs xs' X A a D d) {q : Nat} (hg : W.grownBy W' (some q)) (hf : OFree w q g ga Bx xs xs' D) : OR w W' g ga Bx s s' xs xs' X A a D d :=
  ⟨h.sv.own hg hf.g hf.xs, h.av.own hg hf.a1 hf.xs', h.ev.own2 hg hf.a2 hf.b hf.D, below_grown h.bl h.bl.size hg hf.w⟩
/-- one cell's sequence -/
theorem OR.seq (h : OR w W g ga Bx s s' xs xs' X A a D d) {j : Nat} (hj : j < X.cells.length) : ∃ b o, A = some ⟨b, o, none⟩ ∧ W.cell? ⟨b, o + j * 6 + 3, none⟩ = some (.int .u64 X.cells[j].seq) := by
  obtain ⟨b, o, e, hb, hc⟩ := (Own.rd h.ev.oc (by omega)).at_ (vals_ne hj)
  obtain ⟨_, _, _, l3, _, _⟩ := Rd.cell_at (_B := 0) hc j hj
  exact ⟨b, o, e, l3⟩
/-- the round's end: the state is stored -/
theorem OR.next (h : OR w W g ga Bx s s' xs xs' X A a D d) (hst : OSt w g m1 m2) (hinv : OInv s' B J) (hok : SOk s' k) (n0 : NotAt xs' g) (n1 : NotAt xs' m1) (n2 : NotAt xs' m2) (k1 : MapK W 73 m1 (B.map pairV)) (k2 : MapK W 22 m2 (J.map numV))
    (hg : W.grownBy W' (some g)) (hq : Blk 47 W' g (s'.vs xs')) : OL w W' g m1 m2 s' xs' B J k :=
  ⟨hinv, hok, h.av.store hg n0 hq, n0, n1, n2, k1.grown hg (fun e => hst.ne1 (by injection e)), k2.grown hg (fun e => hst.ne2 (by injection e)), below_grown h.bl h.bl.size hg hst.wg⟩
theorem once_mid {w5 wc : World} {za : Nat} (hI : OL w w5 g m1 m2 s xs B J k) (hfr : SFrom xs xs' w5.heap.size za) (hV : StV wc za s' xs' ∧ EfV wc w5.heap.size (za + 1) X A a D d ∧ Below w5.heap.size w5 wc) (hD : ∀ b, blk D = some b → w5.heap.size ≤ b) (hB : w5.heap.size ≤ za) (hst : OSt w g m1 m2) :
    (NotAt xs' g ∧ NotAt xs' m1 ∧ NotAt xs' m2) ∧ OR w wc g za w5.heap.size s s' xs xs' X A a D d ∧ MapK wc 73 m1 (B.map pairV) ∧ MapK wc 22 m2 (J.map numV) ∧ OFree w m1 g za w5.heap.size xs xs' D ∧ OFree w m2 g za w5.heap.size xs xs' D := by
  have a0 := hI.sv.bk.lt
  have a1 := hI.k1.lt
  have a2 := hI.k2.lt
  have hi := hI.below hV.2.2
  have n0 := hfr.notAt hI.n0 a0
  have n1 := hfr.notAt hI.n1 a1
  have n2 := hfr.notAt hI.n2 a2
  exact ⟨⟨n0, n1, n2⟩, ⟨hi.sv, hV.1, hV.2.1, hi.bl⟩, hi.k1, hi.k2, ⟨hst.w1, hst.ne1, by omega, by omega, a1, hI.n1, n1, fun e => by have := hD _ e; omega⟩, ⟨hst.w2, hst.ne2, by omega, by omega, a2, hI.n2, n2, fun e => by have := hD _ e; omega⟩⟩
end
end Go.Proofs.Ytiiogdgnccgehaa
