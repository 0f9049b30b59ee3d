/-
  What lies in memory while two states go side by side. No conditions.
-/
import Derived.Test.YtiiogdgnccgehaaAlikePlain19
namespace Go.Proofs.Ytiiogdgnccgehaa
open Go.RowKit

theorem StV.put {W W' : World} {g : Nat} {s : Sta} {xs : SA} (hsi : StaIn W W.heap.size s xs) (hi : InW W xs) (hg : W.grownBy W' (some g)) (hn : NotAt xs g) (hq : Blk 47 W' g (s.vs xs)) : StV W' g s xs := ⟨hq, hsi.own hg hn, hi.mono hg.size⟩
/-- two states, in g and g + 1, behind k texts -/
structure AL (w W : World) (g : Nat) (s r : Sta) (xs ys : SA) (k : Nat) : Prop where
  rel : Rel s r
  oks : SOk s k
  okr : SOk r (3 * k)
  sv : StV W g s xs
  rv : StV W (g + 1) r ys
  s1 : NotAt xs g
  s2 : NotAt xs (g + 1)
  r1 : NotAt ys g
  r2 : NotAt ys (g + 1)
  bl : Below w.heap.size w W
  hg : w.heap.size ≤ g
section
variable {w W W' : World} {g : Nat} {s r : Sta} {xs ys : SA} {k : Nat}
theorem AL.below (h : AL w W g s r xs ys k) (hb : Below W.heap.size W W') : AL w W' g s r xs ys k :=
  ⟨h.rel, h.oks, h.okr, h.sv.below hb, h.rv.below hb, h.s1, h.s2, h.r1, h.r2, h.bl.trans (hb.mono h.bl.size), h.hg⟩
theorem AL.own (h : AL w W g s r xs ys k) {q : Nat} (hg : W.grownBy W' (some q)) (h1 : g ≠ q) (h2 : g + 1 ≠ q) (h3 : NotAt xs q) (h4 : NotAt ys q) (hq : w.heap.size ≤ q) : AL w W' g s r xs ys k :=
  ⟨h.rel, h.oks, h.okr, h.sv.own hg h1 h3, h.rv.own hg h2 h4, h.s1, h.s2, h.r1, h.r2, below_grown h.bl h.bl.size hg hq, h.hg⟩
/-- the second state, while texts that are none come to it -/
structure AR (w W : World) (g : Nat) (s r : Sta) (xs ys : SA) (k m : Nat) : Prop where
  rel : Rel s r
  oks : SOk s k
  okr : SOk r m
  sv : StV W g s xs
  rv : StV W (g + 1) r ys
  s1 : NotAt xs g
  s2 : NotAt xs (g + 1)
  r1 : NotAt ys g
  r2 : NotAt ys (g + 1)
  bl : Below w.heap.size w W
  hg : w.heap.size ≤ g
theorem AL.toR (h : AL w W g s r xs ys k) : AR w W g s r xs ys k (3 * k) := ⟨h.rel, h.oks, h.okr, h.sv, h.rv, h.s1, h.s2, h.r1, h.r2, h.bl, h.hg⟩
theorem SOk.more {s : Sta} {n m : Nat} (h : SOk s n) (hm : n ≤ m) : SOk s m := ⟨Nat.le_trans h.ix hm, Nat.le_trans h.ep hm, Nat.le_trans h.lb hm, Nat.le_trans h.lj hm, Nat.le_trans h.lc hm, h.rise⟩
theorem AR.more {m m' : Nat} (h : AR w W g s r xs ys k m) (hm : m ≤ m') : AR w W g s r xs ys k m' := ⟨h.rel, h.oks, h.okr.more hm, h.sv, h.rv, h.s1, h.s2, h.r1, h.r2, h.bl, h.hg⟩
theorem AR.below {m : Nat} (h : AR w W g s r xs ys k m) (hb : Below W.heap.size W W') : AR w W' g s r xs ys k m :=
  ⟨h.rel, h.oks, h.okr, h.sv.below hb, h.rv.below hb, h.s1, h.s2, h.r1, h.r2, h.bl.trans (hb.mono h.bl.size), h.hg⟩
theorem AR.drew {m : Nat} (h : AR w W g s r xs ys k m) : AR w W.drew g s r xs ys k m := h.below ((Below.refl _ _).drew)
theorem AR.own {m : Nat} (h : AR w W g s r xs ys k m) {q : Nat} (hg : W.grownBy W' (some q)) (h1 : g ≠ q) (h2 : g + 1 ≠ q) (h3 : NotAt xs q) (h4 : NotAt ys q) (hq : w.heap.size ≤ q) : AR w W' g s r xs ys k m :=
  ⟨h.rel, h.oks, h.okr, h.sv.own hg h1 h3, h.rv.own hg h2 h4, h.s1, h.s2, h.r1, h.r2, below_grown h.bl h.bl.size hg hq, h.hg⟩
/-- the second state becomes another one: W: ahead of Apply, W1: behind it, W': it is stored -/
theorem AR.bad {m : Nat} {W1 : World} {ys' : SA} {t : ByteArray} (h : AR w W g s r xs ys k m) (ht : t.size = 0 ∨ (decC t).2 ≠ 0) (hsi : StaIn W1 W1.heap.size (applyS r t).1 ys') (hfr : SFrom ys ys' W.heap.size W1.heap.size) (hb : Below W.heap.size W W1) (hg : W1.grownBy W' (some (g + 1)))
    (hq : Blk 47 W' (g + 1) ((applyS r t).1.vs ys')) : AR w W' g s (applyS r t).1 xs ys' k (m + 1) := by
  have h1 := h.below hb
  have hlt := h.rv.bk.lt
  have hi := hfr.inw h.rv.inw hb.size
  have hn1 := hfr.notAt h.r1 (by omega)
  have hn2 := hfr.notAt h.r2 hlt
  have hgs := h.hg
  exact ⟨rel_bad h.rel ht, h.oks, sok_next h.okr t, h1.sv.own hg (by omega) h.s2, StV.put hsi hi hg hn2 hq, h.s1, h.s2, hn1, hn2, below_grown h1.bl h1.bl.size hg (by omega), h.hg⟩
/-- the one state goes on -/
theorem AR.next {m : Nat} {s' r' : Sta} {xs' ys' : SA} {W1 W2 : World} {ga gb : Nat} (h : AR w W g s r xs ys k m) (hrel : Rel s' r') (ho : SOk s' (k + 1)) (hm : SOk r' (m + 1)) (ha : StV W ga s' xs') (hb : StV W gb r' ys') (a1 : NotAt xs' g) (a2 : NotAt xs' (g + 1)) (b1 : NotAt ys' g) (b2 : NotAt ys' (g + 1))
    (h1 : W.grownBy W1 (some g)) (q1 : Blk 47 W1 g (s'.vs xs')) (h2 : W1.grownBy W2 (some (g + 1))) (q2 : Blk 47 W2 (g + 1) (r'.vs ys')) : AR w W2 g s' r' xs' ys' (k + 1) (m + 1) := by
  have hgs := h.hg
  have c1 := ha.store h1 a1 q1
  have c2 : StaIn W1 W1.heap.size r' ys' := hb.sin.own h1 b1
  have c3 := StV.put c2 (hb.inw.mono h1.size) h2 b2 q2
  have hbl := below_grown (below_grown h.bl h.bl.size h1 hgs) (Nat.le_trans h.bl.size h1.size) h2 (by omega)
  exact ⟨hrel, ho, hm, c1.own h2 (by omega) a2, c3, a1, a2, b1, b2, hbl, hgs⟩
theorem AL.start {w2 w3 w4 : World} (hb : Below w.heap.size w w2) (h1 : Blk 47 w3 w2.heap.size (emptyS.vs nowhere)) (hb3 : Below w2.heap.size w2 w3) (hz : w3.heap.size = w2.heap.size + 1) (h2 : Blk 47 w4 w3.heap.size (emptyS.vs nowhere)) (hb4 : Below w3.heap.size w3 w4) : AL w w4 w2.heap.size emptyS emptyS nowhere nowhere 0 := by
  have e2 : Blk 47 w4 (w2.heap.size + 1) (emptyS.vs nowhere) := by rw [← hz]; exact h2
  exact ⟨Rel.refl _, sok_zero, sok_zero, ⟨h1.below hb4 h1.lt, sta_none w4, inw_none w4⟩, ⟨e2, sta_none w4, inw_none w4⟩, NotAt.none _, NotAt.none _, NotAt.none _, NotAt.none _, hb.trans ((hb3.trans (hb4.mono hb3.size)).mono hb.size), hb.size⟩
end
/-- both effects told, while their cells' sequences are struck: j1 of the one, j2 of the other -/
structure IL (w W : World) (g ga gb Bx By : Nat) (s r s' r' : Sta) (xs ys xs' ys' : SA) (k m : Nat) (x y : Eff) (A : Option Addr) (a : Nat) (D : Option Addr) (d : Nat) (A' : Option Addr) (a' : Nat) (D' : Option Addr) (d' : Nat) (j1 j2 : Nat) : Prop where
  al : AR w W g s r xs ys k m
  sv : StV W ga s' xs'
  rv : StV W gb r' ys'
  bx : Blk 53 W (ga + 1) (x.vs A a D d)
  by_ : Blk 53 W (gb + 1) (y.vs A' a' D' d')
  ox : OwnC W Bx A x.cells.length a (seqTo 0 x.cells j1)
  oy : OwnC W By A' y.cells.length a' (seqTo 0 y.cells j2)
  fx : Rd W W.heap.size D (u32s x.files)
  fy : Rd W W.heap.size D' (u32s y.files)
/-- a block that holds nothing of all that but cells -/
structure Free (q : Nat) (w : World) (g ga gb : Nat) (xs ys xs' ys' : SA) : Prop where
  w : w.heap.size ≤ q
  g1 : g ≠ q
  g2 : g + 1 ≠ q
  a1 : ga ≠ q
  a2 : ga + 1 ≠ q
  b1 : gb ≠ q
  b2 : gb + 1 ≠ q
  xs : NotAt xs q
  ys : NotAt ys q
  xs' : NotAt xs' q
  ys' : NotAt ys' q
section
variable {w W W' : World} {g ga gb Bx By : Nat} {s r s' r' : Sta} {xs ys xs' ys' : SA} {k m : Nat} {x y : Eff} {A : Option Addr} {a : Nat} {D : Option Addr} {d : Nat} {A' : Option Addr} {a' : Nat} {D' : Option Addr} {d' : Nat} {j1 j2 : Nat}
theorem Cl.len6 (c : Cl) : c.vals.length = 6 := rfl
/-- one sequence struck -/
theorem own_strike {W : World} {B n c : Nat} {A : Option Addr} {l : List Cl} {j : Nat} (h : OwnC W B A n c (seqTo 0 l j)) (hj : j < l.length) (hn : l.length = n) :
    ∃ q, A = some ⟨q, 0, none⟩ ∧ B ≤ q ∧ q < W.heap.size ∧ (∃ v, W.cell? ⟨q, j * 6 + 3, none⟩ = some v) ∧ W.frozen? ⟨q, j * 6 + 3, none⟩ = false ∧
      OwnC (W.setCell ⟨q, j * 6 + 3, none⟩ (.int .u64 0)) B A n c (seqTo 0 l (j + 1)) ∧ W.grownBy (W.setCell ⟨q, j * 6 + 3, none⟩ (.int .u64 0)) (some q) := by
  obtain ⟨q, S, rfl, hb, hS, hnc, hcm, hln, har⟩ := Own.arr (enc := Cl.vals) Cl.len6 h (by omega) (by omega)
  subst hS
  have hil : j < (seqTo 0 l j).length := by rw [seqTo_len]; exact hj
  have hth := har.there_at hil 3 (by omega)
  have hsf := har.setField Cl.len6 hil (show 3 < 6 by omega) (.int .u64 0) { l[j] with seq := 0 } (by rw [seqTo_at _ _ _ hj]; rfl)
  rw [seqTo_next _ _ _ hj] at hsf
  have hlt := har.lt
  refine ⟨q, rfl, hb, hlt, Option.isSome_iff_exists.1 hth.1, hth.2, ?_, grown_set W q (j * 6 + 3) (.int .u64 0)⟩
  have := hsf.own (base := B) Cl.len6 (by omega) hb (by rw [seqTo_len, hn]; exact hnc) hcm
  rw [seqTo_len, hn] at this
  exact this
theorem IL.strikeX {q v0 : Nat} (h : IL w W g ga gb Bx By s r s' r' xs ys xs' ys' k m x y A a D d A' a' D' d' j1 j2) (hf : Free q w g ga gb xs ys xs' ys') (hA : blk A' ≠ some q) (hx : x.files = []) (hy : y.files = []) (hg : W.grownBy W' (some q)) (ho : OwnC W' Bx A x.cells.length a (seqTo 0 x.cells v0)) :
    IL w W' g ga gb Bx By s r s' r' xs ys xs' ys' k m x y A a D d A' a' D' d' v0 j2 :=
  ⟨h.al.own hg hf.g1 hf.g2 hf.xs hf.ys hf.w, h.sv.own hg hf.a1 hf.xs', h.rv.own hg hf.b1 hf.ys', h.bx.grown hg (fun e => hf.a2 (by injection e with e; exact e.symm)), h.by_.grown hg (fun e => hf.b2 (by injection e with e; exact e.symm)), ho, h.oy.grown hg (.inr (fun e => hA e)), by rw [hx]; exact Rd.nil, by rw [hy]; exact Rd.nil⟩
theorem IL.strikeY {q v0 : Nat} (h : IL w W g ga gb Bx By s r s' r' xs ys xs' ys' k m x y A a D d A' a' D' d' j1 j2) (hf : Free q w g ga gb xs ys xs' ys') (hA : blk A ≠ some q) (hx : x.files = []) (hy : y.files = []) (hg : W.grownBy W' (some q)) (ho : OwnC W' By A' y.cells.length a' (seqTo 0 y.cells v0)) :
    IL w W' g ga gb Bx By s r s' r' xs ys xs' ys' k m x y A a D d A' a' D' d' j1 v0 :=
  ⟨h.al.own hg hf.g1 hf.g2 hf.xs hf.ys hf.w, h.sv.own hg hf.a1 hf.xs', h.rv.own hg hf.b1 hf.ys', h.bx.grown hg (fun e => hf.a2 (by injection e with e; exact e.symm)), h.by_.grown hg (fun e => hf.b2 (by injection e with e; exact e.symm)), h.ox.grown hg (.inr (fun e => hA e)), ho, by rw [hx]; exact Rd.nil, by rw [hy]; exact Rd.nil⟩
theorem IL.below (h : IL w W g ga gb Bx By s r s' r' xs ys xs' ys' k m x y A a D d A' a' D' d' j1 j2) (hb : Below W.heap.size W W') : IL w W' g ga gb Bx By s r s' r' xs ys xs' ys' k m x y A a D d A' a' D' d' j1 j2 :=
  ⟨h.al.below hb, h.sv.below hb, h.rv.below hb, h.bx.below hb h.bx.lt, h.by_.below hb h.by_.lt, h.ox.below hb, h.oy.below hb, (h.fx.below hb).more hb.size, (h.fy.below hb).more hb.size⟩
theorem IL.sameE {j : Nat} (h : IL w W g ga gb Bx By s r s' r' xs ys xs' ys' k m x y A a D d A' a' D' d' j j) (hr : RelE x y) (hx : x.cells.length = j) (hy : y.cells.length = j) (he : EffOk x) :
    Calls Try.prog 22 #[.agg (x.vs A a D d).toArray, .agg (y.vs A' a' D' d').toArray] W fun e w' => e = .returned (.bool true) ∧ Below W.heap.size W w' := by
  have hc := hr.c
  rw [hx, hy] at hc
  have e1 : x.vs A a D d = Eff.vs ⟨x.e, x.done, seqTo 0 x.cells j, x.files⟩ A a D d := by unfold Eff.vs; simp only [seqTo_len]
  have e2 : y.vs A' a' D' d' = Eff.vs ⟨x.e, x.done, seqTo 0 x.cells j, x.files⟩ A' a' D' d' := by
    unfold Eff.vs
    simp only [seqTo_len, hx, hy, hr.e, hr.d, hr.f]
  rw [e1, e2]
  have hl := he.lc
  have hf := he.lf
  exact sameEffect_true ⟨x.e, x.done, seqTo 0 x.cells j, x.files⟩ A a D d A' a' D' d' W (Own.rd h.ox (by omega)) h.fx (by have := Own.rd h.oy (by omega); rw [← hc] at this; exact this) (by have := h.fy; rw [← hr.f] at this; exact this) (by rw [seqTo_len]; unfold maxLen; omega) (by unfold maxLen; simp only; omega)
theorem IL.sameC {j : Nat} (h : IL w W g ga gb Bx By s r s' r' xs ys xs' ys' k m x y A a D d A' a' D' d' j j) (hr : RelE x y) (hx : x.cells.length = j) (hy : y.cells.length = j) (he : EffOk x) :
    Calls Try.prog 27 #[.slice A j a, .slice A' j a'] W fun e w' => e = .returned (.bool true) ∧ Below W.heap.size W w' := by
  have hc := hr.c
  rw [hx, hy] at hc
  have hl := he.lc
  exact sameCells_true A A' a a' j (seqTo 0 x.cells j) (by rw [seqTo_len]; exact hx) W (Own.rd h.ox (by omega)) (by have := Own.rd h.oy (by omega); rw [← hc] at this; exact this) (by unfold maxLen; omega)
end
end Go.Proofs.Ytiiogdgnccgehaa
