/-
  What lies in memory while the program's state and the reference's go side by side. No conditions.
-/
import Derived.Test.YtiiogdgnccgehaaRefState19
import Derived.Test.YtiiogdgnccgehaaRefApply19
import Derived.Test.YtiiogdgnccgehaaRowKit19
namespace Go.Proofs.Ytiiogdgnccgehaa
open Go.RowKit
theorem ca_at {w : World} {B : Nat} {A : Option Addr} {l : List CA} (h : Rd w B A (cas l)) {k : Nat} (hk : k < l.length) : ∃ b o, A = some ⟨b, o, none⟩ ∧ b < B ∧ w.rangeAt b (o + k * 9) l[k].vs := by
  have hne : cas l ≠ [] := fun e => by
    have := encs_length CA.vs_len l
    unfold cas at e
    rw [e] at this
    simp at this
    omega
  obtain ⟨b, o, e, hb, hc⟩ := h.at_ hne
  exact ⟨b, o, e, hb, Rd.enc_range CA.vs_len hc k hk⟩
theorem size_setCells (g : Nat) : ∀ (vs : List Value) (o : Nat) (w : World), (w.setCells g o vs).heap.size = w.heap.size
  | [], o, w => rfl
  | v :: vs, o, w => by
    show ((w.setCell ⟨g, o, none⟩ v).setCells g (o + 1) vs).heap.size = _
    rw [size_setCells g vs]
    simp [World.setCell]
theorem Blk.madeZ (T : TypeId) (w : World) (zs vs : List Value) (hl : vs.length = zs.length) {M : World → Prop} (hM : ∀ w', Hid (Blk T w' w.heap.size vs) → Hid (Below w.heap.size w w') → Hid (w'.heap.size = w.heap.size + 1) → M w') : M ((w.alloc (.cells zs.toArray T)).setCells w.heap.size 0 vs) := by
  have hs : ((w.alloc (.cells zs.toArray T)).setCells w.heap.size 0 vs).heap.size = w.heap.size + 1 := by rw [size_setCells, World.size_alloc]
  obtain ⟨W, hW⟩ : ∃ W, (w.alloc (.cells zs.toArray T)).setCells w.heap.size 0 vs = W := ⟨_, rfl⟩
  have hk : Blk T W w.heap.size vs ∧ Below w.heap.size w W := by
    rw [← hW]
    refine Blk.setW (M := fun W => Blk T W w.heap.size vs ∧ Below w.heap.size w W) (Blk.new T w zs) vs hl ?_
    intro w' h1 h2
    exact ⟨h1.out, below_grown (below_al w _) (by rw [World.size_alloc]; omega) h2.out (Nat.le_refl _)⟩
  rw [hW] at hs ⊢
  exact hM W (Lib.hid hk.1) (Lib.hid hk.2) (Lib.hid hs)
theorem ca_in {w W : World} {x : CA} (h : x.ok w) (hb : Below w.heap.size w W) : CmdIn W W.heap.size x.c x.A x.k x.D x.m :=
  ⟨(h.1.rc.below hb).more hb.size, (h.1.rf.below hb).more hb.size, h.1.lc, h.1.lf, h.1.lk, h.1.lm⟩
/-- a state in block g, of either type -/
structure StT (T : TypeId) (W : World) (g : Nat) (s : Sta) (xs : SA) : Prop where
  bk : Blk T W g (s.vs xs)
  sin : StaIn W W.heap.size s xs
  inw : InW W xs
/-- an effect in block g, of either type -/
structure EvT (T : TypeId) (W : World) (g : Nat) (x : Eff) (A : Option Addr) (k : Nat) (D : Option Addr) (m : Nat) : Prop where
  bk : Blk T W g (x.vs A k D m)
  rA : Rd W W.heap.size A (vals x.cells)
  rD : Rd W W.heap.size D (u32s x.files)
section
variable {T : TypeId} {w W W' : World} {g : Nat} {s : Sta} {xs : SA} {x : Eff} {A : Option Addr} {k : Nat} {D : Option Addr} {m : Nat}
theorem StT.below (h : StT T W g s xs) (hb : Below W.heap.size W W') : StT T W' g s xs := ⟨h.bk.below hb h.bk.lt, h.sin.grown hb, h.inw.mono hb.size⟩
theorem StT.own (h : StT T W g s xs) {q : Nat} (hg : W.grownBy W' (some q)) (hne : g ≠ q) (hn : NotAt xs q) : StT T W' g s xs := ⟨h.bk.grown hg (fun e => hne (by injection e with e; exact e.symm)), h.sin.own hg hn, h.inw.mono hg.size⟩
theorem EvT.below (h : EvT T W g x A k D m) (hb : Below W.heap.size W W') : EvT T W' g x A k D m := ⟨h.bk.below hb h.bk.lt, (h.rA.below hb).more hb.size, (h.rD.below hb).more hb.size⟩
theorem st_boxes {T1 T2 : TypeId} {w2 w4 : World} {s' : Sta} {ys : SA} (hsi : StaIn w2 w2.heap.size s' ys) (hi : InW w2 ys) (hrA : Rd w2 w2.heap.size A (vals x.cells)) (hrD : Rd w2 w2.heap.size D (u32s x.files)) (hT : Blk T1 w4 w2.heap.size (s'.vs ys)) (hE : Blk T2 w4 (w2.heap.size + 1) (x.vs A k D m)) (hL : Below w2.heap.size w2 w4) :
    StT T1 w4 w2.heap.size s' ys ∧ EvT T2 w4 (w2.heap.size + 1) x A k D m :=
  ⟨⟨hT, hsi.grown hL, hi.mono hL.size⟩, ⟨hE, (hrA.below hL).more hL.size, (hrD.below hL).more hL.size⟩⟩
end
/-- both states, in g and g + 1, behind k texts -/
structure AP2 (w W : World) (g : Nat) (s : Sta) (xs ys : SA) (k : Nat) : Prop where
  ok : SOk s k
  uq : Uniq s
  sv : StT 47 W g s xs
  rv : StT 51 W (g + 1) s ys
  s1 : NotAt xs g
  s2 : NotAt xs (g + 1)
  r1 : NotAt ys g
  r2 : NotAt ys (g + 1)
  bl : Below w.heap.size w W
  hg : w.heap.size ≤ g
/-- inside a round: what both became, and did -/
structure RP (w W : World) (g : Nat) (s : Sta) (xs ys : SA) (k : Nat) (s' : Sta) (xs' ys' : SA) (ga gb : Nat) (x : Eff) (A : Option Addr) (a : Nat) (D : Option Addr) (d : Nat) (A' : Option Addr) (a' : Nat) (D' : Option Addr) (d' : Nat) : Prop where
  ap : AP2 w W g s xs ys k
  av : StT 47 W ga s' xs'
  ev : EvT 53 W (ga + 1) x A a D d
  bv : StT 51 W gb s' ys'
  fv : EvT 56 W (gb + 1) x A' a' D' d'
/-- none of what both became lies where the variables are -/
structure Off2 (xs' ys' : SA) (g ga gb : Nat) : Prop where
  a1 : NotAt xs' g
  a2 : NotAt xs' (g + 1)
  b1 : NotAt ys' g
  b2 : NotAt ys' (g + 1)
  ha : g + 1 < ga
  hb : g + 1 < gb
section
variable {w W W' : World} {g : Nat} {s s' : Sta} {xs ys xs' ys' : SA} {k ga gb : Nat} {x : Eff} {A : Option Addr} {a : Nat} {D : Option Addr} {d : Nat} {A' : Option Addr} {a' : Nat} {D' : Option Addr} {d' : Nat}
theorem AP2.below (h : AP2 w W g s xs ys k) (hb : Below W.heap.size W W') : AP2 w W' g s xs ys k :=
  ⟨h.ok, h.uq, h.sv.below hb, h.rv.below hb, h.s1, h.s2, h.r1, h.r2, h.bl.trans (hb.mono h.bl.size), h.hg⟩
theorem RP.below (h : RP w W g s xs ys k s' xs' ys' ga gb x A a D d A' a' D' d') (hb : Below W.heap.size W W') : RP w W' g s xs ys k s' xs' ys' ga gb x A a D d A' a' D' d' := ⟨h.ap.below hb, h.av.below hb, h.ev.below hb, h.bv.below hb, h.fv.below hb⟩
theorem AP2.start {w2 w3 w4 : World} (hb : Below w.heap.size w w2) (h1 : Blk 47 w3 w2.heap.size (emptyS.vs nowhere)) (hb3 : Below w2.heap.size w2 w3) (hz : w3.heap.size = w2.heap.size + 1) (h2 : Blk 51 w4 w3.heap.size (emptyS.vs nowhere)) (hb4 : Below w3.heap.size w3 w4) : AP2 w w4 w2.heap.size emptyS nowhere nowhere 0 := by
  have e2 : Blk 51 w4 (w2.heap.size + 1) (emptyS.vs nowhere) := by rw [← hz]; exact h2
  exact ⟨sok_zero, uniq_zero, ⟨h1.below hb4 h1.lt, sta_none w4, inw_none w4⟩, ⟨e2, sta_none w4, inw_none w4⟩, NotAt.none _, NotAt.none _, NotAt.none _, NotAt.none _, hb.trans ((hb3.trans (hb4.mono hb3.size)).mono hb.size), hb.size⟩
/-- the first variable is stored -/
theorem RP.store1 {W1 : World} (h : RP w W g s xs ys k s' xs' ys' ga gb x A a D d A' a' D' d') (ho : Off2 xs' ys' g ga gb) (h1 : W.grownBy W1 (some g)) : StT 51 W1 gb s' ys' ∧ StT 51 W1 (g + 1) s ys :=
  have h2 := ho.hb
  ⟨h.bv.own h1 (by omega) ho.b1, h.ap.rv.own h1 (by omega) h.ap.r1⟩
theorem RP.next {W1 W2 : World} (h : RP w W g s xs ys k s' xs' ys' ga gb x A a D d A' a' D' d') (ho : Off2 xs' ys' g ga gb) (hok : SOk s' (k + 1)) (huq : Uniq s') (h1 : W.grownBy W1 (some g)) (q1 : Blk 47 W1 g (s'.vs xs')) (h2 : W1.grownBy W2 (some (g + 1))) (q2 : Blk 51 W2 (g + 1) (s'.vs ys')) : AP2 w W2 g s' xs' ys' (k + 1) := by
  have hgs := h.ap.hg
  have hgb := ho.hb
  have c1 : StT 47 W1 g s' xs' := ⟨q1, h.av.sin.own h1 ho.a1, h.av.inw.mono h1.size⟩
  have c2 := h.bv.own h1 (by omega) ho.b1
  have c3 : StT 51 W2 (g + 1) s' ys' := ⟨q2, c2.sin.own h2 ho.b2, c2.inw.mono h2.size⟩
  have hbl := below_grown (below_grown h.ap.bl h.ap.bl.size h1 hgs) (Nat.le_trans h.ap.bl.size h1.size) h2 (by omega)
  exact ⟨hok, huq, c1.own h2 (by omega) ho.a2, c3, ho.a1, ho.a2, ho.b1, ho.b2, hbl, hgs⟩
end
end Go.Proofs.Ytiiogdgnccgehaa
