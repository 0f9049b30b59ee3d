/-
  The walk of tablet.Apply. The walk of tablet.Apply at a text that is a command. tablet.Apply at any text, behind at most a thousand others. Variables that hold states and effects; what an encoded command does. No conditions.
-/
import Derived.Test.YtiiogdgnccgehaaJI
namespace Go.Proofs.Ytiiogdgnccgehaa
open Go.RowKit
attribute [local go_sem ↓] Go.wp_at_zero Go.wp_at_succ

def staz : List Value := [.int .u64 0, .int .u64 0, .slice none 0 0, .slice none 0 0, .slice none 0 0]
/-- inside Apply: the state, the two answers behind w -/
structure AM (w W : World) (s : Sta) (xs : SA) : Prop where
  bl : Below w.heap.size w W
  st : Blk 47 W w.heap.size (s.vs xs)
  a : Blk 47 W (w.heap.size + 1) staz
  e : Blk 53 W (w.heap.size + 1 + 1) effz
/-- what Apply gives -/
def AOut (w : World) (xs : SA) (r : Sta × Eff) (e : Ending) (w' : World) : Prop :=
  ∃ (ys : SA) (A : Option Addr) (k : Nat) (D : Option Addr) (m : Nat), e = .returned (.tuple #[.agg (r.1.vs ys).toArray, .agg (r.2.vs A k D m).toArray]) ∧ StaIn w' w'.heap.size r.1 ys ∧ SFrom xs ys w.heap.size w'.heap.size ∧ EffIn w' w.heap.size r.2 A k D m ∧ Below w.heap.size w w' ∧ Sep A ys ∧ ∀ b, blk D = some b → w.heap.size ≤ b
theorem AM.start (w : World) (s : Sta) (xs : SA) : AM w (((w.alloc (.cells (s.vs xs).toArray 47)).alloc (.cells staz.toArray 47)).alloc (.cells effz.toArray 53)) s xs := by
  have h1 := Blk.new 47 w (s.vs xs)
  have h2 := Blk.new 47 (w.alloc (.cells (s.vs xs).toArray 47)) staz
  have h3 := Blk.new 53 ((w.alloc (.cells (s.vs xs).toArray 47)).alloc (.cells staz.toArray 47)) effz
  rw [World.size_alloc] at h2
  rw [World.size_alloc, World.size_alloc] at h3
  have hb := (below_al2 w (.cells (s.vs xs).toArray 47) (.cells staz.toArray 47)).trans ((below_al _ (.cells effz.toArray 53)).mono (by rw [World.size_alloc, World.size_alloc]; omega))
  have h4 := h1.below (below_al (w.alloc (.cells (s.vs xs).toArray 47)) (.cells staz.toArray 47)) h1.lt
  exact ⟨hb, h4.below (below_al _ _) h4.lt, h2.below (below_al _ _) h2.lt, h3⟩
theorem AM.setS {w W : World} {s : Sta} {xs : SA} (h : AM w W s xs) (i : Nat) : AM w (W.setCell ⟨w.heap.size, 0, none⟩ (.int .u64 (i : Nat))) { s with index := i } xs :=
  have hg := grown_set W w.heap.size 0 (.int .u64 (i : Nat))
  ⟨below_grown h.bl h.bl.size hg (Nat.le_refl _), h.st.set 0 _, h.a.grown hg (fun e => by injection e; omega), h.e.grown hg (fun e => by injection e; omega)⟩
theorem three_blocks (w : World) (T1 T2 T3 : TypeId) (v1 v2 v3 : List Value) : Blk T2 (((w.alloc (.cells v1.toArray T1)).alloc (.cells v2.toArray T2)).alloc (.cells v3.toArray T3)) (w.heap.size + 1) v2 ∧ Blk T3 (((w.alloc (.cells v1.toArray T1)).alloc (.cells v2.toArray T2)).alloc (.cells v3.toArray T3)) (w.heap.size + 1 + 1) v3 ∧
    Below w.heap.size w (((w.alloc (.cells v1.toArray T1)).alloc (.cells v2.toArray T2)).alloc (.cells v3.toArray T3)) := by
  have h2 := Blk.new T2 (w.alloc (.cells v1.toArray T1)) v2
  have h3 := Blk.new T3 ((w.alloc (.cells v1.toArray T1)).alloc (.cells v2.toArray T2)) v3
  rw [World.size_alloc] at h2
  rw [World.size_alloc, World.size_alloc] at h3
  exact ⟨h2.below (below_al _ _) h2.lt, h3, (below_al2 w _ _).trans ((below_al _ _).mono (by rw [World.size_alloc, World.size_alloc]; omega))⟩
set_option maxRecDepth 100000 in
set_option maxHeartbeats 8000000 in
theorem apply_empty (w : World) (s : Sta) (xs : SA) (hin : StaIn w w.heap.size s xs) (hix : s.index ≤ 1000000) (t : ByteArray) (ht : t.size = 0) :
    Calls Try.prog 18 #[.agg (s.vs xs).toArray, .string t] w (AOut w xs (applyS s t)) := by
  have hm0 := AM.start w s xs
  have h1 : (t.toList == []) = true := by rw [empty_size, ht]; rfl
  have hwi : IntKind.u64.wrap ((s.index : Int) + 1) = ((s.index + 1 : Nat) : Int) := wrap_nat (s.index + 1) (by omega)
  have HM := Lib.hid (hm0.setS (s.index + 1))
  have HRS := Lib.hid (show applyS s t = ({ s with index := s.index + 1 }, ⟨0, false, [], []⟩) by unfold applyS; exact if_pos ht)
  have HIN := Lib.hid hin
  have c0 := hm0.st.cell (j := 0) rfl
  have f0 := hm0.st.free 0
  unfold effz staz Sta.vs at HM
  unfold effz staz Sta.vs at c0 f0
  unfold Sta.vs
  clear hm0 hin ht
  go_enter Try.func18, Try.ntmps18
  go_wp2
  (try simp only [Exit.inBlock, Exit.then])
  obtain ⟨b1, b2, b3⟩ := three_blocks w 47 47 53 (Sta.vs { s with index := s.index + 1 } xs) (Sta.vs { s with index := s.index + 1 } xs) effz
  refine bodyPost_ret (blk_two rfl Try.underlying47 rfl Try.underlying53 rfl _ _ (w.heap.size + 1) (w.heap.size + 1 + 1) _ _ (by kernel_rfl) (by kernel_rfl) rfl rfl b1 b2) rfl ?_
  rw [HRS.out]
  exact ⟨xs, none, 0, none, 0, rfl, ⟨(HIN.out.rb.below b3).more b3.size, (HIN.out.rj.below b3).more b3.size, (HIN.out.rc.below b3).more b3.size⟩, SFrom.refl _ _ _, eff_nil _ _ _ _, b3, Sep.nil _, fun b h => by cases h⟩
set_option maxRecDepth 100000 in
set_option maxHeartbeats 8000000 in
theorem apply_none (w : World) (s : Sta) (xs : SA) (hin : StaIn w w.heap.size s xs) (hix : s.index ≤ 1000000) (t : ByteArray) (ht : ¬ t.size = 0) (hsz : t.size ≤ 100000) (hd : (decC t).2 ≠ 0) :
    Calls Try.prog 18 #[.agg (s.vs xs).toArray, .string t] w (AOut w xs (applyS s t)) := by
  have hm0 := AM.start w s xs
  have h1 : (t.toList == []) = false := by rw [empty_size]; exact decide_eq_false ht
  have hwi : IntKind.u64.wrap ((s.index : Int) + 1) = ((s.index + 1 : Nat) : Int) := wrap_nat (s.index + 1) (by omega)
  have HM := Lib.hid (hm0.setS (s.index + 1))
  have hdz : decC t = (zeroC, 50) := (decC_spec t).resolve_left (fun h => hd h.1)
  have HRS := Lib.hid (show applyS s t = ({ s with index := s.index + 1 }, ⟨50, false, [], []⟩) by unfold applyS; simp only; rw [if_neg ht, if_pos hd, hdz]; rfl)
  have HIN := Lib.hid hin
  have c0 := hm0.st.cell (j := 0) rfl
  have f0 := hm0.st.free 0
  have HDC := Lib.hid (fun (W : World) => by have := decode_any t W hsz; unfold DecOut at this; rw [hdz] at this; exact this)
  clear hm0 hin ht hd hdz
  have HA := Lib.hid (AM.start w { s with index := s.index + 1 } xs)
  unfold effz staz Sta.vs at c0 f0 HA
  unfold Sta.vs
  go_enter Try.func18, Try.ntmps18
  go_wp2_with (first
    | (go_at_call 15; go_loud (refine (HDC.out _).mono ?_); rintro e w4 ⟨A, k, D, m, rfl, hin4, hb, -, -⟩; go_loud (have HB4 := Lib.hid (HA.out.bl.trans (hb.mono HA.out.bl.size)); have HS4 := Lib.hid (HA.out.st.below hb HA.out.st.lt); have HT4 := Lib.hid (HA.out.a.below hb HA.out.a.lt); have HE4 := Lib.hid (HA.out.e.below hb HA.out.e.lt)); clear hb)
    | (show wpList _ _ _ ({ dst := none, op := Op.store _ (Operand.tmp 6) _, type := _, pos := _, after := _, guard := _ } :: _) _ _; go_loud (refine wpList_store_mid rfl 27 (.tmp 6) (.tmp 21) rfl w4.heap.size 0 (zeroC.vs A k D m).toArray rfl rfl (there_madeB 27 w4 zcv 9 (Nat.le_refl _)) (by kernel_rfl) (by simp [Value.oneCell', Cmd.vs]) ?_); refine Blk.madeW 27 w4 zcv (zeroC.vs A k D m) rfl ?_; intro w5 HC5 HL5; have HB5 := Lib.hid (HB4.out.trans (HL5.out.mono HB4.out.size)); have HS5 := Lib.hid (HS4.out.below HL5.out HS4.out.lt); have HT5 := Lib.hid (HT4.out.below HL5.out HT4.out.lt); have HE5 := Lib.hid (HE4.out.below HL5.out HE4.out.lt))
    | (show wpList _ _ _ ({ dst := some 25, op := Op.load _ _, type := _, pos := _, after := _, guard := _ } :: _) _ _; go_loud (refine wpList_load_mid rfl 47 (.tmp 2) rfl w.heap.size 0 rfl (Sta.vs { s with index := s.index + 1 } xs) _ HS5.out.range Try.underlying47 rfl (by kernel_rfl) ?_))
    | (show wpList _ _ _ ({ dst := none, op := Op.store _ (Operand.tmp 4) _, type := _, pos := _, after := _, guard := _ } :: _) _ _; go_loud (refine wpList_store_mid rfl 47 (.tmp 4) (.tmp 25) rfl (w.heap.size + 1) 0 (Sta.vs { s with index := s.index + 1 } xs).toArray rfl rfl (HT5.out.there 5 (Nat.le_refl _)) (by kernel_rfl) (by simp [Value.oneCell', Sta.vs]) ?_); refine HT5.out.setW (Sta.vs { s with index := s.index + 1 } xs) rfl ?_; intro w6 HT6 HG6; have HE6 := Lib.hid (HE5.out.grown HG6.out (fun e => by injection e; omega)))
    | (show wpList _ _ _ ({ dst := none, op := Op.store _ (Operand.tmp 5) _, type := _, pos := _, after := _, guard := _ } :: _) _ _; go_loud (refine wpList_store_mid rfl 53 (.tmp 5) (.tmp 27) rfl (w.heap.size + 1 + 1) 0 #[.int .i64 50, .bool false, .slice none 0 0, .slice none 0 0] rfl rfl (HE6.out.there 4 (Nat.le_refl _)) (by kernel_rfl) (by simp [Value.oneCell']) ?_); refine HE6.out.setW [.int .i64 50, .bool false, .slice none 0 0, .slice none 0 0] rfl ?_; intro w7 HE7 HG7))
  (try simp only [Exit.inBlock, Exit.then])
  have hb7 := below_grown (below_grown HB5.out HB5.out.size HG6.out (by omega)) (Nat.le_trans HB5.out.size HG6.out.size) HG7.out (by omega)
  refine bodyPost_ret (blk_two rfl Try.underlying47 rfl Try.underlying53 rfl _ _ (w.heap.size + 1) (w.heap.size + 1 + 1) _ _ (by kernel_rfl) (by kernel_rfl) rfl rfl (HT6.out.grown HG7.out (fun e => by injection e; omega)) HE7.out) rfl ?_
  rw [HRS.out]
  exact ⟨xs, none, 0, none, 0, rfl, ⟨(HIN.out.rb.below hb7).more hb7.size, (HIN.out.rj.below hb7).more hb7.size, (HIN.out.rc.below hb7).more hb7.size⟩, SFrom.refl _ _ _, eff_nil _ _ _ _, hb7, Sep.nil _, fun b h => by cases h⟩
end Go.Proofs.Ytiiogdgnccgehaa
namespace Go.Proofs.Ytiiogdgnccgehaa
open Go.RowKit
attribute [local go_sem ↓] Go.wp_at_zero Go.wp_at_succ

/-- inside Apply, behind the text: the command in block q -/
structure AN (w W : World) (s : Sta) (xs : SA) (q : Nat) (c : Cmd) (A : Option Addr) (k : Nat) (D : Option Addr) (m : Nat) : Prop where
  bl : Below w.heap.size w W
  st : Blk 47 W w.heap.size (s.vs xs)
  a : Blk 47 W (w.heap.size + 1) staz
  e : Blk 53 W (w.heap.size + 1 + 1) effz
  cm : Blk 27 W q (c.vs A k D m)
  cin : CmdIn W q c A k D m
  qlt : w.heap.size + 1 + 1 < q
  fA : ∀ b, blk A = some b → w.heap.size + 1 + 1 < b
  fD : ∀ b, blk D = some b → w.heap.size + 1 + 1 < b
section
variable {w W W' : World} {s : Sta} {xs : SA} {q : Nat} {c : Cmd} {A : Option Addr} {k : Nat} {D : Option Addr} {m : Nat}
theorem AN.start {w4 w5 : World} (h : AM w W s xs) (hsz : W.heap.size = w.heap.size + 1 + 1 + 1) (hb : Below W.heap.size W w4) (hin : CmdIn w4 w4.heap.size c A k D m) (hA : ∀ b, blk A = some b → W.heap.size ≤ b) (hD : ∀ b, blk D = some b → W.heap.size ≤ b)
    (hC : Blk 27 w5 w4.heap.size (c.vs A k D m)) (hL : Below w4.heap.size w4 w5) : AN w w5 s xs w4.heap.size c A k D m := by
  have h4 := hb.size
  have hb5 : Below W.heap.size W w5 := hb.trans (hL.mono hb.size)
  exact ⟨h.bl.trans (hb5.mono (by omega)), h.st.below hb5 h.st.lt, h.a.below hb5 h.a.lt, h.e.below hb5 h.e.lt, hC, ⟨hin.rc.below hL, hin.rf.below hL, hin.lc, hin.lf, hin.lk, hin.lm⟩, by omega, fun b h => by have := hA b h; omega, fun b h => by have := hD b h; omega⟩
theorem AN.own (h : AN w W s xs q c A k D m) {r : Nat} (hg : W.grownBy W' (some r)) (hr : q < r) : AN w W' s xs q c A k D m := by
  have h1 := h.qlt
  have h2 := h.cm.lt
  exact ⟨below_grown h.bl h.bl.size hg (by omega), h.st.grown hg (fun e => by injection e; omega), h.a.grown hg (fun e => by injection e; omega), h.e.grown hg (fun e => by injection e; omega), h.cm.grown hg (fun e => by injection e; omega),
    ⟨h.cin.rc.grown hg (Nat.le_of_lt h2) (fun g e => by injection e; omega), h.cin.rf.grown hg (Nat.le_of_lt h2) (fun g e => by injection e; omega), h.cin.lc, h.cin.lf, h.cin.lk, h.cin.lm⟩, h1, h.fA, h.fD⟩
theorem AN.below (h : AN w W s xs q c A k D m) (hb : Below W.heap.size W W') : AN w W' s xs q c A k D m := by
  have h2 := h.cm.lt
  exact ⟨h.bl.trans (hb.mono h.bl.size), h.st.below hb h.st.lt, h.a.below hb h.a.lt, h.e.below hb h.e.lt, h.cm.below hb h2, ⟨h.cin.rc.below (hb.mono (Nat.le_of_lt h2)), h.cin.rf.below (hb.mono (Nat.le_of_lt h2)), h.cin.lc, h.cin.lf, h.cin.lk, h.cin.lm⟩, h.qlt, h.fA, h.fD⟩
theorem AN.cmd (h : AN w W s xs q c A k D m) : CmdIn W W.heap.size c A k D m := by
  have h2 := Nat.le_of_lt h.cm.lt
  exact ⟨h.cin.rc.more h2, h.cin.rf.more h2, h.cin.lc, h.cin.lf, h.cin.lk, h.cin.lm⟩
/-- the state's lists lie in w -/
structure InW (w : World) (xs : SA) : Prop where
  A : ∀ b, blk xs.A = some b → b < w.heap.size
  D : ∀ b, blk xs.D = some b → b < w.heap.size
  F : ∀ b, blk xs.F = some b → b < w.heap.size
theorem AN.off (h : AN w W s xs q c A k D m) (hi : InW w xs) : Off W xs w.heap.size := by
  have := h.bl.size
  exact ⟨fun e => Nat.lt_irrefl _ (hi.A _ e), fun e => Nat.lt_irrefl _ (hi.D _ e), fun e => Nat.lt_irrefl _ (hi.F _ e), fun b e => Nat.lt_of_lt_of_le (hi.A b e) this, fun b e => Nat.lt_of_lt_of_le (hi.D b e) this, fun b e => Nat.lt_of_lt_of_le (hi.F b e) this⟩
/-- inside Apply, behind the method: the state and the effect are what they become -/
structure AP (w W : World) (xs : SA) (r : Sta × Eff) (ys : SA) (p : Nat) (A : Option Addr) (k : Nat) (D : Option Addr) (m : Nat) : Prop where
  bl : Below w.heap.size w W
  st : Blk 47 W w.heap.size (r.1.vs ys)
  ef : Blk 53 W p (r.2.vs A k D m)
  sin : StaIn W W.heap.size r.1 ys
  oc : OwnC W (w.heap.size + 1 + 1 + 1) A r.2.cells.length k r.2.cells
  rf : Rd W W.heap.size D (u32s r.2.files)
  frm : SFrom xs ys (w.heap.size + 1 + 1 + 1) W.heap.size
  fD : ∀ b, blk D = some b → w.heap.size + 1 + 1 < b
  sep : Sep A ys
  plt : w.heap.size + 1 + 1 < p
  inw : InW w xs
theorem AP.start {w9 w10 : World} {r : Sta × Eff} {ys : SA} {A' : Option Addr} {k' : Nat} {D' : Option Addr} {m' : Nat} (h : AN w W s xs q c A k D m) (hi : InW w xs) (hst : Blk 47 w9 w.heap.size (r.1.vs ys)) (hsi : StaIn w9 w9.heap.size r.1 ys) (hfr : SFrom xs ys W.heap.size w9.heap.size) (hef : EffIn w9 W.heap.size r.2 A' k' D' m')
    (hD : D' = none ∨ D' = D) (hg : W.grownBy w9 (some w.heap.size)) (hsep : Sep A' ys) (hE : Blk 53 w10 w9.heap.size (r.2.vs A' k' D' m')) (hL : Below w9.heap.size w9 w10) :
    AP w w10 xs r ys w9.heap.size A' k' D' m' ∧ Blk 47 w10 (w.heap.size + 1) staz ∧ Blk 53 w10 (w.heap.size + 1 + 1) effz := by
  have h1 := h.a.grown hg (fun e => by injection e; omega)
  have h2 := h.e.grown hg (fun e => by injection e; omega)
  have h3 := h.bl.size
  have h4 := h.e.lt
  have h5 := hg.size
  have h6 := hL.size
  have fr : ∀ {X Y : Option Addr}, From X Y W.heap.size w9.heap.size → From X Y (w.heap.size + 1 + 1 + 1) w10.heap.size := fun hh b hb => by
    rcases hh b hb with h | h
    · exact .inl h
    · exact .inr (by omega)
  refine ⟨⟨(below_grown h.bl h3 hg (Nat.le_refl _)).trans (hL.mono (by omega)), hst.below hL hst.lt, hE, ⟨(hsi.rb.below hL).more h6, (hsi.rj.below hL).more h6, (hsi.rc.below hL).more h6⟩, (Own.lower hef.oc (by omega)).below hL, (hef.rf.below hL).more h6, ⟨fr hfr.A, fr hfr.D, fr hfr.F⟩, ?_, hsep, by omega, hi⟩, h1.below hL h1.lt, h2.below hL h2.lt⟩
  intro b hb
  rcases hD with h' | h'
  · rw [h'] at hb; cases hb
  · rw [h'] at hb; exact h.fD b hb
theorem AP.own {r : Sta × Eff} {ys : SA} {p g : Nat} (h : AP w W xs r ys p A k D m) (hg : W.grownBy W' (some g)) (hgg : w.heap.size < g ∧ g ≤ w.heap.size + 1 + 1) : AP w W' xs r ys p A k D m := by
  have hp := h.plt
  have h6 := hg.size
  have off : ∀ {X Y : Option Addr}, From X Y (w.heap.size + 1 + 1 + 1) W.heap.size → (∀ b, blk X = some b → b < w.heap.size) → blk Y ≠ some g := fun hh hx e => by
    rcases hh _ e with h | h
    · have := hx _ h; omega
    · omega
  have fr : ∀ {X Y : Option Addr}, From X Y (w.heap.size + 1 + 1 + 1) W.heap.size → From X Y (w.heap.size + 1 + 1 + 1) W'.heap.size := fun hh b hb => by
    rcases hh b hb with h | h
    · exact .inl h
    · exact .inr (by omega)
  exact ⟨below_grown h.bl h.bl.size hg (by omega), h.st.grown hg (fun e => by injection e; omega), h.ef.grown hg (fun e => by injection e; omega), ⟨h.sin.rb.grownOff hg (.inr (off h.frm.A h.inw.A)), h.sin.rj.grownOff hg (.inr (off h.frm.D h.inw.D)), h.sin.rc.grownOff hg (.inr (off h.frm.F h.inw.F))⟩,
    h.oc.grown hg (.inr (fun e => by have := (Own.lt h.oc _ e).1; omega)), h.rf.grownOff hg (.inr (fun e => by have := h.fD _ e; omega)), ⟨fr h.frm.A, fr h.frm.D, fr h.frm.F⟩, h.fD, h.sep, hp, h.inw⟩
theorem AP.drew {r : Sta × Eff} {ys : SA} {p : Nat} (h : AP w W xs r ys p A k D m) : AP w W.drew xs r ys p A k D m := ⟨h.bl.drew, h.st, h.ef, ⟨h.sin.rb, h.sin.rj, h.sin.rc⟩, h.oc, h.rf, h.frm, h.fD, h.sep, h.plt, h.inw⟩
theorem AP.out {r : Sta × Eff} {ys : SA} {p : Nat} (h : AP w W xs r ys p A k D m) : AOut w xs r (.returned (.tuple #[.agg (r.1.vs ys).toArray, .agg (r.2.vs A k D m).toArray])) W := by
  have fr : ∀ {X Y : Option Addr}, From X Y (w.heap.size + 1 + 1 + 1) W.heap.size → From X Y w.heap.size W.heap.size := fun hh b hb => by
    rcases hh b hb with h | h
    · exact .inl h
    · exact .inr (by omega)
  exact ⟨ys, A, k, D, m, rfl, h.sin, ⟨fr h.frm.A, fr h.frm.D, fr h.frm.F⟩, ⟨Own.lower h.oc (by omega), h.rf⟩, h.bl, h.sep, fun b hb => by have := h.fD b hb; omega⟩
end
theorem am_size (w : World) (o p q : Obj) : (((w.alloc o).alloc p).alloc q).heap.size = w.heap.size + 1 + 1 + 1 := by
  rw [World.size_alloc, World.size_alloc, World.size_alloc]
set_option maxRecDepth 100000 in
set_option maxHeartbeats 8000000 in
theorem apply_batch (w : World) (s : Sta) (xs : SA) (hin : StaIn w w.heap.size s xs) (hi : InW w xs) (hix : s.index ≤ 1000000) (t : ByteArray) (ht : ¬ t.size = 0) (hsz : t.size ≤ 100000) (c : Cmd) (hd : decC t = (c, 0)) (hk : c.kind = 1)
    (hmt : ∀ (W : World) (A : Option Addr) (k : Nat) (D : Option Addr) (m : Nat), Blk 47 W w.heap.size (Sta.vs { s with index := s.index + 1 } xs) → StaIn W W.heap.size s xs → CmdIn W W.heap.size c A k D m → Off W xs w.heap.size → blk D ≠ some w.heap.size →
      Calls Try.prog 44 #[.pointer (some ⟨w.heap.size, 0, none⟩), .agg (c.vs A k D m).toArray] W (MOut W w.heap.size xs D (batchS { s with index := s.index + 1 } c))) :
    Calls Try.prog 18 #[.agg (s.vs xs).toArray, .string t] w (AOut w xs (applyS s t)) := by
  have hm0 := AM.start w s xs
  have h1 : (t.toList == []) = false := by rw [empty_size]; exact decide_eq_false ht
  have hwi : IntKind.u64.wrap ((s.index : Int) + 1) = ((s.index + 1 : Nat) : Int) := wrap_nat (s.index + 1) (by omega)
  have hrs := (show applyS s t = batchS { s with index := s.index + 1 } c by unfold applyS; simp only; rw [if_neg ht, if_neg (by rw [hd]; exact fun h => h rfl), hd]; simp only [hk]; rfl)
  obtain ⟨r, hr⟩ : ∃ r, batchS { s with index := s.index + 1 } c = r := ⟨_, rfl⟩
  rw [hr] at hrs
  simp only [hr] at hmt
  have HRS := Lib.hid hrs
  clear hrs hr
  have HIN := Lib.hid hin
  have HI := Lib.hid hi
  have HK := Lib.hid hk
  have HMT := Lib.hid hmt
  have c0 := hm0.st.cell (j := 0) rfl
  have f0 := hm0.st.free 0
  have HDC := Lib.hid (fun (W : World) => by have := decode_any t W hsz; unfold DecOut at this; rw [hd] at this; exact this)
  clear hm0 hin ht hd hk hi hmt
  have HA := Lib.hid (AM.start w { s with index := s.index + 1 } xs)
  have HSZ := Lib.hid (am_size w (.cells (Sta.vs { s with index := s.index + 1 } xs).toArray 47) (.cells staz.toArray 47) (.cells effz.toArray 53))
  unfold effz staz Sta.vs at c0 f0 HA HSZ
  unfold Sta.vs
  have hmm := @run_makeMap Try.prog
  go_enter Try.func18, Try.ntmps18
  go_wp2_with (first
    | (go_at_call 15; go_loud (refine (HDC.out _).mono ?_); rintro e w4 ⟨A, k, D, m, rfl, hin4, hb, hA4, hD4⟩; have HB4 := Lib.hid hb; have HC4 := Lib.hid hin4; have HA4 := Lib.hid hA4; have HD4 := Lib.hid hD4; clear hb hin4 hA4 hD4)
    | (show wpList _ _ _ ({ dst := none, op := Op.store _ (Operand.tmp 6) _, type := _, pos := _, after := _, guard := _ } :: _) _ _; go_loud (refine wpList_store_mid rfl 27 (.tmp 6) (.tmp 21) rfl w4.heap.size 0 (c.vs A k D m).toArray rfl rfl (there_madeB 27 w4 zcv 9 (Nat.le_refl _)) (by kernel_rfl) (by simp [Value.oneCell', Cmd.vs]) ?_); refine Blk.madeW 27 w4 zcv (c.vs A k D m) rfl ?_; intro w5 HC5 HL5; have HN5 := Lib.hid (AN.start HA.out HSZ.out HB4.out HC4.out HA4.out HD4.out HC5.out HL5.out))
    | (show wpList _ _ _ ({ dst := none, op := Op.insert _ _ (Operand.const (Value.int _ 1)) _, type := _, pos := _, after := _, guard := _ } :: _) _ _; go_loud (refine mp_insert (Mp.made w5) 1 _ rfl rfl _ _ _ rfl rfl rfl rfl ?_); intro w6 hp6 hg6; have HP6 := Lib.hid hp6; have HN6 := Lib.hid ((HN5.out.below (below_al w5 _)).own hg6 HN5.out.cm.lt); clear hp6 hg6)
    | (show wpList _ _ _ ({ dst := none, op := Op.insert _ _ (Operand.const (Value.int _ 2)) _, type := _, pos := _, after := _, guard := _ } :: _) _ _; go_loud (refine mp_insert HP6.out 2 _ rfl rfl _ _ _ rfl rfl rfl rfl ?_); intro w7 hp7 hg7; have HP7 := Lib.hid hp7; have HN7 := Lib.hid (HN6.out.own hg7 HN5.out.cm.lt); clear hp7 hg7)
    | (show wpList _ _ _ ({ dst := none, op := Op.insert _ _ (Operand.const (Value.int _ 3)) _, type := _, pos := _, after := _, guard := _ } :: _) _ _; go_loud (refine mp_insert HP7.out 3 _ rfl rfl _ _ _ rfl rfl rfl rfl ?_); intro w8 hp8 hg8; have HP8 := Lib.hid hp8; have HN8 := Lib.hid (HN7.out.own hg8 HN5.out.cm.lt); clear hp8 hg8; have c1 := HN8.out.cm.cell (j := 0) rfl)
    | (show wpList _ _ _ ({ dst := _, op := Op.lookup _ _ _ _, type := _, pos := _, after := _, guard := _ } :: _) _ _; go_loud (refine mp_lookup HP8.out (k := c.kind) (k0 := 1) (v := .func (.func 44) #[.pointer (some ⟨w.heap.size, 0, none⟩)] #[]) (by rw [HK.out]; rfl) rfl _ _ rfl rfl rfl ?_))
    | (show wpList _ _ _ ({ dst := some 37, op := Op.load _ _, type := _, pos := _, after := _, guard := _ } :: _) _ _; go_loud (refine wpList_load_mid rfl 27 (.tmp 6) rfl w4.heap.size 0 rfl (c.vs A k D m) _ HN8.out.cm.range Try.underlying27 rfl (by kernel_rfl) ?_))
    | (go_at_call 44; go_loud (refine (HMT.out w8 A k D m HN8.out.st (HIN.out.grown HN8.out.bl) HN8.out.cmd (HN8.out.off HI.out) (fun e => by have := HN8.out.fD _ e; omega)).mono ?_); rintro e w9 ⟨ys, A', k', D', m', rfl, hst, hsi, hfr, hef, hD', hgr, hsep⟩; have H9 := Lib.hid (And.intro hst (And.intro hsi (And.intro hfr (And.intro hef (And.intro hD' (And.intro hgr hsep)))))); clear hst hsi hfr hef hD' hgr hsep)
    | (show wpList _ _ _ ({ dst := none, op := Op.store _ (Operand.tmp 9) _, type := _, pos := _, after := _, guard := _ } :: _) _ _; go_loud (refine wpList_store_mid rfl 53 (.tmp 9) (.tmp 38) rfl w9.heap.size 0 (r.2.vs A' k' D' m').toArray rfl rfl (there_madeB 53 w9 effz 4 (Nat.le_refl _)) (by kernel_rfl) (by simp [Value.oneCell', Eff.vs]) ?_); refine Blk.madeW 53 w9 effz (r.2.vs A' k' D' m') rfl ?_; intro w10 HE10 HL10))
  obtain ⟨hp, ht, he⟩ := AP.start HN8.out HI.out H9.out.1 H9.out.2.1 H9.out.2.2.1 H9.out.2.2.2.1 H9.out.2.2.2.2.1 H9.out.2.2.2.2.2.1 H9.out.2.2.2.2.2.2 HE10.out HL10.out
  have HP := Lib.hid hp.drew
  have HT := Lib.hid ht.drew
  have HE := Lib.hid he.drew
  clear hp ht he H9 HN8 HN7 HN6 HP8 HP7 HP6 HL5 HC5 HE10 HL10 c1
  have hcell : ∀ W, Hid (AP w W xs r ys w9.heap.size A' k' D' m') → W.rangeAt w.heap.size 0 (r.1.vs ys) ∧ W.rangeAt w9.heap.size 0 (r.2.vs A' k' D' m') := fun W h => ⟨h.out.st.range, h.out.ef.range⟩
  have HC := hcell _ HP
  refine region_wz (fun W => W.rangeAt w.heap.size 0 (r.1.vs ys) ∧ W.rangeAt w9.heap.size 0 (r.2.vs A' k' D' m')) (some 3) (by kernel_rfl) ?_
  apply WZ.take (i := 0) (some 39) rfl rfl (by kernel_rfl) (by kernel_rfl) (by kernel_rfl) (calm_panic _) (by kernel_rfl)
  case hy => first | (apply yieldsIf_load_mid (by kernel_rfl) _ _ rfl _ _ rfl; (case hS => (intro W hC; exact hC.1)); (case hu => exact Try.underlying47); (case hd => rfl); (case hi => kernel_rfl)) | (apply yieldsIf_load_mid (by kernel_rfl) _ _ rfl _ _ rfl; (case hS => (intro W hC; exact hC.2.1)); (case hu => exact Try.underlying47); (case hd => rfl); (case hi => kernel_rfl)) | (apply yieldsIf_load_mid (by kernel_rfl) _ _ rfl _ _ rfl; (case hS => (intro W hC; exact hC.2.2.1)); (case hu => exact Try.underlying47); (case hd => rfl); (case hi => kernel_rfl)) | (apply yieldsIf_load_mid (by kernel_rfl) _ _ rfl _ _ rfl; (case hS => (intro W hC; exact hC.2.2.2.1)); (case hu => exact Try.underlying47); (case hd => rfl); (case hi => kernel_rfl)) | (apply yieldsIf_load_mid (by kernel_rfl) _ _ rfl _ _ rfl; (case hS => (intro W hC; exact hC.2.2.2)); (case hu => exact Try.underlying47); (case hd => rfl); (case hi => kernel_rfl)) | (apply yieldsIf_load_mid (by kernel_rfl) _ _ rfl _ _ rfl; (case hS => (intro W hC; exact hC.2.2)); (case hu => exact Try.underlying47); (case hd => rfl); (case hi => kernel_rfl)) | (apply yieldsIf_load_mid (by kernel_rfl) _ _ rfl _ _ rfl; (case hS => (intro W hC; exact hC.2)); (case hu => exact Try.underlying47); (case hd => rfl); (case hi => kernel_rfl)) | (apply yieldsIf_load_mid (by kernel_rfl) _ _ rfl _ _ rfl; (case hS => (intro W hC; exact hC)); (case hu => exact Try.underlying47); (case hd => rfl); (case hi => kernel_rfl))
  case hC => exact HC
  case ha => (simp only [Act.put, List.setIfInBounds_toArray, List.set_cons_zero, List.set_cons_succ]; rfl)
  apply WZ.take (i := 1) (some 40) rfl rfl (by kernel_rfl) (by kernel_rfl) (by kernel_rfl) (calm_panic _) (by kernel_rfl)
  case hy => first | (apply yieldsIf_load_mid (by kernel_rfl) _ _ rfl _ _ rfl; (case hS => (intro W hC; exact hC.1)); (case hu => exact Try.underlying53); (case hd => rfl); (case hi => kernel_rfl)) | (apply yieldsIf_load_mid (by kernel_rfl) _ _ rfl _ _ rfl; (case hS => (intro W hC; exact hC.2.1)); (case hu => exact Try.underlying53); (case hd => rfl); (case hi => kernel_rfl)) | (apply yieldsIf_load_mid (by kernel_rfl) _ _ rfl _ _ rfl; (case hS => (intro W hC; exact hC.2.2.1)); (case hu => exact Try.underlying53); (case hd => rfl); (case hi => kernel_rfl)) | (apply yieldsIf_load_mid (by kernel_rfl) _ _ rfl _ _ rfl; (case hS => (intro W hC; exact hC.2.2.2.1)); (case hu => exact Try.underlying53); (case hd => rfl); (case hi => kernel_rfl)) | (apply yieldsIf_load_mid (by kernel_rfl) _ _ rfl _ _ rfl; (case hS => (intro W hC; exact hC.2.2.2)); (case hu => exact Try.underlying53); (case hd => rfl); (case hi => kernel_rfl)) | (apply yieldsIf_load_mid (by kernel_rfl) _ _ rfl _ _ rfl; (case hS => (intro W hC; exact hC.2.2)); (case hu => exact Try.underlying53); (case hd => rfl); (case hi => kernel_rfl)) | (apply yieldsIf_load_mid (by kernel_rfl) _ _ rfl _ _ rfl; (case hS => (intro W hC; exact hC.2)); (case hu => exact Try.underlying53); (case hd => rfl); (case hi => kernel_rfl)) | (apply yieldsIf_load_mid (by kernel_rfl) _ _ rfl _ _ rfl; (case hS => (intro W hC; exact hC)); (case hu => exact Try.underlying53); (case hd => rfl); (case hi => kernel_rfl))
  case hC => exact HC
  case ha => (simp only [Act.put, List.setIfInBounds_toArray, List.set_cons_zero, List.set_cons_succ]; rfl)
  -- 2
  refine WZ.one (i := 2) rfl (by kernel_rfl) ?_
  conv => arg 4; arg 1; whnf
  go_wp2_with (show wpList _ _ _ ({ dst := none, op := Op.store _ (Operand.tmp 4) _, type := _, pos := _, after := _, guard := _ } :: _) _ _; go_loud (refine wpList_store_mid rfl 47 (.tmp 4) (.tmp 39) rfl (w.heap.size + 1) 0 (r.1.vs ys).toArray rfl rfl (HT.out.there 5 (Nat.le_refl _)) (by kernel_rfl) (by simp [Value.oneCell', Sta.vs]) ?_); refine HT.out.setW (r.1.vs ys) rfl ?_; intro w11 HT11 HG11; have HP11 := Lib.hid (HP.out.own HG11.out (by omega)); have HE11 := Lib.hid (HE.out.grown HG11.out (fun e => by injection e; omega)))
  clear HC
  have HC := hcell _ HP11
  refine ⟨HC, ?_⟩
  -- 3
  refine WZ.last (i := 3) rfl (by kernel_rfl) (by kernel_rfl) ?_
  conv => arg 4; arg 1; whnf
  go_wp2_with (show wpList _ _ _ ({ dst := none, op := Op.store _ (Operand.tmp 5) _, type := _, pos := _, after := _, guard := _ } :: _) _ _; go_loud (refine wpList_store_mid rfl 53 (.tmp 5) (.tmp 40) rfl (w.heap.size + 1 + 1) 0 (r.2.vs A' k' D' m').toArray rfl rfl (HE11.out.there 4 (Nat.le_refl _)) (by kernel_rfl) (by simp [Value.oneCell', Eff.vs]) ?_); refine HE11.out.setW (r.2.vs A' k' D' m') rfl ?_; intro w12 HE12 HG12)
  refine WZ.done (by kernel_rfl) ?_ _
  simp only [Calm, Exit.then]
  go_wp2
  (try simp only [Exit.inBlock, Exit.then])
  refine bodyPost_ret (blk_two rfl Try.underlying47 rfl Try.underlying53 rfl _ _ (w.heap.size + 1) (w.heap.size + 1 + 1) _ _ (by kernel_rfl) (by kernel_rfl) rfl rfl (HT11.out.grown HG12.out (fun e => by injection e; omega)) HE12.out) rfl ?_
  rw [HRS.out]
  exact (HP11.out.own HG12.out (by omega)).out
set_option maxRecDepth 100000 in
set_option maxHeartbeats 8000000 in
theorem apply_split (w : World) (s : Sta) (xs : SA) (hin : StaIn w w.heap.size s xs) (hi : InW w xs) (hix : s.index ≤ 1000000) (t : ByteArray) (ht : ¬ t.size = 0) (hsz : t.size ≤ 100000) (c : Cmd) (hd : decC t = (c, 0)) (hk : c.kind = 2)
    (hmt : ∀ (W : World) (A : Option Addr) (k : Nat) (D : Option Addr) (m : Nat), Blk 47 W w.heap.size (Sta.vs { s with index := s.index + 1 } xs) → StaIn W W.heap.size s xs → CmdIn W W.heap.size c A k D m → Off W xs w.heap.size → blk D ≠ some w.heap.size →
      Calls Try.prog 45 #[.pointer (some ⟨w.heap.size, 0, none⟩), .agg (c.vs A k D m).toArray] W (MOut W w.heap.size xs D (splitS { s with index := s.index + 1 } c))) :
    Calls Try.prog 18 #[.agg (s.vs xs).toArray, .string t] w (AOut w xs (applyS s t)) := by
  have hm0 := AM.start w s xs
  have h1 : (t.toList == []) = false := by rw [empty_size]; exact decide_eq_false ht
  have hwi : IntKind.u64.wrap ((s.index : Int) + 1) = ((s.index + 1 : Nat) : Int) := wrap_nat (s.index + 1) (by omega)
  have hrs := (show applyS s t = splitS { s with index := s.index + 1 } c by unfold applyS; simp only; rw [if_neg ht, if_neg (by rw [hd]; exact fun h => h rfl), hd]; simp only [hk]; rfl)
  obtain ⟨r, hr⟩ : ∃ r, splitS { s with index := s.index + 1 } c = r := ⟨_, rfl⟩
  rw [hr] at hrs
  simp only [hr] at hmt
  have HRS := Lib.hid hrs
  clear hrs hr
  have HIN := Lib.hid hin
  have HI := Lib.hid hi
  have HK := Lib.hid hk
  have HMT := Lib.hid hmt
  have c0 := hm0.st.cell (j := 0) rfl
  have f0 := hm0.st.free 0
  have HDC := Lib.hid (fun (W : World) => by have := decode_any t W hsz; unfold DecOut at this; rw [hd] at this; exact this)
  clear hm0 hin ht hd hk hi hmt
  have HA := Lib.hid (AM.start w { s with index := s.index + 1 } xs)
  have HSZ := Lib.hid (am_size w (.cells (Sta.vs { s with index := s.index + 1 } xs).toArray 47) (.cells staz.toArray 47) (.cells effz.toArray 53))
  unfold effz staz Sta.vs at c0 f0 HA HSZ
  unfold Sta.vs
  have hmm := @run_makeMap Try.prog
  go_enter Try.func18, Try.ntmps18
  go_wp2_with (first
    | (go_at_call 15; go_loud (refine (HDC.out _).mono ?_); rintro e w4 ⟨A, k, D, m, rfl, hin4, hb, hA4, hD4⟩; have HB4 := Lib.hid hb; have HC4 := Lib.hid hin4; have HA4 := Lib.hid hA4; have HD4 := Lib.hid hD4; clear hb hin4 hA4 hD4)
    | (show wpList _ _ _ ({ dst := none, op := Op.store _ (Operand.tmp 6) _, type := _, pos := _, after := _, guard := _ } :: _) _ _; go_loud (refine wpList_store_mid rfl 27 (.tmp 6) (.tmp 21) rfl w4.heap.size 0 (c.vs A k D m).toArray rfl rfl (there_madeB 27 w4 zcv 9 (Nat.le_refl _)) (by kernel_rfl) (by simp [Value.oneCell', Cmd.vs]) ?_); refine Blk.madeW 27 w4 zcv (c.vs A k D m) rfl ?_; intro w5 HC5 HL5; have HN5 := Lib.hid (AN.start HA.out HSZ.out HB4.out HC4.out HA4.out HD4.out HC5.out HL5.out))
    | (show wpList _ _ _ ({ dst := none, op := Op.insert _ _ (Operand.const (Value.int _ 1)) _, type := _, pos := _, after := _, guard := _ } :: _) _ _; go_loud (refine mp_insert (Mp.made w5) 1 _ rfl rfl _ _ _ rfl rfl rfl rfl ?_); intro w6 hp6 hg6; have HP6 := Lib.hid hp6; have HN6 := Lib.hid ((HN5.out.below (below_al w5 _)).own hg6 HN5.out.cm.lt); clear hp6 hg6)
    | (show wpList _ _ _ ({ dst := none, op := Op.insert _ _ (Operand.const (Value.int _ 2)) _, type := _, pos := _, after := _, guard := _ } :: _) _ _; go_loud (refine mp_insert HP6.out 2 _ rfl rfl _ _ _ rfl rfl rfl rfl ?_); intro w7 hp7 hg7; have HP7 := Lib.hid hp7; have HN7 := Lib.hid (HN6.out.own hg7 HN5.out.cm.lt); clear hp7 hg7)
    | (show wpList _ _ _ ({ dst := none, op := Op.insert _ _ (Operand.const (Value.int _ 3)) _, type := _, pos := _, after := _, guard := _ } :: _) _ _; go_loud (refine mp_insert HP7.out 3 _ rfl rfl _ _ _ rfl rfl rfl rfl ?_); intro w8 hp8 hg8; have HP8 := Lib.hid hp8; have HN8 := Lib.hid (HN7.out.own hg8 HN5.out.cm.lt); clear hp8 hg8; have c1 := HN8.out.cm.cell (j := 0) rfl)
    | (show wpList _ _ _ ({ dst := _, op := Op.lookup _ _ _ _, type := _, pos := _, after := _, guard := _ } :: _) _ _; go_loud (refine mp_lookup HP8.out (k := c.kind) (k0 := 2) (v := .func (.func 45) #[.pointer (some ⟨w.heap.size, 0, none⟩)] #[]) (by rw [HK.out]; rfl) rfl _ _ rfl rfl rfl ?_))
    | (show wpList _ _ _ ({ dst := some 37, op := Op.load _ _, type := _, pos := _, after := _, guard := _ } :: _) _ _; go_loud (refine wpList_load_mid rfl 27 (.tmp 6) rfl w4.heap.size 0 rfl (c.vs A k D m) _ HN8.out.cm.range Try.underlying27 rfl (by kernel_rfl) ?_))
    | (go_at_call 45; go_loud (refine (HMT.out w8 A k D m HN8.out.st (HIN.out.grown HN8.out.bl) HN8.out.cmd (HN8.out.off HI.out) (fun e => by have := HN8.out.fD _ e; omega)).mono ?_); rintro e w9 ⟨ys, A', k', D', m', rfl, hst, hsi, hfr, hef, hD', hgr, hsep⟩; have H9 := Lib.hid (And.intro hst (And.intro hsi (And.intro hfr (And.intro hef (And.intro hD' (And.intro hgr hsep)))))); clear hst hsi hfr hef hD' hgr hsep)
    | (show wpList _ _ _ ({ dst := none, op := Op.store _ (Operand.tmp 9) _, type := _, pos := _, after := _, guard := _ } :: _) _ _; go_loud (refine wpList_store_mid rfl 53 (.tmp 9) (.tmp 38) rfl w9.heap.size 0 (r.2.vs A' k' D' m').toArray rfl rfl (there_madeB 53 w9 effz 4 (Nat.le_refl _)) (by kernel_rfl) (by simp [Value.oneCell', Eff.vs]) ?_); refine Blk.madeW 53 w9 effz (r.2.vs A' k' D' m') rfl ?_; intro w10 HE10 HL10))
  obtain ⟨hp, ht, he⟩ := AP.start HN8.out HI.out H9.out.1 H9.out.2.1 H9.out.2.2.1 H9.out.2.2.2.1 H9.out.2.2.2.2.1 H9.out.2.2.2.2.2.1 H9.out.2.2.2.2.2.2 HE10.out HL10.out
  have HP := Lib.hid hp.drew
  have HT := Lib.hid ht.drew
  have HE := Lib.hid he.drew
  clear hp ht he H9 HN8 HN7 HN6 HP8 HP7 HP6 HL5 HC5 HE10 HL10 c1
  have hcell : ∀ W, Hid (AP w W xs r ys w9.heap.size A' k' D' m') → W.rangeAt w.heap.size 0 (r.1.vs ys) ∧ W.rangeAt w9.heap.size 0 (r.2.vs A' k' D' m') := fun W h => ⟨h.out.st.range, h.out.ef.range⟩
  have HC := hcell _ HP
  refine region_wz (fun W => W.rangeAt w.heap.size 0 (r.1.vs ys) ∧ W.rangeAt w9.heap.size 0 (r.2.vs A' k' D' m')) (some 3) (by kernel_rfl) ?_
  apply WZ.take (i := 0) (some 39) rfl rfl (by kernel_rfl) (by kernel_rfl) (by kernel_rfl) (calm_panic _) (by kernel_rfl)
  case hy => first | (apply yieldsIf_load_mid (by kernel_rfl) _ _ rfl _ _ rfl; (case hS => (intro W hC; exact hC.1)); (case hu => exact Try.underlying47); (case hd => rfl); (case hi => kernel_rfl)) | (apply yieldsIf_load_mid (by kernel_rfl) _ _ rfl _ _ rfl; (case hS => (intro W hC; exact hC.2.1)); (case hu => exact Try.underlying47); (case hd => rfl); (case hi => kernel_rfl)) | (apply yieldsIf_load_mid (by kernel_rfl) _ _ rfl _ _ rfl; (case hS => (intro W hC; exact hC.2.2.1)); (case hu => exact Try.underlying47); (case hd => rfl); (case hi => kernel_rfl)) | (apply yieldsIf_load_mid (by kernel_rfl) _ _ rfl _ _ rfl; (case hS => (intro W hC; exact hC.2.2.2.1)); (case hu => exact Try.underlying47); (case hd => rfl); (case hi => kernel_rfl)) | (apply yieldsIf_load_mid (by kernel_rfl) _ _ rfl _ _ rfl; (case hS => (intro W hC; exact hC.2.2.2)); (case hu => exact Try.underlying47); (case hd => rfl); (case hi => kernel_rfl)) | (apply yieldsIf_load_mid (by kernel_rfl) _ _ rfl _ _ rfl; (case hS => (intro W hC; exact hC.2.2)); (case hu => exact Try.underlying47); (case hd => rfl); (case hi => kernel_rfl)) | (apply yieldsIf_load_mid (by kernel_rfl) _ _ rfl _ _ rfl; (case hS => (intro W hC; exact hC.2)); (case hu => exact Try.underlying47); (case hd => rfl); (case hi => kernel_rfl)) | (apply yieldsIf_load_mid (by kernel_rfl) _ _ rfl _ _ rfl; (case hS => (intro W hC; exact hC)); (case hu => exact Try.underlying47); (case hd => rfl); (case hi => kernel_rfl))
  case hC => exact HC
  case ha => (simp only [Act.put, List.setIfInBounds_toArray, List.set_cons_zero, List.set_cons_succ]; rfl)
  apply WZ.take (i := 1) (some 40) rfl rfl (by kernel_rfl) (by kernel_rfl) (by kernel_rfl) (calm_panic _) (by kernel_rfl)
  case hy => first | (apply yieldsIf_load_mid (by kernel_rfl) _ _ rfl _ _ rfl; (case hS => (intro W hC; exact hC.1)); (case hu => exact Try.underlying53); (case hd => rfl); (case hi => kernel_rfl)) | (apply yieldsIf_load_mid (by kernel_rfl) _ _ rfl _ _ rfl; (case hS => (intro W hC; exact hC.2.1)); (case hu => exact Try.underlying53); (case hd => rfl); (case hi => kernel_rfl)) | (apply yieldsIf_load_mid (by kernel_rfl) _ _ rfl _ _ rfl; (case hS => (intro W hC; exact hC.2.2.1)); (case hu => exact Try.underlying53); (case hd => rfl); (case hi => kernel_rfl)) | (apply yieldsIf_load_mid (by kernel_rfl) _ _ rfl _ _ rfl; (case hS => (intro W hC; exact hC.2.2.2.1)); (case hu => exact Try.underlying53); (case hd => rfl); (case hi => kernel_rfl)) | (apply yieldsIf_load_mid (by kernel_rfl) _ _ rfl _ _ rfl; (case hS => (intro W hC; exact hC.2.2.2)); (case hu => exact Try.underlying53); (case hd => rfl); (case hi => kernel_rfl)) | (apply yieldsIf_load_mid (by kernel_rfl) _ _ rfl _ _ rfl; (case hS => (intro W hC; exact hC.2.2)); (case hu => exact Try.underlying53); (case hd => rfl); (case hi => kernel_rfl)) | (apply yieldsIf_load_mid (by kernel_rfl) _ _ rfl _ _ rfl; (case hS => (intro W hC; exact hC.2)); (case hu => exact Try.underlying53); (case hd => rfl); (case hi => kernel_rfl)) | (apply yieldsIf_load_mid (by kernel_rfl) _ _ rfl _ _ rfl; (case hS => (intro W hC; exact hC)); (case hu => exact Try.underlying53); (case hd => rfl); (case hi => kernel_rfl))
  case hC => exact HC
  case ha => (simp only [Act.put, List.setIfInBounds_toArray, List.set_cons_zero, List.set_cons_succ]; rfl)
  -- 2
  refine WZ.one (i := 2) rfl (by kernel_rfl) ?_
  conv => arg 4; arg 1; whnf
  go_wp2_with (show wpList _ _ _ ({ dst := none, op := Op.store _ (Operand.tmp 4) _, type := _, pos := _, after := _, guard := _ } :: _) _ _; go_loud (refine wpList_store_mid rfl 47 (.tmp 4) (.tmp 39) rfl (w.heap.size + 1) 0 (r.1.vs ys).toArray rfl rfl (HT.out.there 5 (Nat.le_refl _)) (by kernel_rfl) (by simp [Value.oneCell', Sta.vs]) ?_); refine HT.out.setW (r.1.vs ys) rfl ?_; intro w11 HT11 HG11; have HP11 := Lib.hid (HP.out.own HG11.out (by omega)); have HE11 := Lib.hid (HE.out.grown HG11.out (fun e => by injection e; omega)))
  clear HC
  have HC := hcell _ HP11
  refine ⟨HC, ?_⟩
  -- 3
  refine WZ.last (i := 3) rfl (by kernel_rfl) (by kernel_rfl) ?_
  conv => arg 4; arg 1; whnf
  go_wp2_with (show wpList _ _ _ ({ dst := none, op := Op.store _ (Operand.tmp 5) _, type := _, pos := _, after := _, guard := _ } :: _) _ _; go_loud (refine wpList_store_mid rfl 53 (.tmp 5) (.tmp 40) rfl (w.heap.size + 1 + 1) 0 (r.2.vs A' k' D' m').toArray rfl rfl (HE11.out.there 4 (Nat.le_refl _)) (by kernel_rfl) (by simp [Value.oneCell', Eff.vs]) ?_); refine HE11.out.setW (r.2.vs A' k' D' m') rfl ?_; intro w12 HE12 HG12)
  refine WZ.done (by kernel_rfl) ?_ _
  simp only [Calm, Exit.then]
  go_wp2
  (try simp only [Exit.inBlock, Exit.then])
  refine bodyPost_ret (blk_two rfl Try.underlying47 rfl Try.underlying53 rfl _ _ (w.heap.size + 1) (w.heap.size + 1 + 1) _ _ (by kernel_rfl) (by kernel_rfl) rfl rfl (HT11.out.grown HG12.out (fun e => by injection e; omega)) HE12.out) rfl ?_
  rw [HRS.out]
  exact (HP11.out.own HG12.out (by omega)).out
set_option maxRecDepth 100000 in
set_option maxHeartbeats 8000000 in
theorem apply_ingest (w : World) (s : Sta) (xs : SA) (hin : StaIn w w.heap.size s xs) (hi : InW w xs) (hix : s.index ≤ 1000000) (t : ByteArray) (ht : ¬ t.size = 0) (hsz : t.size ≤ 100000) (c : Cmd) (hd : decC t = (c, 0)) (hk : c.kind = 3)
    (hmt : ∀ (W : World) (A : Option Addr) (k : Nat) (D : Option Addr) (m : Nat), Blk 47 W w.heap.size (Sta.vs { s with index := s.index + 1 } xs) → StaIn W W.heap.size s xs → CmdIn W W.heap.size c A k D m → Off W xs w.heap.size → blk D ≠ some w.heap.size →
      Calls Try.prog 46 #[.pointer (some ⟨w.heap.size, 0, none⟩), .agg (c.vs A k D m).toArray] W (MOut W w.heap.size xs D (ingestS { s with index := s.index + 1 } c))) :
    Calls Try.prog 18 #[.agg (s.vs xs).toArray, .string t] w (AOut w xs (applyS s t)) := by
  have hm0 := AM.start w s xs
  have h1 : (t.toList == []) = false := by rw [empty_size]; exact decide_eq_false ht
  have hwi : IntKind.u64.wrap ((s.index : Int) + 1) = ((s.index + 1 : Nat) : Int) := wrap_nat (s.index + 1) (by omega)
  have hrs := (show applyS s t = ingestS { s with index := s.index + 1 } c by unfold applyS; simp only; rw [if_neg ht, if_neg (by rw [hd]; exact fun h => h rfl), hd]; simp only [hk]; rfl)
  obtain ⟨r, hr⟩ : ∃ r, ingestS { s with index := s.index + 1 } c = r := ⟨_, rfl⟩
  rw [hr] at hrs
  simp only [hr] at hmt
  have HRS := Lib.hid hrs
  clear hrs hr
  have HIN := Lib.hid hin
  have HI := Lib.hid hi
  have HK := Lib.hid hk
  have HMT := Lib.hid hmt
  have c0 := hm0.st.cell (j := 0) rfl
  have f0 := hm0.st.free 0
  have HDC := Lib.hid (fun (W : World) => by have := decode_any t W hsz; unfold DecOut at this; rw [hd] at this; exact this)
  clear hm0 hin ht hd hk hi hmt
  have HA := Lib.hid (AM.start w { s with index := s.index + 1 } xs)
  have HSZ := Lib.hid (am_size w (.cells (Sta.vs { s with index := s.index + 1 } xs).toArray 47) (.cells staz.toArray 47) (.cells effz.toArray 53))
  unfold effz staz Sta.vs at c0 f0 HA HSZ
  unfold Sta.vs
  have hmm := @run_makeMap Try.prog
  go_enter Try.func18, Try.ntmps18
  go_wp2_with (first
    | (go_at_call 15; go_loud (refine (HDC.out _).mono ?_); rintro e w4 ⟨A, k, D, m, rfl, hin4, hb, hA4, hD4⟩; have HB4 := Lib.hid hb; have HC4 := Lib.hid hin4; have HA4 := Lib.hid hA4; have HD4 := Lib.hid hD4; clear hb hin4 hA4 hD4)
    | (show wpList _ _ _ ({ dst := none, op := Op.store _ (Operand.tmp 6) _, type := _, pos := _, after := _, guard := _ } :: _) _ _; go_loud (refine wpList_store_mid rfl 27 (.tmp 6) (.tmp 21) rfl w4.heap.size 0 (c.vs A k D m).toArray rfl rfl (there_madeB 27 w4 zcv 9 (Nat.le_refl _)) (by kernel_rfl) (by simp [Value.oneCell', Cmd.vs]) ?_); refine Blk.madeW 27 w4 zcv (c.vs A k D m) rfl ?_; intro w5 HC5 HL5; have HN5 := Lib.hid (AN.start HA.out HSZ.out HB4.out HC4.out HA4.out HD4.out HC5.out HL5.out))
    | (show wpList _ _ _ ({ dst := none, op := Op.insert _ _ (Operand.const (Value.int _ 1)) _, type := _, pos := _, after := _, guard := _ } :: _) _ _; go_loud (refine mp_insert (Mp.made w5) 1 _ rfl rfl _ _ _ rfl rfl rfl rfl ?_); intro w6 hp6 hg6; have HP6 := Lib.hid hp6; have HN6 := Lib.hid ((HN5.out.below (below_al w5 _)).own hg6 HN5.out.cm.lt); clear hp6 hg6)
    | (show wpList _ _ _ ({ dst := none, op := Op.insert _ _ (Operand.const (Value.int _ 2)) _, type := _, pos := _, after := _, guard := _ } :: _) _ _; go_loud (refine mp_insert HP6.out 2 _ rfl rfl _ _ _ rfl rfl rfl rfl ?_); intro w7 hp7 hg7; have HP7 := Lib.hid hp7; have HN7 := Lib.hid (HN6.out.own hg7 HN5.out.cm.lt); clear hp7 hg7)
    | (show wpList _ _ _ ({ dst := none, op := Op.insert _ _ (Operand.const (Value.int _ 3)) _, type := _, pos := _, after := _, guard := _ } :: _) _ _; go_loud (refine mp_insert HP7.out 3 _ rfl rfl _ _ _ rfl rfl rfl rfl ?_); intro w8 hp8 hg8; have HP8 := Lib.hid hp8; have HN8 := Lib.hid (HN7.out.own hg8 HN5.out.cm.lt); clear hp8 hg8; have c1 := HN8.out.cm.cell (j := 0) rfl)
    | (show wpList _ _ _ ({ dst := _, op := Op.lookup _ _ _ _, type := _, pos := _, after := _, guard := _ } :: _) _ _; go_loud (refine mp_lookup HP8.out (k := c.kind) (k0 := 3) (v := .func (.func 46) #[.pointer (some ⟨w.heap.size, 0, none⟩)] #[]) (by rw [HK.out]; rfl) rfl _ _ rfl rfl rfl ?_))
    | (show wpList _ _ _ ({ dst := some 37, op := Op.load _ _, type := _, pos := _, after := _, guard := _ } :: _) _ _; go_loud (refine wpList_load_mid rfl 27 (.tmp 6) rfl w4.heap.size 0 rfl (c.vs A k D m) _ HN8.out.cm.range Try.underlying27 rfl (by kernel_rfl) ?_))
    | (go_at_call 46; go_loud (refine (HMT.out w8 A k D m HN8.out.st (HIN.out.grown HN8.out.bl) HN8.out.cmd (HN8.out.off HI.out) (fun e => by have := HN8.out.fD _ e; omega)).mono ?_); rintro e w9 ⟨ys, A', k', D', m', rfl, hst, hsi, hfr, hef, hD', hgr, hsep⟩; have H9 := Lib.hid (And.intro hst (And.intro hsi (And.intro hfr (And.intro hef (And.intro hD' (And.intro hgr hsep)))))); clear hst hsi hfr hef hD' hgr hsep)
    | (show wpList _ _ _ ({ dst := none, op := Op.store _ (Operand.tmp 9) _, type := _, pos := _, after := _, guard := _ } :: _) _ _; go_loud (refine wpList_store_mid rfl 53 (.tmp 9) (.tmp 38) rfl w9.heap.size 0 (r.2.vs A' k' D' m').toArray rfl rfl (there_madeB 53 w9 effz 4 (Nat.le_refl _)) (by kernel_rfl) (by simp [Value.oneCell', Eff.vs]) ?_); refine Blk.madeW 53 w9 effz (r.2.vs A' k' D' m') rfl ?_; intro w10 HE10 HL10))
  obtain ⟨hp, ht, he⟩ := AP.start HN8.out HI.out H9.out.1 H9.out.2.1 H9.out.2.2.1 H9.out.2.2.2.1 H9.out.2.2.2.2.1 H9.out.2.2.2.2.2.1 H9.out.2.2.2.2.2.2 HE10.out HL10.out
  have HP := Lib.hid hp.drew
  have HT := Lib.hid ht.drew
  have HE := Lib.hid he.drew
  clear hp ht he H9 HN8 HN7 HN6 HP8 HP7 HP6 HL5 HC5 HE10 HL10 c1
  have hcell : ∀ W, Hid (AP w W xs r ys w9.heap.size A' k' D' m') → W.rangeAt w.heap.size 0 (r.1.vs ys) ∧ W.rangeAt w9.heap.size 0 (r.2.vs A' k' D' m') := fun W h => ⟨h.out.st.range, h.out.ef.range⟩
  have HC := hcell _ HP
  refine region_wz (fun W => W.rangeAt w.heap.size 0 (r.1.vs ys) ∧ W.rangeAt w9.heap.size 0 (r.2.vs A' k' D' m')) (some 3) (by kernel_rfl) ?_
  apply WZ.take (i := 0) (some 39) rfl rfl (by kernel_rfl) (by kernel_rfl) (by kernel_rfl) (calm_panic _) (by kernel_rfl)
  case hy => first | (apply yieldsIf_load_mid (by kernel_rfl) _ _ rfl _ _ rfl; (case hS => (intro W hC; exact hC.1)); (case hu => exact Try.underlying47); (case hd => rfl); (case hi => kernel_rfl)) | (apply yieldsIf_load_mid (by kernel_rfl) _ _ rfl _ _ rfl; (case hS => (intro W hC; exact hC.2.1)); (case hu => exact Try.underlying47); (case hd => rfl); (case hi => kernel_rfl)) | (apply yieldsIf_load_mid (by kernel_rfl) _ _ rfl _ _ rfl; (case hS => (intro W hC; exact hC.2.2.1)); (case hu => exact Try.underlying47); (case hd => rfl); (case hi => kernel_rfl)) | (apply yieldsIf_load_mid (by kernel_rfl) _ _ rfl _ _ rfl; (case hS => (intro W hC; exact hC.2.2.2.1)); (case hu => exact Try.underlying47); (case hd => rfl); (case hi => kernel_rfl)) | (apply yieldsIf_load_mid (by kernel_rfl) _ _ rfl _ _ rfl; (case hS => (intro W hC; exact hC.2.2.2)); (case hu => exact Try.underlying47); (case hd => rfl); (case hi => kernel_rfl)) | (apply yieldsIf_load_mid (by kernel_rfl) _ _ rfl _ _ rfl; (case hS => (intro W hC; exact hC.2.2)); (case hu => exact Try.underlying47); (case hd => rfl); (case hi => kernel_rfl)) | (apply yieldsIf_load_mid (by kernel_rfl) _ _ rfl _ _ rfl; (case hS => (intro W hC; exact hC.2)); (case hu => exact Try.underlying47); (case hd => rfl); (case hi => kernel_rfl)) | (apply yieldsIf_load_mid (by kernel_rfl) _ _ rfl _ _ rfl; (case hS => (intro W hC; exact hC)); (case hu => exact Try.underlying47); (case hd => rfl); (case hi => kernel_rfl))
  case hC => exact HC
  case ha => (simp only [Act.put, List.setIfInBounds_toArray, List.set_cons_zero, List.set_cons_succ]; rfl)
  apply WZ.take (i := 1) (some 40) rfl rfl (by kernel_rfl) (by kernel_rfl) (by kernel_rfl) (calm_panic _) (by kernel_rfl)
  case hy => first | (apply yieldsIf_load_mid (by kernel_rfl) _ _ rfl _ _ rfl; (case hS => (intro W hC; exact hC.1)); (case hu => exact Try.underlying53); (case hd => rfl); (case hi => kernel_rfl)) | (apply yieldsIf_load_mid (by kernel_rfl) _ _ rfl _ _ rfl; (case hS => (intro W hC; exact hC.2.1)); (case hu => exact Try.underlying53); (case hd => rfl); (case hi => kernel_rfl)) | (apply yieldsIf_load_mid (by kernel_rfl) _ _ rfl _ _ rfl; (case hS => (intro W hC; exact hC.2.2.1)); (case hu => exact Try.underlying53); (case hd => rfl); (case hi => kernel_rfl)) | (apply yieldsIf_load_mid (by kernel_rfl) _ _ rfl _ _ rfl; (case hS => (intro W hC; exact hC.2.2.2.1)); (case hu => exact Try.underlying53); (case hd => rfl); (case hi => kernel_rfl)) | (apply yieldsIf_load_mid (by kernel_rfl) _ _ rfl _ _ rfl; (case hS => (intro W hC; exact hC.2.2.2)); (case hu => exact Try.underlying53); (case hd => rfl); (case hi => kernel_rfl)) | (apply yieldsIf_load_mid (by kernel_rfl) _ _ rfl _ _ rfl; (case hS => (intro W hC; exact hC.2.2)); (case hu => exact Try.underlying53); (case hd => rfl); (case hi => kernel_rfl)) | (apply yieldsIf_load_mid (by kernel_rfl) _ _ rfl _ _ rfl; (case hS => (intro W hC; exact hC.2)); (case hu => exact Try.underlying53); (case hd => rfl); (case hi => kernel_rfl)) | (apply yieldsIf_load_mid (by kernel_rfl) _ _ rfl _ _ rfl; (case hS => (intro W hC; exact hC)); (case hu => exact Try.underlying53); (case hd => rfl); (case hi => kernel_rfl))
  case hC => exact HC
  case ha => (simp only [Act.put, List.setIfInBounds_toArray, List.set_cons_zero, List.set_cons_succ]; rfl)
  -- 2
  refine WZ.one (i := 2) rfl (by kernel_rfl) ?_
  conv => arg 4; arg 1; whnf
  go_wp2_with (show wpList _ _ _ ({ dst := none, op := Op.store _ (Operand.tmp 4) _, type := _, pos := _, after := _, guard := _ } :: _) _ _; go_loud (refine wpList_store_mid rfl 47 (.tmp 4) (.tmp 39) rfl (w.heap.size + 1) 0 (r.1.vs ys).toArray rfl rfl (HT.out.there 5 (Nat.le_refl _)) (by kernel_rfl) (by simp [Value.oneCell', Sta.vs]) ?_); refine HT.out.setW (r.1.vs ys) rfl ?_; intro w11 HT11 HG11; have HP11 := Lib.hid (HP.out.own HG11.out (by omega)); have HE11 := Lib.hid (HE.out.grown HG11.out (fun e => by injection e; omega)))
  clear HC
  have HC := hcell _ HP11
  refine ⟨HC, ?_⟩
  -- 3
  refine WZ.last (i := 3) rfl (by kernel_rfl) (by kernel_rfl) ?_
  conv => arg 4; arg 1; whnf
  go_wp2_with (show wpList _ _ _ ({ dst := none, op := Op.store _ (Operand.tmp 5) _, type := _, pos := _, after := _, guard := _ } :: _) _ _; go_loud (refine wpList_store_mid rfl 53 (.tmp 5) (.tmp 40) rfl (w.heap.size + 1 + 1) 0 (r.2.vs A' k' D' m').toArray rfl rfl (HE11.out.there 4 (Nat.le_refl _)) (by kernel_rfl) (by simp [Value.oneCell', Eff.vs]) ?_); refine HE11.out.setW (r.2.vs A' k' D' m') rfl ?_; intro w12 HE12 HG12)
  refine WZ.done (by kernel_rfl) ?_ _
  simp only [Calm, Exit.then]
  go_wp2
  (try simp only [Exit.inBlock, Exit.then])
  refine bodyPost_ret (blk_two rfl Try.underlying47 rfl Try.underlying53 rfl _ _ (w.heap.size + 1) (w.heap.size + 1 + 1) _ _ (by kernel_rfl) (by kernel_rfl) rfl rfl (HT11.out.grown HG12.out (fun e => by injection e; omega)) HE12.out) rfl ?_
  rw [HRS.out]
  exact (HP11.out.own HG12.out (by omega)).out
end Go.Proofs.Ytiiogdgnccgehaa
namespace Go.Proofs.Ytiiogdgnccgehaa
open Go.RowKit

/-- a state behind at most n texts -/
structure SOk (s : Sta) (n : Nat) : Prop where
  ix : s.index ≤ n
  ep : s.epoch ≤ n
  lb : s.borders.length ≤ n
  lj : s.jobs.length ≤ n
  lc : s.clients.length ≤ n
  rise : Rise s.borders
def emptyS : Sta := ⟨0, 0, [], [], []⟩
theorem sok_zero : SOk emptyS 0 := ⟨Nat.le_refl _, Nat.le_refl _, Nat.le_refl _, Nat.le_refl _, Nat.le_refl _, List.Pairwise.nil⟩
theorem SOk.index {s : Sta} {n : Nat} (h : SOk s n) : SOk { s with index := s.index + 1 } (n + 1) :=
  ⟨by have := h.ix; simp only; omega, by have := h.ep; simp only; omega, by have := h.lb; simp only; omega, by have := h.lj; simp only; omega, by have := h.lc; simp only; omega, h.rise⟩
theorem split_ok {s : Sta} {n : Nat} (h : SOk s n) (c : Cmd) : SOk (splitS { s with index := s.index + 1 } c).1 (n + 1) := by
  unfold splitS
  split
  · exact h.index
  · split
    · exact h.index
    · rename_i h1 h2
      refine ⟨by have := h.ix; simp only; omega, by have := h.ep; simp only; omega, ?_, by have := h.lj; simp only; omega, by have := h.lc; simp only; omega, putAt_rise h.rise fun hm => h2 (memT_iff.2 hm)⟩
      simp only
      rw [putAt_len (posT_le _ _)]
      have := h.lb
      omega
theorem ingest_ok {s : Sta} {n : Nat} (h : SOk s n) (c : Cmd) : SOk (ingestS { s with index := s.index + 1 } c).1 (n + 1) := by
  unfold ingestS
  split
  · exact h.index
  · split
    · exact h.index
    · split
      · exact h.index
      · split
        · exact h.index
        · exact ⟨by have := h.ix; simp only; omega, by have := h.ep; simp only; omega, by have := h.lb; simp only; omega, by have := h.lj; simp; omega, by have := h.lc; simp only; omega, h.rise⟩
theorem new_ok {s : Sta} {n : Nat} (h : SOk s n) (c : Cmd) : SOk (newS { s with index := s.index + 1 } c).1 (n + 1) := by
  unfold newS
  have hc := h.lc
  refine ⟨by have := h.ix; simp only; omega, by have := h.ep; simp only; omega, by have := h.lb; simp only; omega, by have := h.lj; simp only; omega, ?_, h.rise⟩
  simp only
  split
  · simp only [List.length_append, List.length_take, List.length_drop, List.length_cons, List.length_nil]
    omega
  · simp only [List.length_append, List.length_cons, List.length_nil]
    omega
theorem batch_ok {s : Sta} {n : Nat} (h : SOk s n) (c : Cmd) : SOk (batchS { s with index := s.index + 1 } c).1 (n + 1) := by
  unfold batchS
  split
  · split
    · exact h.index
    · split
      · exact h.index
      · exact new_ok h c
  · exact new_ok h c
theorem sok_next {s : Sta} {n : Nat} (h : SOk s n) (t : ByteArray) : SOk (applyS s t).1 (n + 1) := by
  unfold applyS
  simp only
  split
  · exact h.index
  · split
    · exact h.index
    · split
      · exact batch_ok h _
      · split
        · exact split_ok h _
        · exact ingest_ok h _
theorem SFrom.inw {w w' : World} {xs ys : SA} (h : SFrom xs ys w.heap.size w'.heap.size) (hi : InW w xs) (hb : w.heap.size ≤ w'.heap.size) : InW w' ys := by
  have fr : ∀ {X Y : Option Addr}, From X Y w.heap.size w'.heap.size → (∀ b, blk X = some b → b < w.heap.size) → ∀ b, blk Y = some b → b < w'.heap.size := fun hh hx b hb => by
    rcases hh b hb with h | h
    · have := hx b h; omega
    · exact h.2
  exact ⟨fr h.A hi.A, fr h.D hi.D, fr h.F hi.F⟩
theorem InW.mono {w w' : World} {xs : SA} (h : InW w xs) (hb : w.heap.size ≤ w'.heap.size) : InW w' xs := ⟨fun b e => Nat.lt_of_lt_of_le (h.A b e) hb, fun b e => Nat.lt_of_lt_of_le (h.D b e) hb, fun b e => Nat.lt_of_lt_of_le (h.F b e) hb⟩
def nowhere : SA := ⟨none, 0, none, 0, none, 0⟩
theorem inw_none (w : World) : InW w nowhere := ⟨fun b h => (by cases h), fun b h => (by cases h), fun b h => (by cases h)⟩
theorem sta_none (w : World) : StaIn w w.heap.size emptyS nowhere := ⟨Rd.nil, Rd.nil, Rd.nil⟩
/-- tablet.Apply -/
theorem apply_any (w : World) (s : Sta) (xs : SA) (hin : StaIn w w.heap.size s xs) (hi : InW w xs) (n : Nat) (hn : n < 1000) (hs : SOk s n) (t : ByteArray) (hsz : t.size ≤ 100000) :
    Calls Try.prog 18 #[.agg (s.vs xs).toArray, .string t] w (AOut w xs (applyS s t)) := by
  have hix : s.index ≤ 1000000 := by have := hs.ix; omega
  by_cases ht : t.size = 0
  · exact apply_empty w s xs hin hix t ht
  · by_cases hd : (decC t).2 = 0
    · obtain ⟨c, e, hdc⟩ : ∃ c e, decC t = (c, e) := ⟨_, _, rfl⟩
      rw [hdc] at hd
      simp only at hd
      subst hd
      have hsp := decC_spec t
      rw [hdc] at hsp
      rcases hsp with ⟨_, he⟩ | h
      · simp only at he
        obtain ⟨hp, hw, hm, hb⟩ := encC_ok he
        simp only [wideC, Bool.or_eq_false_iff, decide_eq_false_iff_not, Nat.not_lt] at hw
        have l1 := hs.lb
        have l2 := hs.lj
        have l3 := hs.lc
        have l4 := hs.ep
        have stin : ∀ {W : World} {s' : Sta}, StaIn W W.heap.size s xs → s'.borders = s.borders → s'.jobs = s.jobs → s'.clients = s.clients → StaIn W W.heap.size s' xs := fun h a b c => ⟨by rw [a]; exact h.rb, by rw [b]; exact h.rj, by rw [c]; exact h.rc⟩
        rcases plainC_cases hp with ⟨hk, _⟩ | ⟨hk, _⟩ | ⟨hk, _⟩
        · exact apply_batch w s xs hin hi hix t ht hsz c hdc hk fun W A k D m h1 h2 h3 h4 h5 => batch_any W _ c A k D m _ xs h1 (stin h2 rfl rfl rfl) h3 h4 (by simp only; omega) (by omega)
        · exact apply_split w s xs hin hi hix t ht hsz c hdc hk fun W A k D m h1 h2 h3 h4 h5 => split_any W _ c A k D m _ xs h1 (stin h2 rfl rfl rfl) h4 (by simp only; omega) hs.rise (by simp only; omega)
        · exact apply_ingest w s xs hin hi hix t ht hsz c hdc hk fun W A k D m h1 h2 h3 h4 h5 => ingest_any W _ c A k D m _ xs h1 (stin h2 rfl rfl rfl) h3 h4 h5 (by simp only; omega)
      · injection h with _ h
        cases h
    · exact apply_none w s xs hin hix t ht hsz hd
end Go.Proofs.Ytiiogdgnccgehaa
namespace Go.Proofs.Ytiiogdgnccgehaa
open Go.RowKit

/-- none of a state's lists lies in block g -/
structure NotAt (xs : SA) (g : Nat) : Prop where
  A : blk xs.A ≠ some g
  D : blk xs.D ≠ some g
  F : blk xs.F ≠ some g
theorem NotAt.none (g : Nat) : NotAt nowhere g := ⟨fun h => (by cases h), fun h => (by cases h), fun h => (by cases h)⟩
theorem InW.notAt {w : World} {xs : SA} {g : Nat} (h : InW w xs) (hg : w.heap.size ≤ g) : NotAt xs g := ⟨fun e => by have := h.A _ e; omega, fun e => by have := h.D _ e; omega, fun e => by have := h.F _ e; omega⟩
theorem SFrom.notAt {xs ys : SA} {B E g : Nat} (h : SFrom xs ys B E) (hn : NotAt xs g) (hg : g < B) : NotAt ys g := by
  have fr : ∀ {X Y : Option Addr}, From X Y B E → blk X ≠ some g → blk Y ≠ some g := fun hh hx e => by
    rcases hh g e with h | h
    · exact hx h
    · omega
  exact ⟨fr h.A hn.A, fr h.D hn.D, fr h.F hn.F⟩
/-- a state in block g -/
structure StV (W : World) (g : Nat) (s : Sta) (xs : SA) : Prop where
  bk : Blk 47 W g (s.vs xs)
  sin : StaIn W W.heap.size s xs
  inw : InW W xs
/-- an effect in block g; its cells are its own, at B or behind -/
structure EfV (W : World) (B g : Nat) (x : Eff) (A : Option Addr) (k : Nat) (D : Option Addr) (m : Nat) : Prop where
  bk : Blk 53 W g (x.vs A k D m)
  oc : OwnC W B A x.cells.length k x.cells
  rf : Rd W W.heap.size D (u32s x.files)
section
variable {W W' : World} {g : Nat} {s : Sta} {xs : SA} {x : Eff} {A : Option Addr} {k : Nat} {D : Option Addr} {m : Nat} {B : Nat}
theorem StV.below (h : StV W g s xs) (hb : Below W.heap.size W W') : StV W' g s xs := ⟨h.bk.below hb h.bk.lt, h.sin.grown hb, h.inw.mono hb.size⟩
theorem StV.drew (h : StV W g s xs) : StV W.drew g s xs := ⟨h.bk, ⟨h.sin.rb, h.sin.rj, h.sin.rc⟩, ⟨h.inw.A, h.inw.D, h.inw.F⟩⟩
theorem StaIn.own (h : StaIn W W.heap.size s xs) {q : Nat} (hg : W.grownBy W' (some q)) (hn : NotAt xs q) : StaIn W' W'.heap.size s xs := ⟨h.rb.grownOff hg (.inr hn.A), h.rj.grownOff hg (.inr hn.D), h.rc.grownOff hg (.inr hn.F)⟩
theorem StV.own (h : StV W g s xs) {q : Nat} (hg : W.grownBy W' (some q)) (hne : g ≠ q) (hn : NotAt xs q) : StV W' g s xs := ⟨h.bk.grown hg (fun e => hne (by injection e with e; exact e.symm)), h.sin.own hg hn, h.inw.mono hg.size⟩
/-- the state is stored into another block -/
theorem StV.store (h : StV W g s xs) {q : Nat} (hg : W.grownBy W' (some q)) (hn : NotAt xs q) (hq : Blk 47 W' q (s.vs xs)) : StV W' q s xs := ⟨hq, h.sin.own hg hn, h.inw.mono hg.size⟩
theorem EfV.below (h : EfV W B g x A k D m) (hb : Below W.heap.size W W') : EfV W' B g x A k D m := ⟨h.bk.below hb h.bk.lt, h.oc.below hb, (h.rf.below hb).more hb.size⟩
theorem EfV.drew (h : EfV W B g x A k D m) : EfV W.drew B g x A k D m := ⟨h.bk, h.oc, h.rf⟩
theorem StV.new (W : World) : ∀ W', Hid (Blk 47 W' W.heap.size (emptyS.vs nowhere)) → Hid (Below W.heap.size W W') → StV W' W.heap.size emptyS nowhere := fun W' h1 _h2 => ⟨h1.out, sta_none W', inw_none W'⟩
theorem apply_boxes {w2 w4 : World} {s' : Sta} {x' : Eff} {ys : SA} (hi : InW W xs) (hsi : StaIn w2 w2.heap.size s' ys) (hfr : SFrom xs ys W.heap.size w2.heap.size) (hef : EffIn w2 W.heap.size x' A k D m) (hb : Below W.heap.size W w2)
    (hT : Blk 47 w4 w2.heap.size (s'.vs ys)) (hE : Blk 53 w4 (w2.heap.size + 1) (x'.vs A k D m)) (hL : Below w2.heap.size w2 w4) : StV w4 w2.heap.size s' ys ∧ EfV w4 W.heap.size (w2.heap.size + 1) x' A k D m ∧ Below W.heap.size W w4 :=
  ⟨⟨hT, hsi.grown hL, (hfr.inw hi hb.size).mono hL.size⟩, ⟨hE, hef.oc.below hL, (hef.rf.below hL).more hL.size⟩, hb.trans (hL.mono hb.size)⟩
end
theorem two_blocks (w : World) (T1 T2 : TypeId) (v1 v2 : List Value) : Blk T1 ((w.alloc (.cells v1.toArray T1)).alloc (.cells v2.toArray T2)) w.heap.size v1 ∧ Blk T2 ((w.alloc (.cells v1.toArray T1)).alloc (.cells v2.toArray T2)) (w.heap.size + 1) v2 ∧ Below w.heap.size w ((w.alloc (.cells v1.toArray T1)).alloc (.cells v2.toArray T2)) := by
  have h1 := Blk.new T1 w v1
  have h2 := Blk.new T2 (w.alloc (.cells v1.toArray T1)) v2
  rw [World.size_alloc] at h2
  exact ⟨h1.below (below_al _ _) h1.lt, h2, below_al2 w _ _⟩
/-- Apply at State{} -/
theorem apply_first (w : World) (t : ByteArray) (hsz : t.size ≤ 100000) :
    Calls Try.prog 18 #[.agg #[.int .u64 0, .int .u64 0, .slice none 0 0, .slice none 0 0, .slice none 0 0], .string t] w (AOut w nowhere (applyS emptyS t)) :=
  apply_any w emptyS nowhere (sta_none w) (inw_none w) 0 (by omega) sok_zero t hsz

theorem encB_pos (c : Cmd) : 0 < (encB c).size := by
  unfold encB partsC
  split
  · unfold batchP; rw [List.cons_append, cat_cons, ByteArray.size_append', nb_size]; omega
  · split
    · unfold splitP; rw [cat_cons, ByteArray.size_append', nb_size]; omega
    · unfold ingestP; rw [List.cons_append, cat_cons, ByteArray.size_append', nb_size]; omega
/-- what a command does -/
def methS (s : Sta) (c : Cmd) : Sta × Eff := if c.kind = 1 then batchS s c else if c.kind = 2 then splitS s c else ingestS s c
theorem applyS_enc {c : Cmd} {t : ByteArray} (hf : fitsC c) (h : encC c = (t, 0)) (s : Sta) : applyS s t = methS { s with index := s.index + 1 } c := by
  have hd := decC_of hf h
  have hp : ¬ t.size = 0 := by
    obtain ⟨_, _, _, h4⟩ := encC_ok h
    have := encB_pos c
    rw [h4] at this
    omega
  unfold applyS methS
  simp only
  rw [if_neg hp, hd]
  simp
theorem encB_size {c : Cmd} {t : ByteArray} (h : encC c = (t, 0)) : t.size ≤ 50000 := by
  obtain ⟨h1, h2, h3, h4⟩ := encC_ok h
  simp only [wideC, Bool.or_eq_false_iff, decide_eq_false_iff_not, Nat.not_lt] at h2
  subst h4
  unfold encB partsC
  split
  · unfold batchP
    have := cat_size ([nb 1 1, nb c.client 8, nb c.num 8, nb c.cells.length 1] ++ c.cells.map cellB) 300 (fun s hs => by
      rcases List.mem_append.1 hs with hs | hs
      · simp only [List.mem_cons, List.not_mem_nil, or_false] at hs
        rcases hs with rfl | rfl | rfl | rfl <;> rw [nb_size] <;> omega
      · obtain ⟨x, hx, rfl⟩ := List.mem_map.1 hs
        have := cellB_size (c := x) (by simpa [mayC] using (List.all_eq_true.1 h3 x hx))
        omega)
    simp only [List.length_append, List.length_map, List.length_cons, List.length_nil] at this
    omega
  · split
    · unfold splitP
      rw [cat_cons, cat_cons, cat_cons, cat_nil, ByteArray.size_append', ByteArray.size_append', ByteArray.size_append', nb_size, nb_size]
      have : (⟨#[]⟩ : ByteArray).size = 0 := rfl
      omega
    · unfold ingestP
      have := cat_size ([nb 3 1, nb c.job 8, nb c.sum 4, nb c.epoch 8, nb c.files.length 1] ++ c.files.map fun n => nb n 4) 10 (fun s hs => by
        rcases List.mem_append.1 hs with hs | hs
        · simp only [List.mem_cons, List.not_mem_nil, or_false] at hs
          rcases hs with rfl | rfl | rfl | rfl | rfl <;> rw [nb_size] <;> omega
        · obtain ⟨x, hx, rfl⟩ := List.mem_map.1 hs
          rw [nb_size]; omega)
      simp only [List.length_append, List.length_map, List.length_cons, List.length_nil] at this
      omega
theorem encC_cases (c : Cmd) : ((encC c).2 = 0 ∧ encC c = ((encC c).1, 0)) ∨ ((encC c).2 ≠ 0 ∧ (encC c).1 = ⟨#[]⟩) := by
  unfold encC
  split
  · split
    · exact .inr ⟨by decide, rfl⟩
    · split
      · exact .inl ⟨rfl, rfl⟩
      · exact .inr ⟨by decide, rfl⟩
  · exact .inr ⟨by decide, rfl⟩
theorem encT_size (c : Cmd) : (encC c).1.size ≤ 100000 := by
  rcases encC_cases c with ⟨_, h⟩ | ⟨_, h⟩
  · have := encB_size h
    omega
  · rw [h]
    exact Nat.zero_le _
theorem applyS_empty (s : Sta) {t : ByteArray} (h : t = ⟨#[]⟩) : applyS s t = ({ s with index := s.index + 1 }, ⟨0, false, [], []⟩) := by
  subst h
  unfold applyS
  exact if_pos rfl
end Go.Proofs.Ytiiogdgnccgehaa
