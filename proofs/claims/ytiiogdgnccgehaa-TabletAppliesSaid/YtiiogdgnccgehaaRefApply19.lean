/-
  The walk of the reference's Apply. No conditions.
-/
import Derived.Test.YtiiogdgnccgehaaRefBatch19
import Derived.Test.YtiiogdgnccgehaaRefSplit19
import Derived.Test.YtiiogdgnccgehaaRefDecD19
namespace Go.Proofs.Ytiiogdgnccgehaa
open Go.RowKit
attribute [local go_sem ↓] Go.wp_at_zero Go.wp_at_succ

def bump (s : Sta) : Sta := { s with index := s.index + 1 }
/-- what the reference's Apply gives -/
def RAOut (w : World) (xs : SA) (r : Sta × Eff) (e : Ending) (w' : World) : Prop :=
  ∃ (ys : SA) (A : Option Addr) (k : Nat) (D : Option Addr) (m : Nat), e = .returned (.tuple #[.agg (r.1.vs ys).toArray, .agg (r.2.vs A k D m).toArray]) ∧ StaIn w' w'.heap.size r.1 ys ∧ SFrom xs ys w.heap.size w'.heap.size ∧ Rd w' w'.heap.size A (vals r.2.cells) ∧ Rd w' w'.heap.size D (u32s r.2.files) ∧ Below w.heap.size w w'
theorem ROut.to {w w' : World} {xs : SA} {DC : Option Addr} {r : Sta × Eff} {e : Ending} (h : ROut w xs DC r e w') : RAOut w xs r e w' := by
  obtain ⟨ys, A, k, D, m, h1, h2, h3, h4, h5, h6, _, _⟩ := h
  exact ⟨ys, A, k, D, m, h1, h2, h3, h4, h5, h6⟩
theorem rapply_fin {w w5 w6 w7 w8 : World} {q : Nat} {s1 : Sta} {xs ys : SA} {r : Sta × Eff} {A' DC D' : Option Addr} {k' m' : Nat} (h : RM w w5 q s1 xs) (hi : InW w xs) (hsi : StaIn w6 w6.heap.size r.1 ys) (hfr : SFrom xs ys w5.heap.size w6.heap.size) (hra : Rd w6 w6.heap.size A' (vals r.2.cells)) (hrd : Rd w6 w6.heap.size D' (u32s r.2.files)) (hb : Below w5.heap.size w5 w6)
    (hpa : ∀ b, blk A' = some b → w5.heap.size ≤ b) (hpd : D' = none ∨ D' = DC) (hD : ∀ b, blk DC = some b → q + 1 < b) (h7 : w6.grownBy w7 (some q)) (h8 : w7.grownBy w8 (some (q + 1))) :
    RAOut w xs r (.returned (.tuple #[.agg (r.1.vs ys).toArray, .agg (r.2.vs A' k' D' m').toArray])) w8 := by
  have h0 := h.q0
  have he := h.e.lt
  have s5 := h.bl.size
  have s6 := hb.size
  have s7 := h7.size
  have s8 := h8.size
  have n1 := hfr.notAt (hi.notAt (g := q) (by omega)) (by omega)
  have n2 := hfr.notAt (hi.notAt (g := q + 1) (by omega)) (by omega)
  have hbb := below_grown (below_grown (h.bl.trans (hb.mono s5)) (Nat.le_trans s5 s6) h7 (by omega)) (by omega) h8 (by omega)
  have oa : ∀ g, g ≤ q + 1 → blk A' ≠ some g := fun g hg e => by have := hpa g e; omega
  have od : ∀ g, g ≤ q + 1 → blk D' ≠ some g := fun g hg e => by
    rcases hpd with h' | h'
    · rw [h'] at e; cases e
    · rw [h'] at e; have := hD g e; omega
  have fr : ∀ {X Y : Option Addr}, From X Y w5.heap.size w6.heap.size → From X Y w.heap.size w8.heap.size := fun hh b hb => by
    rcases hh b hb with h | h
    · exact .inl h
    · exact .inr (by omega)
  exact ⟨ys, A', k', D', m', rfl, (hsi.off h7 n1).off h8 n2, ⟨fr hfr.A, fr hfr.D, fr hfr.F⟩, (hra.grownOff h7 (.inr (oa _ (by omega)))).grownOff h8 (.inr (oa _ (by omega))), (hrd.grownOff h7 (.inr (od _ (by omega)))).grownOff h8 (.inr (od _ (by omega))), hbb⟩
set_option maxRecDepth 100000 in
set_option maxHeartbeats 8000000 in
theorem refApply_empty (w : World) (s : Sta) (xs : SA) (hin : StaIn w w.heap.size s xs) (hi : InW w xs) (hix : s.index ≤ 1000000) (t : ByteArray) (ht : t.size = 0) :
    Calls Try.prog 19 #[.agg (s.vs xs).toArray, .string t] w (ROut w xs none (applyS s t)) := by
  have h1 : (t.toList == []) = true := by rw [empty_size, ht]; rfl
  have HRS := Lib.hid (show applyS s t = (bump s, ⟨0, false, [], []⟩) by unfold applyS; exact if_pos ht)
  have hwi : IntKind.u64.wrap ((s.index : Int) + 1) = ((s.index + 1 : Nat) : Int) := wrap_nat (s.index + 1) (by omega)
  have hm0 := RM.start3 w s xs
  have c0 := hm0.st.cell (j := 0) rfl
  have f0 := hm0.st.free 0
  have HM : Hid (RM w (((w.alloc (.cells #[.int .u64 (s.index + 1 : Nat), .int .u64 s.epoch, .slice xs.A s.borders.length xs.a, .slice xs.D s.jobs.length xs.d, .slice xs.F s.clients.length xs.f] 51)).alloc (.cells #[.int .u64 0, .int .u64 0, .slice none 0 0, .slice none 0 0, .slice none 0 0] 51)).alloc (.cells #[.int .i64 0, .bool false, .slice none 0 0, .slice none 0 0] 56)) (w.heap.size + 1) (bump s) xs) := Lib.hid (RM.start3 w (bump s) xs)
  have HIN := Lib.hid (show StaIn w w.heap.size (bump s) xs from ⟨hin.rb, hin.rj, hin.rc⟩)
  have HI := Lib.hid hi
  unfold effz staz Sta.vs at c0 f0
  unfold Sta.vs
  clear hm0 hin hi
  have HF := Lib.hid (RM.same HM.out HIN.out HI.out 0 false)
  clear ht
  go_enter Try.func19, Try.ntmps19
  go_wp2_with (first
    | ((with_reducible show wpList _ _ _ ({ dst := some 14, op := Op.load _ _, type := _, pos := _, after := _, guard := _ } :: _) _ _); go_loud (refine wpList_load_mid rfl 51 (.tmp 2) rfl w.heap.size 0 rfl (Sta.vs (bump s) xs) _ HF.out.st.range Try.underlying51 rfl (by kernel_rfl) ?_))
    | ((with_reducible show wpList _ _ _ ({ dst := none, op := Op.store _ (Operand.tmp 4) _, type := _, pos := _, after := _, guard := _ } :: _) _ _); go_loud (refine wpList_store_mid rfl 51 (.tmp 4) (.tmp 14) rfl (w.heap.size + 1) 0 (Sta.vs (bump s) xs).toArray rfl rfl (HF.out.a.there 5 (Nat.le_refl _)) (by kernel_rfl) (by simp [Value.oneCell', Sta.vs]) ?_); refine HF.out.a.setW (Sta.vs (bump s) xs) rfl ?_; intro w21 HT21 HG21; have HE21 := Lib.hid (HF.out.e.grown HG21.out (fun e => by injection e; omega)))
    | ((with_reducible show wpList _ _ _ ({ dst := none, op := Op.store _ (Operand.tmp 5) _, type := _, pos := _, after := _, guard := _ } :: _) _ _); go_loud (refine wpList_store_mid rfl 56 (.tmp 5) (.tmp 15) rfl ((w.heap.size + 1) + 1) 0 (Eff.vs ⟨0, false, [], []⟩ none 0 none 0).toArray rfl rfl (HE21.out.there 4 (Nat.le_refl _)) (by kernel_rfl) (by simp [Value.oneCell', Eff.vs]) ?_); refine HE21.out.setW (Eff.vs ⟨0, false, [], []⟩ none 0 none 0) rfl ?_; intro w22 HE22 HG22)
    )
  (try simp only [Exit.inBlock, Exit.then])
  refine bodyPost_ret (blk_two rfl Try.underlying51 rfl Try.underlying56 rfl _ _ (w.heap.size + 1) ((w.heap.size + 1) + 1) _ _ (by kernel_rfl) (by kernel_rfl) rfl rfl (HT21.out.grown HG22.out (fun e => by injection e; omega)) HE22.out) rfl ?_
  rw [HRS.out]
  exact HF.out.out HG21.out HG22.out (by first | exact .inl rfl | exact .inr rfl)
set_option maxRecDepth 100000 in
set_option maxHeartbeats 8000000 in
theorem refApply_none (w : World) (s : Sta) (xs : SA) (hin : StaIn w w.heap.size s xs) (hi : InW w xs) (hix : s.index ≤ 1000000) (t : ByteArray) (ht : ¬ t.size = 0) (hsz : t.size ≤ 100000) (hd : (decC t).2 ≠ 0) :
    Calls Try.prog 19 #[.agg (s.vs xs).toArray, .string t] w (ROut w xs none (applyS s t)) := by
  have h1 : (t.toList == []) = false := by rw [empty_size]; exact decide_eq_false ht
  have hdz : decC t = (zeroC, 50) := (decC_spec t).resolve_left (fun h => hd h.1)
  have HRS := Lib.hid (show applyS s t = (bump s, ⟨50, false, [], []⟩) by unfold applyS; simp only; rw [if_neg ht, if_pos hd, hdz]; rfl)
  have hwi : IntKind.u64.wrap ((s.index : Int) + 1) = ((s.index + 1 : Nat) : Int) := wrap_nat (s.index + 1) (by omega)
  have hm0 := RM.start3 w s xs
  have c0 := hm0.st.cell (j := 0) rfl
  have f0 := hm0.st.free 0
  have HM : Hid (RM w (((w.alloc (.cells #[.int .u64 (s.index + 1 : Nat), .int .u64 s.epoch, .slice xs.A s.borders.length xs.a, .slice xs.D s.jobs.length xs.d, .slice xs.F s.clients.length xs.f] 51)).alloc (.cells #[.int .u64 0, .int .u64 0, .slice none 0 0, .slice none 0 0, .slice none 0 0] 51)).alloc (.cells #[.int .i64 0, .bool false, .slice none 0 0, .slice none 0 0] 56)) (w.heap.size + 1) (bump s) xs) := Lib.hid (RM.start3 w (bump s) xs)
  have HIN := Lib.hid (show StaIn w w.heap.size (bump s) xs from ⟨hin.rb, hin.rj, hin.rc⟩)
  have HI := Lib.hid hi
  unfold effz staz Sta.vs at c0 f0
  unfold Sta.vs
  clear hm0 hin hi
  have HDC := Lib.hid (fun (W : World) => by have := refDecode_any t W hsz; unfold DecOut at this; rw [hdz] at this; exact this)
  clear ht hd hdz
  go_enter Try.func19, Try.ntmps19
  go_wp2_with (first
    | ((with_reducible show wpList _ _ _ ({ dst := some 23, op := Op.load _ _, type := _, pos := _, after := _, guard := _ } :: _) _ _); go_loud (refine wpList_load_mid rfl 51 (.tmp 2) rfl w.heap.size 0 rfl (Sta.vs (bump s) xs) _ HF.out.st.range Try.underlying51 rfl (by kernel_rfl) ?_))
    | ((with_reducible show wpList _ _ _ ({ dst := none, op := Op.store _ (Operand.tmp 4) _, type := _, pos := _, after := _, guard := _ } :: _) _ _); go_loud (refine wpList_store_mid rfl 51 (.tmp 4) (.tmp 23) rfl (w.heap.size + 1) 0 (Sta.vs (bump s) xs).toArray rfl rfl (HF.out.a.there 5 (Nat.le_refl _)) (by kernel_rfl) (by simp [Value.oneCell', Sta.vs]) ?_); refine HF.out.a.setW (Sta.vs (bump s) xs) rfl ?_; intro w21 HT21 HG21; have HE21 := Lib.hid (HF.out.e.grown HG21.out (fun e => by injection e; omega)))
    | ((with_reducible show wpList _ _ _ ({ dst := none, op := Op.store _ (Operand.tmp 5) _, type := _, pos := _, after := _, guard := _ } :: _) _ _); go_loud (refine wpList_store_mid rfl 56 (.tmp 5) (.tmp 25) rfl ((w.heap.size + 1) + 1) 0 (Eff.vs ⟨50, false, [], []⟩ none 0 none 0).toArray rfl rfl (HE21.out.there 4 (Nat.le_refl _)) (by kernel_rfl) (by simp [Value.oneCell', Eff.vs]) ?_); refine HE21.out.setW (Eff.vs ⟨50, false, [], []⟩ none 0 none 0) rfl ?_; intro w22 HE22 HG22)
    | ((with_reducible show wpList _ _ _ ({ dst := none, op := Op.store _ (Operand.tmp 6) _, type := _, pos := _, after := _, guard := _ } :: _) _ _); go_loud (refine wpList_store_mid rfl 34 (.tmp 6) (.tmp 19) rfl w4.heap.size 0 (zeroC.vs A k D m).toArray rfl rfl (there_madeB 34 w4 zcv 9 (Nat.le_refl _)) (by kernel_rfl) (by simp [Value.oneCell', Cmd.vs]) ?_); refine Blk.madeW 34 w4 zcv (zeroC.vs A k D m) rfl ?_; intro w5 HC5 HL5; have HM5 := Lib.hid (HM4.out.below HL5.out); have HI5 := Lib.hid (HC4.out.grown HL5.out); have kd := HC5.out.cell (j := 0) rfl; have rw4 := HC5.out.cell (j := 4) rfl; have HF := Lib.hid (RM.same HM5.out HIN.out HI.out 50 false))
    | (go_at_call 16; go_loud (refine (HDC.out _).mono ?_); rintro e w4 ⟨A, k, D, m, rfl, hin4, hb, hA4, hD4⟩; have HM4 := Lib.hid (HM.out.below hb); have HC4 := Lib.hid hin4; have HD4 := Lib.hid (fun b (e : blk D = some b) => Nat.lt_of_lt_of_le HM.out.e.lt (hD4 b e)); clear hb hin4 hA4 hD4)
    )
  (try simp only [Exit.inBlock, Exit.then])
  refine bodyPost_ret (blk_two rfl Try.underlying51 rfl Try.underlying56 rfl _ _ (w.heap.size + 1) ((w.heap.size + 1) + 1) _ _ (by kernel_rfl) (by kernel_rfl) rfl rfl (HT21.out.grown HG22.out (fun e => by injection e; omega)) HE22.out) rfl ?_
  rw [HRS.out]
  exact HF.out.out HG21.out HG22.out (by first | exact .inl rfl | exact .inr rfl)
set_option maxRecDepth 100000 in
set_option maxHeartbeats 8000000 in
theorem refApply_1 (w : World) (s : Sta) (xs : SA) (hin : StaIn w w.heap.size s xs) (hi : InW w xs) (hix : s.index ≤ 1000000) (t : ByteArray) (ht : ¬ t.size = 0) (hsz : t.size ≤ 100000) (c : Cmd) (hd : decC t = (c, 0)) (hk : c.kind = 1)
    (hmt : ∀ (W : World) (A : Option Addr) (k : Nat) (D : Option Addr) (m : Nat), StaIn W W.heap.size (bump s) xs → InW W xs → CmdIn W W.heap.size c A k D m →
      Calls Try.prog 47 #[.agg (Sta.vs (bump s) xs).toArray, .agg (c.vs A k D m).toArray] W (ROut W xs D (batchS (bump s) c))) :
    Calls Try.prog 19 #[.agg (s.vs xs).toArray, .string t] w (RAOut w xs (applyS s t)) := by
  have h1 : (t.toList == []) = false := by rw [empty_size]; exact decide_eq_false ht
  have hrs := (show applyS s t = batchS (bump s) c by unfold applyS; simp only; rw [if_neg ht, if_neg (by rw [hd]; exact fun h => h rfl), hd]; simp only [hk]; rfl)
  obtain ⟨r, hr⟩ : ∃ r, batchS (bump s) c = r := ⟨_, rfl⟩
  rw [hr] at hrs
  simp only [hr] at hmt
  have HRS := Lib.hid hrs
  have HK := Lib.hid hk
  have HMT := Lib.hid hmt
  have hwi : IntKind.u64.wrap ((s.index : Int) + 1) = ((s.index + 1 : Nat) : Int) := wrap_nat (s.index + 1) (by omega)
  have hm0 := RM.start3 w s xs
  have c0 := hm0.st.cell (j := 0) rfl
  have f0 := hm0.st.free 0
  have HM : Hid (RM w (((w.alloc (.cells #[.int .u64 (s.index + 1 : Nat), .int .u64 s.epoch, .slice xs.A s.borders.length xs.a, .slice xs.D s.jobs.length xs.d, .slice xs.F s.clients.length xs.f] 51)).alloc (.cells #[.int .u64 0, .int .u64 0, .slice none 0 0, .slice none 0 0, .slice none 0 0] 51)).alloc (.cells #[.int .i64 0, .bool false, .slice none 0 0, .slice none 0 0] 56)) (w.heap.size + 1) (bump s) xs) := Lib.hid (RM.start3 w (bump s) xs)
  have HIN := Lib.hid (show StaIn w w.heap.size (bump s) xs from ⟨hin.rb, hin.rj, hin.rc⟩)
  have HI := Lib.hid hi
  unfold effz staz Sta.vs at c0 f0
  unfold Sta.vs
  clear hm0 hin hi
  have HDC := Lib.hid (fun (W : World) => by have := refDecode_any t W hsz; unfold DecOut at this; rw [hd] at this; exact this)
  clear ht hd hrs hr hk hmt
  go_enter Try.func19, Try.ntmps19
  go_wp2_with (first
    | ((with_reducible show wpList _ _ _ ({ dst := none, op := Op.store _ (Operand.tmp 5) _, type := _, pos := _, after := _, guard := _ } :: _) _ _); go_loud (refine wpList_store_mid rfl 56 (.tmp 5) (.tmp 34) rfl (w.heap.size + 1 + 1) 0 (r.2.vs A' k' D' m').toArray rfl rfl (HE7.out.there 4 (Nat.le_refl _)) (by kernel_rfl) (by simp [Value.oneCell', Eff.vs]) ?_); refine HE7.out.setW (r.2.vs A' k' D' m') rfl ?_; intro w8 HE8 HG8)
    | ((with_reducible show wpList _ _ _ ({ dst := none, op := Op.store _ (Operand.tmp 4) _, type := _, pos := _, after := _, guard := _ } :: _) _ _); go_loud (refine wpList_store_mid rfl 51 (.tmp 4) (.tmp 33) rfl (w.heap.size + 1) 0 (r.1.vs ys).toArray rfl rfl (HM6.out.a.there 5 (Nat.le_refl _)) (by kernel_rfl) (by simp [Value.oneCell', Sta.vs]) ?_); refine HM6.out.a.setW (r.1.vs ys) rfl ?_; intro w7 HT7 HG7; have HE7 := Lib.hid (HM6.out.e.grown HG7.out (fun e => by injection e; omega)))
    | (go_at_call 47; go_loud (refine (HMT.out w5 A k D m (HIN.out.grown HM5.out.bl) (HI.out.mono HM5.out.bl.size) HI5.out).mono ?_); rintro e w6 ⟨ys, A', k', D', m', rfl, hsi, hfr, hra, hrd, hb, hpa, hpd⟩; have HM6 := Lib.hid (HM5.out.below hb); have H6 := Lib.hid (And.intro hsi (And.intro hfr (And.intro hra (And.intro hrd (And.intro hb (And.intro hpa hpd)))))); clear hsi hfr hra hrd hb hpa hpd)
    | ((with_reducible show wpList _ _ _ ({ dst := some 31, op := Op.load _ _, type := _, pos := _, after := _, guard := _ } :: _) _ _); go_loud (refine wpList_load_mid rfl 34 (.tmp 6) rfl w4.heap.size 0 rfl (c.vs A k D m) _ HC5.out.range Try.underlying34 rfl (by kernel_rfl) ?_))
    | ((with_reducible show wpList _ _ _ ({ dst := some 30, op := Op.load _ _, type := _, pos := _, after := _, guard := _ } :: _) _ _); go_loud (refine wpList_load_mid rfl 51 (.tmp 2) rfl w.heap.size 0 rfl (Sta.vs (bump s) xs) _ HM5.out.st.range Try.underlying51 rfl (by kernel_rfl) ?_))
    | ((with_reducible show wpList _ _ _ ({ dst := none, op := Op.store _ (Operand.tmp 6) _, type := _, pos := _, after := _, guard := _ } :: _) _ _); go_loud (refine wpList_store_mid rfl 34 (.tmp 6) (.tmp 19) rfl w4.heap.size 0 (c.vs A k D m).toArray rfl rfl (there_madeB 34 w4 zcv 9 (Nat.le_refl _)) (by kernel_rfl) (by simp [Value.oneCell', Cmd.vs]) ?_); refine Blk.madeW 34 w4 zcv (c.vs A k D m) rfl ?_; intro w5 HC5 HL5; have HM5 := Lib.hid (HM4.out.below HL5.out); have HI5 := Lib.hid (HC4.out.grown HL5.out); have kd := HC5.out.cell (j := 0) rfl; have rw4 := HC5.out.cell (j := 4) rfl; rw [HK.out] at kd)
    | (go_at_call 16; go_loud (refine (HDC.out _).mono ?_); rintro e w4 ⟨A, k, D, m, rfl, hin4, hb, hA4, hD4⟩; have HM4 := Lib.hid (HM.out.below hb); have HC4 := Lib.hid hin4; have HD4 := Lib.hid (fun b (e : blk D = some b) => Nat.lt_of_lt_of_le HM.out.e.lt (hD4 b e)); clear hb hin4 hA4 hD4)
    )
  (try simp only [Exit.inBlock, Exit.then])
  refine bodyPost_ret (blk_two rfl Try.underlying51 rfl Try.underlying56 rfl _ _ (w.heap.size + 1) (w.heap.size + 1 + 1) _ _ (by kernel_rfl) (by kernel_rfl) rfl rfl (HT7.out.grown HG8.out (fun e => by injection e; omega)) HE8.out) rfl ?_
  rw [HRS.out]
  exact rapply_fin HM5.out HI.out H6.out.1 H6.out.2.1 H6.out.2.2.1 H6.out.2.2.2.1 H6.out.2.2.2.2.1 H6.out.2.2.2.2.2.1 H6.out.2.2.2.2.2.2 HD4.out HG7.out HG8.out
set_option maxRecDepth 100000 in
set_option maxHeartbeats 8000000 in
theorem refApply_2 (w : World) (s : Sta) (xs : SA) (hin : StaIn w w.heap.size s xs) (hi : InW w xs) (hix : s.index ≤ 1000000) (t : ByteArray) (ht : ¬ t.size = 0) (hsz : t.size ≤ 100000) (c : Cmd) (hd : decC t = (c, 0)) (hk : c.kind = 2)
    (hmt : ∀ (W : World) (A : Option Addr) (k : Nat) (D : Option Addr) (m : Nat), StaIn W W.heap.size (bump s) xs → InW W xs → CmdIn W W.heap.size c A k D m →
      Calls Try.prog 48 #[.agg (Sta.vs (bump s) xs).toArray, .string c.row] W (ROut W xs none (splitS (bump s) c))) :
    Calls Try.prog 19 #[.agg (s.vs xs).toArray, .string t] w (RAOut w xs (applyS s t)) := by
  have h1 : (t.toList == []) = false := by rw [empty_size]; exact decide_eq_false ht
  have hrs := (show applyS s t = splitS (bump s) c by unfold applyS; simp only; rw [if_neg ht, if_neg (by rw [hd]; exact fun h => h rfl), hd]; simp only [hk]; rfl)
  obtain ⟨r, hr⟩ : ∃ r, splitS (bump s) c = r := ⟨_, rfl⟩
  rw [hr] at hrs
  simp only [hr] at hmt
  have HRS := Lib.hid hrs
  have HK := Lib.hid hk
  have HMT := Lib.hid hmt
  have hwi : IntKind.u64.wrap ((s.index : Int) + 1) = ((s.index + 1 : Nat) : Int) := wrap_nat (s.index + 1) (by omega)
  have hm0 := RM.start3 w s xs
  have c0 := hm0.st.cell (j := 0) rfl
  have f0 := hm0.st.free 0
  have HM : Hid (RM w (((w.alloc (.cells #[.int .u64 (s.index + 1 : Nat), .int .u64 s.epoch, .slice xs.A s.borders.length xs.a, .slice xs.D s.jobs.length xs.d, .slice xs.F s.clients.length xs.f] 51)).alloc (.cells #[.int .u64 0, .int .u64 0, .slice none 0 0, .slice none 0 0, .slice none 0 0] 51)).alloc (.cells #[.int .i64 0, .bool false, .slice none 0 0, .slice none 0 0] 56)) (w.heap.size + 1) (bump s) xs) := Lib.hid (RM.start3 w (bump s) xs)
  have HIN := Lib.hid (show StaIn w w.heap.size (bump s) xs from ⟨hin.rb, hin.rj, hin.rc⟩)
  have HI := Lib.hid hi
  unfold effz staz Sta.vs at c0 f0
  unfold Sta.vs
  clear hm0 hin hi
  have HDC := Lib.hid (fun (W : World) => by have := refDecode_any t W hsz; unfold DecOut at this; rw [hd] at this; exact this)
  clear ht hd hrs hr hk hmt
  go_enter Try.func19, Try.ntmps19
  go_wp2_with (first
    | ((with_reducible show wpList _ _ _ ({ dst := none, op := Op.store _ (Operand.tmp 5) _, type := _, pos := _, after := _, guard := _ } :: _) _ _); go_loud (refine wpList_store_mid rfl 56 (.tmp 5) (.tmp 42) rfl (w.heap.size + 1 + 1) 0 (r.2.vs A' k' D' m').toArray rfl rfl (HE7.out.there 4 (Nat.le_refl _)) (by kernel_rfl) (by simp [Value.oneCell', Eff.vs]) ?_); refine HE7.out.setW (r.2.vs A' k' D' m') rfl ?_; intro w8 HE8 HG8)
    | ((with_reducible show wpList _ _ _ ({ dst := none, op := Op.store _ (Operand.tmp 4) _, type := _, pos := _, after := _, guard := _ } :: _) _ _); go_loud (refine wpList_store_mid rfl 51 (.tmp 4) (.tmp 41) rfl (w.heap.size + 1) 0 (r.1.vs ys).toArray rfl rfl (HM6.out.a.there 5 (Nat.le_refl _)) (by kernel_rfl) (by simp [Value.oneCell', Sta.vs]) ?_); refine HM6.out.a.setW (r.1.vs ys) rfl ?_; intro w7 HT7 HG7; have HE7 := Lib.hid (HM6.out.e.grown HG7.out (fun e => by injection e; omega)))
    | (go_at_call 48; go_loud (refine (HMT.out w5 A k D m (HIN.out.grown HM5.out.bl) (HI.out.mono HM5.out.bl.size) HI5.out).mono ?_); rintro e w6 ⟨ys, A', k', D', m', rfl, hsi, hfr, hra, hrd, hb, hpa, hpd⟩; have HM6 := Lib.hid (HM5.out.below hb); have H6 := Lib.hid (And.intro hsi (And.intro hfr (And.intro hra (And.intro hrd (And.intro hb (And.intro hpa hpd)))))); clear hsi hfr hra hrd hb hpa hpd)
    | ((with_reducible show wpList _ _ _ ({ dst := some 999, op := Op.load _ _, type := _, pos := _, after := _, guard := _ } :: _) _ _); go_loud (refine wpList_load_mid rfl 34 (.tmp 6) rfl w4.heap.size 0 rfl (c.vs A k D m) _ HC5.out.range Try.underlying34 rfl (by kernel_rfl) ?_))
    | ((with_reducible show wpList _ _ _ ({ dst := some 37, op := Op.load _ _, type := _, pos := _, after := _, guard := _ } :: _) _ _); go_loud (refine wpList_load_mid rfl 51 (.tmp 2) rfl w.heap.size 0 rfl (Sta.vs (bump s) xs) _ HM5.out.st.range Try.underlying51 rfl (by kernel_rfl) ?_))
    | ((with_reducible show wpList _ _ _ ({ dst := none, op := Op.store _ (Operand.tmp 6) _, type := _, pos := _, after := _, guard := _ } :: _) _ _); go_loud (refine wpList_store_mid rfl 34 (.tmp 6) (.tmp 19) rfl w4.heap.size 0 (c.vs A k D m).toArray rfl rfl (there_madeB 34 w4 zcv 9 (Nat.le_refl _)) (by kernel_rfl) (by simp [Value.oneCell', Cmd.vs]) ?_); refine Blk.madeW 34 w4 zcv (c.vs A k D m) rfl ?_; intro w5 HC5 HL5; have HM5 := Lib.hid (HM4.out.below HL5.out); have HI5 := Lib.hid (HC4.out.grown HL5.out); have kd := HC5.out.cell (j := 0) rfl; have rw4 := HC5.out.cell (j := 4) rfl; rw [HK.out] at kd)
    | (go_at_call 16; go_loud (refine (HDC.out _).mono ?_); rintro e w4 ⟨A, k, D, m, rfl, hin4, hb, hA4, hD4⟩; have HM4 := Lib.hid (HM.out.below hb); have HC4 := Lib.hid hin4; have HD4 := Lib.hid (fun b (e : blk D = some b) => Nat.lt_of_lt_of_le HM.out.e.lt (hD4 b e)); clear hb hin4 hA4 hD4)
    )
  (try simp only [Exit.inBlock, Exit.then])
  refine bodyPost_ret (blk_two rfl Try.underlying51 rfl Try.underlying56 rfl _ _ (w.heap.size + 1) (w.heap.size + 1 + 1) _ _ (by kernel_rfl) (by kernel_rfl) rfl rfl (HT7.out.grown HG8.out (fun e => by injection e; omega)) HE8.out) rfl ?_
  rw [HRS.out]
  exact rapply_fin HM5.out HI.out H6.out.1 H6.out.2.1 H6.out.2.2.1 H6.out.2.2.2.1 H6.out.2.2.2.2.1 H6.out.2.2.2.2.2.1 H6.out.2.2.2.2.2.2 (fun b h => by cases h) HG7.out HG8.out
set_option maxRecDepth 100000 in
set_option maxHeartbeats 8000000 in
theorem refApply_3 (w : World) (s : Sta) (xs : SA) (hin : StaIn w w.heap.size s xs) (hi : InW w xs) (hix : s.index ≤ 1000000) (t : ByteArray) (ht : ¬ t.size = 0) (hsz : t.size ≤ 100000) (c : Cmd) (hd : decC t = (c, 0)) (hk : c.kind = 3)
    (hmt : ∀ (W : World) (A : Option Addr) (k : Nat) (D : Option Addr) (m : Nat), StaIn W W.heap.size (bump s) xs → InW W xs → CmdIn W W.heap.size c A k D m →
      Calls Try.prog 49 #[.agg (Sta.vs (bump s) xs).toArray, .agg (c.vs A k D m).toArray] W (ROut W xs D (ingestS (bump s) c))) :
    Calls Try.prog 19 #[.agg (s.vs xs).toArray, .string t] w (RAOut w xs (applyS s t)) := by
  have h1 : (t.toList == []) = false := by rw [empty_size]; exact decide_eq_false ht
  have hrs := (show applyS s t = ingestS (bump s) c by unfold applyS; simp only; rw [if_neg ht, if_neg (by rw [hd]; exact fun h => h rfl), hd]; simp only [hk]; rfl)
  obtain ⟨r, hr⟩ : ∃ r, ingestS (bump s) c = r := ⟨_, rfl⟩
  rw [hr] at hrs
  simp only [hr] at hmt
  have HRS := Lib.hid hrs
  have HK := Lib.hid hk
  have HMT := Lib.hid hmt
  have hwi : IntKind.u64.wrap ((s.index : Int) + 1) = ((s.index + 1 : Nat) : Int) := wrap_nat (s.index + 1) (by omega)
  have hm0 := RM.start3 w s xs
  have c0 := hm0.st.cell (j := 0) rfl
  have f0 := hm0.st.free 0
  have HM : Hid (RM w (((w.alloc (.cells #[.int .u64 (s.index + 1 : Nat), .int .u64 s.epoch, .slice xs.A s.borders.length xs.a, .slice xs.D s.jobs.length xs.d, .slice xs.F s.clients.length xs.f] 51)).alloc (.cells #[.int .u64 0, .int .u64 0, .slice none 0 0, .slice none 0 0, .slice none 0 0] 51)).alloc (.cells #[.int .i64 0, .bool false, .slice none 0 0, .slice none 0 0] 56)) (w.heap.size + 1) (bump s) xs) := Lib.hid (RM.start3 w (bump s) xs)
  have HIN := Lib.hid (show StaIn w w.heap.size (bump s) xs from ⟨hin.rb, hin.rj, hin.rc⟩)
  have HI := Lib.hid hi
  unfold effz staz Sta.vs at c0 f0
  unfold Sta.vs
  clear hm0 hin hi
  have HDC := Lib.hid (fun (W : World) => by have := refDecode_any t W hsz; unfold DecOut at this; rw [hd] at this; exact this)
  clear ht hd hrs hr hk hmt
  go_enter Try.func19, Try.ntmps19
  go_wp2_with (first
    | ((with_reducible show wpList _ _ _ ({ dst := none, op := Op.store _ (Operand.tmp 5) _, type := _, pos := _, after := _, guard := _ } :: _) _ _); go_loud (refine wpList_store_mid rfl 56 (.tmp 5) (.tmp 47) rfl (w.heap.size + 1 + 1) 0 (r.2.vs A' k' D' m').toArray rfl rfl (HE7.out.there 4 (Nat.le_refl _)) (by kernel_rfl) (by simp [Value.oneCell', Eff.vs]) ?_); refine HE7.out.setW (r.2.vs A' k' D' m') rfl ?_; intro w8 HE8 HG8)
    | ((with_reducible show wpList _ _ _ ({ dst := none, op := Op.store _ (Operand.tmp 4) _, type := _, pos := _, after := _, guard := _ } :: _) _ _); go_loud (refine wpList_store_mid rfl 51 (.tmp 4) (.tmp 46) rfl (w.heap.size + 1) 0 (r.1.vs ys).toArray rfl rfl (HM6.out.a.there 5 (Nat.le_refl _)) (by kernel_rfl) (by simp [Value.oneCell', Sta.vs]) ?_); refine HM6.out.a.setW (r.1.vs ys) rfl ?_; intro w7 HT7 HG7; have HE7 := Lib.hid (HM6.out.e.grown HG7.out (fun e => by injection e; omega)))
    | (go_at_call 49; go_loud (refine (HMT.out w5 A k D m (HIN.out.grown HM5.out.bl) (HI.out.mono HM5.out.bl.size) HI5.out).mono ?_); rintro e w6 ⟨ys, A', k', D', m', rfl, hsi, hfr, hra, hrd, hb, hpa, hpd⟩; have HM6 := Lib.hid (HM5.out.below hb); have H6 := Lib.hid (And.intro hsi (And.intro hfr (And.intro hra (And.intro hrd (And.intro hb (And.intro hpa hpd)))))); clear hsi hfr hra hrd hb hpa hpd)
    | ((with_reducible show wpList _ _ _ ({ dst := some 44, op := Op.load _ _, type := _, pos := _, after := _, guard := _ } :: _) _ _); go_loud (refine wpList_load_mid rfl 34 (.tmp 6) rfl w4.heap.size 0 rfl (c.vs A k D m) _ HC5.out.range Try.underlying34 rfl (by kernel_rfl) ?_))
    | ((with_reducible show wpList _ _ _ ({ dst := some 43, op := Op.load _ _, type := _, pos := _, after := _, guard := _ } :: _) _ _); go_loud (refine wpList_load_mid rfl 51 (.tmp 2) rfl w.heap.size 0 rfl (Sta.vs (bump s) xs) _ HM5.out.st.range Try.underlying51 rfl (by kernel_rfl) ?_))
    | ((with_reducible show wpList _ _ _ ({ dst := none, op := Op.store _ (Operand.tmp 6) _, type := _, pos := _, after := _, guard := _ } :: _) _ _); go_loud (refine wpList_store_mid rfl 34 (.tmp 6) (.tmp 19) rfl w4.heap.size 0 (c.vs A k D m).toArray rfl rfl (there_madeB 34 w4 zcv 9 (Nat.le_refl _)) (by kernel_rfl) (by simp [Value.oneCell', Cmd.vs]) ?_); refine Blk.madeW 34 w4 zcv (c.vs A k D m) rfl ?_; intro w5 HC5 HL5; have HM5 := Lib.hid (HM4.out.below HL5.out); have HI5 := Lib.hid (HC4.out.grown HL5.out); have kd := HC5.out.cell (j := 0) rfl; have rw4 := HC5.out.cell (j := 4) rfl; rw [HK.out] at kd)
    | (go_at_call 16; go_loud (refine (HDC.out _).mono ?_); rintro e w4 ⟨A, k, D, m, rfl, hin4, hb, hA4, hD4⟩; have HM4 := Lib.hid (HM.out.below hb); have HC4 := Lib.hid hin4; have HD4 := Lib.hid (fun b (e : blk D = some b) => Nat.lt_of_lt_of_le HM.out.e.lt (hD4 b e)); clear hb hin4 hA4 hD4)
    )
  (try simp only [Exit.inBlock, Exit.then])
  refine bodyPost_ret (blk_two rfl Try.underlying51 rfl Try.underlying56 rfl _ _ (w.heap.size + 1) (w.heap.size + 1 + 1) _ _ (by kernel_rfl) (by kernel_rfl) rfl rfl (HT7.out.grown HG8.out (fun e => by injection e; omega)) HE8.out) rfl ?_
  rw [HRS.out]
  exact rapply_fin HM5.out HI.out H6.out.1 H6.out.2.1 H6.out.2.2.1 H6.out.2.2.2.1 H6.out.2.2.2.2.1 H6.out.2.2.2.2.2.1 H6.out.2.2.2.2.2.2 HD4.out HG7.out HG8.out
theorem refApply_any (w : World) (s : Sta) (xs : SA) (hin : StaIn w w.heap.size s xs) (hi : InW w xs) (n : Nat) (hn : n < 1000) (hs : SOk s n) (hu : Uniq s) (t : ByteArray) (hsz : t.size ≤ 100000) :
    Calls Try.prog 19 #[.agg (s.vs xs).toArray, .string t] w (RAOut w xs (applyS s t)) := by
  have hix : s.index ≤ 1000000 := by have := hs.ix; omega
  by_cases ht : t.size = 0
  · exact (refApply_empty w s xs hin hi hix t ht).mono fun e w' h => h.to
  · by_cases hd : (decC t).2 = 0
    · obtain ⟨c, e, hdc⟩ : ∃ c e, decC t = (c, e) := ⟨_, _, rfl⟩
      rw [hdc] at hd
      simp only at hd
      subst hd
      have hsp := decC_spec t
      rw [hdc] at hsp
      rcases hsp with ⟨_, he⟩ | h
      · simp only at he
        obtain ⟨hp, hw, hm, hb⟩ := encC_ok he
        simp only [wideC, Bool.or_eq_false_iff, decide_eq_false_iff_not, Nat.not_lt] at hw
        have l1 := hs.lb
        have l2 := hs.lj
        have l3 := hs.lc
        have l4 := hs.ep
        rcases plainC_cases hp with ⟨hk, _⟩ | ⟨hk, _⟩ | ⟨hk, _⟩
        · exact refApply_1 w s xs hin hi hix t ht hsz c hdc hk fun W A k D m h1 h2 h3 => refBatch_any W _ xs c A k D m h1 h2 h3 hu (by show s.clients.length ≤ _; omega) (by omega)
        · exact refApply_2 w s xs hin hi hix t ht hsz c hdc hk fun W A k D m h1 h2 h3 => refSplit_any W _ xs c h1 h2 (by show s.borders.length ≤ _; omega) hs.rise (by show s.epoch ≤ _; omega)
        · exact refApply_3 w s xs hin hi hix t ht hsz c hdc hk fun W A k D m h1 h2 h3 => refIngest_any W _ xs c A k D m h1 h2 h3 (by show s.jobs.length ≤ _; omega)
      · injection h with _ h
        cases h
    · exact (refApply_none w s xs hin hi hix t ht hsz hd).mono fun e w' h => h.to
end Go.Proofs.Ytiiogdgnccgehaa
