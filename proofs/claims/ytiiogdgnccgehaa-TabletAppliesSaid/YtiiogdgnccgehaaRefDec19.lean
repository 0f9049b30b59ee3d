/-
  The reference's Decode in memory; its walk at splits and unknown kinds. No conditions.
-/
import Derived.Test.YtiiogdgnccgehaaRefCellDec19
import Derived.Test.YtiiogdgnccgehaaRefEncC19
import Derived.Test.YtiiogdgnccgehaaDecode19
namespace Go.Proofs.Ytiiogdgnccgehaa
open Go.RowKit
attribute [local go_sem ↓] Go.wp_at_zero Go.wp_at_succ


/-- the answer's variable (nothing yet) and the command, made behind w -/
structure RDV (w W : World) (g : Nat) (vs : List Value) : Prop where
  bl : Below w.heap.size w W
  z : Blk 34 W w.heap.size zcv
  v : Blk 34 W g vs
  lt : w.heap.size < g
section
variable {w W W' : World} {g : Nat} {vs : List Value}
theorem RDV.below (h : RDV w W g vs) (hb : Below W.heap.size W W') : RDV w W' g vs := ⟨h.bl.trans (hb.mono h.bl.size), h.z.below hb h.z.lt, h.v.below hb h.v.lt, h.lt⟩
theorem RDV.own (h : RDV w W g vs) {row : Option Nat} (hg : W.grownBy W' row) (hr : ∀ k, row = some k → g < k) : RDV w W' g vs :=
  ⟨h.bl.grown hg h.bl.size (fun k hk => by have := hr k hk; have := h.lt; omega), h.z.grown hg (fun e => by have := hr _ e; have := h.lt; omega), h.v.grown hg (fun e => by have := hr _ e; omega), h.lt⟩
theorem RDV.set (h : RDV w W g vs) (j : Nat) (x : Value) : RDV w (W.setCell ⟨g, j, none⟩ x) g (vs.set j x) :=
  ⟨h.bl.grown (grown_set W g j x) h.bl.size (fun k hk => by injection hk; have := h.lt; omega), h.z.grown (grown_set W g j x) (fun e => by injection e; have := h.lt; omega), h.v.set j x, h.lt⟩
theorem RDV.start {w w1 : World} (hb : Below (w.alloc (.cells zcv.toArray 34)).heap.size (w.alloc (.cells zcv.toArray 34)) w1) (vs : List Value) : RDV w (w1.alloc (.cells vs.toArray 34)) w1.heap.size vs := by
  have hz := (Blk.new 34 w zcv).below hb (Blk.new 34 w zcv).lt
  have h1 := below_al w1 (.cells vs.toArray 34)
  have h0 := below_al w (.cells zcv.toArray 34)
  exact ⟨(h0.trans (hb.mono h0.size)).trans (h1.mono (Nat.le_trans h0.size (by have := hb.size; exact this))), hz.below h1 hz.lt, Blk.new _ _ _, hz.lt⟩
end
theorem refnumZ (s : ByteArray) {za zn : Int} (a n : Nat) (h1 : za = (a : Int)) (h2 : zn = (n : Int)) (N : Nat) (hN : numR s a n = N) (w : World) (hn : n ≤ 8) (ha : a ≤ 1000000) (hs : s.size ≤ 1000000) : Calls Try.prog 42 #[.string s, .int .i64 za, .int .i64 zn] w fun e w' => e = .returned (.int .u64 N) ∧ Below w.heap.size w w' := by
  subst h1 h2 hN
  exact refnum_any s a n w hn ha hs
theorem rdec_fin {t : ByteArray} {w w' : World} {c : Cmd} {A : Option Addr} {k : Nat} {D : Option Addr} {m : Nat} (h : parseR t = some c) (he : encC c = (t, 0)) (hin : CmdIn w' w'.heap.size c A k D m) (hb : Below w.heap.size w w') (hA : ∀ b, blk A = some b → w.heap.size ≤ b) (hD : ∀ b, blk D = some b → w.heap.size ≤ b) :
    DecOut t w (.returned (.tuple #[.agg (c.vs A k D m).toArray, .int .i64 0])) w' := by
  have h1 : decC t = (c, 0) := by
    rw [← decR_eq]
    unfold decR
    rw [h]
    exact if_pos he
  exact ⟨A, k, D, m, by rw [h1], by rw [h1]; exact hin, hb, hA, hD⟩
theorem rdec_not {t S : ByteArray} {E : Int} {c : Cmd} (h : parseR t = some c) (he : encC c = (S, E)) (hn : E ≠ 0 ∨ S ≠ t) : decC t = (zeroC, 50) := by
  rw [← decR_eq]
  unfold decR
  rw [h]
  refine if_neg ?_
  intro h2
  rw [he] at h2
  injection h2 with h3 h4
  rcases hn with h | h
  · exact h h4
  · exact h h3
theorem rdec_none {t : ByteArray} (h : parseR t = none) : decC t = (zeroC, 50) := by
  rw [← decR_eq]
  unfold decR
  rw [h]
set_option maxRecDepth 100000 in
set_option maxHeartbeats 16000000 in
theorem refDecode_0 (t : ByteArray) (w : World) (ht : t.size ≤ 100000) (hk1 : ¬ numR t 0 1 = 1) (hk2 : ¬ numR t 0 1 = 2) (hk3 : ¬ numR t 0 1 = 3) : Calls Try.prog 16 #[.string t] w (DecOut t w) := by
  obtain ⟨kd, hp1⟩ : ∃ kd, numR t 0 1 = kd := ⟨_, rfl⟩
  have hkd : kd < 256 := by have := numR_lt t 0 1; rw [hp1] at this; exact this
  have HPR := Lib.hid (show parseR t = some ⟨(kd : Nat), 0, 0, [], ⟨#[]⟩, 0, 0, 0, []⟩ by unfold parseR; rw [if_neg hk1, if_neg hk2, if_neg hk3, hp1])
  rw [hp1] at hk1 hk2 hk3
  have HP1 := Lib.hid hp1
  have hwk : IntKind.i64.wrap (kd : Int) = (kd : Int) := IntWalk.i64_in _ (by omega)
  have k1 := ine _ _ (show ¬ ((kd : Int) = 1) by omega)
  have k2 := ine _ _ (show ¬ ((kd : Int) = 2) by omega)
  have k3 := ine _ _ (show ¬ ((kd : Int) = 3) by omega)
  clear hp1 hk1 hk2 hk3
  obtain ⟨⟨S, E⟩, hS⟩ : ∃ p, encC ⟨(kd : Nat), 0, 0, [], ⟨#[]⟩, 0, 0, 0, []⟩ = p := ⟨_, rfl⟩
  have HEN := Lib.hid hS
  clear hS
  by_cases hE : E = 0
  · have hne : (E != 0) = false := by simp [hE]
    by_cases hSt : S = t
    · have HES := Lib.hid (show encC ⟨(kd : Nat), 0, 0, [], ⟨#[]⟩, 0, 0, 0, []⟩ = (t, 0) by rw [HEN.out, hE, hSt])
      have hs1 : (S.toList == t.toList) = true := by rw [hSt]; exact beq_self_eq_true _
      clear hE hSt
      go_enter Try.func16, Try.ntmps16
      go_wp2_with (go_at_call 42; go_loud (refine (refnumZ t (za := 0) (zn := 1) 0 1 rfl rfl kd HP1.out _ (by omega) (by omega) (by omega)).mono ?_); rintro e w1 ⟨rfl, hb⟩; have HV := Lib.hid (RDV.start hb [.int .i64 kd, .int .u64 0, .int .u64 0, .slice none 0 0, .string ⟨#[]⟩, .int .u64 0, .int .u32 0, .int .u64 0, .slice none 0 0]); clear hb)
      go_wp2_with (first
        | (show wpList _ _ _ ({ dst := some 94, op := Op.load _ _, type := _, pos := _, after := _, guard := _ } :: _) _ _; go_loud (refine wpList_load_mid rfl 34 (.tmp 4) rfl w1.heap.size 0 rfl [.int .i64 kd, .int .u64 0, .int .u64 0, .slice none 0 0, .string ⟨#[]⟩, .int .u64 0, .int .u32 0, .int .u64 0, .slice none 0 0] _ HV.out.v.range Try.underlying34 rfl (by kernel_rfl) ?_))
        | (go_at_call 13; go_loud (refine (refEncode_any ⟨(kd : Nat), 0, 0, [], ⟨#[]⟩, 0, 0, 0, []⟩ none 0 none 0 _ (nil_in _ _ _ rfl rfl) (parseR_fits HPR.out)).mono ?_); rw [HEN.out]; rintro e w17 ⟨rfl, hb⟩; have HB17 := Lib.hid hb; have HV17 := Lib.hid (HV.out.below hb); clear hb)
        | (show wpList _ _ _ ({ dst := none, op := Op.store _ (Operand.tmp 2) (Operand.tmp 105), type := _, pos := _, after := _, guard := _ } :: _) _ _; go_loud (refine wpList_store_mid rfl 34 (.tmp 2) (.tmp 105) rfl w.heap.size 0 #[.int .i64 0, .int .u64 0, .int .u64 0, .slice none 0 0, .string ⟨#[]⟩, .int .u64 0, .int .u32 0, .int .u64 0, .slice none 0 0] rfl rfl (HV17.out.z.there 9 (Nat.le_refl _)) (by kernel_rfl) (by simp [Value.oneCell']) ?_; refine HV17.out.z.setW zcv rfl ?_; intro w18 HZ18 HG18))
        | (show wpList _ _ _ ({ dst := some 106, op := Op.load _ _, type := _, pos := _, after := _, guard := _ } :: _) _ _; go_loud (refine wpList_load_mid rfl 34 (.tmp 4) rfl w1.heap.size 0 rfl [.int .i64 kd, .int .u64 0, .int .u64 0, .slice none 0 0, .string ⟨#[]⟩, .int .u64 0, .int .u32 0, .int .u64 0, .slice none 0 0] _ HV17.out.v.range Try.underlying34 rfl (by kernel_rfl) ?_))
        | (show wpList _ _ _ ({ dst := none, op := Op.store _ (Operand.tmp 2) (Operand.tmp 106), type := _, pos := _, after := _, guard := _ } :: _) _ _; go_loud (refine wpList_store_mid rfl 34 (.tmp 2) (.tmp 106) rfl w.heap.size 0 #[.int .i64 kd, .int .u64 0, .int .u64 0, .slice none 0 0, .string ⟨#[]⟩, .int .u64 0, .int .u32 0, .int .u64 0, .slice none 0 0] rfl rfl (HV17.out.z.there 9 (Nat.le_refl _)) (by kernel_rfl) (by simp [Value.oneCell']) ?_; refine HV17.out.z.setW [.int .i64 kd, .int .u64 0, .int .u64 0, .slice none 0 0, .string ⟨#[]⟩, .int .u64 0, .int .u32 0, .int .u64 0, .slice none 0 0] rfl ?_; intro w18 HZ18 HG18)))
      (try simp only [Exit.inBlock, Exit.then])
      refine bodyPost_ret (blk_results rfl Try.underlying34 rfl _ _ w.heap.size _ (by kernel_rfl) _ rfl rfl HZ18.out) rfl ?_
      exact rdec_fin (c := ⟨(kd : Nat), 0, 0, [], ⟨#[]⟩, 0, 0, 0, []⟩) (A := none) (k := 0) (D := none) (m := 0) HPR.out HES.out (nil_in _ _ _ rfl rfl) (below_grown HV17.out.bl HV17.out.bl.size HG18.out (Nat.le_refl _)) (by first | (intro b h; cases h; done) | (intro b h; have := (Own.lt HO.out _ h).1; have := HV.out.lt; omega)) (by first | (intro b h; cases h; done) | (intro b h; have := (Own.lt HO.out _ h).1; have := HV.out.lt; omega))
    · have hs1 : (S.toList == t.toList) = false := by rw [beq_eq_false_iff_ne]; exact fun h => hSt (toList_inj h)
      have HNE := Lib.hid (show S ≠ t from hSt)
      clear hE hSt
      go_enter Try.func16, Try.ntmps16
      go_wp2_with (go_at_call 42; go_loud (refine (refnumZ t (za := 0) (zn := 1) 0 1 rfl rfl kd HP1.out _ (by omega) (by omega) (by omega)).mono ?_); rintro e w1 ⟨rfl, hb⟩; have HV := Lib.hid (RDV.start hb [.int .i64 kd, .int .u64 0, .int .u64 0, .slice none 0 0, .string ⟨#[]⟩, .int .u64 0, .int .u32 0, .int .u64 0, .slice none 0 0]); clear hb)
      go_wp2_with (first
        | (show wpList _ _ _ ({ dst := some 94, op := Op.load _ _, type := _, pos := _, after := _, guard := _ } :: _) _ _; go_loud (refine wpList_load_mid rfl 34 (.tmp 4) rfl w1.heap.size 0 rfl [.int .i64 kd, .int .u64 0, .int .u64 0, .slice none 0 0, .string ⟨#[]⟩, .int .u64 0, .int .u32 0, .int .u64 0, .slice none 0 0] _ HV.out.v.range Try.underlying34 rfl (by kernel_rfl) ?_))
        | (go_at_call 13; go_loud (refine (refEncode_any ⟨(kd : Nat), 0, 0, [], ⟨#[]⟩, 0, 0, 0, []⟩ none 0 none 0 _ (nil_in _ _ _ rfl rfl) (parseR_fits HPR.out)).mono ?_); rw [HEN.out]; rintro e w17 ⟨rfl, hb⟩; have HB17 := Lib.hid hb; have HV17 := Lib.hid (HV.out.below hb); clear hb)
        | (show wpList _ _ _ ({ dst := none, op := Op.store _ (Operand.tmp 2) (Operand.tmp 105), type := _, pos := _, after := _, guard := _ } :: _) _ _; go_loud (refine wpList_store_mid rfl 34 (.tmp 2) (.tmp 105) rfl w.heap.size 0 #[.int .i64 0, .int .u64 0, .int .u64 0, .slice none 0 0, .string ⟨#[]⟩, .int .u64 0, .int .u32 0, .int .u64 0, .slice none 0 0] rfl rfl (HV17.out.z.there 9 (Nat.le_refl _)) (by kernel_rfl) (by simp [Value.oneCell']) ?_; refine HV17.out.z.setW zcv rfl ?_; intro w18 HZ18 HG18))
        | (show wpList _ _ _ ({ dst := some 106, op := Op.load _ _, type := _, pos := _, after := _, guard := _ } :: _) _ _; go_loud (refine wpList_load_mid rfl 34 (.tmp 4) rfl w1.heap.size 0 rfl [.int .i64 kd, .int .u64 0, .int .u64 0, .slice none 0 0, .string ⟨#[]⟩, .int .u64 0, .int .u32 0, .int .u64 0, .slice none 0 0] _ HV17.out.v.range Try.underlying34 rfl (by kernel_rfl) ?_))
        | (show wpList _ _ _ ({ dst := none, op := Op.store _ (Operand.tmp 2) (Operand.tmp 106), type := _, pos := _, after := _, guard := _ } :: _) _ _; go_loud (refine wpList_store_mid rfl 34 (.tmp 2) (.tmp 106) rfl w.heap.size 0 #[.int .i64 kd, .int .u64 0, .int .u64 0, .slice none 0 0, .string ⟨#[]⟩, .int .u64 0, .int .u32 0, .int .u64 0, .slice none 0 0] rfl rfl (HV17.out.z.there 9 (Nat.le_refl _)) (by kernel_rfl) (by simp [Value.oneCell']) ?_; refine HV17.out.z.setW [.int .i64 kd, .int .u64 0, .int .u64 0, .slice none 0 0, .string ⟨#[]⟩, .int .u64 0, .int .u32 0, .int .u64 0, .slice none 0 0] rfl ?_; intro w18 HZ18 HG18)))
      (try simp only [Exit.inBlock, Exit.then])
      refine bodyPost_ret (blk_results rfl Try.underlying34 rfl _ _ w.heap.size _ (by kernel_rfl) _ rfl rfl HZ18.out) rfl ?_
      exact dec_bad (rdec_not HPR.out HEN.out (by first | exact .inl HNE.out | exact .inr HNE.out)) (below_grown HV17.out.bl HV17.out.bl.size HG18.out (Nat.le_refl _))
  · have hne : (E != 0) = true := by simp [hE]
    have HNE := Lib.hid (show E ≠ 0 from hE)
    clear hE
    go_enter Try.func16, Try.ntmps16
    go_wp2_with (go_at_call 42; go_loud (refine (refnumZ t (za := 0) (zn := 1) 0 1 rfl rfl kd HP1.out _ (by omega) (by omega) (by omega)).mono ?_); rintro e w1 ⟨rfl, hb⟩; have HV := Lib.hid (RDV.start hb [.int .i64 kd, .int .u64 0, .int .u64 0, .slice none 0 0, .string ⟨#[]⟩, .int .u64 0, .int .u32 0, .int .u64 0, .slice none 0 0]); clear hb)
    go_wp2_with (first
      | (show wpList _ _ _ ({ dst := some 94, op := Op.load _ _, type := _, pos := _, after := _, guard := _ } :: _) _ _; go_loud (refine wpList_load_mid rfl 34 (.tmp 4) rfl w1.heap.size 0 rfl [.int .i64 kd, .int .u64 0, .int .u64 0, .slice none 0 0, .string ⟨#[]⟩, .int .u64 0, .int .u32 0, .int .u64 0, .slice none 0 0] _ HV.out.v.range Try.underlying34 rfl (by kernel_rfl) ?_))
      | (go_at_call 13; go_loud (refine (refEncode_any ⟨(kd : Nat), 0, 0, [], ⟨#[]⟩, 0, 0, 0, []⟩ none 0 none 0 _ (nil_in _ _ _ rfl rfl) (parseR_fits HPR.out)).mono ?_); rw [HEN.out]; rintro e w17 ⟨rfl, hb⟩; have HB17 := Lib.hid hb; have HV17 := Lib.hid (HV.out.below hb); clear hb)
      | (show wpList _ _ _ ({ dst := none, op := Op.store _ (Operand.tmp 2) (Operand.tmp 105), type := _, pos := _, after := _, guard := _ } :: _) _ _; go_loud (refine wpList_store_mid rfl 34 (.tmp 2) (.tmp 105) rfl w.heap.size 0 #[.int .i64 0, .int .u64 0, .int .u64 0, .slice none 0 0, .string ⟨#[]⟩, .int .u64 0, .int .u32 0, .int .u64 0, .slice none 0 0] rfl rfl (HV17.out.z.there 9 (Nat.le_refl _)) (by kernel_rfl) (by simp [Value.oneCell']) ?_; refine HV17.out.z.setW zcv rfl ?_; intro w18 HZ18 HG18))
      | (show wpList _ _ _ ({ dst := some 106, op := Op.load _ _, type := _, pos := _, after := _, guard := _ } :: _) _ _; go_loud (refine wpList_load_mid rfl 34 (.tmp 4) rfl w1.heap.size 0 rfl [.int .i64 kd, .int .u64 0, .int .u64 0, .slice none 0 0, .string ⟨#[]⟩, .int .u64 0, .int .u32 0, .int .u64 0, .slice none 0 0] _ HV17.out.v.range Try.underlying34 rfl (by kernel_rfl) ?_))
      | (show wpList _ _ _ ({ dst := none, op := Op.store _ (Operand.tmp 2) (Operand.tmp 106), type := _, pos := _, after := _, guard := _ } :: _) _ _; go_loud (refine wpList_store_mid rfl 34 (.tmp 2) (.tmp 106) rfl w.heap.size 0 #[.int .i64 kd, .int .u64 0, .int .u64 0, .slice none 0 0, .string ⟨#[]⟩, .int .u64 0, .int .u32 0, .int .u64 0, .slice none 0 0] rfl rfl (HV17.out.z.there 9 (Nat.le_refl _)) (by kernel_rfl) (by simp [Value.oneCell']) ?_; refine HV17.out.z.setW [.int .i64 kd, .int .u64 0, .int .u64 0, .slice none 0 0, .string ⟨#[]⟩, .int .u64 0, .int .u32 0, .int .u64 0, .slice none 0 0] rfl ?_; intro w18 HZ18 HG18)))
    (try simp only [Exit.inBlock, Exit.then])
    refine bodyPost_ret (blk_results rfl Try.underlying34 rfl _ _ w.heap.size _ (by kernel_rfl) _ rfl rfl HZ18.out) rfl ?_
    exact dec_bad (rdec_not HPR.out HEN.out (by first | exact .inl HNE.out | exact .inr HNE.out)) (below_grown HV17.out.bl HV17.out.bl.size HG18.out (Nat.le_refl _))
end Go.Proofs.Ytiiogdgnccgehaa
