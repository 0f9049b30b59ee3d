/-
  The walk of the reference's ingest. No conditions.
-/
import Derived.Test.YtiiogdgnccgehaaRefKit19
namespace Go.Proofs.Ytiiogdgnccgehaa
open Go.RowKit
attribute [local go_sem ↓] Go.wp_at_zero Go.wp_at_succ

/-- inside a method that has a command -/
structure RI (w W : World) (s : Sta) (xs : SA) (c : Cmd) (A : Option Addr) (k : Nat) (D : Option Addr) (m : Nat) : Prop where
  rm : RM w W (w.heap.size + 1 + 1) s xs
  cm : Blk 34 W (w.heap.size + 1) (c.vs A k D m)
section
variable {w W W' : World} {s : Sta} {xs : SA} {c : Cmd} {A : Option Addr} {k : Nat} {D : Option Addr} {m : Nat}
theorem RI.below (h : RI w W s xs c A k D m) (hb : Below W.heap.size W W') : RI w W' s xs c A k D m := ⟨h.rm.below hb, h.cm.below hb h.cm.lt⟩
theorem RI.own (h : RI w W s xs c A k D m) {row : Option Nat} (hg : W.grownBy W' row) (hq : ∀ b, row = some b → w.heap.size + 1 + 1 + 1 < b) : RI w W' s xs c A k D m := ⟨h.rm.own hg hq, h.cm.grown hg (fun e => by have := hq _ e; omega)⟩
theorem RI.drew (h : RI w W s xs c A k D m) : RI w W.drew s xs c A k D m := ⟨h.rm.drew, h.cm⟩
theorem RI.set (h : RI w W s xs c A k D m) (j : Nat) (v : Value) {s' : Sta} {ys : SA} (hs : (s.vs xs).set j v = s'.vs ys) : RI w (W.setCell ⟨w.heap.size, j, none⟩ v) s' ys c A k D m :=
  ⟨h.rm.set j v hs, h.cm.grown (grown_set W w.heap.size j v) (fun e => by injection e; omega)⟩
theorem RI.start (w : World) (s : Sta) (xs : SA) (c : Cmd) (A : Option Addr) (k : Nat) (D : Option Addr) (m : Nat) : RI w ((((w.alloc (.cells (s.vs xs).toArray 51)).alloc (.cells (c.vs A k D m).toArray 34)).alloc (.cells staz.toArray 51)).alloc (.cells effz.toArray 56)) s xs c A k D m :=
  ⟨(RM.start4 w s xs (c.vs A k D m)).1, (RM.start4 w s xs (c.vs A k D m)).2⟩
theorem RI.cmSet (h : RI w W s xs c A k D m) (j : Nat) (v : Value) : Blk 34 (W.setCell ⟨w.heap.size, j, none⟩ v).drew (w.heap.size + 1) (c.vs A k D m) :=
  show Blk 34 (W.setCell ⟨w.heap.size, j, none⟩ v) _ _ from h.cm.grown (grown_set W w.heap.size j v) (fun e => by injection e; omega)
theorem RI.lit (_ : RI w W s xs c A k D m) (T : TypeId) (vs : List Value) : Rd (W.alloc (.cells vs.toArray T)) (W.alloc (.cells vs.toArray T)).heap.size (some ⟨W.heap.size, 0, none⟩) vs := Rd.ofBlock (heap_alloc_new W _) (by simp)
theorem RI.litA {o : Obj} (_ : RI w (W.alloc o) s xs c A k D m) (T : TypeId) (vs : List Value) : Rd ((W.alloc o).alloc (.cells vs.toArray T)) ((W.alloc o).alloc (.cells vs.toArray T)).heap.size (some ⟨W.heap.size + 1, 0, none⟩) vs := by
  rw [← World.size_alloc W o]
  exact Rd.ofBlock (heap_alloc_new _ _) (by simp)
end
theorem own_fresh {w : World} {B e z n c : Nat} {A : Option Addr} {l : List Value} (h : Own w B e z A n c l) : blk A ≠ some w.heap.size := fun e => by
  have := (Own.lt h _ e).2
  omega
theorem rd_off {w : World} {B g : Nat} {A : Option Addr} {l : List Value} (h : Rd w B A l) (hne : l ≠ []) (hg : B ≤ g) : blk A ≠ some g := fun e => by
  obtain ⟨b, o, rfl, hb, _⟩ := h hne
  injection e with e
  simp only at e
  omega
theorem OwnRJ.lit0 (W : World) {g : Nat} (hg : g ≤ W.heap.size) : OwnRJ (W.alloc (.cells #[] 67)) g (some ⟨W.heap.size, 0, none⟩) 0 0 [] :=
  Own.lower (World.ownsRow_lit (e := 67) (size := 3) W #[] 0 (Nat.le_refl _) (by simp [maxLen]) rfl) hg
theorem OwnRJ.lit0A (W : World) (o : Obj) {g : Nat} (hg : g ≤ (W.alloc o).heap.size) : OwnRJ ((W.alloc o).alloc (.cells #[] 67)) g (some ⟨W.heap.size + 1, 0, none⟩) 0 0 [] := by
  rw [← World.size_alloc W o]
  exact OwnRJ.lit0 _ hg
theorem own_freshA {w : World} {o : Obj} {B e z n c : Nat} {A : Option Addr} {l : List Value} (h : Own (w.alloc o) B e z A n c l) : blk A ≠ some (w.heap.size + 1) := by
  rw [← World.size_alloc w o]
  exact own_fresh h
theorem rd_offA {w : World} {o : Obj} {A : Option Addr} {l : List Value} (h : Rd (w.alloc o) (w.alloc o).heap.size A l) (hne : l ≠ []) : blk A ≠ some (w.heap.size + 1) := by
  rw [← World.size_alloc w o]
  exact rd_off h hne (Nat.le_refl _)
theorem ing_fin {w W : World} {s : Sta} {xs : SA} {c : Cmd} {A : Option Addr} {k : Nat} {D : Option Addr} {m : Nat} {A6 : Option Addr} {n c6 : Nat} {l : List Jb} {s' : Sta} (h : RI w W s xs c A k D m) (hin : StaIn w w.heap.size s xs) (hi : InW w xs) (hc : CmdIn w w.heap.size c A k D m) (hf : c.files ≠ [])
    (ho : OwnRJ W (w.heap.size + 1 + 1 + 2) A6 n c6 l) (hs' : { s with jobs := l } = s') :
    RF w (W.setCell ⟨w.heap.size, 3, none⟩ (.slice A6 n c6)) (w.heap.size + 1 + 1) (s', ⟨0, false, [], c.files⟩) xs ⟨xs.A, xs.a, A6, c6, xs.F, xs.f⟩ none 0 D m := by
  have hn := ho.len
  subst hn hs'
  have h1 := h.rm.set 3 (.slice A6 l.length c6) (s' := { s with jobs := l }) (ys := ⟨xs.A, xs.a, A6, c6, xs.F, xs.f⟩) rfl
  have g1 := grown_set W w.heap.size 3 (.slice A6 l.length c6)
  have hj := Own.grown ho g1 (.inr (own_off ho (by omega)))
  have hs := hin.grown h1.bl
  have n1 := hi.notAt (g := w.heap.size + 1 + 1) (by omega)
  have n2 := hi.notAt (g := w.heap.size + 1 + 1 + 1) (by omega)
  have hne : u32s c.files ≠ [] := fun e => hf (by simpa [u32s] using e)
  exact ⟨h1.bl, h1.st, h1.a, h1.e, h1.q0, ⟨hs.rb, Own.rd hj (by omega), hs.rc⟩, ⟨From.refl _ _ _, From.new (fun b hb => by have := Own.lt hj _ hb; omega), From.refl _ _ _⟩, ⟨n1.A, own_off ho (by omega), n1.F⟩, ⟨n2.A, own_off ho (by omega), n2.F⟩, Rd.nil, (hc.rf.below h1.bl).more h1.bl.size, ⟨blk_none _, blk_none _⟩, ⟨rd_off hc.rf hne (by omega), rd_off hc.rf hne (by omega)⟩, pa_none _⟩
set_option maxRecDepth 100000 in
set_option maxHeartbeats 8000000 in
theorem refIngest_any (w : World) (s : Sta) (xs : SA) (c : Cmd) (A : Option Addr) (k : Nat) (D : Option Addr) (m : Nat) (hin : StaIn w w.heap.size s xs) (hi : InW w xs) (hc : CmdIn w w.heap.size c A k D m) (hjl : s.jobs.length ≤ 1000) :
    Calls Try.prog 49 #[.agg (s.vs xs).toArray, .agg (c.vs A k D m).toArray] w (ROut w xs D (ingestS s c)) := by
  have HM := Lib.hid (RI.start w s xs c A k D m)
  have hun : ingestS s c = if (findS s.jobs c.job).2 = true ∧ (findS s.jobs c.job).1.sum = c.sum then (s, ⟨0, true, [], []⟩) else if (findS s.jobs c.job).2 = true then (s, ⟨191, true, [], []⟩) else if c.files = [] then (s, ⟨1, false, [], []⟩) else if c.epoch ≠ s.epoch then (s, ⟨190, false, [], []⟩) else ({ s with jobs := s.jobs ++ [⟨c.job, c.sum, s.index⟩] }, ⟨0, false, [], c.files⟩) := rfl
  obtain ⟨⟨j, is⟩, hf⟩ : ∃ p, findS s.jobs c.job = p := ⟨_, rfl⟩
  rw [hf] at hun
  simp only at hun
  have HFN := Lib.hid hf
  have HIN := Lib.hid hin
  have HI := Lib.hid hi
  have HCI := Lib.hid hc
  have c5 := HM.out.cm.cell (j := 5) rfl
  unfold staz effz Sta.vs Cmd.vs at HM c5
  unfold Sta.vs Cmd.vs
  clear hin hi hc hf
  cases is with
  | true =>
    by_cases hs : j.sum = c.sum
    · have HRS := Lib.hid (show ingestS s c = (s, ⟨0, true, [], []⟩) by rw [hun]; exact if_pos ⟨rfl, hs⟩)
      have b1 : ((j.sum : Int) == (c.sum : Int)) = true := by rw [ofnat_beq]; exact decide_eq_true hs
      clear hun hs
      go_enter Try.func49, Try.ntmps49
      go_wp2_with (first
        | ((with_reducible show wpList _ _ _ ({ dst := some 24, op := Op.load _ _, type := _, pos := _, after := _, guard := _ } :: _) _ _); go_loud (refine wpList_load_mid rfl 51 (.tmp 2) rfl w.heap.size 0 rfl (Sta.vs s xs) _ HF.out.st.range Try.underlying51 rfl (by kernel_rfl) ?_))
        | ((with_reducible show wpList _ _ _ ({ dst := none, op := Op.store _ (Operand.tmp 4) _, type := _, pos := _, after := _, guard := _ } :: _) _ _); go_loud (refine wpList_store_mid rfl 51 (.tmp 4) (.tmp 24) rfl (w.heap.size + 1 + 1) 0 (Sta.vs s xs).toArray rfl rfl (HF.out.a.there 5 (Nat.le_refl _)) (by kernel_rfl) (by simp [Value.oneCell', Sta.vs]) ?_); refine HF.out.a.setW (Sta.vs s xs) rfl ?_; intro w21 HT21 HG21; have HE21 := Lib.hid (HF.out.e.grown HG21.out (fun e => by injection e; omega)))
        | ((with_reducible show wpList _ _ _ ({ dst := none, op := Op.store _ (Operand.tmp 5) _, type := _, pos := _, after := _, guard := _ } :: _) _ _); go_loud (refine wpList_store_mid rfl 56 (.tmp 5) (.tmp 25) rfl ((w.heap.size + 1 + 1) + 1) 0 (Eff.vs ⟨0, true, [], []⟩ none 0 none 0).toArray rfl rfl (HE21.out.there 4 (Nat.le_refl _)) (by kernel_rfl) (by simp [Value.oneCell', Eff.vs]) ?_); refine HE21.out.setW (Eff.vs ⟨0, true, [], []⟩ none 0 none 0) rfl ?_; intro w22 HE22 HG22)
        | ((with_reducible show wpList _ _ _ ({ dst := none, op := Op.store _ (Operand.tmp 6) _, type := _, pos := _, after := _, guard := _ } :: _) _ _); go_loud (refine wpList_store_mid rfl 67 (.tmp 6) (.tmp 13) rfl w2.heap.size 0 j.vs.toArray rfl rfl (there_madeB 67 w2 [.int .u64 0, .int .u32 0, .int .u64 0] 3 (Nat.le_refl _)) (by kernel_rfl) (by simp [Value.oneCell', Jb.vs]) ?_); refine Blk.madeW 67 w2 [.int .u64 0, .int .u32 0, .int .u64 0] j.vs rfl ?_; intro w3 HJ3 HB3; have HM3 := Lib.hid (HM2.out.below HB3.out); have j1 := HJ3.out.cell (j := 1) rfl; have q6 := HM3.out.cm.cell (j := 6) rfl; have q7 := HM3.out.cm.cell (j := 7) rfl; have q8 := HM3.out.cm.cell (j := 8) rfl; have s1 := HM3.out.rm.st.cell (j := 1) rfl; have HF := Lib.hid (RM.same HM3.out.rm HIN.out HI.out 0 true))
        | (go_at_call 25; go_loud (refine (refFind_any s xs c.job _ (HIN.out.grown HM.out.rm.bl) hjl).mono ?_); rw [HFN.out]; rintro e w2 ⟨rfl, hb⟩; have HM2 := Lib.hid (HM.out.below hb); clear hb)
        | ((with_reducible show wpList _ _ _ ({ dst := some 9, op := Op.load _ _, type := _, pos := _, after := _, guard := _ } :: _) _ _); go_loud (refine wpList_load_mid rfl 51 (.tmp 2) rfl w.heap.size 0 rfl (s.vs xs) _ HM.out.rm.st.range Try.underlying51 rfl (by kernel_rfl) ?_))
        )
      (try simp only [Exit.inBlock, Exit.then])
      refine bodyPost_ret (blk_two rfl Try.underlying51 rfl Try.underlying56 rfl _ _ (w.heap.size + 1 + 1) ((w.heap.size + 1 + 1) + 1) _ _ (by kernel_rfl) (by kernel_rfl) rfl rfl (HT21.out.grown HG22.out (fun e => by injection e; omega)) HE22.out) rfl ?_
      rw [HRS.out]
      exact HF.out.out HG21.out HG22.out (by first | exact .inl rfl | exact .inr rfl)
    · have HRS := Lib.hid (show ingestS s c = (s, ⟨191, true, [], []⟩) by rw [hun, if_neg (fun h => hs h.2)]; rfl)
      have b1 : ((j.sum : Int) == (c.sum : Int)) = false := by rw [ofnat_beq]; exact decide_eq_false hs
      clear hun hs
      go_enter Try.func49, Try.ntmps49
      go_wp2_with (first
        | ((with_reducible show wpList _ _ _ ({ dst := some 28, op := Op.load _ _, type := _, pos := _, after := _, guard := _ } :: _) _ _); go_loud (refine wpList_load_mid rfl 51 (.tmp 2) rfl w.heap.size 0 rfl (Sta.vs s xs) _ HF.out.st.range Try.underlying51 rfl (by kernel_rfl) ?_))
        | ((with_reducible show wpList _ _ _ ({ dst := none, op := Op.store _ (Operand.tmp 4) _, type := _, pos := _, after := _, guard := _ } :: _) _ _); go_loud (refine wpList_store_mid rfl 51 (.tmp 4) (.tmp 28) rfl (w.heap.size + 1 + 1) 0 (Sta.vs s xs).toArray rfl rfl (HF.out.a.there 5 (Nat.le_refl _)) (by kernel_rfl) (by simp [Value.oneCell', Sta.vs]) ?_); refine HF.out.a.setW (Sta.vs s xs) rfl ?_; intro w21 HT21 HG21; have HE21 := Lib.hid (HF.out.e.grown HG21.out (fun e => by injection e; omega)))
        | ((with_reducible show wpList _ _ _ ({ dst := none, op := Op.store _ (Operand.tmp 5) _, type := _, pos := _, after := _, guard := _ } :: _) _ _); go_loud (refine wpList_store_mid rfl 56 (.tmp 5) (.tmp 29) rfl ((w.heap.size + 1 + 1) + 1) 0 (Eff.vs ⟨191, true, [], []⟩ none 0 none 0).toArray rfl rfl (HE21.out.there 4 (Nat.le_refl _)) (by kernel_rfl) (by simp [Value.oneCell', Eff.vs]) ?_); refine HE21.out.setW (Eff.vs ⟨191, true, [], []⟩ none 0 none 0) rfl ?_; intro w22 HE22 HG22)
        | ((with_reducible show wpList _ _ _ ({ dst := none, op := Op.store _ (Operand.tmp 6) _, type := _, pos := _, after := _, guard := _ } :: _) _ _); go_loud (refine wpList_store_mid rfl 67 (.tmp 6) (.tmp 13) rfl w2.heap.size 0 j.vs.toArray rfl rfl (there_madeB 67 w2 [.int .u64 0, .int .u32 0, .int .u64 0] 3 (Nat.le_refl _)) (by kernel_rfl) (by simp [Value.oneCell', Jb.vs]) ?_); refine Blk.madeW 67 w2 [.int .u64 0, .int .u32 0, .int .u64 0] j.vs rfl ?_; intro w3 HJ3 HB3; have HM3 := Lib.hid (HM2.out.below HB3.out); have j1 := HJ3.out.cell (j := 1) rfl; have q6 := HM3.out.cm.cell (j := 6) rfl; have q7 := HM3.out.cm.cell (j := 7) rfl; have q8 := HM3.out.cm.cell (j := 8) rfl; have s1 := HM3.out.rm.st.cell (j := 1) rfl; have HF := Lib.hid (RM.same HM3.out.rm HIN.out HI.out 191 true))
        | (go_at_call 25; go_loud (refine (refFind_any s xs c.job _ (HIN.out.grown HM.out.rm.bl) hjl).mono ?_); rw [HFN.out]; rintro e w2 ⟨rfl, hb⟩; have HM2 := Lib.hid (HM.out.below hb); clear hb)
        | ((with_reducible show wpList _ _ _ ({ dst := some 9, op := Op.load _ _, type := _, pos := _, after := _, guard := _ } :: _) _ _); go_loud (refine wpList_load_mid rfl 51 (.tmp 2) rfl w.heap.size 0 rfl (s.vs xs) _ HM.out.rm.st.range Try.underlying51 rfl (by kernel_rfl) ?_))
        )
      (try simp only [Exit.inBlock, Exit.then])
      refine bodyPost_ret (blk_two rfl Try.underlying51 rfl Try.underlying56 rfl _ _ (w.heap.size + 1 + 1) ((w.heap.size + 1 + 1) + 1) _ _ (by kernel_rfl) (by kernel_rfl) rfl rfl (HT21.out.grown HG22.out (fun e => by injection e; omega)) HE22.out) rfl ?_
      rw [HRS.out]
      exact HF.out.out HG21.out HG22.out (by first | exact .inl rfl | exact .inr rfl)
  | false =>
    rw [if_neg (fun h => by cases h.1), if_neg (fun h => by cases h)] at hun
    by_cases hf : c.files = []
    · have HRS := Lib.hid (show ingestS s c = (s, ⟨1, false, [], []⟩) by rw [hun, if_pos hf])
      have b1 : ((c.files.length : Int) == 0) = true := by rw [hf]; rfl
      clear hun hf
      go_enter Try.func49, Try.ntmps49
      go_wp2_with (first
        | ((with_reducible show wpList _ _ _ ({ dst := some 35, op := Op.load _ _, type := _, pos := _, after := _, guard := _ } :: _) _ _); go_loud (refine wpList_load_mid rfl 51 (.tmp 2) rfl w.heap.size 0 rfl (Sta.vs s xs) _ HF.out.st.range Try.underlying51 rfl (by kernel_rfl) ?_))
        | ((with_reducible show wpList _ _ _ ({ dst := none, op := Op.store _ (Operand.tmp 4) _, type := _, pos := _, after := _, guard := _ } :: _) _ _); go_loud (refine wpList_store_mid rfl 51 (.tmp 4) (.tmp 35) rfl (w.heap.size + 1 + 1) 0 (Sta.vs s xs).toArray rfl rfl (HF.out.a.there 5 (Nat.le_refl _)) (by kernel_rfl) (by simp [Value.oneCell', Sta.vs]) ?_); refine HF.out.a.setW (Sta.vs s xs) rfl ?_; intro w21 HT21 HG21; have HE21 := Lib.hid (HF.out.e.grown HG21.out (fun e => by injection e; omega)))
        | ((with_reducible show wpList _ _ _ ({ dst := none, op := Op.store _ (Operand.tmp 5) _, type := _, pos := _, after := _, guard := _ } :: _) _ _); go_loud (refine wpList_store_mid rfl 56 (.tmp 5) (.tmp 36) rfl ((w.heap.size + 1 + 1) + 1) 0 (Eff.vs ⟨1, false, [], []⟩ none 0 none 0).toArray rfl rfl (HE21.out.there 4 (Nat.le_refl _)) (by kernel_rfl) (by simp [Value.oneCell', Eff.vs]) ?_); refine HE21.out.setW (Eff.vs ⟨1, false, [], []⟩ none 0 none 0) rfl ?_; intro w22 HE22 HG22)
        | ((with_reducible show wpList _ _ _ ({ dst := none, op := Op.store _ (Operand.tmp 6) _, type := _, pos := _, after := _, guard := _ } :: _) _ _); go_loud (refine wpList_store_mid rfl 67 (.tmp 6) (.tmp 13) rfl w2.heap.size 0 j.vs.toArray rfl rfl (there_madeB 67 w2 [.int .u64 0, .int .u32 0, .int .u64 0] 3 (Nat.le_refl _)) (by kernel_rfl) (by simp [Value.oneCell', Jb.vs]) ?_); refine Blk.madeW 67 w2 [.int .u64 0, .int .u32 0, .int .u64 0] j.vs rfl ?_; intro w3 HJ3 HB3; have HM3 := Lib.hid (HM2.out.below HB3.out); have j1 := HJ3.out.cell (j := 1) rfl; have q6 := HM3.out.cm.cell (j := 6) rfl; have q7 := HM3.out.cm.cell (j := 7) rfl; have q8 := HM3.out.cm.cell (j := 8) rfl; have s1 := HM3.out.rm.st.cell (j := 1) rfl; have HF := Lib.hid (RM.same HM3.out.rm HIN.out HI.out 1 false))
        | (go_at_call 25; go_loud (refine (refFind_any s xs c.job _ (HIN.out.grown HM.out.rm.bl) hjl).mono ?_); rw [HFN.out]; rintro e w2 ⟨rfl, hb⟩; have HM2 := Lib.hid (HM.out.below hb); clear hb)
        | ((with_reducible show wpList _ _ _ ({ dst := some 9, op := Op.load _ _, type := _, pos := _, after := _, guard := _ } :: _) _ _); go_loud (refine wpList_load_mid rfl 51 (.tmp 2) rfl w.heap.size 0 rfl (s.vs xs) _ HM.out.rm.st.range Try.underlying51 rfl (by kernel_rfl) ?_))
        )
      (try simp only [Exit.inBlock, Exit.then])
      refine bodyPost_ret (blk_two rfl Try.underlying51 rfl Try.underlying56 rfl _ _ (w.heap.size + 1 + 1) ((w.heap.size + 1 + 1) + 1) _ _ (by kernel_rfl) (by kernel_rfl) rfl rfl (HT21.out.grown HG22.out (fun e => by injection e; omega)) HE22.out) rfl ?_
      rw [HRS.out]
      exact HF.out.out HG21.out HG22.out (by first | exact .inl rfl | exact .inr rfl)
    · have b1 : ((c.files.length : Int) == 0) = false := by
        have : 0 < c.files.length := List.length_pos_iff.2 hf
        simp only [beq_eq_false_iff_ne, ne_eq]
        omega
      rw [if_neg hf] at hun
      by_cases he : c.epoch = s.epoch
      · rw [if_neg (fun h => h he)] at hun
        obtain ⟨s', hs'⟩ : ∃ s' : Sta, ({ s with jobs := s.jobs ++ [(⟨c.job, c.sum, s.index⟩ : Jb)] } : Sta) = s' := ⟨_, rfl⟩
        rw [hs'] at hun
        have HRS := Lib.hid hun
        have HS' := Lib.hid hs'
        have HFL := Lib.hid hf
        have b2 : ((c.epoch : Int) != (s.epoch : Int)) = false := by rw [he]; simp
        clear hun hf he hs'
        go_enter Try.func49, Try.ntmps49
        go_upto_region 10 with (first
          | ((with_reducible show wpList _ _ _ ({ dst := none, op := Op.store _ (Operand.tmp 6) _, type := _, pos := _, after := _, guard := _ } :: _) _ _); go_loud (refine wpList_store_mid rfl 67 (.tmp 6) (.tmp 13) rfl w2.heap.size 0 j.vs.toArray rfl rfl (there_madeB 67 w2 [.int .u64 0, .int .u32 0, .int .u64 0] 3 (Nat.le_refl _)) (by kernel_rfl) (by simp [Value.oneCell', Jb.vs]) ?_); refine Blk.madeW 67 w2 [.int .u64 0, .int .u32 0, .int .u64 0] j.vs rfl ?_; intro w3 HJ3 HB3; have HM3 := Lib.hid (HM2.out.below HB3.out); have j1 := HJ3.out.cell (j := 1) rfl; have q6 := HM3.out.cm.cell (j := 6) rfl; have q7 := HM3.out.cm.cell (j := 7) rfl; have q8 := HM3.out.cm.cell (j := 8) rfl; have s1 := HM3.out.rm.st.cell (j := 1) rfl; skip)
          | (go_at_call 25; go_loud (refine (refFind_any s xs c.job _ (HIN.out.grown HM.out.rm.bl) hjl).mono ?_); rw [HFN.out]; rintro e w2 ⟨rfl, hb⟩; have HM2 := Lib.hid (HM.out.below hb); clear hb)
          | ((with_reducible show wpList _ _ _ ({ dst := some 9, op := Op.load _ _, type := _, pos := _, after := _, guard := _ } :: _) _ _); go_loud (refine wpList_load_mid rfl 51 (.tmp 2) rfl w.heap.size 0 rfl (s.vs xs) _ HM.out.rm.st.range Try.underlying51 rfl (by kernel_rfl) ?_))
          )
        have hcell : ∀ W, Hid (RI w W s xs c A k D m) → W.cell? ⟨w.heap.size, 3, none⟩ = some (.slice xs.D s.jobs.length xs.d) ∧ W.cell? ⟨w.heap.size, 0, none⟩ = some (.int .u64 s.index) ∧ W.cell? ⟨w.heap.size + 1, 5, none⟩ = some (.int .u64 c.job) ∧ W.cell? ⟨w.heap.size + 1, 6, none⟩ = some (.int .u32 c.sum) := fun W h => ⟨h.out.rm.st.cell (j := 3) rfl, h.out.rm.st.cell (j := 0) rfl, h.out.cm.cell (j := 5) rfl, h.out.cm.cell (j := 6) rfl⟩
        clear HM HM2 c5 q6 q7 q8 s1 j1 HJ3 HB3
        have HM := Lib.hid HM3.out.drew
        have HC := hcell _ HM
        clear HM3
        refine region_wz (fun W => W.cell? ⟨w.heap.size, 3, none⟩ = some (.slice xs.D s.jobs.length xs.d) ∧ W.cell? ⟨w.heap.size, 0, none⟩ = some (.int .u64 s.index) ∧ W.cell? ⟨w.heap.size + 1, 5, none⟩ = some (.int .u64 c.job) ∧ W.cell? ⟨w.heap.size + 1, 6, none⟩ = some (.int .u32 c.sum)) (some 14) (by kernel_rfl) ?_
        apply WZ.take (i := 1) (some 46) rfl rfl (by kernel_rfl) (by kernel_rfl) (by kernel_rfl) (calm_panic _) (by kernel_rfl)
        case hy => (refine .inl ⟨by kernel_rfl, fun W hC => ?_⟩; (try dsimp only at hC); go_simp; rfl)
        case hC => exact HC
        case ha => (simp only [Act.put, List.setIfInBounds_toArray, List.set_cons_zero, List.set_cons_succ]; rfl)
        apply WZ.take (i := 2) (some 47) rfl rfl (by kernel_rfl) (by kernel_rfl) (by kernel_rfl) (calm_panic _) (by kernel_rfl)
        case hy => (refine .inl ⟨by kernel_rfl, fun W hC => ?_⟩; (try dsimp only at hC); go_simp; rfl)
        case hC => exact HC
        case ha => (simp only [Act.put, List.setIfInBounds_toArray, List.set_cons_zero, List.set_cons_succ]; rfl)
        apply WZ.take (i := 4) (some 49) rfl rfl (by kernel_rfl) (by kernel_rfl) (by kernel_rfl) (calm_panic _) (by kernel_rfl)
        case hy => (refine .inl ⟨by kernel_rfl, fun W hC => ?_⟩; (try dsimp only at hC); go_simp; rfl)
        case hC => exact HC
        case ha => (simp only [Act.put, List.setIfInBounds_toArray, List.set_cons_zero, List.set_cons_succ]; rfl)
        apply WZ.take (i := 5) (some 50) rfl rfl (by kernel_rfl) (by kernel_rfl) (by kernel_rfl) (calm_panic _) (by kernel_rfl)
        case hy => (refine .inl ⟨by kernel_rfl, fun W hC => ?_⟩; (try dsimp only at hC); go_simp; rfl)
        case hC => exact HC
        case ha => (simp only [Act.put, List.setIfInBounds_toArray, List.set_cons_zero, List.set_cons_succ]; rfl)
        apply WZ.take (i := 6) (some 51) rfl rfl (by kernel_rfl) (by kernel_rfl) (by kernel_rfl) (calm_panic _) (by kernel_rfl)
        case hy => (refine .inl ⟨by kernel_rfl, fun W hC => ?_⟩; (try dsimp only at hC); go_simp; rfl)
        case hC => exact HC
        case ha => (simp only [Act.put, List.setIfInBounds_toArray, List.set_cons_zero, List.set_cons_succ]; rfl)
        apply WZ.take (i := 7) (some 52) rfl rfl (by kernel_rfl) (by kernel_rfl) (by kernel_rfl) (calm_panic _) (by kernel_rfl)
        case hy => (refine .inl ⟨by kernel_rfl, fun W hC => ?_⟩; (try dsimp only at hC); go_simp; rfl)
        case hC => exact HC
        case ha => (simp only [Act.put, List.setIfInBounds_toArray, List.set_cons_zero, List.set_cons_succ]; rfl)
        apply WZ.take (i := 8) (some 53) rfl rfl (by kernel_rfl) (by kernel_rfl) (by kernel_rfl) (calm_panic _) (by kernel_rfl)
        case hy => (refine .inl ⟨by kernel_rfl, fun W hC => ?_⟩; (try dsimp only at hC); go_simp; rfl)
        case hC => exact HC
        case ha => (simp only [Act.put, List.setIfInBounds_toArray, List.set_cons_zero, List.set_cons_succ]; rfl)
        apply WZ.take (i := 9) (some 54) rfl rfl (by kernel_rfl) (by kernel_rfl) (by kernel_rfl) (calm_panic _) (by kernel_rfl)
        case hy => (refine .inl ⟨by kernel_rfl, fun W hC => ?_⟩; (try dsimp only at hC); go_simp; rfl)
        case hC => exact HC
        case ha => (simp only [Act.put, List.setIfInBounds_toArray, List.set_cons_zero, List.set_cons_succ]; rfl)
        apply WZ.take (i := 10) (some 55) rfl rfl (by kernel_rfl) (by kernel_rfl) (by kernel_rfl) (calm_panic _) (by kernel_rfl)
        case hy => (refine .inl ⟨by kernel_rfl, fun W hC => ?_⟩; (try dsimp only at hC); go_simp; rfl)
        case hC => exact HC
        case ha => (simp only [Act.put, List.setIfInBounds_toArray, List.set_cons_zero, List.set_cons_succ]; rfl)
        refine WZ.two (i := 0) (j := 11) rfl rfl (by kernel_rfl) ?_ ?_
        · conv => arg 4; arg 1; whnf
          go_wp2_with fail
          have HM0 := HM
          clear HM
          have HM := Lib.hid (HM0.out.below (below_al _ (.cells #[] 67)))
          first | have HOJ := Lib.hid (OwnRJ.lit0A _ _ (g := w.heap.size + 1 + 1 + 2) (Nat.succ_le_of_lt HM0.out.rm.e.lt)) | have HOJ := Lib.hid (OwnRJ.lit0 _ (g := w.heap.size + 1 + 1 + 2) (Nat.succ_le_of_lt HM0.out.rm.e.lt))
          (first | (have HNE := Lib.hid (Ne.symm (rd_offA HR.out (by simp [jbs, Jb.vs]))); have HR0 := HR; clear HR; have HR := Lib.hid ((HR0.out.below (below_al _ (.cells #[] 67))).more (below_al _ (.cells #[] 67)).size); clear HR0) | skip)
          clear HM0 HC
          have HC := hcell _ HM
          refine ⟨HC, ?_⟩
          refine WZ.two (i := 3) (j := 11) rfl rfl (by kernel_rfl) ?_ ?_
          · conv => arg 4; arg 1; whnf
            go_wp2_with (at_builtin; go_loud (refine rjobs_app rfl _ _ rfl (w.heap.size + 1 + 1 + 2) _ 0 0 s.jobs.length [] s.jobs rfl HOJ.out xs.D s.jobs.length xs.d rfl (HIN.out.grown HM.out.rm.bl).rj rfl (by omega) (by omega) (Nat.succ_le_of_lt HM.out.rm.e.lt) ?_); intro A5 c5 w11 HO5 HG5; go_loud (have HM0 := HM; clear HM; have HM := Lib.hid (HM0.out.own HG5.out (fun q e => by have := (Own.lt HOJ.out _ e).1; omega)); (first | (have HR0 := HR; clear HR; go_loud (have HR := Lib.hid (HR0.out.grownOff HG5.out (.inr (fun e => HNE.out e.symm)))); clear HR0) | skip); clear HOJ HM0; have HOJ := HO5; clear HC; have HC := hcell _ HM))
            refine ⟨HC, ?_⟩
            -- 11
            refine WZ.one (i := 11) rfl (by kernel_rfl) ?_
            conv => arg 4; arg 1; whnf
            go_wp2_with fail
            have HM0 := HM
            clear HM
            have HM := Lib.hid (HM0.out.below (below_al _ (.cells #[.int .u64 c.job, .int .u32 c.sum, .int .u64 s.index] 67)))
            first | have HR := Lib.hid (show Rd _ _ _ (jbs [⟨c.job, c.sum, s.index⟩]) from HM0.out.litA 67 [.int .u64 c.job, .int .u32 c.sum, .int .u64 s.index]) | have HR := Lib.hid (show Rd _ _ _ (jbs [⟨c.job, c.sum, s.index⟩]) from HM0.out.lit 67 [.int .u64 c.job, .int .u32 c.sum, .int .u64 s.index])
            (first | ((first | have HNE := Lib.hid (own_freshA HOJ.out) | have HNE := Lib.hid (own_fresh HOJ.out)); have HOJ0 := HOJ; clear HOJ; have HOJ := Lib.hid (HOJ0.out.below (below_al _ (.cells #[.int .u64 c.job, .int .u32 c.sum, .int .u64 s.index] 67))); clear HOJ0) | skip)
            clear HM0 HC
            have HC := hcell _ HM
            refine ⟨HC, ?_⟩
            -- 12
            refine WZ.one (i := 12) rfl (by kernel_rfl) ?_
            conv => arg 4; arg 1; whnf
            go_wp2_with (at_builtin; go_loud (refine rjobs_app rfl _ _ rfl (w.heap.size + 1 + 1 + 2) A5 s.jobs.length c5 (s.jobs.length + 1) ([] ++ s.jobs) [⟨c.job, c.sum, s.index⟩] rfl HOJ.out _ 1 1 rfl HR.out rfl rfl (by omega) (Nat.succ_le_of_lt HM.out.rm.e.lt) ?_); intro A6 c6 w12 HO6 HG6; go_loud (have HM0 := HM; clear HM; have HM := Lib.hid (HM0.out.own HG6.out (fun q e => by have := (Own.lt HOJ.out _ e).1; omega)); clear HM0; have f3 := HM.out.rm.st.free 3; clear HC; have HC := hcell _ HM))
            refine ⟨HC, ?_⟩
            apply WZ.take (i := 13) (some 58) rfl rfl (by kernel_rfl) (by kernel_rfl) (by kernel_rfl) (calm_panic _) (by kernel_rfl)
            case hy => (refine .inl ⟨by kernel_rfl, fun W hC => ?_⟩; (try dsimp only at hC); go_simp; rfl)
            case hC => exact HC
            case ha => (simp only [Act.put, List.setIfInBounds_toArray, List.set_cons_zero, List.set_cons_succ]; rfl)
            -- 14
            refine WZ.last (i := 14) rfl (by kernel_rfl) (by kernel_rfl) ?_
            conv => arg 4; arg 1; whnf
            go_wp2
            refine WZ.done (by kernel_rfl) ?_ _
            simp only [Calm, Exit.then]
            rw [List.nil_append] at HO6
            have HF := Lib.hid (ing_fin HM.out HIN.out HI.out HCI.out HFL.out HO6.out HS'.out).drew
            have HK := Lib.hid (HM.out.cmSet 3 (.slice A6 (s.jobs.length + 1) c6))
            go_wp2
            clear HC
            have HC := (show World.rangeAt _ w.heap.size 0 (s'.vs ⟨xs.A, xs.a, A6, c6, xs.F, xs.f⟩) ∧ World.cell? _ ⟨w.heap.size + 1, 8, none⟩ = some (.slice D c.files.length m) from ⟨HF.out.st.range, HK.out.cell (j := 8) rfl⟩)
            refine region_wz (fun W => W.rangeAt w.heap.size 0 (s'.vs ⟨xs.A, xs.a, A6, c6, xs.F, xs.f⟩) ∧ W.cell? ⟨w.heap.size + 1, 8, none⟩ = some (.slice D c.files.length m)) (some 5) (by kernel_rfl) ?_
            apply WZ.take (i := 0) (some 59) rfl rfl (by kernel_rfl) (by kernel_rfl) (by kernel_rfl) (calm_panic _) (by kernel_rfl)
            case hy => first | (apply yieldsIf_load_mid (by kernel_rfl) _ _ rfl _ _ rfl; (case hS => (intro W hC; exact hC.1)); (case hu => exact Try.underlying51); (case hd => rfl); (case hi => kernel_rfl)) | (apply yieldsIf_load_mid (by kernel_rfl) _ _ rfl _ _ rfl; (case hS => (intro W hC; exact hC.2.1)); (case hu => exact Try.underlying51); (case hd => rfl); (case hi => kernel_rfl)) | (apply yieldsIf_load_mid (by kernel_rfl) _ _ rfl _ _ rfl; (case hS => (intro W hC; exact hC.2.2.1)); (case hu => exact Try.underlying51); (case hd => rfl); (case hi => kernel_rfl)) | (apply yieldsIf_load_mid (by kernel_rfl) _ _ rfl _ _ rfl; (case hS => (intro W hC; exact hC.2.2.2.1)); (case hu => exact Try.underlying51); (case hd => rfl); (case hi => kernel_rfl)) | (apply yieldsIf_load_mid (by kernel_rfl) _ _ rfl _ _ rfl; (case hS => (intro W hC; exact hC.2.2.2)); (case hu => exact Try.underlying51); (case hd => rfl); (case hi => kernel_rfl)) | (apply yieldsIf_load_mid (by kernel_rfl) _ _ rfl _ _ rfl; (case hS => (intro W hC; exact hC.2.2)); (case hu => exact Try.underlying51); (case hd => rfl); (case hi => kernel_rfl)) | (apply yieldsIf_load_mid (by kernel_rfl) _ _ rfl _ _ rfl; (case hS => (intro W hC; exact hC.2)); (case hu => exact Try.underlying51); (case hd => rfl); (case hi => kernel_rfl)) | (apply yieldsIf_load_mid (by kernel_rfl) _ _ rfl _ _ rfl; (case hS => (intro W hC; exact hC)); (case hu => exact Try.underlying51); (case hd => rfl); (case hi => kernel_rfl))
            case hC => exact HC
            case ha => (simp only [Act.put, List.setIfInBounds_toArray, List.set_cons_zero, List.set_cons_succ]; rfl)
            apply WZ.take (i := 1) (some 60) rfl rfl (by kernel_rfl) (by kernel_rfl) (by kernel_rfl) (calm_panic _) (by kernel_rfl)
            case hy => (refine .inl ⟨by kernel_rfl, fun W hC => ?_⟩; (try dsimp only at hC); go_simp; rfl)
            case hC => exact HC
            case ha => (simp only [Act.put, List.setIfInBounds_toArray, List.set_cons_zero, List.set_cons_succ]; rfl)
            apply WZ.take (i := 2) (some 61) rfl rfl (by kernel_rfl) (by kernel_rfl) (by kernel_rfl) (calm_panic _) (by kernel_rfl)
            case hy => (refine .inl ⟨by kernel_rfl, fun W hC => ?_⟩; (try dsimp only at hC); go_simp; rfl)
            case hC => exact HC
            case ha => (simp only [Act.put, List.setIfInBounds_toArray, List.set_cons_zero, List.set_cons_succ]; rfl)
            apply WZ.take (i := 3) (some 62) rfl rfl (by kernel_rfl) (by kernel_rfl) (by kernel_rfl) (calm_panic _) (by kernel_rfl)
            case hy => (refine .inl ⟨by kernel_rfl, fun W hC => ?_⟩; (try dsimp only at hC); go_simp; rfl)
            case hC => exact HC
            case ha => (simp only [Act.put, List.setIfInBounds_toArray, List.set_cons_zero, List.set_cons_succ]; rfl)
            -- 4
            refine WZ.one (i := 4) rfl (by kernel_rfl) ?_
            conv => arg 4; arg 1; whnf
            go_wp2_with ((with_reducible show wpList _ _ _ ({ dst := none, op := Op.store _ (Operand.tmp 4) _, type := _, pos := _, after := _, guard := _ } :: _) _ _); go_loud (refine wpList_store_mid rfl 51 (.tmp 4) (.tmp 59) rfl (w.heap.size + 1 + 1) 0 (Sta.vs s' ⟨xs.A, xs.a, A6, c6, xs.F, xs.f⟩).toArray rfl rfl (HF.out.a.there 5 (Nat.le_refl _)) (by kernel_rfl) (by simp [Value.oneCell', Sta.vs]) ?_); refine HF.out.a.setW (Sta.vs s' ⟨xs.A, xs.a, A6, c6, xs.F, xs.f⟩) rfl ?_; intro w21 HT21 HG21; have HE21 := Lib.hid (HF.out.e.grown HG21.out (fun e => by injection e; omega)))
            clear HC
            have HC := (show World.rangeAt w21 w.heap.size 0 (s'.vs ⟨xs.A, xs.a, A6, c6, xs.F, xs.f⟩) ∧ World.cell? w21 ⟨w.heap.size + 1, 8, none⟩ = some (.slice D c.files.length m) from ⟨(HF.out.st.grown HG21.out (fun e => by injection e; omega)).range, (HK.out.grown HG21.out (fun e => by injection e; omega)).cell (j := 8) rfl⟩)
            refine ⟨HC, ?_⟩
            -- 5
            refine WZ.last (i := 5) rfl (by kernel_rfl) (by kernel_rfl) ?_
            conv => arg 4; arg 1; whnf
            go_wp2_with ((with_reducible show wpList _ _ _ ({ dst := none, op := Op.store _ (Operand.tmp 5) _, type := _, pos := _, after := _, guard := _ } :: _) _ _); go_loud (refine wpList_store_mid rfl 56 (.tmp 5) (.tmp 62) rfl ((w.heap.size + 1 + 1) + 1) 0 (Eff.vs ⟨0, false, [], c.files⟩ none 0 D m).toArray rfl rfl (HE21.out.there 4 (Nat.le_refl _)) (by kernel_rfl) (by simp [Value.oneCell', Eff.vs]) ?_); refine HE21.out.setW (Eff.vs ⟨0, false, [], c.files⟩ none 0 D m) rfl ?_; intro w22 HE22 HG22)
            refine WZ.done (by kernel_rfl) ?_ _
            simp only [Calm, Exit.then]
            go_wp2
            (try simp only [Exit.inBlock, Exit.then])
            refine bodyPost_ret (blk_two rfl Try.underlying51 rfl Try.underlying56 rfl _ _ (w.heap.size + 1 + 1) ((w.heap.size + 1 + 1) + 1) _ _ (by kernel_rfl) (by kernel_rfl) rfl rfl (HT21.out.grown HG22.out (fun e => by injection e; omega)) HE22.out) rfl ?_
            rw [HRS.out]
            exact HF.out.out HG21.out HG22.out (by first | exact .inl rfl | exact .inr rfl)
          · conv => arg 4; arg 1; whnf
            go_wp2_with fail
            have HM0 := HM
            clear HM
            have HM := Lib.hid (HM0.out.below (below_al _ (.cells #[.int .u64 c.job, .int .u32 c.sum, .int .u64 s.index] 67)))
            first | have HR := Lib.hid (show Rd _ _ _ (jbs [⟨c.job, c.sum, s.index⟩]) from HM0.out.litA 67 [.int .u64 c.job, .int .u32 c.sum, .int .u64 s.index]) | have HR := Lib.hid (show Rd _ _ _ (jbs [⟨c.job, c.sum, s.index⟩]) from HM0.out.lit 67 [.int .u64 c.job, .int .u32 c.sum, .int .u64 s.index])
            (first | ((first | have HNE := Lib.hid (own_freshA HOJ.out) | have HNE := Lib.hid (own_fresh HOJ.out)); have HOJ0 := HOJ; clear HOJ; have HOJ := Lib.hid (HOJ0.out.below (below_al _ (.cells #[.int .u64 c.job, .int .u32 c.sum, .int .u64 s.index] 67))); clear HOJ0) | skip)
            clear HM0 HC
            have HC := hcell _ HM
            refine ⟨HC, ?_⟩
            -- 3
            refine WZ.one (i := 3) rfl (by kernel_rfl) ?_
            conv => arg 4; arg 1; whnf
            go_wp2_with (at_builtin; go_loud (refine rjobs_app rfl _ _ rfl (w.heap.size + 1 + 1 + 2) _ 0 0 s.jobs.length [] s.jobs rfl HOJ.out xs.D s.jobs.length xs.d rfl (HIN.out.grown HM.out.rm.bl).rj rfl (by omega) (by omega) (Nat.succ_le_of_lt HM.out.rm.e.lt) ?_); intro A5 c5 w11 HO5 HG5; go_loud (have HM0 := HM; clear HM; have HM := Lib.hid (HM0.out.own HG5.out (fun q e => by have := (Own.lt HOJ.out _ e).1; omega)); (first | (have HR0 := HR; clear HR; go_loud (have HR := Lib.hid (HR0.out.grownOff HG5.out (.inr (fun e => HNE.out e.symm)))); clear HR0) | skip); clear HOJ HM0; have HOJ := HO5; clear HC; have HC := hcell _ HM))
            refine ⟨HC, ?_⟩
            -- 12
            refine WZ.one (i := 12) rfl (by kernel_rfl) ?_
            conv => arg 4; arg 1; whnf
            go_wp2_with (at_builtin; go_loud (refine rjobs_app rfl _ _ rfl (w.heap.size + 1 + 1 + 2) A5 s.jobs.length c5 (s.jobs.length + 1) ([] ++ s.jobs) [⟨c.job, c.sum, s.index⟩] rfl HOJ.out _ 1 1 rfl HR.out rfl rfl (by omega) (Nat.succ_le_of_lt HM.out.rm.e.lt) ?_); intro A6 c6 w12 HO6 HG6; go_loud (have HM0 := HM; clear HM; have HM := Lib.hid (HM0.out.own HG6.out (fun q e => by have := (Own.lt HOJ.out _ e).1; omega)); clear HM0; have f3 := HM.out.rm.st.free 3; clear HC; have HC := hcell _ HM))
            refine ⟨HC, ?_⟩
            apply WZ.take (i := 13) (some 58) rfl rfl (by kernel_rfl) (by kernel_rfl) (by kernel_rfl) (calm_panic _) (by kernel_rfl)
            case hy => (refine .inl ⟨by kernel_rfl, fun W hC => ?_⟩; (try dsimp only at hC); go_simp; rfl)
            case hC => exact HC
            case ha => (simp only [Act.put, List.setIfInBounds_toArray, List.set_cons_zero, List.set_cons_succ]; rfl)
            -- 14
            refine WZ.last (i := 14) rfl (by kernel_rfl) (by kernel_rfl) ?_
            conv => arg 4; arg 1; whnf
            go_wp2
            refine WZ.done (by kernel_rfl) ?_ _
            simp only [Calm, Exit.then]
            rw [List.nil_append] at HO6
            have HF := Lib.hid (ing_fin HM.out HIN.out HI.out HCI.out HFL.out HO6.out HS'.out).drew
            have HK := Lib.hid (HM.out.cmSet 3 (.slice A6 (s.jobs.length + 1) c6))
            go_wp2
            clear HC
            have HC := (show World.rangeAt _ w.heap.size 0 (s'.vs ⟨xs.A, xs.a, A6, c6, xs.F, xs.f⟩) ∧ World.cell? _ ⟨w.heap.size + 1, 8, none⟩ = some (.slice D c.files.length m) from ⟨HF.out.st.range, HK.out.cell (j := 8) rfl⟩)
            refine region_wz (fun W => W.rangeAt w.heap.size 0 (s'.vs ⟨xs.A, xs.a, A6, c6, xs.F, xs.f⟩) ∧ W.cell? ⟨w.heap.size + 1, 8, none⟩ = some (.slice D c.files.length m)) (some 5) (by kernel_rfl) ?_
            apply WZ.take (i := 0) (some 59) rfl rfl (by kernel_rfl) (by kernel_rfl) (by kernel_rfl) (calm_panic _) (by kernel_rfl)
            case hy => first | (apply yieldsIf_load_mid (by kernel_rfl) _ _ rfl _ _ rfl; (case hS => (intro W hC; exact hC.1)); (case hu => exact Try.underlying51); (case hd => rfl); (case hi => kernel_rfl)) | (apply yieldsIf_load_mid (by kernel_rfl) _ _ rfl _ _ rfl; (case hS => (intro W hC; exact hC.2.1)); (case hu => exact Try.underlying51); (case hd => rfl); (case hi => kernel_rfl)) | (apply yieldsIf_load_mid (by kernel_rfl) _ _ rfl _ _ rfl; (case hS => (intro W hC; exact hC.2.2.1)); (case hu => exact Try.underlying51); (case hd => rfl); (case hi => kernel_rfl)) | (apply yieldsIf_load_mid (by kernel_rfl) _ _ rfl _ _ rfl; (case hS => (intro W hC; exact hC.2.2.2.1)); (case hu => exact Try.underlying51); (case hd => rfl); (case hi => kernel_rfl)) | (apply yieldsIf_load_mid (by kernel_rfl) _ _ rfl _ _ rfl; (case hS => (intro W hC; exact hC.2.2.2)); (case hu => exact Try.underlying51); (case hd => rfl); (case hi => kernel_rfl)) | (apply yieldsIf_load_mid (by kernel_rfl) _ _ rfl _ _ rfl; (case hS => (intro W hC; exact hC.2.2)); (case hu => exact Try.underlying51); (case hd => rfl); (case hi => kernel_rfl)) | (apply yieldsIf_load_mid (by kernel_rfl) _ _ rfl _ _ rfl; (case hS => (intro W hC; exact hC.2)); (case hu => exact Try.underlying51); (case hd => rfl); (case hi => kernel_rfl)) | (apply yieldsIf_load_mid (by kernel_rfl) _ _ rfl _ _ rfl; (case hS => (intro W hC; exact hC)); (case hu => exact Try.underlying51); (case hd => rfl); (case hi => kernel_rfl))
            case hC => exact HC
            case ha => (simp only [Act.put, List.setIfInBounds_toArray, List.set_cons_zero, List.set_cons_succ]; rfl)
            apply WZ.take (i := 1) (some 60) rfl rfl (by kernel_rfl) (by kernel_rfl) (by kernel_rfl) (calm_panic _) (by kernel_rfl)
            case hy => (refine .inl ⟨by kernel_rfl, fun W hC => ?_⟩; (try dsimp only at hC); go_simp; rfl)
            case hC => exact HC
            case ha => (simp only [Act.put, List.setIfInBounds_toArray, List.set_cons_zero, List.set_cons_succ]; rfl)
            apply WZ.take (i := 2) (some 61) rfl rfl (by kernel_rfl) (by kernel_rfl) (by kernel_rfl) (calm_panic _) (by kernel_rfl)
            case hy => (refine .inl ⟨by kernel_rfl, fun W hC => ?_⟩; (try dsimp only at hC); go_simp; rfl)
            case hC => exact HC
            case ha => (simp only [Act.put, List.setIfInBounds_toArray, List.set_cons_zero, List.set_cons_succ]; rfl)
            apply WZ.take (i := 3) (some 62) rfl rfl (by kernel_rfl) (by kernel_rfl) (by kernel_rfl) (calm_panic _) (by kernel_rfl)
            case hy => (refine .inl ⟨by kernel_rfl, fun W hC => ?_⟩; (try dsimp only at hC); go_simp; rfl)
            case hC => exact HC
            case ha => (simp only [Act.put, List.setIfInBounds_toArray, List.set_cons_zero, List.set_cons_succ]; rfl)
            -- 4
            refine WZ.one (i := 4) rfl (by kernel_rfl) ?_
            conv => arg 4; arg 1; whnf
            go_wp2_with ((with_reducible show wpList _ _ _ ({ dst := none, op := Op.store _ (Operand.tmp 4) _, type := _, pos := _, after := _, guard := _ } :: _) _ _); go_loud (refine wpList_store_mid rfl 51 (.tmp 4) (.tmp 59) rfl (w.heap.size + 1 + 1) 0 (Sta.vs s' ⟨xs.A, xs.a, A6, c6, xs.F, xs.f⟩).toArray rfl rfl (HF.out.a.there 5 (Nat.le_refl _)) (by kernel_rfl) (by simp [Value.oneCell', Sta.vs]) ?_); refine HF.out.a.setW (Sta.vs s' ⟨xs.A, xs.a, A6, c6, xs.F, xs.f⟩) rfl ?_; intro w21 HT21 HG21; have HE21 := Lib.hid (HF.out.e.grown HG21.out (fun e => by injection e; omega)))
            clear HC
            have HC := (show World.rangeAt w21 w.heap.size 0 (s'.vs ⟨xs.A, xs.a, A6, c6, xs.F, xs.f⟩) ∧ World.cell? w21 ⟨w.heap.size + 1, 8, none⟩ = some (.slice D c.files.length m) from ⟨(HF.out.st.grown HG21.out (fun e => by injection e; omega)).range, (HK.out.grown HG21.out (fun e => by injection e; omega)).cell (j := 8) rfl⟩)
            refine ⟨HC, ?_⟩
            -- 5
            refine WZ.last (i := 5) rfl (by kernel_rfl) (by kernel_rfl) ?_
            conv => arg 4; arg 1; whnf
            go_wp2_with ((with_reducible show wpList _ _ _ ({ dst := none, op := Op.store _ (Operand.tmp 5) _, type := _, pos := _, after := _, guard := _ } :: _) _ _); go_loud (refine wpList_store_mid rfl 56 (.tmp 5) (.tmp 62) rfl ((w.heap.size + 1 + 1) + 1) 0 (Eff.vs ⟨0, false, [], c.files⟩ none 0 D m).toArray rfl rfl (HE21.out.there 4 (Nat.le_refl _)) (by kernel_rfl) (by simp [Value.oneCell', Eff.vs]) ?_); refine HE21.out.setW (Eff.vs ⟨0, false, [], c.files⟩ none 0 D m) rfl ?_; intro w22 HE22 HG22)
            refine WZ.done (by kernel_rfl) ?_ _
            simp only [Calm, Exit.then]
            go_wp2
            (try simp only [Exit.inBlock, Exit.then])
            refine bodyPost_ret (blk_two rfl Try.underlying51 rfl Try.underlying56 rfl _ _ (w.heap.size + 1 + 1) ((w.heap.size + 1 + 1) + 1) _ _ (by kernel_rfl) (by kernel_rfl) rfl rfl (HT21.out.grown HG22.out (fun e => by injection e; omega)) HE22.out) rfl ?_
            rw [HRS.out]
            exact HF.out.out HG21.out HG22.out (by first | exact .inl rfl | exact .inr rfl)
        · conv => arg 4; arg 1; whnf
          go_wp2_with fail
          have HM0 := HM
          clear HM
          have HM := Lib.hid (HM0.out.below (below_al _ (.cells #[.int .u64 c.job, .int .u32 c.sum, .int .u64 s.index] 67)))
          first | have HR := Lib.hid (show Rd _ _ _ (jbs [⟨c.job, c.sum, s.index⟩]) from HM0.out.litA 67 [.int .u64 c.job, .int .u32 c.sum, .int .u64 s.index]) | have HR := Lib.hid (show Rd _ _ _ (jbs [⟨c.job, c.sum, s.index⟩]) from HM0.out.lit 67 [.int .u64 c.job, .int .u32 c.sum, .int .u64 s.index])
          (first | ((first | have HNE := Lib.hid (own_freshA HOJ.out) | have HNE := Lib.hid (own_fresh HOJ.out)); have HOJ0 := HOJ; clear HOJ; have HOJ := Lib.hid (HOJ0.out.below (below_al _ (.cells #[.int .u64 c.job, .int .u32 c.sum, .int .u64 s.index] 67))); clear HOJ0) | skip)
          clear HM0 HC
          have HC := hcell _ HM
          refine ⟨HC, ?_⟩
          -- 0
          refine WZ.one (i := 0) rfl (by kernel_rfl) ?_
          conv => arg 4; arg 1; whnf
          go_wp2_with fail
          have HM0 := HM
          clear HM
          have HM := Lib.hid (HM0.out.below (below_al _ (.cells #[] 67)))
          first | have HOJ := Lib.hid (OwnRJ.lit0A _ _ (g := w.heap.size + 1 + 1 + 2) (Nat.succ_le_of_lt HM0.out.rm.e.lt)) | have HOJ := Lib.hid (OwnRJ.lit0 _ (g := w.heap.size + 1 + 1 + 2) (Nat.succ_le_of_lt HM0.out.rm.e.lt))
          (first | (have HNE := Lib.hid (Ne.symm (rd_offA HR.out (by simp [jbs, Jb.vs]))); have HR0 := HR; clear HR; have HR := Lib.hid ((HR0.out.below (below_al _ (.cells #[] 67))).more (below_al _ (.cells #[] 67)).size); clear HR0) | skip)
          clear HM0 HC
          have HC := hcell _ HM
          refine ⟨HC, ?_⟩
          -- 3
          refine WZ.one (i := 3) rfl (by kernel_rfl) ?_
          conv => arg 4; arg 1; whnf
          go_wp2_with (at_builtin; go_loud (refine rjobs_app rfl _ _ rfl (w.heap.size + 1 + 1 + 2) _ 0 0 s.jobs.length [] s.jobs rfl HOJ.out xs.D s.jobs.length xs.d rfl (HIN.out.grown HM.out.rm.bl).rj rfl (by omega) (by omega) (Nat.succ_le_of_lt HM.out.rm.e.lt) ?_); intro A5 c5 w11 HO5 HG5; go_loud (have HM0 := HM; clear HM; have HM := Lib.hid (HM0.out.own HG5.out (fun q e => by have := (Own.lt HOJ.out _ e).1; omega)); (first | (have HR0 := HR; clear HR; go_loud (have HR := Lib.hid (HR0.out.grownOff HG5.out (.inr (fun e => HNE.out e.symm)))); clear HR0) | skip); clear HOJ HM0; have HOJ := HO5; clear HC; have HC := hcell _ HM))
          refine ⟨HC, ?_⟩
          -- 12
          refine WZ.one (i := 12) rfl (by kernel_rfl) ?_
          conv => arg 4; arg 1; whnf
          go_wp2_with (at_builtin; go_loud (refine rjobs_app rfl _ _ rfl (w.heap.size + 1 + 1 + 2) A5 s.jobs.length c5 (s.jobs.length + 1) ([] ++ s.jobs) [⟨c.job, c.sum, s.index⟩] rfl HOJ.out _ 1 1 rfl HR.out rfl rfl (by omega) (Nat.succ_le_of_lt HM.out.rm.e.lt) ?_); intro A6 c6 w12 HO6 HG6; go_loud (have HM0 := HM; clear HM; have HM := Lib.hid (HM0.out.own HG6.out (fun q e => by have := (Own.lt HOJ.out _ e).1; omega)); clear HM0; have f3 := HM.out.rm.st.free 3; clear HC; have HC := hcell _ HM))
          refine ⟨HC, ?_⟩
          apply WZ.take (i := 13) (some 58) rfl rfl (by kernel_rfl) (by kernel_rfl) (by kernel_rfl) (calm_panic _) (by kernel_rfl)
          case hy => (refine .inl ⟨by kernel_rfl, fun W hC => ?_⟩; (try dsimp only at hC); go_simp; rfl)
          case hC => exact HC
          case ha => (simp only [Act.put, List.setIfInBounds_toArray, List.set_cons_zero, List.set_cons_succ]; rfl)
          -- 14
          refine WZ.last (i := 14) rfl (by kernel_rfl) (by kernel_rfl) ?_
          conv => arg 4; arg 1; whnf
          go_wp2
          refine WZ.done (by kernel_rfl) ?_ _
          simp only [Calm, Exit.then]
          rw [List.nil_append] at HO6
          have HF := Lib.hid (ing_fin HM.out HIN.out HI.out HCI.out HFL.out HO6.out HS'.out).drew
          have HK := Lib.hid (HM.out.cmSet 3 (.slice A6 (s.jobs.length + 1) c6))
          go_wp2
          clear HC
          have HC := (show World.rangeAt _ w.heap.size 0 (s'.vs ⟨xs.A, xs.a, A6, c6, xs.F, xs.f⟩) ∧ World.cell? _ ⟨w.heap.size + 1, 8, none⟩ = some (.slice D c.files.length m) from ⟨HF.out.st.range, HK.out.cell (j := 8) rfl⟩)
          refine region_wz (fun W => W.rangeAt w.heap.size 0 (s'.vs ⟨xs.A, xs.a, A6, c6, xs.F, xs.f⟩) ∧ W.cell? ⟨w.heap.size + 1, 8, none⟩ = some (.slice D c.files.length m)) (some 5) (by kernel_rfl) ?_
          apply WZ.take (i := 0) (some 59) rfl rfl (by kernel_rfl) (by kernel_rfl) (by kernel_rfl) (calm_panic _) (by kernel_rfl)
          case hy => first | (apply yieldsIf_load_mid (by kernel_rfl) _ _ rfl _ _ rfl; (case hS => (intro W hC; exact hC.1)); (case hu => exact Try.underlying51); (case hd => rfl); (case hi => kernel_rfl)) | (apply yieldsIf_load_mid (by kernel_rfl) _ _ rfl _ _ rfl; (case hS => (intro W hC; exact hC.2.1)); (case hu => exact Try.underlying51); (case hd => rfl); (case hi => kernel_rfl)) | (apply yieldsIf_load_mid (by kernel_rfl) _ _ rfl _ _ rfl; (case hS => (intro W hC; exact hC.2.2.1)); (case hu => exact Try.underlying51); (case hd => rfl); (case hi => kernel_rfl)) | (apply yieldsIf_load_mid (by kernel_rfl) _ _ rfl _ _ rfl; (case hS => (intro W hC; exact hC.2.2.2.1)); (case hu => exact Try.underlying51); (case hd => rfl); (case hi => kernel_rfl)) | (apply yieldsIf_load_mid (by kernel_rfl) _ _ rfl _ _ rfl; (case hS => (intro W hC; exact hC.2.2.2)); (case hu => exact Try.underlying51); (case hd => rfl); (case hi => kernel_rfl)) | (apply yieldsIf_load_mid (by kernel_rfl) _ _ rfl _ _ rfl; (case hS => (intro W hC; exact hC.2.2)); (case hu => exact Try.underlying51); (case hd => rfl); (case hi => kernel_rfl)) | (apply yieldsIf_load_mid (by kernel_rfl) _ _ rfl _ _ rfl; (case hS => (intro W hC; exact hC.2)); (case hu => exact Try.underlying51); (case hd => rfl); (case hi => kernel_rfl)) | (apply yieldsIf_load_mid (by kernel_rfl) _ _ rfl _ _ rfl; (case hS => (intro W hC; exact hC)); (case hu => exact Try.underlying51); (case hd => rfl); (case hi => kernel_rfl))
          case hC => exact HC
          case ha => (simp only [Act.put, List.setIfInBounds_toArray, List.set_cons_zero, List.set_cons_succ]; rfl)
          apply WZ.take (i := 1) (some 60) rfl rfl (by kernel_rfl) (by kernel_rfl) (by kernel_rfl) (calm_panic _) (by kernel_rfl)
          case hy => (refine .inl ⟨by kernel_rfl, fun W hC => ?_⟩; (try dsimp only at hC); go_simp; rfl)
          case hC => exact HC
          case ha => (simp only [Act.put, List.setIfInBounds_toArray, List.set_cons_zero, List.set_cons_succ]; rfl)
          apply WZ.take (i := 2) (some 61) rfl rfl (by kernel_rfl) (by kernel_rfl) (by kernel_rfl) (calm_panic _) (by kernel_rfl)
          case hy => (refine .inl ⟨by kernel_rfl, fun W hC => ?_⟩; (try dsimp only at hC); go_simp; rfl)
          case hC => exact HC
          case ha => (simp only [Act.put, List.setIfInBounds_toArray, List.set_cons_zero, List.set_cons_succ]; rfl)
          apply WZ.take (i := 3) (some 62) rfl rfl (by kernel_rfl) (by kernel_rfl) (by kernel_rfl) (calm_panic _) (by kernel_rfl)
          case hy => (refine .inl ⟨by kernel_rfl, fun W hC => ?_⟩; (try dsimp only at hC); go_simp; rfl)
          case hC => exact HC
          case ha => (simp only [Act.put, List.setIfInBounds_toArray, List.set_cons_zero, List.set_cons_succ]; rfl)
          -- 4
          refine WZ.one (i := 4) rfl (by kernel_rfl) ?_
          conv => arg 4; arg 1; whnf
          go_wp2_with ((with_reducible show wpList _ _ _ ({ dst := none, op := Op.store _ (Operand.tmp 4) _, type := _, pos := _, after := _, guard := _ } :: _) _ _); go_loud (refine wpList_store_mid rfl 51 (.tmp 4) (.tmp 59) rfl (w.heap.size + 1 + 1) 0 (Sta.vs s' ⟨xs.A, xs.a, A6, c6, xs.F, xs.f⟩).toArray rfl rfl (HF.out.a.there 5 (Nat.le_refl _)) (by kernel_rfl) (by simp [Value.oneCell', Sta.vs]) ?_); refine HF.out.a.setW (Sta.vs s' ⟨xs.A, xs.a, A6, c6, xs.F, xs.f⟩) rfl ?_; intro w21 HT21 HG21; have HE21 := Lib.hid (HF.out.e.grown HG21.out (fun e => by injection e; omega)))
          clear HC
          have HC := (show World.rangeAt w21 w.heap.size 0 (s'.vs ⟨xs.A, xs.a, A6, c6, xs.F, xs.f⟩) ∧ World.cell? w21 ⟨w.heap.size + 1, 8, none⟩ = some (.slice D c.files.length m) from ⟨(HF.out.st.grown HG21.out (fun e => by injection e; omega)).range, (HK.out.grown HG21.out (fun e => by injection e; omega)).cell (j := 8) rfl⟩)
          refine ⟨HC, ?_⟩
          -- 5
          refine WZ.last (i := 5) rfl (by kernel_rfl) (by kernel_rfl) ?_
          conv => arg 4; arg 1; whnf
          go_wp2_with ((with_reducible show wpList _ _ _ ({ dst := none, op := Op.store _ (Operand.tmp 5) _, type := _, pos := _, after := _, guard := _ } :: _) _ _); go_loud (refine wpList_store_mid rfl 56 (.tmp 5) (.tmp 62) rfl ((w.heap.size + 1 + 1) + 1) 0 (Eff.vs ⟨0, false, [], c.files⟩ none 0 D m).toArray rfl rfl (HE21.out.there 4 (Nat.le_refl _)) (by kernel_rfl) (by simp [Value.oneCell', Eff.vs]) ?_); refine HE21.out.setW (Eff.vs ⟨0, false, [], c.files⟩ none 0 D m) rfl ?_; intro w22 HE22 HG22)
          refine WZ.done (by kernel_rfl) ?_ _
          simp only [Calm, Exit.then]
          go_wp2
          (try simp only [Exit.inBlock, Exit.then])
          refine bodyPost_ret (blk_two rfl Try.underlying51 rfl Try.underlying56 rfl _ _ (w.heap.size + 1 + 1) ((w.heap.size + 1 + 1) + 1) _ _ (by kernel_rfl) (by kernel_rfl) rfl rfl (HT21.out.grown HG22.out (fun e => by injection e; omega)) HE22.out) rfl ?_
          rw [HRS.out]
          exact HF.out.out HG21.out HG22.out (by first | exact .inl rfl | exact .inr rfl)
      · have HRS := Lib.hid (show ingestS s c = (s, ⟨190, false, [], []⟩) by rw [hun, if_pos he])
        have b2 : ((c.epoch : Int) != (s.epoch : Int)) = true := by
          simp only [bne_iff_ne, ne_eq]
          omega
        clear hun hf he
        go_enter Try.func49, Try.ntmps49
        go_wp2_with (first
          | ((with_reducible show wpList _ _ _ ({ dst := some 43, op := Op.load _ _, type := _, pos := _, after := _, guard := _ } :: _) _ _); go_loud (refine wpList_load_mid rfl 51 (.tmp 2) rfl w.heap.size 0 rfl (Sta.vs s xs) _ HF.out.st.range Try.underlying51 rfl (by kernel_rfl) ?_))
          | ((with_reducible show wpList _ _ _ ({ dst := none, op := Op.store _ (Operand.tmp 4) _, type := _, pos := _, after := _, guard := _ } :: _) _ _); go_loud (refine wpList_store_mid rfl 51 (.tmp 4) (.tmp 43) rfl (w.heap.size + 1 + 1) 0 (Sta.vs s xs).toArray rfl rfl (HF.out.a.there 5 (Nat.le_refl _)) (by kernel_rfl) (by simp [Value.oneCell', Sta.vs]) ?_); refine HF.out.a.setW (Sta.vs s xs) rfl ?_; intro w21 HT21 HG21; have HE21 := Lib.hid (HF.out.e.grown HG21.out (fun e => by injection e; omega)))
          | ((with_reducible show wpList _ _ _ ({ dst := none, op := Op.store _ (Operand.tmp 5) _, type := _, pos := _, after := _, guard := _ } :: _) _ _); go_loud (refine wpList_store_mid rfl 56 (.tmp 5) (.tmp 44) rfl ((w.heap.size + 1 + 1) + 1) 0 (Eff.vs ⟨190, false, [], []⟩ none 0 none 0).toArray rfl rfl (HE21.out.there 4 (Nat.le_refl _)) (by kernel_rfl) (by simp [Value.oneCell', Eff.vs]) ?_); refine HE21.out.setW (Eff.vs ⟨190, false, [], []⟩ none 0 none 0) rfl ?_; intro w22 HE22 HG22)
          | ((with_reducible show wpList _ _ _ ({ dst := none, op := Op.store _ (Operand.tmp 6) _, type := _, pos := _, after := _, guard := _ } :: _) _ _); go_loud (refine wpList_store_mid rfl 67 (.tmp 6) (.tmp 13) rfl w2.heap.size 0 j.vs.toArray rfl rfl (there_madeB 67 w2 [.int .u64 0, .int .u32 0, .int .u64 0] 3 (Nat.le_refl _)) (by kernel_rfl) (by simp [Value.oneCell', Jb.vs]) ?_); refine Blk.madeW 67 w2 [.int .u64 0, .int .u32 0, .int .u64 0] j.vs rfl ?_; intro w3 HJ3 HB3; have HM3 := Lib.hid (HM2.out.below HB3.out); have j1 := HJ3.out.cell (j := 1) rfl; have q6 := HM3.out.cm.cell (j := 6) rfl; have q7 := HM3.out.cm.cell (j := 7) rfl; have q8 := HM3.out.cm.cell (j := 8) rfl; have s1 := HM3.out.rm.st.cell (j := 1) rfl; have HF := Lib.hid (RM.same HM3.out.rm HIN.out HI.out 190 false))
          | (go_at_call 25; go_loud (refine (refFind_any s xs c.job _ (HIN.out.grown HM.out.rm.bl) hjl).mono ?_); rw [HFN.out]; rintro e w2 ⟨rfl, hb⟩; have HM2 := Lib.hid (HM.out.below hb); clear hb)
          | ((with_reducible show wpList _ _ _ ({ dst := some 9, op := Op.load _ _, type := _, pos := _, after := _, guard := _ } :: _) _ _); go_loud (refine wpList_load_mid rfl 51 (.tmp 2) rfl w.heap.size 0 rfl (s.vs xs) _ HM.out.rm.st.range Try.underlying51 rfl (by kernel_rfl) ?_))
          )
        (try simp only [Exit.inBlock, Exit.then])
        refine bodyPost_ret (blk_two rfl Try.underlying51 rfl Try.underlying56 rfl _ _ (w.heap.size + 1 + 1) ((w.heap.size + 1 + 1) + 1) _ _ (by kernel_rfl) (by kernel_rfl) rfl rfl (HT21.out.grown HG22.out (fun e => by injection e; omega)) HE22.out) rfl ?_
        rw [HRS.out]
        exact HF.out.out HG21.out HG22.out (by first | exact .inl rfl | exact .inr rfl)
end Go.Proofs.Ytiiogdgnccgehaa
