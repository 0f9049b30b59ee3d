/-
  The walk of the reference's split. No conditions.
-/
import Derived.Test.YtiiogdgnccgehaaRefKit19
namespace Go.Proofs.Ytiiogdgnccgehaa
open Go.RowKit
attribute [local go_sem ↓] Go.wp_at_zero Go.wp_at_succ

/-- behind k borders -/
def outL (B : List ByteArray) (row : ByteArray) (k : Nat) : List ByteArray := if posT B row < k then putAt (B.take k) (posT B row) row else B.take k
theorem putAt_more {B : List ByteArray} {p k : Nat} (row : ByteArray) (hp : p ≤ k) (hk : k < B.length) : putAt (B.take k) p row ++ [B[k]] = putAt (B.take (k + 1)) p row := by
  have hl : (B.take k).length = k := by rw [List.length_take]; omega
  unfold putAt
  rw [List.take_succ_eq_append_getElem hk, List.take_append_of_le_length (by omega), List.drop_append_of_le_length (by omega)]
  simp
theorem putAt_end (l : List ByteArray) (row : ByteArray) (n : Nat) (h : l.length ≤ n) : putAt l n row = l ++ [row] := by
  unfold putAt
  rw [List.take_of_length_le h, List.drop_of_length_le h]
  simp
theorem outL_zero (B : List ByteArray) (row : ByteArray) : outL B row 0 = [] := by
  unfold outL
  rw [if_neg (by omega)]
  rfl
theorem outL_in {B : List ByteArray} {row : ByteArray} {k : Nat} (h : posT B row < k) (hk : k < B.length) : outL B row k ++ [B[k]] = outL B row (k + 1) := by
  unfold outL
  rw [if_pos h, if_pos (by omega)]
  exact putAt_more row (by omega) hk
theorem outL_ahead {B : List ByteArray} {row : ByteArray} {k : Nat} (h : k < posT B row) (hk : k < B.length) : outL B row k ++ [B[k]] = outL B row (k + 1) := by
  unfold outL
  rw [if_neg (by omega), if_neg (by omega), List.take_succ_eq_append_getElem hk]
theorem outL_at {B : List ByteArray} {row : ByteArray} {k : Nat} (h : posT B row = k) (hk : k < B.length) : outL B row k ++ [row] ++ [B[k]] = outL B row (k + 1) := by
  have hl : (B.take k).length = k := by rw [List.length_take]; omega
  unfold outL
  rw [if_neg (by omega), if_pos (by omega), h, ← putAt_more row (Nat.le_refl _) hk, putAt_end _ _ _ (by omega)]
theorem outL_end {B : List ByteArray} {row : ByteArray} {k : Nat} (h : posT B row < k) (hk : B.length ≤ k) : outL B row k = putAt B (posT B row) row := by
  unfold outL
  rw [if_pos h, List.take_of_length_le hk]
theorem outL_last {B : List ByteArray} {row : ByteArray} {k : Nat} (h : ¬ posT B row < k) (hk : B.length = k) : outL B row k ++ [row] = putAt B (posT B row) row := by
  have := posT_le B row
  unfold outL
  rw [if_neg h, List.take_of_length_le (by omega), putAt_end _ _ _ (by omega)]
theorem above_at {B : List ByteArray} {row x : ByteArray} {k : Nat} (hr : Rise B) (hk : k < B.length) (hx : B[k] = x) (h : posT B row ≤ k) : Op.bytesLess x.toList row.toList = false := by
  subst hx
  exact posT_high B row k hk hr h
theorem below_at {B : List ByteArray} {row x : ByteArray} {k : Nat} (hk : k < B.length) (hx : B[k] = x) (h : k < posT B row) : Op.bytesLess x.toList row.toList = true := by
  subst hx
  exact posT_low B row k hk h
theorem eq_bytes (a b : ByteArray) : (a.toList == b.toList) = decide (a = b) := by
  by_cases h : a = b
  · subst h; simp
  · rw [decide_eq_false h, beq_eq_false_iff_ne]
    exact fun e => h (toList_inj e)
/-- the border is there: the answer's state -/
theorem split_fin {w W W3 : World} {q : Nat} {s : Sta} {xs : SA} {A : Option Addr} {n c : Nat} {l : List ByteArray} (h : RM w W q s xs) (hin : StaIn w w.heap.size s xs) (hi : InW w xs) (ho : OwnS W (q + 2) A n c l)
    {s' : Sta} (hs' : { s with epoch := s.epoch + 1, borders := l } = s')
    (hw : (W.setCell ⟨w.heap.size, 2, none⟩ (.slice A n c)).setCell ⟨w.heap.size, 1, none⟩ (.int .u64 ((s.epoch + 1 : Nat) : Int)) = W3) :
    RF w W3 q (s', ⟨0, false, [], []⟩) xs ⟨A, c, xs.D, xs.d, xs.F, xs.f⟩ none 0 none 0 := by
  have hn := ho.len
  subst hn hw hs'
  have h0 := h.q0
  have h1 := h.set 2 (.slice A l.length c) (s' := { s with borders := l }) (ys := ⟨A, c, xs.D, xs.d, xs.F, xs.f⟩) rfl
  have g1 := grown_set W w.heap.size 2 (.slice A l.length c)
  have h2 := h1.set 1 (.int .u64 ((s.epoch + 1 : Nat) : Int)) (s' := { s with epoch := s.epoch + 1, borders := l }) (ys := ⟨A, c, xs.D, xs.d, xs.F, xs.f⟩) rfl
  have g2 := grown_set (W.setCell ⟨w.heap.size, 2, none⟩ (.slice A l.length c)) w.heap.size 1 (.int .u64 ((s.epoch + 1 : Nat) : Int))
  have hj := Own.grown (Own.grown ho g1 (.inr (own_off ho (by omega)))) g2 (.inr (own_off ho (by omega)))
  have hs := hin.grown h2.bl
  have n1 := hi.notAt (g := q) (by omega)
  have n2 := hi.notAt (g := q + 1) (by omega)
  exact ⟨h2.bl, h2.st, h2.a, h2.e, h0, ⟨Own.rd hj (by omega), hs.rj, hs.rc⟩, ⟨From.new (fun b hb => by have := Own.lt hj _ hb; omega), From.refl _ _ _, From.refl _ _ _⟩, ⟨own_off ho (by omega), n1.D, n1.F⟩, ⟨own_off ho (by omega), n2.D, n2.F⟩, Rd.nil, Rd.nil, ⟨blk_none _, blk_none _⟩, ⟨blk_none _, blk_none _⟩, pa_none _⟩
theorem OwnS.lit0 (W : World) {g : Nat} (hg : W.heap.size = g) : OwnS (W.alloc (.cells #[] 9)) g (some ⟨g, 0, none⟩) 0 0 [] := by
  subst hg
  exact World.ownsRow_lit W #[] 0 (Nat.le_refl _) (by simp [maxLen]) rfl
set_option maxRecDepth 100000 in
set_option maxHeartbeats 8000000 in
theorem refSplit_any (w : World) (s : Sta) (xs : SA) (c : Cmd) (hin : StaIn w w.heap.size s xs) (hi : InW w xs) (hbl : s.borders.length ≤ 1000) (hrise : Rise s.borders) (hep : s.epoch ≤ 1000) :
    Calls Try.prog 48 #[.agg (s.vs xs).toArray, .string c.row] w (ROut w xs none (splitS s c)) := by
  have HM := Lib.hid (RM.start3 w s xs)
  have HIN := Lib.hid hin
  have HI := Lib.hid hi
  obtain ⟨row, hrow⟩ : ∃ row, c.row = row := ⟨_, rfl⟩
  have hun : splitS s c = if row.size = 0 ∨ 40 < row.size then bad s 1 else if memT s.borders row then bad s 4 else ({ s with epoch := s.epoch + 1, borders := putAt s.borders (posT s.borders row) row }, ⟨0, false, [], []⟩) := by
    rw [← hrow]
    rfl
  rw [hrow]
  clear hrow
  unfold staz effz Sta.vs at HM
  unfold Sta.vs
  clear hin hi
  by_cases h0 : row.size < 1
  · have HRS := Lib.hid (show splitS s c = (s, ⟨1, false, [], []⟩) by rw [hun]; exact if_pos (.inl (by omega)))
    have d1 : decide ((row.size : Int) < 1) = true := decide_eq_true (by omega)
    have HF := Lib.hid (RM.same HM.out HIN.out HI.out 1 false)
    clear hun h0
    go_enter Try.func48, Try.ntmps48
    go_wp2_with (first
      | ((with_reducible show wpList _ _ _ ({ dst := some 17, op := Op.load _ _, type := _, pos := _, after := _, guard := _ } :: _) _ _); go_loud (refine wpList_load_mid rfl 51 (.tmp 2) rfl w.heap.size 0 rfl (Sta.vs s xs) _ HF.out.st.range Try.underlying51 rfl (by kernel_rfl) ?_))
      | ((with_reducible show wpList _ _ _ ({ dst := none, op := Op.store _ (Operand.tmp 4) _, type := _, pos := _, after := _, guard := _ } :: _) _ _); go_loud (refine wpList_store_mid rfl 51 (.tmp 4) (.tmp 17) rfl (w.heap.size + 1) 0 (Sta.vs s xs).toArray rfl rfl (HF.out.a.there 5 (Nat.le_refl _)) (by kernel_rfl) (by simp [Value.oneCell', Sta.vs]) ?_); refine HF.out.a.setW (Sta.vs s xs) rfl ?_; intro w21 HT21 HG21; have HE21 := Lib.hid (HF.out.e.grown HG21.out (fun e => by injection e; omega)))
      | ((with_reducible show wpList _ _ _ ({ dst := none, op := Op.store _ (Operand.tmp 5) _, type := _, pos := _, after := _, guard := _ } :: _) _ _); go_loud (refine wpList_store_mid rfl 56 (.tmp 5) (.tmp 18) rfl ((w.heap.size + 1) + 1) 0 (Eff.vs ⟨1, false, [], []⟩ none 0 none 0).toArray rfl rfl (HE21.out.there 4 (Nat.le_refl _)) (by kernel_rfl) (by simp [Value.oneCell', Eff.vs]) ?_); refine HE21.out.setW (Eff.vs ⟨1, false, [], []⟩ none 0 none 0) rfl ?_; intro w22 HE22 HG22)
      )
    (try simp only [Exit.inBlock, Exit.then])
    refine bodyPost_ret (blk_two rfl Try.underlying51 rfl Try.underlying56 rfl _ _ (w.heap.size + 1) ((w.heap.size + 1) + 1) _ _ (by kernel_rfl) (by kernel_rfl) rfl rfl (HT21.out.grown HG22.out (fun e => by injection e; omega)) HE22.out) rfl ?_
    rw [HRS.out]
    exact HF.out.out HG21.out HG22.out (by first | exact .inl rfl | exact .inr rfl)
  · have d1 : decide ((row.size : Int) < 1) = false := decide_eq_false (by omega)
    by_cases h40 : 40 < row.size
    · have HRS := Lib.hid (show splitS s c = (s, ⟨1, false, [], []⟩) by rw [hun]; exact if_pos (.inr h40))
      have d2 : decide ((40 : Int) < (row.size : Int)) = true := decide_eq_true (by omega)
      have HF := Lib.hid (RM.same HM.out HIN.out HI.out 1 false)
      clear hun h0 h40
      go_enter Try.func48, Try.ntmps48
      go_wp2_with (first
        | ((with_reducible show wpList _ _ _ ({ dst := some 17, op := Op.load _ _, type := _, pos := _, after := _, guard := _ } :: _) _ _); go_loud (refine wpList_load_mid rfl 51 (.tmp 2) rfl w.heap.size 0 rfl (Sta.vs s xs) _ HF.out.st.range Try.underlying51 rfl (by kernel_rfl) ?_))
        | ((with_reducible show wpList _ _ _ ({ dst := none, op := Op.store _ (Operand.tmp 4) _, type := _, pos := _, after := _, guard := _ } :: _) _ _); go_loud (refine wpList_store_mid rfl 51 (.tmp 4) (.tmp 17) rfl (w.heap.size + 1) 0 (Sta.vs s xs).toArray rfl rfl (HF.out.a.there 5 (Nat.le_refl _)) (by kernel_rfl) (by simp [Value.oneCell', Sta.vs]) ?_); refine HF.out.a.setW (Sta.vs s xs) rfl ?_; intro w21 HT21 HG21; have HE21 := Lib.hid (HF.out.e.grown HG21.out (fun e => by injection e; omega)))
        | ((with_reducible show wpList _ _ _ ({ dst := none, op := Op.store _ (Operand.tmp 5) _, type := _, pos := _, after := _, guard := _ } :: _) _ _); go_loud (refine wpList_store_mid rfl 56 (.tmp 5) (.tmp 18) rfl ((w.heap.size + 1) + 1) 0 (Eff.vs ⟨1, false, [], []⟩ none 0 none 0).toArray rfl rfl (HE21.out.there 4 (Nat.le_refl _)) (by kernel_rfl) (by simp [Value.oneCell', Eff.vs]) ?_); refine HE21.out.setW (Eff.vs ⟨1, false, [], []⟩ none 0 none 0) rfl ?_; intro w22 HE22 HG22)
        )
      (try simp only [Exit.inBlock, Exit.then])
      refine bodyPost_ret (blk_two rfl Try.underlying51 rfl Try.underlying56 rfl _ _ (w.heap.size + 1) ((w.heap.size + 1) + 1) _ _ (by kernel_rfl) (by kernel_rfl) rfl rfl (HT21.out.grown HG22.out (fun e => by injection e; omega)) HE22.out) rfl ?_
      rw [HRS.out]
      exact HF.out.out HG21.out HG22.out (by first | exact .inl rfl | exact .inr rfl)
    · have d2 : decide ((40 : Int) < (row.size : Int)) = false := decide_eq_false (by omega)
      rw [if_neg (by omega)] at hun
      have HUN := Lib.hid hun
      have HR := Lib.hid hrise
      obtain ⟨N, hN⟩ : ∃ N, s.borders.length = N := ⟨_, rfl⟩
      have HN := Lib.hid hN
      rw [hN] at hbl
      have hwe : IntKind.u64.wrap ((s.epoch : Int) + 1) = ((s.epoch + 1 : Nat) : Int) := wrap_nat (s.epoch + 1) (by omega)
      clear hun h0 h40 hrise hN
      go_enter Try.func48, Try.ntmps48
      go_wp2
      go_loopw [6, 7, 8] (fun v6 v7 v8 wr => ∃ (k n c6 : Nat) (A6 : Option Addr), v6 = .slice A6 n c6 ∧ v7 = .bool (decide (posT s.borders row < k)) ∧ v8 = .int .i64 (k : Int) ∧ k ≤ N ∧ Hid (RM w wr (w.heap.size + 1) s xs) ∧ Hid (OwnS wr (w.heap.size + 1 + 2) A6 n c6 (outL s.borders row k)) ∧ Hid (okTo (fun x => x ≠ row) s.borders k)) (fun _ _ v8 _ => N - (intOf v8).toNat)
      case atStart =>
        have hol := OwnS.lit0 (((w.alloc (.cells (s.vs xs).toArray 51)).alloc (.cells staz.toArray 51)).alloc (.cells effz.toArray 56)) (am_size _ _ _ _)
        refine ⟨0, 0, 0, _, rfl, by rw [decide_eq_false (Nat.not_lt_zero _)], rfl, Nat.zero_le _, Lib.hid (HM.out.below (below_al _ _)), Lib.hid ?_, Lib.hid (okTo_zero _ _)⟩
        rw [outL_zero]
        exact hol
      case round =>
        clear HM
        obtain ⟨k, n, c6, A6, rfl, rfl, rfl, hk, HM, HO, HU⟩ := hrel
        rename World => wr
        have hn1 : n ≤ 1001 := by
          have h1 := HO.out.len
          have h2 := posT_le s.borders row
          have h3 := HN.out
          unfold outL at h1
          split at h1
          · rw [putAt_len (by rw [List.length_take]; omega), List.length_take] at h1
            omega
          · rw [List.length_take] at h1
            omega
        have d3 := HM.out.st.cell (j := 2) rfl
        rw [HN.out] at d3
        by_cases hlt : k < N
        · have hkl : k < s.borders.length := by rw [HN.out]; exact hlt
          have e1 : decide ((k : Int) < (N : Int)) = true := decide_eq_true (by omega)
          have k1 : (0 : Int) ≤ (k : Int) := by omega
          have k2 : (k : Int) < (N : Int) := by omega
          have hw3 : IntKind.i64.wrap ((k : Int) + 1) = ((k + 1 : Nat) : Int) := by rw [IntWalk.i64_in _ (by omega)]; omega
          obtain ⟨b, o, hA, hb0, hc⟩ := text_elem HIN.out.rb hkl
          rw [hA] at d3
          have HA := Lib.hid hA
          obtain ⟨x, hx⟩ : ∃ x, s.borders[k] = x := ⟨_, rfl⟩
          rw [hx] at hc
          have HC := Lib.hid (fun (W : World) (hb : Below w.heap.size w W) => (hb.cell (p := ⟨b, o + k, none⟩) hb0).trans hc)
          have c0 := HC.out wr HM.out.bl
          have HX := Lib.hid hx
          clear hA hc hx
          by_cases hxe : x = row
          · have q1 : (x.toList == row.toList) = true := by rw [eq_bytes]; exact decide_eq_true hxe
            have HRS := Lib.hid (show splitS s c = (s, ⟨4, false, [], []⟩) by rw [HUN.out, memT_iff.2 (hxe ▸ HX.out ▸ List.getElem_mem hkl)]; rfl)
            have HF := Lib.hid (RM.same HM.out HIN.out HI.out 4 false)
            clear hxe
            go_wp2_with (first
              | ((with_reducible show wpList _ _ _ ({ dst := some 34, op := Op.load _ _, type := _, pos := _, after := _, guard := _ } :: _) _ _); go_loud (refine wpList_load_mid rfl 51 (.tmp 2) rfl w.heap.size 0 rfl (Sta.vs s xs) _ HF.out.st.range Try.underlying51 rfl (by kernel_rfl) ?_))
              | ((with_reducible show wpList _ _ _ ({ dst := none, op := Op.store _ (Operand.tmp 4) _, type := _, pos := _, after := _, guard := _ } :: _) _ _); go_loud (refine wpList_store_mid rfl 51 (.tmp 4) (.tmp 34) rfl (w.heap.size + 1) 0 (Sta.vs s xs).toArray rfl rfl (HF.out.a.there 5 (Nat.le_refl _)) (by kernel_rfl) (by simp [Value.oneCell', Sta.vs]) ?_); refine HF.out.a.setW (Sta.vs s xs) rfl ?_; intro w21 HT21 HG21; have HE21 := Lib.hid (HF.out.e.grown HG21.out (fun e => by injection e; omega)))
              | ((with_reducible show wpList _ _ _ ({ dst := none, op := Op.store _ (Operand.tmp 5) _, type := _, pos := _, after := _, guard := _ } :: _) _ _); go_loud (refine wpList_store_mid rfl 56 (.tmp 5) (.tmp 35) rfl ((w.heap.size + 1) + 1) 0 (Eff.vs ⟨4, false, [], []⟩ none 0 none 0).toArray rfl rfl (HE21.out.there 4 (Nat.le_refl _)) (by kernel_rfl) (by simp [Value.oneCell', Eff.vs]) ?_); refine HE21.out.setW (Eff.vs ⟨4, false, [], []⟩ none 0 none 0) rfl ?_; intro w22 HE22 HG22)
              )
            (try simp only [Exit.inBlock, Exit.then])
            refine bodyPost_ret (blk_two rfl Try.underlying51 rfl Try.underlying56 rfl _ _ (w.heap.size + 1) ((w.heap.size + 1) + 1) _ _ (by kernel_rfl) (by kernel_rfl) rfl rfl (HT21.out.grown HG22.out (fun e => by injection e; omega)) HE22.out) rfl ?_
            rw [HRS.out]
            exact HF.out.out HG21.out HG22.out (by first | exact .inl rfl | exact .inr rfl)
          · have q1 : (x.toList == row.toList) = false := by rw [eq_bytes]; exact decide_eq_false hxe
            have HU2 := Lib.hid (okTo_succ HU.out hkl (by rw [HX.out]; exact hxe))
            by_cases hp : posT s.borders row < k
            · have t1 : decide (posT s.borders row < k) = true := decide_eq_true hp
              have t2 : decide (posT s.borders row < k + 1) = true := decide_eq_true (by omega)
              have HL := Lib.hid (outL_in hp hkl)
              rw [HX.out] at HL
              clear hp
              rw [t1]
              go_wp2_with
                (at_builtin; go_loud (refine texts_app rfl _ _ rfl (w.heap.size + 1 + 2) A6 n c6 (n + 1) (outL s.borders row k) [x] rfl (HO.out.below (below_al _ _)) (some ⟨wr.heap.size, 0, none⟩) 1 1 rfl (Rd.madeS wr [x] rfl _ rfl) rfl rfl (by omega) (by rw [World.size_alloc]; have := HM.out.e.lt; omega) ?_); intro A7 c7 w7 HO7 HG7; go_loud (have HM7 := Lib.hid ((HM.out.below (below_al _ (.cells #[.string x] 9))).own HG7.out (fun b e => by have := (Own.lt HO.out _ e).1; omega))))
              rw [HL.out] at HO7
              exact ⟨⟨k + 1, n + 1, c7, A7, rfl, by rw [t2], by first | rfl | go_num, by omega, HM7, HO7, HU2⟩, by simp [intOf]; omega⟩
            · have t1 : decide (posT s.borders row < k) = false := decide_eq_false hp
              rw [t1]
              by_cases hp2 : posT s.borders row ≤ k
              · have g1 := above_at HR.out hkl HX.out hp2
                have t2 : decide (posT s.borders row < k + 1) = true := decide_eq_true (by omega)
                have HL := Lib.hid (outL_at (show posT s.borders row = k by omega) hkl)
                rw [HX.out] at HL
                clear hp hp2
                go_wp2_with (first
                  | (have hgate := HO7; clear hgate; at_builtin; go_loud (refine texts_app rfl _ _ rfl (w.heap.size + 1 + 2) A7 (n + 1) c7 (n + 1 + 1) (outL s.borders row k ++ [row]) [x] rfl (HO7.out.below (below_al _ _)) (some ⟨w7.heap.size, 0, none⟩) 1 1 rfl (Rd.madeS w7 [x] rfl _ rfl) rfl rfl (by omega) (by rw [World.size_alloc]; have := HM7.out.e.lt; omega) ?_); intro A9 c9 w9 HO9 HG9; go_loud (have HM9 := Lib.hid ((HM7.out.below (below_al _ (.cells #[.string x] 9))).own HG9.out (fun b e => by have := (Own.lt HO7.out _ e).1; omega))))
                  | (at_builtin; go_loud (refine texts_app rfl _ _ rfl (w.heap.size + 1 + 2) A6 n c6 (n + 1) (outL s.borders row k) [row] rfl (HO.out.below (below_al _ _)) (some ⟨wr.heap.size, 0, none⟩) 1 1 rfl (Rd.madeS wr [row] rfl _ rfl) rfl rfl (by omega) (by rw [World.size_alloc]; have := HM.out.e.lt; omega) ?_); intro A7 c7 w7 HO7 HG7; go_loud (have HM7 := Lib.hid ((HM.out.below (below_al _ (.cells #[.string row] 9))).own HG7.out (fun b e => by have := (Own.lt HO.out _ e).1; omega))); have d4 := HM7.out.st.cell (j := 2) rfl; rw [HN.out, HA.out] at d4; have c4 := HC.out w7 HM7.out.bl)
                  )
                rw [HL.out] at HO9
                exact ⟨⟨k + 1, n + 1 + 1, c9, A9, rfl, by rw [t2], by first | rfl | go_num, by omega, HM9, HO9, HU2⟩, by simp [intOf]; omega⟩
              · have g1 := below_at (row := row) hkl HX.out (by omega)
                have t2 : decide (posT s.borders row < k + 1) = false := decide_eq_false (by omega)
                have HL := Lib.hid (outL_ahead (row := row) (by omega) hkl)
                rw [HX.out] at HL
                clear hp hp2
                go_wp2_with
                  (at_builtin; go_loud (refine texts_app rfl _ _ rfl (w.heap.size + 1 + 2) A6 n c6 (n + 1) (outL s.borders row k) [x] rfl (HO.out.below (below_al _ _)) (some ⟨wr.heap.size, 0, none⟩) 1 1 rfl (Rd.madeS wr [x] rfl _ rfl) rfl rfl (by omega) (by rw [World.size_alloc]; have := HM.out.e.lt; omega) ?_); intro A7 c7 w7 HO7 HG7; go_loud (have HM7 := Lib.hid ((HM.out.below (below_al _ (.cells #[.string x] 9))).own HG7.out (fun b e => by have := (Own.lt HO.out _ e).1; omega))))
                rw [HL.out] at HO7
                exact ⟨⟨k + 1, n + 1, c7, A7, rfl, by rw [t2], by first | rfl | go_num, by omega, HM7, HO7, HU2⟩, by simp [intOf]; omega⟩
        · have e1 : decide ((k : Int) < (N : Int)) = false := decide_eq_false (by omega)
          have hkN : k = N := by omega
          obtain ⟨s', hs'⟩ : ∃ s', { s with epoch := s.epoch + 1, borders := putAt s.borders (posT s.borders row) row } = s' := ⟨_, rfl⟩
          have HRS := Lib.hid (show splitS s c = (s', ⟨0, false, [], []⟩) by
            rw [HUN.out, hs']
            cases hm : memT s.borders row with
            | false => rfl
            | true => exact absurd rfl (okTo_end HU.out (by rw [HN.out]; omega) row (memT_iff.1 hm)))
          have HS' := Lib.hid hs'
          have c5 := HM.out.st.cell (j := 1) rfl
          clear hs' c5
          by_cases hp : posT s.borders row < k
          · have t1 : decide (posT s.borders row < k) = true := decide_eq_true hp
            have HL := Lib.hid (outL_end hp (by rw [HN.out]; omega))
            rw [HL.out] at HO
            rw [t1]
            clear hp
            have f2 := HM.out.st.free 2
            have c2 := HM.out.st.cell (j := 2) rfl
            have c1 := (HM.out.st.set 2 (.slice A6 n c6)).cell (j := 1) rfl
            have f1 := (HM.out.st.set 2 (.slice A6 n c6)).free 1
            have HF := Lib.hid (split_fin HM.out HIN.out HI.out HO.out HS'.out rfl)
            go_wp2_with (first
              | ((with_reducible show wpList _ _ _ ({ dst := some 71, op := Op.load _ _, type := _, pos := _, after := _, guard := _ } :: _) _ _); go_loud (refine wpList_load_mid rfl 51 (.tmp 2) rfl w.heap.size 0 rfl (Sta.vs s' ⟨A6, c6, xs.D, xs.d, xs.F, xs.f⟩) _ HF.out.st.range Try.underlying51 rfl (by kernel_rfl) ?_))
              | ((with_reducible show wpList _ _ _ ({ dst := none, op := Op.store _ (Operand.tmp 4) _, type := _, pos := _, after := _, guard := _ } :: _) _ _); go_loud (refine wpList_store_mid rfl 51 (.tmp 4) (.tmp 71) rfl (w.heap.size + 1) 0 (Sta.vs s' ⟨A6, c6, xs.D, xs.d, xs.F, xs.f⟩).toArray rfl rfl (HF.out.a.there 5 (Nat.le_refl _)) (by kernel_rfl) (by simp [Value.oneCell', Sta.vs]) ?_); refine HF.out.a.setW (Sta.vs s' ⟨A6, c6, xs.D, xs.d, xs.F, xs.f⟩) rfl ?_; intro w21 HT21 HG21; have HE21 := Lib.hid (HF.out.e.grown HG21.out (fun e => by injection e; omega)))
              | ((with_reducible show wpList _ _ _ ({ dst := none, op := Op.store _ (Operand.tmp 5) _, type := _, pos := _, after := _, guard := _ } :: _) _ _); go_loud (refine wpList_store_mid rfl 56 (.tmp 5) (.tmp 72) rfl ((w.heap.size + 1) + 1) 0 (Eff.vs ⟨0, false, [], []⟩ none 0 none 0).toArray rfl rfl (HE21.out.there 4 (Nat.le_refl _)) (by kernel_rfl) (by simp [Value.oneCell', Eff.vs]) ?_); refine HE21.out.setW (Eff.vs ⟨0, false, [], []⟩ none 0 none 0) rfl ?_; intro w22 HE22 HG22)
              )
            (try simp only [Exit.inBlock, Exit.then])
            refine bodyPost_ret (blk_two rfl Try.underlying51 rfl Try.underlying56 rfl _ _ (w.heap.size + 1) ((w.heap.size + 1) + 1) _ _ (by kernel_rfl) (by kernel_rfl) rfl rfl (HT21.out.grown HG22.out (fun e => by injection e; omega)) HE22.out) rfl ?_
            rw [HRS.out]
            exact HF.out.out HG21.out HG22.out (by first | exact .inl rfl | exact .inr rfl)
          · have t1 : decide (posT s.borders row < k) = false := decide_eq_false hp
            have HL := Lib.hid (outL_last hp (by rw [HN.out]; omega))
            rw [t1]
            clear hp
            go_upto_region 16 with (first
              | (at_builtin; go_loud (refine texts_app rfl _ _ rfl (w.heap.size + 1 + 2) A6 n c6 (n + 1) (outL s.borders row k) [row] rfl (HO.out.below (below_al _ _)) (some ⟨wr.heap.size, 0, none⟩) 1 1 rfl (Rd.madeS wr [row] rfl _ rfl) rfl rfl (by omega) (by rw [World.size_alloc]; have := HM.out.e.lt; omega) ?_); intro A7 c7 w7 HO7 HG7; go_loud (have HM7 := Lib.hid ((HM.out.below (below_al _ (.cells #[.string row] 9))).own HG7.out (fun b e => by have := (Own.lt HO.out _ e).1; omega))); skip)
              )
            rw [HL.out] at HO7
            clear HM HO d3
            have HM := HM7
            have HO := HO7
            clear HM7 HO7
            have f2 := HM.out.st.free 2
            have c2 := HM.out.st.cell (j := 2) rfl
            have c1 := (HM.out.st.set 2 (.slice A7 (n + 1) c7)).cell (j := 1) rfl
            have f1 := (HM.out.st.set 2 (.slice A7 (n + 1) c7)).free 1
            have HF := Lib.hid (split_fin HM.out HIN.out HI.out HO.out HS'.out rfl)
            go_wp2_with (first
              | ((with_reducible show wpList _ _ _ ({ dst := some 71, op := Op.load _ _, type := _, pos := _, after := _, guard := _ } :: _) _ _); go_loud (refine wpList_load_mid rfl 51 (.tmp 2) rfl w.heap.size 0 rfl (Sta.vs s' ⟨A7, c7, xs.D, xs.d, xs.F, xs.f⟩) _ HF.out.st.range Try.underlying51 rfl (by kernel_rfl) ?_))
              | ((with_reducible show wpList _ _ _ ({ dst := none, op := Op.store _ (Operand.tmp 4) _, type := _, pos := _, after := _, guard := _ } :: _) _ _); go_loud (refine wpList_store_mid rfl 51 (.tmp 4) (.tmp 71) rfl (w.heap.size + 1) 0 (Sta.vs s' ⟨A7, c7, xs.D, xs.d, xs.F, xs.f⟩).toArray rfl rfl (HF.out.a.there 5 (Nat.le_refl _)) (by kernel_rfl) (by simp [Value.oneCell', Sta.vs]) ?_); refine HF.out.a.setW (Sta.vs s' ⟨A7, c7, xs.D, xs.d, xs.F, xs.f⟩) rfl ?_; intro w21 HT21 HG21; have HE21 := Lib.hid (HF.out.e.grown HG21.out (fun e => by injection e; omega)))
              | ((with_reducible show wpList _ _ _ ({ dst := none, op := Op.store _ (Operand.tmp 5) _, type := _, pos := _, after := _, guard := _ } :: _) _ _); go_loud (refine wpList_store_mid rfl 56 (.tmp 5) (.tmp 72) rfl ((w.heap.size + 1) + 1) 0 (Eff.vs ⟨0, false, [], []⟩ none 0 none 0).toArray rfl rfl (HE21.out.there 4 (Nat.le_refl _)) (by kernel_rfl) (by simp [Value.oneCell', Eff.vs]) ?_); refine HE21.out.setW (Eff.vs ⟨0, false, [], []⟩ none 0 none 0) rfl ?_; intro w22 HE22 HG22)
              )
            (try simp only [Exit.inBlock, Exit.then])
            refine bodyPost_ret (blk_two rfl Try.underlying51 rfl Try.underlying56 rfl _ _ (w.heap.size + 1) ((w.heap.size + 1) + 1) _ _ (by kernel_rfl) (by kernel_rfl) rfl rfl (HT21.out.grown HG22.out (fun e => by injection e; omega)) HE22.out) rfl ?_
            rw [HRS.out]
            exact HF.out.out HG21.out HG22.out (by first | exact .inl rfl | exact .inr rfl)
end Go.Proofs.Ytiiogdgnccgehaa
