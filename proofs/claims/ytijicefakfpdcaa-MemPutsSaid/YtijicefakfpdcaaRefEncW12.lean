/-
  The walk of the reference's Encode: the walk itself.
-/
import Derived.Test.YtijicefakfpdcaaRefEnc12
namespace Go.Proofs.Ytijicefakfpdcaa
open Go.RowKit
attribute [local go_sem ↓] Go.wp_at_zero Go.wp_at_succ

def depsB (ops : Array Oper) : Bool := (List.range ops.size).all fun j => match ops[j]? with | some o => o.after.all fun e => decide (e.on < j) | none => true
theorem ready_all {md : Region.Mode} {ops : Array Oper} {L : Array Bool} (hr : Region.ready md ops L = []) (hs : L.size = ops.size) (hd : depsB ops = true) : ∀ j, j < ops.size → L.getD j false = true := by
  intro j
  induction j using Nat.strongRecOn with
  | ind j ih =>
    intro hj
    cases h : L.getD j false with
    | true => rfl
    | false =>
      have hm : j ∈ Region.ready md ops L := by
        refine mem_ready.2 ⟨?_, ops[j], Array.getElem?_eq_getElem hj, fun e he _ => ?_⟩
        · have hj' : j < L.size := by omega
          simp [hj'] at h ⊢
          exact h
        · have h1 := (List.all_eq_true.1 hd) j (List.mem_range.2 hj)
          rw [Array.getElem?_eq_getElem hj] at h1
          have h2 := Array.all_eq_true_iff_forall_mem.1 h1 e he
          have h3 := of_decide_eq_true h2
          exact ih e.on h3 (by omega)
      rw [hr] at hm
      cases hm
theorem EncInv.of {w0 : World} {c : Cl} {g : Nat} {dl : Int} {L : Array Bool} (a : Act) {w : World} (h : a = act48 (fun k => a.tmps.getD k undef)) (hI : EncI w0 c g dl L (fun k => a.tmps.getD k undef) w) : EncInv w0 c g dl L a w := ⟨_, h, hI⟩
theorem no_done {n j : Nat} (h : (Array.replicate n false).getD j false = true) : False := by
  rcases Nat.lt_or_ge j n with h1 | h1
  · simp [h1] at h
  · simp [h1] at h

set_option maxRecDepth 100000 in
set_option maxHeartbeats 20000000 in
theorem refEncode_ok (c : Cl) (w : World) (hm : may c = true) :
    Calls Try.prog 27 #[c.agg] w fun e w' => ∃ s : ByteArray, e = .returned (.tuple #[.string s, .int .i64 0]) ∧ s.size = encLen c ∧ Below w.heap.size w w' := by
  obtain ⟨i0, hi0, hz0, hz1, hz2⟩ := info_parts byteInfo
  have hsz : c.row.size ≤ 40 ∧ c.col.size ≤ 40 ∧ c.val.size ≤ 100 := by
    simp only [may, Bool.and_eq_true, decide_eq_true_eq] at hm
    omega
  have hX := CBox.new w c
  obtain ⟨W0, hW0⟩ : ∃ W0, w.alloc (.cells #[.string c.row, .string c.col, .int .u64 c.ts, .int .u64 c.seq, .bool c.del, .string c.val] 31) = W0 := ⟨_, rfl⟩
  rw [hW0] at hX
  have hB0 : Below w.heap.size w W0 := by rw [← hW0]; exact (Below.refl _ w).alloc (Nat.le_refl _) _
  obtain ⟨x0, x1, x2, x3, x4, x5⟩ := hX.cells
  have HX := Lib.hid hX
  have HB0 := Lib.hid hB0
  have HM := Lib.hid hm
  obtain ⟨e1, e2, e3⟩ := hsz
  clear hX hB0 hm
  unfold Cl.agg
  go_enter Try.func27, Try.ntmps27
  have hmay := fun W => refMay_any c W
  unfold Cl.agg at hmay
  cases hdl : c.del with
  | true =>
    simp only [hdl] at hmay
    rw [hdl] at x4 hW0
    have HMAY := Lib.hid hmay
    clear hmay
    go_wp2_with (go_at_call 21; refine (HMAY.out _).mono ?_; rintro e w2 ⟨rfl, hb2⟩; simp only [HM.out]; have HX2 := Lib.hid (HX.out.below hb2 HX.out.lt); have HB2 := Lib.hid (HB0.out.trans (hb2.mono HB0.out.size)); clear hb2 x0 x1 x2 x3 x4 x5; have x4 := HX2.out.cells.2.2.2.2.1; rw [hdl] at x4)
    clear x4
    refine region_inv (by kernel_rfl) (EncInv w2 c w.heap.size 1) ?h0 ?hstep ?hend
    case h0 => exact EncInv.of _ rfl ⟨by simp, (Below.refl _ _).drew, rfl, rfl, fun j hj h => (no_done h).elim, fun h => (no_done h).elim, fun h => (no_done h).elim⟩
    case hstep =>
      rintro L _ w ⟨u, rfl, hI⟩ i hi
      obtain ⟨hj, o, ho, hall⟩ := mem_ready.1 hi
      have hlt : i < 40 := (Array.getElem?_eq_some_iff.1 ho).1
      have HI := Lib.hid hI
      have u1 := hI.u1
      have u4 := hI.u4
      have hV := hI.v
      obtain ⟨q0, q1, q2, q3, q4, q5⟩ := (HX2.out.below hI.b HX2.out.lt).cells
      clear hI hi hj
      match i, ho with
      | 0, ho =>
        obtain rfl : _ = o := Option.some.inj ho
        refine wpOp_of_list (i := 0) rfl ?_
        clear hV hall
        go_wp2
        exact HI.out.step2 0 (by omega) _ _ rfl (Below.refl _ _) rfl (by simp [upd, u1, u4])
      | 1, ho =>
        obtain rfl : _ = o := Option.some.inj ho
        have h0 := hV 0 (by omega) (hall { on := 0, ground := .data } (by simp) rfl)
        have h0 : u 10 = _ := h0
        refine wpOp_of_list (i := 1) rfl ?_
        clear hV hall
        go_wp2
        exact HI.out.step2 1 (by omega) _ _ rfl (Below.refl _ _) rfl (by simp [upd, u1, u4, h0])
      | 2, ho =>
        obtain rfl : _ = o := Option.some.inj ho
        have h1 := hV 1 (by omega) (hall { on := 1, ground := .data } (by simp) rfl)
        have h1 : u 11 = _ := h1
        refine wpOp_of_list (i := 2) rfl ?_
        clear hV hall
        go_wp2
        exact HI.out.step2 2 (by omega) _ _ rfl (Below.refl _ _) rfl (by simp [upd, u1, u4, h1])
      | 3, ho =>
        obtain rfl : _ = o := Option.some.inj ho
        have h2 := hV 2 (by omega) (hall { on := 2, ground := .data } (by simp) rfl)
        have h2 : u 12 = _ := h2
        refine wpOp_of_list (i := 3) rfl ?_
        clear hV hall
        go_wp2
        exact HI.out.step2 3 (by omega) _ _ rfl (Below.refl _ _) (show VI _ from ⟨_, rfl⟩) (by simp [upd, u1, u4, h2])
      | 4, ho =>
        obtain rfl : _ = o := Option.some.inj ho
        have h3 := hV 3 (by omega) (hall { on := 3, ground := .data } (by simp) rfl)
        obtain ⟨z3, h3⟩ := h3
        have h3 : u 13 = .int .u8 z3 := h3
        refine wpOp_of_list (i := 4) rfl ?_
        clear hV hall
        go_wp2
        exact HI.out.step2 4 (by omega) _ _ rfl ((Below.refl _ _).alloc (Nat.le_refl _) _) (show VL 1 _ _ from ⟨w.heap.size, [z3], rfl, heap_alloc_new w _, rfl⟩) (by simp [upd, u1, u4, h3])
      | 5, ho =>
        obtain rfl : _ = o := Option.some.inj ho
        have h4 := hV 4 (by omega) (hall { on := 4, ground := .data } (by simp) rfl)
        obtain ⟨b4, ns4, h4, hB4, hl4⟩ := h4
        have h4 : u 14 = .slice (some ⟨b4, 0, none⟩) _ _ := h4
        refine wpOp_of_list (i := 5) rfl ?_
        obtain ⟨str, hst, hstr⟩ := run_str (hB4.byt (by omega)) (by omega)
        rw [hl4] at hst hstr
        have HST := Lib.hid hst
        clear hst hV hall
        go_wp2
        exact HI.out.step2 5 (by omega) _ _ rfl (Below.refl _ _) (show VS 1 _ from ⟨str, rfl, HST.out⟩) (by simp [upd, u1, u4, h4])
      | 6, ho =>
        obtain rfl : _ = o := Option.some.inj ho
        refine wpOp_of_list (i := 6) rfl ?_
        clear hV hall
        go_wp2
        exact HI.out.step2 6 (by omega) _ _ rfl (Below.refl _ _) rfl (by simp [upd, u1, u4])
      | 7, ho =>
        obtain rfl : _ = o := Option.some.inj ho
        have h6 := hV 6 (by omega) (hall { on := 6, ground := .data } (by simp) rfl)
        have h6 : u 16 = _ := h6
        refine wpOp_of_list (i := 7) rfl ?_
        clear hV hall
        go_wp2
        exact HI.out.step2 7 (by omega) _ _ rfl (Below.refl _ _) rfl (by simp [upd, u1, u4, h6])
      | 8, ho =>
        obtain rfl : _ = o := Option.some.inj ho
        have h5 := hV 5 (by omega) (hall { on := 5, ground := .data } (by simp) rfl)
        obtain ⟨s5, h5, hs5⟩ := h5
        have h5 : u 15 = .string s5 := h5
        have h7 := hV 7 (by omega) (hall { on := 7, ground := .data } (by simp) rfl)
        have h7 : u 17 = _ := h7
        refine wpOp_of_list (i := 8) rfl ?_
        have hadd : ∀ W, (Op.stringOp .add s5 (c.row)).run Try.prog W = .ok (.string (s5 ++ c.row)) W := fun W => run_string_add_sum W _ _ (by omega)
        have HSZ : Hid ((s5 ++ c.row).size = s5.size + (c.row).size) := Lib.hid (ByteArray.size_append' _ _)
        clear hV hall
        go_wp2
        exact HI.out.step2 8 (by omega) _ _ rfl (Below.refl _ _) (show VS (1 + c.row.size) _ from ⟨_, rfl, by rw [HSZ.out]; omega⟩) (by simp [upd, u1, u4, h5, h7])
      | 9, ho =>
        obtain rfl : _ = o := Option.some.inj ho
        refine wpOp_of_list (i := 9) rfl ?_
        clear hV hall
        go_wp2
        exact HI.out.step2 9 (by omega) _ _ rfl (Below.refl _ _) rfl (by simp [upd, u1, u4])
      | 10, ho =>
        obtain rfl : _ = o := Option.some.inj ho
        have h9 := hV 9 (by omega) (hall { on := 9, ground := .data } (by simp) rfl)
        have h9 : u 19 = _ := h9
        refine wpOp_of_list (i := 10) rfl ?_
        clear hV hall
        go_wp2
        exact HI.out.step2 10 (by omega) _ _ rfl (Below.refl _ _) rfl (by simp [upd, u1, u4, h9])
      | 11, ho =>
        obtain rfl : _ = o := Option.some.inj ho
        have h10 := hV 10 (by omega) (hall { on := 10, ground := .data } (by simp) rfl)
        have h10 : u 20 = _ := h10
        refine wpOp_of_list (i := 11) rfl ?_
        clear hV hall
        go_wp2
        exact HI.out.step2 11 (by omega) _ _ rfl (Below.refl _ _) rfl (by simp [upd, u1, u4, h10])
      | 12, ho =>
        obtain rfl : _ = o := Option.some.inj ho
        have h11 := hV 11 (by omega) (hall { on := 11, ground := .data } (by simp) rfl)
        have h11 : u 21 = _ := h11
        refine wpOp_of_list (i := 12) rfl ?_
        clear hV hall
        go_wp2
        exact HI.out.step2 12 (by omega) _ _ rfl (Below.refl _ _) (show VI _ from ⟨_, rfl⟩) (by simp [upd, u1, u4, h11])
      | 13, ho =>
        obtain rfl : _ = o := Option.some.inj ho
        have h12 := hV 12 (by omega) (hall { on := 12, ground := .data } (by simp) rfl)
        obtain ⟨z12, h12⟩ := h12
        have h12 : u 22 = .int .u8 z12 := h12
        refine wpOp_of_list (i := 13) rfl ?_
        clear hV hall
        go_wp2
        exact HI.out.step2 13 (by omega) _ _ rfl ((Below.refl _ _).alloc (Nat.le_refl _) _) (show VL 1 _ _ from ⟨w.heap.size, [z12], rfl, heap_alloc_new w _, rfl⟩) (by simp [upd, u1, u4, h12])
      | 14, ho =>
        obtain rfl : _ = o := Option.some.inj ho
        have h13 := hV 13 (by omega) (hall { on := 13, ground := .data } (by simp) rfl)
        obtain ⟨b13, ns13, h13, hB13, hl13⟩ := h13
        have h13 : u 23 = .slice (some ⟨b13, 0, none⟩) _ _ := h13
        refine wpOp_of_list (i := 14) rfl ?_
        obtain ⟨str, hst, hstr⟩ := run_str (hB13.byt (by omega)) (by omega)
        rw [hl13] at hst hstr
        have HST := Lib.hid hst
        clear hst hV hall
        go_wp2
        exact HI.out.step2 14 (by omega) _ _ rfl (Below.refl _ _) (show VS 1 _ from ⟨str, rfl, HST.out⟩) (by simp [upd, u1, u4, h13])
      | 15, ho =>
        obtain rfl : _ = o := Option.some.inj ho
        have h8 := hV 8 (by omega) (hall { on := 8, ground := .data } (by simp) rfl)
        obtain ⟨s8, h8, hs8⟩ := h8
        have h8 : u 18 = .string s8 := h8
        have h14 := hV 14 (by omega) (hall { on := 14, ground := .data } (by simp) rfl)
        obtain ⟨s14, h14, hs14⟩ := h14
        have h14 : u 24 = .string s14 := h14
        refine wpOp_of_list (i := 15) rfl ?_
        have hadd : ∀ W, (Op.stringOp .add s8 (s14)).run Try.prog W = .ok (.string (s8 ++ s14)) W := fun W => run_string_add_sum W _ _ (by omega)
        have HSZ : Hid ((s8 ++ s14).size = s8.size + (s14).size) := Lib.hid (ByteArray.size_append' _ _)
        clear hV hall
        go_wp2
        exact HI.out.step2 15 (by omega) _ _ rfl (Below.refl _ _) (show VS (2 + c.row.size) _ from ⟨_, rfl, by rw [HSZ.out]; omega⟩) (by simp [upd, u1, u4, h14, h8])
      | 16, ho =>
        obtain rfl : _ = o := Option.some.inj ho
        refine wpOp_of_list (i := 16) rfl ?_
        clear hV hall
        go_wp2
        exact HI.out.step2 16 (by omega) _ _ rfl (Below.refl _ _) rfl (by simp [upd, u1, u4])
      | 17, ho =>
        obtain rfl : _ = o := Option.some.inj ho
        have h16 := hV 16 (by omega) (hall { on := 16, ground := .data } (by simp) rfl)
        have h16 : u 26 = _ := h16
        refine wpOp_of_list (i := 17) rfl ?_
        clear hV hall
        go_wp2
        exact HI.out.step2 17 (by omega) _ _ rfl (Below.refl _ _) rfl (by simp [upd, u1, u4, h16])
      | 18, ho =>
        obtain rfl : _ = o := Option.some.inj ho
        have h15 := hV 15 (by omega) (hall { on := 15, ground := .data } (by simp) rfl)
        obtain ⟨s15, h15, hs15⟩ := h15
        have h15 : u 25 = .string s15 := h15
        have h17 := hV 17 (by omega) (hall { on := 17, ground := .data } (by simp) rfl)
        have h17 : u 27 = _ := h17
        refine wpOp_of_list (i := 18) rfl ?_
        have hadd : ∀ W, (Op.stringOp .add s15 (c.col)).run Try.prog W = .ok (.string (s15 ++ c.col)) W := fun W => run_string_add_sum W _ _ (by omega)
        have HSZ : Hid ((s15 ++ c.col).size = s15.size + (c.col).size) := Lib.hid (ByteArray.size_append' _ _)
        clear hV hall
        go_wp2
        exact HI.out.step2 18 (by omega) _ _ rfl (Below.refl _ _) (show VS (2 + c.row.size + c.col.size) _ from ⟨_, rfl, by rw [HSZ.out]; omega⟩) (by simp [upd, u1, u4, h15, h17])
      | 19, ho =>
        obtain rfl : _ = o := Option.some.inj ho
        refine wpOp_of_list (i := 19) rfl ?_
        clear hV hall
        go_wp2
        exact HI.out.step2 19 (by omega) _ _ rfl (Below.refl _ _) rfl (by simp [upd, u1, u4])
      | 20, ho =>
        obtain rfl : _ = o := Option.some.inj ho
        have h19 := hV 19 (by omega) (hall { on := 19, ground := .data } (by simp) rfl)
        have h19 : u 29 = _ := h19
        refine wpOp_of_list (i := 20) rfl ?_
        clear hV hall
        go_wp2
        exact HI.out.step2 20 (by omega) _ _ rfl (Below.refl _ _) rfl (by simp [upd, u1, u4, h19])
      | 21, ho =>
        obtain rfl : _ = o := Option.some.inj ho
        have h20 := hV 20 (by omega) (hall { on := 20, ground := .data } (by simp) rfl)
        have h20 : u 30 = _ := h20
        refine wpOp_of_list (i := 21) rfl ?_
        clear hV hall
        go_wp2_with (go_at_call 37; refine (number_any _ _).mono ?_; rintro e w2 ⟨str, rfl, hst, hb2⟩; have H2 := Lib.hid (And.intro hst hb2); clear hst hb2)
        exact HI.out.step2 21 (by omega) _ _ rfl H2.out.2 (show VS 8 _ from ⟨str, rfl, H2.out.1⟩) (by simp [upd, u1, u4, h20])
      | 22, ho =>
        obtain rfl : _ = o := Option.some.inj ho
        have h18 := hV 18 (by omega) (hall { on := 18, ground := .data } (by simp) rfl)
        obtain ⟨s18, h18, hs18⟩ := h18
        have h18 : u 28 = .string s18 := h18
        have h21 := hV 21 (by omega) (hall { on := 21, ground := .data } (by simp) rfl)
        obtain ⟨s21, h21, hs21⟩ := h21
        have h21 : u 31 = .string s21 := h21
        refine wpOp_of_list (i := 22) rfl ?_
        have hadd : ∀ W, (Op.stringOp .add s18 (s21)).run Try.prog W = .ok (.string (s18 ++ s21)) W := fun W => run_string_add_sum W _ _ (by omega)
        have HSZ : Hid ((s18 ++ s21).size = s18.size + (s21).size) := Lib.hid (ByteArray.size_append' _ _)
        clear hV hall
        go_wp2
        exact HI.out.step2 22 (by omega) _ _ rfl (Below.refl _ _) (show VS (10 + c.row.size + c.col.size) _ from ⟨_, rfl, by rw [HSZ.out]; omega⟩) (by simp [upd, u1, u4, h18, h21])
      | 23, ho =>
        obtain rfl : _ = o := Option.some.inj ho
        refine wpOp_of_list (i := 23) rfl ?_
        clear hV hall
        go_wp2
        exact HI.out.step2 23 (by omega) _ _ rfl (Below.refl _ _) rfl (by simp [upd, u1, u4])
      | 24, ho =>
        obtain rfl : _ = o := Option.some.inj ho
        have h23 := hV 23 (by omega) (hall { on := 23, ground := .data } (by simp) rfl)
        have h23 : u 33 = _ := h23
        refine wpOp_of_list (i := 24) rfl ?_
        clear hV hall
        go_wp2
        exact HI.out.step2 24 (by omega) _ _ rfl (Below.refl _ _) rfl (by simp [upd, u1, u4, h23])
      | 25, ho =>
        obtain rfl : _ = o := Option.some.inj ho
        have h24 := hV 24 (by omega) (hall { on := 24, ground := .data } (by simp) rfl)
        have h24 : u 34 = _ := h24
        refine wpOp_of_list (i := 25) rfl ?_
        clear hV hall
        go_wp2_with (go_at_call 37; refine (number_any _ _).mono ?_; rintro e w2 ⟨str, rfl, hst, hb2⟩; have H2 := Lib.hid (And.intro hst hb2); clear hst hb2)
        exact HI.out.step2 25 (by omega) _ _ rfl H2.out.2 (show VS 8 _ from ⟨str, rfl, H2.out.1⟩) (by simp [upd, u1, u4, h24])
      | 26, ho =>
        obtain rfl : _ = o := Option.some.inj ho
        have h22 := hV 22 (by omega) (hall { on := 22, ground := .data } (by simp) rfl)
        obtain ⟨s22, h22, hs22⟩ := h22
        have h22 : u 32 = .string s22 := h22
        have h25 := hV 25 (by omega) (hall { on := 25, ground := .data } (by simp) rfl)
        obtain ⟨s25, h25, hs25⟩ := h25
        have h25 : u 35 = .string s25 := h25
        refine wpOp_of_list (i := 26) rfl ?_
        have hadd : ∀ W, (Op.stringOp .add s22 (s25)).run Try.prog W = .ok (.string (s22 ++ s25)) W := fun W => run_string_add_sum W _ _ (by omega)
        have HSZ : Hid ((s22 ++ s25).size = s22.size + (s25).size) := Lib.hid (ByteArray.size_append' _ _)
        clear hV hall
        go_wp2
        exact HI.out.step2 26 (by omega) _ _ rfl (Below.refl _ _) (show VS (18 + c.row.size + c.col.size) _ from ⟨_, rfl, by rw [HSZ.out]; omega⟩) (by simp [upd, u1, u4, h22, h25])
      | 27, ho =>
        obtain rfl : _ = o := Option.some.inj ho
        refine wpOp_of_list (i := 27) rfl ?_
        clear hV hall
        go_wp2
        exact HI.out.step2 27 (by omega) _ _ rfl (Below.refl _ _) (show VI _ from ⟨_, rfl⟩) (by simp [upd, u1, u4])
      | 28, ho =>
        obtain rfl : _ = o := Option.some.inj ho
        refine wpOp_of_list (i := 28) rfl ?_
        clear hV hall
        go_wp2
        exact HI.out.step2 28 (by omega) _ _ rfl (Below.refl _ _) rfl (by simp [upd, u1, u4])
      | 29, ho =>
        obtain rfl : _ = o := Option.some.inj ho
        have h28 := hV 28 (by omega) (hall { on := 28, ground := .data } (by simp) rfl)
        have h28 : u 38 = _ := h28
        refine wpOp_of_list (i := 29) rfl ?_
        clear hV hall
        go_wp2
        exact HI.out.step2 29 (by omega) _ _ rfl (Below.refl _ _) rfl (by simp [upd, u1, u4, h28])
      | 30, ho =>
        obtain rfl : _ = o := Option.some.inj ho
        have h29 := hV 29 (by omega) (hall { on := 29, ground := .data } (by simp) rfl)
        have h29 : u 39 = _ := h29
        refine wpOp_of_list (i := 30) rfl ?_
        clear hV hall
        go_wp2
        exact HI.out.step2 30 (by omega) _ _ rfl (Below.refl _ _) rfl (by simp [upd, u1, u4, h29])
      | 31, ho =>
        obtain rfl : _ = o := Option.some.inj ho
        have h30 := hV 30 (by omega) (hall { on := 30, ground := .data } (by simp) rfl)
        have h30 : u 40 = _ := h30
        refine wpOp_of_list (i := 31) rfl ?_
        clear hV hall
        go_wp2
        exact HI.out.step2 31 (by omega) _ _ rfl (Below.refl _ _) (show VI _ from ⟨_, rfl⟩) (by simp [upd, u1, u4, h30])
      | 32, ho =>
        obtain rfl : _ = o := Option.some.inj ho
        have h27 := hV 27 (by omega) (hall { on := 27, ground := .data } (by simp) rfl)
        obtain ⟨z27, h27⟩ := h27
        have h27 : u 37 = .int .u8 z27 := h27
        have h31 := hV 31 (by omega) (hall { on := 31, ground := .data } (by simp) rfl)
        obtain ⟨z31, h31⟩ := h31
        have h31 : u 41 = .int .u8 z31 := h31
        refine wpOp_of_list (i := 32) rfl ?_
        clear hV hall
        go_wp2
        exact HI.out.step2 32 (by omega) _ _ rfl ((Below.refl _ _).alloc (Nat.le_refl _) _) (show VL 2 _ _ from ⟨w.heap.size, [z27, z31], rfl, heap_alloc_new w _, rfl⟩) (by simp [upd, u1, u4, h27, h31])
      | 33, ho =>
        obtain rfl : _ = o := Option.some.inj ho
        have h32 := hV 32 (by omega) (hall { on := 32, ground := .data } (by simp) rfl)
        obtain ⟨b32, ns32, h32, hB32, hl32⟩ := h32
        have h32 : u 42 = .slice (some ⟨b32, 0, none⟩) _ _ := h32
        refine wpOp_of_list (i := 33) rfl ?_
        obtain ⟨str, hst, hstr⟩ := run_str (hB32.byt (by omega)) (by omega)
        rw [hl32] at hst hstr
        have HST := Lib.hid hst
        clear hst hV hall
        go_wp2
        exact HI.out.step2 33 (by omega) _ _ rfl (Below.refl _ _) (show VS 2 _ from ⟨str, rfl, HST.out⟩) (by simp [upd, u1, u4, h32])
      | 34, ho =>
        obtain rfl : _ = o := Option.some.inj ho
        have h26 := hV 26 (by omega) (hall { on := 26, ground := .data } (by simp) rfl)
        obtain ⟨s26, h26, hs26⟩ := h26
        have h26 : u 36 = .string s26 := h26
        have h33 := hV 33 (by omega) (hall { on := 33, ground := .data } (by simp) rfl)
        obtain ⟨s33, h33, hs33⟩ := h33
        have h33 : u 43 = .string s33 := h33
        refine wpOp_of_list (i := 34) rfl ?_
        have hadd : ∀ W, (Op.stringOp .add s26 (s33)).run Try.prog W = .ok (.string (s26 ++ s33)) W := fun W => run_string_add_sum W _ _ (by omega)
        have HSZ : Hid ((s26 ++ s33).size = s26.size + (s33).size) := Lib.hid (ByteArray.size_append' _ _)
        clear hV hall
        go_wp2
        exact HI.out.step2 34 (by omega) _ _ rfl (Below.refl _ _) (show VS (20 + c.row.size + c.col.size) _ from ⟨_, rfl, by rw [HSZ.out]; omega⟩) (by simp [upd, u1, u4, h26, h33])
      | 35, ho =>
        obtain rfl : _ = o := Option.some.inj ho
        refine wpOp_of_list (i := 35) rfl ?_
        clear hV hall
        go_wp2
        exact HI.out.step2 35 (by omega) _ _ rfl (Below.refl _ _) rfl (by simp [upd, u1, u4])
      | 36, ho =>
        obtain rfl : _ = o := Option.some.inj ho
        have h35 := hV 35 (by omega) (hall { on := 35, ground := .data } (by simp) rfl)
        have h35 : u 45 = _ := h35
        refine wpOp_of_list (i := 36) rfl ?_
        clear hV hall
        go_wp2
        exact HI.out.step2 36 (by omega) _ _ rfl (Below.refl _ _) rfl (by simp [upd, u1, u4, h35])
      | 37, ho =>
        obtain rfl : _ = o := Option.some.inj ho
        have h34 := hV 34 (by omega) (hall { on := 34, ground := .data } (by simp) rfl)
        obtain ⟨s34, h34, hs34⟩ := h34
        have h34 : u 44 = .string s34 := h34
        have h36 := hV 36 (by omega) (hall { on := 36, ground := .data } (by simp) rfl)
        have h36 : u 46 = _ := h36
        refine wpOp_of_list (i := 37) rfl ?_
        have hadd : ∀ W, (Op.stringOp .add s34 (c.val)).run Try.prog W = .ok (.string (s34 ++ c.val)) W := fun W => run_string_add_sum W _ _ (by omega)
        have HSZ : Hid ((s34 ++ c.val).size = s34.size + (c.val).size) := Lib.hid (ByteArray.size_append' _ _)
        clear hV hall
        go_wp2
        exact HI.out.step2 37 (by omega) _ _ rfl (Below.refl _ _) (show VS (20 + c.row.size + c.col.size + c.val.size) _ from ⟨_, rfl, by rw [HSZ.out]; omega⟩) (by simp [upd, u1, u4, h34, h36])
      | 38, ho =>
        obtain rfl : _ = o := Option.some.inj ho
        have h37 := hV 37 (by omega) (hall { on := 37, ground := .data } (by simp) rfl)
        obtain ⟨s37, h37, hs37⟩ := h37
        have h37 : u 47 = .string s37 := h37
        refine wpOp_of_list (i := 38) rfl ?_
        clear hV hall
        go_wp2
        exact HI.out.last1' _ _ rfl ⟨s37, rfl, hs37⟩ (by simp [upd, u1, u4, h37])
      | 39, ho =>
        obtain rfl : _ = o := Option.some.inj ho
        refine wpOp_of_list (i := 39) rfl ?_
        clear hV hall
        go_wp2
        exact HI.out.last2' _ (by simp [upd, u1, u4])
      | k + 40, ho => exact absurd hlt (by omega)
    case hend =>
      rintro L _ w7 ⟨u, rfl, hI⟩ hr
      have hall := ready_all hr (by rw [hI.sz]; rfl) (by kernel_rfl)
      obtain ⟨s, hs1, hs2⟩ := hI.r2 (hall 38 (by simp))
      have h3 := hI.r3 (hall 39 (by simp))
      have HB := Lib.hid (HB2.out.trans (hI.b.mono HB2.out.size))
      have HSZ := Lib.hid hs2
      clear hall hI hr hs2
      go_wp2
      go_ret2
      exact ⟨s, by simp [hs1, h3], HSZ.out, HB.out⟩
  | false =>
    simp only [hdl] at hmay
    rw [hdl] at x4 hW0
    have HMAY := Lib.hid hmay
    clear hmay
    go_wp2_with (go_at_call 21; refine (HMAY.out _).mono ?_; rintro e w2 ⟨rfl, hb2⟩; simp only [HM.out]; have HX2 := Lib.hid (HX.out.below hb2 HX.out.lt); have HB2 := Lib.hid (HB0.out.trans (hb2.mono HB0.out.size)); clear hb2 x0 x1 x2 x3 x4 x5; have x4 := HX2.out.cells.2.2.2.2.1; rw [hdl] at x4)
    clear x4
    refine region_inv (by kernel_rfl) (EncInv w2 c w.heap.size 0) ?h0 ?hstep ?hend
    case h0 => exact EncInv.of _ rfl ⟨by simp, (Below.refl _ _).drew, rfl, rfl, fun j hj h => (no_done h).elim, fun h => (no_done h).elim, fun h => (no_done h).elim⟩
    case hstep =>
      rintro L _ w ⟨u, rfl, hI⟩ i hi
      obtain ⟨hj, o, ho, hall⟩ := mem_ready.1 hi
      have hlt : i < 40 := (Array.getElem?_eq_some_iff.1 ho).1
      have HI := Lib.hid hI
      have u1 := hI.u1
      have u4 := hI.u4
      have hV := hI.v
      obtain ⟨q0, q1, q2, q3, q4, q5⟩ := (HX2.out.below hI.b HX2.out.lt).cells
      clear hI hi hj
      match i, ho with
      | 0, ho =>
        obtain rfl : _ = o := Option.some.inj ho
        refine wpOp_of_list (i := 0) rfl ?_
        clear hV hall
        go_wp2
        exact HI.out.step2 0 (by omega) _ _ rfl (Below.refl _ _) rfl (by simp [upd, u1, u4])
      | 1, ho =>
        obtain rfl : _ = o := Option.some.inj ho
        have h0 := hV 0 (by omega) (hall { on := 0, ground := .data } (by simp) rfl)
        have h0 : u 10 = _ := h0
        refine wpOp_of_list (i := 1) rfl ?_
        clear hV hall
        go_wp2
        exact HI.out.step2 1 (by omega) _ _ rfl (Below.refl _ _) rfl (by simp [upd, u1, u4, h0])
      | 2, ho =>
        obtain rfl : _ = o := Option.some.inj ho
        have h1 := hV 1 (by omega) (hall { on := 1, ground := .data } (by simp) rfl)
        have h1 : u 11 = _ := h1
        refine wpOp_of_list (i := 2) rfl ?_
        clear hV hall
        go_wp2
        exact HI.out.step2 2 (by omega) _ _ rfl (Below.refl _ _) rfl (by simp [upd, u1, u4, h1])
      | 3, ho =>
        obtain rfl : _ = o := Option.some.inj ho
        have h2 := hV 2 (by omega) (hall { on := 2, ground := .data } (by simp) rfl)
        have h2 : u 12 = _ := h2
        refine wpOp_of_list (i := 3) rfl ?_
        clear hV hall
        go_wp2
        exact HI.out.step2 3 (by omega) _ _ rfl (Below.refl _ _) (show VI _ from ⟨_, rfl⟩) (by simp [upd, u1, u4, h2])
      | 4, ho =>
        obtain rfl : _ = o := Option.some.inj ho
        have h3 := hV 3 (by omega) (hall { on := 3, ground := .data } (by simp) rfl)
        obtain ⟨z3, h3⟩ := h3
        have h3 : u 13 = .int .u8 z3 := h3
        refine wpOp_of_list (i := 4) rfl ?_
        clear hV hall
        go_wp2
        exact HI.out.step2 4 (by omega) _ _ rfl ((Below.refl _ _).alloc (Nat.le_refl _) _) (show VL 1 _ _ from ⟨w.heap.size, [z3], rfl, heap_alloc_new w _, rfl⟩) (by simp [upd, u1, u4, h3])
      | 5, ho =>
        obtain rfl : _ = o := Option.some.inj ho
        have h4 := hV 4 (by omega) (hall { on := 4, ground := .data } (by simp) rfl)
        obtain ⟨b4, ns4, h4, hB4, hl4⟩ := h4
        have h4 : u 14 = .slice (some ⟨b4, 0, none⟩) _ _ := h4
        refine wpOp_of_list (i := 5) rfl ?_
        obtain ⟨str, hst, hstr⟩ := run_str (hB4.byt (by omega)) (by omega)
        rw [hl4] at hst hstr
        have HST := Lib.hid hst
        clear hst hV hall
        go_wp2
        exact HI.out.step2 5 (by omega) _ _ rfl (Below.refl _ _) (show VS 1 _ from ⟨str, rfl, HST.out⟩) (by simp [upd, u1, u4, h4])
      | 6, ho =>
        obtain rfl : _ = o := Option.some.inj ho
        refine wpOp_of_list (i := 6) rfl ?_
        clear hV hall
        go_wp2
        exact HI.out.step2 6 (by omega) _ _ rfl (Below.refl _ _) rfl (by simp [upd, u1, u4])
      | 7, ho =>
        obtain rfl : _ = o := Option.some.inj ho
        have h6 := hV 6 (by omega) (hall { on := 6, ground := .data } (by simp) rfl)
        have h6 : u 16 = _ := h6
        refine wpOp_of_list (i := 7) rfl ?_
        clear hV hall
        go_wp2
        exact HI.out.step2 7 (by omega) _ _ rfl (Below.refl _ _) rfl (by simp [upd, u1, u4, h6])
      | 8, ho =>
        obtain rfl : _ = o := Option.some.inj ho
        have h5 := hV 5 (by omega) (hall { on := 5, ground := .data } (by simp) rfl)
        obtain ⟨s5, h5, hs5⟩ := h5
        have h5 : u 15 = .string s5 := h5
        have h7 := hV 7 (by omega) (hall { on := 7, ground := .data } (by simp) rfl)
        have h7 : u 17 = _ := h7
        refine wpOp_of_list (i := 8) rfl ?_
        have hadd : ∀ W, (Op.stringOp .add s5 (c.row)).run Try.prog W = .ok (.string (s5 ++ c.row)) W := fun W => run_string_add_sum W _ _ (by omega)
        have HSZ : Hid ((s5 ++ c.row).size = s5.size + (c.row).size) := Lib.hid (ByteArray.size_append' _ _)
        clear hV hall
        go_wp2
        exact HI.out.step2 8 (by omega) _ _ rfl (Below.refl _ _) (show VS (1 + c.row.size) _ from ⟨_, rfl, by rw [HSZ.out]; omega⟩) (by simp [upd, u1, u4, h5, h7])
      | 9, ho =>
        obtain rfl : _ = o := Option.some.inj ho
        refine wpOp_of_list (i := 9) rfl ?_
        clear hV hall
        go_wp2
        exact HI.out.step2 9 (by omega) _ _ rfl (Below.refl _ _) rfl (by simp [upd, u1, u4])
      | 10, ho =>
        obtain rfl : _ = o := Option.some.inj ho
        have h9 := hV 9 (by omega) (hall { on := 9, ground := .data } (by simp) rfl)
        have h9 : u 19 = _ := h9
        refine wpOp_of_list (i := 10) rfl ?_
        clear hV hall
        go_wp2
        exact HI.out.step2 10 (by omega) _ _ rfl (Below.refl _ _) rfl (by simp [upd, u1, u4, h9])
      | 11, ho =>
        obtain rfl : _ = o := Option.some.inj ho
        have h10 := hV 10 (by omega) (hall { on := 10, ground := .data } (by simp) rfl)
        have h10 : u 20 = _ := h10
        refine wpOp_of_list (i := 11) rfl ?_
        clear hV hall
        go_wp2
        exact HI.out.step2 11 (by omega) _ _ rfl (Below.refl _ _) rfl (by simp [upd, u1, u4, h10])
      | 12, ho =>
        obtain rfl : _ = o := Option.some.inj ho
        have h11 := hV 11 (by omega) (hall { on := 11, ground := .data } (by simp) rfl)
        have h11 : u 21 = _ := h11
        refine wpOp_of_list (i := 12) rfl ?_
        clear hV hall
        go_wp2
        exact HI.out.step2 12 (by omega) _ _ rfl (Below.refl _ _) (show VI _ from ⟨_, rfl⟩) (by simp [upd, u1, u4, h11])
      | 13, ho =>
        obtain rfl : _ = o := Option.some.inj ho
        have h12 := hV 12 (by omega) (hall { on := 12, ground := .data } (by simp) rfl)
        obtain ⟨z12, h12⟩ := h12
        have h12 : u 22 = .int .u8 z12 := h12
        refine wpOp_of_list (i := 13) rfl ?_
        clear hV hall
        go_wp2
        exact HI.out.step2 13 (by omega) _ _ rfl ((Below.refl _ _).alloc (Nat.le_refl _) _) (show VL 1 _ _ from ⟨w.heap.size, [z12], rfl, heap_alloc_new w _, rfl⟩) (by simp [upd, u1, u4, h12])
      | 14, ho =>
        obtain rfl : _ = o := Option.some.inj ho
        have h13 := hV 13 (by omega) (hall { on := 13, ground := .data } (by simp) rfl)
        obtain ⟨b13, ns13, h13, hB13, hl13⟩ := h13
        have h13 : u 23 = .slice (some ⟨b13, 0, none⟩) _ _ := h13
        refine wpOp_of_list (i := 14) rfl ?_
        obtain ⟨str, hst, hstr⟩ := run_str (hB13.byt (by omega)) (by omega)
        rw [hl13] at hst hstr
        have HST := Lib.hid hst
        clear hst hV hall
        go_wp2
        exact HI.out.step2 14 (by omega) _ _ rfl (Below.refl _ _) (show VS 1 _ from ⟨str, rfl, HST.out⟩) (by simp [upd, u1, u4, h13])
      | 15, ho =>
        obtain rfl : _ = o := Option.some.inj ho
        have h8 := hV 8 (by omega) (hall { on := 8, ground := .data } (by simp) rfl)
        obtain ⟨s8, h8, hs8⟩ := h8
        have h8 : u 18 = .string s8 := h8
        have h14 := hV 14 (by omega) (hall { on := 14, ground := .data } (by simp) rfl)
        obtain ⟨s14, h14, hs14⟩ := h14
        have h14 : u 24 = .string s14 := h14
        refine wpOp_of_list (i := 15) rfl ?_
        have hadd : ∀ W, (Op.stringOp .add s8 (s14)).run Try.prog W = .ok (.string (s8 ++ s14)) W := fun W => run_string_add_sum W _ _ (by omega)
        have HSZ : Hid ((s8 ++ s14).size = s8.size + (s14).size) := Lib.hid (ByteArray.size_append' _ _)
        clear hV hall
        go_wp2
        exact HI.out.step2 15 (by omega) _ _ rfl (Below.refl _ _) (show VS (2 + c.row.size) _ from ⟨_, rfl, by rw [HSZ.out]; omega⟩) (by simp [upd, u1, u4, h14, h8])
      | 16, ho =>
        obtain rfl : _ = o := Option.some.inj ho
        refine wpOp_of_list (i := 16) rfl ?_
        clear hV hall
        go_wp2
        exact HI.out.step2 16 (by omega) _ _ rfl (Below.refl _ _) rfl (by simp [upd, u1, u4])
      | 17, ho =>
        obtain rfl : _ = o := Option.some.inj ho
        have h16 := hV 16 (by omega) (hall { on := 16, ground := .data } (by simp) rfl)
        have h16 : u 26 = _ := h16
        refine wpOp_of_list (i := 17) rfl ?_
        clear hV hall
        go_wp2
        exact HI.out.step2 17 (by omega) _ _ rfl (Below.refl _ _) rfl (by simp [upd, u1, u4, h16])
      | 18, ho =>
        obtain rfl : _ = o := Option.some.inj ho
        have h15 := hV 15 (by omega) (hall { on := 15, ground := .data } (by simp) rfl)
        obtain ⟨s15, h15, hs15⟩ := h15
        have h15 : u 25 = .string s15 := h15
        have h17 := hV 17 (by omega) (hall { on := 17, ground := .data } (by simp) rfl)
        have h17 : u 27 = _ := h17
        refine wpOp_of_list (i := 18) rfl ?_
        have hadd : ∀ W, (Op.stringOp .add s15 (c.col)).run Try.prog W = .ok (.string (s15 ++ c.col)) W := fun W => run_string_add_sum W _ _ (by omega)
        have HSZ : Hid ((s15 ++ c.col).size = s15.size + (c.col).size) := Lib.hid (ByteArray.size_append' _ _)
        clear hV hall
        go_wp2
        exact HI.out.step2 18 (by omega) _ _ rfl (Below.refl _ _) (show VS (2 + c.row.size + c.col.size) _ from ⟨_, rfl, by rw [HSZ.out]; omega⟩) (by simp [upd, u1, u4, h15, h17])
      | 19, ho =>
        obtain rfl : _ = o := Option.some.inj ho
        refine wpOp_of_list (i := 19) rfl ?_
        clear hV hall
        go_wp2
        exact HI.out.step2 19 (by omega) _ _ rfl (Below.refl _ _) rfl (by simp [upd, u1, u4])
      | 20, ho =>
        obtain rfl : _ = o := Option.some.inj ho
        have h19 := hV 19 (by omega) (hall { on := 19, ground := .data } (by simp) rfl)
        have h19 : u 29 = _ := h19
        refine wpOp_of_list (i := 20) rfl ?_
        clear hV hall
        go_wp2
        exact HI.out.step2 20 (by omega) _ _ rfl (Below.refl _ _) rfl (by simp [upd, u1, u4, h19])
      | 21, ho =>
        obtain rfl : _ = o := Option.some.inj ho
        have h20 := hV 20 (by omega) (hall { on := 20, ground := .data } (by simp) rfl)
        have h20 : u 30 = _ := h20
        refine wpOp_of_list (i := 21) rfl ?_
        clear hV hall
        go_wp2_with (go_at_call 37; refine (number_any _ _).mono ?_; rintro e w2 ⟨str, rfl, hst, hb2⟩; have H2 := Lib.hid (And.intro hst hb2); clear hst hb2)
        exact HI.out.step2 21 (by omega) _ _ rfl H2.out.2 (show VS 8 _ from ⟨str, rfl, H2.out.1⟩) (by simp [upd, u1, u4, h20])
      | 22, ho =>
        obtain rfl : _ = o := Option.some.inj ho
        have h18 := hV 18 (by omega) (hall { on := 18, ground := .data } (by simp) rfl)
        obtain ⟨s18, h18, hs18⟩ := h18
        have h18 : u 28 = .string s18 := h18
        have h21 := hV 21 (by omega) (hall { on := 21, ground := .data } (by simp) rfl)
        obtain ⟨s21, h21, hs21⟩ := h21
        have h21 : u 31 = .string s21 := h21
        refine wpOp_of_list (i := 22) rfl ?_
        have hadd : ∀ W, (Op.stringOp .add s18 (s21)).run Try.prog W = .ok (.string (s18 ++ s21)) W := fun W => run_string_add_sum W _ _ (by omega)
        have HSZ : Hid ((s18 ++ s21).size = s18.size + (s21).size) := Lib.hid (ByteArray.size_append' _ _)
        clear hV hall
        go_wp2
        exact HI.out.step2 22 (by omega) _ _ rfl (Below.refl _ _) (show VS (10 + c.row.size + c.col.size) _ from ⟨_, rfl, by rw [HSZ.out]; omega⟩) (by simp [upd, u1, u4, h18, h21])
      | 23, ho =>
        obtain rfl : _ = o := Option.some.inj ho
        refine wpOp_of_list (i := 23) rfl ?_
        clear hV hall
        go_wp2
        exact HI.out.step2 23 (by omega) _ _ rfl (Below.refl _ _) rfl (by simp [upd, u1, u4])
      | 24, ho =>
        obtain rfl : _ = o := Option.some.inj ho
        have h23 := hV 23 (by omega) (hall { on := 23, ground := .data } (by simp) rfl)
        have h23 : u 33 = _ := h23
        refine wpOp_of_list (i := 24) rfl ?_
        clear hV hall
        go_wp2
        exact HI.out.step2 24 (by omega) _ _ rfl (Below.refl _ _) rfl (by simp [upd, u1, u4, h23])
      | 25, ho =>
        obtain rfl : _ = o := Option.some.inj ho
        have h24 := hV 24 (by omega) (hall { on := 24, ground := .data } (by simp) rfl)
        have h24 : u 34 = _ := h24
        refine wpOp_of_list (i := 25) rfl ?_
        clear hV hall
        go_wp2_with (go_at_call 37; refine (number_any _ _).mono ?_; rintro e w2 ⟨str, rfl, hst, hb2⟩; have H2 := Lib.hid (And.intro hst hb2); clear hst hb2)
        exact HI.out.step2 25 (by omega) _ _ rfl H2.out.2 (show VS 8 _ from ⟨str, rfl, H2.out.1⟩) (by simp [upd, u1, u4, h24])
      | 26, ho =>
        obtain rfl : _ = o := Option.some.inj ho
        have h22 := hV 22 (by omega) (hall { on := 22, ground := .data } (by simp) rfl)
        obtain ⟨s22, h22, hs22⟩ := h22
        have h22 : u 32 = .string s22 := h22
        have h25 := hV 25 (by omega) (hall { on := 25, ground := .data } (by simp) rfl)
        obtain ⟨s25, h25, hs25⟩ := h25
        have h25 : u 35 = .string s25 := h25
        refine wpOp_of_list (i := 26) rfl ?_
        have hadd : ∀ W, (Op.stringOp .add s22 (s25)).run Try.prog W = .ok (.string (s22 ++ s25)) W := fun W => run_string_add_sum W _ _ (by omega)
        have HSZ : Hid ((s22 ++ s25).size = s22.size + (s25).size) := Lib.hid (ByteArray.size_append' _ _)
        clear hV hall
        go_wp2
        exact HI.out.step2 26 (by omega) _ _ rfl (Below.refl _ _) (show VS (18 + c.row.size + c.col.size) _ from ⟨_, rfl, by rw [HSZ.out]; omega⟩) (by simp [upd, u1, u4, h22, h25])
      | 27, ho =>
        obtain rfl : _ = o := Option.some.inj ho
        refine wpOp_of_list (i := 27) rfl ?_
        clear hV hall
        go_wp2
        exact HI.out.step2 27 (by omega) _ _ rfl (Below.refl _ _) (show VI _ from ⟨_, rfl⟩) (by simp [upd, u1, u4])
      | 28, ho =>
        obtain rfl : _ = o := Option.some.inj ho
        refine wpOp_of_list (i := 28) rfl ?_
        clear hV hall
        go_wp2
        exact HI.out.step2 28 (by omega) _ _ rfl (Below.refl _ _) rfl (by simp [upd, u1, u4])
      | 29, ho =>
        obtain rfl : _ = o := Option.some.inj ho
        have h28 := hV 28 (by omega) (hall { on := 28, ground := .data } (by simp) rfl)
        have h28 : u 38 = _ := h28
        refine wpOp_of_list (i := 29) rfl ?_
        clear hV hall
        go_wp2
        exact HI.out.step2 29 (by omega) _ _ rfl (Below.refl _ _) rfl (by simp [upd, u1, u4, h28])
      | 30, ho =>
        obtain rfl : _ = o := Option.some.inj ho
        have h29 := hV 29 (by omega) (hall { on := 29, ground := .data } (by simp) rfl)
        have h29 : u 39 = _ := h29
        refine wpOp_of_list (i := 30) rfl ?_
        clear hV hall
        go_wp2
        exact HI.out.step2 30 (by omega) _ _ rfl (Below.refl _ _) rfl (by simp [upd, u1, u4, h29])
      | 31, ho =>
        obtain rfl : _ = o := Option.some.inj ho
        have h30 := hV 30 (by omega) (hall { on := 30, ground := .data } (by simp) rfl)
        have h30 : u 40 = _ := h30
        refine wpOp_of_list (i := 31) rfl ?_
        clear hV hall
        go_wp2
        exact HI.out.step2 31 (by omega) _ _ rfl (Below.refl _ _) (show VI _ from ⟨_, rfl⟩) (by simp [upd, u1, u4, h30])
      | 32, ho =>
        obtain rfl : _ = o := Option.some.inj ho
        have h27 := hV 27 (by omega) (hall { on := 27, ground := .data } (by simp) rfl)
        obtain ⟨z27, h27⟩ := h27
        have h27 : u 37 = .int .u8 z27 := h27
        have h31 := hV 31 (by omega) (hall { on := 31, ground := .data } (by simp) rfl)
        obtain ⟨z31, h31⟩ := h31
        have h31 : u 41 = .int .u8 z31 := h31
        refine wpOp_of_list (i := 32) rfl ?_
        clear hV hall
        go_wp2
        exact HI.out.step2 32 (by omega) _ _ rfl ((Below.refl _ _).alloc (Nat.le_refl _) _) (show VL 2 _ _ from ⟨w.heap.size, [z27, z31], rfl, heap_alloc_new w _, rfl⟩) (by simp [upd, u1, u4, h27, h31])
      | 33, ho =>
        obtain rfl : _ = o := Option.some.inj ho
        have h32 := hV 32 (by omega) (hall { on := 32, ground := .data } (by simp) rfl)
        obtain ⟨b32, ns32, h32, hB32, hl32⟩ := h32
        have h32 : u 42 = .slice (some ⟨b32, 0, none⟩) _ _ := h32
        refine wpOp_of_list (i := 33) rfl ?_
        obtain ⟨str, hst, hstr⟩ := run_str (hB32.byt (by omega)) (by omega)
        rw [hl32] at hst hstr
        have HST := Lib.hid hst
        clear hst hV hall
        go_wp2
        exact HI.out.step2 33 (by omega) _ _ rfl (Below.refl _ _) (show VS 2 _ from ⟨str, rfl, HST.out⟩) (by simp [upd, u1, u4, h32])
      | 34, ho =>
        obtain rfl : _ = o := Option.some.inj ho
        have h26 := hV 26 (by omega) (hall { on := 26, ground := .data } (by simp) rfl)
        obtain ⟨s26, h26, hs26⟩ := h26
        have h26 : u 36 = .string s26 := h26
        have h33 := hV 33 (by omega) (hall { on := 33, ground := .data } (by simp) rfl)
        obtain ⟨s33, h33, hs33⟩ := h33
        have h33 : u 43 = .string s33 := h33
        refine wpOp_of_list (i := 34) rfl ?_
        have hadd : ∀ W, (Op.stringOp .add s26 (s33)).run Try.prog W = .ok (.string (s26 ++ s33)) W := fun W => run_string_add_sum W _ _ (by omega)
        have HSZ : Hid ((s26 ++ s33).size = s26.size + (s33).size) := Lib.hid (ByteArray.size_append' _ _)
        clear hV hall
        go_wp2
        exact HI.out.step2 34 (by omega) _ _ rfl (Below.refl _ _) (show VS (20 + c.row.size + c.col.size) _ from ⟨_, rfl, by rw [HSZ.out]; omega⟩) (by simp [upd, u1, u4, h26, h33])
      | 35, ho =>
        obtain rfl : _ = o := Option.some.inj ho
        refine wpOp_of_list (i := 35) rfl ?_
        clear hV hall
        go_wp2
        exact HI.out.step2 35 (by omega) _ _ rfl (Below.refl _ _) rfl (by simp [upd, u1, u4])
      | 36, ho =>
        obtain rfl : _ = o := Option.some.inj ho
        have h35 := hV 35 (by omega) (hall { on := 35, ground := .data } (by simp) rfl)
        have h35 : u 45 = _ := h35
        refine wpOp_of_list (i := 36) rfl ?_
        clear hV hall
        go_wp2
        exact HI.out.step2 36 (by omega) _ _ rfl (Below.refl _ _) rfl (by simp [upd, u1, u4, h35])
      | 37, ho =>
        obtain rfl : _ = o := Option.some.inj ho
        have h34 := hV 34 (by omega) (hall { on := 34, ground := .data } (by simp) rfl)
        obtain ⟨s34, h34, hs34⟩ := h34
        have h34 : u 44 = .string s34 := h34
        have h36 := hV 36 (by omega) (hall { on := 36, ground := .data } (by simp) rfl)
        have h36 : u 46 = _ := h36
        refine wpOp_of_list (i := 37) rfl ?_
        have hadd : ∀ W, (Op.stringOp .add s34 (c.val)).run Try.prog W = .ok (.string (s34 ++ c.val)) W := fun W => run_string_add_sum W _ _ (by omega)
        have HSZ : Hid ((s34 ++ c.val).size = s34.size + (c.val).size) := Lib.hid (ByteArray.size_append' _ _)
        clear hV hall
        go_wp2
        exact HI.out.step2 37 (by omega) _ _ rfl (Below.refl _ _) (show VS (20 + c.row.size + c.col.size + c.val.size) _ from ⟨_, rfl, by rw [HSZ.out]; omega⟩) (by simp [upd, u1, u4, h34, h36])
      | 38, ho =>
        obtain rfl : _ = o := Option.some.inj ho
        have h37 := hV 37 (by omega) (hall { on := 37, ground := .data } (by simp) rfl)
        obtain ⟨s37, h37, hs37⟩ := h37
        have h37 : u 47 = .string s37 := h37
        refine wpOp_of_list (i := 38) rfl ?_
        clear hV hall
        go_wp2
        exact HI.out.last1' _ _ rfl ⟨s37, rfl, hs37⟩ (by simp [upd, u1, u4, h37])
      | 39, ho =>
        obtain rfl : _ = o := Option.some.inj ho
        refine wpOp_of_list (i := 39) rfl ?_
        clear hV hall
        go_wp2
        exact HI.out.last2' _ (by simp [upd, u1, u4])
      | k + 40, ho => exact absurd hlt (by omega)
    case hend =>
      rintro L _ w7 ⟨u, rfl, hI⟩ hr
      have hall := ready_all hr (by rw [hI.sz]; rfl) (by kernel_rfl)
      obtain ⟨s, hs1, hs2⟩ := hI.r2 (hall 38 (by simp))
      have h3 := hI.r3 (hall 39 (by simp))
      have HB := Lib.hid (HB2.out.trans (hI.b.mono HB2.out.size))
      have HSZ := Lib.hid hs2
      clear hall hI hr hs2
      go_wp2
      go_ret2
      exact ⟨s, by simp [hs1, h3], HSZ.out, HB.out⟩
end Go.Proofs.Ytijicefakfpdcaa
