/-
  The walk of the reference's Encode of a cell. No conditions.
-/
import Derived.Test.YtiiogdgnccgehaaRegTab19
import Derived.Deep.DeepCutAuto
import Derived.Deep.CutBlock
namespace Go.Proofs.Ytiiogdgnccgehaa
open Go.RowKit
attribute [local go_sem ↓] Go.wp_at_zero Go.wp_at_succ

def encL_ds : List Nat := [10, 11, 12, 13, 14, 15, 16, 17, 18, 19, 20, 21, 22, 23, 24, 25, 26, 27, 28, 29, 30, 31, 32, 33, 34, 35, 36, 37, 38, 39, 40, 41, 42, 43, 44, 45, 46, 47, 2, 3]
def encL_V (g fl : Nat) (row col : ByteArray) (ts sq : Nat) (vl : ByteArray) (v : Value) (w : World) : Nat → Prop
  | 0 => v = .pointer (some ⟨g, 0, none⟩)
  | 1 => v = .string row
  | 2 => v = .int .i64 row.size
  | 3 => v = .int .u8 ((row.size : Int) % 256)
  | 4 => ∃ b, v = .slice (some ⟨b, 0, none⟩) 1 1 ∧ Bys w b [(row.size : Int) % 256]
  | 5 => v = .string (nb row.size 1)
  | 6 => v = .pointer (some ⟨g, 0, none⟩)
  | 7 => v = .string row
  | 8 => v = .string (nb row.size 1 ++ row)
  | 9 => v = .pointer (some ⟨g, 1, none⟩)
  | 10 => v = .string col
  | 11 => v = .int .i64 col.size
  | 12 => v = .int .u8 ((col.size : Int) % 256)
  | 13 => ∃ b, v = .slice (some ⟨b, 0, none⟩) 1 1 ∧ Bys w b [(col.size : Int) % 256]
  | 14 => v = .string (nb col.size 1)
  | 15 => v = .string (nb row.size 1 ++ row ++ nb col.size 1)
  | 16 => v = .pointer (some ⟨g, 1, none⟩)
  | 17 => v = .string col
  | 18 => v = .string (nb row.size 1 ++ row ++ nb col.size 1 ++ col)
  | 19 => v = .pointer (some ⟨g, 2, none⟩)
  | 20 => v = .int .u64 ts
  | 21 => v = .string (nb ts 8)
  | 22 => v = .string (nb row.size 1 ++ row ++ nb col.size 1 ++ col ++ nb ts 8)
  | 23 => v = .pointer (some ⟨g, 3, none⟩)
  | 24 => v = .int .u64 sq
  | 25 => v = .string (nb sq 8)
  | 26 => v = .string (nb row.size 1 ++ row ++ nb col.size 1 ++ col ++ nb ts 8 ++ nb sq 8)
  | 27 => v = .int .u8 (fl : Int)
  | 28 => v = .pointer (some ⟨g, 5, none⟩)
  | 29 => v = .string vl
  | 30 => v = .int .i64 vl.size
  | 31 => v = .int .u8 ((vl.size : Int) % 256)
  | 32 => ∃ b, v = .slice (some ⟨b, 0, none⟩) 2 2 ∧ Bys w b [(fl : Int), (vl.size : Int) % 256]
  | 33 => v = .string (nb fl 1 ++ nb vl.size 1)
  | 34 => v = .string (nb row.size 1 ++ row ++ nb col.size 1 ++ col ++ nb ts 8 ++ nb sq 8 ++ (nb fl 1 ++ nb vl.size 1))
  | 35 => v = .pointer (some ⟨g, 5, none⟩)
  | 36 => v = .string vl
  | 37 => v = .string (nb row.size 1 ++ row ++ nb col.size 1 ++ col ++ nb ts 8 ++ nb sq 8 ++ (nb fl 1 ++ nb vl.size 1) ++ vl)
  | 38 => v = .string (nb row.size 1 ++ row ++ nb col.size 1 ++ col ++ nb ts 8 ++ nb sq 8 ++ (nb fl 1 ++ nb vl.size 1) ++ vl)
  | 39 => v = .int .i64 0
  | _ => True
theorem encL_mono (g fl : Nat) (row col : ByteArray) (ts sq : Nat) (vl : ByteArray) : ∀ j v w1 w2, encL_V g fl row col ts sq vl v w1 j → Below w1.heap.size w1 w2 → encL_V g fl row col ts sq vl v w2 j := by
  intro j v w1 w2 h hb
  revert h
  unfold encL_V
  split <;> (intro h; first | exact h | (obtain ⟨b, h1, h2⟩ := h; exact ⟨b, h1, h2.keep hb⟩))

theorem encL_cell {c : Cl} {fl : Nat} (h : fl = if c.del then 1 else 0) : nb c.row.size 1 ++ c.row ++ nb c.col.size 1 ++ c.col ++ nb c.ts 8 ++ nb c.seq 8 ++ (nb fl 1 ++ nb c.val.size 1) ++ c.val = cellB c := by
  subst h
  unfold cellB sh flagB
  simp only [ByteArray.append_assoc]
def encCl (c : Cl) : ByteArray × Int := if may c then (cellB c, 0) else (⟨#[]⟩, 1)
set_option maxRecDepth 100000 in
set_option maxHeartbeats 16000000 in
theorem refCellEnc_any (c : Cl) (hf : fitsCl c) (w : World) : Calls Try.prog 37 #[.agg #[.string c.row, .string c.col, .int .u64 c.ts, .int .u64 c.seq, .bool c.del, .string c.val]] w fun e w' => e = .returned (.tuple #[.string (encCl c).1, .int .i64 (encCl c).2]) ∧ Below w.heap.size w w' := by
  have hts : c.ts < 18446744073709551616 := hf.1
  have hsq : c.seq < 18446744073709551616 := hf.2
  have HX0 := Lib.hid (CBox.new w c)
  have HB0 := Lib.hid (below_al w (.cells #[.string c.row, .string c.col, .int .u64 c.ts, .int .u64 c.seq, .bool c.del, .string c.val] 75))
  unfold encCl
  cases hm : may c with
  | false =>
    go_enter Try.func37, Try.ntmps37
    go_wp2_with (first
      | ((with_reducible show wpList _ _ _ ({ dst := some 5, op := Op.load _ _, type := _, pos := _, after := _, guard := _ } :: _) _ _); go_loud (refine wpList_load_mid rfl 75 (.tmp 1) rfl w.heap.size 0 rfl [.string c.row, .string c.col, .int .u64 c.ts, .int .u64 c.seq, .bool c.del, .string c.val] _ HX0.out.range Try.underlying75 rfl (by kernel_rfl) ?_))
      | (go_at_call 28; go_loud (refine (refMay_any c _).mono ?_); rw [hm]; rintro e w1 ⟨rfl, hb1⟩; have HB1 := Lib.hid (HB0.out.trans (hb1.mono HB0.out.size)); clear hb1))
    go_ret2
    exact ⟨rfl, HB1.out⟩
  | true =>
    have hs := may_sizes hm
    obtain ⟨hs1, hs2, hs3⟩ := hs
    obtain ⟨fl, hfl⟩ : ∃ fl : Nat, fl = if c.del then 1 else 0 := ⟨_, rfl⟩
    have HE := Lib.hid (encL_cell hfl)
    have hflt : fl < 256 := by rw [hfl]; split <;> omega
    have nb_fl := @nb_fl fl c.val.size hflt
    go_enter Try.func37, Try.ntmps37
    rcases Bool.eq_false_or_eq_true c.del with hd | hd
    · have hfl0 : fl = 1 := by rw [hfl, hd]; rfl
      have HD4 := Lib.hid (show Value.bool c.del = Value.bool true by rw [hd])
      clear hd
      go_wp2_with (first
        | ((with_reducible show wpList _ _ _ ({ dst := some 5, op := Op.load _ _, type := _, pos := _, after := _, guard := _ } :: _) _ _); go_loud (refine wpList_load_mid rfl 75 (.tmp 1) rfl w.heap.size 0 rfl [.string c.row, .string c.col, .int .u64 c.ts, .int .u64 c.seq, .bool c.del, .string c.val] _ HX0.out.range Try.underlying75 rfl (by kernel_rfl) ?_))
        | (go_at_call 28; go_loud (refine (refMay_any c _).mono ?_); rw [hm]; rintro e w1 ⟨rfl, hb1⟩; have HB1 := Lib.hid (HB0.out.trans (hb1.mono HB0.out.size)); have HX := Lib.hid (HX0.out.below hb1 HX0.out.lt); have q4 := HX.out.cells.2.2.2.2.1.trans (congrArg some HD4.out); clear hb1))
      subst hfl0
      clear hfl hflt
      replace nb_fl : ofL ([(1 : Int), (c.val.size : Int) % 256].map byteI) = nb 1 1 ++ nb c.val.size 1 := nb_fl
      have add1 := add_any (nb c.row.size 1) c.row (by simp only [nb_size]; omega)
      have add2 := add_any (nb c.row.size 1 ++ c.row) (nb c.col.size 1) (by simp only [ByteArray.size_append', nb_size]; omega)
      have add3 := add_any (nb c.row.size 1 ++ c.row ++ nb c.col.size 1) c.col (by simp only [ByteArray.size_append', nb_size]; omega)
      have add4 := add_any (nb c.row.size 1 ++ c.row ++ nb c.col.size 1 ++ c.col) (nb c.ts 8) (by simp only [ByteArray.size_append', nb_size]; omega)
      have add5 := add_any (nb c.row.size 1 ++ c.row ++ nb c.col.size 1 ++ c.col ++ nb c.ts 8) (nb c.seq 8) (by simp only [ByteArray.size_append', nb_size]; omega)
      have add6 := add_any (nb c.row.size 1 ++ c.row ++ nb c.col.size 1 ++ c.col ++ nb c.ts 8 ++ nb c.seq 8) (nb 1 1 ++ nb c.val.size 1) (by simp only [ByteArray.size_append', nb_size]; omega)
      have add7 := add_any (nb c.row.size 1 ++ c.row ++ nb c.col.size 1 ++ c.col ++ nb c.ts 8 ++ nb c.seq 8 ++ (nb 1 1 ++ nb c.val.size 1)) c.val (by simp only [ByteArray.size_append', nb_size]; omega)
      go_cut [2, 3] (fun s2 s3 wx => s2 = .string (nb c.row.size 1 ++ c.row ++ nb c.col.size 1 ++ c.col ++ nb c.ts 8 ++ nb c.seq 8 ++ (nb 1 1 ++ nb c.val.size 1) ++ c.val) ∧ s3 = .int .i64 0 ∧ Hid (Below w1.heap.size w1 wx))
      case first =>
        rename_i J1 K1 hJ1 hK1
        refine region_tab (by kernel_rfl) encL_ds 48 rfl (by kernel_rfl) (fun j v w' => encL_V w.heap.size 1 c.row c.col c.ts c.seq c.val v w' j) (encL_mono _ _ _ _ _ _ _) ?step ?done
        case step =>
          intro i o ho a' w' hb hk hv
          obtain ⟨d0, d1, d2, d3, d4, d5⟩ := (HX.out.below hb HX.out.lt).cells
          match i, ho with
          | 0, ho =>
            obtain rfl : _ = o := Option.some.inj ho
            have h1 : a'.eval (.tmp 1) = .pointer (some ⟨w.heap.size, 0, none⟩) := hk 1 (by kernel_rfl)
            obtain ⟨ρ, hρ⟩ : ∃ ρ, a'.eval = ρ := ⟨_, rfl⟩
            rw [hρ] at h1
            exact Stp.pure hρ (.pointer (some ⟨w.heap.size, 0, none⟩)) (by first | (go_simp; done) | (go_simp; rfl)) rfl
          | 1, ho =>
            obtain rfl : _ = o := Option.some.inj ho
            have h10 : a'.eval (.tmp 10) = .pointer (some ⟨w.heap.size, 0, none⟩) := hv 0 (by kernel_rfl)
            obtain ⟨ρ, hρ⟩ : ∃ ρ, a'.eval = ρ := ⟨_, rfl⟩
            rw [hρ] at h10
            exact Stp.pure hρ (.string c.row) (by first | (go_simp; done) | (go_simp; rfl)) rfl
          | 2, ho =>
            obtain rfl : _ = o := Option.some.inj ho
            have h11 : a'.eval (.tmp 11) = .string c.row := hv 1 (by kernel_rfl)
            obtain ⟨ρ, hρ⟩ : ∃ ρ, a'.eval = ρ := ⟨_, rfl⟩
            rw [hρ] at h11
            exact Stp.pure hρ (.int .i64 c.row.size) (by first | (go_simp; done) | (go_simp; rfl)) rfl
          | 3, ho =>
            obtain rfl : _ = o := Option.some.inj ho
            have h12 : a'.eval (.tmp 12) = .int .i64 c.row.size := hv 2 (by kernel_rfl)
            obtain ⟨ρ, hρ⟩ : ∃ ρ, a'.eval = ρ := ⟨_, rfl⟩
            rw [hρ] at h12
            exact Stp.pure hρ (.int .u8 ((c.row.size : Int) % 256)) (by first | (go_simp; done) | (go_simp; rfl)) rfl
          | 4, ho =>
            obtain rfl : _ = o := Option.some.inj ho
            have h13 : a'.eval (.tmp 13) = .int .u8 ((c.row.size : Int) % 256) := hv 3 (by kernel_rfl)
            obtain ⟨ρ, hρ⟩ : ∃ ρ, a'.eval = ρ := ⟨_, rfl⟩
            rw [hρ] at h13
            exact Stp.val hρ (.slice (some ⟨w'.heap.size, 0, none⟩) 1 1) (w'.alloc (.cells (([(c.row.size : Int) % 256] : List Int).map (Value.int .u8)).toArray 5)) (by simp only [List.map_cons, List.map_nil]; first | (go_simp; done) | (go_simp; rfl)) (below_al _ _) ⟨_, rfl, Bys.made w' [(c.row.size : Int) % 256]⟩
          | 5, ho =>
            obtain rfl : _ = o := Option.some.inj ho
            obtain ⟨b14, h14, hB14⟩ : ∃ b, a'.eval (.tmp 14) = .slice (some ⟨b, 0, none⟩) 1 1 ∧ Bys w' b [(c.row.size : Int) % 256] := hv 4 (by kernel_rfl)
            have hst := run_strX (c := 1) hB14 1 rfl
            rw [nb_one] at hst
            obtain ⟨ρ, hρ⟩ : ∃ ρ, a'.eval = ρ := ⟨_, rfl⟩
            rw [hρ] at h14
            exact Stp.pure hρ (.string (nb c.row.size 1)) (by first | (go_simp; done) | (go_simp; rfl)) rfl
          | 6, ho =>
            obtain rfl : _ = o := Option.some.inj ho
            have h1 : a'.eval (.tmp 1) = .pointer (some ⟨w.heap.size, 0, none⟩) := hk 1 (by kernel_rfl)
            obtain ⟨ρ, hρ⟩ : ∃ ρ, a'.eval = ρ := ⟨_, rfl⟩
            rw [hρ] at h1
            exact Stp.pure hρ (.pointer (some ⟨w.heap.size, 0, none⟩)) (by first | (go_simp; done) | (go_simp; rfl)) rfl
          | 7, ho =>
            obtain rfl : _ = o := Option.some.inj ho
            have h16 : a'.eval (.tmp 16) = .pointer (some ⟨w.heap.size, 0, none⟩) := hv 6 (by kernel_rfl)
            obtain ⟨ρ, hρ⟩ : ∃ ρ, a'.eval = ρ := ⟨_, rfl⟩
            rw [hρ] at h16
            exact Stp.pure hρ (.string c.row) (by first | (go_simp; done) | (go_simp; rfl)) rfl
          | 8, ho =>
            obtain rfl : _ = o := Option.some.inj ho
            have h15 : a'.eval (.tmp 15) = .string (nb c.row.size 1) := hv 5 (by kernel_rfl)
            have h17 : a'.eval (.tmp 17) = .string c.row := hv 7 (by kernel_rfl)
            have hadd := add1
            obtain ⟨ρ, hρ⟩ : ∃ ρ, a'.eval = ρ := ⟨_, rfl⟩
            rw [hρ] at h15 h17
            exact Stp.pure hρ (.string (nb c.row.size 1 ++ c.row)) (by first | (go_simp; done) | (go_simp; rfl)) rfl
          | 9, ho =>
            obtain rfl : _ = o := Option.some.inj ho
            have h1 : a'.eval (.tmp 1) = .pointer (some ⟨w.heap.size, 0, none⟩) := hk 1 (by kernel_rfl)
            obtain ⟨ρ, hρ⟩ : ∃ ρ, a'.eval = ρ := ⟨_, rfl⟩
            rw [hρ] at h1
            exact Stp.pure hρ (.pointer (some ⟨w.heap.size, 1, none⟩)) (by first | (go_simp; done) | (go_simp; rfl)) rfl
          | 10, ho =>
            obtain rfl : _ = o := Option.some.inj ho
            have h19 : a'.eval (.tmp 19) = .pointer (some ⟨w.heap.size, 1, none⟩) := hv 9 (by kernel_rfl)
            obtain ⟨ρ, hρ⟩ : ∃ ρ, a'.eval = ρ := ⟨_, rfl⟩
            rw [hρ] at h19
            exact Stp.pure hρ (.string c.col) (by first | (go_simp; done) | (go_simp; rfl)) rfl
          | 11, ho =>
            obtain rfl : _ = o := Option.some.inj ho
            have h20 : a'.eval (.tmp 20) = .string c.col := hv 10 (by kernel_rfl)
            obtain ⟨ρ, hρ⟩ : ∃ ρ, a'.eval = ρ := ⟨_, rfl⟩
            rw [hρ] at h20
            exact Stp.pure hρ (.int .i64 c.col.size) (by first | (go_simp; done) | (go_simp; rfl)) rfl
          | 12, ho =>
            obtain rfl : _ = o := Option.some.inj ho
            have h21 : a'.eval (.tmp 21) = .int .i64 c.col.size := hv 11 (by kernel_rfl)
            obtain ⟨ρ, hρ⟩ : ∃ ρ, a'.eval = ρ := ⟨_, rfl⟩
            rw [hρ] at h21
            exact Stp.pure hρ (.int .u8 ((c.col.size : Int) % 256)) (by first | (go_simp; done) | (go_simp; rfl)) rfl
          | 13, ho =>
            obtain rfl : _ = o := Option.some.inj ho
            have h22 : a'.eval (.tmp 22) = .int .u8 ((c.col.size : Int) % 256) := hv 12 (by kernel_rfl)
            obtain ⟨ρ, hρ⟩ : ∃ ρ, a'.eval = ρ := ⟨_, rfl⟩
            rw [hρ] at h22
            exact Stp.val hρ (.slice (some ⟨w'.heap.size, 0, none⟩) 1 1) (w'.alloc (.cells (([(c.col.size : Int) % 256] : List Int).map (Value.int .u8)).toArray 5)) (by simp only [List.map_cons, List.map_nil]; first | (go_simp; done) | (go_simp; rfl)) (below_al _ _) ⟨_, rfl, Bys.made w' [(c.col.size : Int) % 256]⟩
          | 14, ho =>
            obtain rfl : _ = o := Option.some.inj ho
            obtain ⟨b23, h23, hB23⟩ : ∃ b, a'.eval (.tmp 23) = .slice (some ⟨b, 0, none⟩) 1 1 ∧ Bys w' b [(c.col.size : Int) % 256] := hv 13 (by kernel_rfl)
            have hst := run_strX (c := 1) hB23 1 rfl
            rw [nb_one] at hst
            obtain ⟨ρ, hρ⟩ : ∃ ρ, a'.eval = ρ := ⟨_, rfl⟩
            rw [hρ] at h23
            exact Stp.pure hρ (.string (nb c.col.size 1)) (by first | (go_simp; done) | (go_simp; rfl)) rfl
          | 15, ho =>
            obtain rfl : _ = o := Option.some.inj ho
            have h18 : a'.eval (.tmp 18) = .string (nb c.row.size 1 ++ c.row) := hv 8 (by kernel_rfl)
            have h24 : a'.eval (.tmp 24) = .string (nb c.col.size 1) := hv 14 (by kernel_rfl)
            have hadd := add2
            obtain ⟨ρ, hρ⟩ : ∃ ρ, a'.eval = ρ := ⟨_, rfl⟩
            rw [hρ] at h18 h24
            exact Stp.pure hρ (.string (nb c.row.size 1 ++ c.row ++ nb c.col.size 1)) (by first | (go_simp; done) | (go_simp; rfl)) rfl
          | 16, ho =>
            obtain rfl : _ = o := Option.some.inj ho
            have h1 : a'.eval (.tmp 1) = .pointer (some ⟨w.heap.size, 0, none⟩) := hk 1 (by kernel_rfl)
            obtain ⟨ρ, hρ⟩ : ∃ ρ, a'.eval = ρ := ⟨_, rfl⟩
            rw [hρ] at h1
            exact Stp.pure hρ (.pointer (some ⟨w.heap.size, 1, none⟩)) (by first | (go_simp; done) | (go_simp; rfl)) rfl
          | 17, ho =>
            obtain rfl : _ = o := Option.some.inj ho
            have h26 : a'.eval (.tmp 26) = .pointer (some ⟨w.heap.size, 1, none⟩) := hv 16 (by kernel_rfl)
            obtain ⟨ρ, hρ⟩ : ∃ ρ, a'.eval = ρ := ⟨_, rfl⟩
            rw [hρ] at h26
            exact Stp.pure hρ (.string c.col) (by first | (go_simp; done) | (go_simp; rfl)) rfl
          | 18, ho =>
            obtain rfl : _ = o := Option.some.inj ho
            have h25 : a'.eval (.tmp 25) = .string (nb c.row.size 1 ++ c.row ++ nb c.col.size 1) := hv 15 (by kernel_rfl)
            have h27 : a'.eval (.tmp 27) = .string c.col := hv 17 (by kernel_rfl)
            have hadd := add3
            obtain ⟨ρ, hρ⟩ : ∃ ρ, a'.eval = ρ := ⟨_, rfl⟩
            rw [hρ] at h25 h27
            exact Stp.pure hρ (.string (nb c.row.size 1 ++ c.row ++ nb c.col.size 1 ++ c.col)) (by first | (go_simp; done) | (go_simp; rfl)) rfl
          | 19, ho =>
            obtain rfl : _ = o := Option.some.inj ho
            have h1 : a'.eval (.tmp 1) = .pointer (some ⟨w.heap.size, 0, none⟩) := hk 1 (by kernel_rfl)
            obtain ⟨ρ, hρ⟩ : ∃ ρ, a'.eval = ρ := ⟨_, rfl⟩
            rw [hρ] at h1
            exact Stp.pure hρ (.pointer (some ⟨w.heap.size, 2, none⟩)) (by first | (go_simp; done) | (go_simp; rfl)) rfl
          | 20, ho =>
            obtain rfl : _ = o := Option.some.inj ho
            have h29 : a'.eval (.tmp 29) = .pointer (some ⟨w.heap.size, 2, none⟩) := hv 19 (by kernel_rfl)
            obtain ⟨ρ, hρ⟩ : ∃ ρ, a'.eval = ρ := ⟨_, rfl⟩
            rw [hρ] at h29
            exact Stp.pure hρ (.int .u64 c.ts) (by first | (go_simp; done) | (go_simp; rfl)) rfl
          | 21, ho =>
            obtain rfl : _ = o := Option.some.inj ho
            have h30 : a'.eval (.tmp 30) = .int .u64 c.ts := hv 20 (by kernel_rfl)
            refine Stp.call 36 #[a'.eval (.tmp 30), .bool false] (.string (nb c.ts 8)) (by kernel_rfl) ?_ (fun _ => rfl)
            rw [h30]
            exact refNumber_any c.ts hts w'
          | 22, ho =>
            obtain rfl : _ = o := Option.some.inj ho
            have h28 : a'.eval (.tmp 28) = .string (nb c.row.size 1 ++ c.row ++ nb c.col.size 1 ++ c.col) := hv 18 (by kernel_rfl)
            have h31 : a'.eval (.tmp 31) = .string (nb c.ts 8) := hv 21 (by kernel_rfl)
            have hadd := add4
            obtain ⟨ρ, hρ⟩ : ∃ ρ, a'.eval = ρ := ⟨_, rfl⟩
            rw [hρ] at h28 h31
            exact Stp.pure hρ (.string (nb c.row.size 1 ++ c.row ++ nb c.col.size 1 ++ c.col ++ nb c.ts 8)) (by first | (go_simp; done) | (go_simp; rfl)) rfl
          | 23, ho =>
            obtain rfl : _ = o := Option.some.inj ho
            have h1 : a'.eval (.tmp 1) = .pointer (some ⟨w.heap.size, 0, none⟩) := hk 1 (by kernel_rfl)
            obtain ⟨ρ, hρ⟩ : ∃ ρ, a'.eval = ρ := ⟨_, rfl⟩
            rw [hρ] at h1
            exact Stp.pure hρ (.pointer (some ⟨w.heap.size, 3, none⟩)) (by first | (go_simp; done) | (go_simp; rfl)) rfl
          | 24, ho =>
            obtain rfl : _ = o := Option.some.inj ho
            have h33 : a'.eval (.tmp 33) = .pointer (some ⟨w.heap.size, 3, none⟩) := hv 23 (by kernel_rfl)
            obtain ⟨ρ, hρ⟩ : ∃ ρ, a'.eval = ρ := ⟨_, rfl⟩
            rw [hρ] at h33
            exact Stp.pure hρ (.int .u64 c.seq) (by first | (go_simp; done) | (go_simp; rfl)) rfl
          | 25, ho =>
            obtain rfl : _ = o := Option.some.inj ho
            have h34 : a'.eval (.tmp 34) = .int .u64 c.seq := hv 24 (by kernel_rfl)
            refine Stp.call 36 #[a'.eval (.tmp 34), .bool false] (.string (nb c.seq 8)) (by kernel_rfl) ?_ (fun _ => rfl)
            rw [h34]
            exact refNumber_any c.seq hsq w'
          | 26, ho =>
            obtain rfl : _ = o := Option.some.inj ho
            have h32 : a'.eval (.tmp 32) = .string (nb c.row.size 1 ++ c.row ++ nb c.col.size 1 ++ c.col ++ nb c.ts 8) := hv 22 (by kernel_rfl)
            have h35 : a'.eval (.tmp 35) = .string (nb c.seq 8) := hv 25 (by kernel_rfl)
            have hadd := add5
            obtain ⟨ρ, hρ⟩ : ∃ ρ, a'.eval = ρ := ⟨_, rfl⟩
            rw [hρ] at h32 h35
            exact Stp.pure hρ (.string (nb c.row.size 1 ++ c.row ++ nb c.col.size 1 ++ c.col ++ nb c.ts 8 ++ nb c.seq 8)) (by first | (go_simp; done) | (go_simp; rfl)) rfl
          | 27, ho =>
            obtain rfl : _ = o := Option.some.inj ho
            have h4 : a'.eval (.tmp 4) = .int .u8 (1 : Int) := hk 4 (by kernel_rfl)
            obtain ⟨ρ, hρ⟩ : ∃ ρ, a'.eval = ρ := ⟨_, rfl⟩
            rw [hρ] at h4
            exact Stp.pure hρ (.int .u8 (1 : Int)) (by first | (go_simp; done) | (go_simp; rfl)) rfl
          | 28, ho =>
            obtain rfl : _ = o := Option.some.inj ho
            have h1 : a'.eval (.tmp 1) = .pointer (some ⟨w.heap.size, 0, none⟩) := hk 1 (by kernel_rfl)
            obtain ⟨ρ, hρ⟩ : ∃ ρ, a'.eval = ρ := ⟨_, rfl⟩
            rw [hρ] at h1
            exact Stp.pure hρ (.pointer (some ⟨w.heap.size, 5, none⟩)) (by first | (go_simp; done) | (go_simp; rfl)) rfl
          | 29, ho =>
            obtain rfl : _ = o := Option.some.inj ho
            have h38 : a'.eval (.tmp 38) = .pointer (some ⟨w.heap.size, 5, none⟩) := hv 28 (by kernel_rfl)
            obtain ⟨ρ, hρ⟩ : ∃ ρ, a'.eval = ρ := ⟨_, rfl⟩
            rw [hρ] at h38
            exact Stp.pure hρ (.string c.val) (by first | (go_simp; done) | (go_simp; rfl)) rfl
          | 30, ho =>
            obtain rfl : _ = o := Option.some.inj ho
            have h39 : a'.eval (.tmp 39) = .string c.val := hv 29 (by kernel_rfl)
            obtain ⟨ρ, hρ⟩ : ∃ ρ, a'.eval = ρ := ⟨_, rfl⟩
            rw [hρ] at h39
            exact Stp.pure hρ (.int .i64 c.val.size) (by first | (go_simp; done) | (go_simp; rfl)) rfl
          | 31, ho =>
            obtain rfl : _ = o := Option.some.inj ho
            have h40 : a'.eval (.tmp 40) = .int .i64 c.val.size := hv 30 (by kernel_rfl)
            obtain ⟨ρ, hρ⟩ : ∃ ρ, a'.eval = ρ := ⟨_, rfl⟩
            rw [hρ] at h40
            exact Stp.pure hρ (.int .u8 ((c.val.size : Int) % 256)) (by first | (go_simp; done) | (go_simp; rfl)) rfl
          | 32, ho =>
            obtain rfl : _ = o := Option.some.inj ho
            have h37 : a'.eval (.tmp 37) = .int .u8 (1 : Int) := hv 27 (by kernel_rfl)
            have h41 : a'.eval (.tmp 41) = .int .u8 ((c.val.size : Int) % 256) := hv 31 (by kernel_rfl)
            obtain ⟨ρ, hρ⟩ : ∃ ρ, a'.eval = ρ := ⟨_, rfl⟩
            rw [hρ] at h37 h41
            exact Stp.val hρ (.slice (some ⟨w'.heap.size, 0, none⟩) 2 2) (w'.alloc (.cells (([(1 : Int), (c.val.size : Int) % 256] : List Int).map (Value.int .u8)).toArray 5)) (by simp only [List.map_cons, List.map_nil]; first | (go_simp; done) | (go_simp; rfl)) (below_al _ _) ⟨_, rfl, Bys.made w' [(1 : Int), (c.val.size : Int) % 256]⟩
          | 33, ho =>
            obtain rfl : _ = o := Option.some.inj ho
            obtain ⟨b42, h42, hB42⟩ : ∃ b, a'.eval (.tmp 42) = .slice (some ⟨b, 0, none⟩) 2 2 ∧ Bys w' b [(1 : Int), (c.val.size : Int) % 256] := hv 32 (by kernel_rfl)
            have hst := run_strX (c := 2) hB42 2 rfl
            rw [nb_fl] at hst
            obtain ⟨ρ, hρ⟩ : ∃ ρ, a'.eval = ρ := ⟨_, rfl⟩
            rw [hρ] at h42
            exact Stp.pure hρ (.string (nb 1 1 ++ nb c.val.size 1)) (by first | (go_simp; done) | (go_simp; rfl)) rfl
          | 34, ho =>
            obtain rfl : _ = o := Option.some.inj ho
            have h36 : a'.eval (.tmp 36) = .string (nb c.row.size 1 ++ c.row ++ nb c.col.size 1 ++ c.col ++ nb c.ts 8 ++ nb c.seq 8) := hv 26 (by kernel_rfl)
            have h43 : a'.eval (.tmp 43) = .string (nb 1 1 ++ nb c.val.size 1) := hv 33 (by kernel_rfl)
            have hadd := add6
            obtain ⟨ρ, hρ⟩ : ∃ ρ, a'.eval = ρ := ⟨_, rfl⟩
            rw [hρ] at h36 h43
            exact Stp.pure hρ (.string (nb c.row.size 1 ++ c.row ++ nb c.col.size 1 ++ c.col ++ nb c.ts 8 ++ nb c.seq 8 ++ (nb 1 1 ++ nb c.val.size 1))) (by first | (go_simp; done) | (go_simp; rfl)) rfl
          | 35, ho =>
            obtain rfl : _ = o := Option.some.inj ho
            have h1 : a'.eval (.tmp 1) = .pointer (some ⟨w.heap.size, 0, none⟩) := hk 1 (by kernel_rfl)
            obtain ⟨ρ, hρ⟩ : ∃ ρ, a'.eval = ρ := ⟨_, rfl⟩
            rw [hρ] at h1
            exact Stp.pure hρ (.pointer (some ⟨w.heap.size, 5, none⟩)) (by first | (go_simp; done) | (go_simp; rfl)) rfl
          | 36, ho =>
            obtain rfl : _ = o := Option.some.inj ho
            have h45 : a'.eval (.tmp 45) = .pointer (some ⟨w.heap.size, 5, none⟩) := hv 35 (by kernel_rfl)
            obtain ⟨ρ, hρ⟩ : ∃ ρ, a'.eval = ρ := ⟨_, rfl⟩
            rw [hρ] at h45
            exact Stp.pure hρ (.string c.val) (by first | (go_simp; done) | (go_simp; rfl)) rfl
          | 37, ho =>
            obtain rfl : _ = o := Option.some.inj ho
            have h44 : a'.eval (.tmp 44) = .string (nb c.row.size 1 ++ c.row ++ nb c.col.size 1 ++ c.col ++ nb c.ts 8 ++ nb c.seq 8 ++ (nb 1 1 ++ nb c.val.size 1)) := hv 34 (by kernel_rfl)
            have h46 : a'.eval (.tmp 46) = .string c.val := hv 36 (by kernel_rfl)
            have hadd := add7
            obtain ⟨ρ, hρ⟩ : ∃ ρ, a'.eval = ρ := ⟨_, rfl⟩
            rw [hρ] at h44 h46
            exact Stp.pure hρ (.string (nb c.row.size 1 ++ c.row ++ nb c.col.size 1 ++ c.col ++ nb c.ts 8 ++ nb c.seq 8 ++ (nb 1 1 ++ nb c.val.size 1) ++ c.val)) (by first | (go_simp; done) | (go_simp; rfl)) rfl
          | 38, ho =>
            obtain rfl : _ = o := Option.some.inj ho
            have h47 : a'.eval (.tmp 47) = .string (nb c.row.size 1 ++ c.row ++ nb c.col.size 1 ++ c.col ++ nb c.ts 8 ++ nb c.seq 8 ++ (nb 1 1 ++ nb c.val.size 1) ++ c.val) := hv 37 (by kernel_rfl)
            obtain ⟨ρ, hρ⟩ : ∃ ρ, a'.eval = ρ := ⟨_, rfl⟩
            rw [hρ] at h47
            exact Stp.pure hρ (.string (nb c.row.size 1 ++ c.row ++ nb c.col.size 1 ++ c.col ++ nb c.ts 8 ++ nb c.seq 8 ++ (nb 1 1 ++ nb c.val.size 1) ++ c.val)) (by first | (go_simp; done) | (go_simp; rfl)) rfl
          | 39, ho =>
            obtain rfl : _ = o := Option.some.inj ho
            obtain ⟨ρ, hρ⟩ : ∃ ρ, a'.eval = ρ := ⟨_, rfl⟩
            have hcs : ∀ v, ρ (.const v) = v := by rw [← hρ]; exact fun _ => rfl
            exact Stp.pure hρ (.int .i64 0) (by first | (go_simp; done) | (go_simp; rfl)) rfl
          | k + 40, ho => exact absurd (Array.getElem?_eq_some_iff.1 ho).1 (by simp)
        case done =>
          intro u w' hb hV
          have h38 := hV 38 (by decide)
          have h39 := hV 39 (by decide)
          refine hK1 _ _ (Met.intro (hJ1 _ _ ?_))
          repeat apply Exists.intro
          refine And.intro ?rel ?act
          case act => rfl
          case rel => exact ⟨h38, h39, Lib.hid hb⟩
      case rest =>
        obtain ⟨rfl, rfl, HBC⟩ := hcut
        clear add1 add2 add3 add4 add5 add6 add7 nb_fl
        go_wp2
        go_ret2
        exact ⟨by rw [HE.out]; rfl, HB1.out.trans (HBC.out.mono HB1.out.size)⟩
    · have hfl0 : fl = 0 := by rw [hfl, hd]; rfl
      have HD4 := Lib.hid (show Value.bool c.del = Value.bool false by rw [hd])
      clear hd
      go_wp2_with (first
        | ((with_reducible show wpList _ _ _ ({ dst := some 5, op := Op.load _ _, type := _, pos := _, after := _, guard := _ } :: _) _ _); go_loud (refine wpList_load_mid rfl 75 (.tmp 1) rfl w.heap.size 0 rfl [.string c.row, .string c.col, .int .u64 c.ts, .int .u64 c.seq, .bool c.del, .string c.val] _ HX0.out.range Try.underlying75 rfl (by kernel_rfl) ?_))
        | (go_at_call 28; go_loud (refine (refMay_any c _).mono ?_); rw [hm]; rintro e w1 ⟨rfl, hb1⟩; have HB1 := Lib.hid (HB0.out.trans (hb1.mono HB0.out.size)); have HX := Lib.hid (HX0.out.below hb1 HX0.out.lt); have q4 := HX.out.cells.2.2.2.2.1.trans (congrArg some HD4.out); clear hb1))
      subst hfl0
      clear hfl hflt
      replace nb_fl : ofL ([(0 : Int), (c.val.size : Int) % 256].map byteI) = nb 0 1 ++ nb c.val.size 1 := nb_fl
      have add1 := add_any (nb c.row.size 1) c.row (by simp only [nb_size]; omega)
      have add2 := add_any (nb c.row.size 1 ++ c.row) (nb c.col.size 1) (by simp only [ByteArray.size_append', nb_size]; omega)
      have add3 := add_any (nb c.row.size 1 ++ c.row ++ nb c.col.size 1) c.col (by simp only [ByteArray.size_append', nb_size]; omega)
      have add4 := add_any (nb c.row.size 1 ++ c.row ++ nb c.col.size 1 ++ c.col) (nb c.ts 8) (by simp only [ByteArray.size_append', nb_size]; omega)
      have add5 := add_any (nb c.row.size 1 ++ c.row ++ nb c.col.size 1 ++ c.col ++ nb c.ts 8) (nb c.seq 8) (by simp only [ByteArray.size_append', nb_size]; omega)
      have add6 := add_any (nb c.row.size 1 ++ c.row ++ nb c.col.size 1 ++ c.col ++ nb c.ts 8 ++ nb c.seq 8) (nb 0 1 ++ nb c.val.size 1) (by simp only [ByteArray.size_append', nb_size]; omega)
      have add7 := add_any (nb c.row.size 1 ++ c.row ++ nb c.col.size 1 ++ c.col ++ nb c.ts 8 ++ nb c.seq 8 ++ (nb 0 1 ++ nb c.val.size 1)) c.val (by simp only [ByteArray.size_append', nb_size]; omega)
      go_cut [2, 3] (fun s2 s3 wx => s2 = .string (nb c.row.size 1 ++ c.row ++ nb c.col.size 1 ++ c.col ++ nb c.ts 8 ++ nb c.seq 8 ++ (nb 0 1 ++ nb c.val.size 1) ++ c.val) ∧ s3 = .int .i64 0 ∧ Hid (Below w1.heap.size w1 wx))
      case first =>
        rename_i J1 K1 hJ1 hK1
        refine region_tab (by kernel_rfl) encL_ds 48 rfl (by kernel_rfl) (fun j v w' => encL_V w.heap.size 0 c.row c.col c.ts c.seq c.val v w' j) (encL_mono _ _ _ _ _ _ _) ?step ?done
        case step =>
          intro i o ho a' w' hb hk hv
          obtain ⟨d0, d1, d2, d3, d4, d5⟩ := (HX.out.below hb HX.out.lt).cells
          match i, ho with
          | 0, ho =>
            obtain rfl : _ = o := Option.some.inj ho
            have h1 : a'.eval (.tmp 1) = .pointer (some ⟨w.heap.size, 0, none⟩) := hk 1 (by kernel_rfl)
            obtain ⟨ρ, hρ⟩ : ∃ ρ, a'.eval = ρ := ⟨_, rfl⟩
            rw [hρ] at h1
            exact Stp.pure hρ (.pointer (some ⟨w.heap.size, 0, none⟩)) (by first | (go_simp; done) | (go_simp; rfl)) rfl
          | 1, ho =>
            obtain rfl : _ = o := Option.some.inj ho
            have h10 : a'.eval (.tmp 10) = .pointer (some ⟨w.heap.size, 0, none⟩) := hv 0 (by kernel_rfl)
            obtain ⟨ρ, hρ⟩ : ∃ ρ, a'.eval = ρ := ⟨_, rfl⟩
            rw [hρ] at h10
            exact Stp.pure hρ (.string c.row) (by first | (go_simp; done) | (go_simp; rfl)) rfl
          | 2, ho =>
            obtain rfl : _ = o := Option.some.inj ho
            have h11 : a'.eval (.tmp 11) = .string c.row := hv 1 (by kernel_rfl)
            obtain ⟨ρ, hρ⟩ : ∃ ρ, a'.eval = ρ := ⟨_, rfl⟩
            rw [hρ] at h11
            exact Stp.pure hρ (.int .i64 c.row.size) (by first | (go_simp; done) | (go_simp; rfl)) rfl
          | 3, ho =>
            obtain rfl : _ = o := Option.some.inj ho
            have h12 : a'.eval (.tmp 12) = .int .i64 c.row.size := hv 2 (by kernel_rfl)
            obtain ⟨ρ, hρ⟩ : ∃ ρ, a'.eval = ρ := ⟨_, rfl⟩
            rw [hρ] at h12
            exact Stp.pure hρ (.int .u8 ((c.row.size : Int) % 256)) (by first | (go_simp; done) | (go_simp; rfl)) rfl
          | 4, ho =>
            obtain rfl : _ = o := Option.some.inj ho
            have h13 : a'.eval (.tmp 13) = .int .u8 ((c.row.size : Int) % 256) := hv 3 (by kernel_rfl)
            obtain ⟨ρ, hρ⟩ : ∃ ρ, a'.eval = ρ := ⟨_, rfl⟩
            rw [hρ] at h13
            exact Stp.val hρ (.slice (some ⟨w'.heap.size, 0, none⟩) 1 1) (w'.alloc (.cells (([(c.row.size : Int) % 256] : List Int).map (Value.int .u8)).toArray 5)) (by simp only [List.map_cons, List.map_nil]; first | (go_simp; done) | (go_simp; rfl)) (below_al _ _) ⟨_, rfl, Bys.made w' [(c.row.size : Int) % 256]⟩
          | 5, ho =>
            obtain rfl : _ = o := Option.some.inj ho
            obtain ⟨b14, h14, hB14⟩ : ∃ b, a'.eval (.tmp 14) = .slice (some ⟨b, 0, none⟩) 1 1 ∧ Bys w' b [(c.row.size : Int) % 256] := hv 4 (by kernel_rfl)
            have hst := run_strX (c := 1) hB14 1 rfl
            rw [nb_one] at hst
            obtain ⟨ρ, hρ⟩ : ∃ ρ, a'.eval = ρ := ⟨_, rfl⟩
            rw [hρ] at h14
            exact Stp.pure hρ (.string (nb c.row.size 1)) (by first | (go_simp; done) | (go_simp; rfl)) rfl
          | 6, ho =>
            obtain rfl : _ = o := Option.some.inj ho
            have h1 : a'.eval (.tmp 1) = .pointer (some ⟨w.heap.size, 0, none⟩) := hk 1 (by kernel_rfl)
            obtain ⟨ρ, hρ⟩ : ∃ ρ, a'.eval = ρ := ⟨_, rfl⟩
            rw [hρ] at h1
            exact Stp.pure hρ (.pointer (some ⟨w.heap.size, 0, none⟩)) (by first | (go_simp; done) | (go_simp; rfl)) rfl
          | 7, ho =>
            obtain rfl : _ = o := Option.some.inj ho
            have h16 : a'.eval (.tmp 16) = .pointer (some ⟨w.heap.size, 0, none⟩) := hv 6 (by kernel_rfl)
            obtain ⟨ρ, hρ⟩ : ∃ ρ, a'.eval = ρ := ⟨_, rfl⟩
            rw [hρ] at h16
            exact Stp.pure hρ (.string c.row) (by first | (go_simp; done) | (go_simp; rfl)) rfl
          | 8, ho =>
            obtain rfl : _ = o := Option.some.inj ho
            have h15 : a'.eval (.tmp 15) = .string (nb c.row.size 1) := hv 5 (by kernel_rfl)
            have h17 : a'.eval (.tmp 17) = .string c.row := hv 7 (by kernel_rfl)
            have hadd := add1
            obtain ⟨ρ, hρ⟩ : ∃ ρ, a'.eval = ρ := ⟨_, rfl⟩
            rw [hρ] at h15 h17
            exact Stp.pure hρ (.string (nb c.row.size 1 ++ c.row)) (by first | (go_simp; done) | (go_simp; rfl)) rfl
          | 9, ho =>
            obtain rfl : _ = o := Option.some.inj ho
            have h1 : a'.eval (.tmp 1) = .pointer (some ⟨w.heap.size, 0, none⟩) := hk 1 (by kernel_rfl)
            obtain ⟨ρ, hρ⟩ : ∃ ρ, a'.eval = ρ := ⟨_, rfl⟩
            rw [hρ] at h1
            exact Stp.pure hρ (.pointer (some ⟨w.heap.size, 1, none⟩)) (by first | (go_simp; done) | (go_simp; rfl)) rfl
          | 10, ho =>
            obtain rfl : _ = o := Option.some.inj ho
            have h19 : a'.eval (.tmp 19) = .pointer (some ⟨w.heap.size, 1, none⟩) := hv 9 (by kernel_rfl)
            obtain ⟨ρ, hρ⟩ : ∃ ρ, a'.eval = ρ := ⟨_, rfl⟩
            rw [hρ] at h19
            exact Stp.pure hρ (.string c.col) (by first | (go_simp; done) | (go_simp; rfl)) rfl
          | 11, ho =>
            obtain rfl : _ = o := Option.some.inj ho
            have h20 : a'.eval (.tmp 20) = .string c.col := hv 10 (by kernel_rfl)
            obtain ⟨ρ, hρ⟩ : ∃ ρ, a'.eval = ρ := ⟨_, rfl⟩
            rw [hρ] at h20
            exact Stp.pure hρ (.int .i64 c.col.size) (by first | (go_simp; done) | (go_simp; rfl)) rfl
          | 12, ho =>
            obtain rfl : _ = o := Option.some.inj ho
            have h21 : a'.eval (.tmp 21) = .int .i64 c.col.size := hv 11 (by kernel_rfl)
            obtain ⟨ρ, hρ⟩ : ∃ ρ, a'.eval = ρ := ⟨_, rfl⟩
            rw [hρ] at h21
            exact Stp.pure hρ (.int .u8 ((c.col.size : Int) % 256)) (by first | (go_simp; done) | (go_simp; rfl)) rfl
          | 13, ho =>
            obtain rfl : _ = o := Option.some.inj ho
            have h22 : a'.eval (.tmp 22) = .int .u8 ((c.col.size : Int) % 256) := hv 12 (by kernel_rfl)
            obtain ⟨ρ, hρ⟩ : ∃ ρ, a'.eval = ρ := ⟨_, rfl⟩
            rw [hρ] at h22
            exact Stp.val hρ (.slice (some ⟨w'.heap.size, 0, none⟩) 1 1) (w'.alloc (.cells (([(c.col.size : Int) % 256] : List Int).map (Value.int .u8)).toArray 5)) (by simp only [List.map_cons, List.map_nil]; first | (go_simp; done) | (go_simp; rfl)) (below_al _ _) ⟨_, rfl, Bys.made w' [(c.col.size : Int) % 256]⟩
          | 14, ho =>
            obtain rfl : _ = o := Option.some.inj ho
            obtain ⟨b23, h23, hB23⟩ : ∃ b, a'.eval (.tmp 23) = .slice (some ⟨b, 0, none⟩) 1 1 ∧ Bys w' b [(c.col.size : Int) % 256] := hv 13 (by kernel_rfl)
            have hst := run_strX (c := 1) hB23 1 rfl
            rw [nb_one] at hst
            obtain ⟨ρ, hρ⟩ : ∃ ρ, a'.eval = ρ := ⟨_, rfl⟩
            rw [hρ] at h23
            exact Stp.pure hρ (.string (nb c.col.size 1)) (by first | (go_simp; done) | (go_simp; rfl)) rfl
          | 15, ho =>
            obtain rfl : _ = o := Option.some.inj ho
            have h18 : a'.eval (.tmp 18) = .string (nb c.row.size 1 ++ c.row) := hv 8 (by kernel_rfl)
            have h24 : a'.eval (.tmp 24) = .string (nb c.col.size 1) := hv 14 (by kernel_rfl)
            have hadd := add2
            obtain ⟨ρ, hρ⟩ : ∃ ρ, a'.eval = ρ := ⟨_, rfl⟩
            rw [hρ] at h18 h24
            exact Stp.pure hρ (.string (nb c.row.size 1 ++ c.row ++ nb c.col.size 1)) (by first | (go_simp; done) | (go_simp; rfl)) rfl
          | 16, ho =>
            obtain rfl : _ = o := Option.some.inj ho
            have h1 : a'.eval (.tmp 1) = .pointer (some ⟨w.heap.size, 0, none⟩) := hk 1 (by kernel_rfl)
            obtain ⟨ρ, hρ⟩ : ∃ ρ, a'.eval = ρ := ⟨_, rfl⟩
            rw [hρ] at h1
            exact Stp.pure hρ (.pointer (some ⟨w.heap.size, 1, none⟩)) (by first | (go_simp; done) | (go_simp; rfl)) rfl
          | 17, ho =>
            obtain rfl : _ = o := Option.some.inj ho
            have h26 : a'.eval (.tmp 26) = .pointer (some ⟨w.heap.size, 1, none⟩) := hv 16 (by kernel_rfl)
            obtain ⟨ρ, hρ⟩ : ∃ ρ, a'.eval = ρ := ⟨_, rfl⟩
            rw [hρ] at h26
            exact Stp.pure hρ (.string c.col) (by first | (go_simp; done) | (go_simp; rfl)) rfl
          | 18, ho =>
            obtain rfl : _ = o := Option.some.inj ho
            have h25 : a'.eval (.tmp 25) = .string (nb c.row.size 1 ++ c.row ++ nb c.col.size 1) := hv 15 (by kernel_rfl)
            have h27 : a'.eval (.tmp 27) = .string c.col := hv 17 (by kernel_rfl)
            have hadd := add3
            obtain ⟨ρ, hρ⟩ : ∃ ρ, a'.eval = ρ := ⟨_, rfl⟩
            rw [hρ] at h25 h27
            exact Stp.pure hρ (.string (nb c.row.size 1 ++ c.row ++ nb c.col.size 1 ++ c.col)) (by first | (go_simp; done) | (go_simp; rfl)) rfl
          | 19, ho =>
            obtain rfl : _ = o := Option.some.inj ho
            have h1 : a'.eval (.tmp 1) = .pointer (some ⟨w.heap.size, 0, none⟩) := hk 1 (by kernel_rfl)
            obtain ⟨ρ, hρ⟩ : ∃ ρ, a'.eval = ρ := ⟨_, rfl⟩
            rw [hρ] at h1
            exact Stp.pure hρ (.pointer (some ⟨w.heap.size, 2, none⟩)) (by first | (go_simp; done) | (go_simp; rfl)) rfl
          | 20, ho =>
            obtain rfl : _ = o := Option.some.inj ho
            have h29 : a'.eval (.tmp 29) = .pointer (some ⟨w.heap.size, 2, none⟩) := hv 19 (by kernel_rfl)
            obtain ⟨ρ, hρ⟩ : ∃ ρ, a'.eval = ρ := ⟨_, rfl⟩
            rw [hρ] at h29
            exact Stp.pure hρ (.int .u64 c.ts) (by first | (go_simp; done) | (go_simp; rfl)) rfl
          | 21, ho =>
            obtain rfl : _ = o := Option.some.inj ho
            have h30 : a'.eval (.tmp 30) = .int .u64 c.ts := hv 20 (by kernel_rfl)
            refine Stp.call 36 #[a'.eval (.tmp 30), .bool false] (.string (nb c.ts 8)) (by kernel_rfl) ?_ (fun _ => rfl)
            rw [h30]
            exact refNumber_any c.ts hts w'
          | 22, ho =>
            obtain rfl : _ = o := Option.some.inj ho
            have h28 : a'.eval (.tmp 28) = .string (nb c.row.size 1 ++ c.row ++ nb c.col.size 1 ++ c.col) := hv 18 (by kernel_rfl)
            have h31 : a'.eval (.tmp 31) = .string (nb c.ts 8) := hv 21 (by kernel_rfl)
            have hadd := add4
            obtain ⟨ρ, hρ⟩ : ∃ ρ, a'.eval = ρ := ⟨_, rfl⟩
            rw [hρ] at h28 h31
            exact Stp.pure hρ (.string (nb c.row.size 1 ++ c.row ++ nb c.col.size 1 ++ c.col ++ nb c.ts 8)) (by first | (go_simp; done) | (go_simp; rfl)) rfl
          | 23, ho =>
            obtain rfl : _ = o := Option.some.inj ho
            have h1 : a'.eval (.tmp 1) = .pointer (some ⟨w.heap.size, 0, none⟩) := hk 1 (by kernel_rfl)
            obtain ⟨ρ, hρ⟩ : ∃ ρ, a'.eval = ρ := ⟨_, rfl⟩
            rw [hρ] at h1
            exact Stp.pure hρ (.pointer (some ⟨w.heap.size, 3, none⟩)) (by first | (go_simp; done) | (go_simp; rfl)) rfl
          | 24, ho =>
            obtain rfl : _ = o := Option.some.inj ho
            have h33 : a'.eval (.tmp 33) = .pointer (some ⟨w.heap.size, 3, none⟩) := hv 23 (by kernel_rfl)
            obtain ⟨ρ, hρ⟩ : ∃ ρ, a'.eval = ρ := ⟨_, rfl⟩
            rw [hρ] at h33
            exact Stp.pure hρ (.int .u64 c.seq) (by first | (go_simp; done) | (go_simp; rfl)) rfl
          | 25, ho =>
            obtain rfl : _ = o := Option.some.inj ho
            have h34 : a'.eval (.tmp 34) = .int .u64 c.seq := hv 24 (by kernel_rfl)
            refine Stp.call 36 #[a'.eval (.tmp 34), .bool false] (.string (nb c.seq 8)) (by kernel_rfl) ?_ (fun _ => rfl)
            rw [h34]
            exact refNumber_any c.seq hsq w'
          | 26, ho =>
            obtain rfl : _ = o := Option.some.inj ho
            have h32 : a'.eval (.tmp 32) = .string (nb c.row.size 1 ++ c.row ++ nb c.col.size 1 ++ c.col ++ nb c.ts 8) := hv 22 (by kernel_rfl)
            have h35 : a'.eval (.tmp 35) = .string (nb c.seq 8) := hv 25 (by kernel_rfl)
            have hadd := add5
            obtain ⟨ρ, hρ⟩ : ∃ ρ, a'.eval = ρ := ⟨_, rfl⟩
            rw [hρ] at h32 h35
            exact Stp.pure hρ (.string (nb c.row.size 1 ++ c.row ++ nb c.col.size 1 ++ c.col ++ nb c.ts 8 ++ nb c.seq 8)) (by first | (go_simp; done) | (go_simp; rfl)) rfl
          | 27, ho =>
            obtain rfl : _ = o := Option.some.inj ho
            have h4 : a'.eval (.tmp 4) = .int .u8 (0 : Int) := hk 4 (by kernel_rfl)
            obtain ⟨ρ, hρ⟩ : ∃ ρ, a'.eval = ρ := ⟨_, rfl⟩
            rw [hρ] at h4
            exact Stp.pure hρ (.int .u8 (0 : Int)) (by first | (go_simp; done) | (go_simp; rfl)) rfl
          | 28, ho =>
            obtain rfl : _ = o := Option.some.inj ho
            have h1 : a'.eval (.tmp 1) = .pointer (some ⟨w.heap.size, 0, none⟩) := hk 1 (by kernel_rfl)
            obtain ⟨ρ, hρ⟩ : ∃ ρ, a'.eval = ρ := ⟨_, rfl⟩
            rw [hρ] at h1
            exact Stp.pure hρ (.pointer (some ⟨w.heap.size, 5, none⟩)) (by first | (go_simp; done) | (go_simp; rfl)) rfl
          | 29, ho =>
            obtain rfl : _ = o := Option.some.inj ho
            have h38 : a'.eval (.tmp 38) = .pointer (some ⟨w.heap.size, 5, none⟩) := hv 28 (by kernel_rfl)
            obtain ⟨ρ, hρ⟩ : ∃ ρ, a'.eval = ρ := ⟨_, rfl⟩
            rw [hρ] at h38
            exact Stp.pure hρ (.string c.val) (by first | (go_simp; done) | (go_simp; rfl)) rfl
          | 30, ho =>
            obtain rfl : _ = o := Option.some.inj ho
            have h39 : a'.eval (.tmp 39) = .string c.val := hv 29 (by kernel_rfl)
            obtain ⟨ρ, hρ⟩ : ∃ ρ, a'.eval = ρ := ⟨_, rfl⟩
            rw [hρ] at h39
            exact Stp.pure hρ (.int .i64 c.val.size) (by first | (go_simp; done) | (go_simp; rfl)) rfl
          | 31, ho =>
            obtain rfl : _ = o := Option.some.inj ho
            have h40 : a'.eval (.tmp 40) = .int .i64 c.val.size := hv 30 (by kernel_rfl)
            obtain ⟨ρ, hρ⟩ : ∃ ρ, a'.eval = ρ := ⟨_, rfl⟩
            rw [hρ] at h40
            exact Stp.pure hρ (.int .u8 ((c.val.size : Int) % 256)) (by first | (go_simp; done) | (go_simp; rfl)) rfl
          | 32, ho =>
            obtain rfl : _ = o := Option.some.inj ho
            have h37 : a'.eval (.tmp 37) = .int .u8 (0 : Int) := hv 27 (by kernel_rfl)
            have h41 : a'.eval (.tmp 41) = .int .u8 ((c.val.size : Int) % 256) := hv 31 (by kernel_rfl)
            obtain ⟨ρ, hρ⟩ : ∃ ρ, a'.eval = ρ := ⟨_, rfl⟩
            rw [hρ] at h37 h41
            exact Stp.val hρ (.slice (some ⟨w'.heap.size, 0, none⟩) 2 2) (w'.alloc (.cells (([(0 : Int), (c.val.size : Int) % 256] : List Int).map (Value.int .u8)).toArray 5)) (by simp only [List.map_cons, List.map_nil]; first | (go_simp; done) | (go_simp; rfl)) (below_al _ _) ⟨_, rfl, Bys.made w' [(0 : Int), (c.val.size : Int) % 256]⟩
          | 33, ho =>
            obtain rfl : _ = o := Option.some.inj ho
            obtain ⟨b42, h42, hB42⟩ : ∃ b, a'.eval (.tmp 42) = .slice (some ⟨b, 0, none⟩) 2 2 ∧ Bys w' b [(0 : Int), (c.val.size : Int) % 256] := hv 32 (by kernel_rfl)
            have hst := run_strX (c := 2) hB42 2 rfl
            rw [nb_fl] at hst
            obtain ⟨ρ, hρ⟩ : ∃ ρ, a'.eval = ρ := ⟨_, rfl⟩
            rw [hρ] at h42
            exact Stp.pure hρ (.string (nb 0 1 ++ nb c.val.size 1)) (by first | (go_simp; done) | (go_simp; rfl)) rfl
          | 34, ho =>
            obtain rfl : _ = o := Option.some.inj ho
            have h36 : a'.eval (.tmp 36) = .string (nb c.row.size 1 ++ c.row ++ nb c.col.size 1 ++ c.col ++ nb c.ts 8 ++ nb c.seq 8) := hv 26 (by kernel_rfl)
            have h43 : a'.eval (.tmp 43) = .string (nb 0 1 ++ nb c.val.size 1) := hv 33 (by kernel_rfl)
            have hadd := add6
            obtain ⟨ρ, hρ⟩ : ∃ ρ, a'.eval = ρ := ⟨_, rfl⟩
            rw [hρ] at h36 h43
            exact Stp.pure hρ (.string (nb c.row.size 1 ++ c.row ++ nb c.col.size 1 ++ c.col ++ nb c.ts 8 ++ nb c.seq 8 ++ (nb 0 1 ++ nb c.val.size 1))) (by first | (go_simp; done) | (go_simp; rfl)) rfl
          | 35, ho =>
            obtain rfl : _ = o := Option.some.inj ho
            have h1 : a'.eval (.tmp 1) = .pointer (some ⟨w.heap.size, 0, none⟩) := hk 1 (by kernel_rfl)
            obtain ⟨ρ, hρ⟩ : ∃ ρ, a'.eval = ρ := ⟨_, rfl⟩
            rw [hρ] at h1
            exact Stp.pure hρ (.pointer (some ⟨w.heap.size, 5, none⟩)) (by first | (go_simp; done) | (go_simp; rfl)) rfl
          | 36, ho =>
            obtain rfl : _ = o := Option.some.inj ho
            have h45 : a'.eval (.tmp 45) = .pointer (some ⟨w.heap.size, 5, none⟩) := hv 35 (by kernel_rfl)
            obtain ⟨ρ, hρ⟩ : ∃ ρ, a'.eval = ρ := ⟨_, rfl⟩
            rw [hρ] at h45
            exact Stp.pure hρ (.string c.val) (by first | (go_simp; done) | (go_simp; rfl)) rfl
          | 37, ho =>
            obtain rfl : _ = o := Option.some.inj ho
            have h44 : a'.eval (.tmp 44) = .string (nb c.row.size 1 ++ c.row ++ nb c.col.size 1 ++ c.col ++ nb c.ts 8 ++ nb c.seq 8 ++ (nb 0 1 ++ nb c.val.size 1)) := hv 34 (by kernel_rfl)
            have h46 : a'.eval (.tmp 46) = .string c.val := hv 36 (by kernel_rfl)
            have hadd := add7
            obtain ⟨ρ, hρ⟩ : ∃ ρ, a'.eval = ρ := ⟨_, rfl⟩
            rw [hρ] at h44 h46
            exact Stp.pure hρ (.string (nb c.row.size 1 ++ c.row ++ nb c.col.size 1 ++ c.col ++ nb c.ts 8 ++ nb c.seq 8 ++ (nb 0 1 ++ nb c.val.size 1) ++ c.val)) (by first | (go_simp; done) | (go_simp; rfl)) rfl
          | 38, ho =>
            obtain rfl : _ = o := Option.some.inj ho
            have h47 : a'.eval (.tmp 47) = .string (nb c.row.size 1 ++ c.row ++ nb c.col.size 1 ++ c.col ++ nb c.ts 8 ++ nb c.seq 8 ++ (nb 0 1 ++ nb c.val.size 1) ++ c.val) := hv 37 (by kernel_rfl)
            obtain ⟨ρ, hρ⟩ : ∃ ρ, a'.eval = ρ := ⟨_, rfl⟩
            rw [hρ] at h47
            exact Stp.pure hρ (.string (nb c.row.size 1 ++ c.row ++ nb c.col.size 1 ++ c.col ++ nb c.ts 8 ++ nb c.seq 8 ++ (nb 0 1 ++ nb c.val.size 1) ++ c.val)) (by first | (go_simp; done) | (go_simp; rfl)) rfl
          | 39, ho =>
            obtain rfl : _ = o := Option.some.inj ho
            obtain ⟨ρ, hρ⟩ : ∃ ρ, a'.eval = ρ := ⟨_, rfl⟩
            have hcs : ∀ v, ρ (.const v) = v := by rw [← hρ]; exact fun _ => rfl
            exact Stp.pure hρ (.int .i64 0) (by first | (go_simp; done) | (go_simp; rfl)) rfl
          | k + 40, ho => exact absurd (Array.getElem?_eq_some_iff.1 ho).1 (by simp)
        case done =>
          intro u w' hb hV
          have h38 := hV 38 (by decide)
          have h39 := hV 39 (by decide)
          refine hK1 _ _ (Met.intro (hJ1 _ _ ?_))
          repeat apply Exists.intro
          refine And.intro ?rel ?act
          case act => rfl
          case rel => exact ⟨h38, h39, Lib.hid hb⟩
      case rest =>
        obtain ⟨rfl, rfl, HBC⟩ := hcut
        clear add1 add2 add3 add4 add5 add6 add7 nb_fl
        go_wp2
        go_ret2
        exact ⟨by rw [HE.out]; rfl, HB1.out.trans (HBC.out.mono HB1.out.size)⟩
end Go.Proofs.Ytiiogdgnccgehaa
