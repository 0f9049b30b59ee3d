/-
  The walk of the reference's Encode at good splits and ingests. No conditions.
-/
import Derived.Test.YtiiogdgnccgehaaRefEncB19
namespace Go.Proofs.Ytiiogdgnccgehaa
open Go.RowKit
attribute [local go_sem ↓] Go.wp_at_zero Go.wp_at_succ


def encI_ds : List Nat := [160, 161, 162, 163, 164, 165, 166, 167, 168, 169, 170, 171, 172, 173, 174, 175, 176, 177, 178, 179, 7]
def encI_V (g job sum ep : Nat) (D : Option Addr) (M m : Nat) (v : Value) (w : World) : Nat → Prop
  | 0 => v = .string (nb 3 1)
  | 1 => v = .pointer (some ⟨g, 5, none⟩)
  | 2 => v = .int .u64 job
  | 3 => v = .string (nb job 8)
  | 4 => v = .string (nb 3 1 ++ nb job 8)
  | 5 => v = .pointer (some ⟨g, 6, none⟩)
  | 6 => v = .int .u32 sum
  | 7 => v = .string (nb sum 4)
  | 8 => v = .string (nb 3 1 ++ nb job 8 ++ nb sum 4)
  | 9 => v = .pointer (some ⟨g, 7, none⟩)
  | 10 => v = .int .u64 ep
  | 11 => v = .string (nb ep 8)
  | 12 => v = .string (nb 3 1 ++ nb job 8 ++ nb sum 4 ++ nb ep 8)
  | 13 => v = .pointer (some ⟨g, 8, none⟩)
  | 14 => v = .slice D M m
  | 15 => v = .int .i64 M
  | 16 => v = .int .u8 ((M : Int) % 256)
  | 17 => ∃ b, v = .slice (some ⟨b, 0, none⟩) 1 1 ∧ Bys w b [(M : Int) % 256]
  | 18 => v = .string (nb M 1)
  | 19 => v = .string (nb 3 1 ++ nb job 8 ++ nb sum 4 ++ nb ep 8 ++ nb M 1)
  | 20 => v = .string (nb 3 1 ++ nb job 8 ++ nb sum 4 ++ nb ep 8 ++ nb M 1)
  | _ => True
theorem encI_mono (g job sum ep : Nat) (D : Option Addr) (M m : Nat) : ∀ j v w1 w2, encI_V g job sum ep D M m v w1 j → Below w1.heap.size w1 w2 → encI_V g job sum ep D M m v w2 j := by
  intro j v w1 w2 h hb
  revert h
  unfold encI_V
  split <;> (intro h; first | exact h | (obtain ⟨b, h1, h2⟩ := h; exact ⟨b, h1, h2.keep hb⟩))
theorem ingest_acc {acc : ByteArray} {job sum epoch M i : Nat} {files : List Nat} (h : acc = cat (headI job sum epoch M ++ (files.take i).map fun n => nb n 4)) (hn : files.length ≤ 255) (hi : i ≤ files.length) : acc.size ≤ 50000 := by
  have h1 := cat_size (headI job sum epoch M ++ (files.take i).map fun n => nb n 4) 8 (by
    intro s hs
    unfold headI at hs
    simp only [List.mem_append, List.mem_cons, List.not_mem_nil, or_false, List.mem_map] at hs
    rcases hs with (rfl | rfl | rfl | rfl | rfl) | ⟨y, hy, rfl⟩ <;> (rw [nb_size]; omega))
  have h2 : (headI job sum epoch M ++ (files.take i).map fun n => nb n 4).length ≤ 260 := by
    unfold headI
    simp only [List.length_append, List.length_cons, List.length_nil, List.length_map, List.length_take]
    omega
  have h3 := Nat.mul_le_mul_right 8 h2
  rw [h]
  omega
set_option maxRecDepth 100000 in
set_option maxHeartbeats 16000000 in
theorem refEncode_2 (cmd : Cmd) (A : Option Addr) (k : Nat) (D : Option Addr) (m : Nat) (w : World) (hin : CmdIn w w.heap.size cmd A k D m) (hf : fitsC cmd) (hk : cmd.kind = 2) (hpl : plainC cmd = true) (hwd : wideC cmd = false) :
    Calls Try.prog 13 #[.agg (cmd.vs A k D m).toArray] w fun e w' => e = .returned (.tuple #[.string (encC cmd).1, .int .i64 (encC cmd).2]) ∧ Below w.heap.size w w' := by
  have hp := (plain_iff cmd).1 hpl
  have hw : ¬ (100 < cmd.cells.length ∨ 255 < cmd.files.length ∨ 255 < cmd.row.size) := fun h => by rw [(wide_iff cmd).2 h] at hwd; cases hwd
  obtain ⟨N, hN⟩ : ∃ N, cmd.cells.length = N := ⟨_, rfl⟩
  obtain ⟨M, hM⟩ : ∃ M, cmd.files.length = M := ⟨_, rfl⟩
  have HRE := Lib.hid (RE.start hin)
  have HN := Lib.hid hN
  have HM := Lib.hid hM
  have q0 := HRE.out.bx.cell (j := 0) rfl
  have q1 := HRE.out.bx.cell (j := 1) rfl
  have q2 := HRE.out.bx.cell (j := 2) rfl
  have q3 := (HRE.out.bx.cell (j := 3) rfl).trans (slice_eq2 rfl hN)
  have q4 := HRE.out.bx.cell (j := 4) rfl
  have q5 := HRE.out.bx.cell (j := 5) rfl
  have q6 := HRE.out.bx.cell (j := 6) rfl
  have q7 := HRE.out.bx.cell (j := 7) rfl
  have q8 := (HRE.out.bx.cell (j := 8) rfl).trans (slice_eq2 rfl hM)
  obtain ⟨CVS, hcv⟩ : ∃ CVS, (cmd.vs A k D m).toArray = CVS := ⟨_, rfl⟩
  obtain ⟨W0, hW0⟩ : ∃ W0, w.alloc (.cells CVS 34) = W0 := ⟨_, rfl⟩
  rw [hcv] at HRE q0 q1 q2 q3 q4 q5 q6 q7 q8 ⊢
  rw [hW0] at HRE q0 q1 q2 q3 q4 q5 q6 q7 q8
  have HW0 := Lib.hid hW0
  clear hW0 hcv hin
  rw [hN, hM] at hp hw
  have HF := Lib.hid hf
  have HK := Lib.hid hk
  have HPL := Lib.hid (And.intro hpl hwd)
  have hr := hp.2.1.resolve_left (by omega)
  have hi := hp.2.2.2.resolve_left (by omega)
  have hn100 : N ≤ 100 := by omega
  have hm255 : M ≤ 255 := by omega
  have hr255 : cmd.row.size ≤ 255 := by omega
  have e1 := eqz _ hr.1
  have e9 := eqz _ hr.2.1
  have e10 := eqz _ hr.2.2
  have e2 := eqz _ hi.1
  have e3 := eqz _ hi.2.1
  have e4 := eqz _ hi.2.2.1
  have e5 := eqz _ hi.2.2.2
  have e6 : decide ((100 : Int) < (N : Int)) = false := decide_eq_false (by omega)
  have e7 : decide ((255 : Int) < (M : Int)) = false := decide_eq_false (by omega)
  have e8 : decide ((255 : Int) < (cmd.row.size : Int)) = false := decide_eq_false (by omega)
  replace q0 := q0.trans (congrArg (fun (z : Int) => some (Value.int .i64 z)) HK.out)
  have HZ := Lib.hid (show N = 0 from hr.2.2)
  clear hf hN hM hp hw hr hi hk hpl hwd
  go_enter Try.func13, Try.ntmps13
  go_upto_region 8 with (rw [HW0.out])
  clear e9 e10 e1 e2 e3 e4 e5 e6 e7 e8
  clear q1 q2 q3 q4 q5 q6 q7 q8
  go_cut [7] (fun s7 wx => s7 = .string (nb 2 1) ∧ Hid (RE w wx cmd A k D m))
  case first =>
    have hst := lit_str W0 2 (by omega) 2 rfl
    go_wp2
    go_meet
    exact ⟨rfl, Lib.hid (HRE.out.below (below_al _ _))⟩
  case rest =>
  clear q0 HRE
  obtain ⟨rfl, HRE⟩ := hcut
  have q0 := (HRE.out.bx.cell (j := 0) rfl).trans (congrArg (fun (z : Int) => some (Value.int .i64 z)) HK.out)
  have q1 := HRE.out.bx.cell (j := 1) rfl
  have q2 := HRE.out.bx.cell (j := 2) rfl
  have q3 := (HRE.out.bx.cell (j := 3) rfl).trans (slice_eq2 rfl HN.out)
  have q4 := HRE.out.bx.cell (j := 4) rfl
  have q5 := HRE.out.bx.cell (j := 5) rfl
  have q6 := HRE.out.bx.cell (j := 6) rfl
  have q7 := HRE.out.bx.cell (j := 7) rfl
  have q8 := (HRE.out.bx.cell (j := 8) rfl).trans (slice_eq2 rfl HM.out)
  go_upto_region 20 with fail
  clear q0 q1 q2 q3 q5 q6 q7 q8
  have HR := Lib.hid (show encC cmd = (nb 2 1 ++ nb cmd.row.size 1 ++ cmd.row, 0) by
    have hm : mayC cmd = true := by
      unfold mayC
      rw [List.length_eq_zero_iff.1 (HN.out.trans HZ.out)]
      rfl
    rw [encC_good HPL.out.1 HPL.out.2 hm]
    unfold encB partsC splitP
    rw [if_neg (by rw [HK.out]; omega), if_pos HK.out]
    simp only [cat_cons, cat_nil, ByteArray.append_assoc]
    rw [show cmd.row ++ (⟨#[]⟩ : ByteArray) = cmd.row from ByteArray.append_empty])
  have add1 := add_any (nb 2 1) (nb cmd.row.size 1) (by simp only [nb_size]; omega)
  have add2 := add_any (nb 2 1 ++ nb cmd.row.size 1) cmd.row (by simp only [ByteArray.size_append', nb_size]; omega)
  have hst := lit_str wc cmd.row.size (by omega) (cmd.row.size : Int) rfl
  have q4' := (HRE.out.below (below_al wc (.cells #[.int .u8 (cmd.row.size : Int)] 5))).bx.cell (j := 4) rfl
  go_wp2
  go_ret2
  exact ⟨by rw [HR.out]; rfl, (HRE.out.below (below_al wc (.cells #[.int .u8 (cmd.row.size : Int)] 5))).bl⟩
set_option maxRecDepth 100000 in
set_option maxHeartbeats 16000000 in
theorem refEncode_3 (cmd : Cmd) (A : Option Addr) (k : Nat) (D : Option Addr) (m : Nat) (w : World) (hin : CmdIn w w.heap.size cmd A k D m) (hf : fitsC cmd) (hk : cmd.kind = 3) (hpl : plainC cmd = true) (hwd : wideC cmd = false) :
    Calls Try.prog 13 #[.agg (cmd.vs A k D m).toArray] w fun e w' => e = .returned (.tuple #[.string (encC cmd).1, .int .i64 (encC cmd).2]) ∧ Below w.heap.size w w' := by
  have hp := (plain_iff cmd).1 hpl
  have hw : ¬ (100 < cmd.cells.length ∨ 255 < cmd.files.length ∨ 255 < cmd.row.size) := fun h => by rw [(wide_iff cmd).2 h] at hwd; cases hwd
  obtain ⟨N, hN⟩ : ∃ N, cmd.cells.length = N := ⟨_, rfl⟩
  obtain ⟨M, hM⟩ : ∃ M, cmd.files.length = M := ⟨_, rfl⟩
  have HRE := Lib.hid (RE.start hin)
  have HN := Lib.hid hN
  have HM := Lib.hid hM
  have q0 := HRE.out.bx.cell (j := 0) rfl
  have q1 := HRE.out.bx.cell (j := 1) rfl
  have q2 := HRE.out.bx.cell (j := 2) rfl
  have q3 := (HRE.out.bx.cell (j := 3) rfl).trans (slice_eq2 rfl hN)
  have q4 := HRE.out.bx.cell (j := 4) rfl
  have q5 := HRE.out.bx.cell (j := 5) rfl
  have q6 := HRE.out.bx.cell (j := 6) rfl
  have q7 := HRE.out.bx.cell (j := 7) rfl
  have q8 := (HRE.out.bx.cell (j := 8) rfl).trans (slice_eq2 rfl hM)
  obtain ⟨CVS, hcv⟩ : ∃ CVS, (cmd.vs A k D m).toArray = CVS := ⟨_, rfl⟩
  obtain ⟨W0, hW0⟩ : ∃ W0, w.alloc (.cells CVS 34) = W0 := ⟨_, rfl⟩
  rw [hcv] at HRE q0 q1 q2 q3 q4 q5 q6 q7 q8 ⊢
  rw [hW0] at HRE q0 q1 q2 q3 q4 q5 q6 q7 q8
  have HW0 := Lib.hid hW0
  clear hW0 hcv hin
  rw [hN, hM] at hp hw
  have HF := Lib.hid hf
  have HK := Lib.hid hk
  have HPL := Lib.hid (And.intro hpl hwd)
  have hr := hp.2.2.1.resolve_left (by omega)
  have hi := hp.2.1.resolve_left (by omega)
  have hn100 : N ≤ 100 := by omega
  have hm255 : M ≤ 255 := by omega
  have e1 := req _ hr
  have e2 := eqz _ hi.1
  have e3 := eqz _ hi.2.1
  have e4 := eqz _ hi.2.2
  have e6 : decide ((100 : Int) < (N : Int)) = false := decide_eq_false (by omega)
  have e7 : decide ((255 : Int) < (M : Int)) = false := decide_eq_false (by omega)
  have e8 : decide ((255 : Int) < (cmd.row.size : Int)) = false := decide_eq_false (by omega)
  replace q0 := q0.trans (congrArg (fun (z : Int) => some (Value.int .i64 z)) HK.out)
  have HZ := Lib.hid (show N = 0 from hi.2.2)
  clear hf hN hM hp hw hr hi hk hpl hwd
  go_enter Try.func13, Try.ntmps13
  go_upto_region 8 with (rw [HW0.out])
  clear e1 e2 e3 e4 e6 e7 e8
  clear q1 q2 q3 q4 q5 q6 q7 q8
  go_cut [7] (fun s7 wx => s7 = .string (nb 3 1) ∧ Hid (RE w wx cmd A k D m))
  case first =>
    have hst := lit_str W0 3 (by omega) 3 rfl
    go_wp2
    go_meet
    exact ⟨rfl, Lib.hid (HRE.out.below (below_al _ _))⟩
  case rest =>
  clear q0 HRE
  obtain ⟨rfl, HRE⟩ := hcut
  have q0 := (HRE.out.bx.cell (j := 0) rfl).trans (congrArg (fun (z : Int) => some (Value.int .i64 z)) HK.out)
  have q1 := HRE.out.bx.cell (j := 1) rfl
  have q2 := HRE.out.bx.cell (j := 2) rfl
  have q3 := (HRE.out.bx.cell (j := 3) rfl).trans (slice_eq2 rfl HN.out)
  have q4 := HRE.out.bx.cell (j := 4) rfl
  have q5 := HRE.out.bx.cell (j := 5) rfl
  have q6 := HRE.out.bx.cell (j := 6) rfl
  have q7 := HRE.out.bx.cell (j := 7) rfl
  have q8 := (HRE.out.bx.cell (j := 8) rfl).trans (slice_eq2 rfl HM.out)
  go_upto_region 22 with fail
  have hjob : cmd.job < 18446744073709551616 := HF.out.job
  have hsum := HF.out.sum
  have hep : cmd.epoch < 18446744073709551616 := HF.out.epoch
  have add1 := add_any (nb 3 1) (nb cmd.job 8) (by simp only [nb_size]; omega)
  have add2 := add_any (nb 3 1 ++ nb cmd.job 8) (nb cmd.sum 4) (by simp only [ByteArray.size_append', nb_size]; omega)
  have add3 := add_any (nb 3 1 ++ nb cmd.job 8 ++ nb cmd.sum 4) (nb cmd.epoch 8) (by simp only [ByteArray.size_append', nb_size]; omega)
  have add4 := add_any (nb 3 1 ++ nb cmd.job 8 ++ nb cmd.sum 4 ++ nb cmd.epoch 8) (nb M 1) (by simp only [ByteArray.size_append', nb_size]; omega)
  clear q0 q1 q2 q3 q4 q5 q6 q7 q8
  go_cut [7] (fun s7 wx => s7 = .string (nb 3 1 ++ nb cmd.job 8 ++ nb cmd.sum 4 ++ nb cmd.epoch 8 ++ nb M 1) ∧ Hid (RE w wx cmd A k D m))
  case first =>
    rename_i J1 K1 hJ1 hK1
    refine region_tab (by kernel_rfl) encI_ds 196 rfl (by kernel_rfl) (fun j v w' => encI_V w.heap.size cmd.job cmd.sum cmd.epoch D M m v w' j) (encI_mono _ _ _ _ _ _ _) ?step ?done
    case step =>
      intro i o ho a' w' hb hkk hv
      have HR2 := Lib.hid (HRE.out.below hb)
      have d5 := HR2.out.bx.cell (j := 5) rfl
      have d6 := HR2.out.bx.cell (j := 6) rfl
      have d7 := HR2.out.bx.cell (j := 7) rfl
      have d8 := (HR2.out.bx.cell (j := 8) rfl).trans (slice_eq2 rfl HM.out)
      have hk := hkk
      match i, ho with
      | 0, ho =>
        obtain rfl : _ = o := Option.some.inj ho
        have h7 : a'.eval (.tmp 7) = .string (nb 3 1) := hk 7 (by kernel_rfl)
        obtain ⟨ρ, hρ⟩ : ∃ ρ, a'.eval = ρ := ⟨_, rfl⟩
        rw [hρ] at h7
        exact Stp.pure hρ (.string (nb 3 1)) (by first | (go_simp; done) | (go_simp; rfl)) rfl
      | 1, ho =>
        obtain rfl : _ = o := Option.some.inj ho
        have h1 : a'.eval (.tmp 1) = .pointer (some ⟨w.heap.size, 0, none⟩) := hk 1 (by kernel_rfl)
        obtain ⟨ρ, hρ⟩ : ∃ ρ, a'.eval = ρ := ⟨_, rfl⟩
        rw [hρ] at h1
        exact Stp.pure hρ (.pointer (some ⟨w.heap.size, 5, none⟩)) (by first | (go_simp; done) | (go_simp; rfl)) rfl
      | 2, ho =>
        obtain rfl : _ = o := Option.some.inj ho
        have h161 : a'.eval (.tmp 161) = .pointer (some ⟨w.heap.size, 5, none⟩) := hv 1 (by kernel_rfl)
        obtain ⟨ρ, hρ⟩ : ∃ ρ, a'.eval = ρ := ⟨_, rfl⟩
        rw [hρ] at h161
        exact Stp.pure hρ (.int .u64 cmd.job) (by first | (go_simp; done) | (go_simp; rfl)) rfl
      | 3, ho =>
        obtain rfl : _ = o := Option.some.inj ho
        have h162 : a'.eval (.tmp 162) = .int .u64 cmd.job := hv 2 (by kernel_rfl)
        refine Stp.call 36 #[a'.eval (.tmp 162), .bool false] (.string (nb cmd.job 8)) (by kernel_rfl) ?_ (fun _ => rfl)
        rw [h162]
        exact refNumber_any cmd.job hjob w'
      | 4, ho =>
        obtain rfl : _ = o := Option.some.inj ho
        have h160 : a'.eval (.tmp 160) = .string (nb 3 1) := hv 0 (by kernel_rfl)
        have h163 : a'.eval (.tmp 163) = .string (nb cmd.job 8) := hv 3 (by kernel_rfl)
        have hadd := add1
        obtain ⟨ρ, hρ⟩ : ∃ ρ, a'.eval = ρ := ⟨_, rfl⟩
        rw [hρ] at h160 h163
        exact Stp.pure hρ (.string (nb 3 1 ++ nb cmd.job 8)) (by first | (go_simp; done) | (go_simp; rfl)) rfl
      | 5, ho =>
        obtain rfl : _ = o := Option.some.inj ho
        have h1 : a'.eval (.tmp 1) = .pointer (some ⟨w.heap.size, 0, none⟩) := hk 1 (by kernel_rfl)
        obtain ⟨ρ, hρ⟩ : ∃ ρ, a'.eval = ρ := ⟨_, rfl⟩
        rw [hρ] at h1
        exact Stp.pure hρ (.pointer (some ⟨w.heap.size, 6, none⟩)) (by first | (go_simp; done) | (go_simp; rfl)) rfl
      | 6, ho =>
        obtain rfl : _ = o := Option.some.inj ho
        have h165 : a'.eval (.tmp 165) = .pointer (some ⟨w.heap.size, 6, none⟩) := hv 5 (by kernel_rfl)
        obtain ⟨ρ, hρ⟩ : ∃ ρ, a'.eval = ρ := ⟨_, rfl⟩
        rw [hρ] at h165
        exact Stp.pure hρ (.int .u32 cmd.sum) (by first | (go_simp; done) | (go_simp; rfl)) rfl
      | 7, ho =>
        obtain rfl : _ = o := Option.some.inj ho
        have h166 : a'.eval (.tmp 166) = .int .u32 cmd.sum := hv 6 (by kernel_rfl)
        refine Stp.call 38 #[a'.eval (.tmp 166)] (.string (nb cmd.sum 4)) (by kernel_rfl) ?_ (fun _ => rfl)
        rw [h166]
        exact refFour_any cmd.sum hsum w'
      | 8, ho =>
        obtain rfl : _ = o := Option.some.inj ho
        have h164 : a'.eval (.tmp 164) = .string (nb 3 1 ++ nb cmd.job 8) := hv 4 (by kernel_rfl)
        have h167 : a'.eval (.tmp 167) = .string (nb cmd.sum 4) := hv 7 (by kernel_rfl)
        have hadd := add2
        obtain ⟨ρ, hρ⟩ : ∃ ρ, a'.eval = ρ := ⟨_, rfl⟩
        rw [hρ] at h164 h167
        exact Stp.pure hρ (.string (nb 3 1 ++ nb cmd.job 8 ++ nb cmd.sum 4)) (by first | (go_simp; done) | (go_simp; rfl)) rfl
      | 9, ho =>
        obtain rfl : _ = o := Option.some.inj ho
        have h1 : a'.eval (.tmp 1) = .pointer (some ⟨w.heap.size, 0, none⟩) := hk 1 (by kernel_rfl)
        obtain ⟨ρ, hρ⟩ : ∃ ρ, a'.eval = ρ := ⟨_, rfl⟩
        rw [hρ] at h1
        exact Stp.pure hρ (.pointer (some ⟨w.heap.size, 7, none⟩)) (by first | (go_simp; done) | (go_simp; rfl)) rfl
      | 10, ho =>
        obtain rfl : _ = o := Option.some.inj ho
        have h169 : a'.eval (.tmp 169) = .pointer (some ⟨w.heap.size, 7, none⟩) := hv 9 (by kernel_rfl)
        obtain ⟨ρ, hρ⟩ : ∃ ρ, a'.eval = ρ := ⟨_, rfl⟩
        rw [hρ] at h169
        exact Stp.pure hρ (.int .u64 cmd.epoch) (by first | (go_simp; done) | (go_simp; rfl)) rfl
      | 11, ho =>
        obtain rfl : _ = o := Option.some.inj ho
        have h170 : a'.eval (.tmp 170) = .int .u64 cmd.epoch := hv 10 (by kernel_rfl)
        refine Stp.call 36 #[a'.eval (.tmp 170), .bool false] (.string (nb cmd.epoch 8)) (by kernel_rfl) ?_ (fun _ => rfl)
        rw [h170]
        exact refNumber_any cmd.epoch hep w'
      | 12, ho =>
        obtain rfl : _ = o := Option.some.inj ho
        have h168 : a'.eval (.tmp 168) = .string (nb 3 1 ++ nb cmd.job 8 ++ nb cmd.sum 4) := hv 8 (by kernel_rfl)
        have h171 : a'.eval (.tmp 171) = .string (nb cmd.epoch 8) := hv 11 (by kernel_rfl)
        have hadd := add3
        obtain ⟨ρ, hρ⟩ : ∃ ρ, a'.eval = ρ := ⟨_, rfl⟩
        rw [hρ] at h168 h171
        exact Stp.pure hρ (.string (nb 3 1 ++ nb cmd.job 8 ++ nb cmd.sum 4 ++ nb cmd.epoch 8)) (by first | (go_simp; done) | (go_simp; rfl)) rfl
      | 13, ho =>
        obtain rfl : _ = o := Option.some.inj ho
        have h1 : a'.eval (.tmp 1) = .pointer (some ⟨w.heap.size, 0, none⟩) := hk 1 (by kernel_rfl)
        obtain ⟨ρ, hρ⟩ : ∃ ρ, a'.eval = ρ := ⟨_, rfl⟩
        rw [hρ] at h1
        exact Stp.pure hρ (.pointer (some ⟨w.heap.size, 8, none⟩)) (by first | (go_simp; done) | (go_simp; rfl)) rfl
      | 14, ho =>
        obtain rfl : _ = o := Option.some.inj ho
        have h173 : a'.eval (.tmp 173) = .pointer (some ⟨w.heap.size, 8, none⟩) := hv 13 (by kernel_rfl)
        obtain ⟨ρ, hρ⟩ : ∃ ρ, a'.eval = ρ := ⟨_, rfl⟩
        rw [hρ] at h173
        exact Stp.pure hρ (.slice D M m) (by first | (go_simp; done) | (go_simp; rfl)) rfl
      | 15, ho =>
        obtain rfl : _ = o := Option.some.inj ho
        have h174 : a'.eval (.tmp 174) = .slice D M m := hv 14 (by kernel_rfl)
        obtain ⟨ρ, hρ⟩ : ∃ ρ, a'.eval = ρ := ⟨_, rfl⟩
        rw [hρ] at h174
        exact Stp.pure hρ (.int .i64 M) (by first | (go_simp; done) | (go_simp; rfl)) rfl
      | 16, ho =>
        obtain rfl : _ = o := Option.some.inj ho
        have h175 : a'.eval (.tmp 175) = .int .i64 M := hv 15 (by kernel_rfl)
        obtain ⟨ρ, hρ⟩ : ∃ ρ, a'.eval = ρ := ⟨_, rfl⟩
        rw [hρ] at h175
        exact Stp.pure hρ (.int .u8 ((M : Int) % 256)) (by first | (go_simp; done) | (go_simp; rfl)) rfl
      | 17, ho =>
        obtain rfl : _ = o := Option.some.inj ho
        have h176 : a'.eval (.tmp 176) = .int .u8 ((M : Int) % 256) := hv 16 (by kernel_rfl)
        obtain ⟨ρ, hρ⟩ : ∃ ρ, a'.eval = ρ := ⟨_, rfl⟩
        rw [hρ] at h176
        exact Stp.val hρ (.slice (some ⟨w'.heap.size, 0, none⟩) 1 1) (w'.alloc (.cells (([(M : Int) % 256] : List Int).map (Value.int .u8)).toArray 5)) (by simp only [List.map_cons, List.map_nil]; first | (go_simp; done) | (go_simp; rfl)) (below_al _ _) ⟨_, rfl, Bys.made w' [(M : Int) % 256]⟩
      | 18, ho =>
        obtain rfl : _ = o := Option.some.inj ho
        obtain ⟨b177, h177, hB177⟩ : ∃ b, a'.eval (.tmp 177) = .slice (some ⟨b, 0, none⟩) 1 1 ∧ Bys w' b [(M : Int) % 256] := hv 17 (by kernel_rfl)
        have hst := run_strX (c := 1) hB177 1 rfl
        rw [nb_one] at hst
        obtain ⟨ρ, hρ⟩ : ∃ ρ, a'.eval = ρ := ⟨_, rfl⟩
        rw [hρ] at h177
        exact Stp.pure hρ (.string (nb M 1)) (by first | (go_simp; done) | (go_simp; rfl)) rfl
      | 19, ho =>
        obtain rfl : _ = o := Option.some.inj ho
        have h172 : a'.eval (.tmp 172) = .string (nb 3 1 ++ nb cmd.job 8 ++ nb cmd.sum 4 ++ nb cmd.epoch 8) := hv 12 (by kernel_rfl)
        have h178 : a'.eval (.tmp 178) = .string (nb M 1) := hv 18 (by kernel_rfl)
        have hadd := add4
        obtain ⟨ρ, hρ⟩ : ∃ ρ, a'.eval = ρ := ⟨_, rfl⟩
        rw [hρ] at h172 h178
        exact Stp.pure hρ (.string (nb 3 1 ++ nb cmd.job 8 ++ nb cmd.sum 4 ++ nb cmd.epoch 8 ++ nb M 1)) (by first | (go_simp; done) | (go_simp; rfl)) rfl
      | 20, ho =>
        obtain rfl : _ = o := Option.some.inj ho
        have h179 : a'.eval (.tmp 179) = .string (nb 3 1 ++ nb cmd.job 8 ++ nb cmd.sum 4 ++ nb cmd.epoch 8 ++ nb M 1) := hv 19 (by kernel_rfl)
        obtain ⟨ρ, hρ⟩ : ∃ ρ, a'.eval = ρ := ⟨_, rfl⟩
        rw [hρ] at h179
        exact Stp.pure hρ (.string (nb 3 1 ++ nb cmd.job 8 ++ nb cmd.sum 4 ++ nb cmd.epoch 8 ++ nb M 1)) (by first | (go_simp; done) | (go_simp; rfl)) rfl
      | k + 21, ho => exact absurd (Array.getElem?_eq_some_iff.1 ho).1 (by simp)
    case done =>
      intro u w' hb hV
      have h20 := hV 20 (by decide)
      refine hK1 _ _ (Met.intro (hJ1 _ _ ?_))
      repeat apply Exists.intro
      refine And.intro ?rel ?act
      case act => rfl
      case rel => exact ⟨h20, Lib.hid (HRE.out.below hb)⟩
  case rest =>
  clear HRE add1 add2 add3 add4 hjob hsum hep
  obtain ⟨rfl, HRE⟩ := hcut
  have q0 := (HRE.out.bx.cell (j := 0) rfl).trans (congrArg (fun (z : Int) => some (Value.int .i64 z)) HK.out)
  have q1 := HRE.out.bx.cell (j := 1) rfl
  have q2 := HRE.out.bx.cell (j := 2) rfl
  have q3 := (HRE.out.bx.cell (j := 3) rfl).trans (slice_eq2 rfl HN.out)
  have q4 := HRE.out.bx.cell (j := 4) rfl
  have q5 := HRE.out.bx.cell (j := 5) rfl
  have q6 := HRE.out.bx.cell (j := 6) rfl
  have q7 := HRE.out.bx.cell (j := 7) rfl
  have q8 := (HRE.out.bx.cell (j := 8) rfl).trans (slice_eq2 rfl HM.out)
  have HA0 := Lib.hid (show nb 3 1 ++ nb cmd.job 8 ++ nb cmd.sum 4 ++ nb cmd.epoch 8 ++ nb M 1 = cat (headI cmd.job cmd.sum cmd.epoch M ++ (cmd.files.take 0).map fun n => nb n 4) by unfold headI; simp only [List.take_zero, List.map_nil, List.append_nil, cat_cons, cat_nil, ByteArray.append_assoc]; rw [show nb M 1 ++ (⟨#[]⟩ : ByteArray) = nb M 1 from ByteArray.append_empty])
  obtain ⟨acc0, hacc0⟩ : ∃ a, nb 3 1 ++ nb cmd.job 8 ++ nb cmd.sum 4 ++ nb cmd.epoch 8 ++ nb M 1 = a := ⟨_, rfl⟩
  rw [hacc0] at HA0 ⊢
  clear hacc0
  go_wp2
  clear q0 q1 q2 q3 q4 q5 q6 q7 q8
  have HIN := Lib.hid HRE.out.cin
  go_loopw [7, 11] (fun v7 v8 wr => ∃ (i : Nat) (acc : ByteArray), v7 = .string acc ∧ v8 = .int .i64 (i : Int) ∧ i ≤ M ∧ Hid (acc = cat (headI cmd.job cmd.sum cmd.epoch M ++ (cmd.files.take i).map fun n => nb n 4)) ∧ Hid (RE w wr cmd A k D m)) (fun _ v8 _ => M - (intOf v8).toNat)
  case atStart => exact ⟨0, acc0, rfl, rfl, Nat.zero_le _, HA0, HRE⟩
  case round =>
    clear HRE HA0
    obtain ⟨i, acc, rfl, rfl, hi, HAC, HRE⟩ := hrel
    rename World => wr
    have q8 := (HRE.out.bx.cell (j := 8) rfl).trans (slice_eq2 rfl HM.out)
    by_cases hit : i < M
    · have hil : i < cmd.files.length := by rw [HM.out]; exact hit
      have e1 : decide ((i : Int) < (M : Int)) = true := decide_eq_true (by omega)
      have k3 : (0 : Int) ≤ (i : Int) := by omega
      have k4 : (i : Int) < (M : Int) := by omega
      have hw3 : IntKind.i64.wrap ((i : Int) + 1) = ((i + 1 : Nat) : Int) := by rw [IntWalk.i64_in _ (by omega)]; omega
      have hsz := ingest_acc HAC.out (by rw [HM.out]; omega) (by rw [HM.out]; omega)
      obtain ⟨b, o, rfl, hb, hc⟩ := (HIN.out.rf.below HRE.out.bl).at_ (u32s_ne hil)
      have z0 := Rd.u32_at hc i hil
      have HFX := Lib.hid (HF.out.files _ (List.getElem_mem hil))
      have HTK := Lib.hid (take_mapS (f := fun n => nb n 4) hil)
      obtain ⟨x, hx⟩ : ∃ x, cmd.files[i] = x := ⟨_, rfl⟩
      rw [hx] at z0 HTK HFX
      clear hc hx
      have hadd := add_any acc (nb x 4) (by rw [nb_size]; omega)
      go_wp2_with (go_at_call 38; go_loud (refine (refFour_any x HFX.out _).mono ?_); rintro e w9 ⟨rfl, hb9⟩; have HRE9 := Lib.hid (HRE.out.below hb9); clear hb9)
      have HAC2 := Lib.hid (show acc ++ nb x 4 = cat (headI cmd.job cmd.sum cmd.epoch M ++ (cmd.files.take (i + 1)).map fun n => nb n 4) by rw [HTK.out, ← List.append_assoc, cat_append, cat_one, ← HAC.out])
      exact ⟨⟨i + 1, acc ++ nb x 4, rfl, by first | rfl | go_num, by omega, HAC2, HRE9⟩, by simp [intOf]; omega⟩
    · have e1 : decide ((i : Int) < (M : Int)) = false := decide_eq_false (by omega)
      have HR := Lib.hid (show encC cmd = (acc, 0) by
        have hm : mayC cmd = true := by
          unfold mayC
          rw [List.length_eq_zero_iff.1 (HN.out.trans HZ.out)]
          rfl
        rw [encC_good HPL.out.1 HPL.out.2 hm, HAC.out, List.take_of_length_le (by rw [HM.out]; omega)]
        unfold encB partsC headI ingestP
        rw [if_neg (by rw [HK.out]; omega), if_neg (by rw [HK.out]; omega), HM.out])
      go_wp2
      go_ret2
      exact ⟨by rw [HR.out]; rfl, HRE.out.bl⟩
theorem refEncode_any (cmd : Cmd) (A : Option Addr) (k : Nat) (D : Option Addr) (m : Nat) (w : World) (hin : CmdIn w w.heap.size cmd A k D m) (hf : fitsC cmd) :
    Calls Try.prog 13 #[.agg (cmd.vs A k D m).toArray] w fun e w' => e = .returned (.tuple #[.string (encC cmd).1, .int .i64 (encC cmd).2]) ∧ Below w.heap.size w w' := by
  by_cases h : plainC cmd = true ∧ wideC cmd = false
  · have hp := (plain_iff cmd).1 h.1
    rcases (by omega : cmd.kind = 1 ∨ cmd.kind = 2 ∨ cmd.kind = 3) with hk | hk | hk
    · exact refEncode_1 cmd A k D m w hin hf hk h.1 h.2
    · exact refEncode_2 cmd A k D m w hin hf hk h.1 h.2
    · exact refEncode_3 cmd A k D m w hin hf hk h.1 h.2
  · exact refEncode_bad cmd A k D m w hin h
end Go.Proofs.Ytiiogdgnccgehaa
