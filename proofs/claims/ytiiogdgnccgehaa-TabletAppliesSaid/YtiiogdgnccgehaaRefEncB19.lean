/-
  The walk of the reference's Encode at good batches. No conditions.
-/
import Derived.Test.YtiiogdgnccgehaaRefEncKit19
namespace Go.Proofs.Ytiiogdgnccgehaa
open Go.RowKit
attribute [local go_sem ↓] Go.wp_at_zero Go.wp_at_succ


def encM_ds : List Nat := [108, 109, 110, 111, 112, 113, 114, 115, 116, 117, 118, 119, 120, 121, 122, 123, 7]
def encM_V (g cl n : Nat) (A : Option Addr) (N k : Nat) (v : Value) (w : World) : Nat → Prop
  | 0 => v = .string (nb 1 1)
  | 1 => v = .pointer (some ⟨g, 1, none⟩)
  | 2 => v = .int .u64 cl
  | 3 => v = .string (nb cl 8)
  | 4 => v = .string (nb 1 1 ++ nb cl 8)
  | 5 => v = .pointer (some ⟨g, 2, none⟩)
  | 6 => v = .int .u64 n
  | 7 => v = .string (nb n 8)
  | 8 => v = .string (nb 1 1 ++ nb cl 8 ++ nb n 8)
  | 9 => v = .pointer (some ⟨g, 3, none⟩)
  | 10 => v = .slice A N k
  | 11 => v = .int .i64 N
  | 12 => v = .int .u8 ((N : Int) % 256)
  | 13 => ∃ b, v = .slice (some ⟨b, 0, none⟩) 1 1 ∧ Bys w b [(N : Int) % 256]
  | 14 => v = .string (nb N 1)
  | 15 => v = .string (nb 1 1 ++ nb cl 8 ++ nb n 8 ++ nb N 1)
  | 16 => v = .string (nb 1 1 ++ nb cl 8 ++ nb n 8 ++ nb N 1)
  | _ => True
theorem encM_mono (g cl n : Nat) (A : Option Addr) (N k : Nat) : ∀ j v w1 w2, encM_V g cl n A N k v w1 j → Below w1.heap.size w1 w2 → encM_V g cl n A N k v w2 j := by
  intro j v w1 w2 h hb
  revert h
  unfold encM_V
  split <;> (intro h; first | exact h | (obtain ⟨b, h1, h2⟩ := h; exact ⟨b, h1, h2.keep hb⟩))
theorem batch_acc {acc : ByteArray} {client num N i : Nat} {cells : List Cl} (h : acc = cat (headB client num N ++ (cells.take i).map cellB)) (ha : allTo may cells i) (hn : cells.length ≤ 100) (hi : i ≤ cells.length) : acc.size ≤ 50000 := by
  have h1 := cat_size (headB client num N ++ (cells.take i).map cellB) 300 (by
    intro s hs
    unfold headB at hs
    simp only [List.mem_append, List.mem_cons, List.not_mem_nil, or_false, List.mem_map] at hs
    rcases hs with (rfl | rfl | rfl | rfl) | ⟨y, hy, rfl⟩
    · rw [nb_size]; omega
    · rw [nb_size]; omega
    · rw [nb_size]; omega
    · rw [nb_size]; omega
    · obtain ⟨j, hj, rfl⟩ := List.getElem_of_mem hy
      rw [List.length_take] at hj
      rw [List.getElem_take]
      have := cellB_size (ha j (by omega) (by omega))
      omega)
  have h2 : (headB client num N ++ (cells.take i).map cellB).length ≤ 104 := by
    unfold headB
    simp only [List.length_append, List.length_cons, List.length_nil, List.length_map, List.length_take]
    omega
  have h3 := Nat.mul_le_mul_right 300 h2
  rw [h]
  omega
set_option maxRecDepth 100000 in
set_option maxHeartbeats 16000000 in
theorem refEncode_1 (cmd : Cmd) (A : Option Addr) (k : Nat) (D : Option Addr) (m : Nat) (w : World) (hin : CmdIn w w.heap.size cmd A k D m) (hf : fitsC cmd) (hk : cmd.kind = 1) (hpl : plainC cmd = true) (hwd : wideC cmd = false) :
    Calls Try.prog 13 #[.agg (cmd.vs A k D m).toArray] w fun e w' => e = .returned (.tuple #[.string (encC cmd).1, .int .i64 (encC cmd).2]) ∧ Below w.heap.size w w' := by
  have hp := (plain_iff cmd).1 hpl
  have hw : ¬ (100 < cmd.cells.length ∨ 255 < cmd.files.length ∨ 255 < cmd.row.size) := fun h => by rw [(wide_iff cmd).2 h] at hwd; cases hwd
  obtain ⟨N, hN⟩ : ∃ N, cmd.cells.length = N := ⟨_, rfl⟩
  obtain ⟨M, hM⟩ : ∃ M, cmd.files.length = M := ⟨_, rfl⟩
  have HRE := Lib.hid (RE.start hin)
  have HN := Lib.hid hN
  have HM := Lib.hid hM
  have q0 := HRE.out.bx.cell (j := 0) rfl
  have q1 := HRE.out.bx.cell (j := 1) rfl
  have q2 := HRE.out.bx.cell (j := 2) rfl
  have q3 := (HRE.out.bx.cell (j := 3) rfl).trans (slice_eq2 rfl hN)
  have q4 := HRE.out.bx.cell (j := 4) rfl
  have q5 := HRE.out.bx.cell (j := 5) rfl
  have q6 := HRE.out.bx.cell (j := 6) rfl
  have q7 := HRE.out.bx.cell (j := 7) rfl
  have q8 := (HRE.out.bx.cell (j := 8) rfl).trans (slice_eq2 rfl hM)
  obtain ⟨CVS, hcv⟩ : ∃ CVS, (cmd.vs A k D m).toArray = CVS := ⟨_, rfl⟩
  obtain ⟨W0, hW0⟩ : ∃ W0, w.alloc (.cells CVS 34) = W0 := ⟨_, rfl⟩
  rw [hcv] at HRE q0 q1 q2 q3 q4 q5 q6 q7 q8 ⊢
  rw [hW0] at HRE q0 q1 q2 q3 q4 q5 q6 q7 q8
  have HW0 := Lib.hid hW0
  clear hW0 hcv hin
  rw [hN, hM] at hp hw
  have HF := Lib.hid hf
  have HK := Lib.hid hk
  have HPL := Lib.hid (And.intro hpl hwd)
  have hr := hp.2.2.1.resolve_left (by omega)
  have hi := hp.2.2.2.resolve_left (by omega)
  have hn100 : N ≤ 100 := by omega
  have hm255 : M ≤ 255 := by omega
  have e1 := req _ hr
  have e2 := eqz _ hi.1
  have e3 := eqz _ hi.2.1
  have e4 := eqz _ hi.2.2.1
  have e5 := eqz _ hi.2.2.2
  have e6 : decide ((100 : Int) < (N : Int)) = false := decide_eq_false (by omega)
  have e7 : decide ((255 : Int) < (M : Int)) = false := decide_eq_false (by omega)
  have e8 : decide ((255 : Int) < (cmd.row.size : Int)) = false := decide_eq_false (by omega)
  replace q0 := q0.trans (congrArg (fun (z : Int) => some (Value.int .i64 z)) HK.out)
  clear hf hN hM hp hw hr hi hk hpl hwd
  go_enter Try.func13, Try.ntmps13
  go_upto_region 8 with (rw [HW0.out])
  clear e1 e2 e3 e4 e5 e6 e7 e8
  clear q1 q2 q3 q4 q5 q6 q7 q8
  go_cut [7] (fun s7 wx => s7 = .string (nb 1 1) ∧ Hid (RE w wx cmd A k D m))
  case first =>
    have hst := lit_str W0 1 (by omega) 1 rfl
    go_wp2
    go_meet
    exact ⟨rfl, Lib.hid (HRE.out.below (below_al _ _))⟩
  case rest =>
  clear q0 HRE
  obtain ⟨rfl, HRE⟩ := hcut
  have q0 := (HRE.out.bx.cell (j := 0) rfl).trans (congrArg (fun (z : Int) => some (Value.int .i64 z)) HK.out)
  have q1 := HRE.out.bx.cell (j := 1) rfl
  have q2 := HRE.out.bx.cell (j := 2) rfl
  have q3 := (HRE.out.bx.cell (j := 3) rfl).trans (slice_eq2 rfl HN.out)
  have q4 := HRE.out.bx.cell (j := 4) rfl
  have q5 := HRE.out.bx.cell (j := 5) rfl
  have q6 := HRE.out.bx.cell (j := 6) rfl
  have q7 := HRE.out.bx.cell (j := 7) rfl
  have q8 := (HRE.out.bx.cell (j := 8) rfl).trans (slice_eq2 rfl HM.out)
  go_upto_region 11 with fail
  have hcl : cmd.client < 18446744073709551616 := HF.out.client
  have hn : cmd.num < 18446744073709551616 := HF.out.num
  have add1 := add_any (nb 1 1) (nb cmd.client 8) (by simp only [nb_size]; omega)
  have add2 := add_any (nb 1 1 ++ nb cmd.client 8) (nb cmd.num 8) (by simp only [ByteArray.size_append', nb_size]; omega)
  have add3 := add_any (nb 1 1 ++ nb cmd.client 8 ++ nb cmd.num 8) (nb N 1) (by simp only [ByteArray.size_append', nb_size]; omega)
  clear q0 q1 q2 q3 q4 q5 q6 q7 q8
  go_cut [7] (fun s7 wx => s7 = .string (nb 1 1 ++ nb cmd.client 8 ++ nb cmd.num 8 ++ nb N 1) ∧ Hid (RE w wx cmd A k D m))
  case first =>
    rename_i J1 K1 hJ1 hK1
    refine region_tab (by kernel_rfl) encM_ds 196 rfl (by kernel_rfl) (fun j v w' => encM_V w.heap.size cmd.client cmd.num A N k v w' j) (encM_mono _ _ _ _ _ _) ?step ?done
    case step =>
      intro i o ho a' w' hb hkk hv
      have HR2 := Lib.hid (HRE.out.below hb)
      have d1 := HR2.out.bx.cell (j := 1) rfl
      have d2 := HR2.out.bx.cell (j := 2) rfl
      have d3 := (HR2.out.bx.cell (j := 3) rfl).trans (slice_eq2 rfl HN.out)
      have hk := hkk
      match i, ho with
      | 0, ho =>
        obtain rfl : _ = o := Option.some.inj ho
        have h7 : a'.eval (.tmp 7) = .string (nb 1 1) := hk 7 (by kernel_rfl)
        obtain ⟨ρ, hρ⟩ : ∃ ρ, a'.eval = ρ := ⟨_, rfl⟩
        rw [hρ] at h7
        exact Stp.pure hρ (.string (nb 1 1)) (by first | (go_simp; done) | (go_simp; rfl)) rfl
      | 1, ho =>
        obtain rfl : _ = o := Option.some.inj ho
        have h1 : a'.eval (.tmp 1) = .pointer (some ⟨w.heap.size, 0, none⟩) := hk 1 (by kernel_rfl)
        obtain ⟨ρ, hρ⟩ : ∃ ρ, a'.eval = ρ := ⟨_, rfl⟩
        rw [hρ] at h1
        exact Stp.pure hρ (.pointer (some ⟨w.heap.size, 1, none⟩)) (by first | (go_simp; done) | (go_simp; rfl)) rfl
      | 2, ho =>
        obtain rfl : _ = o := Option.some.inj ho
        have h109 : a'.eval (.tmp 109) = .pointer (some ⟨w.heap.size, 1, none⟩) := hv 1 (by kernel_rfl)
        obtain ⟨ρ, hρ⟩ : ∃ ρ, a'.eval = ρ := ⟨_, rfl⟩
        rw [hρ] at h109
        exact Stp.pure hρ (.int .u64 cmd.client) (by first | (go_simp; done) | (go_simp; rfl)) rfl
      | 3, ho =>
        obtain rfl : _ = o := Option.some.inj ho
        have h110 : a'.eval (.tmp 110) = .int .u64 cmd.client := hv 2 (by kernel_rfl)
        refine Stp.call 36 #[a'.eval (.tmp 110), .bool false] (.string (nb cmd.client 8)) (by kernel_rfl) ?_ (fun _ => rfl)
        rw [h110]
        exact refNumber_any cmd.client hcl w'
      | 4, ho =>
        obtain rfl : _ = o := Option.some.inj ho
        have h108 : a'.eval (.tmp 108) = .string (nb 1 1) := hv 0 (by kernel_rfl)
        have h111 : a'.eval (.tmp 111) = .string (nb cmd.client 8) := hv 3 (by kernel_rfl)
        have hadd := add1
        obtain ⟨ρ, hρ⟩ : ∃ ρ, a'.eval = ρ := ⟨_, rfl⟩
        rw [hρ] at h108 h111
        exact Stp.pure hρ (.string (nb 1 1 ++ nb cmd.client 8)) (by first | (go_simp; done) | (go_simp; rfl)) rfl
      | 5, ho =>
        obtain rfl : _ = o := Option.some.inj ho
        have h1 : a'.eval (.tmp 1) = .pointer (some ⟨w.heap.size, 0, none⟩) := hk 1 (by kernel_rfl)
        obtain ⟨ρ, hρ⟩ : ∃ ρ, a'.eval = ρ := ⟨_, rfl⟩
        rw [hρ] at h1
        exact Stp.pure hρ (.pointer (some ⟨w.heap.size, 2, none⟩)) (by first | (go_simp; done) | (go_simp; rfl)) rfl
      | 6, ho =>
        obtain rfl : _ = o := Option.some.inj ho
        have h113 : a'.eval (.tmp 113) = .pointer (some ⟨w.heap.size, 2, none⟩) := hv 5 (by kernel_rfl)
        obtain ⟨ρ, hρ⟩ : ∃ ρ, a'.eval = ρ := ⟨_, rfl⟩
        rw [hρ] at h113
        exact Stp.pure hρ (.int .u64 cmd.num) (by first | (go_simp; done) | (go_simp; rfl)) rfl
      | 7, ho =>
        obtain rfl : _ = o := Option.some.inj ho
        have h114 : a'.eval (.tmp 114) = .int .u64 cmd.num := hv 6 (by kernel_rfl)
        refine Stp.call 36 #[a'.eval (.tmp 114), .bool false] (.string (nb cmd.num 8)) (by kernel_rfl) ?_ (fun _ => rfl)
        rw [h114]
        exact refNumber_any cmd.num hn w'
      | 8, ho =>
        obtain rfl : _ = o := Option.some.inj ho
        have h112 : a'.eval (.tmp 112) = .string (nb 1 1 ++ nb cmd.client 8) := hv 4 (by kernel_rfl)
        have h115 : a'.eval (.tmp 115) = .string (nb cmd.num 8) := hv 7 (by kernel_rfl)
        have hadd := add2
        obtain ⟨ρ, hρ⟩ : ∃ ρ, a'.eval = ρ := ⟨_, rfl⟩
        rw [hρ] at h112 h115
        exact Stp.pure hρ (.string (nb 1 1 ++ nb cmd.client 8 ++ nb cmd.num 8)) (by first | (go_simp; done) | (go_simp; rfl)) rfl
      | 9, ho =>
        obtain rfl : _ = o := Option.some.inj ho
        have h1 : a'.eval (.tmp 1) = .pointer (some ⟨w.heap.size, 0, none⟩) := hk 1 (by kernel_rfl)
        obtain ⟨ρ, hρ⟩ : ∃ ρ, a'.eval = ρ := ⟨_, rfl⟩
        rw [hρ] at h1
        exact Stp.pure hρ (.pointer (some ⟨w.heap.size, 3, none⟩)) (by first | (go_simp; done) | (go_simp; rfl)) rfl
      | 10, ho =>
        obtain rfl : _ = o := Option.some.inj ho
        have h117 : a'.eval (.tmp 117) = .pointer (some ⟨w.heap.size, 3, none⟩) := hv 9 (by kernel_rfl)
        obtain ⟨ρ, hρ⟩ : ∃ ρ, a'.eval = ρ := ⟨_, rfl⟩
        rw [hρ] at h117
        exact Stp.pure hρ (.slice A N k) (by first | (go_simp; done) | (go_simp; rfl)) rfl
      | 11, ho =>
        obtain rfl : _ = o := Option.some.inj ho
        have h118 : a'.eval (.tmp 118) = .slice A N k := hv 10 (by kernel_rfl)
        obtain ⟨ρ, hρ⟩ : ∃ ρ, a'.eval = ρ := ⟨_, rfl⟩
        rw [hρ] at h118
        exact Stp.pure hρ (.int .i64 N) (by first | (go_simp; done) | (go_simp; rfl)) rfl
      | 12, ho =>
        obtain rfl : _ = o := Option.some.inj ho
        have h119 : a'.eval (.tmp 119) = .int .i64 N := hv 11 (by kernel_rfl)
        obtain ⟨ρ, hρ⟩ : ∃ ρ, a'.eval = ρ := ⟨_, rfl⟩
        rw [hρ] at h119
        exact Stp.pure hρ (.int .u8 ((N : Int) % 256)) (by first | (go_simp; done) | (go_simp; rfl)) rfl
      | 13, ho =>
        obtain rfl : _ = o := Option.some.inj ho
        have h120 : a'.eval (.tmp 120) = .int .u8 ((N : Int) % 256) := hv 12 (by kernel_rfl)
        obtain ⟨ρ, hρ⟩ : ∃ ρ, a'.eval = ρ := ⟨_, rfl⟩
        rw [hρ] at h120
        exact Stp.val hρ (.slice (some ⟨w'.heap.size, 0, none⟩) 1 1) (w'.alloc (.cells (([(N : Int) % 256] : List Int).map (Value.int .u8)).toArray 5)) (by simp only [List.map_cons, List.map_nil]; first | (go_simp; done) | (go_simp; rfl)) (below_al _ _) ⟨_, rfl, Bys.made w' [(N : Int) % 256]⟩
      | 14, ho =>
        obtain rfl : _ = o := Option.some.inj ho
        obtain ⟨b121, h121, hB121⟩ : ∃ b, a'.eval (.tmp 121) = .slice (some ⟨b, 0, none⟩) 1 1 ∧ Bys w' b [(N : Int) % 256] := hv 13 (by kernel_rfl)
        have hst := run_strX (c := 1) hB121 1 rfl
        rw [nb_one] at hst
        obtain ⟨ρ, hρ⟩ : ∃ ρ, a'.eval = ρ := ⟨_, rfl⟩
        rw [hρ] at h121
        exact Stp.pure hρ (.string (nb N 1)) (by first | (go_simp; done) | (go_simp; rfl)) rfl
      | 15, ho =>
        obtain rfl : _ = o := Option.some.inj ho
        have h116 : a'.eval (.tmp 116) = .string (nb 1 1 ++ nb cmd.client 8 ++ nb cmd.num 8) := hv 8 (by kernel_rfl)
        have h122 : a'.eval (.tmp 122) = .string (nb N 1) := hv 14 (by kernel_rfl)
        have hadd := add3
        obtain ⟨ρ, hρ⟩ : ∃ ρ, a'.eval = ρ := ⟨_, rfl⟩
        rw [hρ] at h116 h122
        exact Stp.pure hρ (.string (nb 1 1 ++ nb cmd.client 8 ++ nb cmd.num 8 ++ nb N 1)) (by first | (go_simp; done) | (go_simp; rfl)) rfl
      | 16, ho =>
        obtain rfl : _ = o := Option.some.inj ho
        have h123 : a'.eval (.tmp 123) = .string (nb 1 1 ++ nb cmd.client 8 ++ nb cmd.num 8 ++ nb N 1) := hv 15 (by kernel_rfl)
        obtain ⟨ρ, hρ⟩ : ∃ ρ, a'.eval = ρ := ⟨_, rfl⟩
        rw [hρ] at h123
        exact Stp.pure hρ (.string (nb 1 1 ++ nb cmd.client 8 ++ nb cmd.num 8 ++ nb N 1)) (by first | (go_simp; done) | (go_simp; rfl)) rfl
      | k + 17, ho => exact absurd (Array.getElem?_eq_some_iff.1 ho).1 (by simp)
    case done =>
      intro u w' hb hV
      have h16 := hV 16 (by decide)
      refine hK1 _ _ (Met.intro (hJ1 _ _ ?_))
      repeat apply Exists.intro
      refine And.intro ?rel ?act
      case act => rfl
      case rel => exact ⟨h16, Lib.hid (HRE.out.below hb)⟩
  case rest =>
  clear HRE add1 add2 add3 hcl hn
  obtain ⟨rfl, HRE⟩ := hcut
  have q0 := (HRE.out.bx.cell (j := 0) rfl).trans (congrArg (fun (z : Int) => some (Value.int .i64 z)) HK.out)
  have q1 := HRE.out.bx.cell (j := 1) rfl
  have q2 := HRE.out.bx.cell (j := 2) rfl
  have q3 := (HRE.out.bx.cell (j := 3) rfl).trans (slice_eq2 rfl HN.out)
  have q4 := HRE.out.bx.cell (j := 4) rfl
  have q5 := HRE.out.bx.cell (j := 5) rfl
  have q6 := HRE.out.bx.cell (j := 6) rfl
  have q7 := HRE.out.bx.cell (j := 7) rfl
  have q8 := (HRE.out.bx.cell (j := 8) rfl).trans (slice_eq2 rfl HM.out)
  have HA0 := Lib.hid (show nb 1 1 ++ nb cmd.client 8 ++ nb cmd.num 8 ++ nb N 1 = cat (headB cmd.client cmd.num N ++ (cmd.cells.take 0).map cellB) by unfold headB; simp only [List.take_zero, List.map_nil, List.append_nil, cat_cons, cat_nil, ByteArray.append_assoc]; rw [show nb N 1 ++ (⟨#[]⟩ : ByteArray) = nb N 1 from ByteArray.append_empty])
  obtain ⟨acc0, hacc0⟩ : ∃ a, nb 1 1 ++ nb cmd.client 8 ++ nb cmd.num 8 ++ nb N 1 = a := ⟨_, rfl⟩
  rw [hacc0] at HA0 ⊢
  clear hacc0
  go_wp2
  clear q0 q1 q2 q3 q4 q5 q6 q7 q8
  have HIN := Lib.hid HRE.out.cin
  go_loopw [7, 8] (fun v7 v8 wr => ∃ (i : Nat) (acc : ByteArray), v7 = .string acc ∧ v8 = .int .i64 (i : Int) ∧ i ≤ N ∧ Hid (acc = cat (headB cmd.client cmd.num N ++ (cmd.cells.take i).map cellB)) ∧ Hid (allTo may cmd.cells i) ∧ Hid (RE w wr cmd A k D m)) (fun _ v8 _ => N - (intOf v8).toNat)
  case atStart => exact ⟨0, acc0, rfl, rfl, Nat.zero_le _, HA0, Lib.hid (allTo.zero _ _), HRE⟩
  case round =>
    clear HRE HA0
    obtain ⟨i, acc, rfl, rfl, hi, HAC, HA, HRE⟩ := hrel
    rename World => wr
    have q3 := (HRE.out.bx.cell (j := 3) rfl).trans (slice_eq2 rfl HN.out)
    by_cases hit : i < N
    · have hil : i < cmd.cells.length := by rw [HN.out]; exact hit
      have e1 : decide ((i : Int) < (N : Int)) = true := decide_eq_true (by omega)
      have k3 : (0 : Int) ≤ (i : Int) := by omega
      have k4 : (i : Int) < (N : Int) := by omega
      have hw3 : IntKind.i64.wrap ((i : Int) + 1) = ((i + 1 : Nat) : Int) := by rw [IntWalk.i64_in _ (by omega)]; omega
      have hsz := batch_acc HAC.out HA.out (by rw [HN.out]; omega) (by rw [HN.out]; omega)
      obtain ⟨b, o, rfl, hb, hc⟩ := (HIN.out.rc.below HRE.out.bl).at_ (vals_ne hil)
      obtain ⟨z0, z1, z2, z3, z4, z5⟩ := Rd.cell_at (_B := 0) hc i hil
      have HFX := Lib.hid (HF.out.cells _ (List.getElem_mem hil))
      have HAS := Lib.hid (fun h => HA.out.succ hil h)
      have HAN := Lib.hid (fun h => all_not (p := may) hil h)
      have HTK := Lib.hid (take_mapS (f := cellB) hil)
      obtain ⟨x, hx⟩ : ∃ x, cmd.cells[i] = x := ⟨_, rfl⟩
      rw [hx] at z0 z1 z2 z3 z4 z5 HAS HAN HTK HFX
      clear hc hx
      cases hmx : may x with
      | false =>
        have HR := Lib.hid (encC_may (c := cmd) HPL.out.1 HPL.out.2 (HAN.out hmx))
        have HE := Lib.hid (show encCl x = (⟨#[]⟩, 1) by unfold encCl; rw [hmx]; rfl)
        clear hmx
        go_wp2_with (go_at_call 37; go_loud (refine (refCellEnc_any x HFX.out _).mono ?_); rw [HE.out]; rintro e w9 ⟨rfl, hb9⟩)
        go_ret2
        exact ⟨by rw [HR.out]; rfl, HRE.out.bl.trans (hb9.mono HRE.out.bl.size)⟩
      | true =>
        have HA2 := Lib.hid (HAS.out hmx)
        have HE := Lib.hid (show encCl x = (cellB x, 0) by unfold encCl; rw [hmx]; rfl)
        have hcz := cellB_size hmx
        have hadd := add_any acc (cellB x) (by omega)
        clear hmx
        go_wp2_with (go_at_call 37; go_loud (refine (refCellEnc_any x HFX.out _).mono ?_); rw [HE.out]; rintro e w9 ⟨rfl, hb9⟩; have HRE9 := Lib.hid (HRE.out.below hb9); clear hb9)
        have HAC2 := Lib.hid (show acc ++ cellB x = cat (headB cmd.client cmd.num N ++ (cmd.cells.take (i + 1)).map cellB) by rw [HTK.out, ← List.append_assoc, cat_append, cat_one, ← HAC.out])
        exact ⟨⟨i + 1, acc ++ cellB x, rfl, by first | rfl | go_num, by omega, HAC2, HA2, HRE9⟩, by simp [intOf]; omega⟩
    · have e1 : decide ((i : Int) < (N : Int)) = false := decide_eq_false (by omega)
      have hall := HA.out.all (by rw [HN.out]; omega)
      have HR := Lib.hid (show encC cmd = (acc, 0) by
        rw [encC_good HPL.out.1 HPL.out.2 hall, HAC.out, List.take_of_length_le (by rw [HN.out]; omega)]
        unfold encB partsC headB batchP
        rw [if_pos HK.out, HN.out])
      go_wp2
      go_ret2
      exact ⟨by rw [HR.out]; rfl, HRE.out.bl⟩
end Go.Proofs.Ytiiogdgnccgehaa
