/-
  The walk of the reference's Encode. No conditions.
-/
import Derived.Test.YtiiogdgnccgehaaRefCell19
namespace Go.Proofs.Ytiiogdgnccgehaa
open Go.RowKit
attribute [local go_sem ↓] Go.wp_at_zero Go.wp_at_succ


theorem nb_oneS (N : Nat) (h : N < 256) : ofL ([(N : Int)].map byteI) = nb N 1 := by
  rw [← nb_one N, show (N : Int) % 256 = N by omega]
theorem eqz (n : Nat) (h : n = 0) : ((n : Int) == 0) = true := by rw [h]; rfl
theorem nez (n : Nat) (h : ¬ n = 0) : ((n : Int) == 0) = false := by rw [beq_eq_false_iff_ne]; omega
/-- inside the reference's Encode -/
structure RE (w W : World) (cmd : Cmd) (A : Option Addr) (k : Nat) (D : Option Addr) (m : Nat) : Prop where
  bx : Blk 34 W w.heap.size (cmd.vs A k D m)
  bl : Below w.heap.size w W
  cin : CmdIn w w.heap.size cmd A k D m
theorem RE.start {w : World} {cmd : Cmd} {A : Option Addr} {k : Nat} {D : Option Addr} {m : Nat} (h : CmdIn w w.heap.size cmd A k D m) : RE w (w.alloc (.cells (cmd.vs A k D m).toArray 34)) cmd A k D m := ⟨Blk.new _ _ _, below_al _ _, h⟩
theorem RE.below {w W W' : World} {cmd : Cmd} {A : Option Addr} {k : Nat} {D : Option Addr} {m : Nat} (h : RE w W cmd A k D m) (hb : Below W.heap.size W W') : RE w W' cmd A k D m := ⟨h.bx.below hb h.bx.lt, h.bl.trans (hb.mono h.bl.size), h.cin⟩
theorem encC_bad {c : Cmd} (h : plainC c = false) : encC c = (⟨#[]⟩, 1) := by unfold encC; rw [h]; rfl
theorem encC_wide {c : Cmd} (h : plainC c = true) (hw : wideC c = true) : encC c = (⟨#[]⟩, 71) := by unfold encC; rw [h, hw]; rfl
theorem encC_may {c : Cmd} (h : plainC c = true) (hw : wideC c = false) (hm : mayC c = false) : encC c = (⟨#[]⟩, 1) := by unfold encC; rw [h, hw, hm]; rfl
theorem encC_good {c : Cmd} (h : plainC c = true) (hw : wideC c = false) (hm : mayC c = true) : encC c = (encB c, 0) := by unfold encC; rw [h, hw, hm]; rfl
theorem slice_eq2 {A B : Option Addr} {n m c : Nat} (h1 : A = B) (h2 : n = m) : some (Value.slice A n c) = some (Value.slice B m c) := by rw [h1, h2]

theorem plain_iff (c : Cmd) : plainC c = true ↔ (1 ≤ c.kind ∧ c.kind ≤ 3) ∧ (c.kind = 1 ∨ (c.client = 0 ∧ c.num = 0 ∧ c.cells.length = 0)) ∧ (c.kind = 2 ∨ c.row.size = 0) ∧ (c.kind = 3 ∨ (c.job = 0 ∧ c.sum = 0 ∧ c.epoch = 0 ∧ c.files.length = 0)) := by
  unfold plainC noBatch noSplit noIngest
  simp only [Bool.or_eq_true, Bool.and_eq_true, decide_eq_true_eq, List.length_eq_zero_iff]
  constructor
  · rintro ((⟨⟨h1, h2⟩, h3⟩ | ⟨⟨h1, h2⟩, h3⟩) | ⟨⟨h1, h2⟩, h3⟩)
    · exact ⟨by omega, .inl h1, .inr h2, .inr h3⟩
    · exact ⟨by omega, .inr h2, .inl h1, .inr h3⟩
    · exact ⟨by omega, .inr h2, .inr h3, .inl h1⟩
  · rintro ⟨⟨h1, h2⟩, h3, h4, h5⟩
    rcases (by omega : c.kind = 1 ∨ c.kind = 2 ∨ c.kind = 3) with h | h | h
    · exact .inl (.inl ⟨⟨h, h4.resolve_left (by omega)⟩, h5.resolve_left (by omega)⟩)
    · exact .inl (.inr ⟨⟨h, h3.resolve_left (by omega)⟩, h5.resolve_left (by omega)⟩)
    · exact .inr ⟨⟨h, h3.resolve_left (by omega)⟩, h4.resolve_left (by omega)⟩
theorem wide_iff (c : Cmd) : wideC c = true ↔ 100 < c.cells.length ∨ 255 < c.files.length ∨ 255 < c.row.size := by
  unfold wideC
  simp only [Bool.or_eq_true, decide_eq_true_eq]
  omega
theorem ieq (a b : Int) (h : a = b) : (a == b) = true := by rw [h]; exact beq_self_eq_true b
theorem ine (a b : Int) (h : ¬ a = b) : (a == b) = false := by rw [beq_eq_false_iff_ne]; exact h
theorem req (r : ByteArray) (h : r.size = 0) : (r.toList == []) = true := by rw [empty_size]; exact decide_eq_true h
theorem rne (r : ByteArray) (h : ¬ r.size = 0) : (r.toList == []) = false := by rw [empty_size]; exact decide_eq_false h
def isT (b : Bool) (p : Prop) : Prop := b = true ↔ p
theorem lit_str (W : World) (N : Nat) (h : N < 256) (z : Int) (hz : z = (N : Int)) : (convert 90 9 (.slice (some ⟨W.heap.size, 0, none⟩) 1 1)).run Try.prog (W.alloc (.cells #[.int .u8 z] 5)) = .ok (.string (nb N 1)) (W.alloc (.cells #[.int .u8 z] 5)) := by
  subst hz
  have h1 := run_strX (c := 1) (Bys.made W [(N : Int)]) 1 rfl
  rw [nb_oneS N h] at h1
  exact h1
set_option maxRecDepth 100000 in
set_option maxHeartbeats 16000000 in
theorem refEncode_bad (cmd : Cmd) (A : Option Addr) (k : Nat) (D : Option Addr) (m : Nat) (w : World) (hin : CmdIn w w.heap.size cmd A k D m) (hbad : ¬ (plainC cmd = true ∧ wideC cmd = false)) :
    Calls Try.prog 13 #[.agg (cmd.vs A k D m).toArray] w fun e w' => e = .returned (.tuple #[.string (encC cmd).1, .int .i64 (encC cmd).2]) ∧ Below w.heap.size w w' := by
  obtain ⟨N, hN⟩ : ∃ N, cmd.cells.length = N := ⟨_, rfl⟩
  obtain ⟨M, hM⟩ : ∃ M, cmd.files.length = M := ⟨_, rfl⟩
  have HRE := Lib.hid (RE.start hin)
  have HN := Lib.hid hN
  have HM := Lib.hid hM
  have q0 := HRE.out.bx.cell (j := 0) rfl
  have q1 := HRE.out.bx.cell (j := 1) rfl
  have q2 := HRE.out.bx.cell (j := 2) rfl
  have q3 := (HRE.out.bx.cell (j := 3) rfl).trans (slice_eq2 rfl hN)
  have q4 := HRE.out.bx.cell (j := 4) rfl
  have q5 := HRE.out.bx.cell (j := 5) rfl
  have q6 := HRE.out.bx.cell (j := 6) rfl
  have q7 := HRE.out.bx.cell (j := 7) rfl
  have q8 := (HRE.out.bx.cell (j := 8) rfl).trans (slice_eq2 rfl hM)
  obtain ⟨CVS, hcv⟩ : ∃ CVS, (cmd.vs A k D m).toArray = CVS := ⟨_, rfl⟩
  obtain ⟨W0, hW0⟩ : ∃ W0, w.alloc (.cells CVS 34) = W0 := ⟨_, rfl⟩
  rw [hcv] at HRE q0 q1 q2 q3 q4 q5 q6 q7 q8 ⊢
  rw [hW0] at HRE q0 q1 q2 q3 q4 q5 q6 q7 q8
  have HW0 := Lib.hid hW0
  clear hW0 hcv hin
  have HBAD := Lib.hid hbad
  clear hbad hN hM
  go_enter Try.func13, Try.ntmps13
  go_upto_region 1 with (rw [HW0.out])
  go_cut [4] (fun s4 wx => ∃ b : Bool, s4 = .bool b ∧ Hid (isT b (cmd.kind = 1 ∨ (cmd.client = 0 ∧ cmd.num = 0 ∧ N = 0))) ∧ W0 = wx)
  case first =>
    by_cases h0 : cmd.kind = 1
    · have e0 := ieq _ _ h0
      have HV := Lib.hid (show isT true (cmd.kind = 1 ∨ (cmd.client = 0 ∧ cmd.num = 0 ∧ N = 0)) by unfold isT; simp [h0])
      clear h0
      go_wp2
      go_meet
      exact ⟨true, rfl, HV, rfl⟩
    · have e0 := ine _ _ h0
      by_cases h1 : cmd.client = 0
      · have e1 := eqz _ h1
        by_cases h2 : cmd.num = 0
        · have e2 := eqz _ h2
          by_cases h3 : N = 0
          · have e3 := eqz _ h3
            have HV := Lib.hid (show isT true (cmd.kind = 1 ∨ (cmd.client = 0 ∧ cmd.num = 0 ∧ N = 0)) by unfold isT; simp [h1, h2, h3])
            clear h0 h1 h2 h3
            go_wp2
            go_meet
            exact ⟨true, rfl, HV, rfl⟩
          · have e3 := nez _ h3
            have HV := Lib.hid (show isT false (cmd.kind = 1 ∨ (cmd.client = 0 ∧ cmd.num = 0 ∧ N = 0)) by unfold isT; simp [h0, h1, h2, h3])
            clear h0 h1 h2 h3
            go_wp2
            go_meet
            exact ⟨false, rfl, HV, rfl⟩
        · have e2 := nez _ h2
          have HV := Lib.hid (show isT false (cmd.kind = 1 ∨ (cmd.client = 0 ∧ cmd.num = 0 ∧ N = 0)) by unfold isT; simp [h0, h1, h2])
          clear h0 h1 h2
          go_wp2
          go_meet
          exact ⟨false, rfl, HV, rfl⟩
      · have e1 := nez _ h1
        have HV := Lib.hid (show isT false (cmd.kind = 1 ∨ (cmd.client = 0 ∧ cmd.num = 0 ∧ N = 0)) by unfold isT; simp [h0, h1])
        clear h0 h1
        go_wp2
        go_meet
        exact ⟨false, rfl, HV, rfl⟩
  case rest =>
  obtain ⟨b4, rfl, HB4, rfl⟩ := hcut
  go_upto_region 2 with fail
  go_cut [5] (fun s5 wx => ∃ b : Bool, s5 = .bool b ∧ Hid (isT b (cmd.kind = 2 ∨ cmd.row.size = 0)) ∧ W0 = wx)
  case first =>
    by_cases h0 : cmd.kind = 2
    · have e0 := ieq _ _ h0
      have HV := Lib.hid (show isT true (cmd.kind = 2 ∨ cmd.row.size = 0) by unfold isT; simp [h0])
      clear h0
      go_wp2
      go_meet
      exact ⟨true, rfl, HV, rfl⟩
    · have e0 := ine _ _ h0
      by_cases h1 : cmd.row.size = 0
      · have e1 := req _ h1
        have HV := Lib.hid (show isT true (cmd.kind = 2 ∨ cmd.row.size = 0) by unfold isT; simp [h1])
        clear h0 h1
        go_wp2
        go_meet
        exact ⟨true, rfl, HV, rfl⟩
      · have e1 := rne _ h1
        have HV := Lib.hid (show isT false (cmd.kind = 2 ∨ cmd.row.size = 0) by unfold isT; simp [h0, h1])
        clear h0 h1
        go_wp2
        go_meet
        exact ⟨false, rfl, HV, rfl⟩
  case rest =>
  obtain ⟨b5, rfl, HB5, rfl⟩ := hcut
  go_upto_region 3 with fail
  go_cut [6] (fun s6 wx => ∃ b : Bool, s6 = .bool b ∧ Hid (isT b (cmd.kind = 3 ∨ (cmd.job = 0 ∧ cmd.sum = 0 ∧ cmd.epoch = 0 ∧ M = 0))) ∧ W0 = wx)
  case first =>
    by_cases h0 : cmd.kind = 3
    · have e0 := ieq _ _ h0
      have HV := Lib.hid (show isT true (cmd.kind = 3 ∨ (cmd.job = 0 ∧ cmd.sum = 0 ∧ cmd.epoch = 0 ∧ M = 0)) by unfold isT; simp [h0])
      clear h0
      go_wp2
      go_meet
      exact ⟨true, rfl, HV, rfl⟩
    · have e0 := ine _ _ h0
      by_cases h1 : cmd.job = 0
      · have e1 := eqz _ h1
        by_cases h2 : cmd.sum = 0
        · have e2 := eqz _ h2
          by_cases h3 : cmd.epoch = 0
          · have e3 := eqz _ h3
            by_cases h4 : M = 0
            · have e4 := eqz _ h4
              have HV := Lib.hid (show isT true (cmd.kind = 3 ∨ (cmd.job = 0 ∧ cmd.sum = 0 ∧ cmd.epoch = 0 ∧ M = 0)) by unfold isT; simp [h1, h2, h3, h4])
              clear h0 h1 h2 h3 h4
              go_wp2
              go_meet
              exact ⟨true, rfl, HV, rfl⟩
            · have e4 := nez _ h4
              have HV := Lib.hid (show isT false (cmd.kind = 3 ∨ (cmd.job = 0 ∧ cmd.sum = 0 ∧ cmd.epoch = 0 ∧ M = 0)) by unfold isT; simp [h0, h1, h2, h3, h4])
              clear h0 h1 h2 h3 h4
              go_wp2
              go_meet
              exact ⟨false, rfl, HV, rfl⟩
          · have e3 := nez _ h3
            have HV := Lib.hid (show isT false (cmd.kind = 3 ∨ (cmd.job = 0 ∧ cmd.sum = 0 ∧ cmd.epoch = 0 ∧ M = 0)) by unfold isT; simp [h0, h1, h2, h3])
            clear h0 h1 h2 h3
            go_wp2
            go_meet
            exact ⟨false, rfl, HV, rfl⟩
        · have e2 := nez _ h2
          have HV := Lib.hid (show isT false (cmd.kind = 3 ∨ (cmd.job = 0 ∧ cmd.sum = 0 ∧ cmd.epoch = 0 ∧ M = 0)) by unfold isT; simp [h0, h1, h2])
          clear h0 h1 h2
          go_wp2
          go_meet
          exact ⟨false, rfl, HV, rfl⟩
      · have e1 := nez _ h1
        have HV := Lib.hid (show isT false (cmd.kind = 3 ∨ (cmd.job = 0 ∧ cmd.sum = 0 ∧ cmd.epoch = 0 ∧ M = 0)) by unfold isT; simp [h0, h1])
        clear h0 h1
        go_wp2
        go_meet
        exact ⟨false, rfl, HV, rfl⟩
  case rest =>
  obtain ⟨b6, rfl, HB6, rfl⟩ := hcut
  by_cases hk1 : cmd.kind < 1
  · have e0 : decide (cmd.kind < 1) = true := decide_eq_true hk1
    have HR := Lib.hid (encC_bad (c := cmd) (Bool.eq_false_iff.2 fun h => by have := (plain_iff cmd).1 h; omega))
    clear hk1
    go_wp2
    go_ret2
    exact ⟨by rw [HR.out]; rfl, HRE.out.bl⟩
  have e0 : decide (cmd.kind < 1) = false := decide_eq_false hk1
  by_cases hk3 : 3 < cmd.kind
  · have e1 : decide (3 < cmd.kind) = true := decide_eq_true hk3
    have HR := Lib.hid (encC_bad (c := cmd) (Bool.eq_false_iff.2 fun h => by have := (plain_iff cmd).1 h; omega))
    clear hk1 hk3
    go_wp2
    go_ret2
    exact ⟨by rw [HR.out]; rfl, HRE.out.bl⟩
  have e1 : decide (3 < cmd.kind) = false := decide_eq_false hk3
  cases b4 with
  | false =>
    have HR := Lib.hid (encC_bad (c := cmd) (Bool.eq_false_iff.2 fun h => by have := HB4.out.2 (by rw [← HN.out]; exact ((plain_iff cmd).1 h).2.1); cases this))
    clear hk1 hk3
    go_wp2
    go_ret2
    exact ⟨by rw [HR.out]; rfl, HRE.out.bl⟩
  | true =>
  cases b5 with
  | false =>
    have HR := Lib.hid (encC_bad (c := cmd) (Bool.eq_false_iff.2 fun h => by have := HB5.out.2 ((plain_iff cmd).1 h).2.2.1; cases this))
    clear hk1 hk3
    go_wp2
    go_ret2
    exact ⟨by rw [HR.out]; rfl, HRE.out.bl⟩
  | true =>
  cases b6 with
  | false =>
    have HR := Lib.hid (encC_bad (c := cmd) (Bool.eq_false_iff.2 fun h => by have := HB6.out.2 (by rw [← HM.out]; exact ((plain_iff cmd).1 h).2.2.2); cases this))
    clear hk1 hk3
    go_wp2
    go_ret2
    exact ⟨by rw [HR.out]; rfl, HRE.out.bl⟩
  | true =>
  have HPL := Lib.hid ((plain_iff cmd).2 ⟨⟨by omega, by omega⟩, by rw [HN.out]; exact HB4.out.1 rfl, HB5.out.1 rfl, by rw [HM.out]; exact HB6.out.1 rfl⟩)
  clear HB4 HB5 HB6
  by_cases hw1 : 100 < N
  · have e3 : decide ((100 : Int) < (N : Int)) = true := decide_eq_true (by omega)
    have HR := Lib.hid (encC_wide HPL.out ((wide_iff cmd).2 (.inl (by rw [HN.out]; exact hw1))))
    clear hk1 hk3 hw1
    go_wp2
    go_ret2
    exact ⟨by rw [HR.out]; rfl, HRE.out.bl⟩
  have e3 : decide ((100 : Int) < (N : Int)) = false := decide_eq_false (by omega)
  by_cases hw2 : 255 < M
  · have e4 : decide ((255 : Int) < (M : Int)) = true := decide_eq_true (by omega)
    have HR := Lib.hid (encC_wide HPL.out ((wide_iff cmd).2 (.inr (.inl (by rw [HM.out]; exact hw2)))))
    clear hk1 hk3 hw1 hw2
    go_wp2
    go_ret2
    exact ⟨by rw [HR.out]; rfl, HRE.out.bl⟩
  have e4 : decide ((255 : Int) < (M : Int)) = false := decide_eq_false (by omega)
  by_cases hw3 : 255 < cmd.row.size
  · have e5 : decide ((255 : Int) < (cmd.row.size : Int)) = true := decide_eq_true (by omega)
    have HR := Lib.hid (encC_wide HPL.out ((wide_iff cmd).2 (.inr (.inr hw3))))
    clear hk1 hk3 hw1 hw2 hw3
    go_wp2
    go_ret2
    exact ⟨by rw [HR.out]; rfl, HRE.out.bl⟩
  have e5 : decide ((255 : Int) < (cmd.row.size : Int)) = false := decide_eq_false (by omega)
  have HNW := Lib.hid (show wideC cmd = false from Bool.eq_false_iff.2 fun h => by have := (wide_iff cmd).1 h; rw [HN.out, HM.out] at this; omega)
  exact absurd ⟨HPL.out, HNW.out⟩ HBAD.out
end Go.Proofs.Ytiiogdgnccgehaa
