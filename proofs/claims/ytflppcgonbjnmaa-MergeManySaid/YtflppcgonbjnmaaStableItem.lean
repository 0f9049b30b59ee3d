/-
  The walk of the stable sort at items.
-/
import Derived.Test.YtflppcgonbjnmaaSymCItem
namespace Go.Proofs.Ytflppcgonbjnmaa
open Go.RowKit
attribute [local go_sem ↓] Go.wp_at_zero Go.wp_at_succ

theorem symMerge_any (hw : Weak It.lt) : ∀ d, SymOk d
  | 0 => by
    intro g S cap N X A B W a m b w hd h ha hm hb hN hmax hA hB h1 h2
    omega
  | d + 1 => by
    intro g S cap N X A B W a m b w hd h ha hm hb hN hmax hA hB h1 h2
    by_cases a1 : A.length = 1
    · obtain ⟨x, rfl⟩ := List.length_eq_one_iff.1 a1
      refine (symLeft_any hw g S cap N X B W x a m b w (by simpa only [List.append_assoc, List.cons_append, List.nil_append] using h) ha hm hb hN hmax hB).mono ?_
      rintro e w' ⟨he, B1, B2, rfl, k1, k2, k3, k4⟩
      exact ⟨he, _, sym_left hw hB k1 k2, by simpa only [List.append_assoc, List.cons_append, List.nil_append] using k3, k4⟩
    · by_cases b1 : B.length = 1
      · obtain ⟨y, rfl⟩ := List.length_eq_one_iff.1 b1
        refine (symRight_any hw g S cap N X A W y a m b w (by simpa only [List.append_assoc, List.cons_append, List.nil_append] using h) ha hm hb hN hmax hA a1).mono ?_
        rintro e w' ⟨he, A1, A2, rfl, k1, k2, k3, k4⟩
        exact ⟨he, _, sym_right hw hA k1 k2, by simpa only [List.append_assoc, List.cons_append, List.nil_append] using k3, k4⟩
      · exact symGen_any hw d (symMerge_any hw d) g S cap N X A B W a m b w hd h ha hm hb hN hmax hA hB (by omega) (by omega)

/-- blocks of bs, each sorted -/
def Blk {α : Type} (lt : α → α → Bool) (bs : Nat) (l : List α) : Prop := ∀ i, Srt lt ((l.drop (i * bs)).take bs)
section
variable {α : Type} {lt : α → α → Bool} {bs : Nat} {l P Y : List α}
theorem Blk.nil : Blk lt bs ([] : List α) := fun i => by simp [Srt]
theorem Blk.drop (h : Blk lt bs l) (j : Nat) : Blk lt bs (l.drop (j * bs)) := fun i => by
  rw [List.drop_drop, ← Nat.add_mul]
  exact h (j + i)
theorem Blk.head (h : Blk lt bs l) : Srt lt (l.take bs) := by
  have := h 0
  rwa [Nat.zero_mul, List.drop_zero] at this
theorem Blk.snoc (h : Blk lt bs P) (j : Nat) (hj : P.length = j * bs) (hy : Srt lt Y) (hl : Y.length ≤ bs) : Blk lt bs (P ++ Y) := fun i => by
  rcases Nat.lt_trichotomy i j with hij | hij | hij
  · have h1 : i * bs + bs ≤ j * bs := mul_le_of hij
    rw [List.drop_append_of_le_length (by omega), List.take_append_of_le_length (by rw [List.length_drop]; omega)]
    exact h i
  · subst hij
    rw [← hj, List.drop_left, List.take_of_length_le hl]
    exact hy
  · have h1 : j * bs + bs ≤ i * bs := mul_le_of hij
    rw [List.drop_of_length_le (by rw [List.length_append]; omega)]
    simp [Srt]
theorem Blk.all (h : Blk lt bs l) (hl : l.length ≤ bs) : Srt lt l := by
  have := h.head
  rwa [List.take_of_length_le hl] at this
end
/-- alike, class by class, and permuted -/
def Alk {α : Type} (lt : α → α → Bool) (l m : List α) : Prop := Stb lt l m ∧ l.Perm m
theorem Alk.refl {α : Type} {lt : α → α → Bool} (l : List α) : Alk lt l l := ⟨Stb.refl l, List.Perm.refl l⟩
theorem Alk.step {α : Type} {lt : α → α → Bool} {l P Y Z W : List α} (h : Alk lt l (P ++ Y ++ W)) (k : SS lt Y Z) : Alk lt l (P ++ Z ++ W) :=
  ⟨h.1.trans (k.2.1.mid P W), h.2.trans ((List.Perm.append_left P k.2.2).append_right W)⟩
theorem Alk.len {α : Type} {lt : α → α → Bool} {l m : List α} (h : Alk lt l m) : m.length = l.length := h.2.length_eq.symm

set_option maxRecDepth 10000 in
set_option maxHeartbeats 8000000 in
theorem stable_any (hw : Weak It.lt) (g S cap N : Nat) (l : List It) (w : World) (h : Arr It.vals 7 w g 59 S l) (hN : l.length = N) (hmax : N ≤ 100000000) :
    Calls Try.prog 57 #[.slice (some ⟨g, 0, none⟩) N cap, .int .i64 N, .func (.func 53) #[] #[]] w fun e w' =>
      e = .returned (.tuple #[]) ∧ ∃ m, SS It.lt l m ∧ Arr It.vals 7 w' g 59 S m ∧ w.grownBy w' (some g) := by
  have H := Lib.hid h
  have HN := Lib.hid hN
  have HW := Lib.hid hw
  clear h hN hw
  go_enter Try.func57, Try.ntmps57
  go_wp2
  go_loopw [7, 8] (fun va vb wr => ∃ (i : Nat) (P R : List It), va = .int .i64 ((i * 20 : Nat) : Int) ∧ vb = .int .i64 ((i * 20 + 20 : Nat) : Int) ∧ i * 20 ≤ N ∧ Hid (P.length = i * 20 ∧ Blk It.lt 20 P ∧ Alk It.lt l (P ++ R)) ∧ Hid (Arr It.vals 7 wr g 59 S (P ++ R)) ∧ Hid (w.grownBy wr (some g))) (fun va vb _ => N + 20 - (intOf vb).toNat)
  case atStart => exact ⟨0, [], l, rfl, rfl, by omega, Lib.hid ⟨rfl, Blk.nil, Alk.refl _⟩, H, Lib.hid (grownBy_refl _ _)⟩
  case round =>
    obtain ⟨i, P, R, rfl, rfl, hiN, HP, HA, HG⟩ := hrel
    obtain ⟨a, ha⟩ : ∃ a, i * 20 = a := ⟨_, rfl⟩
    rw [ha]
    obtain ⟨p1, p2, p3⟩ := HP.out
    have plen := p3.len
    rw [HN.out, List.length_append] at plen
    rw [ha] at p1
    by_cases hle : a + 20 ≤ N
    · have e1 : decide (((a + 20 : Nat) : Int) ≤ (N : Int)) = true := decide_eq_true (by omega)
      have hRR : R = R.take 20 ++ R.drop 20 := (List.take_append_drop _ _).symm
      have h0 := HA.out
      rw [hRR, ← List.append_assoc] at h0
      have hins := insertion_any HW.out g S cap N P (R.take 20) (R.drop 20) a (a + 20) wr h0 p1 (by rw [List.length_take]; omega) (by rw [List.length_drop]; omega) (by omega)
      have hP3 := p3
      rw [hRR, ← List.append_assoc] at hP3
      have HP3 := Lib.hid hP3
      obtain ⟨b, hb⟩ : ∃ b, a + 20 = b := ⟨_, rfl⟩
      rw [hb] at hins e1 ⊢
      have hw2 : IntKind.i64.wrap ((b : Int) + 20) = ((b + 20 : Nat) : Int) := by rw [IntWalk.i64_in _ (by omega)]; omega
      have hbi : b = (i + 1) * 20 := by omega
      have HBI := Lib.hid hbi
      have hbN : b ≤ N := by omega
      have HF := Lib.hid (And.intro p1 (And.intro hb ha))
      clear h0 hRR hP3 p1 p3 plen hb ha hbi hiN hle
      go_wp2_with (go_at_call 61; refine hins.mono ?_; rintro e w1 ⟨rfl, Y, hy, hx, hg⟩)
      refine ⟨⟨i + 1, P ++ Y, R.drop 20, by rw [← HBI.out], by rw [← HBI.out]; simp, by rw [← HBI.out]; exact hbN, Lib.hid ⟨?_, ?_, HP3.out.step hy⟩, Lib.hid hx, Lib.hid (grownBy_trans HG.out hg)⟩, by simp [intOf]; omega⟩
      · have hyl : Y.length = 20 := by rw [← hy.2.2.length_eq, List.length_take]; have := HF.out; have h1 := HP3.out.len; rw [HN.out] at h1; simp at h1; omega
        have := HF.out
        rw [List.length_append]; omega
      · have := HF.out
        exact p2.snoc i (by omega) hy.1 (by rw [← hy.2.2.length_eq, List.length_take]; omega)
    · have e1 : decide (((a + 20 : Nat) : Int) ≤ (N : Int)) = false := decide_eq_false (by omega)
      have e1' : ¬ (a + 20 ≤ N) := hle
      have h0 := HA.out
      rw [← List.append_nil (P ++ R)] at h0
      have hins := insertion_any HW.out g S cap N P R [] a N wr h0 p1 (by omega) (by simp) (by omega)
      have HF := Lib.hid (And.intro p1 (And.intro plen (And.intro ha (And.intro p2 p3))))
      clear h0 p1 p3 plen ha p2 hle
      go_wp2_with (first
        | (go_at_call 61; refine hins.mono ?_; rintro e w1 ⟨rfl, Y, hy, hx, hg⟩
           rw [List.append_nil] at hx
           have HX := Lib.hid hx
           have HY := Lib.hid hy
           have HG1 := Lib.hid (grownBy_trans HG.out hg)
           clear hx hy hg))
      have HB0 : Hid (Blk It.lt 20 (P ++ Y) ∧ Alk It.lt l (P ++ Y)) := by
        obtain ⟨f1, f2, f3, f4, f5⟩ := HF.out
        refine Lib.hid ⟨f4.snoc i (by omega) HY.out.1 (by rw [← HY.out.2.2.length_eq]; omega), ?_⟩
        have h1 : Alk It.lt l (P ++ R ++ []) := by rw [List.append_nil]; exact f5
        have := h1.step HY.out
        rwa [List.append_nil] at this
      obtain ⟨l0, hl0⟩ : ∃ l0, P ++ Y = l0 := ⟨_, rfl⟩
      rw [hl0] at HB0 HX
      clear HF HY hl0 HP HA HG hiN e1 e1' hins
      go_loopw [6] (fun vs wr => ∃ (bs : Nat) (l1 : List It), vs = .int .i64 (bs : Int) ∧ 20 ≤ bs ∧ bs ≤ 2 * N + 20 ∧ Hid (Blk It.lt bs l1 ∧ Alk It.lt l l1) ∧ Hid (Arr It.vals 7 wr g 59 S l1) ∧ Hid (w.grownBy wr (some g))) (fun vs _ => N - (intOf vs).toNat)
      case atStart => exact ⟨20, l0, rfl, Nat.le_refl _, by omega, HB0, HX, HG1⟩
      case round =>
        clear HB0 HX HG1
        obtain ⟨bs, l1, rfl, hbs, hbs2, HB, HA, HG⟩ := hrel
        by_cases hlt : bs < N
        · have e1 : decide ((bs : Int) < (N : Int)) = true := decide_eq_true (by omega)
          obtain ⟨bb, hbb⟩ : ∃ bb, 2 * bs = bb := ⟨_, rfl⟩
          have hw1 : IntKind.i64.wrap (2 * (bs : Int)) = (bb : Int) := by rw [IntWalk.i64_in _ (by omega)]; omega
          have HBB := Lib.hid hbb
          have hbbN : bb ≤ 2 * N := by omega
          have hbb0 : 0 < bb := by omega
          clear hbb
          have hw4 : IntKind.i64.wrap ((bs : Int) * 2) = (bb : Int) := by have := HBB.out; rw [IntWalk.i64_in _ (by omega)]; omega
          have HB1 := Lib.hid (show ([] : List It).length = 0 * bb ∧ Blk It.lt bb ([] : List It) ∧ Blk It.lt bs l1 ∧ Alk It.lt l ([] ++ l1) from ⟨by simp, Blk.nil, HB.out.1, HB.out.2⟩)
          go_wp2
          go_loopw [7, 8] (fun va vb wr' => ∃ (i : Nat) (P R : List It), va = .int .i64 ((i * bb : Nat) : Int) ∧ vb = .int .i64 ((i * bb + bb : Nat) : Int) ∧ i * bb ≤ N ∧ Hid (P.length = i * bb ∧ Blk It.lt bb P ∧ Blk It.lt bs R ∧ Alk It.lt l (P ++ R)) ∧ Hid (Arr It.vals 7 wr' g 59 S (P ++ R)) ∧ Hid (w.grownBy wr' (some g))) (fun va vb _ => N + bb - (intOf vb).toNat)
          case atStart => exact ⟨0, [], l1, by simp, by simp, by simp, HB1, HA, HG⟩
          case round =>
            clear HB1 HB HA HG
            rename_i wr0
            obtain ⟨i, P, R, rfl, rfl, hiN, HP, HA, HG⟩ := hrel
            obtain ⟨p1, p2, p3, p4⟩ := HP.out
            have plen := p4.len
            rw [HN.out, List.length_append] at plen
            have hsucc : (i + 1) * bb = i * bb + bb := by rw [Nat.add_mul, Nat.one_mul]
            have h2b := HBB.out
            obtain ⟨a, ha⟩ : ∃ a, i * bb = a := ⟨_, rfl⟩
            rw [ha] at p1 hiN hsucc ⊢
            have hm0 : IntKind.i64.wrap ((a : Int) + (bs : Int)) = ((a + bs : Nat) : Int) := by rw [IntWalk.i64_in _ (by omega)]; omega
            obtain ⟨m, hm⟩ : ∃ m, a + bs = m := ⟨_, rfl⟩
            rw [hm] at hm0
            by_cases hle : a + bb ≤ N
            · have hR1 : R = R.take bs ++ (R.drop bs).take bs ++ R.drop bb := by
                rw [← h2b, Nat.two_mul, ← List.drop_drop, List.append_assoc, List.take_append_drop, List.take_append_drop]
              have hdd : (R.drop bs).drop bs = R.drop bb := by rw [List.drop_drop, ← h2b, Nat.two_mul]
              have h0 := HA.out
              rw [hR1, ← List.append_assoc, ← List.append_assoc] at h0
              have s2 := p3.drop 1
              rw [Nat.one_mul] at s2
              have hsm := symMerge_any HW.out bb g S cap N P (R.take bs) ((R.drop bs).take bs) (R.drop bb) a m (a + bb) wr (by omega) h0 p1 (by rw [List.length_take]; omega) (by rw [List.length_take, List.length_drop]; omega) (by rw [List.length_drop]; omega) (by omega) p3.head s2.head (by omega) (by omega)
              have hl4 := p4
              rw [hR1, ← List.append_assoc, List.append_assoc P] at hl4
              have hl5 : Alk It.lt l (P ++ (R.take bs ++ (R.drop bs).take bs) ++ R.drop bb) := by simpa only [List.append_assoc] using hl4
              have HL5 := Lib.hid hl5
              have s3 := p3.drop 2
              rw [h2b] at s3
              have HS3 := Lib.hid s3
              have hyl : (R.take bs ++ (R.drop bs).take bs).length = bb := by rw [List.length_append, List.length_take, List.length_take, List.length_drop]; omega
              obtain ⟨b, hb⟩ : ∃ b, a + bb = b := ⟨_, rfl⟩
              rw [hb] at hsm hsucc ⊢
              have hw5 : IntKind.i64.wrap ((b : Int) + (bb : Int)) = ((b + bb : Nat) : Int) := by rw [IntWalk.i64_in _ (by omega)]; omega
              have e2 : decide ((b : Int) ≤ (N : Int)) = true := decide_eq_true (by omega)
              have e2' : b ≤ N := by omega
              have HF := Lib.hid (And.intro p1 (And.intro ha (And.intro hsucc (And.intro p2 (And.intro hyl hb)))))
              clear p1 p2 p3 p4 plen hsucc h2b ha hm hle hR1 hdd h0 s2 hl4 hl5 s3 hyl hb hiN
              go_wp2_with (go_at_call 62; refine hsm.mono ?_; rintro e w1 ⟨rfl, Y, hy, hx, hg⟩)
              obtain ⟨f1, f2, f3, f4, f5, f6⟩ := HF.out
              refine ⟨⟨i + 1, P ++ Y, R.drop bb, by rw [f3], by rw [f3]; simp, by rw [f3]; exact e2', Lib.hid ⟨?_, ?_, HS3.out, HL5.out.step hy⟩, Lib.hid hx, Lib.hid (grownBy_trans HG.out hg)⟩, by simp [intOf]; omega⟩
              · rw [List.length_append, ← hy.2.2.length_eq, f5, f3]; omega
              · exact f4.snoc i (by omega) hy.1 (by rw [← hy.2.2.length_eq, f5]; exact Nat.le_refl _)
            · have e2 : decide (((a + bb : Nat) : Int) ≤ (N : Int)) = false := decide_eq_false (by omega)
              have e2' : ¬ a + bb ≤ N := hle
              by_cases hmN : m < N
              · have hR1 : R = R.take bs ++ R.drop bs := (List.take_append_drop _ _).symm
                have h0 := HA.out
                rw [hR1, ← List.append_assoc, ← List.append_nil (P ++ R.take bs ++ R.drop bs)] at h0
                have s2 := p3.drop 1
                rw [Nat.one_mul] at s2
                have hsm := symMerge_any HW.out bb g S cap N P (R.take bs) (R.drop bs) [] a m N wr (by omega) h0 p1 (by rw [List.length_take]; omega) (by rw [List.length_drop]; omega) (by simp) (by omega) p3.head (by have := s2.all (by rw [List.length_drop]; omega); exact this) (by omega) (by omega)
                have hl5 : Alk It.lt l (P ++ (R.take bs ++ R.drop bs) ++ []) := by rw [List.append_nil, List.take_append_drop]; exact p4
                have HL5 := Lib.hid hl5
                have hyl : (R.take bs ++ R.drop bs).length ≤ bb := by rw [List.take_append_drop]; omega
                have HF := Lib.hid (And.intro p1 (And.intro ha (And.intro p2 hyl)))
                have e3 : decide ((m : Int) < (N : Int)) = true := decide_eq_true (by omega)
                clear p1 p2 p3 p4 plen hsucc h2b ha hm hle hR1 h0 s2 hl5 hyl hiN
                go_wp2_with (go_at_call 62; refine hsm.mono ?_; rintro e w1 ⟨rfl, Y, hy, hx, hg⟩)
                obtain ⟨f1, f2, f3, f4⟩ := HF.out
                rw [List.append_nil] at hx
                have ha5 := HL5.out.step hy
                rw [List.append_nil] at ha5
                have := HBB.out
                refine ⟨⟨bb, P ++ Y, rfl, by omega, by omega, Lib.hid ⟨f3.snoc i (by omega) hy.1 (by rw [← hy.2.2.length_eq]; exact f4), ha5⟩, Lib.hid hx, Lib.hid (grownBy_trans HG.out hg)⟩, by simp [intOf]; omega⟩
              · have e3 : decide ((m : Int) < (N : Int)) = false := decide_eq_false (by omega)
                have hRs : Srt It.lt R := p3.all (by omega)
                have HF := Lib.hid (show Blk It.lt bb (P ++ R) ∧ Alk It.lt l (P ++ R) from ⟨p2.snoc i (by omega) hRs (by omega), p4⟩)
                clear p1 p2 p3 p4 plen hsucc h2b ha hm hle hiN hRs
                go_wp2
                have := HBB.out
                exact ⟨⟨bb, P ++ R, rfl, by omega, by omega, HF, HA, HG⟩, by simp [intOf]; omega⟩
        · have e1 : decide ((bs : Int) < (N : Int)) = false := decide_eq_false (by omega)
          have e1' : ¬ bs < N := hlt
          go_wp2
          go_end0
          obtain ⟨h1, h2⟩ := HB.out
          have hl1 := h2.len
          rw [HN.out] at hl1
          exact ⟨rfl, l1, ⟨h1.all (by omega), h2.1, h2.2⟩, HA.out, HG.out⟩

set_option maxHeartbeats 1000000 in
theorem sortStable_any (hw : Weak It.lt) (g S cap N : Nat) (l : List It) (w : World) (h : Arr It.vals 7 w g 59 S l) (hN : l.length = N) (hmax : N ≤ 100000000) :
    Calls Try.prog 52 #[.slice (some ⟨g, 0, none⟩) N cap, .func (.func 53) #[] #[]] w fun e w' =>
      e = .returned (.tuple #[]) ∧ ∃ m, SS It.lt l m ∧ Arr It.vals 7 w' g 59 S m ∧ w.grownBy w' (some g) := by
  have hst := stable_any hw g S cap N l w h hN hmax
  clear hw h hN
  go_enter Try.func52, Try.ntmps52
  go_wp2_with (go_at_call 57; refine hst.mono ?_; rintro e w1 ⟨rfl, m, h1, h2, h3⟩)
  go_end0
  exact ⟨rfl, m, h1, h2, h3⟩

theorem insertion_none (v fv : Value) (w : World) :
    Calls Try.prog 61 #[v, .int .i64 0, .int .i64 0, fv] w fun e w' => e = .returned (.tuple #[]) ∧ w = w' := by
  go_enter Try.func61, Try.ntmps61
  go_wp2
  go_loop [8] (fun i => i = .int .i64 1) (fun i => 0)
  case atStart => rfl
  case round =>
    obtain rfl := hrel
    go_wp2
    go_end0
    exact ⟨rfl, rfl⟩
theorem stable_none (v fv : Value) (w : World) :
    Calls Try.prog 57 #[v, .int .i64 0, fv] w fun e w' => e = .returned (.tuple #[]) ∧ w = w' := by
  go_enter Try.func57, Try.ntmps57
  go_wp2
  go_loop [7, 8] (fun i j => i = .int .i64 0 ∧ j = .int .i64 20) (fun i j => 0)
  case atStart => exact ⟨rfl, rfl⟩
  case round =>
    obtain ⟨rfl, rfl⟩ := hrel
    go_wp2_with (go_at_call 61; refine (insertion_none v fv _).mono ?_; rintro e w1 ⟨rfl, rfl⟩)
    go_loop [6] (fun i => i = .int .i64 20) (fun i => 0)
    case atStart => rfl
    case round =>
      obtain rfl := hrel
      go_wp2
      go_end0
      exact ⟨rfl, rfl⟩
theorem sortStable_none (A : Option Addr) (c : Nat) (fv : Value) (w : World) :
    Calls Try.prog 52 #[.slice A 0 c, fv] w fun e w' => e = .returned (.tuple #[]) ∧ w = w' := by
  go_enter Try.func52, Try.ntmps52
  go_wp2_with (go_at_call 57; refine (stable_none _ fv _).mono ?_; rintro e w1 ⟨rfl, rfl⟩)
  go_end0
  exact ⟨rfl, rfl⟩
end Go.Proofs.Ytflppcgonbjnmaa
