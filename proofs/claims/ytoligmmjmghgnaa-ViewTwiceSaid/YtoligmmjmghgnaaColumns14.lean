/-
  The walk of view.columns and its iterator: it hands out the columns, one by one.
-/
import Derived.Test.YtoligmmjmghgnaaFlowB
import Derived.Test.YtoligmmjmghgnaaViewSmall
import Derived.Test.YtoligmmjmghgnaaReadPlain
import Derived.Test.YtoligmmjmghgnaaAppCell
import Derived.Shelf.Abstract
import Derived.OwnWalkIn
import Derived.TacticsInMore
import Derived.LoopNIn
import Derived.LoopIn
namespace Go.Proofs.Ytoligmmjmghgnaa
open Go.RowKit Go.Shelf
attribute [local go_sem ↓] Go.wp_at_zero Go.wp_at_succ
attribute [local go_sem] Oper.semAt_some

def colVal (A : Option Addr) (c : Nat) (x : Nat × Nat) : Value := .slice (tailA A c x.1 6) x.2 (c - x.1)
theorem columns_any (A : Option Addr) (n c : Nat) (w : World) :
    Calls Try.prog 16 #[.slice A n c] w fun e w' => e = .returned (.func (.func 28) #[] #[.pointer (some ⟨w.heap.size, 0, none⟩)]) ∧ w.alloc (.cells #[.slice A n c] 26) = w' := by
  go_enter Try.func16, Try.ntmps16
  go_wp2
  go_ret
  exact ⟨rfl, rfl⟩
def lenAt : Option Value → Nat
  | some (.slice _ n _) => n
  | _ => 0
theorem tail_tail (b o c k m : Nat) (hk : k < c) (hm : m < c - k) : tailA (some ⟨b, o + k * 6, none⟩) (c - k) m 6 = tailA (some ⟨b, o, none⟩) c (k + m) 6 := by
  unfold tailA
  rw [if_neg (by omega), if_neg (by omega), Option.map_some, Option.map_some, add_at, add_at]
  congr 2
  omega
theorem tail_at (b o c k : Nat) (hk : k < c) : tailA (some ⟨b, o, none⟩) c k 6 = some ⟨b, o + k * 6, none⟩ := by
  unfold tailA
  rw [if_neg (by omega), Option.map_some, add_at]
/-- between two rounds of the iterator: k cells are handed out -/
structure ColSt (A : List Cl) (N : Nat) (pre : List (Nat × Nat)) (k : Nat) : Prop where
  le : k ≤ N
  tot : tot pre = k
  rest : ∃ fuel, N - k ≤ fuel ∧ pre ++ colsFrom fuel (A.drop k) k = cols A
theorem ColSt.zero {A : List Cl} {N : Nat} (h : A.length = N) : ColSt A N [] 0 := ⟨Nat.zero_le _, rfl, A.length, by omega, rfl⟩
theorem ColSt.next {A : List Cl} {N k m : Nat} {pre : List (Nat × Nat)} (hN : A.length = N) (h : ColSt A N pre k) (hk : k < N) (hm : m = colLen (A.drop k)) : pre ++ [(k, m)] <+: cols A ∧ ColSt A N (pre ++ [(k, m)]) (k + m) := by
  obtain ⟨h1, h2, fuel, h3, h4⟩ := h
  subst hm
  have h0 : (A.drop k).length ≠ 0 := by rw [List.length_drop]; omega
  have hp := colLen_pos h0
  rw [List.length_drop] at hp
  obtain ⟨f, rfl⟩ : ∃ f, fuel = f + 1 := ⟨fuel - 1, by omega⟩
  rw [colsFrom, if_neg h0, List.drop_drop] at h4
  refine ⟨⟨_, by rw [List.append_assoc]; exact h4⟩, by omega, by rw [tot_snoc, h2], f, by omega, by rw [List.append_assoc]; exact h4⟩
theorem ColSt.done {A : List Cl} {N k : Nat} {pre : List (Nat × Nat)} (hN : A.length = N) (h : ColSt A N pre k) (hk : ¬ k < N) : pre = cols A := by
  obtain ⟨h1, h2, fuel, h3, h4⟩ := h
  rw [List.drop_of_length_le (by omega)] at h4
  cases fuel with
  | zero => rw [colsFrom, List.append_nil] at h4; exact h4
  | succ f =>
    have e : colsFrom (f + 1) [] k = [] := by unfold colsFrom; rfl
    rw [e, List.append_nil] at h4
    exact h4
set_option maxRecDepth 100000 in
set_option maxHeartbeats 4000000 in
theorem columns_flow (n : Nat) (hn : 1 ≤ n) (Bn B c N : Nat) (Aa : Option Addr) (A : List Cl) (ok : Nat → Prop) (w : World) (hN : A.length = N) (hcap : N ≤ c) (hlen : N ≤ 100000) (hB : B ≤ w.heap.size) (hr : Rd w B Aa (cls A)) (hBn : Box w Bn 26 (.slice Aa N c))
    (ok1 : ¬ ok Bn) (ok2 : ∀ k, blk Aa = some k → ¬ ok k ∧ k ≠ Bn) :
    FlowB Fence.wide n Try.prog 28 #[.pointer (some ⟨Bn, 0, none⟩)] (fun x : Nat × Nat => #[colVal Aa c x]) ok [Bn] (cols A) w := by
  intro l J own W hW hWs how hst hY h0
  obtain ⟨j0, hj0, _, hj1, _⟩ := info_parts cellInfo
  have HN := Lib.hid hN
  have HST := Lib.hid hst
  have HY := Lib.hid hY
  have HOW := Lib.hid how
  have HR := Lib.hid hr
  have HBX := Lib.hid hBn
  have hbw := hBn.lt
  have HWW := Lib.hid hW
  have hbx0 : Box W Bn 26 (.slice Aa N c) := (hW Bn hbw).trans hBn
  have HOK1 := Lib.hid ok1
  have HOK2 := Lib.hid ok2
  clear hN hst hY how hr hBn hW ok1 ok2
  refine callsIn_of_wp Try.func28 rfl trivial ?_ rfl
  simp only [Try.ntmps28, List.size_toArray, List.length_cons, List.length_nil, Nat.reduceAdd, Nat.reduceSub, Array.replicate_succ, Array.replicate_zero, List.push_toArray, List.append_toArray, List.nil_append, List.cons_append]
  refine wpIn_block ?_
  gi_loopw [3] (fun _ wr => ∃ (pre : List (Nat × Nat)) (own1 : List Nat) (k nk ck : Nat) (Ak : Option Addr), nk = N - k ∧ ck = c - k ∧ Hid (ColSt A N pre k) ∧ Hid (J pre own1 wr) ∧ Hid (MvB [Bn] own own1 W wr) ∧ Hid (Box wr Bn 26 (.slice Ak nk ck)) ∧ Hid (k < N → Ak = tailA Aa c k 6)) (fun _ wr => lenAt (wr.cell? ⟨Bn, 0, none⟩))
  case atStart =>
    refine ⟨[], own, 0, N, c, Aa, rfl, rfl, Lib.hid (ColSt.zero HN.out), Lib.hid h0, Lib.hid ((Mv.refl fun k hk => (HOW.out k hk).2).toB _), Lib.hid hbx0, Lib.hid fun _ => ?_⟩
    unfold tailA
    split
    · rfl
    · cases Aa <;> simp [Addr.add]
  case round =>
    obtain ⟨pre, own1, k, nk, ck, Ak, hnk, hck, HCS, HJ, HM, HBXr, HAk⟩ := hrel
    rename World => wr
    have hbc := HBXr.out.cell
    have HNK := Lib.hid hnk
    have HCK := Lib.hid hck
    have hnk5 : nk ≤ 100000 := by omega
    clear hnk hck
    have HNO := Lib.hid (show Bn ∉ own1 from fun h => by
      rcases HM.out.more Bn h with h | h
      · exact HOK1.out (HOW.out Bn h).1
      · omega)
    clear h0 hbx0
    by_cases hkN : k < N
    · have e1 : decide ((0 : Int) < (nk : Int)) = true := decide_eq_true (by have := HNK.out; omega)
      have e2 : decide (0 < nk) = true := decide_eq_true (by have := HNK.out; omega)
      have e3 : 0 < nk := by have := HNK.out; omega
      have hkl : k < A.length := by rw [HN.out]; exact hkN
      obtain ⟨b, o, rfl, hb, hcc⟩ := HR.out.at_ (cls_ne hkl)
      have hk2 := HOK2.out b rfl
      have hbW : b < W.heap.size := by omega
      have hblk : wr.heap[b]? = w.heap[b]? := (HM.out.block b hbW (fun h => hk2.1 (HOW.out b h).1) (by simpa using hk2.2)).trans (HWW.out b (by omega))
      have hrg : ∀ p (hp : p < A.length), wr.rangeAt b (o + p * 6) A[p].vals := fun p hp => Rd.enc_range Cl.vals_len (fun j hj => (World.cell?_of_block (a := ⟨b, o + j, none⟩) hblk).trans (hcc j hj)) p hp
      have hAk : Ak = some ⟨b, o + k * 6, none⟩ := (HAk.out hkN).trans (tail_at b o c k (by omega))
      subst hAk
      obtain ⟨x, hx⟩ : ∃ x, A[k] = x := ⟨_, rfl⟩
      have hrx := hrg k hkl
      rw [hx] at hrx
      have HX := Lib.hid hx
      have HRX := Lib.hid hrx
      have HRG := Lib.hid hrg
      have HD0 := Lib.hid (show ∀ h0 : 0 < (A.drop k).length, (A.drop k)[0]'h0 = x from fun h0 => by rw [List.getElem_drop]; simpa using hx)
      have HI0 := Lib.hid (InCol.one (l := A.drop k) (by rw [List.length_drop]; omega))
      have hbwr : b < wr.heap.size := Nat.lt_of_lt_of_le hbW HM.out.size
      have hbnr : Bn < wr.heap.size := HBXr.out.lt
      clear hx hrx hrg hblk hcc HAk hk2
      gi_wp2
      gi_loopw [3] (fun v3 wq => ∃ m : Nat, v3 = .int .i64 (m : Int) ∧ m ≤ nk ∧ Hid (InCol (A.drop k) m) ∧ Hid (Below wr.heap.size wr wq)) (fun v3 _ => nk - (intOf v3).toNat)
      case atStart => exact ⟨1, rfl, by have := HNK.out; omega, HI0, Lib.hid (Below.refl _ _)⟩
      case round =>
        obtain ⟨m, rfl, hm, HI, HBq⟩ := hrel
        rename World => wq
        clear HI0
        have hbnq := Nat.lt_of_lt_of_le hbnr HBq.out.size
        have hbq := Nat.lt_of_lt_of_le hbwr HBq.out.size
        have hcb := (HBq.out.cell (p := ⟨Bn, 0, none⟩) hbnr).trans hbc
        by_cases hmn : m < nk
        · have f1 : decide ((m : Int) < (nk : Int)) = true := decide_eq_true (by omega)
          have f2 : (0 : Int) ≤ (m : Int) := by omega
          have f3 : (m : Int) < (nk : Int) := by omega
          have f4 : (0 : Int) < (nk : Int) := by omega
          have hkm : k + m < A.length := by have := HNK.out; rw [HN.out]; omega
          have hml : m < (A.drop k).length := by rw [List.length_drop]; omega
          have hry := HRG.out (k + m) hkm
          rw [show o + (k + m) * 6 = o + k * 6 + m * 6 by rw [Nat.add_mul, Nat.add_assoc]] at hry
          obtain ⟨y, hy⟩ : ∃ y, A[k + m] = y := ⟨_, rfl⟩
          rw [hy] at hry
          have HNX := Lib.hid (fun h0 h => InCol.next HI.out h0 hml h)
          have HDN := Lib.hid (fun h => InCol.done HI.out h)
          have HDM := Lib.hid (show (A.drop k)[m]'hml = y by rw [List.getElem_drop]; exact hy)
          have hcol := fun W => column_any x y W
          obtain ⟨cv, hcvv⟩ : ∃ cv, column x y = cv := ⟨_, rfl⟩
          rw [hcvv] at hcol
          have HCOL := Lib.hid hcol
          have HCV := Lib.hid hcvv
          have HC : (fun W => W.cell? ⟨Bn, 0, none⟩ = some (.slice (some ⟨b, o + k * 6, none⟩) nk ck) ∧ W.rangeAt b (o + k * 6) x.vals ∧ W.rangeAt b (o + k * 6 + m * 6) y.vals) wq.drew := ⟨hcb, rangeAt_below HRX.out HBq.out.drew hbwr, rangeAt_below hry HBq.out.drew hbwr⟩
          clear hry hy hcol hcvv hcb
          cases cv with
          | true =>
            have h0l : 0 < (A.drop k).length := by omega
            have HF := Lib.hid (HNX.out h0l (by rw [HD0.out h0l, HDM.out]; exact HCV.out))
            gi_wp2
            refine wpIn_wide.2 ?_
            refine region_wz (fun W => W.cell? ⟨Bn, 0, none⟩ = some (.slice (some ⟨b, o + k * 6, none⟩) nk ck) ∧ W.rangeAt b (o + k * 6) x.vals ∧ W.rangeAt b (o + k * 6 + m * 6) y.vals) none (by kernel_rfl) ?_
            apply WZ.take (i := 0) (some 7) rfl rfl (by kernel_rfl) (by kernel_rfl) (by kernel_rfl) (calm_panic _) (by kernel_rfl)
            case hy => (refine .inl ⟨by kernel_rfl, fun W hC => ?_⟩; (try dsimp only at hC); go_simp; rfl)
            case hC => exact HC
            case ha => (simp only [Act.put, List.setIfInBounds_toArray, List.set_cons_zero, List.set_cons_succ]; rfl)
            apply WZ.take (i := 1) (some 8) rfl rfl (by kernel_rfl) (by kernel_rfl) (by kernel_rfl) (calm_panic _) (by kernel_rfl)
            case hy => (refine .inl ⟨by kernel_rfl, fun W hC => ?_⟩; (try dsimp only at hC); go_simp; rfl)
            case hC => exact HC
            case ha => (simp only [Act.put, List.setIfInBounds_toArray, List.set_cons_zero, List.set_cons_succ]; rfl)
            apply WZ.take (i := 2) (some 9) rfl rfl (by kernel_rfl) (by kernel_rfl) (by kernel_rfl) (calm_panic _) (by kernel_rfl)
            case hy => (refine .inl ⟨by kernel_rfl, fun W hC => ?_⟩; (try dsimp only at hC); go_simp; rfl)
            case hC => exact HC
            case ha => (simp only [Act.put, List.setIfInBounds_toArray, List.set_cons_zero, List.set_cons_succ]; rfl)
            apply WZ.take (i := 3) (some 10) rfl rfl (by kernel_rfl) (by kernel_rfl) (by kernel_rfl) (calm_panic _) (by kernel_rfl)
            case hy => (refine .inl ⟨by kernel_rfl, fun W hC => ?_⟩; (try dsimp only at hC); go_simp; rfl)
            case hC => exact HC
            case ha => (simp only [Act.put, List.setIfInBounds_toArray, List.set_cons_zero, List.set_cons_succ]; rfl)
            apply WZ.take (i := 4) (some 11) rfl rfl (by kernel_rfl) (by kernel_rfl) (by kernel_rfl) (calm_panic _) (by kernel_rfl)
            case hy => (refine .inl ⟨by kernel_rfl, fun W hC => ?_⟩; (try dsimp only at hC); go_simp; rfl)
            case hC => exact HC
            case ha => (simp only [Act.put, List.setIfInBounds_toArray, List.set_cons_zero, List.set_cons_succ]; rfl)
            apply WZ.take (i := 5) (some 12) rfl rfl (by kernel_rfl) (by kernel_rfl) (by kernel_rfl) (calm_panic _) (by kernel_rfl)
            case hy => (refine .inl ⟨by kernel_rfl, fun W hC => ?_⟩; (try dsimp only at hC); go_simp; rfl)
            case hC => exact HC
            case ha => (simp only [Act.put, List.setIfInBounds_toArray, List.set_cons_zero, List.set_cons_succ]; rfl)
            apply WZ.take (i := 6) (some 13) rfl rfl (by kernel_rfl) (by kernel_rfl) (by kernel_rfl) (calm_panic _) (by kernel_rfl)
            case hy => (refine .inl ⟨by kernel_rfl, fun W hC => ?_⟩; (try dsimp only at hC); go_simp; rfl)
            case hC => exact HC
            case ha => (simp only [Act.put, List.setIfInBounds_toArray, List.set_cons_zero, List.set_cons_succ]; rfl)
            apply WZ.take (i := 7) (some 14) rfl rfl (by kernel_rfl) (by kernel_rfl) (by kernel_rfl) (calm_panic _) (by kernel_rfl)
            case hy => first | (apply yieldsIf_load_mid (by kernel_rfl) _ _ rfl _ _ rfl; (case hS => (intro W hC; exact (show World.rangeAt _ _ _ (Cl.vals _) from hC.1))); (case hu => exact Try.underlying29); (case hd => rfl); (case hi => kernel_rfl)) | (apply yieldsIf_load_mid (by kernel_rfl) _ _ rfl _ _ rfl; (case hS => (intro W hC; exact (show World.rangeAt _ _ _ (Cl.vals _) from hC.2.1))); (case hu => exact Try.underlying29); (case hd => rfl); (case hi => kernel_rfl)) | (apply yieldsIf_load_mid (by kernel_rfl) _ _ rfl _ _ rfl; (case hS => (intro W hC; exact (show World.rangeAt _ _ _ (Cl.vals _) from hC.2.2.1))); (case hu => exact Try.underlying29); (case hd => rfl); (case hi => kernel_rfl)) | (apply yieldsIf_load_mid (by kernel_rfl) _ _ rfl _ _ rfl; (case hS => (intro W hC; exact (show World.rangeAt _ _ _ (Cl.vals _) from hC.2.2.2.1))); (case hu => exact Try.underlying29); (case hd => rfl); (case hi => kernel_rfl)) | (apply yieldsIf_load_mid (by kernel_rfl) _ _ rfl _ _ rfl; (case hS => (intro W hC; exact (show World.rangeAt _ _ _ (Cl.vals _) from hC.2.2.2))); (case hu => exact Try.underlying29); (case hd => rfl); (case hi => kernel_rfl)) | (apply yieldsIf_load_mid (by kernel_rfl) _ _ rfl _ _ rfl; (case hS => (intro W hC; exact (show World.rangeAt _ _ _ (Cl.vals _) from hC.2.2))); (case hu => exact Try.underlying29); (case hd => rfl); (case hi => kernel_rfl)) | (apply yieldsIf_load_mid (by kernel_rfl) _ _ rfl _ _ rfl; (case hS => (intro W hC; exact (show World.rangeAt _ _ _ (Cl.vals _) from hC.2))); (case hu => exact Try.underlying29); (case hd => rfl); (case hi => kernel_rfl)) | (apply yieldsIf_load_mid (by kernel_rfl) _ _ rfl _ _ rfl; (case hS => (intro W hC; exact (show World.rangeAt _ _ _ (Cl.vals _) from hC))); (case hu => exact Try.underlying29); (case hd => rfl); (case hi => kernel_rfl))
            case hC => exact HC
            case ha => (simp only [Act.put, List.setIfInBounds_toArray, List.set_cons_zero, List.set_cons_succ]; rfl)
            apply WZ.take (i := 8) (some 15) rfl rfl (by kernel_rfl) (by kernel_rfl) (by kernel_rfl) (calm_panic _) (by kernel_rfl)
            case hy => (refine .inl ⟨by kernel_rfl, fun W hC => ?_⟩; (try dsimp only at hC); go_simp; rfl)
            case hC => exact HC
            case ha => (simp only [Act.put, List.setIfInBounds_toArray, List.set_cons_zero, List.set_cons_succ]; rfl)
            apply WZ.take (i := 9) (some 16) rfl rfl (by kernel_rfl) (by kernel_rfl) (by kernel_rfl) (calm_panic _) (by kernel_rfl)
            case hy => (refine .inl ⟨by kernel_rfl, fun W hC => ?_⟩; (try dsimp only at hC); go_simp; rfl)
            case hC => exact HC
            case ha => (simp only [Act.put, List.setIfInBounds_toArray, List.set_cons_zero, List.set_cons_succ]; rfl)
            apply WZ.take (i := 10) (some 17) rfl rfl (by kernel_rfl) (by kernel_rfl) (by kernel_rfl) (calm_panic _) (by kernel_rfl)
            case hy => (refine .inl ⟨by kernel_rfl, fun W hC => ?_⟩; (try dsimp only at hC); go_simp; rfl)
            case hC => exact HC
            case ha => (simp only [Act.put, List.setIfInBounds_toArray, List.set_cons_zero, List.set_cons_succ]; rfl)
            apply WZ.take (i := 11) (some 18) rfl rfl (by kernel_rfl) (by kernel_rfl) (by kernel_rfl) (calm_panic _) (by kernel_rfl)
            case hy => first | (apply yieldsIf_load_mid (by kernel_rfl) _ _ rfl _ _ rfl; (case hS => (intro W hC; exact (show World.rangeAt _ _ _ (Cl.vals _) from hC.1))); (case hu => exact Try.underlying29); (case hd => rfl); (case hi => kernel_rfl)) | (apply yieldsIf_load_mid (by kernel_rfl) _ _ rfl _ _ rfl; (case hS => (intro W hC; exact (show World.rangeAt _ _ _ (Cl.vals _) from hC.2.1))); (case hu => exact Try.underlying29); (case hd => rfl); (case hi => kernel_rfl)) | (apply yieldsIf_load_mid (by kernel_rfl) _ _ rfl _ _ rfl; (case hS => (intro W hC; exact (show World.rangeAt _ _ _ (Cl.vals _) from hC.2.2.1))); (case hu => exact Try.underlying29); (case hd => rfl); (case hi => kernel_rfl)) | (apply yieldsIf_load_mid (by kernel_rfl) _ _ rfl _ _ rfl; (case hS => (intro W hC; exact (show World.rangeAt _ _ _ (Cl.vals _) from hC.2.2.2.1))); (case hu => exact Try.underlying29); (case hd => rfl); (case hi => kernel_rfl)) | (apply yieldsIf_load_mid (by kernel_rfl) _ _ rfl _ _ rfl; (case hS => (intro W hC; exact (show World.rangeAt _ _ _ (Cl.vals _) from hC.2.2.2))); (case hu => exact Try.underlying29); (case hd => rfl); (case hi => kernel_rfl)) | (apply yieldsIf_load_mid (by kernel_rfl) _ _ rfl _ _ rfl; (case hS => (intro W hC; exact (show World.rangeAt _ _ _ (Cl.vals _) from hC.2.2))); (case hu => exact Try.underlying29); (case hd => rfl); (case hi => kernel_rfl)) | (apply yieldsIf_load_mid (by kernel_rfl) _ _ rfl _ _ rfl; (case hS => (intro W hC; exact (show World.rangeAt _ _ _ (Cl.vals _) from hC.2))); (case hu => exact Try.underlying29); (case hd => rfl); (case hi => kernel_rfl)) | (apply yieldsIf_load_mid (by kernel_rfl) _ _ rfl _ _ rfl; (case hS => (intro W hC; exact (show World.rangeAt _ _ _ (Cl.vals _) from hC))); (case hu => exact Try.underlying29); (case hd => rfl); (case hi => kernel_rfl))
            case hC => exact HC
            case ha => (simp only [Act.put, List.setIfInBounds_toArray, List.set_cons_zero, List.set_cons_succ]; rfl)
            -- 12
            refine WZ.one (i := 12) rfl (by kernel_rfl) ?_
            conv => arg 4; arg 1; whnf
            go_wp2_with (go_at_call 29; refine (HCOL.out _).mono ?_; rintro e w4 ⟨rfl, hb4⟩)
            have HB4 := Lib.hid (HBq.out.trans ((below_of_drew' hb4).mono HBq.out.size))
            have hq1 := (hb4.cell (p := ⟨Bn, 0, none⟩) hbnq).trans HC.1
            have hr1 := rangeAt_below HC.2.1 hb4 hbq
            have hr2 := rangeAt_below HC.2.2 hb4 hbq
            clear HC hb4
            have HC : (fun W => W.cell? ⟨Bn, 0, none⟩ = some (.slice (some ⟨b, o + k * 6, none⟩) nk ck) ∧ W.rangeAt b (o + k * 6) x.vals ∧ W.rangeAt b (o + k * 6 + m * 6) y.vals) w4 := ⟨hq1, hr1, hr2⟩
            clear hq1 hr1 hr2
            refine ⟨HC, ?_⟩
            apply WZ.take (i := 13) (some 20) rfl rfl (by kernel_rfl) (by kernel_rfl) (by kernel_rfl) (calm_panic _) (by kernel_rfl)
            case hy => (refine .inl ⟨by kernel_rfl, fun W hC => ?_⟩; (try dsimp only at hC); go_simp; rfl)
            case hC => exact HC
            case ha => (simp only [Act.put, List.setIfInBounds_toArray, List.set_cons_zero, List.set_cons_succ]; rfl)
            refine WZ.done (by kernel_rfl) ?_ _
            simp only [Calm, Exit.then]
            clear HC
            gi_wp2
            exact ⟨⟨m + 1, by first | rfl | go_num, by omega, HF, HB4⟩, by simp [intOf]; omega⟩
          | false =>
            have HM0 := Lib.hid (HDN.out (fun h0 hm => by rw [HD0.out h0, HDM.out]; exact HCV.out))
            gi_wp2
            refine wpIn_wide.2 ?_
            refine region_wz (fun W => W.cell? ⟨Bn, 0, none⟩ = some (.slice (some ⟨b, o + k * 6, none⟩) nk ck) ∧ W.rangeAt b (o + k * 6) x.vals ∧ W.rangeAt b (o + k * 6 + m * 6) y.vals) none (by kernel_rfl) ?_
            apply WZ.take (i := 0) (some 7) rfl rfl (by kernel_rfl) (by kernel_rfl) (by kernel_rfl) (calm_panic _) (by kernel_rfl)
            case hy => (refine .inl ⟨by kernel_rfl, fun W hC => ?_⟩; (try dsimp only at hC); go_simp; rfl)
            case hC => exact HC
            case ha => (simp only [Act.put, List.setIfInBounds_toArray, List.set_cons_zero, List.set_cons_succ]; rfl)
            apply WZ.take (i := 1) (some 8) rfl rfl (by kernel_rfl) (by kernel_rfl) (by kernel_rfl) (calm_panic _) (by kernel_rfl)
            case hy => (refine .inl ⟨by kernel_rfl, fun W hC => ?_⟩; (try dsimp only at hC); go_simp; rfl)
            case hC => exact HC
            case ha => (simp only [Act.put, List.setIfInBounds_toArray, List.set_cons_zero, List.set_cons_succ]; rfl)
            apply WZ.take (i := 2) (some 9) rfl rfl (by kernel_rfl) (by kernel_rfl) (by kernel_rfl) (calm_panic _) (by kernel_rfl)
            case hy => (refine .inl ⟨by kernel_rfl, fun W hC => ?_⟩; (try dsimp only at hC); go_simp; rfl)
            case hC => exact HC
            case ha => (simp only [Act.put, List.setIfInBounds_toArray, List.set_cons_zero, List.set_cons_succ]; rfl)
            apply WZ.take (i := 3) (some 10) rfl rfl (by kernel_rfl) (by kernel_rfl) (by kernel_rfl) (calm_panic _) (by kernel_rfl)
            case hy => (refine .inl ⟨by kernel_rfl, fun W hC => ?_⟩; (try dsimp only at hC); go_simp; rfl)
            case hC => exact HC
            case ha => (simp only [Act.put, List.setIfInBounds_toArray, List.set_cons_zero, List.set_cons_succ]; rfl)
            apply WZ.take (i := 4) (some 11) rfl rfl (by kernel_rfl) (by kernel_rfl) (by kernel_rfl) (calm_panic _) (by kernel_rfl)
            case hy => (refine .inl ⟨by kernel_rfl, fun W hC => ?_⟩; (try dsimp only at hC); go_simp; rfl)
            case hC => exact HC
            case ha => (simp only [Act.put, List.setIfInBounds_toArray, List.set_cons_zero, List.set_cons_succ]; rfl)
            apply WZ.take (i := 5) (some 12) rfl rfl (by kernel_rfl) (by kernel_rfl) (by kernel_rfl) (calm_panic _) (by kernel_rfl)
            case hy => (refine .inl ⟨by kernel_rfl, fun W hC => ?_⟩; (try dsimp only at hC); go_simp; rfl)
            case hC => exact HC
            case ha => (simp only [Act.put, List.setIfInBounds_toArray, List.set_cons_zero, List.set_cons_succ]; rfl)
            apply WZ.take (i := 6) (some 13) rfl rfl (by kernel_rfl) (by kernel_rfl) (by kernel_rfl) (calm_panic _) (by kernel_rfl)
            case hy => (refine .inl ⟨by kernel_rfl, fun W hC => ?_⟩; (try dsimp only at hC); go_simp; rfl)
            case hC => exact HC
            case ha => (simp only [Act.put, List.setIfInBounds_toArray, List.set_cons_zero, List.set_cons_succ]; rfl)
            apply WZ.take (i := 7) (some 14) rfl rfl (by kernel_rfl) (by kernel_rfl) (by kernel_rfl) (calm_panic _) (by kernel_rfl)
            case hy => first | (apply yieldsIf_load_mid (by kernel_rfl) _ _ rfl _ _ rfl; (case hS => (intro W hC; exact (show World.rangeAt _ _ _ (Cl.vals _) from hC.1))); (case hu => exact Try.underlying29); (case hd => rfl); (case hi => kernel_rfl)) | (apply yieldsIf_load_mid (by kernel_rfl) _ _ rfl _ _ rfl; (case hS => (intro W hC; exact (show World.rangeAt _ _ _ (Cl.vals _) from hC.2.1))); (case hu => exact Try.underlying29); (case hd => rfl); (case hi => kernel_rfl)) | (apply yieldsIf_load_mid (by kernel_rfl) _ _ rfl _ _ rfl; (case hS => (intro W hC; exact (show World.rangeAt _ _ _ (Cl.vals _) from hC.2.2.1))); (case hu => exact Try.underlying29); (case hd => rfl); (case hi => kernel_rfl)) | (apply yieldsIf_load_mid (by kernel_rfl) _ _ rfl _ _ rfl; (case hS => (intro W hC; exact (show World.rangeAt _ _ _ (Cl.vals _) from hC.2.2.2.1))); (case hu => exact Try.underlying29); (case hd => rfl); (case hi => kernel_rfl)) | (apply yieldsIf_load_mid (by kernel_rfl) _ _ rfl _ _ rfl; (case hS => (intro W hC; exact (show World.rangeAt _ _ _ (Cl.vals _) from hC.2.2.2))); (case hu => exact Try.underlying29); (case hd => rfl); (case hi => kernel_rfl)) | (apply yieldsIf_load_mid (by kernel_rfl) _ _ rfl _ _ rfl; (case hS => (intro W hC; exact (show World.rangeAt _ _ _ (Cl.vals _) from hC.2.2))); (case hu => exact Try.underlying29); (case hd => rfl); (case hi => kernel_rfl)) | (apply yieldsIf_load_mid (by kernel_rfl) _ _ rfl _ _ rfl; (case hS => (intro W hC; exact (show World.rangeAt _ _ _ (Cl.vals _) from hC.2))); (case hu => exact Try.underlying29); (case hd => rfl); (case hi => kernel_rfl)) | (apply yieldsIf_load_mid (by kernel_rfl) _ _ rfl _ _ rfl; (case hS => (intro W hC; exact (show World.rangeAt _ _ _ (Cl.vals _) from hC))); (case hu => exact Try.underlying29); (case hd => rfl); (case hi => kernel_rfl))
            case hC => exact HC
            case ha => (simp only [Act.put, List.setIfInBounds_toArray, List.set_cons_zero, List.set_cons_succ]; rfl)
            apply WZ.take (i := 8) (some 15) rfl rfl (by kernel_rfl) (by kernel_rfl) (by kernel_rfl) (calm_panic _) (by kernel_rfl)
            case hy => (refine .inl ⟨by kernel_rfl, fun W hC => ?_⟩; (try dsimp only at hC); go_simp; rfl)
            case hC => exact HC
            case ha => (simp only [Act.put, List.setIfInBounds_toArray, List.set_cons_zero, List.set_cons_succ]; rfl)
            apply WZ.take (i := 9) (some 16) rfl rfl (by kernel_rfl) (by kernel_rfl) (by kernel_rfl) (calm_panic _) (by kernel_rfl)
            case hy => (refine .inl ⟨by kernel_rfl, fun W hC => ?_⟩; (try dsimp only at hC); go_simp; rfl)
            case hC => exact HC
            case ha => (simp only [Act.put, List.setIfInBounds_toArray, List.set_cons_zero, List.set_cons_succ]; rfl)
            apply WZ.take (i := 10) (some 17) rfl rfl (by kernel_rfl) (by kernel_rfl) (by kernel_rfl) (calm_panic _) (by kernel_rfl)
            case hy => (refine .inl ⟨by kernel_rfl, fun W hC => ?_⟩; (try dsimp only at hC); go_simp; rfl)
            case hC => exact HC
            case ha => (simp only [Act.put, List.setIfInBounds_toArray, List.set_cons_zero, List.set_cons_succ]; rfl)
            apply WZ.take (i := 11) (some 18) rfl rfl (by kernel_rfl) (by kernel_rfl) (by kernel_rfl) (calm_panic _) (by kernel_rfl)
            case hy => first | (apply yieldsIf_load_mid (by kernel_rfl) _ _ rfl _ _ rfl; (case hS => (intro W hC; exact (show World.rangeAt _ _ _ (Cl.vals _) from hC.1))); (case hu => exact Try.underlying29); (case hd => rfl); (case hi => kernel_rfl)) | (apply yieldsIf_load_mid (by kernel_rfl) _ _ rfl _ _ rfl; (case hS => (intro W hC; exact (show World.rangeAt _ _ _ (Cl.vals _) from hC.2.1))); (case hu => exact Try.underlying29); (case hd => rfl); (case hi => kernel_rfl)) | (apply yieldsIf_load_mid (by kernel_rfl) _ _ rfl _ _ rfl; (case hS => (intro W hC; exact (show World.rangeAt _ _ _ (Cl.vals _) from hC.2.2.1))); (case hu => exact Try.underlying29); (case hd => rfl); (case hi => kernel_rfl)) | (apply yieldsIf_load_mid (by kernel_rfl) _ _ rfl _ _ rfl; (case hS => (intro W hC; exact (show World.rangeAt _ _ _ (Cl.vals _) from hC.2.2.2.1))); (case hu => exact Try.underlying29); (case hd => rfl); (case hi => kernel_rfl)) | (apply yieldsIf_load_mid (by kernel_rfl) _ _ rfl _ _ rfl; (case hS => (intro W hC; exact (show World.rangeAt _ _ _ (Cl.vals _) from hC.2.2.2))); (case hu => exact Try.underlying29); (case hd => rfl); (case hi => kernel_rfl)) | (apply yieldsIf_load_mid (by kernel_rfl) _ _ rfl _ _ rfl; (case hS => (intro W hC; exact (show World.rangeAt _ _ _ (Cl.vals _) from hC.2.2))); (case hu => exact Try.underlying29); (case hd => rfl); (case hi => kernel_rfl)) | (apply yieldsIf_load_mid (by kernel_rfl) _ _ rfl _ _ rfl; (case hS => (intro W hC; exact (show World.rangeAt _ _ _ (Cl.vals _) from hC.2))); (case hu => exact Try.underlying29); (case hd => rfl); (case hi => kernel_rfl)) | (apply yieldsIf_load_mid (by kernel_rfl) _ _ rfl _ _ rfl; (case hS => (intro W hC; exact (show World.rangeAt _ _ _ (Cl.vals _) from hC))); (case hu => exact Try.underlying29); (case hd => rfl); (case hi => kernel_rfl))
            case hC => exact HC
            case ha => (simp only [Act.put, List.setIfInBounds_toArray, List.set_cons_zero, List.set_cons_succ]; rfl)
            -- 12
            refine WZ.one (i := 12) rfl (by kernel_rfl) ?_
            conv => arg 4; arg 1; whnf
            go_wp2_with (go_at_call 29; refine (HCOL.out _).mono ?_; rintro e w4 ⟨rfl, hb4⟩)
            have HB4 := Lib.hid (HBq.out.trans ((below_of_drew' hb4).mono HBq.out.size))
            have hq1 := (hb4.cell (p := ⟨Bn, 0, none⟩) hbnq).trans HC.1
            have hr1 := rangeAt_below HC.2.1 hb4 hbq
            have hr2 := rangeAt_below HC.2.2 hb4 hbq
            clear HC hb4
            have HC : (fun W => W.cell? ⟨Bn, 0, none⟩ = some (.slice (some ⟨b, o + k * 6, none⟩) nk ck) ∧ W.rangeAt b (o + k * 6) x.vals ∧ W.rangeAt b (o + k * 6 + m * 6) y.vals) w4 := ⟨hq1, hr1, hr2⟩
            clear hq1 hr1 hr2
            refine ⟨HC, ?_⟩
            apply WZ.take (i := 13) (some 20) rfl rfl (by kernel_rfl) (by kernel_rfl) (by kernel_rfl) (calm_panic _) (by kernel_rfl)
            case hy => (refine .inl ⟨by kernel_rfl, fun W hC => ?_⟩; (try dsimp only at hC); go_simp; rfl)
            case hC => exact HC
            case ha => (simp only [Act.put, List.setIfInBounds_toArray, List.set_cons_zero, List.set_cons_succ]; rfl)
            refine WZ.done (by kernel_rfl) ?_ _
            simp only [Calm, Exit.then]
            clear HC
            obtain ⟨hpre, hcs⟩ := ColSt.next HN.out HCS.out hkN HM0.out
            have HCS2 := Lib.hid hcs
            have hJz : J pre own1 w4 := HST.out pre own1 wr w4 HJ.out ((Still.of_below HB4.out).toB [Bn])
            obtain ⟨fn, tmps, assign, body, hy, hR⟩ := HY.out pre (k, m) own1 w4 hJz hpre
            have hcv : colVal (some ⟨b, o, none⟩) c (k, m) = .slice (some ⟨b, o + k * 6, none⟩) m ck := by
              unfold colVal
              rw [tail_at b o c k (by omega), HCK.out]
            rw [hcv] at hy
            have HRR := Lib.hid hR
            have hmk : m ≤ nk := by
              have h1 := (colLen_pos (l := A.drop k) (by rw [List.length_drop, HN.out]; omega)).2
              rw [List.length_drop, HN.out, ← HM0.out] at h1
              have := HNK.out
              omega
            have hm1 : 0 < m := by
              rw [HM0.out]
              exact (colLen_pos (l := A.drop k) (by rw [List.length_drop, HN.out]; omega)).1
            have hsf := fun W => run_front (P := Try.prog) (t := 26) (e := 29) (size := 6) Try.underlying26 hj0 hj1 (some ⟨b, o + k * 6, none⟩) nk ck m (by have := HNK.out; have := HCK.out; omega) W
            have hst := fun W => run_tail (P := Try.prog) (t := 26) (e := 29) (size := 6) Try.underlying26 hj0 hj1 (some ⟨b, o + k * 6, none⟩) nk ck m (by omega) W
            have hbz := (HB4.out.cell (p := ⟨Bn, 0, none⟩) HBXr.out.lt).trans HBXr.out.cell
            have HBXz := Lib.hid (HBXr.out.below HB4.out HBXr.out.lt)
            obtain ⟨At, hAt⟩ : ∃ At, tailA (some ⟨b, o + k * 6, none⟩) ck m 6 = At := ⟨_, rfl⟩
            rw [hAt] at hst
            have HAT := Lib.hid (fun (h : k + m < N) => show At = tailA (some ⟨b, o, none⟩) c (k + m) 6 by rw [← hAt, HCK.out]; exact tail_tail b o c k m (by omega) (by omega))
            have HNM := Lib.hid (show nk - m = N - (k + m) by have := HNK.out; omega)
            have HCM := Lib.hid (show ck - m = c - (k + m) by have := HCK.out; omega)
            clear hcv hJz hpre hcs hR hAt
            gi_wp2
            refine HRR.out.mono ?_
            rintro e W3 ⟨rfl, own2, hJ3, hm3⟩
            have HBX3 := Lib.hid (show Box W3 Bn 26 (.slice (some ⟨b, o + k * 6, none⟩) nk ck) from (hm3.block Bn HBXz.out.lt HNO.out).trans HBXz.out)
            have hb3 := HBX3.out.cell
            have hf3 := HBX3.out.free
            have HM3 := Lib.hid ((HM.out.trans ((Mv.of_below HB4.out HM.out.lies).toB [Bn])).trans (hm3.toB [Bn]))
            have HJ3 := Lib.hid hJ3
            have HNO2 := Lib.hid (hm3.out HBXz.out.lt HNO.out)
            clear hm3 hJ3 hbz
            have kq1 : (m : Int) ≤ (nk : Int) := by omega
            have kq2 : (0 : Int) ≤ (m : Int) := by omega
            gi_wp2
            refine ⟨⟨pre ++ [(k, m)], own2, k + m, nk - m, ck - m, At, HNM.out, HCM.out, HCS2, Lib.hid ?_, Lib.hid ?_, Lib.hid (HBX3.out.set _), HAT⟩, ?_⟩
            · refine HST.out _ _ _ _ HJ3.out ⟨rfl, rfl, rfl, by simp [World.setCell], fun q hq hqo => ?_⟩
              refine Below.heap_setCell _ _ _ _ ?_
              rintro rfl
              rcases hqo with ⟨-, h2⟩ | h2
              · exact h2 (List.mem_singleton.2 rfl)
              · exact HNO2.out h2
            · refine HM3.out.trans ⟨rfl, rfl, rfl, by simp [World.setCell], fun q hq hqo hqb => ?_, fun q hq => .inl hq, fun q hq => ?_⟩
              · refine Below.heap_setCell _ _ _ _ ?_
                rintro rfl
                exact hqb (List.mem_singleton.2 rfl)
              · have := HM3.out.lies q hq
                simpa [World.setCell] using this
            · rw [(HBX3.out.set _).cell, HBXr.out.cell]
              show nk - m < nk
              omega
        · have f1 : decide ((m : Int) < (nk : Int)) = false := decide_eq_false (by omega)
          have hm0 : m = colLen (A.drop k) := InCol.done HI.out (fun _ h => absurd h (by have := HNK.out; rw [List.length_drop, HN.out]; omega))
          have HC : wq.drew.cell? ⟨Bn, 0, none⟩ = some (.slice (some ⟨b, o + k * 6, none⟩) nk ck) := hcb
          have HB5 := Lib.hid (show Below wr.heap.size wr wq.drew from HBq.out.drew)
          have HM0 := Lib.hid hm0
          clear hcb hm0
          gi_wp2
          refine wpIn_wide.2 ?_
          refine region_wz (fun W => W.cell? ⟨Bn, 0, none⟩ = some (.slice (some ⟨b, o + k * 6, none⟩) nk ck)) none (by kernel_rfl) ?_
          apply WZ.take (i := 0) (some 7) rfl rfl (by kernel_rfl) (by kernel_rfl) (by kernel_rfl) (calm_panic _) (by kernel_rfl)
          case hy => (refine .inl ⟨by kernel_rfl, fun W hC => ?_⟩; (try dsimp only at hC); go_simp; rfl)
          case hC => exact HC
          case ha => (simp only [Act.put, List.setIfInBounds_toArray, List.set_cons_zero, List.set_cons_succ]; rfl)
          apply WZ.take (i := 1) (some 8) rfl rfl (by kernel_rfl) (by kernel_rfl) (by kernel_rfl) (calm_panic _) (by kernel_rfl)
          case hy => (refine .inl ⟨by kernel_rfl, fun W hC => ?_⟩; (try dsimp only at hC); go_simp; rfl)
          case hC => exact HC
          case ha => (simp only [Act.put, List.setIfInBounds_toArray, List.set_cons_zero, List.set_cons_succ]; rfl)
          apply WZ.take (i := 2) (some 9) rfl rfl (by kernel_rfl) (by kernel_rfl) (by kernel_rfl) (calm_panic _) (by kernel_rfl)
          case hy => (refine .inl ⟨by kernel_rfl, fun W hC => ?_⟩; (try dsimp only at hC); go_simp; rfl)
          case hC => exact HC
          case ha => (simp only [Act.put, List.setIfInBounds_toArray, List.set_cons_zero, List.set_cons_succ]; rfl)
          apply WZ.take (i := 3) (some 10) rfl rfl (by kernel_rfl) (by kernel_rfl) (by kernel_rfl) (calm_panic _) (by kernel_rfl)
          case hy => (refine .inl ⟨by kernel_rfl, fun W hC => ?_⟩; (try dsimp only at hC); go_simp; rfl)
          case hC => exact HC
          case ha => (simp only [Act.put, List.setIfInBounds_toArray, List.set_cons_zero, List.set_cons_succ]; rfl)
          apply WZ.take (i := 4) (some 11) rfl rfl (by kernel_rfl) (by kernel_rfl) (by kernel_rfl) (calm_panic _) (by kernel_rfl)
          case hy => (refine .inl ⟨by kernel_rfl, fun W hC => ?_⟩; (try dsimp only at hC); go_simp; rfl)
          case hC => exact HC
          case ha => (simp only [Act.put, List.setIfInBounds_toArray, List.set_cons_zero, List.set_cons_succ]; rfl)
          apply WZ.take (i := 5) (some 12) rfl rfl (by kernel_rfl) (by kernel_rfl) (by kernel_rfl) (calm_panic _) (by kernel_rfl)
          case hy => exact .inr ⟨by kernel_rfl, rfl⟩
          case hC => exact HC
          case ha => (simp only [Act.put, List.setIfInBounds_toArray, List.set_cons_zero, List.set_cons_succ]; rfl)
          apply WZ.take (i := 6) (some 13) rfl rfl (by kernel_rfl) (by kernel_rfl) (by kernel_rfl) (calm_panic _) (by kernel_rfl)
          case hy => exact .inr ⟨by kernel_rfl, rfl⟩
          case hC => exact HC
          case ha => (simp only [Act.put, List.setIfInBounds_toArray, List.set_cons_zero, List.set_cons_succ]; rfl)
          apply WZ.take (i := 7) (some 14) rfl rfl (by kernel_rfl) (by kernel_rfl) (by kernel_rfl) (calm_panic _) (by kernel_rfl)
          case hy => exact .inr ⟨by kernel_rfl, rfl⟩
          case hC => exact HC
          case ha => (simp only [Act.put, List.setIfInBounds_toArray, List.set_cons_zero, List.set_cons_succ]; rfl)
          apply WZ.take (i := 8) (some 15) rfl rfl (by kernel_rfl) (by kernel_rfl) (by kernel_rfl) (calm_panic _) (by kernel_rfl)
          case hy => exact .inr ⟨by kernel_rfl, rfl⟩
          case hC => exact HC
          case ha => (simp only [Act.put, List.setIfInBounds_toArray, List.set_cons_zero, List.set_cons_succ]; rfl)
          apply WZ.take (i := 9) (some 16) rfl rfl (by kernel_rfl) (by kernel_rfl) (by kernel_rfl) (calm_panic _) (by kernel_rfl)
          case hy => exact .inr ⟨by kernel_rfl, rfl⟩
          case hC => exact HC
          case ha => (simp only [Act.put, List.setIfInBounds_toArray, List.set_cons_zero, List.set_cons_succ]; rfl)
          apply WZ.take (i := 10) (some 17) rfl rfl (by kernel_rfl) (by kernel_rfl) (by kernel_rfl) (calm_panic _) (by kernel_rfl)
          case hy => exact .inr ⟨by kernel_rfl, rfl⟩
          case hC => exact HC
          case ha => (simp only [Act.put, List.setIfInBounds_toArray, List.set_cons_zero, List.set_cons_succ]; rfl)
          apply WZ.take (i := 11) (some 18) rfl rfl (by kernel_rfl) (by kernel_rfl) (by kernel_rfl) (calm_panic _) (by kernel_rfl)
          case hy => exact .inr ⟨by kernel_rfl, rfl⟩
          case hC => exact HC
          case ha => (simp only [Act.put, List.setIfInBounds_toArray, List.set_cons_zero, List.set_cons_succ]; rfl)
          apply WZ.take (i := 12) (some 19) rfl rfl (by kernel_rfl) (by kernel_rfl) (by kernel_rfl) (calm_panic _) (by kernel_rfl)
          case hy => exact .inr ⟨by kernel_rfl, rfl⟩
          case hC => exact HC
          case ha => (simp only [Act.put, List.setIfInBounds_toArray, List.set_cons_zero, List.set_cons_succ]; rfl)
          apply WZ.take (i := 13) (some 20) rfl rfl (by kernel_rfl) (by kernel_rfl) (by kernel_rfl) (calm_panic _) (by kernel_rfl)
          case hy => (refine .inl ⟨by kernel_rfl, fun W hC => ?_⟩; (try dsimp only at hC); go_simp; rfl)
          case hC => exact HC
          case ha => (simp only [Act.put, List.setIfInBounds_toArray, List.set_cons_zero, List.set_cons_succ]; rfl)
          refine WZ.done (by kernel_rfl) ?_ _
          simp only [Calm, Exit.then]
          clear HC
          obtain ⟨hpre, hcs⟩ := ColSt.next HN.out HCS.out hkN HM0.out
          have HCS2 := Lib.hid hcs
          have hJz : J pre own1 wq.drew := HST.out pre own1 wr wq.drew HJ.out ((Still.of_below HB5.out).toB [Bn])
          obtain ⟨fn, tmps, assign, body, hy, hR⟩ := HY.out pre (k, m) own1 wq.drew hJz hpre
          have hcv : colVal (some ⟨b, o, none⟩) c (k, m) = .slice (some ⟨b, o + k * 6, none⟩) m ck := by
            unfold colVal
            rw [tail_at b o c k (by omega), HCK.out]
          rw [hcv] at hy
          have HRR := Lib.hid hR
          have hmk : m ≤ nk := by
            have h1 := (colLen_pos (l := A.drop k) (by rw [List.length_drop, HN.out]; omega)).2
            rw [List.length_drop, HN.out, ← HM0.out] at h1
            have := HNK.out
            omega
          have hm1 : 0 < m := by
            rw [HM0.out]
            exact (colLen_pos (l := A.drop k) (by rw [List.length_drop, HN.out]; omega)).1
          have hsf := fun W => run_front (P := Try.prog) (t := 26) (e := 29) (size := 6) Try.underlying26 hj0 hj1 (some ⟨b, o + k * 6, none⟩) nk ck m (by have := HNK.out; have := HCK.out; omega) W
          have hst := fun W => run_tail (P := Try.prog) (t := 26) (e := 29) (size := 6) Try.underlying26 hj0 hj1 (some ⟨b, o + k * 6, none⟩) nk ck m (by omega) W
          have hbz := (HB5.out.cell (p := ⟨Bn, 0, none⟩) HBXr.out.lt).trans HBXr.out.cell
          have HBXz := Lib.hid (HBXr.out.below HB5.out HBXr.out.lt)
          obtain ⟨At, hAt⟩ : ∃ At, tailA (some ⟨b, o + k * 6, none⟩) ck m 6 = At := ⟨_, rfl⟩
          rw [hAt] at hst
          have HAT := Lib.hid (fun (h : k + m < N) => show At = tailA (some ⟨b, o, none⟩) c (k + m) 6 by rw [← hAt, HCK.out]; exact tail_tail b o c k m (by omega) (by omega))
          have HNM := Lib.hid (show nk - m = N - (k + m) by have := HNK.out; omega)
          have HCM := Lib.hid (show ck - m = c - (k + m) by have := HCK.out; omega)
          clear hcv hJz hpre hcs hR hAt
          gi_wp2
          refine HRR.out.mono ?_
          rintro e W3 ⟨rfl, own2, hJ3, hm3⟩
          have HBX3 := Lib.hid (show Box W3 Bn 26 (.slice (some ⟨b, o + k * 6, none⟩) nk ck) from (hm3.block Bn HBXz.out.lt HNO.out).trans HBXz.out)
          have hb3 := HBX3.out.cell
          have hf3 := HBX3.out.free
          have HM3 := Lib.hid ((HM.out.trans ((Mv.of_below HB5.out HM.out.lies).toB [Bn])).trans (hm3.toB [Bn]))
          have HJ3 := Lib.hid hJ3
          have HNO2 := Lib.hid (hm3.out HBXz.out.lt HNO.out)
          clear hm3 hJ3 hbz
          have kq1 : (m : Int) ≤ (nk : Int) := by omega
          have kq2 : (0 : Int) ≤ (m : Int) := by omega
          gi_wp2
          refine ⟨⟨pre ++ [(k, m)], own2, k + m, nk - m, ck - m, At, HNM.out, HCM.out, HCS2, Lib.hid ?_, Lib.hid ?_, Lib.hid (HBX3.out.set _), HAT⟩, ?_⟩
          · refine HST.out _ _ _ _ HJ3.out ⟨rfl, rfl, rfl, by simp [World.setCell], fun q hq hqo => ?_⟩
            refine Below.heap_setCell _ _ _ _ ?_
            rintro rfl
            rcases hqo with ⟨-, h2⟩ | h2
            · exact h2 (List.mem_singleton.2 rfl)
            · exact HNO2.out h2
          · refine HM3.out.trans ⟨rfl, rfl, rfl, by simp [World.setCell], fun q hq hqo hqb => ?_, fun q hq => .inl hq, fun q hq => ?_⟩
            · refine Below.heap_setCell _ _ _ _ ?_
              rintro rfl
              exact hqb (List.mem_singleton.2 rfl)
            · have := HM3.out.lies q hq
              simpa [World.setCell] using this
          · rw [(HBX3.out.set _).cell, HBXr.out.cell]
            show nk - m < nk
            omega
    · have e1 : decide ((0 : Int) < (nk : Int)) = false := decide_eq_false (by have := HNK.out; omega)
      have hz : nk = 0 := by have := HNK.out; omega
      subst hz
      have HF := Lib.hid (HCS.out.done HN.out hkN)
      gi_wp2
      go_end0
      exact ⟨⟨_, rfl⟩, own1, HF.out ▸ HJ.out, HM.out⟩
end Go.Proofs.Ytoligmmjmghgnaa
