/-
  The walks of the reference's SameSums and SameTexts. Effects and commands, turned to the reference's, and held against one another. The walk of the bound of layer 19's laws. rickyardlaw19.shown. No conditions.
-/
import Derived.Test.YtiiogdgnccgehaaJJ
namespace Go.Proofs.Ytiiogdgnccgehaa
open Go.RowKit
attribute [local go_sem ↓] Go.wp_at_zero Go.wp_at_succ

theorem u32_at {w : World} {B : Nat} {A : Option Addr} {l : List Nat} (h : Rd w B A (u32s l)) {k : Nat} (hk : k < l.length) : ∃ b o, A = some ⟨b, o, none⟩ ∧ b < B ∧ w.cell? ⟨b, o + k, none⟩ = some (.int .u32 (l[k] : Int)) := by
  obtain ⟨b, o, e, hb, hc⟩ := h.at_ (u32s_ne hk)
  exact ⟨b, o, e, hb, Rd.u32_at hc k hk⟩
theorem text_at {w : World} {B : Nat} {A : Option Addr} {l : List ByteArray} (h : Rd w B A (txs l)) {k : Nat} (hk : k < l.length) : ∃ b o, A = some ⟨b, o, none⟩ ∧ b < B ∧ w.cell? ⟨b, o + k, none⟩ = some (.string l[k]) := by
  have hne : txs l ≠ [] := fun e => by have := congrArg List.length e; simp [txs] at this; rw [this] at hk; simp at hk
  obtain ⟨b, o, e, hb, hc⟩ := h.at_ hne
  refine ⟨b, o, e, hb, ?_⟩
  rw [hc k (by simpa [txs] using hk)]
  simp [txs]
theorem neqT (x y : ByteArray) : (x.toList == y.toList) = decide (x = y) := by
  by_cases h : x = y
  · simp [h]
  · have : x.toList ≠ y.toList := fun e => h (toList_inj e)
    simp [h, this]
set_option maxRecDepth 20000 in
set_option maxHeartbeats 4000000 in
theorem sameSums_any (A B : Option Addr) (c d : Nat) (l m : List Nat) (w : World) (hl : Rd w w.heap.size A (u32s l)) (hm : Rd w w.heap.size B (u32s m)) (hlen : l.length ≤ maxLen) (_hlen' : m.length ≤ maxLen) :
    Calls Try.prog 26 #[.slice A l.length c, .slice B m.length d] w fun e w' => e = .returned (.bool (decide (l = m))) ∧ Below w.heap.size w w' := by
  unfold maxLen at hlen _hlen'
  by_cases hn : l.length = m.length
  · obtain ⟨N, hN⟩ : ∃ N, l.length = N := ⟨_, rfl⟩
    have hM : m.length = N := by omega
    have HN := Lib.hid hN
    have HM := Lib.hid hM
    rw [hN] at hlen ⊢
    rw [hM]
    have hb : ((N : Int) != (N : Int)) = false := bne_self_eq_false _
    have HL := Lib.hid hl
    have HK := Lib.hid hm
    clear hl hm hn hN hM _hlen'
    go_enter Try.func26, Try.ntmps26
    go_wp2
    go_loopw [5] (fun i wr => ∃ k : Nat, k ≤ N ∧ i = .int .i64 k ∧ Hid (sameT l m k) ∧ Hid (Below w.heap.size w wr)) (fun i _ => N - (intOf i).toNat)
    case atStart => exact ⟨0, Nat.zero_le _, rfl, Lib.hid rfl, Lib.hid (Below.refl _ _)⟩
    case round =>
      obtain ⟨k, hk, rfl, HS, HB⟩ := hrel
      rename World => wr
      by_cases hlt : k < N
      · have hlt0 : k < l.length := by rw [HN.out]; exact hlt
        have hlt' : k < m.length := by rw [HM.out]; exact hlt
        have e1 : decide ((k : Int) < (N : Int)) = true := decide_eq_true (by omega)
        have k1 : (0 : Int) ≤ (k : Int) := by omega
        have k2 : (k : Int) < (N : Int) := by omega
        have hw3 : IntKind.i64.wrap ((k : Int) + 1) = ((k + 1 : Nat) : Int) := by rw [IntWalk.i64_in _ (by omega)]; omega
        obtain ⟨b, o, rfl, hb1, l0⟩ := u32_at (HL.out.below HB.out) hlt0
        obtain ⟨b', o', rfl, hb', l1⟩ := u32_at (HK.out.below HB.out) hlt'
        have HE : Hid (l[k] = m[k] → sameT l m (k + 1)) := Lib.hid fun h => sameT_succ HS.out hlt0 hlt' h
        have HF : Hid (l[k] ≠ m[k] → false = decide (l = m)) := Lib.hid fun h => sameT_not hlt0 hlt' h
        obtain ⟨x, hx⟩ : ∃ x, l[k] = x := ⟨_, rfl⟩
        obtain ⟨y, hy⟩ : ∃ y, m[k] = y := ⟨_, rfl⟩
        rw [hx] at l0 HE HF
        rw [hy] at l1 HE HF
        have hq := neqN x y
        clear hx hy
        by_cases he : x = y
        · have HG := Lib.hid (HE.out he)
          rw [decide_eq_true he] at hq
          clear he
          go_wp2
          go_quiet (fail)
          go_wp2
          exact ⟨⟨k + 1, by omega, by first | rfl | go_num, HG, Lib.hid (HB.out.trans ((below_drewN _ _).mono HB.out.size))⟩, by simp [intOf]; omega⟩
        · have HG := Lib.hid (HF.out he)
          rw [decide_eq_false he] at hq
          clear he
          go_wp2
          go_quiet (fail)
          go_wp2
          go_ret
          exact ⟨ret_bool HG.out, HB.out.trans ((below_drewN _ _).mono HB.out.size)⟩
      · have HG := Lib.hid (sameT_end HS.out (by rw [HN.out, HM.out]) (by rw [HN.out]; omega))
        have e1 : decide ((k : Int) < (N : Int)) = false := decide_eq_false (by omega)
        go_wp2
        go_ret
        exact ⟨ret_bool HG.out, HB.out⟩
  · have HG := Lib.hid (sameT_len (l := l) (m := m) hn)
    have hb : ((l.length : Int) != (m.length : Int)) = true := by rw [bne_iff_ne]; omega
    go_enter Try.func26, Try.ntmps26
    go_wp2
    go_ret
    exact ⟨ret_bool HG.out, Below.refl _ _⟩
set_option maxRecDepth 20000 in
set_option maxHeartbeats 4000000 in
theorem sameTexts_any (A B : Option Addr) (c d : Nat) (l m : List ByteArray) (w : World) (hl : Rd w w.heap.size A (txs l)) (hm : Rd w w.heap.size B (txs m)) (hlen : l.length ≤ maxLen) (_hlen' : m.length ≤ maxLen) :
    Calls Try.prog 50 #[.slice A l.length c, .slice B m.length d] w fun e w' => e = .returned (.bool (decide (l = m))) ∧ Below w.heap.size w w' := by
  unfold maxLen at hlen _hlen'
  by_cases hn : l.length = m.length
  · obtain ⟨N, hN⟩ : ∃ N, l.length = N := ⟨_, rfl⟩
    have hM : m.length = N := by omega
    have HN := Lib.hid hN
    have HM := Lib.hid hM
    rw [hN] at hlen ⊢
    rw [hM]
    have hb : ((N : Int) != (N : Int)) = false := bne_self_eq_false _
    have HL := Lib.hid hl
    have HK := Lib.hid hm
    clear hl hm hn hN hM _hlen'
    go_enter Try.func50, Try.ntmps50
    go_wp2
    go_loopw [5] (fun i wr => ∃ k : Nat, k ≤ N ∧ i = .int .i64 k ∧ Hid (sameT l m k) ∧ Hid (Below w.heap.size w wr)) (fun i _ => N - (intOf i).toNat)
    case atStart => exact ⟨0, Nat.zero_le _, rfl, Lib.hid rfl, Lib.hid (Below.refl _ _)⟩
    case round =>
      obtain ⟨k, hk, rfl, HS, HB⟩ := hrel
      rename World => wr
      by_cases hlt : k < N
      · have hlt0 : k < l.length := by rw [HN.out]; exact hlt
        have hlt' : k < m.length := by rw [HM.out]; exact hlt
        have e1 : decide ((k : Int) < (N : Int)) = true := decide_eq_true (by omega)
        have k1 : (0 : Int) ≤ (k : Int) := by omega
        have k2 : (k : Int) < (N : Int) := by omega
        have hw3 : IntKind.i64.wrap ((k : Int) + 1) = ((k + 1 : Nat) : Int) := by rw [IntWalk.i64_in _ (by omega)]; omega
        obtain ⟨b, o, rfl, hb1, l0⟩ := text_at (HL.out.below HB.out) hlt0
        obtain ⟨b', o', rfl, hb', l1⟩ := text_at (HK.out.below HB.out) hlt'
        have HE : Hid (l[k] = m[k] → sameT l m (k + 1)) := Lib.hid fun h => sameT_succ HS.out hlt0 hlt' h
        have HF : Hid (l[k] ≠ m[k] → false = decide (l = m)) := Lib.hid fun h => sameT_not hlt0 hlt' h
        obtain ⟨x, hx⟩ : ∃ x, l[k] = x := ⟨_, rfl⟩
        obtain ⟨y, hy⟩ : ∃ y, m[k] = y := ⟨_, rfl⟩
        rw [hx] at l0 HE HF
        rw [hy] at l1 HE HF
        have hq := neqT x y
        clear hx hy
        by_cases he : x = y
        · have HG := Lib.hid (HE.out he)
          rw [decide_eq_true he] at hq
          clear he
          go_wp2
          go_quiet (fail)
          go_wp2
          exact ⟨⟨k + 1, by omega, by first | rfl | go_num, HG, Lib.hid (HB.out.trans ((below_drewN _ _).mono HB.out.size))⟩, by simp [intOf]; omega⟩
        · have HG := Lib.hid (HF.out he)
          rw [decide_eq_false he] at hq
          clear he
          go_wp2
          go_quiet (fail)
          go_wp2
          go_ret
          exact ⟨ret_bool HG.out, HB.out.trans ((below_drewN _ _).mono HB.out.size)⟩
      · have HG := Lib.hid (sameT_end HS.out (by rw [HN.out, HM.out]) (by rw [HN.out]; omega))
        have e1 : decide ((k : Int) < (N : Int)) = false := decide_eq_false (by omega)
        go_wp2
        go_ret
        exact ⟨ret_bool HG.out, HB.out⟩
  · have HG := Lib.hid (sameT_len (l := l) (m := m) hn)
    have hb : ((l.length : Int) != (m.length : Int)) = true := by rw [bne_iff_ne]; omega
    go_enter Try.func50, Try.ntmps50
    go_wp2
    go_ret
    exact ⟨ret_bool HG.out, Below.refl _ _⟩
end Go.Proofs.Ytiiogdgnccgehaa
namespace Go.Proofs.Ytiiogdgnccgehaa
open Go.RowKit
attribute [local go_sem ↓] Go.wp_at_zero Go.wp_at_succ

set_option maxRecDepth 20000 in
set_option maxHeartbeats 2000000 in
theorem effect_lit (E : Int) (d : Bool) (A : Option Addr) (N k : Nat) (D : Option Addr) (M m : Nat) (w : World) : Calls Try.prog 23 #[.agg #[.int .i64 E, .bool d, .slice A N k, .slice D M m]] w fun e w' => e = .returned (.agg #[.int .i64 E, .bool d, .slice A N k, .slice D M m]) ∧ Below w.heap.size w w' := by
  have HB := Lib.hid (Blk.new 53 w [.int .i64 E, .bool d, .slice A N k, .slice D M m])
  have HL := Lib.hid (below_al w (.cells #[.int .i64 E, .bool d, .slice A N k, .slice D M m] 53))
  go_enter Try.func23, Try.ntmps23
  go_wp2_with (first
    | ((with_reducible show wpList _ _ _ ({ dst := some 3, op := Op.load _ _, type := _, pos := _, after := _, guard := _ } :: _) _ _); go_loud (refine wpList_load_mid rfl 53 (.tmp 1) rfl w.heap.size 0 rfl [.int .i64 E, .bool d, .slice A N k, .slice D M m] _ (HB.out.below (below_al _ (.cells #[.int .i64 0, .bool false, .slice none 0 0, .slice none 0 0] 56)) HB.out.lt).range Try.underlying53 rfl (by kernel_rfl) ?_))
    | ((with_reducible show wpList _ _ _ ({ dst := none, op := Op.store _ (Operand.tmp 2) _, type := _, pos := _, after := _, guard := _ } :: _) _ _); go_loud (refine wpList_store_mid rfl 56 (.tmp 2) (.tmp 3) rfl (w.heap.size + 1) 0 #[.int .i64 E, .bool d, .slice A N k, .slice D M m] rfl rfl ((two_blocks w 53 56 [.int .i64 E, .bool d, .slice A N k, .slice D M m] [.int .i64 0, .bool false, .slice none 0 0, .slice none 0 0]).2.1.there 4 (Nat.le_refl _)) (by kernel_rfl) (by simp [Value.oneCell']) ?_); refine (two_blocks w 53 56 [.int .i64 E, .bool d, .slice A N k, .slice D M m] [.int .i64 0, .bool false, .slice none 0 0, .slice none 0 0]).2.1.setW [.int .i64 E, .bool d, .slice A N k, .slice D M m] rfl ?_; intro w2 HT2 HG2))
  (try simp only [Exit.inBlock, Exit.then])
  refine bodyPost_ret (results_cell_row rfl _ _ (w.heap.size + 1) _ _ _ _ rfl HT2.out Try.underlying56 rfl (by kernel_rfl)) rfl ?_
  exact ⟨rfl, below_grown (two_blocks w 53 56 [.int .i64 E, .bool d, .slice A N k, .slice D M m] [.int .i64 0, .bool false, .slice none 0 0, .slice none 0 0]).2.2 (two_blocks w 53 56 [.int .i64 E, .bool d, .slice A N k, .slice D M m] [.int .i64 0, .bool false, .slice none 0 0, .slice none 0 0]).2.2.size HG2.out (by omega)⟩
set_option maxRecDepth 20000 in
set_option maxHeartbeats 2000000 in
theorem its_lit (K : Int) (cl n : Nat) (A : Option Addr) (N k : Nat) (row : ByteArray) (job sum ep : Nat) (D : Option Addr) (M m : Nat) (w : World) : Calls Try.prog 14 #[.agg #[.int .i64 K, .int .u64 cl, .int .u64 n, .slice A N k, .string row, .int .u64 job, .int .u32 sum, .int .u64 ep, .slice D M m]] w fun e w' => e = .returned (.agg #[.int .i64 K, .int .u64 cl, .int .u64 n, .slice A N k, .string row, .int .u64 job, .int .u32 sum, .int .u64 ep, .slice D M m]) ∧ Below w.heap.size w w' := by
  have HB := Lib.hid (Blk.new 27 w [.int .i64 K, .int .u64 cl, .int .u64 n, .slice A N k, .string row, .int .u64 job, .int .u32 sum, .int .u64 ep, .slice D M m])
  have HL := Lib.hid (below_al w (.cells #[.int .i64 K, .int .u64 cl, .int .u64 n, .slice A N k, .string row, .int .u64 job, .int .u32 sum, .int .u64 ep, .slice D M m] 27))
  go_enter Try.func14, Try.ntmps14
  go_wp2_with (first
    | ((with_reducible show wpList _ _ _ ({ dst := some 3, op := Op.load _ _, type := _, pos := _, after := _, guard := _ } :: _) _ _); go_loud (refine wpList_load_mid rfl 27 (.tmp 1) rfl w.heap.size 0 rfl [.int .i64 K, .int .u64 cl, .int .u64 n, .slice A N k, .string row, .int .u64 job, .int .u32 sum, .int .u64 ep, .slice D M m] _ (HB.out.below (below_al _ (.cells #[.int .i64 0, .int .u64 0, .int .u64 0, .slice none 0 0, .string ⟨#[]⟩, .int .u64 0, .int .u32 0, .int .u64 0, .slice none 0 0] 34)) HB.out.lt).range Try.underlying27 rfl (by kernel_rfl) ?_))
    | ((with_reducible show wpList _ _ _ ({ dst := none, op := Op.store _ (Operand.tmp 2) _, type := _, pos := _, after := _, guard := _ } :: _) _ _); go_loud (refine wpList_store_mid rfl 34 (.tmp 2) (.tmp 3) rfl (w.heap.size + 1) 0 #[.int .i64 K, .int .u64 cl, .int .u64 n, .slice A N k, .string row, .int .u64 job, .int .u32 sum, .int .u64 ep, .slice D M m] rfl rfl ((two_blocks w 27 34 [.int .i64 K, .int .u64 cl, .int .u64 n, .slice A N k, .string row, .int .u64 job, .int .u32 sum, .int .u64 ep, .slice D M m] [.int .i64 0, .int .u64 0, .int .u64 0, .slice none 0 0, .string ⟨#[]⟩, .int .u64 0, .int .u32 0, .int .u64 0, .slice none 0 0]).2.1.there 9 (Nat.le_refl _)) (by kernel_rfl) (by simp [Value.oneCell']) ?_); refine (two_blocks w 27 34 [.int .i64 K, .int .u64 cl, .int .u64 n, .slice A N k, .string row, .int .u64 job, .int .u32 sum, .int .u64 ep, .slice D M m] [.int .i64 0, .int .u64 0, .int .u64 0, .slice none 0 0, .string ⟨#[]⟩, .int .u64 0, .int .u32 0, .int .u64 0, .slice none 0 0]).2.1.setW [.int .i64 K, .int .u64 cl, .int .u64 n, .slice A N k, .string row, .int .u64 job, .int .u32 sum, .int .u64 ep, .slice D M m] rfl ?_; intro w2 HT2 HG2))
  (try simp only [Exit.inBlock, Exit.then])
  refine bodyPost_ret (results_cell_row rfl _ _ (w.heap.size + 1) _ _ _ _ rfl HT2.out Try.underlying34 rfl (by kernel_rfl)) rfl ?_
  exact ⟨rfl, below_grown (two_blocks w 27 34 [.int .i64 K, .int .u64 cl, .int .u64 n, .slice A N k, .string row, .int .u64 job, .int .u32 sum, .int .u64 ep, .slice D M m] [.int .i64 0, .int .u64 0, .int .u64 0, .slice none 0 0, .string ⟨#[]⟩, .int .u64 0, .int .u32 0, .int .u64 0, .slice none 0 0]).2.2 (two_blocks w 27 34 [.int .i64 K, .int .u64 cl, .int .u64 n, .slice A N k, .string row, .int .u64 job, .int .u32 sum, .int .u64 ep, .slice D M m] [.int .i64 0, .int .u64 0, .int .u64 0, .slice none 0 0, .string ⟨#[]⟩, .int .u64 0, .int .u32 0, .int .u64 0, .slice none 0 0]).2.2.size HG2.out (by omega)⟩
theorem effect_any (x : Eff) (A : Option Addr) (k : Nat) (D : Option Addr) (m : Nat) (w : World) : Calls Try.prog 23 #[.agg (x.vs A k D m).toArray] w fun e w' => e = .returned (.agg (x.vs A k D m).toArray) ∧ Below w.heap.size w w' := effect_lit _ _ _ _ _ _ _ _ w
theorem its_any (c : Cmd) (A : Option Addr) (k : Nat) (D : Option Addr) (m : Nat) (w : World) : Calls Try.prog 14 #[.agg (c.vs A k D m).toArray] w fun e w' => e = .returned (.agg (c.vs A k D m).toArray) ∧ Below w.heap.size w w' := its_lit _ _ _ _ _ _ _ _ _ _ _ _ _ w
theorem sameCells_true (A B : Option Addr) (c d N : Nat) (l : List Cl) (hN : l.length = N) (w : World) (hl : Rd w w.heap.size A (vals l)) (hm : Rd w w.heap.size B (vals l)) (hlen : N ≤ maxLen) :
    Calls Try.prog 27 #[.slice A N c, .slice B N d] w fun e w' => e = .returned (.bool true) ∧ Below w.heap.size w w' := by
  subst hN
  refine (sameCells_any A B c d l l w w.heap.size hl hm hlen hlen).mono ?_
  rw [decide_eq_true rfl]
  rintro e w' ⟨h, n, rfl⟩
  exact ⟨h, below_drewN w n⟩
theorem sameSums_true (A B : Option Addr) (c d N : Nat) (l : List Nat) (hN : l.length = N) (w : World) (hl : Rd w w.heap.size A (u32s l)) (hm : Rd w w.heap.size B (u32s l)) (hlen : N ≤ maxLen) :
    Calls Try.prog 26 #[.slice A N c, .slice B N d] w fun e w' => e = .returned (.bool true) ∧ Below w.heap.size w w' := by
  subst hN
  refine (sameSums_any A B c d l l w hl hm hlen hlen).mono ?_
  rw [decide_eq_true rfl]
  exact fun e w' h => h
set_option maxRecDepth 100000 in
set_option maxHeartbeats 8000000 in
theorem sameEffect_true (x : Eff) (A : Option Addr) (k : Nat) (D : Option Addr) (m : Nat) (A' : Option Addr) (k' : Nat) (D' : Option Addr) (m' : Nat) (w : World) (h1 : Rd w w.heap.size A (vals x.cells)) (h2 : Rd w w.heap.size D (u32s x.files)) (h3 : Rd w w.heap.size A' (vals x.cells)) (h4 : Rd w w.heap.size D' (u32s x.files)) (hc : x.cells.length ≤ maxLen) (hf : x.files.length ≤ maxLen) :
    Calls Try.prog 22 #[.agg (x.vs A k D m).toArray, .agg (x.vs A' k' D' m').toArray] w fun e w' => e = .returned (.bool true) ∧ Below w.heap.size w w' := by
  obtain ⟨E, d, L, F⟩ := x
  simp only at h1 h2 h3 h4 hc hf
  obtain ⟨N, hN⟩ : ∃ N, L.length = N := ⟨_, rfl⟩
  obtain ⟨M, hM⟩ : ∃ M, F.length = M := ⟨_, rfl⟩
  show Calls Try.prog 22 #[.agg #[.int .i64 E, .bool d, .slice A L.length k, .slice D F.length m], .agg #[.int .i64 E, .bool d, .slice A' L.length k', .slice D' F.length m']] w _
  rw [hN] at hc ⊢
  rw [hM] at hf ⊢
  have H1 := Lib.hid h1
  have H2 := Lib.hid h2
  have H3 := Lib.hid h3
  have H4 := Lib.hid h4
  have HN := Lib.hid hN
  have HM := Lib.hid hM
  obtain ⟨b1, b2, b3⟩ := two_blocks w 56 56 [.int .i64 E, .bool d, .slice A N k, .slice D M m] [.int .i64 E, .bool d, .slice A' N k', .slice D' M m']
  have HB := Lib.hid b3
  have HX := Lib.hid b1
  have HY := Lib.hid b2
  have x0 := HX.out.cell (j := 0) rfl
  have x1 := HX.out.cell (j := 1) rfl
  have x2 := HX.out.cell (j := 2) rfl
  have y0 := HY.out.cell (j := 0) rfl
  have y1 := HY.out.cell (j := 1) rfl
  have y2 := HY.out.cell (j := 2) rfl
  clear h1 h2 h3 h4 hN hM b1 b2 b3
  go_enter Try.func22, Try.ntmps22
  go_wp2_with (first
    | (go_at_call 27; go_loud (refine (sameCells_true A A' k k' N L HN.out _ ((H1.out.below HB.out).more HB.out.size) ((H3.out.below HB.out).more HB.out.size) hc).mono ?_); rintro e w1 ⟨rfl, hb⟩; have HB1 := Lib.hid (HB.out.trans (hb.mono HB.out.size)); have x3 := (HX.out.below hb HX.out.lt).cell (j := 3) rfl; have y3 := (HY.out.below hb HY.out.lt).cell (j := 3) rfl; clear hb)
    | (go_at_call 26; go_loud (refine (sameSums_true D D' m m' M F HM.out _ ((H2.out.below HB1.out).more HB1.out.size) ((H4.out.below HB1.out).more HB1.out.size) hf).mono ?_); rintro e w2 ⟨rfl, hb⟩; have HB2 := Lib.hid (HB1.out.trans (hb.mono HB1.out.size)); clear hb))
  go_ret
  exact ⟨rfl, HB2.out⟩
end Go.Proofs.Ytiiogdgnccgehaa
namespace Go.Proofs.Ytiiogdgnccgehaa
open Go.RowKit
attribute [local go_sem ↓] Go.wp_at_zero Go.wp_at_succ

/-- the names of a cell are short enough -/
def okCell (c : Cl) : Prop := c.row.size ≤ 100 ∧ c.col.size ≤ 100 ∧ c.val.size ≤ 200
instance (c : Cl) : Decidable (okCell c) := inferInstanceAs (Decidable (_ ∧ _ ∧ _))
def bndC (c : Cmd) : Bool := decide ((∀ x ∈ c.cells, okCell x) ∧ c.cells.length ≤ 120 ∧ c.files.length ≤ 300 ∧ c.row.size ≤ 400)
def okTo {α : Type} (p : α → Prop) (l : List α) (k : Nat) : Prop := ∀ c ∈ l.take k, p c
theorem okTo_zero {α : Type} (p : α → Prop) (l : List α) : okTo p l 0 := fun c h => by simp at h
theorem okTo_succ {α : Type} {p : α → Prop} {l : List α} {k : Nat} (h : okTo p l k) (hk : k < l.length) (hp : p l[k]) : okTo p l (k + 1) := fun c hc => by
  rw [List.take_succ_eq_append_getElem hk] at hc
  rcases List.mem_append.1 hc with hc | hc
  · exact h c hc
  · rw [List.mem_singleton.1 hc]; exact hp
theorem okTo_end {α : Type} {p : α → Prop} {l : List α} {k : Nat} (h : okTo p l k) (hk : l.length ≤ k) : ∀ c ∈ l, p c := by
  unfold okTo at h
  rwa [List.take_of_length_le hk] at h
theorem bnd_cell {c : Cmd} {k : Nat} (hk : k < c.cells.length) (h : ¬ okCell c.cells[k]) : false = bndC c := by
  symm
  rw [bndC, decide_eq_false_iff_not]
  exact fun hh => h (hh.1 _ (List.getElem_mem hk))
set_option maxRecDepth 20000 in
set_option maxHeartbeats 4000000 in
theorem bounded_any (c : Cmd) (A : Option Addr) (k : Nat) (D : Option Addr) (m : Nat) (w : World) (hin : CmdIn w w.heap.size c A k D m) :
    Calls Try.prog 10 #[.agg (c.vs A k D m).toArray] w fun e w' => e = .returned (.bool (bndC c)) ∧ Below w.heap.size w w' := by
  have hlc := hin.lc
  have hlk := hin.lk
  unfold maxLen at hlk
  have HBX := Lib.hid (Blk.new 27 w (c.vs A k D m))
  have HB := Lib.hid (below_al w (.cells (c.vs A k D m).toArray 27))
  have HR := Lib.hid ((hin.rc.below (below_al w (.cells (c.vs A k D m).toArray 27))))
  have c3 := HBX.out.cell (j := 3) rfl
  clear hin
  obtain ⟨N, hN⟩ : ∃ N, c.cells.length = N := ⟨_, rfl⟩
  have HN := Lib.hid hN
  unfold Cmd.vs at c3 HR HB HBX
  unfold Cmd.vs
  rw [hN] at hlc c3 HR HB HBX
  rw [hN]
  clear hN
  go_enter Try.func10, Try.ntmps10
  go_wp2
  go_loopw [3] (fun vi wr => ∃ q : Nat, vi = .int .i64 (q : Int) ∧ q ≤ N ∧ Hid (okTo okCell c.cells q) ∧ wr = (w.alloc (.cells #[.int .i64 c.kind, .int .u64 c.client, .int .u64 c.num, .slice A N k, .string c.row, .int .u64 c.job, .int .u32 c.sum, .int .u64 c.epoch, .slice D c.files.length m] 27))) (fun vi _ => N - (intOf vi).toNat)
  case atStart => exact ⟨0, rfl, Nat.zero_le _, Lib.hid (okTo_zero _ _), rfl⟩
  case round =>
    obtain ⟨q, rfl, hq, HU, rfl⟩ := hrel
    by_cases hlt : q < N
    · have e1 : decide ((q : Int) < (N : Int)) = true := decide_eq_true (by omega)
      have k1 : (0 : Int) ≤ (q : Int) := by omega
      have k2 : (q : Int) < (N : Int) := by omega
      have hkl : q < c.cells.length := by rw [HN.out]; exact hlt
      obtain ⟨b, o, rfl, hb, hc⟩ := HR.out.at_ (vals_ne hkl)
      obtain ⟨l0, l1, l2, l3, l4, l5⟩ := Rd.cell_at (_B := 0) hc q hkl
      have HS := Lib.hid (fun h => okTo_succ HU.out hkl h)
      have HX := Lib.hid (fun h => bnd_cell hkl h)
      obtain ⟨x, hx⟩ : ∃ x, c.cells[q] = x := ⟨_, rfl⟩
      rw [hx] at l0 l1 l5 HS HX
      clear hc l2 l3 l4 hx
      by_cases hok : okCell x
      · have HF := Lib.hid (HS.out hok)
        obtain ⟨o1, o2, o3⟩ := hok
        have d1 : decide ((100 : Int) < (x.row.size : Int)) = false := decide_eq_false (by omega)
        have d2 : decide ((100 : Int) < (x.col.size : Int)) = false := decide_eq_false (by omega)
        have d3 : decide ((200 : Int) < (x.val.size : Int)) = false := decide_eq_false (by omega)
        go_wp2
        exact ⟨⟨q + 1, by first | rfl | go_num, by omega, HF, by first | trivial | rfl⟩, by simp [intOf]; omega⟩
      · have HF := Lib.hid (HX.out hok)
        have hn : 100 < x.row.size ∨ 100 < x.col.size ∨ 200 < x.val.size := by unfold okCell at hok; omega
        clear hok
        by_cases z1 : 100 < x.row.size
        · have d1 : decide ((100 : Int) < (x.row.size : Int)) = true := decide_eq_true (by omega)
          go_wp2
          go_ret
          exact ⟨ret_bool HF.out, HB.out⟩
        have d1 : decide ((100 : Int) < (x.row.size : Int)) = false := decide_eq_false (by omega)
        by_cases z2 : 100 < x.col.size
        · have d2 : decide ((100 : Int) < (x.col.size : Int)) = true := decide_eq_true (by omega)
          go_wp2
          go_ret
          exact ⟨ret_bool HF.out, HB.out⟩
        have d2 : decide ((100 : Int) < (x.col.size : Int)) = false := decide_eq_false (by omega)
        have d3 : decide ((200 : Int) < (x.val.size : Int)) = true := decide_eq_true (by omega)
        go_wp2
        go_ret
        exact ⟨ret_bool HF.out, HB.out⟩
    · have hq2 : q = N := by omega
      subst hq2
      have e1 : decide ((q : Int) < (q : Int)) = false := decide_eq_false (by omega)
      have HL := Lib.hid (okTo_end HU.out (by rw [HN.out]; exact Nat.le_refl _))
      have c8 := HBX.out.cell (j := 8) rfl
      have c4 := HBX.out.cell (j := 4) rfl
      by_cases z1 : q ≤ 120
      · have d1 : decide ((q : Int) ≤ 120) = true := decide_eq_true (by omega)
        by_cases z2 : c.files.length ≤ 300
        · have d2 : decide ((c.files.length : Int) ≤ 300) = true := decide_eq_true (by omega)
          by_cases z3 : c.row.size ≤ 400
          · have d3 : decide ((c.row.size : Int) ≤ 400) = true := decide_eq_true (by omega)
            have HF := Lib.hid (show true = bndC c by symm; exact decide_eq_true ⟨HL.out, by rw [HN.out]; exact z1, z2, z3⟩)
            go_wp2
            go_ret
            exact ⟨ret_bool HF.out, HB.out⟩
          · have d3 : decide ((c.row.size : Int) ≤ 400) = false := decide_eq_false (by omega)
            have HF := Lib.hid (show false = bndC c by symm; exact decide_eq_false (fun h => z3 h.2.2.2))
            go_wp2
            go_ret
            exact ⟨ret_bool HF.out, HB.out⟩
        · have d2 : decide ((c.files.length : Int) ≤ 300) = false := decide_eq_false (by omega)
          have HF := Lib.hid (show false = bndC c by symm; exact decide_eq_false (fun h => z2 h.2.2.1))
          go_wp2
          go_ret
          exact ⟨ret_bool HF.out, HB.out⟩
      · have d1 : decide ((q : Int) ≤ 120) = false := decide_eq_false (by omega)
        have HF := Lib.hid (show false = bndC c by symm; exact decide_eq_false (fun h => z1 (by have := h.2.1; rw [HN.out] at this; exact this)))
        go_wp2
        go_ret
        exact ⟨ret_bool HF.out, HB.out⟩
end Go.Proofs.Ytiiogdgnccgehaa
namespace Go.Proofs.Ytiiogdgnccgehaa
open Go.RowKit
attribute [local go_sem ↓] Go.wp_at_zero Go.wp_at_succ

def cmM : Cmd := ⟨2, 0, 0, [], ⟨#[109]⟩, 0, 0, 0, []⟩
def tM : ByteArray := (encC cmM).1
theorem encM : encC cmM = (tM, 0) := by
  have h : (encC cmM).2 = 0 := by decide
  unfold tM
  rw [← h]
theorem fitsM : fitsC cmM := ⟨by decide, by decide, (by intro x hx; cases hx), by decide, by decide, by decide, (by intro x hx; cases hx)⟩
theorem applyM1 : applyS emptyS tM = (⟨1, 1, [⟨#[109]⟩], [], []⟩, ⟨0, false, [], []⟩) := by
  rw [applyS_enc fitsM encM]
  rfl
theorem applyM2 : applyS ⟨1, 1, [⟨#[109]⟩], [], []⟩ tM = (⟨2, 1, [⟨#[109]⟩], [], []⟩, ⟨4, false, [], []⟩) := by
  rw [applyS_enc fitsM encM]
  rfl
theorem sok_M : SOk ⟨1, 1, [⟨#[109]⟩], [], []⟩ 1 := by
  have := sok_next sok_zero tM
  rw [applyM1] at this
  exact this
theorem encode_M (w : World) : Calls Try.prog 12 #[.agg #[.int .i64 2, .int .u64 0, .int .u64 0, .slice none 0 0, .string ⟨#[109]⟩, .int .u64 0, .int .u32 0, .int .u64 0, .slice none 0 0]] w fun e w' => e = .returned (.tuple #[.string tM, .int .i64 0]) ∧ Below w.heap.size w w' := by
  have h := encode_any cmM none 0 none 0 w ⟨Rd.nil, Rd.nil, Nat.zero_le _, Nat.zero_le _, Nat.zero_le _, Nat.zero_le _⟩
  rw [encM] at h
  exact h
theorem apply_M1 (w : World) : Calls Try.prog 18 #[.agg #[.int .u64 0, .int .u64 0, .slice none 0 0, .slice none 0 0, .slice none 0 0], .string tM] w (AOut w nowhere (⟨1, 1, [⟨#[109]⟩], [], []⟩, ⟨0, false, [], []⟩)) := by
  have := apply_first w tM (by have := encB_size encM; omega)
  rw [applyM1] at this
  exact this
theorem apply_M2 (w : World) (xs : SA) (h : StaIn w w.heap.size ⟨1, 1, [⟨#[109]⟩], [], []⟩ xs) (hi : InW w xs) : Calls Try.prog 18 #[.agg (Sta.vs ⟨1, 1, [⟨#[109]⟩], [], []⟩ xs).toArray, .string tM] w (AOut w xs (⟨2, 1, [⟨#[109]⟩], [], []⟩, ⟨4, false, [], []⟩)) := by
  have := apply_any w _ xs h hi 1 (by omega) sok_M tM (by have := encB_size encM; omega)
  rw [applyM2] at this
  exact this
set_option maxRecDepth 100000 in
set_option maxHeartbeats 8000000 in
theorem shown_any (w : World) : Calls Try.prog 11 #[] w fun e w' => e = .returned (.bool true) ∧ Below w.heap.size w w' := by
  have M0 : Hid True := trivial
  go_enter Try.func11, Try.ntmps11
  go_wp2_with (first
    | (go_at_call 12; refine (encode_M _).mono ?_; rintro e w1 ⟨rfl, hb1⟩; have HB1 := Lib.hid hb1; clear hb1)
    | (go_at_call 18; have M := M0; clear M M0; refine (apply_M1 _).mono ?_; rintro e w2 ⟨ys, A, k, D, m, rfl, hsi, hfr, hef, hb, hsep, hD⟩; have HB2 := Lib.hid (And.intro hsi (And.intro hfr (And.intro hef hb))); clear hsi hfr hef hb hsep hD)
    | (show wpList _ _ _ ({ dst := none, op := Op.store _ (Operand.tmp 3) _, type := _, pos := _, after := _, guard := _ } :: _) _ _; go_loud (refine wpList_store_mid rfl 47 (.tmp 3) (.tmp 16) rfl w2.heap.size 0 (Sta.vs ⟨1, 1, [⟨#[109]⟩], [], []⟩ ys).toArray rfl rfl ((two_blocks w2 47 53 staz effz).1.there 5 (Nat.le_refl _)) (by kernel_rfl) (by simp [Value.oneCell', Sta.vs]) ?_); refine (two_blocks w2 47 53 staz effz).1.setW (Sta.vs ⟨1, 1, [⟨#[109]⟩], [], []⟩ ys) rfl ?_; intro w3 HT3 HG3; have HE3 := Lib.hid ((two_blocks w2 47 53 staz effz).2.1.grown HG3.out (fun e => by injection e; omega)); have HL3 := Lib.hid (below_grown (two_blocks w2 47 53 staz effz).2.2 (by rw [World.size_alloc, World.size_alloc]; omega) HG3.out (Nat.le_refl _)); clear HG3)
    | (show wpList _ _ _ ({ dst := none, op := Op.store _ (Operand.tmp 4) _, type := _, pos := _, after := _, guard := _ } :: _) _ _; go_loud (refine wpList_store_mid rfl 53 (.tmp 4) (.tmp 17) rfl (w2.heap.size + 1) 0 (Eff.vs ⟨0, false, [], []⟩ A k D m).toArray rfl rfl (HE3.out.there 4 (Nat.le_refl _)) (by kernel_rfl) (by simp [Value.oneCell', Eff.vs]) ?_); refine HE3.out.setW (Eff.vs ⟨0, false, [], []⟩ A k D m) rfl ?_; intro w4 HE4 HG4; have HT4 := Lib.hid (HT3.out.grown HG4.out (fun e => by injection e; omega)); have HL4 := Lib.hid (below_grown HL3.out HL3.out.size HG4.out (by omega)); go_loud (have HV4 := Lib.hid (apply_boxes (inw_none w1) HB2.out.1 HB2.out.2.1 HB2.out.2.2.1 HB2.out.2.2.2 HT4.out HE4.out HL4.out)); clear HT3 HE3 HL3 HG4 HT4 HE4 HL4 HB2 )
    | (show wpList _ _ _ ({ dst := some 19, op := Op.load _ _, type := _, pos := _, after := _, guard := _ } :: _) _ _; go_loud (refine wpList_load_mid rfl 47 (.tmp 3) rfl w2.heap.size 0 rfl (Sta.vs ⟨1, 1, [⟨#[109]⟩], [], []⟩ ys) _ HV4.out.1.bk.range Try.underlying47 rfl (by kernel_rfl) ?_))
    | (go_at_call 18; have M := HV4; clear M; refine (apply_M2 _ ys HV4.out.1.sin HV4.out.1.inw).mono ?_; rintro e w5 ⟨zs, A5, k5, D5, m5, rfl, hsi, hfr, hef, hb, hsep, hD⟩; have HB5 := Lib.hid (And.intro hsi (And.intro hfr (And.intro hef hb))); clear hsi hfr hef hb hsep hD)
    | (show wpList _ _ _ ({ dst := none, op := Op.store _ (Operand.tmp 5) _, type := _, pos := _, after := _, guard := _ } :: _) _ _; go_loud (refine wpList_store_mid rfl 47 (.tmp 5) (.tmp 22) rfl w5.heap.size 0 (Sta.vs ⟨2, 1, [⟨#[109]⟩], [], []⟩ zs).toArray rfl rfl ((two_blocks w5 47 53 staz effz).1.there 5 (Nat.le_refl _)) (by kernel_rfl) (by simp [Value.oneCell', Sta.vs]) ?_); refine (two_blocks w5 47 53 staz effz).1.setW (Sta.vs ⟨2, 1, [⟨#[109]⟩], [], []⟩ zs) rfl ?_; intro w6 HT6 HG6; have HE6 := Lib.hid ((two_blocks w5 47 53 staz effz).2.1.grown HG6.out (fun e => by injection e; omega)); have HL6 := Lib.hid (below_grown (two_blocks w5 47 53 staz effz).2.2 (by rw [World.size_alloc, World.size_alloc]; omega) HG6.out (Nat.le_refl _)); clear HG6)
    | (show wpList _ _ _ ({ dst := none, op := Op.store _ (Operand.tmp 6) _, type := _, pos := _, after := _, guard := _ } :: _) _ _; go_loud (refine wpList_store_mid rfl 53 (.tmp 6) (.tmp 23) rfl (w5.heap.size + 1) 0 (Eff.vs ⟨4, false, [], []⟩ A5 k5 D5 m5).toArray rfl rfl (HE6.out.there 4 (Nat.le_refl _)) (by kernel_rfl) (by simp [Value.oneCell', Eff.vs]) ?_); refine HE6.out.setW (Eff.vs ⟨4, false, [], []⟩ A5 k5 D5 m5) rfl ?_; intro w7 HE7 HG7; have HT7 := Lib.hid (HT6.out.grown HG7.out (fun e => by injection e; omega)); have HL7 := Lib.hid (below_grown HL6.out HL6.out.size HG7.out (by omega)); go_loud (have HV7 := Lib.hid (apply_boxes HV4.out.1.inw HB5.out.1 HB5.out.2.1 HB5.out.2.2.1 HB5.out.2.2.2 HT7.out HE7.out HL7.out)); clear HT6 HE6 HL6 HG7 HT7 HE7 HL7 HB5 ; have a0 := (HV4.out.1.below HV7.out.2.2).bk.cell (j := 0) rfl; have a1 := (HV4.out.1.below HV7.out.2.2).bk.cell (j := 1) rfl; have a2 := (HV4.out.1.below HV7.out.2.2).bk.cell (j := 2) rfl; have x0 := (HV4.out.2.1.below HV7.out.2.2).bk.cell (j := 0) rfl; have y0 := HV7.out.2.1.bk.cell (j := 0) rfl)
    )
  go_ret
  exact ⟨rfl, (HB1.out.trans (HV4.out.2.2.mono HB1.out.size)).trans (HV7.out.2.2.mono (Nat.le_trans HB1.out.size HV4.out.2.2.size))⟩
end Go.Proofs.Ytiiogdgnccgehaa
