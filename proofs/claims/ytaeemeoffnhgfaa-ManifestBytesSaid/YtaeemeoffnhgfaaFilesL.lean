/-
  The walks of the law's files and the reference's SameFiles.
-/
import Derived.Test.YtaeemeoffnhgfaaBounded13
import Derived.Test.YtaeemeoffnhgfaaRegion
namespace Go.Proofs.Ytaeemeoffnhgfaa
open Go.RowKit
attribute [local go_sem ↓] Go.wp_at_zero Go.wp_at_succ

def OwnR (w : World) (B : Nat) (A : Option Addr) (n c : Nat) (l : List Fi) : Prop := Own w B 76 5 A n c (fis l)
theorem OwnR.len {w : World} {B n c : Nat} {A : Option Addr} {l : List Fi} (h : OwnR w B A n c l) : l.length = n := by
  have := h.1
  rw [fis_len] at this
  omega
theorem OwnR.below {w w' : World} {B n c : Nat} {A : Option Addr} {l : List Fi} (h : OwnR w B A n c l) (hb : Below w.heap.size w w') : OwnR w' B A n c l := Own.below h hb
theorem refs_app {w : World} {ops : Array Oper} {rest : List Oper} {o : Oper} {a : Act} {Q : Exit → Act → World → Prop} (hw : Region.wanted o (yielded ops a.tmps) = true) (s x : Operand)
    (ho : o.op = .call { callee := .builtin .append, args := #[s, x], argTypes := #[38, 38] })
    (B : Nat) (A : Option Addr) (n c N : Nat) (L add : List Fi) (hs : a.eval s = .slice A n c) (hown : OwnR w B A n c L) (A2 : Option Addr) (m c2 : Nat) (hx : a.eval x = .slice A2 m c2) (hr : Rd w w.heap.size A2 (fis add)) (hm : add.length = m)
    (hN : n + m = N) (hl : N ≤ 1000000) (hB : B ≤ w.heap.size)
    (h : ∀ A' c' w', Hid (OwnR w' B A' N c' (L ++ add)) → Hid (w.grownBy w' (blk A)) → wpList Try.prog ops Q rest (a.put o.dst (.slice A' N c')) w') : wpList Try.prog ops Q (o :: rest) a w := by
  obtain ⟨i0, hi0, hz0, hz1, hz2⟩ := info_parts refFileInfo
  subst hN
  refine wpList_app_g hw s x 38 ho B 76 i0 zeroFile 5 64 Try.underlying38 hi0 hz0 hz1 hz2 rfl (by decide) A n c (fis L) hs hown w.heap.size A2 m c2 (fis add) hx hr (by rw [fis_len, hm]) (fis_one add) (by unfold maxLen; omega) (by omega) hB ?_
  intro A' c' w' h1 h2 _
  exact h A' c' w' (Lib.hid (by unfold OwnR; rw [show fis (L ++ add) = fis L ++ fis add from List.flatMap_append]; exact h1)) (Lib.hid h2)
set_option maxRecDepth 10000 in
set_option maxHeartbeats 4000000 in
theorem filesL_any (A : Option Addr) (c N : Nat) (l : List Fi) (w : World) (hl : Rd w w.heap.size A (fis l)) (hN : l.length = N) (hlen : N ≤ 100000) :
    Calls Try.prog 14 #[.slice A N c] w fun e w' => ∃ (A' : Option Addr) (c' : Nat), e = .returned (.slice A' N c') ∧ OwnR w' w.heap.size A' N c' l ∧ Below w.heap.size w w' := by
  have HL := Lib.hid hl
  have HN := Lib.hid hN
  have HO0 := Lib.hid (show OwnR (w.alloc (.cells #[] 76)) w.heap.size (some ⟨w.heap.size, 0, none⟩) 0 0 (l.take 0) from Own.new0' w _ 5)
  have HB0 := Lib.hid (below_al w (.cells #[] 76))
  clear hl hN
  go_enter Try.func14, Try.ntmps14
  go_wp2
  go_loopw [3, 4] (fun vo vi wr => ∃ (k : Nat) (Ao : Option Addr) (co : Nat), vo = .slice Ao k co ∧ vi = .int .i64 (k : Int) ∧ k ≤ N ∧ Hid (OwnR wr w.heap.size Ao k co (l.take k)) ∧ Hid (Below w.heap.size w wr)) (fun _ vi _ => N - (intOf vi).toNat)
  case atStart => exact ⟨0, _, 0, rfl, rfl, Nat.zero_le _, HO0, HB0⟩
  case round =>
    obtain ⟨k, Ao, co, rfl, rfl, hk, HO, HB⟩ := hrel
    rename World => wr
    by_cases hlt : k < N
    · have e1 : decide ((k : Int) < (N : Int)) = true := decide_eq_true (by omega)
      have k1 : (0 : Int) ≤ (k : Int) := by omega
      have k2 : (k : Int) < (N : Int) := by omega
      have hkl : k < l.length := by rw [HN.out]; exact hlt
      obtain ⟨b, o, rfl, hr⟩ := rd_elem (HL.out.below HB.out) hkl
      have htk := List.take_succ_eq_append_getElem hkl
      obtain ⟨x, hx⟩ : ∃ x, l[k] = x := ⟨_, rfl⟩
      rw [hx] at hr htk
      have HR := Lib.hid hr
      have HT := Lib.hid htk
      clear hr hx htk
      go_wp2_with (first
        | (show wpList _ _ _ ({ dst := some 16, op := Op.load _ _, type := _, pos := _, after := _, guard := _ } :: _) _ _; refine wpList_load_mid rfl 23 (.tmp 15) rfl b (o + k * 5) rfl [.int .i64 x.level, .string x.name, .string x.low, .string x.high, .int .i64 x.many] _ HR.out Try.underlying23 rfl (by kernel_rfl) ?_)
        | (at_builtin; go_loud (refine refs_app rfl _ _ rfl w.heap.size Ao k co (k + 1) (l.take k) [x] rfl (OwnR.below HO.out (below_al _ _)) (some ⟨wr.heap.size, 0, none⟩) 1 1 rfl (rd_made x rfl rfl) rfl rfl (by omega) (by rw [World.size_alloc]; have := HB.out.size; omega) ?_); intro A8 c8 w8 HO8 HG8; rw [← HT.out] at HO8; have HB8 := Lib.hid (Own.grow (OwnR.below HO.out (below_al _ _)) (HB.out.trans ((below_al _ _).mono HB.out.size)) (by rw [World.size_alloc]; have := HB.out.size; omega) (Nat.le_refl _) HG8.out)))
      exact ⟨⟨k + 1, A8, c8, rfl, by first | rfl | go_num, by omega, HO8, HB8⟩, by simp [intOf]; omega⟩
    · have e1 : decide ((k : Int) < (N : Int)) = false := decide_eq_false (by omega)
      have ho := HO.out
      rw [List.take_of_length_le (by rw [HN.out]; omega)] at ho
      have hkN : k = N := by omega
      rw [hkN] at ho
      have HK := Lib.hid hkN
      have HOF := Lib.hid ho
      clear ho hkN
      go_wp2
      go_ret
      exact ⟨Ao, co, by first | rfl | (rw [HK.out]; rfl), HOF.out, HB.out⟩

theorem fi_eq_iff (x y : Fi) : x = y ↔ x.level = y.level ∧ x.name.toList = y.name.toList ∧ x.low.toList = y.low.toList ∧ x.high.toList = y.high.toList ∧ x.many = y.many := by
  constructor
  · rintro rfl; exact ⟨rfl, rfl, rfl, rfl, rfl⟩
  · obtain ⟨a, b, c, d, e⟩ := x
    obtain ⟨a', b', c', d', e'⟩ := y
    rintro ⟨h1, h2, h3, h4, h5⟩
    simp only at h1 h2 h3 h4 h5
    rw [h1, toList_inj h2, toList_inj h3, toList_inj h4, h5]
theorem neq_fi (x y : Fi) (W : World) : (binOp .neq 76 (.agg x.vals.toArray) (.agg y.vals.toArray)).run Try.prog W = .ok (.bool (!decide (x = y))) W := by
  unfold Fi.vals
  go_simp
  have e := fi_eq_iff x y
  by_cases h1 : x.level = y.level <;> by_cases h2 : x.name.toList = y.name.toList <;> by_cases h3 : x.low.toList = y.low.toList <;> by_cases h4 : x.high.toList = y.high.toList <;> by_cases h5 : x.many = y.many <;> simp_all
def sameToF (l m : List Fi) (k : Nat) : Prop := l.take k = m.take k
theorem sameToF_succ {l m : List Fi} {k : Nat} (h : sameToF l m k) (hk : k < l.length) (hk' : k < m.length) (he : l[k] = m[k]) : sameToF l m (k + 1) := by
  unfold sameToF at *
  rw [List.take_succ_eq_append_getElem hk, List.take_succ_eq_append_getElem hk', h, he]
theorem sameToF_end {l m : List Fi} {k : Nat} (h : sameToF l m k) (hn : l.length = m.length) (hk : l.length ≤ k) : true = decide (l = m) := by
  unfold sameToF at h
  rw [List.take_of_length_le hk, List.take_of_length_le (by omega)] at h
  simp [h]
theorem sameToF_not {l m : List Fi} {k : Nat} (hk : k < l.length) (hk' : k < m.length) (he : l[k] ≠ m[k]) : false = decide (l = m) := by
  symm
  rw [decide_eq_false_iff_not]
  rintro rfl
  exact he rfl
theorem sameToF_len {l m : List Fi} (hn : ¬ l.length = m.length) : false = decide (l = m) := by
  symm
  rw [decide_eq_false_iff_not]
  rintro rfl
  exact hn rfl

set_option maxHeartbeats 2000000 in
theorem sameFiles_any (A B : Option Addr) (c d N M : Nat) (l m : List Fi) (w : World) (D : Nat) (hl : Rd w D A (fis l)) (hm : Rd w D B (fis m)) (hN : l.length = N) (hM : m.length = M) (hlen : N ≤ 1000000) (hlen' : M ≤ 1000000) :
    Calls Try.prog 13 #[.slice A N c, .slice B M d] w fun e w' => e = .returned (.bool (decide (l = m))) ∧ Below w.heap.size w w' := by
  have HNN := Lib.hid hN
  have HM := Lib.hid hM
  by_cases hn : N = M
  · have hb : ((N : Int) != (M : Int)) = false := by simp [hn]
    have HN := Lib.hid (show N = m.length by rw [hM]; exact hn)
    clear hn hN hM
    go_enter Try.func13, Try.ntmps13
    go_wp2
    go_loopw [5] (fun i wr => ∃ k n : Nat, k ≤ N ∧ sameToF l m k ∧ i = .int .i64 k ∧ wr = w.drewN n) (fun i _ => N - (intOf i).toNat)
    case atStart => exact ⟨0, 0, Nat.zero_le _, rfl, rfl, rfl⟩
    case round =>
      obtain ⟨k, n, hk, hsame, rfl, rfl⟩ := hrel
      have HS := Lib.hid hsame
      clear hsame
      by_cases hlt : k < N
      · have hlt0 : k < l.length := by have := HNN.out; omega
        have hlt' : k < m.length := by have := HN.out; omega
        have hltM : (k : Int) < (M : Int) := by have := HM.out; omega
        have k1 : (0 : Int) ≤ (k : Int) := by omega
        have k2 : (k : Int) < (N : Int) := by omega
        have hw3 : IntKind.i64.wrap ((k : Int) + 1) = ((k + 1 : Nat) : Int) := by rw [IntWalk.i64_in _ (by omega)]; omega
        obtain ⟨b, o, rfl, hb, hc⟩ := (hl.drewN n).at_ (fis_ne hlt0)
        obtain ⟨b', o', rfl, hb', hc'⟩ := (hm.drewN n).at_ (fis_ne hlt')
        have HC : (w.drewN n).drew.rangeAt b (o + k * 5) l[k].vals ∧ (w.drewN n).drew.rangeAt b' (o' + k * 5) m[k].vals := ⟨Rd.enc_range Fi.vals_len hc k hlt0, Rd.enc_range Fi.vals_len hc' k hlt'⟩
        have HE : Hid (l[k] = m[k] → sameToF l m (k + 1)) := Lib.hid fun h => sameToF_succ HS.out hlt0 hlt' h
        have HF : Hid (l[k] ≠ m[k] → false = decide (l = m)) := Lib.hid fun h => sameToF_not hlt0 hlt' h
        obtain ⟨x, hx⟩ : ∃ x, l[k] = x := ⟨_, rfl⟩
        obtain ⟨y, hy⟩ : ∃ y, m[k] = y := ⟨_, rfl⟩
        rw [hx, hy] at HC HE HF
        clear hx hy hc hc' hl hm
        have hne : ∀ W, (binOp .neq 76 (.agg x.vals.toArray) (.agg y.vals.toArray)).run Try.prog W = .ok (.bool (!decide (x = y))) W := neq_fi x y
        by_cases heq : x = y
        · have HE2 := Lib.hid (HE.out heq)
          have ht : decide (x = y) = true := by simp [heq]
          simp only [ht] at hne
          clear heq
          go_wp2
          refine region_wz (fun W => W.rangeAt b (o + k * 5) x.vals ∧ W.rangeAt b' (o' + k * 5) y.vals) none (by kernel_rfl) ?_
          apply WZ.take (i := 0) (some 17) rfl rfl (by kernel_rfl) (by kernel_rfl) (by kernel_rfl) (calm_panic _) (by kernel_rfl)
          case hy => (refine .inl ⟨by kernel_rfl, fun W hC => ?_⟩; (try dsimp only at hC); go_simp; (try simp only [hne]); rfl)
          case hC => exact HC
          case ha => (simp only [Act.put, List.setIfInBounds_toArray, List.set_cons_zero, List.set_cons_succ]; rfl)
          apply WZ.take (i := 1) (some 18) rfl rfl (by kernel_rfl) (by kernel_rfl) (by kernel_rfl) (calm_panic _) (by kernel_rfl)
          case hy => (refine .inl ⟨by kernel_rfl, fun W hC => ?_⟩; (try dsimp only at hC); go_simp; (try simp only [hne]); rfl)
          case hC => exact HC
          case ha => (simp only [Act.put, List.setIfInBounds_toArray, List.set_cons_zero, List.set_cons_succ]; rfl)
          apply WZ.take (i := 2) (some 19) rfl rfl (by kernel_rfl) (by kernel_rfl) (by kernel_rfl) (calm_panic _) (by kernel_rfl)
          case hy => (refine .inl ⟨by kernel_rfl, fun W hC => ?_⟩; (try dsimp only at hC); go_simp; (try simp only [hne]); rfl)
          case hC => exact HC
          case ha => (simp only [Act.put, List.setIfInBounds_toArray, List.set_cons_zero, List.set_cons_succ]; rfl)
          apply WZ.take (i := 3) (some 20) rfl rfl (by kernel_rfl) (by kernel_rfl) (by kernel_rfl) (calm_panic _) (by kernel_rfl)
          case hy => first | (apply yieldsIf_load_mid (by kernel_rfl) _ _ rfl _ _ rfl; (case hS => (intro W hC; exact (show World.rangeAt _ _ _ (Fi.vals _) from hC.1))); (case hu => exact Try.underlying76); (case hd => rfl); (case hi => kernel_rfl)) | (apply yieldsIf_load_mid (by kernel_rfl) _ _ rfl _ _ rfl; (case hS => (intro W hC; exact (show World.rangeAt _ _ _ (Fi.vals _) from hC.2.1))); (case hu => exact Try.underlying76); (case hd => rfl); (case hi => kernel_rfl)) | (apply yieldsIf_load_mid (by kernel_rfl) _ _ rfl _ _ rfl; (case hS => (intro W hC; exact (show World.rangeAt _ _ _ (Fi.vals _) from hC.2.2.1))); (case hu => exact Try.underlying76); (case hd => rfl); (case hi => kernel_rfl)) | (apply yieldsIf_load_mid (by kernel_rfl) _ _ rfl _ _ rfl; (case hS => (intro W hC; exact (show World.rangeAt _ _ _ (Fi.vals _) from hC.2.2.2.1))); (case hu => exact Try.underlying76); (case hd => rfl); (case hi => kernel_rfl)) | (apply yieldsIf_load_mid (by kernel_rfl) _ _ rfl _ _ rfl; (case hS => (intro W hC; exact (show World.rangeAt _ _ _ (Fi.vals _) from hC.2.2.2))); (case hu => exact Try.underlying76); (case hd => rfl); (case hi => kernel_rfl)) | (apply yieldsIf_load_mid (by kernel_rfl) _ _ rfl _ _ rfl; (case hS => (intro W hC; exact (show World.rangeAt _ _ _ (Fi.vals _) from hC.2.2))); (case hu => exact Try.underlying76); (case hd => rfl); (case hi => kernel_rfl)) | (apply yieldsIf_load_mid (by kernel_rfl) _ _ rfl _ _ rfl; (case hS => (intro W hC; exact (show World.rangeAt _ _ _ (Fi.vals _) from hC.2))); (case hu => exact Try.underlying76); (case hd => rfl); (case hi => kernel_rfl)) | (apply yieldsIf_load_mid (by kernel_rfl) _ _ rfl _ _ rfl; (case hS => (intro W hC; exact (show World.rangeAt _ _ _ (Fi.vals _) from hC))); (case hu => exact Try.underlying76); (case hd => rfl); (case hi => kernel_rfl))
          case hC => exact HC
          case ha => (simp only [Act.put, List.setIfInBounds_toArray, List.set_cons_zero, List.set_cons_succ]; rfl)
          apply WZ.take (i := 4) (some 21) rfl rfl (by kernel_rfl) (by kernel_rfl) (by kernel_rfl) (calm_panic _) (by kernel_rfl)
          case hy => (refine .inl ⟨by kernel_rfl, fun W hC => ?_⟩; (try dsimp only at hC); go_simp; (try simp only [hne]); rfl)
          case hC => exact HC
          case ha => (simp only [Act.put, List.setIfInBounds_toArray, List.set_cons_zero, List.set_cons_succ]; rfl)
          apply WZ.take (i := 5) (some 22) rfl rfl (by kernel_rfl) (by kernel_rfl) (by kernel_rfl) (calm_panic _) (by kernel_rfl)
          case hy => (refine .inl ⟨by kernel_rfl, fun W hC => ?_⟩; (try dsimp only at hC); go_simp; (try simp only [hne]); rfl)
          case hC => exact HC
          case ha => (simp only [Act.put, List.setIfInBounds_toArray, List.set_cons_zero, List.set_cons_succ]; rfl)
          apply WZ.take (i := 6) (some 23) rfl rfl (by kernel_rfl) (by kernel_rfl) (by kernel_rfl) (calm_panic _) (by kernel_rfl)
          case hy => (refine .inl ⟨by kernel_rfl, fun W hC => ?_⟩; (try dsimp only at hC); go_simp; (try simp only [hne]); rfl)
          case hC => exact HC
          case ha => (simp only [Act.put, List.setIfInBounds_toArray, List.set_cons_zero, List.set_cons_succ]; rfl)
          apply WZ.take (i := 7) (some 24) rfl rfl (by kernel_rfl) (by kernel_rfl) (by kernel_rfl) (calm_panic _) (by kernel_rfl)
          case hy => first | (apply yieldsIf_load_mid (by kernel_rfl) _ _ rfl _ _ rfl; (case hS => (intro W hC; exact (show World.rangeAt _ _ _ (Fi.vals _) from hC.1))); (case hu => exact Try.underlying76); (case hd => rfl); (case hi => kernel_rfl)) | (apply yieldsIf_load_mid (by kernel_rfl) _ _ rfl _ _ rfl; (case hS => (intro W hC; exact (show World.rangeAt _ _ _ (Fi.vals _) from hC.2.1))); (case hu => exact Try.underlying76); (case hd => rfl); (case hi => kernel_rfl)) | (apply yieldsIf_load_mid (by kernel_rfl) _ _ rfl _ _ rfl; (case hS => (intro W hC; exact (show World.rangeAt _ _ _ (Fi.vals _) from hC.2.2.1))); (case hu => exact Try.underlying76); (case hd => rfl); (case hi => kernel_rfl)) | (apply yieldsIf_load_mid (by kernel_rfl) _ _ rfl _ _ rfl; (case hS => (intro W hC; exact (show World.rangeAt _ _ _ (Fi.vals _) from hC.2.2.2.1))); (case hu => exact Try.underlying76); (case hd => rfl); (case hi => kernel_rfl)) | (apply yieldsIf_load_mid (by kernel_rfl) _ _ rfl _ _ rfl; (case hS => (intro W hC; exact (show World.rangeAt _ _ _ (Fi.vals _) from hC.2.2.2))); (case hu => exact Try.underlying76); (case hd => rfl); (case hi => kernel_rfl)) | (apply yieldsIf_load_mid (by kernel_rfl) _ _ rfl _ _ rfl; (case hS => (intro W hC; exact (show World.rangeAt _ _ _ (Fi.vals _) from hC.2.2))); (case hu => exact Try.underlying76); (case hd => rfl); (case hi => kernel_rfl)) | (apply yieldsIf_load_mid (by kernel_rfl) _ _ rfl _ _ rfl; (case hS => (intro W hC; exact (show World.rangeAt _ _ _ (Fi.vals _) from hC.2))); (case hu => exact Try.underlying76); (case hd => rfl); (case hi => kernel_rfl)) | (apply yieldsIf_load_mid (by kernel_rfl) _ _ rfl _ _ rfl; (case hS => (intro W hC; exact (show World.rangeAt _ _ _ (Fi.vals _) from hC))); (case hu => exact Try.underlying76); (case hd => rfl); (case hi => kernel_rfl))
          case hC => exact HC
          case ha => (simp only [Act.put, List.setIfInBounds_toArray, List.set_cons_zero, List.set_cons_succ]; rfl)
          apply WZ.take (i := 8) (some 25) rfl rfl (by kernel_rfl) (by kernel_rfl) (by kernel_rfl) (calm_panic _) (by kernel_rfl)
          case hy => (refine .inl ⟨by kernel_rfl, fun W hC => ?_⟩; (try dsimp only at hC); go_simp; (try simp only [hne]); rfl)
          case hC => exact HC
          case ha => (simp only [Act.put, List.setIfInBounds_toArray, List.set_cons_zero, List.set_cons_succ]; rfl)
          refine WZ.done (by kernel_rfl) ?_ _
          simp only [Calm, Exit.then]
          go_wp2
          go_roundw
          case rel => exact ⟨k + 1, n + 1, by omega, HE2.out, rfl, rfl⟩
          case measure => simp [intOf]; omega
        · have HE2 := Lib.hid (HF.out heq)
          have ht : decide (x = y) = false := by simp [heq]
          simp only [ht] at hne
          clear heq
          go_wp2
          refine region_wz (fun W => W.rangeAt b (o + k * 5) x.vals ∧ W.rangeAt b' (o' + k * 5) y.vals) none (by kernel_rfl) ?_
          apply WZ.take (i := 0) (some 17) rfl rfl (by kernel_rfl) (by kernel_rfl) (by kernel_rfl) (calm_panic _) (by kernel_rfl)
          case hy => (refine .inl ⟨by kernel_rfl, fun W hC => ?_⟩; (try dsimp only at hC); go_simp; (try simp only [hne]); rfl)
          case hC => exact HC
          case ha => (simp only [Act.put, List.setIfInBounds_toArray, List.set_cons_zero, List.set_cons_succ]; rfl)
          apply WZ.take (i := 1) (some 18) rfl rfl (by kernel_rfl) (by kernel_rfl) (by kernel_rfl) (calm_panic _) (by kernel_rfl)
          case hy => (refine .inl ⟨by kernel_rfl, fun W hC => ?_⟩; (try dsimp only at hC); go_simp; (try simp only [hne]); rfl)
          case hC => exact HC
          case ha => (simp only [Act.put, List.setIfInBounds_toArray, List.set_cons_zero, List.set_cons_succ]; rfl)
          apply WZ.take (i := 2) (some 19) rfl rfl (by kernel_rfl) (by kernel_rfl) (by kernel_rfl) (calm_panic _) (by kernel_rfl)
          case hy => (refine .inl ⟨by kernel_rfl, fun W hC => ?_⟩; (try dsimp only at hC); go_simp; (try simp only [hne]); rfl)
          case hC => exact HC
          case ha => (simp only [Act.put, List.setIfInBounds_toArray, List.set_cons_zero, List.set_cons_succ]; rfl)
          apply WZ.take (i := 3) (some 20) rfl rfl (by kernel_rfl) (by kernel_rfl) (by kernel_rfl) (calm_panic _) (by kernel_rfl)
          case hy => first | (apply yieldsIf_load_mid (by kernel_rfl) _ _ rfl _ _ rfl; (case hS => (intro W hC; exact (show World.rangeAt _ _ _ (Fi.vals _) from hC.1))); (case hu => exact Try.underlying76); (case hd => rfl); (case hi => kernel_rfl)) | (apply yieldsIf_load_mid (by kernel_rfl) _ _ rfl _ _ rfl; (case hS => (intro W hC; exact (show World.rangeAt _ _ _ (Fi.vals _) from hC.2.1))); (case hu => exact Try.underlying76); (case hd => rfl); (case hi => kernel_rfl)) | (apply yieldsIf_load_mid (by kernel_rfl) _ _ rfl _ _ rfl; (case hS => (intro W hC; exact (show World.rangeAt _ _ _ (Fi.vals _) from hC.2.2.1))); (case hu => exact Try.underlying76); (case hd => rfl); (case hi => kernel_rfl)) | (apply yieldsIf_load_mid (by kernel_rfl) _ _ rfl _ _ rfl; (case hS => (intro W hC; exact (show World.rangeAt _ _ _ (Fi.vals _) from hC.2.2.2.1))); (case hu => exact Try.underlying76); (case hd => rfl); (case hi => kernel_rfl)) | (apply yieldsIf_load_mid (by kernel_rfl) _ _ rfl _ _ rfl; (case hS => (intro W hC; exact (show World.rangeAt _ _ _ (Fi.vals _) from hC.2.2.2))); (case hu => exact Try.underlying76); (case hd => rfl); (case hi => kernel_rfl)) | (apply yieldsIf_load_mid (by kernel_rfl) _ _ rfl _ _ rfl; (case hS => (intro W hC; exact (show World.rangeAt _ _ _ (Fi.vals _) from hC.2.2))); (case hu => exact Try.underlying76); (case hd => rfl); (case hi => kernel_rfl)) | (apply yieldsIf_load_mid (by kernel_rfl) _ _ rfl _ _ rfl; (case hS => (intro W hC; exact (show World.rangeAt _ _ _ (Fi.vals _) from hC.2))); (case hu => exact Try.underlying76); (case hd => rfl); (case hi => kernel_rfl)) | (apply yieldsIf_load_mid (by kernel_rfl) _ _ rfl _ _ rfl; (case hS => (intro W hC; exact (show World.rangeAt _ _ _ (Fi.vals _) from hC))); (case hu => exact Try.underlying76); (case hd => rfl); (case hi => kernel_rfl))
          case hC => exact HC
          case ha => (simp only [Act.put, List.setIfInBounds_toArray, List.set_cons_zero, List.set_cons_succ]; rfl)
          apply WZ.take (i := 4) (some 21) rfl rfl (by kernel_rfl) (by kernel_rfl) (by kernel_rfl) (calm_panic _) (by kernel_rfl)
          case hy => (refine .inl ⟨by kernel_rfl, fun W hC => ?_⟩; (try dsimp only at hC); go_simp; (try simp only [hne]); rfl)
          case hC => exact HC
          case ha => (simp only [Act.put, List.setIfInBounds_toArray, List.set_cons_zero, List.set_cons_succ]; rfl)
          apply WZ.take (i := 5) (some 22) rfl rfl (by kernel_rfl) (by kernel_rfl) (by kernel_rfl) (calm_panic _) (by kernel_rfl)
          case hy => (refine .inl ⟨by kernel_rfl, fun W hC => ?_⟩; (try dsimp only at hC); go_simp; (try simp only [hne]); rfl)
          case hC => exact HC
          case ha => (simp only [Act.put, List.setIfInBounds_toArray, List.set_cons_zero, List.set_cons_succ]; rfl)
          apply WZ.take (i := 6) (some 23) rfl rfl (by kernel_rfl) (by kernel_rfl) (by kernel_rfl) (calm_panic _) (by kernel_rfl)
          case hy => (refine .inl ⟨by kernel_rfl, fun W hC => ?_⟩; (try dsimp only at hC); go_simp; (try simp only [hne]); rfl)
          case hC => exact HC
          case ha => (simp only [Act.put, List.setIfInBounds_toArray, List.set_cons_zero, List.set_cons_succ]; rfl)
          apply WZ.take (i := 7) (some 24) rfl rfl (by kernel_rfl) (by kernel_rfl) (by kernel_rfl) (calm_panic _) (by kernel_rfl)
          case hy => first | (apply yieldsIf_load_mid (by kernel_rfl) _ _ rfl _ _ rfl; (case hS => (intro W hC; exact (show World.rangeAt _ _ _ (Fi.vals _) from hC.1))); (case hu => exact Try.underlying76); (case hd => rfl); (case hi => kernel_rfl)) | (apply yieldsIf_load_mid (by kernel_rfl) _ _ rfl _ _ rfl; (case hS => (intro W hC; exact (show World.rangeAt _ _ _ (Fi.vals _) from hC.2.1))); (case hu => exact Try.underlying76); (case hd => rfl); (case hi => kernel_rfl)) | (apply yieldsIf_load_mid (by kernel_rfl) _ _ rfl _ _ rfl; (case hS => (intro W hC; exact (show World.rangeAt _ _ _ (Fi.vals _) from hC.2.2.1))); (case hu => exact Try.underlying76); (case hd => rfl); (case hi => kernel_rfl)) | (apply yieldsIf_load_mid (by kernel_rfl) _ _ rfl _ _ rfl; (case hS => (intro W hC; exact (show World.rangeAt _ _ _ (Fi.vals _) from hC.2.2.2.1))); (case hu => exact Try.underlying76); (case hd => rfl); (case hi => kernel_rfl)) | (apply yieldsIf_load_mid (by kernel_rfl) _ _ rfl _ _ rfl; (case hS => (intro W hC; exact (show World.rangeAt _ _ _ (Fi.vals _) from hC.2.2.2))); (case hu => exact Try.underlying76); (case hd => rfl); (case hi => kernel_rfl)) | (apply yieldsIf_load_mid (by kernel_rfl) _ _ rfl _ _ rfl; (case hS => (intro W hC; exact (show World.rangeAt _ _ _ (Fi.vals _) from hC.2.2))); (case hu => exact Try.underlying76); (case hd => rfl); (case hi => kernel_rfl)) | (apply yieldsIf_load_mid (by kernel_rfl) _ _ rfl _ _ rfl; (case hS => (intro W hC; exact (show World.rangeAt _ _ _ (Fi.vals _) from hC.2))); (case hu => exact Try.underlying76); (case hd => rfl); (case hi => kernel_rfl)) | (apply yieldsIf_load_mid (by kernel_rfl) _ _ rfl _ _ rfl; (case hS => (intro W hC; exact (show World.rangeAt _ _ _ (Fi.vals _) from hC))); (case hu => exact Try.underlying76); (case hd => rfl); (case hi => kernel_rfl))
          case hC => exact HC
          case ha => (simp only [Act.put, List.setIfInBounds_toArray, List.set_cons_zero, List.set_cons_succ]; rfl)
          apply WZ.take (i := 8) (some 25) rfl rfl (by kernel_rfl) (by kernel_rfl) (by kernel_rfl) (calm_panic _) (by kernel_rfl)
          case hy => (refine .inl ⟨by kernel_rfl, fun W hC => ?_⟩; (try dsimp only at hC); go_simp; (try simp only [hne]); rfl)
          case hC => exact HC
          case ha => (simp only [Act.put, List.setIfInBounds_toArray, List.set_cons_zero, List.set_cons_succ]; rfl)
          refine WZ.done (by kernel_rfl) ?_ _
          simp only [Calm, Exit.then]
          go_wp2
          go_ret
          exact ⟨ret_bool HE2.out, (below_drewN' (Below.refl _ _) n).drew⟩
      · have HE := Lib.hid (sameToF_end HS.out (by rw [HNN.out]; exact HN.out) (by rw [HNN.out]; omega))
        have e1 : decide ((k : Int) < (N : Int)) = false := decide_eq_false (by omega)
        go_wp2
        go_ret
        exact ⟨ret_bool HE.out, below_drewN' (Below.refl _ _) n⟩
  · have hb : ((N : Int) != (M : Int)) = true := by simp; omega
    have HN := Lib.hid (sameToF_len (l := l) (m := m) (by rw [hN, hM]; exact hn))
    clear hn hN hM
    go_enter Try.func13, Try.ntmps13
    go_wp2
    go_ret
    exact ⟨ret_bool HN.out, Below.refl _ _⟩
end Go.Proofs.Ytaeemeoffnhgfaa
