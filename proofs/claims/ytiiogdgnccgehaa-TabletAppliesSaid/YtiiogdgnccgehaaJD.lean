/-
  The walks of slices.Equal at cells and at numbers. Commands in memory; the walks of the methods plain and same. The contract of strings.Join at this program, in plain words, as the kit's lay-plain tool wrote it. Texts in a row of my own; one behind the other; strings.Join. No conditions.
-/
import Derived.Test.YtiiogdgnccgehaaJC
import Derived.Shelf.Strings.Builder1
import Derived.Shelf.Strings.Builder2
import Derived.Shelf.Strings.OnBuilder
import Derived.Test.YtiiogdgnccgehaaProg
import Derived.Test.YtiiogdgnccgehaaJA
namespace Go.Proofs.Ytiiogdgnccgehaa
open Go.RowKit
attribute [local go_sem ↓] Go.wp_at_zero Go.wp_at_succ

def u32s (l : List Nat) : List Value := l.map fun (n : Nat) => .int .u32 (n : Int)
theorem u32s_len (l : List Nat) : (u32s l).length = l.length := by simp [u32s]
theorem u32s_ne {l : List Nat} {k : Nat} (h : k < l.length) : u32s l ≠ [] := fun e => by
  have := u32s_len l
  rw [e] at this
  simp at this
  omega
theorem Rd.u32_at {w : World} {b o : Nat} {l : List Nat} (hc : ∀ j (h : j < (u32s l).length), w.cell? ⟨b, o + j, none⟩ = some (u32s l)[j]) (k : Nat) (hk : k < l.length) : w.cell? ⟨b, o + k, none⟩ = some (.int .u32 (l[k] : Int)) := by
  have h := hc k (by rw [u32s_len]; exact hk)
  simpa [u32s] using h
theorem Rd.cl_range {w : World} {b o : Nat} {l : List Cl} (hc : ∀ j (h : j < (vals l).length), w.cell? ⟨b, o + j, none⟩ = some (vals l)[j]) (k : Nat) (hk : k < l.length) : w.rangeAt b (o + k * 6) l[k].vals := fun j v hv => by
  have hl : (l[k].vals).length = 6 := rfl
  have hj6 : j < 6 := by
    have := (List.getElem?_eq_some_iff.1 hv).1
    omega
  have hlen := length_vals l
  have h1 : k * 6 + j < (vals l).length := by omega
  have h2 := hc (k * 6 + j) h1
  rw [show o + k * 6 + j = o + (k * 6 + j) by omega, h2]
  have h3 := encs_get (enc := Cl.vals) (k := 6) (fun _ => rfl) l k j hk v hv
  have h4 : (vals l)[k * 6 + j]? = some v := h3
  rw [List.getElem?_eq_getElem h1] at h4
  exact h4
def sameT {α : Type} (l m : List α) (k : Nat) : Prop := l.take k = m.take k
theorem sameT_succ {α : Type} {l m : List α} {k : Nat} (h : sameT l m k) (hk : k < l.length) (hk' : k < m.length) (he : l[k] = m[k]) : sameT l m (k + 1) := by
  unfold sameT at *
  rw [List.take_succ_eq_append_getElem hk, List.take_succ_eq_append_getElem hk', h, he]
theorem sameT_end {α : Type} [DecidableEq α] {l m : List α} {k : Nat} (h : sameT l m k) (hn : l.length = m.length) (hk : l.length ≤ k) : true = decide (l = m) := by
  unfold sameT at h
  rw [List.take_of_length_le hk, List.take_of_length_le (by omega)] at h
  simp [h]
theorem sameT_not {α : Type} [DecidableEq α] {l m : List α} {k : Nat} (hk : k < l.length) (hk' : k < m.length) (he : l[k] ≠ m[k]) : false = decide (l = m) := by
  symm
  rw [decide_eq_false_iff_not]
  rintro rfl
  exact he rfl
theorem sameT_len {α : Type} [DecidableEq α] {l m : List α} (hn : ¬ l.length = m.length) : false = decide (l = m) := by
  symm
  rw [decide_eq_false_iff_not]
  rintro rfl
  exact hn rfl
theorem neqC (x y : Cl) : ∀ W, (binOp .neq 75 (.agg x.vals.toArray) (.agg y.vals.toArray)).run Try.prog W = .ok (.bool (!decide (x = y))) W := neq_cell x y
theorem neqN (x y : Nat) : ((x : Int) != (y : Int)) = !decide (x = y) := by
  by_cases h : x = y
  · simp [h]
  · have : (x : Int) ≠ (y : Int) := by omega
    simp [h, this]
set_option maxHeartbeats 2000000 in
theorem equalCells_any (A B : Option Addr) (c d : Nat) (l m : List Cl) (w : World) (hl : Rd w w.heap.size A (vals l)) (hm : Rd w w.heap.size B (vals m)) (hlen : l.length ≤ maxLen) :
    Calls Try.prog 53 #[.slice A l.length c, .slice B m.length d] w fun e w' => e = .returned (.bool (decide (l = m))) ∧ Below w.heap.size w w' := by
  unfold maxLen at hlen
  by_cases hn : l.length = m.length
  · skip
    have HN := Lib.hid hn
    obtain ⟨N, hN⟩ : ∃ N, l.length = N := ⟨_, rfl⟩
    have hM : m.length = N := by omega
    have HNN := Lib.hid hN
    have HMM := Lib.hid hM
    rw [hN] at hlen ⊢
    rw [hM]
    have hb : ((N : Int) != (N : Int)) = false := bne_self_eq_false _
    have HL := Lib.hid hl
    have HM := Lib.hid hm
    clear hn hN hM hl hm
    go_enter Try.func53, Try.ntmps53
    go_wp2
    go_loopw [13] (fun i wr => ∃ k : Nat, k ≤ N ∧ i = .int .i64 k ∧ Hid (sameT l m k) ∧ Hid (Below w.heap.size w wr)) (fun i _ => N - (intOf i).toNat)
    case atStart => exact ⟨0, Nat.zero_le _, rfl, Lib.hid rfl, Lib.hid (Below.refl _ _)⟩
    case round =>
      obtain ⟨k, hk, rfl, HS, HB⟩ := hrel
      rename World => wr
      by_cases hlt : k < N
      · have hlt0 : k < l.length := by have := HNN.out; omega
        have hlt' : k < m.length := by have := HMM.out; omega
        have e1 : decide ((k : Int) < (N : Int)) = true := decide_eq_true (by omega)
        have k1 : (0 : Int) ≤ (k : Int) := by omega
        have k2 : (k : Int) < (N : Int) := by omega
        have hw3 : IntKind.i64.wrap ((k : Int) + 1) = ((k + 1 : Nat) : Int) := by rw [IntWalk.i64_in _ (by omega)]; omega
        obtain ⟨b, o, rfl, hb1, hc⟩ := (HL.out.below HB.out).at_ (vals_ne hlt0)
        obtain ⟨b', o', rfl, hb', hc'⟩ := (HM.out.below HB.out).at_ (vals_ne hlt')
        have HE : Hid (l[k] = m[k] → sameT l m (k + 1)) := Lib.hid fun h => sameT_succ HS.out hlt0 hlt' h
        have HF : Hid (l[k] ≠ m[k] → false = decide (l = m)) := Lib.hid fun h => sameT_not hlt0 hlt' h
        obtain ⟨x, hx⟩ : ∃ x, l[k] = x := ⟨_, rfl⟩
        obtain ⟨y, hy⟩ : ∃ y, m[k] = y := ⟨_, rfl⟩
        have HC : (fun W => W.rangeAt b (o + k * 6) x.vals ∧ W.rangeAt b' (o' + k * 6) y.vals ∧ Below w.heap.size w W) wr.drew := ⟨by rw [← hx]; exact Rd.cl_range hc k hlt0, by rw [← hy]; exact Rd.cl_range hc' k hlt', HB.out.drew⟩
        rw [hx, hy] at HE HF
        clear hx hy hc hc'
        have hne := neqC x y
        by_cases heq : x = y
        · have HE2 := Lib.hid (HE.out heq)
          have ht : decide (x = y) = true := by simp [heq]
          simp only [ht] at hne
          clear heq
          go_wp2
          refine region_wz ((fun W => W.rangeAt b (o + k * 6) x.vals ∧ W.rangeAt b' (o' + k * 6) y.vals ∧ Below w.heap.size w W)) none (by kernel_rfl) ?_
          apply WZ.take (i := 0) (some 16) rfl rfl (by kernel_rfl) (by kernel_rfl) (by kernel_rfl) (calm_panic _) (by kernel_rfl)
          case hy => (refine .inl ⟨by kernel_rfl, fun W hC => ?_⟩; (try dsimp only at hC); go_simp; (try simp only [hne]); rfl)
          case hC => exact HC
          case ha => (simp only [Act.put, List.setIfInBounds_toArray, List.set_cons_zero, List.set_cons_succ]; rfl)
          apply WZ.take (i := 1) (some 17) rfl rfl (by kernel_rfl) (by kernel_rfl) (by kernel_rfl) (calm_panic _) (by kernel_rfl)
          case hy => (refine .inl ⟨by kernel_rfl, fun W hC => ?_⟩; (try dsimp only at hC); go_simp; (try simp only [hne]); rfl)
          case hC => exact HC
          case ha => (simp only [Act.put, List.setIfInBounds_toArray, List.set_cons_zero, List.set_cons_succ]; rfl)
          apply WZ.take (i := 2) (some 18) rfl rfl (by kernel_rfl) (by kernel_rfl) (by kernel_rfl) (calm_panic _) (by kernel_rfl)
          case hy => (refine .inl ⟨by kernel_rfl, fun W hC => ?_⟩; (try dsimp only at hC); go_simp; (try simp only [hne]); rfl)
          case hC => exact HC
          case ha => (simp only [Act.put, List.setIfInBounds_toArray, List.set_cons_zero, List.set_cons_succ]; rfl)
          apply WZ.take (i := 3) (some 19) rfl rfl (by kernel_rfl) (by kernel_rfl) (by kernel_rfl) (calm_panic _) (by kernel_rfl)
          case hy => first | (apply yieldsIf_load_mid (by kernel_rfl) _ _ rfl _ _ rfl; (case hS => (intro W hC; exact (show World.rangeAt _ _ _ (Cl.vals _) from hC.1))); (case hu => exact Try.underlying75); (case hd => rfl); (case hi => kernel_rfl)) | (apply yieldsIf_load_mid (by kernel_rfl) _ _ rfl _ _ rfl; (case hS => (intro W hC; exact (show World.rangeAt _ _ _ (Cl.vals _) from hC.2.1))); (case hu => exact Try.underlying75); (case hd => rfl); (case hi => kernel_rfl)) | (apply yieldsIf_load_mid (by kernel_rfl) _ _ rfl _ _ rfl; (case hS => (intro W hC; exact (show World.rangeAt _ _ _ (Cl.vals _) from hC.2.2.1))); (case hu => exact Try.underlying75); (case hd => rfl); (case hi => kernel_rfl)) | (apply yieldsIf_load_mid (by kernel_rfl) _ _ rfl _ _ rfl; (case hS => (intro W hC; exact (show World.rangeAt _ _ _ (Cl.vals _) from hC.2.2.2.1))); (case hu => exact Try.underlying75); (case hd => rfl); (case hi => kernel_rfl)) | (apply yieldsIf_load_mid (by kernel_rfl) _ _ rfl _ _ rfl; (case hS => (intro W hC; exact (show World.rangeAt _ _ _ (Cl.vals _) from hC.2.2.2))); (case hu => exact Try.underlying75); (case hd => rfl); (case hi => kernel_rfl)) | (apply yieldsIf_load_mid (by kernel_rfl) _ _ rfl _ _ rfl; (case hS => (intro W hC; exact (show World.rangeAt _ _ _ (Cl.vals _) from hC.2.2))); (case hu => exact Try.underlying75); (case hd => rfl); (case hi => kernel_rfl)) | (apply yieldsIf_load_mid (by kernel_rfl) _ _ rfl _ _ rfl; (case hS => (intro W hC; exact (show World.rangeAt _ _ _ (Cl.vals _) from hC.2))); (case hu => exact Try.underlying75); (case hd => rfl); (case hi => kernel_rfl)) | (apply yieldsIf_load_mid (by kernel_rfl) _ _ rfl _ _ rfl; (case hS => (intro W hC; exact (show World.rangeAt _ _ _ (Cl.vals _) from hC))); (case hu => exact Try.underlying75); (case hd => rfl); (case hi => kernel_rfl))
          case hC => exact HC
          case ha => (simp only [Act.put, List.setIfInBounds_toArray, List.set_cons_zero, List.set_cons_succ]; rfl)
          apply WZ.take (i := 4) (some 20) rfl rfl (by kernel_rfl) (by kernel_rfl) (by kernel_rfl) (calm_panic _) (by kernel_rfl)
          case hy => (refine .inl ⟨by kernel_rfl, fun W hC => ?_⟩; (try dsimp only at hC); go_simp; (try simp only [hne]); rfl)
          case hC => exact HC
          case ha => (simp only [Act.put, List.setIfInBounds_toArray, List.set_cons_zero, List.set_cons_succ]; rfl)
          apply WZ.take (i := 5) (some 21) rfl rfl (by kernel_rfl) (by kernel_rfl) (by kernel_rfl) (calm_panic _) (by kernel_rfl)
          case hy => (refine .inl ⟨by kernel_rfl, fun W hC => ?_⟩; (try dsimp only at hC); go_simp; (try simp only [hne]); rfl)
          case hC => exact HC
          case ha => (simp only [Act.put, List.setIfInBounds_toArray, List.set_cons_zero, List.set_cons_succ]; rfl)
          apply WZ.take (i := 6) (some 22) rfl rfl (by kernel_rfl) (by kernel_rfl) (by kernel_rfl) (calm_panic _) (by kernel_rfl)
          case hy => (refine .inl ⟨by kernel_rfl, fun W hC => ?_⟩; (try dsimp only at hC); go_simp; (try simp only [hne]); rfl)
          case hC => exact HC
          case ha => (simp only [Act.put, List.setIfInBounds_toArray, List.set_cons_zero, List.set_cons_succ]; rfl)
          apply WZ.take (i := 7) (some 23) rfl rfl (by kernel_rfl) (by kernel_rfl) (by kernel_rfl) (calm_panic _) (by kernel_rfl)
          case hy => first | (apply yieldsIf_load_mid (by kernel_rfl) _ _ rfl _ _ rfl; (case hS => (intro W hC; exact (show World.rangeAt _ _ _ (Cl.vals _) from hC.1))); (case hu => exact Try.underlying75); (case hd => rfl); (case hi => kernel_rfl)) | (apply yieldsIf_load_mid (by kernel_rfl) _ _ rfl _ _ rfl; (case hS => (intro W hC; exact (show World.rangeAt _ _ _ (Cl.vals _) from hC.2.1))); (case hu => exact Try.underlying75); (case hd => rfl); (case hi => kernel_rfl)) | (apply yieldsIf_load_mid (by kernel_rfl) _ _ rfl _ _ rfl; (case hS => (intro W hC; exact (show World.rangeAt _ _ _ (Cl.vals _) from hC.2.2.1))); (case hu => exact Try.underlying75); (case hd => rfl); (case hi => kernel_rfl)) | (apply yieldsIf_load_mid (by kernel_rfl) _ _ rfl _ _ rfl; (case hS => (intro W hC; exact (show World.rangeAt _ _ _ (Cl.vals _) from hC.2.2.2.1))); (case hu => exact Try.underlying75); (case hd => rfl); (case hi => kernel_rfl)) | (apply yieldsIf_load_mid (by kernel_rfl) _ _ rfl _ _ rfl; (case hS => (intro W hC; exact (show World.rangeAt _ _ _ (Cl.vals _) from hC.2.2.2))); (case hu => exact Try.underlying75); (case hd => rfl); (case hi => kernel_rfl)) | (apply yieldsIf_load_mid (by kernel_rfl) _ _ rfl _ _ rfl; (case hS => (intro W hC; exact (show World.rangeAt _ _ _ (Cl.vals _) from hC.2.2))); (case hu => exact Try.underlying75); (case hd => rfl); (case hi => kernel_rfl)) | (apply yieldsIf_load_mid (by kernel_rfl) _ _ rfl _ _ rfl; (case hS => (intro W hC; exact (show World.rangeAt _ _ _ (Cl.vals _) from hC.2))); (case hu => exact Try.underlying75); (case hd => rfl); (case hi => kernel_rfl)) | (apply yieldsIf_load_mid (by kernel_rfl) _ _ rfl _ _ rfl; (case hS => (intro W hC; exact (show World.rangeAt _ _ _ (Cl.vals _) from hC))); (case hu => exact Try.underlying75); (case hd => rfl); (case hi => kernel_rfl))
          case hC => exact HC
          case ha => (simp only [Act.put, List.setIfInBounds_toArray, List.set_cons_zero, List.set_cons_succ]; rfl)
          apply WZ.take (i := 8) (some 24) rfl rfl (by kernel_rfl) (by kernel_rfl) (by kernel_rfl) (calm_panic _) (by kernel_rfl)
          case hy => (refine .inl ⟨by kernel_rfl, fun W hC => ?_⟩; (try dsimp only at hC); go_simp; (try simp only [hne]); rfl)
          case hC => exact HC
          case ha => (simp only [Act.put, List.setIfInBounds_toArray, List.set_cons_zero, List.set_cons_succ]; rfl)
          refine WZ.done (by kernel_rfl) ?_ _
          simp only [Calm, Exit.then]
          go_wp2
          exact ⟨⟨k + 1, by omega, by first | rfl | go_num, HE2, Lib.hid HC.2.2⟩, by simp [intOf]; omega⟩
        · have HE2 := Lib.hid (HF.out heq)
          have ht : decide (x = y) = false := by simp [heq]
          simp only [ht] at hne
          clear heq
          go_wp2
          refine region_wz ((fun W => W.rangeAt b (o + k * 6) x.vals ∧ W.rangeAt b' (o' + k * 6) y.vals ∧ Below w.heap.size w W)) none (by kernel_rfl) ?_
          apply WZ.take (i := 0) (some 16) rfl rfl (by kernel_rfl) (by kernel_rfl) (by kernel_rfl) (calm_panic _) (by kernel_rfl)
          case hy => (refine .inl ⟨by kernel_rfl, fun W hC => ?_⟩; (try dsimp only at hC); go_simp; (try simp only [hne]); rfl)
          case hC => exact HC
          case ha => (simp only [Act.put, List.setIfInBounds_toArray, List.set_cons_zero, List.set_cons_succ]; rfl)
          apply WZ.take (i := 1) (some 17) rfl rfl (by kernel_rfl) (by kernel_rfl) (by kernel_rfl) (calm_panic _) (by kernel_rfl)
          case hy => (refine .inl ⟨by kernel_rfl, fun W hC => ?_⟩; (try dsimp only at hC); go_simp; (try simp only [hne]); rfl)
          case hC => exact HC
          case ha => (simp only [Act.put, List.setIfInBounds_toArray, List.set_cons_zero, List.set_cons_succ]; rfl)
          apply WZ.take (i := 2) (some 18) rfl rfl (by kernel_rfl) (by kernel_rfl) (by kernel_rfl) (calm_panic _) (by kernel_rfl)
          case hy => (refine .inl ⟨by kernel_rfl, fun W hC => ?_⟩; (try dsimp only at hC); go_simp; (try simp only [hne]); rfl)
          case hC => exact HC
          case ha => (simp only [Act.put, List.setIfInBounds_toArray, List.set_cons_zero, List.set_cons_succ]; rfl)
          apply WZ.take (i := 3) (some 19) rfl rfl (by kernel_rfl) (by kernel_rfl) (by kernel_rfl) (calm_panic _) (by kernel_rfl)
          case hy => first | (apply yieldsIf_load_mid (by kernel_rfl) _ _ rfl _ _ rfl; (case hS => (intro W hC; exact (show World.rangeAt _ _ _ (Cl.vals _) from hC.1))); (case hu => exact Try.underlying75); (case hd => rfl); (case hi => kernel_rfl)) | (apply yieldsIf_load_mid (by kernel_rfl) _ _ rfl _ _ rfl; (case hS => (intro W hC; exact (show World.rangeAt _ _ _ (Cl.vals _) from hC.2.1))); (case hu => exact Try.underlying75); (case hd => rfl); (case hi => kernel_rfl)) | (apply yieldsIf_load_mid (by kernel_rfl) _ _ rfl _ _ rfl; (case hS => (intro W hC; exact (show World.rangeAt _ _ _ (Cl.vals _) from hC.2.2.1))); (case hu => exact Try.underlying75); (case hd => rfl); (case hi => kernel_rfl)) | (apply yieldsIf_load_mid (by kernel_rfl) _ _ rfl _ _ rfl; (case hS => (intro W hC; exact (show World.rangeAt _ _ _ (Cl.vals _) from hC.2.2.2.1))); (case hu => exact Try.underlying75); (case hd => rfl); (case hi => kernel_rfl)) | (apply yieldsIf_load_mid (by kernel_rfl) _ _ rfl _ _ rfl; (case hS => (intro W hC; exact (show World.rangeAt _ _ _ (Cl.vals _) from hC.2.2.2))); (case hu => exact Try.underlying75); (case hd => rfl); (case hi => kernel_rfl)) | (apply yieldsIf_load_mid (by kernel_rfl) _ _ rfl _ _ rfl; (case hS => (intro W hC; exact (show World.rangeAt _ _ _ (Cl.vals _) from hC.2.2))); (case hu => exact Try.underlying75); (case hd => rfl); (case hi => kernel_rfl)) | (apply yieldsIf_load_mid (by kernel_rfl) _ _ rfl _ _ rfl; (case hS => (intro W hC; exact (show World.rangeAt _ _ _ (Cl.vals _) from hC.2))); (case hu => exact Try.underlying75); (case hd => rfl); (case hi => kernel_rfl)) | (apply yieldsIf_load_mid (by kernel_rfl) _ _ rfl _ _ rfl; (case hS => (intro W hC; exact (show World.rangeAt _ _ _ (Cl.vals _) from hC))); (case hu => exact Try.underlying75); (case hd => rfl); (case hi => kernel_rfl))
          case hC => exact HC
          case ha => (simp only [Act.put, List.setIfInBounds_toArray, List.set_cons_zero, List.set_cons_succ]; rfl)
          apply WZ.take (i := 4) (some 20) rfl rfl (by kernel_rfl) (by kernel_rfl) (by kernel_rfl) (calm_panic _) (by kernel_rfl)
          case hy => (refine .inl ⟨by kernel_rfl, fun W hC => ?_⟩; (try dsimp only at hC); go_simp; (try simp only [hne]); rfl)
          case hC => exact HC
          case ha => (simp only [Act.put, List.setIfInBounds_toArray, List.set_cons_zero, List.set_cons_succ]; rfl)
          apply WZ.take (i := 5) (some 21) rfl rfl (by kernel_rfl) (by kernel_rfl) (by kernel_rfl) (calm_panic _) (by kernel_rfl)
          case hy => (refine .inl ⟨by kernel_rfl, fun W hC => ?_⟩; (try dsimp only at hC); go_simp; (try simp only [hne]); rfl)
          case hC => exact HC
          case ha => (simp only [Act.put, List.setIfInBounds_toArray, List.set_cons_zero, List.set_cons_succ]; rfl)
          apply WZ.take (i := 6) (some 22) rfl rfl (by kernel_rfl) (by kernel_rfl) (by kernel_rfl) (calm_panic _) (by kernel_rfl)
          case hy => (refine .inl ⟨by kernel_rfl, fun W hC => ?_⟩; (try dsimp only at hC); go_simp; (try simp only [hne]); rfl)
          case hC => exact HC
          case ha => (simp only [Act.put, List.setIfInBounds_toArray, List.set_cons_zero, List.set_cons_succ]; rfl)
          apply WZ.take (i := 7) (some 23) rfl rfl (by kernel_rfl) (by kernel_rfl) (by kernel_rfl) (calm_panic _) (by kernel_rfl)
          case hy => first | (apply yieldsIf_load_mid (by kernel_rfl) _ _ rfl _ _ rfl; (case hS => (intro W hC; exact (show World.rangeAt _ _ _ (Cl.vals _) from hC.1))); (case hu => exact Try.underlying75); (case hd => rfl); (case hi => kernel_rfl)) | (apply yieldsIf_load_mid (by kernel_rfl) _ _ rfl _ _ rfl; (case hS => (intro W hC; exact (show World.rangeAt _ _ _ (Cl.vals _) from hC.2.1))); (case hu => exact Try.underlying75); (case hd => rfl); (case hi => kernel_rfl)) | (apply yieldsIf_load_mid (by kernel_rfl) _ _ rfl _ _ rfl; (case hS => (intro W hC; exact (show World.rangeAt _ _ _ (Cl.vals _) from hC.2.2.1))); (case hu => exact Try.underlying75); (case hd => rfl); (case hi => kernel_rfl)) | (apply yieldsIf_load_mid (by kernel_rfl) _ _ rfl _ _ rfl; (case hS => (intro W hC; exact (show World.rangeAt _ _ _ (Cl.vals _) from hC.2.2.2.1))); (case hu => exact Try.underlying75); (case hd => rfl); (case hi => kernel_rfl)) | (apply yieldsIf_load_mid (by kernel_rfl) _ _ rfl _ _ rfl; (case hS => (intro W hC; exact (show World.rangeAt _ _ _ (Cl.vals _) from hC.2.2.2))); (case hu => exact Try.underlying75); (case hd => rfl); (case hi => kernel_rfl)) | (apply yieldsIf_load_mid (by kernel_rfl) _ _ rfl _ _ rfl; (case hS => (intro W hC; exact (show World.rangeAt _ _ _ (Cl.vals _) from hC.2.2))); (case hu => exact Try.underlying75); (case hd => rfl); (case hi => kernel_rfl)) | (apply yieldsIf_load_mid (by kernel_rfl) _ _ rfl _ _ rfl; (case hS => (intro W hC; exact (show World.rangeAt _ _ _ (Cl.vals _) from hC.2))); (case hu => exact Try.underlying75); (case hd => rfl); (case hi => kernel_rfl)) | (apply yieldsIf_load_mid (by kernel_rfl) _ _ rfl _ _ rfl; (case hS => (intro W hC; exact (show World.rangeAt _ _ _ (Cl.vals _) from hC))); (case hu => exact Try.underlying75); (case hd => rfl); (case hi => kernel_rfl))
          case hC => exact HC
          case ha => (simp only [Act.put, List.setIfInBounds_toArray, List.set_cons_zero, List.set_cons_succ]; rfl)
          apply WZ.take (i := 8) (some 24) rfl rfl (by kernel_rfl) (by kernel_rfl) (by kernel_rfl) (calm_panic _) (by kernel_rfl)
          case hy => (refine .inl ⟨by kernel_rfl, fun W hC => ?_⟩; (try dsimp only at hC); go_simp; (try simp only [hne]); rfl)
          case hC => exact HC
          case ha => (simp only [Act.put, List.setIfInBounds_toArray, List.set_cons_zero, List.set_cons_succ]; rfl)
          refine WZ.done (by kernel_rfl) ?_ _
          simp only [Calm, Exit.then]
          go_wp2
          go_ret
          exact ⟨ret_bool HE2.out, HC.2.2⟩
      · have HE := Lib.hid (sameT_end HS.out (by rw [HNN.out, HMM.out]) (by rw [HNN.out]; omega))
        have e1 : decide ((k : Int) < (N : Int)) = false := decide_eq_false (by omega)
        go_wp2
        go_ret
        exact ⟨ret_bool HE.out, HB.out⟩
  · skip
    have hb : ((l.length : Int) != (m.length : Int)) = true := by simp; omega
    have HN := Lib.hid hn
    clear hn
    go_enter Try.func53, Try.ntmps53
    go_wp2
    go_ret
    exact ⟨ret_bool (sameT_len HN.out), Below.refl _ _⟩
set_option maxHeartbeats 2000000 in
theorem equalNums_any (A B : Option Addr) (c d : Nat) (l m : List Nat) (w : World) (hl : Rd w w.heap.size A (u32s l)) (hm : Rd w w.heap.size B (u32s m)) (hlen : l.length ≤ maxLen) :
    Calls Try.prog 54 #[.slice A l.length c, .slice B m.length d] w fun e w' => e = .returned (.bool (decide (l = m))) ∧ Below w.heap.size w w' := by
  unfold maxLen at hlen
  by_cases hn : l.length = m.length
  · skip
    have HN := Lib.hid hn
    obtain ⟨N, hN⟩ : ∃ N, l.length = N := ⟨_, rfl⟩
    have hM : m.length = N := by omega
    have HNN := Lib.hid hN
    have HMM := Lib.hid hM
    rw [hN] at hlen ⊢
    rw [hM]
    have hb : ((N : Int) != (N : Int)) = false := bne_self_eq_false _
    have HL := Lib.hid hl
    have HM := Lib.hid hm
    clear hn hN hM hl hm
    go_enter Try.func54, Try.ntmps54
    go_wp2
    go_loopw [13] (fun i wr => ∃ k : Nat, k ≤ N ∧ i = .int .i64 k ∧ Hid (sameT l m k) ∧ Hid (Below w.heap.size w wr)) (fun i _ => N - (intOf i).toNat)
    case atStart => exact ⟨0, Nat.zero_le _, rfl, Lib.hid rfl, Lib.hid (Below.refl _ _)⟩
    case round =>
      obtain ⟨k, hk, rfl, HS, HB⟩ := hrel
      rename World => wr
      by_cases hlt : k < N
      · have hlt0 : k < l.length := by have := HNN.out; omega
        have hlt' : k < m.length := by have := HMM.out; omega
        have e1 : decide ((k : Int) < (N : Int)) = true := decide_eq_true (by omega)
        have k1 : (0 : Int) ≤ (k : Int) := by omega
        have k2 : (k : Int) < (N : Int) := by omega
        have hw3 : IntKind.i64.wrap ((k : Int) + 1) = ((k + 1 : Nat) : Int) := by rw [IntWalk.i64_in _ (by omega)]; omega
        obtain ⟨b, o, rfl, hb1, hc⟩ := (HL.out.below HB.out).at_ (u32s_ne hlt0)
        obtain ⟨b', o', rfl, hb', hc'⟩ := (HM.out.below HB.out).at_ (u32s_ne hlt')
        have HE : Hid (l[k] = m[k] → sameT l m (k + 1)) := Lib.hid fun h => sameT_succ HS.out hlt0 hlt' h
        have HF : Hid (l[k] ≠ m[k] → false = decide (l = m)) := Lib.hid fun h => sameT_not hlt0 hlt' h
        obtain ⟨x, hx⟩ : ∃ x, l[k] = x := ⟨_, rfl⟩
        obtain ⟨y, hy⟩ : ∃ y, m[k] = y := ⟨_, rfl⟩
        have HC : (fun W => W.cell? ⟨b, o + k, none⟩ = some (.int .u32 (x : Int)) ∧ W.cell? ⟨b', o' + k, none⟩ = some (.int .u32 (y : Int)) ∧ Below w.heap.size w W) wr.drew := ⟨by rw [← hx]; exact Rd.u32_at hc k hlt0, by rw [← hy]; exact Rd.u32_at hc' k hlt', HB.out.drew⟩
        rw [hx, hy] at HE HF
        clear hx hy hc hc'
        have hne := neqN x y
        by_cases heq : x = y
        · have HE2 := Lib.hid (HE.out heq)
          have ht : decide (x = y) = true := by simp [heq]
          simp only [ht] at hne
          clear heq
          go_wp2
          refine region_wz ((fun W => W.cell? ⟨b, o + k, none⟩ = some (.int .u32 (x : Int)) ∧ W.cell? ⟨b', o' + k, none⟩ = some (.int .u32 (y : Int)) ∧ Below w.heap.size w W)) none (by kernel_rfl) ?_
          apply WZ.take (i := 0) (some 16) rfl rfl (by kernel_rfl) (by kernel_rfl) (by kernel_rfl) (calm_panic _) (by kernel_rfl)
          case hy => (refine .inl ⟨by kernel_rfl, fun W hC => ?_⟩; (try dsimp only at hC); go_simp; (try simp only [hne]); rfl)
          case hC => exact HC
          case ha => (simp only [Act.put, List.setIfInBounds_toArray, List.set_cons_zero, List.set_cons_succ]; rfl)
          apply WZ.take (i := 1) (some 17) rfl rfl (by kernel_rfl) (by kernel_rfl) (by kernel_rfl) (calm_panic _) (by kernel_rfl)
          case hy => (refine .inl ⟨by kernel_rfl, fun W hC => ?_⟩; (try dsimp only at hC); go_simp; (try simp only [hne]); rfl)
          case hC => exact HC
          case ha => (simp only [Act.put, List.setIfInBounds_toArray, List.set_cons_zero, List.set_cons_succ]; rfl)
          apply WZ.take (i := 2) (some 18) rfl rfl (by kernel_rfl) (by kernel_rfl) (by kernel_rfl) (calm_panic _) (by kernel_rfl)
          case hy => (refine .inl ⟨by kernel_rfl, fun W hC => ?_⟩; (try dsimp only at hC); go_simp; (try simp only [hne]); rfl)
          case hC => exact HC
          case ha => (simp only [Act.put, List.setIfInBounds_toArray, List.set_cons_zero, List.set_cons_succ]; rfl)
          apply WZ.take (i := 3) (some 19) rfl rfl (by kernel_rfl) (by kernel_rfl) (by kernel_rfl) (calm_panic _) (by kernel_rfl)
          case hy => (refine .inl ⟨by kernel_rfl, fun W hC => ?_⟩; (try dsimp only at hC); go_simp; (try simp only [hne]); rfl)
          case hC => exact HC
          case ha => (simp only [Act.put, List.setIfInBounds_toArray, List.set_cons_zero, List.set_cons_succ]; rfl)
          apply WZ.take (i := 4) (some 20) rfl rfl (by kernel_rfl) (by kernel_rfl) (by kernel_rfl) (calm_panic _) (by kernel_rfl)
          case hy => (refine .inl ⟨by kernel_rfl, fun W hC => ?_⟩; (try dsimp only at hC); go_simp; (try simp only [hne]); rfl)
          case hC => exact HC
          case ha => (simp only [Act.put, List.setIfInBounds_toArray, List.set_cons_zero, List.set_cons_succ]; rfl)
          apply WZ.take (i := 5) (some 21) rfl rfl (by kernel_rfl) (by kernel_rfl) (by kernel_rfl) (calm_panic _) (by kernel_rfl)
          case hy => (refine .inl ⟨by kernel_rfl, fun W hC => ?_⟩; (try dsimp only at hC); go_simp; (try simp only [hne]); rfl)
          case hC => exact HC
          case ha => (simp only [Act.put, List.setIfInBounds_toArray, List.set_cons_zero, List.set_cons_succ]; rfl)
          apply WZ.take (i := 6) (some 22) rfl rfl (by kernel_rfl) (by kernel_rfl) (by kernel_rfl) (calm_panic _) (by kernel_rfl)
          case hy => (refine .inl ⟨by kernel_rfl, fun W hC => ?_⟩; (try dsimp only at hC); go_simp; (try simp only [hne]); rfl)
          case hC => exact HC
          case ha => (simp only [Act.put, List.setIfInBounds_toArray, List.set_cons_zero, List.set_cons_succ]; rfl)
          apply WZ.take (i := 7) (some 23) rfl rfl (by kernel_rfl) (by kernel_rfl) (by kernel_rfl) (calm_panic _) (by kernel_rfl)
          case hy => (refine .inl ⟨by kernel_rfl, fun W hC => ?_⟩; (try dsimp only at hC); go_simp; (try simp only [hne]); rfl)
          case hC => exact HC
          case ha => (simp only [Act.put, List.setIfInBounds_toArray, List.set_cons_zero, List.set_cons_succ]; rfl)
          apply WZ.take (i := 8) (some 24) rfl rfl (by kernel_rfl) (by kernel_rfl) (by kernel_rfl) (calm_panic _) (by kernel_rfl)
          case hy => (refine .inl ⟨by kernel_rfl, fun W hC => ?_⟩; (try dsimp only at hC); go_simp; (try simp only [hne]); rfl)
          case hC => exact HC
          case ha => (simp only [Act.put, List.setIfInBounds_toArray, List.set_cons_zero, List.set_cons_succ]; rfl)
          refine WZ.done (by kernel_rfl) ?_ _
          simp only [Calm, Exit.then]
          go_wp2
          exact ⟨⟨k + 1, by omega, by first | rfl | go_num, HE2, Lib.hid HC.2.2⟩, by simp [intOf]; omega⟩
        · have HE2 := Lib.hid (HF.out heq)
          have ht : decide (x = y) = false := by simp [heq]
          simp only [ht] at hne
          clear heq
          go_wp2
          refine region_wz ((fun W => W.cell? ⟨b, o + k, none⟩ = some (.int .u32 (x : Int)) ∧ W.cell? ⟨b', o' + k, none⟩ = some (.int .u32 (y : Int)) ∧ Below w.heap.size w W)) none (by kernel_rfl) ?_
          apply WZ.take (i := 0) (some 16) rfl rfl (by kernel_rfl) (by kernel_rfl) (by kernel_rfl) (calm_panic _) (by kernel_rfl)
          case hy => (refine .inl ⟨by kernel_rfl, fun W hC => ?_⟩; (try dsimp only at hC); go_simp; (try simp only [hne]); rfl)
          case hC => exact HC
          case ha => (simp only [Act.put, List.setIfInBounds_toArray, List.set_cons_zero, List.set_cons_succ]; rfl)
          apply WZ.take (i := 1) (some 17) rfl rfl (by kernel_rfl) (by kernel_rfl) (by kernel_rfl) (calm_panic _) (by kernel_rfl)
          case hy => (refine .inl ⟨by kernel_rfl, fun W hC => ?_⟩; (try dsimp only at hC); go_simp; (try simp only [hne]); rfl)
          case hC => exact HC
          case ha => (simp only [Act.put, List.setIfInBounds_toArray, List.set_cons_zero, List.set_cons_succ]; rfl)
          apply WZ.take (i := 2) (some 18) rfl rfl (by kernel_rfl) (by kernel_rfl) (by kernel_rfl) (calm_panic _) (by kernel_rfl)
          case hy => (refine .inl ⟨by kernel_rfl, fun W hC => ?_⟩; (try dsimp only at hC); go_simp; (try simp only [hne]); rfl)
          case hC => exact HC
          case ha => (simp only [Act.put, List.setIfInBounds_toArray, List.set_cons_zero, List.set_cons_succ]; rfl)
          apply WZ.take (i := 3) (some 19) rfl rfl (by kernel_rfl) (by kernel_rfl) (by kernel_rfl) (calm_panic _) (by kernel_rfl)
          case hy => (refine .inl ⟨by kernel_rfl, fun W hC => ?_⟩; (try dsimp only at hC); go_simp; (try simp only [hne]); rfl)
          case hC => exact HC
          case ha => (simp only [Act.put, List.setIfInBounds_toArray, List.set_cons_zero, List.set_cons_succ]; rfl)
          apply WZ.take (i := 4) (some 20) rfl rfl (by kernel_rfl) (by kernel_rfl) (by kernel_rfl) (calm_panic _) (by kernel_rfl)
          case hy => (refine .inl ⟨by kernel_rfl, fun W hC => ?_⟩; (try dsimp only at hC); go_simp; (try simp only [hne]); rfl)
          case hC => exact HC
          case ha => (simp only [Act.put, List.setIfInBounds_toArray, List.set_cons_zero, List.set_cons_succ]; rfl)
          apply WZ.take (i := 5) (some 21) rfl rfl (by kernel_rfl) (by kernel_rfl) (by kernel_rfl) (calm_panic _) (by kernel_rfl)
          case hy => (refine .inl ⟨by kernel_rfl, fun W hC => ?_⟩; (try dsimp only at hC); go_simp; (try simp only [hne]); rfl)
          case hC => exact HC
          case ha => (simp only [Act.put, List.setIfInBounds_toArray, List.set_cons_zero, List.set_cons_succ]; rfl)
          apply WZ.take (i := 6) (some 22) rfl rfl (by kernel_rfl) (by kernel_rfl) (by kernel_rfl) (calm_panic _) (by kernel_rfl)
          case hy => (refine .inl ⟨by kernel_rfl, fun W hC => ?_⟩; (try dsimp only at hC); go_simp; (try simp only [hne]); rfl)
          case hC => exact HC
          case ha => (simp only [Act.put, List.setIfInBounds_toArray, List.set_cons_zero, List.set_cons_succ]; rfl)
          apply WZ.take (i := 7) (some 23) rfl rfl (by kernel_rfl) (by kernel_rfl) (by kernel_rfl) (calm_panic _) (by kernel_rfl)
          case hy => (refine .inl ⟨by kernel_rfl, fun W hC => ?_⟩; (try dsimp only at hC); go_simp; (try simp only [hne]); rfl)
          case hC => exact HC
          case ha => (simp only [Act.put, List.setIfInBounds_toArray, List.set_cons_zero, List.set_cons_succ]; rfl)
          apply WZ.take (i := 8) (some 24) rfl rfl (by kernel_rfl) (by kernel_rfl) (by kernel_rfl) (calm_panic _) (by kernel_rfl)
          case hy => (refine .inl ⟨by kernel_rfl, fun W hC => ?_⟩; (try dsimp only at hC); go_simp; (try simp only [hne]); rfl)
          case hC => exact HC
          case ha => (simp only [Act.put, List.setIfInBounds_toArray, List.set_cons_zero, List.set_cons_succ]; rfl)
          refine WZ.done (by kernel_rfl) ?_ _
          simp only [Calm, Exit.then]
          go_wp2
          go_ret
          exact ⟨ret_bool HE2.out, HC.2.2⟩
      · have HE := Lib.hid (sameT_end HS.out (by rw [HNN.out, HMM.out]) (by rw [HNN.out]; omega))
        have e1 : decide ((k : Int) < (N : Int)) = false := decide_eq_false (by omega)
        go_wp2
        go_ret
        exact ⟨ret_bool HE.out, HB.out⟩
  · skip
    have hb : ((l.length : Int) != (m.length : Int)) = true := by simp; omega
    have HN := Lib.hid hn
    clear hn
    go_enter Try.func54, Try.ntmps54
    go_wp2
    go_ret
    exact ⟨ret_bool (sameT_len HN.out), Below.refl _ _⟩
end Go.Proofs.Ytiiogdgnccgehaa
namespace Go.Proofs.Ytiiogdgnccgehaa
open Go.RowKit
attribute [local go_sem ↓] Go.wp_at_zero Go.wp_at_succ

/-- a block of cells -/
def Blk (T : TypeId) (w : World) (g : Nat) (cs : List Value) : Prop := w.heap[g]? = some (.cells cs.toArray T (0, 0))
section
variable {T : TypeId} {w w' : World} {g : Nat} {cs : List Value}
theorem Blk.lt (h : Blk T w g cs) : g < w.heap.size := (Array.getElem?_eq_some_iff.1 h).1
theorem Blk.new (T : TypeId) (w : World) (cs : List Value) : Blk T (w.alloc (.cells cs.toArray T)) w.heap.size cs := heap_alloc_new w _
theorem Blk.keep (h : Blk T w g cs) (hk : w'.heap[g]? = w.heap[g]?) : Blk T w' g cs := hk.trans h
theorem Blk.below {B : Nat} (h : Blk T w g cs) (hb : Below B w w') (hg : g < B) : Blk T w' g cs := h.keep (hb.block g hg)
theorem Blk.grown (h : Blk T w g cs) {row : Option Nat} (hg : w.grownBy w' row) (hne : row ≠ some g) : Blk T w' g cs := h.keep (hg.block _ h.lt (fun e => hne e.symm))
theorem Blk.cell (h : Blk T w g cs) {j : Nat} {v : Value} (hv : cs[j]? = some v) : w.cell? ⟨g, j, none⟩ = some v := by
  rw [cell_of_row w g j _ _ (0, 0) h, ← Array.getElem?_toList]
  exact hv
theorem Blk.range (h : Blk T w g cs) : w.rangeAt g 0 cs := fun j v hv => by
  rw [Nat.zero_add]
  exact h.cell hv
theorem Blk.free (h : Blk T w g cs) (j : Nat) : w.frozen? ⟨g, j, none⟩ = false := frozen_of_row _ _ _ _ _ h
theorem Blk.set (h : Blk T w g cs) (j : Nat) (v : Value) : Blk T (w.setCell ⟨g, j, none⟩ v) g (cs.set j v) := by
  unfold Blk at *
  rw [heap_setCell_same w g j _ _ _ h]
  congr 2
  apply Array.ext'
  simp
end
/-- the nine cells of a command -/
def Cmd.vs (c : Cmd) (A : Option Addr) (k : Nat) (D : Option Addr) (m : Nat) : List Value := [.int .i64 c.kind, .int .u64 c.client, .int .u64 c.num, .slice A c.cells.length k, .string c.row, .int .u64 c.job, .int .u32 c.sum, .int .u64 c.epoch, .slice D c.files.length m]
/-- a command's lists in memory -/
structure CmdIn (w : World) (B : Nat) (c : Cmd) (A : Option Addr) (k : Nat) (D : Option Addr) (m : Nat) : Prop where
  rc : Rd w B A (vals c.cells)
  rf : Rd w B D (u32s c.files)
  lc : c.cells.length ≤ k
  lf : c.files.length ≤ m
  lk : k ≤ maxLen
  lm : m ≤ maxLen
/-- what plain leaves of it -/
def Cmd.plain (c : Cmd) : Cmd :=
  if c.kind = 1 then ⟨1, c.client, c.num, c.cells, ⟨#[]⟩, 0, 0, 0, []⟩
  else if c.kind = 2 then ⟨2, 0, 0, [], c.row, 0, 0, 0, []⟩
  else if c.kind = 3 then ⟨3, 0, 0, [], ⟨#[]⟩, c.job, c.sum, c.epoch, c.files⟩
  else ⟨-1, 0, 0, [], ⟨#[]⟩, 0, 0, 0, []⟩
theorem zero_cell (T : TypeId) (w : World) (cs : Array Value) : (w.alloc (.cells cs T)).heap[w.heap.size]? = some (.cells cs T (0, 0)) := heap_alloc_new w _
set_option maxRecDepth 20000 in
set_option maxHeartbeats 2000000 in
theorem plain_1 (c : Cmd) (A : Option Addr) (k : Nat) (D : Option Addr) (m : Nat) (w : World) (HK : c.kind = 1) :
    Calls Try.prog 30 #[.agg (c.vs A k D m).toArray] w fun e w' => e = .returned (.agg (c.plain.vs A k none 0).toArray) ∧ Below w.heap.size w w' := by
  have hp : c.plain = ⟨1, c.client, c.num, c.cells, ⟨#[]⟩, 0, 0, 0, []⟩ := if_pos HK
  rw [hp]
  clear hp
  obtain ⟨kind, client, num, cells, row, job, sum, epoch, files⟩ := c
  simp only at HK
  subst HK
  unfold Cmd.vs
  go_enter Try.func30, Try.ntmps30
  go_wp2
  have hz := heap_alloc_new (w.alloc (.cells #[.int .i64 1, .int .u64 (client : Int), .int .u64 (num : Int), .slice A cells.length k, .string row, .int .u64 (job : Int), .int .u32 (sum : Int), .int .u64 (epoch : Int), .slice D files.length m] 27)) (.cells #[.int .i64 1, .int .u64 (client : Int), .int .u64 (num : Int), .slice A cells.length k, .string ⟨#[]⟩, .int .u64 0, .int .u32 0, .int .u64 0, .slice none 0 0] 27)
  rw [World.size_alloc] at hz
  refine bodyPost_ret (results_cell_row rfl _ _ (w.heap.size + 1) _ _ _ _ rfl hz Try.underlying27 rfl (by kernel_rfl)) rfl ?_
  exact ⟨rfl, below2 w _ _⟩
set_option maxRecDepth 20000 in
set_option maxHeartbeats 2000000 in
theorem plain_2 (c : Cmd) (A : Option Addr) (k : Nat) (D : Option Addr) (m : Nat) (w : World) (HK : c.kind = 2) :
    Calls Try.prog 30 #[.agg (c.vs A k D m).toArray] w fun e w' => e = .returned (.agg (c.plain.vs none 0 none 0).toArray) ∧ Below w.heap.size w w' := by
  have hp : c.plain = ⟨2, 0, 0, [], c.row, 0, 0, 0, []⟩ := by unfold Cmd.plain; rw [if_neg (by omega), if_pos HK]
  rw [hp]
  clear hp
  obtain ⟨kind, client, num, cells, row, job, sum, epoch, files⟩ := c
  simp only at HK
  subst HK
  unfold Cmd.vs
  go_enter Try.func30, Try.ntmps30
  go_wp2
  have hz := heap_alloc_new (w.alloc (.cells #[.int .i64 2, .int .u64 (client : Int), .int .u64 (num : Int), .slice A cells.length k, .string row, .int .u64 (job : Int), .int .u32 (sum : Int), .int .u64 (epoch : Int), .slice D files.length m] 27)) (.cells #[.int .i64 2, .int .u64 0, .int .u64 0, .slice none 0 0, .string row, .int .u64 0, .int .u32 0, .int .u64 0, .slice none 0 0] 27)
  rw [World.size_alloc] at hz
  refine bodyPost_ret (results_cell_row rfl _ _ (w.heap.size + 1) _ _ _ _ rfl hz Try.underlying27 rfl (by kernel_rfl)) rfl ?_
  exact ⟨rfl, below2 w _ _⟩
set_option maxRecDepth 20000 in
set_option maxHeartbeats 2000000 in
theorem plain_3 (c : Cmd) (A : Option Addr) (k : Nat) (D : Option Addr) (m : Nat) (w : World) (HK : c.kind = 3) :
    Calls Try.prog 30 #[.agg (c.vs A k D m).toArray] w fun e w' => e = .returned (.agg (c.plain.vs none 0 D m).toArray) ∧ Below w.heap.size w w' := by
  have hp : c.plain = ⟨3, 0, 0, [], ⟨#[]⟩, c.job, c.sum, c.epoch, c.files⟩ := by unfold Cmd.plain; rw [if_neg (by omega), if_neg (by omega), if_pos HK]
  rw [hp]
  clear hp
  obtain ⟨kind, client, num, cells, row, job, sum, epoch, files⟩ := c
  simp only at HK
  subst HK
  unfold Cmd.vs
  go_enter Try.func30, Try.ntmps30
  go_wp2
  have hz := heap_alloc_new (w.alloc (.cells #[.int .i64 3, .int .u64 (client : Int), .int .u64 (num : Int), .slice A cells.length k, .string row, .int .u64 (job : Int), .int .u32 (sum : Int), .int .u64 (epoch : Int), .slice D files.length m] 27)) (.cells #[.int .i64 3, .int .u64 0, .int .u64 0, .slice none 0 0, .string ⟨#[]⟩, .int .u64 (job : Int), .int .u32 (sum : Int), .int .u64 (epoch : Int), .slice D files.length m] 27)
  rw [World.size_alloc] at hz
  refine bodyPost_ret (results_cell_row rfl _ _ (w.heap.size + 1) _ _ _ _ rfl hz Try.underlying27 rfl (by kernel_rfl)) rfl ?_
  exact ⟨rfl, below2 w _ _⟩
/-- all fields are one -/
def sameC (c d : Cmd) : Bool := (c.kind == d.kind) && ((c.client : Int) == (d.client : Int)) && ((c.num : Int) == (d.num : Int)) && (decide (c.cells = d.cells)) && (c.row.toList == d.row.toList) && ((c.job : Int) == (d.job : Int)) && ((c.sum : Int) == (d.sum : Int)) && ((c.epoch : Int) == (d.epoch : Int)) && (decide (c.files = d.files))
theorem sameC_iff (c d : Cmd) : sameC c d = true ↔ c = d := by
  unfold sameC
  simp only [Bool.and_eq_true, beq_iff_eq, decide_eq_true_eq]
  obtain ⟨a1, a2, a3, a4, a5, a6, a7, a8, a9⟩ := c
  obtain ⟨b1, b2, b3, b4, b5, b6, b7, b8, b9⟩ := d
  simp only [Cmd.mk.injEq]
  constructor
  · rintro ⟨⟨⟨⟨⟨⟨⟨⟨h1, h2⟩, h3⟩, h4⟩, h5⟩, h6⟩, h7⟩, h8⟩, h9⟩
    exact ⟨h1, by omega, by omega, h4, toList_inj h5, by omega, by omega, by omega, h9⟩
  · rintro ⟨h1, h2, h3, h4, h5, h6, h7, h8, h9⟩
    subst h1 h2 h3 h4 h5 h6 h7 h8 h9
    simp
set_option maxRecDepth 20000 in
set_option maxHeartbeats 8000000 in
theorem same_any (c d : Cmd) (A : Option Addr) (k : Nat) (D : Option Addr) (m : Nat) (A' : Option Addr) (k' : Nat) (D' : Option Addr) (m' : Nat) (w : World) (hc : CmdIn w w.heap.size c A k D m) (hd : CmdIn w w.heap.size d A' k' D' m') :
    Calls Try.prog 29 #[.agg (c.vs A k D m).toArray, .agg (d.vs A' k' D' m').toArray] w fun e w' => e = .returned (.bool (sameC c d)) ∧ Below w.heap.size w w' := by
  have HEC := Lib.hid (fun (W : World) (h : Below w.heap.size w W) => equalCells_any A A' k k' c.cells d.cells W ((hc.rc.below h).more h.size) ((hd.rc.below h).more h.size) (Nat.le_trans hc.lc hc.lk))
  have HEF := Lib.hid (fun (W : World) (h : Below w.heap.size w W) => equalNums_any D D' m m' c.files d.files W ((hc.rf.below h).more h.size) ((hd.rf.below h).more h.size) (Nat.le_trans hc.lf hc.lm))
  clear hc hd
  have HN1 := Lib.hid (Blk.new 27 w (c.vs A k D m))
  have HN2 := Lib.hid (Blk.new 27 (w.alloc (.cells (c.vs A k D m).toArray 27)) (d.vs A' k' D' m'))
  have HX1 : ∀ W, Hid (Below (w.heap.size + 1 + 1) ((w.alloc (.cells (c.vs A k D m).toArray 27)).alloc (.cells (d.vs A' k' D' m').toArray 27)) W) → Hid (Blk 27 W w.heap.size (c.vs A k D m) ∧ Blk 27 W (w.heap.size + 1) (d.vs A' k' D' m')) := fun W h => by
    refine Lib.hid ⟨?_, ?_⟩
    · exact (HN1.out.keep (Below.heap_alloc _ _ _ (by rw [World.size_alloc]; omega))).below h.out (by omega)
    · have := HN2.out
      rw [World.size_alloc] at this
      exact this.below h.out (by omega)
  unfold Cmd.vs at HX1 ⊢
  clear HN1 HN2
  cases k1 : (c.kind == d.kind) with
  | false =>
    go_enter Try.func29, Try.ntmps29
    go_wp2_with (first
      | (go_at_call 54; refine (HEF.out _ HB1.out).mono ?_; rintro e w2 ⟨rfl, hb2⟩; have HB2 := Lib.hid (HB1.out.trans (hb2.mono HB1.out.size)))
      | (go_at_call 53; refine (HEC.out _ (below2 w _ _)).mono ?_; rintro e w1 ⟨rfl, hb1⟩; have HB1 := Lib.hid ((below2 w _ _).trans (hb1.mono (below2 w _ _).size)); have HX := HX1 w1 (Lib.hid (by rw [World.size_alloc, World.size_alloc] at hb1; exact hb1)); have q4 := HX.out.1.cell (j := 4) rfl; have q5 := HX.out.1.cell (j := 5) rfl; have q6 := HX.out.1.cell (j := 6) rfl; have q7 := HX.out.1.cell (j := 7) rfl; have q8 := HX.out.1.cell (j := 8) rfl; have r4 := HX.out.2.cell (j := 4) rfl; have r5 := HX.out.2.cell (j := 5) rfl; have r6 := HX.out.2.cell (j := 6) rfl; have r7 := HX.out.2.cell (j := 7) rfl; have r8 := HX.out.2.cell (j := 8) rfl; clear hb1))
    go_ret
    exact ⟨ret_bool (by unfold sameC; rw [k1]; rfl), below2 w _ _⟩
  | true =>
    cases k2 : ((c.client : Int) == (d.client : Int)) with
    | false =>
      go_enter Try.func29, Try.ntmps29
      go_wp2_with (first
        | (go_at_call 54; refine (HEF.out _ HB1.out).mono ?_; rintro e w2 ⟨rfl, hb2⟩; have HB2 := Lib.hid (HB1.out.trans (hb2.mono HB1.out.size)))
        | (go_at_call 53; refine (HEC.out _ (below2 w _ _)).mono ?_; rintro e w1 ⟨rfl, hb1⟩; have HB1 := Lib.hid ((below2 w _ _).trans (hb1.mono (below2 w _ _).size)); have HX := HX1 w1 (Lib.hid (by rw [World.size_alloc, World.size_alloc] at hb1; exact hb1)); have q4 := HX.out.1.cell (j := 4) rfl; have q5 := HX.out.1.cell (j := 5) rfl; have q6 := HX.out.1.cell (j := 6) rfl; have q7 := HX.out.1.cell (j := 7) rfl; have q8 := HX.out.1.cell (j := 8) rfl; have r4 := HX.out.2.cell (j := 4) rfl; have r5 := HX.out.2.cell (j := 5) rfl; have r6 := HX.out.2.cell (j := 6) rfl; have r7 := HX.out.2.cell (j := 7) rfl; have r8 := HX.out.2.cell (j := 8) rfl; clear hb1))
      go_ret
      exact ⟨ret_bool (by unfold sameC; rw [k1, k2]; rfl), below2 w _ _⟩
    | true =>
      cases k3 : ((c.num : Int) == (d.num : Int)) with
      | false =>
        go_enter Try.func29, Try.ntmps29
        go_wp2_with (first
          | (go_at_call 54; refine (HEF.out _ HB1.out).mono ?_; rintro e w2 ⟨rfl, hb2⟩; have HB2 := Lib.hid (HB1.out.trans (hb2.mono HB1.out.size)))
          | (go_at_call 53; refine (HEC.out _ (below2 w _ _)).mono ?_; rintro e w1 ⟨rfl, hb1⟩; have HB1 := Lib.hid ((below2 w _ _).trans (hb1.mono (below2 w _ _).size)); have HX := HX1 w1 (Lib.hid (by rw [World.size_alloc, World.size_alloc] at hb1; exact hb1)); have q4 := HX.out.1.cell (j := 4) rfl; have q5 := HX.out.1.cell (j := 5) rfl; have q6 := HX.out.1.cell (j := 6) rfl; have q7 := HX.out.1.cell (j := 7) rfl; have q8 := HX.out.1.cell (j := 8) rfl; have r4 := HX.out.2.cell (j := 4) rfl; have r5 := HX.out.2.cell (j := 5) rfl; have r6 := HX.out.2.cell (j := 6) rfl; have r7 := HX.out.2.cell (j := 7) rfl; have r8 := HX.out.2.cell (j := 8) rfl; clear hb1))
        go_ret
        exact ⟨ret_bool (by unfold sameC; rw [k1, k2, k3]; rfl), below2 w _ _⟩
      | true =>
        cases k4 : (decide (c.cells = d.cells)) with
        | false =>
          rw [k4] at HEC
          go_enter Try.func29, Try.ntmps29
          go_wp2_with (first
            | (go_at_call 54; refine (HEF.out _ HB1.out).mono ?_; rintro e w2 ⟨rfl, hb2⟩; have HB2 := Lib.hid (HB1.out.trans (hb2.mono HB1.out.size)))
            | (go_at_call 53; refine (HEC.out _ (below2 w _ _)).mono ?_; rintro e w1 ⟨rfl, hb1⟩; have HB1 := Lib.hid ((below2 w _ _).trans (hb1.mono (below2 w _ _).size)); have HX := HX1 w1 (Lib.hid (by rw [World.size_alloc, World.size_alloc] at hb1; exact hb1)); have q4 := HX.out.1.cell (j := 4) rfl; have q5 := HX.out.1.cell (j := 5) rfl; have q6 := HX.out.1.cell (j := 6) rfl; have q7 := HX.out.1.cell (j := 7) rfl; have q8 := HX.out.1.cell (j := 8) rfl; have r4 := HX.out.2.cell (j := 4) rfl; have r5 := HX.out.2.cell (j := 5) rfl; have r6 := HX.out.2.cell (j := 6) rfl; have r7 := HX.out.2.cell (j := 7) rfl; have r8 := HX.out.2.cell (j := 8) rfl; clear hb1))
          go_ret
          exact ⟨ret_bool (by unfold sameC; rw [k1, k2, k3, k4]; rfl), HB1.out⟩
        | true =>
          rw [k4] at HEC
          cases k5 : (c.row.toList == d.row.toList) with
          | false =>
            go_enter Try.func29, Try.ntmps29
            go_wp2_with (first
              | (go_at_call 54; refine (HEF.out _ HB1.out).mono ?_; rintro e w2 ⟨rfl, hb2⟩; have HB2 := Lib.hid (HB1.out.trans (hb2.mono HB1.out.size)))
              | (go_at_call 53; refine (HEC.out _ (below2 w _ _)).mono ?_; rintro e w1 ⟨rfl, hb1⟩; have HB1 := Lib.hid ((below2 w _ _).trans (hb1.mono (below2 w _ _).size)); have HX := HX1 w1 (Lib.hid (by rw [World.size_alloc, World.size_alloc] at hb1; exact hb1)); have q4 := HX.out.1.cell (j := 4) rfl; have q5 := HX.out.1.cell (j := 5) rfl; have q6 := HX.out.1.cell (j := 6) rfl; have q7 := HX.out.1.cell (j := 7) rfl; have q8 := HX.out.1.cell (j := 8) rfl; have r4 := HX.out.2.cell (j := 4) rfl; have r5 := HX.out.2.cell (j := 5) rfl; have r6 := HX.out.2.cell (j := 6) rfl; have r7 := HX.out.2.cell (j := 7) rfl; have r8 := HX.out.2.cell (j := 8) rfl; clear hb1))
            go_ret
            exact ⟨ret_bool (by unfold sameC; rw [k1, k2, k3, k4, k5]; rfl), HB1.out⟩
          | true =>
            cases k6 : ((c.job : Int) == (d.job : Int)) with
            | false =>
              go_enter Try.func29, Try.ntmps29
              go_wp2_with (first
                | (go_at_call 54; refine (HEF.out _ HB1.out).mono ?_; rintro e w2 ⟨rfl, hb2⟩; have HB2 := Lib.hid (HB1.out.trans (hb2.mono HB1.out.size)))
                | (go_at_call 53; refine (HEC.out _ (below2 w _ _)).mono ?_; rintro e w1 ⟨rfl, hb1⟩; have HB1 := Lib.hid ((below2 w _ _).trans (hb1.mono (below2 w _ _).size)); have HX := HX1 w1 (Lib.hid (by rw [World.size_alloc, World.size_alloc] at hb1; exact hb1)); have q4 := HX.out.1.cell (j := 4) rfl; have q5 := HX.out.1.cell (j := 5) rfl; have q6 := HX.out.1.cell (j := 6) rfl; have q7 := HX.out.1.cell (j := 7) rfl; have q8 := HX.out.1.cell (j := 8) rfl; have r4 := HX.out.2.cell (j := 4) rfl; have r5 := HX.out.2.cell (j := 5) rfl; have r6 := HX.out.2.cell (j := 6) rfl; have r7 := HX.out.2.cell (j := 7) rfl; have r8 := HX.out.2.cell (j := 8) rfl; clear hb1))
              go_ret
              exact ⟨ret_bool (by unfold sameC; rw [k1, k2, k3, k4, k5, k6]; rfl), HB1.out⟩
            | true =>
              cases k7 : ((c.sum : Int) == (d.sum : Int)) with
              | false =>
                go_enter Try.func29, Try.ntmps29
                go_wp2_with (first
                  | (go_at_call 54; refine (HEF.out _ HB1.out).mono ?_; rintro e w2 ⟨rfl, hb2⟩; have HB2 := Lib.hid (HB1.out.trans (hb2.mono HB1.out.size)))
                  | (go_at_call 53; refine (HEC.out _ (below2 w _ _)).mono ?_; rintro e w1 ⟨rfl, hb1⟩; have HB1 := Lib.hid ((below2 w _ _).trans (hb1.mono (below2 w _ _).size)); have HX := HX1 w1 (Lib.hid (by rw [World.size_alloc, World.size_alloc] at hb1; exact hb1)); have q4 := HX.out.1.cell (j := 4) rfl; have q5 := HX.out.1.cell (j := 5) rfl; have q6 := HX.out.1.cell (j := 6) rfl; have q7 := HX.out.1.cell (j := 7) rfl; have q8 := HX.out.1.cell (j := 8) rfl; have r4 := HX.out.2.cell (j := 4) rfl; have r5 := HX.out.2.cell (j := 5) rfl; have r6 := HX.out.2.cell (j := 6) rfl; have r7 := HX.out.2.cell (j := 7) rfl; have r8 := HX.out.2.cell (j := 8) rfl; clear hb1))
                go_ret
                exact ⟨ret_bool (by unfold sameC; rw [k1, k2, k3, k4, k5, k6, k7]; rfl), HB1.out⟩
              | true =>
                cases k8 : ((c.epoch : Int) == (d.epoch : Int)) with
                | false =>
                  go_enter Try.func29, Try.ntmps29
                  go_wp2_with (first
                    | (go_at_call 54; refine (HEF.out _ HB1.out).mono ?_; rintro e w2 ⟨rfl, hb2⟩; have HB2 := Lib.hid (HB1.out.trans (hb2.mono HB1.out.size)))
                    | (go_at_call 53; refine (HEC.out _ (below2 w _ _)).mono ?_; rintro e w1 ⟨rfl, hb1⟩; have HB1 := Lib.hid ((below2 w _ _).trans (hb1.mono (below2 w _ _).size)); have HX := HX1 w1 (Lib.hid (by rw [World.size_alloc, World.size_alloc] at hb1; exact hb1)); have q4 := HX.out.1.cell (j := 4) rfl; have q5 := HX.out.1.cell (j := 5) rfl; have q6 := HX.out.1.cell (j := 6) rfl; have q7 := HX.out.1.cell (j := 7) rfl; have q8 := HX.out.1.cell (j := 8) rfl; have r4 := HX.out.2.cell (j := 4) rfl; have r5 := HX.out.2.cell (j := 5) rfl; have r6 := HX.out.2.cell (j := 6) rfl; have r7 := HX.out.2.cell (j := 7) rfl; have r8 := HX.out.2.cell (j := 8) rfl; clear hb1))
                  go_ret
                  exact ⟨ret_bool (by unfold sameC; rw [k1, k2, k3, k4, k5, k6, k7, k8]; rfl), HB1.out⟩
                | true =>
                  cases k9 : (decide (c.files = d.files)) with
                  | false =>
                    rw [k9] at HEF
                    go_enter Try.func29, Try.ntmps29
                    go_wp2_with (first
                      | (go_at_call 54; refine (HEF.out _ HB1.out).mono ?_; rintro e w2 ⟨rfl, hb2⟩; have HB2 := Lib.hid (HB1.out.trans (hb2.mono HB1.out.size)))
                      | (go_at_call 53; refine (HEC.out _ (below2 w _ _)).mono ?_; rintro e w1 ⟨rfl, hb1⟩; have HB1 := Lib.hid ((below2 w _ _).trans (hb1.mono (below2 w _ _).size)); have HX := HX1 w1 (Lib.hid (by rw [World.size_alloc, World.size_alloc] at hb1; exact hb1)); have q4 := HX.out.1.cell (j := 4) rfl; have q5 := HX.out.1.cell (j := 5) rfl; have q6 := HX.out.1.cell (j := 6) rfl; have q7 := HX.out.1.cell (j := 7) rfl; have q8 := HX.out.1.cell (j := 8) rfl; have r4 := HX.out.2.cell (j := 4) rfl; have r5 := HX.out.2.cell (j := 5) rfl; have r6 := HX.out.2.cell (j := 6) rfl; have r7 := HX.out.2.cell (j := 7) rfl; have r8 := HX.out.2.cell (j := 8) rfl; clear hb1))
                    go_ret
                    exact ⟨ret_bool (by unfold sameC; rw [k1, k2, k3, k4, k5, k6, k7, k8, k9]; rfl), HB2.out⟩
                  | true =>
                    rw [k9] at HEF
                    go_enter Try.func29, Try.ntmps29
                    go_wp2_with (first
                      | (go_at_call 54; refine (HEF.out _ HB1.out).mono ?_; rintro e w2 ⟨rfl, hb2⟩; have HB2 := Lib.hid (HB1.out.trans (hb2.mono HB1.out.size)))
                      | (go_at_call 53; refine (HEC.out _ (below2 w _ _)).mono ?_; rintro e w1 ⟨rfl, hb1⟩; have HB1 := Lib.hid ((below2 w _ _).trans (hb1.mono (below2 w _ _).size)); have HX := HX1 w1 (Lib.hid (by rw [World.size_alloc, World.size_alloc] at hb1; exact hb1)); have q4 := HX.out.1.cell (j := 4) rfl; have q5 := HX.out.1.cell (j := 5) rfl; have q6 := HX.out.1.cell (j := 6) rfl; have q7 := HX.out.1.cell (j := 7) rfl; have q8 := HX.out.1.cell (j := 8) rfl; have r4 := HX.out.2.cell (j := 4) rfl; have r5 := HX.out.2.cell (j := 5) rfl; have r6 := HX.out.2.cell (j := 6) rfl; have r7 := HX.out.2.cell (j := 7) rfl; have r8 := HX.out.2.cell (j := 8) rfl; clear hb1))
                    go_ret
                    exact ⟨ret_bool (by unfold sameC; rw [k1, k2, k3, k4, k5, k6, k7, k8, k9]; rfl), HB2.out⟩
end Go.Proofs.Ytiiogdgnccgehaa
namespace Go.Proofs.Ytiiogdgnccgehaa
open Go.Proofs
open Go.Shelf
def lays156_ren : Go.Shelf.Ren := ⟨fun | 156 => 35 | 165 => 58 | 166 => 59 | 169 => 60 | 240 => 79 | 241 => 80 | 276 => 91 | 277 => 92 | n => n, fun | 31 => 43 | 9 => 9 | 3 => 3 | 4 => 4 | 0 => 0 | 20 => 20 | 72 => 114 | 76 => 118 | 70 => 112 | 37 => 90 | 75 => 117 | 127 => 143 | 164 => 150 | 5 => 5 | 80 => 120 | n => n, fun | n => n⟩
theorem lays156 : Go.Proofs.Lays.n156 Try.prog lays156_ren := {
  mixed := by kernel_rfl
  f156 := Try.func35.trans (congrArg some (by kernel_rfl))
  f165 := Try.func58.trans (congrArg some (by kernel_rfl))
  f166 := Try.func59.trans (congrArg some (by kernel_rfl))
  f169 := Try.func60.trans (congrArg some (by kernel_rfl))
  f240 := Try.func79.trans (congrArg some (by kernel_rfl))
  f241 := Try.func80.trans (congrArg some (by kernel_rfl))
  f276 := Try.func91.trans (congrArg some (by kernel_rfl))
  f277 := Try.func92.trans (congrArg some (by kernel_rfl))
  t0 := Try.underlying0
  a0 := Try.isAgg0
  z0 := Try.sizeOf0
  v0 := Try.zeroValue0
  t3 := Try.underlying3
  a3 := Try.isAgg3
  z3 := Try.sizeOf3
  v3 := Try.zeroValue3
  t4 := Try.underlying4
  a4 := Try.isAgg4
  z4 := Try.sizeOf4
  v4 := Try.zeroValue4
  t9 := Try.underlying9
  a9 := Try.isAgg9
  z9 := Try.sizeOf9
  v9 := Try.zeroValue9
  t20 := Try.underlying20
  a20 := Try.isAgg20
  z20 := Try.sizeOf20
  v20 := Try.zeroValue20
  t31 := Try.underlying43
  a31 := Try.isAgg43
  z31 := Try.sizeOf43
  v31 := Try.zeroValue43
  t37 := Try.underlying90
  a37 := Try.isAgg90
  z37 := Try.sizeOf90
  v37 := Try.zeroValue90
  t70 := Try.underlying112
  a70 := Try.isAgg112
  z70 := Try.sizeOf112
  v70 := Try.zeroValue112
  t72 := Try.underlying114
  a72 := Try.isAgg114
  z72 := Try.sizeOf114
  v72 := Try.zeroValue114
  t75 := Try.underlying117
  a75 := Try.isAgg117
  z75 := Try.sizeOf117
  v75 := Try.zeroValue117
  t76 := Try.underlying118
  a76 := Try.isAgg118
  z76 := Try.sizeOf118
  v76 := Try.zeroValue118
  t127 := Try.underlying143
  a127 := Try.isAgg143
  z127 := Try.sizeOf143
  v127 := Try.zeroValue143
  t164 := Try.underlying150
  a164 := Try.isAgg150
  z164 := Try.sizeOf150
  v164 := Try.zeroValue150 }
theorem Builder_Extra_156 : Builder.Extra Try.prog lays156_ren := {
  sizeBuilder := by kernel_rfl
  liesBuilder := by kernel_rfl
  t5 := Try.underlying5
  a5 := Try.isAgg5
  z5 := Try.sizeOf5
  v5 := Try.zeroValue5
  infoByte := by kernel_rfl
  cellsByte := by kernel_rfl
  sizeByte := by kernel_rfl
  neB5 := by decide }
open Go.RowKit in
theorem strings_Join_none (a : Option Addr) (c : Nat) (sep : ByteArray) (w : World) :
    Calls Try.prog 35 #[.slice a 0 c, .string sep] w fun e w' => e = .returned (.string ⟨#[]⟩) ∧ w' = w := Any.strings_Join_none lays156 Builder_Extra_156 a c sep w
open Go.RowKit in
theorem strings_Join (bk o c : Nat) (xs : List ByteArray) (sep : ByteArray) (w : World) (hcells : ∀ (j : Nat) x, xs[j]? = some x → w.cell? ⟨bk, o + j, none⟩ = some (.string x)) (hbk : bk < w.heap.size) (hN : xs.length ≤ 140737488355328) (hcap : xs.length ≤ c) (hlen : (Lib.join (xs.map (·.data.toList)) sep.data.toList).length ≤ 140737488355328) :
    Calls Try.prog 35 #[.slice (some ⟨bk, o, none⟩) xs.length c, .string sep] w fun e w' => e = .returned (.string ⟨(Lib.join (xs.map (·.data.toList)) sep.data.toList).toArray⟩) ∧ Below w.heap.size w w' := Any.strings_Join lays156 Builder_Extra_156 bk o c xs sep w hcells hbk hN hcap hlen
end Go.Proofs.Ytiiogdgnccgehaa
namespace Go.Proofs.Ytiiogdgnccgehaa
open Go.RowKit

theorem textInfo : (Try.prog.info? 9).map (fun i => (i.zero, i.size, i.bytes)) = some (some (.string ⟨#[]⟩), 1, 16) := by kernel_rfl
theorem rangeAt_below {w w' : World} {B b o : Nat} {cs : List Value} (h : w.rangeAt b o cs) (hb : Below B w w') (hB : b < B) : w'.rangeAt b o cs := fun j v hv => (hb.cell (p := ⟨b, o + j, none⟩) hB).trans (h j v hv)
theorem below_al (w : World) (o : Obj) : Below w.heap.size w (w.alloc o) := (Below.refl _ w).alloc (Nat.le_refl _) o
theorem below_al2 (w : World) (o p : Obj) : Below w.heap.size w ((w.alloc o).alloc p) := (below_al w o).trans ((below_al (w.alloc o) p).mono (below_al w o).size)
def OwnS (w : World) (B : Nat) (A : Option Addr) (n c : Nat) (l : List ByteArray) : Prop := Own w B 9 1 A n c (l.map Value.string)
theorem OwnS.below {w w' : World} {B n c : Nat} {A : Option Addr} {l : List ByteArray} (h : OwnS w B A n c l) (hb : Below w.heap.size w w') : OwnS w' B A n c l := Own.below h hb
theorem OwnS.len {w : World} {B n c : Nat} {A : Option Addr} {l : List ByteArray} (h : OwnS w B A n c l) : l.length = n := by simpa using Own.length h
theorem OwnS.rd {w : World} {B n c : Nat} {A : Option Addr} {l : List ByteArray} (h : OwnS w B A n c l) : Rd w w.heap.size A (l.map Value.string) := Own.rd h (by omega)
theorem texts_one (l : List ByteArray) : ∀ u ∈ l.map Value.string, u.oneCell' = true := by
  intro u hu
  obtain ⟨s, _, rfl⟩ := List.mem_map.1 hu
  rfl
theorem texts_app {w : World} {ops : Array Oper} {rest : List Oper} {o : Oper} {a : Act} {Q : Exit → Act → World → Prop} (hw : Region.wanted o (yielded ops a.tmps) = true) (s x : Operand)
    (ho : o.op = .call { callee := .builtin .append, args := #[s, x], argTypes := #[43, 43] })
    (B : Nat) (A : Option Addr) (n c N : Nat) (L add : List ByteArray) (hs : a.eval s = .slice A n c) (hown : OwnS w B A n c L) (A2 : Option Addr) (m c2 : Nat) (hx : a.eval x = .slice A2 m c2) (hr : Rd w w.heap.size A2 (add.map Value.string)) (hm : add.length = m)
    (hN : n + m = N) (hl : N ≤ 1000000) (hB : B ≤ w.heap.size)
    (h : ∀ A' c' w', Hid (OwnS w' B A' N c' (L ++ add)) → Hid (w.grownBy w' (blk A)) → wpList Try.prog ops Q rest (a.put o.dst (.slice A' N c')) w') : wpList Try.prog ops Q (o :: rest) a w := by
  obtain ⟨i0, hi0, hz0, hz1, hz2⟩ := info_parts textInfo
  subst hN
  refine wpList_app_g hw s x 43 ho B 9 i0 (.string ⟨#[]⟩) 1 16 Try.underlying43 hi0 hz0 hz1 hz2 rfl (by decide) A n c (L.map Value.string) hs hown w.heap.size A2 m c2 (add.map Value.string) hx hr (by simp [hm]) (texts_one add) (by unfold maxLen; omega) (by omega) hB ?_
  intro A' c' w' h1 h2 _
  exact h A' c' w' (Lib.hid (by unfold OwnS; rw [List.map_append]; exact h1)) (Lib.hid h2)
/-- a row of texts, made -/
theorem OwnS.made (w : World) (l : List ByteArray) (n : Nat) (hn : l.length = n) (hl : n ≤ 1000) {c : Array Value} (hc : c = (l.map Value.string).toArray) : OwnS (w.alloc (.cells c 9)) w.heap.size (some ⟨w.heap.size, 0, none⟩) n n l := by
  subst hn hc
  have := World.ownsRow_lit (e := 9) (size := 1) w (l.map Value.string).toArray l.length (Nat.le_refl _) (by unfold maxLen; omega) (by simp)
  simpa [OwnS, Own] using this
theorem Rd.madeS (w : World) (l : List ByteArray) {c : Array Value} (hc : c = (l.map Value.string).toArray) (g : Nat) (hg : w.heap.size = g) : Rd (w.alloc (.cells c 9)) (w.alloc (.cells c 9)).heap.size (some ⟨g, 0, none⟩) (l.map Value.string) := by
  subst hg hc
  exact Rd.ofBlock (heap_alloc_new w (.cells _ 9)) (by simp)

theorem join_flat : ∀ L : List (List UInt8), Lib.join L [] = L.flatten
  | [] => rfl
  | [x] => by simp [Lib.join, List.intercalate]
  | x :: y :: l => by
    have ih := join_flat (y :: l)
    simp only [Lib.join, List.intercalate] at ih ⊢
    rw [List.intersperse_cons_cons, List.flatten_cons, List.flatten_cons, ih]
    simp
theorem join_cat (l : List ByteArray) : (⟨(Lib.join (l.map (·.data.toList)) (⟨#[]⟩ : ByteArray).data.toList).toArray⟩ : ByteArray) = cat l := by
  unfold cat ofL
  rw [show (⟨#[]⟩ : ByteArray).data.toList = [] from rfl, join_flat, List.flatMap_def]
theorem join_len (l : List ByteArray) : (Lib.join (l.map (·.data.toList)) (⟨#[]⟩ : ByteArray).data.toList).length = (cat l).size := by
  rw [← join_cat]
  rfl
theorem take_flat {α β : Type} {f : α → List β} {l : List α} {k : Nat} (hk : k < l.length) : (l.take (k + 1)).flatMap f = (l.take k).flatMap f ++ f l[k] := by
  rw [List.take_succ_eq_append_getElem hk, List.flatMap_append]
  simp
theorem take_mapS {α β : Type} {f : α → β} {l : List α} {k : Nat} (hk : k < l.length) : (l.take (k + 1)).map f = (l.take k).map f ++ [f l[k]] := by
  rw [List.take_succ_eq_append_getElem hk, List.map_append]
  simp
theorem OwnS.le {w : World} {B n c : Nat} {A : Option Addr} {l : List ByteArray} (h : OwnS w B A n c l) : n ≤ c := by
  obtain ⟨h1, h2⟩ := h
  rcases h2 with ⟨h3, _⟩ | ⟨g, cap, cur, h3, _, _, h4, _⟩
  · injection h3 with _ h3 _
    omega
  · injection h3 with _ h3 h5
    omega
theorem join_own {w : World} {B n c : Nat} {A : Option Addr} {l : List ByteArray} (h : OwnS w B A n c l) (h0 : 0 < n) (hn : n ≤ 100000) (hs : (cat l).size ≤ 100000000) :
    Calls Try.prog 35 #[.slice A n c, .string ⟨#[]⟩] w fun e w' => e = .returned (.string (cat l)) ∧ Below w.heap.size w w' := by
  have hl := h.len
  have hcap : n ≤ c := OwnS.le h
  obtain ⟨g, rfl, hg, hgl, hc⟩ := Own.at_ h h0
  subst hl
  have hj := strings_Join g 0 c l ⟨#[]⟩ w (fun j x hx => by
    have hj := (List.getElem?_eq_some_iff.1 hx).1
    have := (hc j (by simpa using hj)).1
    rw [Nat.zero_add, this]
    simp only [List.getElem_map]
    rw [(List.getElem?_eq_some_iff.1 hx).2]) hgl (by omega) hcap (by rw [join_len]; omega)
  refine hj.mono ?_
  rintro e w' ⟨rfl, hb⟩
  exact ⟨by rw [join_cat], hb⟩
theorem text_elem {w : World} {B k : Nat} {A : Option Addr} {l : List ByteArray} (h : Rd w B A (l.map Value.string)) (hk : k < l.length) : ∃ b o, A = some ⟨b, o, none⟩ ∧ b < B ∧ w.cell? ⟨b, o + k, none⟩ = some (.string l[k]) := by
  obtain ⟨b, o, e, hb, hc⟩ := h.at_ (by intro h; have := congrArg List.length h; rw [List.length_map] at this; simp at this; rw [this] at hk; simp at hk)
  have := hc k (by rw [List.length_map]; exact hk)
  rw [List.getElem_map] at this
  exact ⟨b, o, e, hb, this⟩
theorem wrap_nat (n : Nat) (h : n < 18446744073709551616) : IntKind.u64.wrap (n : Int) = (n : Int) := by
  rw [show IntKind.u64.wrap (n : Int) = (n : Int) % 18446744073709551616 from rfl, Int.emod_eq_of_lt (by omega) (by omega)]
end Go.Proofs.Ytiiogdgnccgehaa
