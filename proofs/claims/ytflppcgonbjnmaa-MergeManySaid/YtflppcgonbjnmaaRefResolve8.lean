/-
  The walk of the reference's Resolve: one by one, each to its place.
-/
import Derived.Test.YtflppcgonbjnmaaRefSorted8
import Derived.Test.YtflppcgonbjnmaaJB
namespace Go.Proofs.Ytflppcgonbjnmaa
open Go.RowKit
attribute [local go_sem ↓] Go.wp_at_zero Go.wp_at_succ

def ahead (x : It) (o : It) : Bool := decide (o.cmp x < 0) && !o.c.same x.c
theorem tw {α : Type} {p : α → Bool} : ∀ (R : List α) (i : Nat), i ≤ R.length → (∀ j (h : j < R.length), j < i → p R[j] = true) → (∀ h : i < R.length, p R[i] = false) → R.takeWhile p = R.take i ∧ R.dropWhile p = R.drop i
  | [], i, _, _, _ => by simp
  | y :: R, 0, _, _, h => by
    have := h (by simp)
    simp only [List.getElem_cons_zero] at this
    rw [List.takeWhile_cons_of_neg (by simp [this]), List.dropWhile_cons_of_neg (by simp [this])]
    simp
  | y :: R, i + 1, hi, h1, h2 => by
    have hy := h1 0 (by simp) (by omega)
    simp only [List.getElem_cons_zero] at hy
    obtain ⟨a, b⟩ := tw R i (by simpa using hi) (fun j hj hji => by have := h1 (j + 1) (by simpa using hj) (by omega); simpa using this) (fun h => by have := h2 (by simpa using h); simpa using this)
    rw [List.takeWhile_cons_of_pos hy, List.dropWhile_cons_of_pos hy, a, b]
    simp
def Upto (R : List It) (x : It) (i : Nat) : Prop := i ≤ R.length ∧ ∀ j (h : j < R.length), j < i → ahead x R[j] = true
theorem Upto.zero (R : List It) (x : It) : Upto R x 0 := ⟨Nat.zero_le _, fun j h hj => by omega⟩
theorem Upto.succ {R : List It} {x y : It} {i : Nat} (h : Upto R x i) (hi : i < R.length) (hy : R[i] = y) (hc : y.cmp x < 0) (hs : y.c.same x.c = false) : Upto R x (i + 1) := ⟨hi, fun j hj hji => by
  by_cases e : j = i
  · subst e
    rw [hy]
    unfold ahead
    rw [hs, decide_eq_true hc]
    rfl
  · exact h.2 j hj (by omega)⟩
theorem rstep_ins {R : List It} {x : It} {i : Nat} (h : Upto R x i) (hn : ∀ h : i < R.length, ¬ (R[i].cmp x < 0) ∧ R[i].c.same x.c = false) : rstep R x = R.take i ++ x :: R.drop i := by
  obtain ⟨h1, h2⟩ := tw (p := ahead x) R i h.1 h.2 (fun k => by unfold ahead; rw [decide_eq_false (hn k).1]; rfl)
  unfold rstep
  show (match R.dropWhile (ahead x) with
    | y :: q => if y.c.same x.c then (if y.pos < x.pos then R.takeWhile (ahead x) ++ x :: q else R) else R.takeWhile (ahead x) ++ x :: y :: q
    | [] => R.takeWhile (ahead x) ++ [x]) = _
  rw [h1, h2]
  by_cases k : i < R.length
  · rw [List.drop_eq_getElem_cons k]
    simp only [(hn k).2, Bool.false_eq_true, if_false]
  · rw [List.drop_of_length_le (by omega)]
theorem rstep_same {R : List It} {x : It} {i : Nat} (h : Upto R x i) (k : i < R.length) (hs : R[i].c.same x.c = true) : rstep R x = if R[i].pos < x.pos then R.set i x else R := by
  obtain ⟨h1, h2⟩ := tw (p := ahead x) R i h.1 h.2 (fun k => by unfold ahead; rw [hs]; simp)
  unfold rstep
  show (match R.dropWhile (ahead x) with
    | y :: q => if y.c.same x.c then (if y.pos < x.pos then R.takeWhile (ahead x) ++ x :: q else R) else R.takeWhile (ahead x) ++ x :: y :: q
    | [] => R.takeWhile (ahead x) ++ [x]) = _
  rw [h1, h2, List.drop_eq_getElem_cons k]
  simp only [hs, if_true]
  rw [List.set_eq_take_append_cons_drop, if_pos k]
theorem resolve_succ {l : List It} {k : Nat} (h : k < l.length) : resolve (l.take (k + 1)) = rstep (resolve (l.take k)) l[k] := by
  unfold resolve
  rw [List.take_succ_eq_append_getElem h, List.foldl_append]
  rfl
theorem run_front {P : Program} {t e : TypeId} {i : TypeInfo} {size : Nat} (ht : P.underlying t = some (.slice e)) (hi : P.info? e = some i) (hs : i.size = size) (A : Option Addr) (n c k : Nat) (hk : k ≤ c) (W : World) :
    (Instr.slice t (.slice A n c) none (some (.int .i64 (k : Int))) none).run P W = .ok (.slice A k c) W := by
  have he : P.underlying t = some (.slice (P.elem t)) := by rw [ht]; simp [Program.elem, ht]
  have hee : P.elem t = e := by simp [Program.elem, ht]
  rw [run_slice_h (P := P) W t A n c he .i64 k (by omega) (by omega), hee]
  simp [sizeOf, typeInfo, hi, Result.andThen, sliced, hs]
  intro _
  cases A <;> simp [Addr.add]
theorem own_any {w : World} {base e size n c : Nat} {A : Option Addr} {xs : List Value} (h : Own w base e size A n c xs) : ∀ n', n' = n → Own w base e size A n' c xs := by
  rintro _ rfl
  exact h
theorem Rd.allocS {w : World} {A : Option Addr} {xs : List Value} (h : Rd w w.heap.size A xs) (o : Obj) : Rd (w.alloc o) (w.alloc o).heap.size A xs := (h.alloc (Nat.le_refl _) o).more (by rw [World.size_alloc]; omega)
theorem Rd.grownAt {w w' : World} {b : Nat} {row : Option Nat} {xs : List Value} (h : Rd w w.heap.size (some ⟨b, 0, none⟩) xs) (hg : w.grownBy w' row) (hne : some b ≠ row) : Rd w' w'.heap.size (some ⟨b, 0, none⟩) xs := fun hn => by
  obtain ⟨b', o, e, hb, hc⟩ := h hn
  obtain ⟨rfl, rfl⟩ : b = b' ∧ 0 = o := by injection e with e; injection e with e1 e2; exact ⟨e1, e2⟩
  exact ⟨b, 0, rfl, Nat.lt_of_lt_of_le hb hg.size, fun j hj => (World.cell?_of_block (a := ⟨b, _, none⟩) (hg.block b hb hne)).trans (hc j hj)⟩
theorem Rd.tailR {α : Type} {enc : α → List Value} {s : Nat} (hs : ∀ x, (enc x).length = s) {W : World} {B : Nat} {A : Option Addr} {R : List α} (h : Rd W B A (R.flatMap enc)) {n c i : Nat} (hn : R.length = n) (hc : n ≤ c) (hi : i ≤ n) : Rd W B (tailA A c i s) ((R.drop i).flatMap enc) := by
  by_cases e : c = i
  · rw [List.drop_of_length_le (by omega)]
    exact Rd.nil
  · unfold tailA
    rw [if_neg e]
    have h1 := h.drop (i * s)
    have h2 : (R.flatMap enc).drop (i * s) = (R.drop i).flatMap enc := by
      have h3 : R.flatMap enc = (R.take i).flatMap enc ++ (R.drop i).flatMap enc := by rw [← List.flatMap_append, List.take_append_drop]
      have h4 : ((R.take i).flatMap enc).length = i * s := by rw [encs_length hs, List.length_take, Nat.min_eq_left (by omega)]
      rw [h3, ← h4, List.drop_left]
    rwa [h2] at h1
theorem Rd.frontR {α : Type} {enc : α → List Value} {W : World} {B : Nat} {A : Option Addr} {R : List α} (h : Rd W B A (R.flatMap enc)) {s : Nat} (hs : ∀ x, (enc x).length = s) {i : Nat} (hi : i ≤ R.length) : Rd W B A ((R.take i).flatMap enc) := by
  have h1 := h.take (i * s)
  have h2 : (R.flatMap enc).take (i * s) = (R.take i).flatMap enc := by
    have h3 : R.flatMap enc = (R.take i).flatMap enc ++ (R.drop i).flatMap enc := by rw [← List.flatMap_append, List.take_append_drop]
    have h4 : ((R.take i).flatMap enc).length = i * s := by rw [encs_length hs, List.length_take, Nat.min_eq_left hi]
    rw [h3, ← h4, List.take_left]
  rwa [h2] at h1

theorem Own.put {α : Type} {enc : α → List Value} {k : Nat} (hk : ∀ x, (enc x).length = k) (hk0 : 0 < k) {w : World} {base e n c g : Nat} {l : List α} (h : Own w base e k (some ⟨g, 0, none⟩) n c (l.flatMap enc)) {i : Nat} (hi : i < l.length) (x : α) :
    w.there g (i * k) k ∧ Own (w.setCells g (i * k) (enc x)) base e k (some ⟨g, 0, none⟩) n c ((l.set i x).flatMap enc) ∧ w.grownBy (w.setCells g (i * k) (enc x)) (some g) := by
  have hl := h.1
  rw [encs_length hk] at hl
  have hln : l.length = n := Nat.eq_of_mul_eq_mul_right hk0 hl
  obtain ⟨g', S, e1, hb, hS, hnc, hcm, _, HA⟩ := Own.arr hk h (by omega) hk0
  injection e1 with e1
  injection e1 with e1
  subst e1 hS
  have h2 := HA.set hk hi x
  refine ⟨HA.there_at hi, ?_, h2.2⟩
  have h3 := Arr.own hk hk0 h2.1 hb (by rw [List.length_set]; omega) hcm
  rwa [List.length_set, hln] at h3

set_option maxRecDepth 10000 in
set_option maxHeartbeats 8000000 in
theorem refResolve8_any (A : Option Addr) (c : Nat) (l : List It) (w : World) (hl : Rd w w.heap.size A (its l)) (hlen : l.length ≤ 1000000) :
    Calls Try.prog 37 #[.slice A l.length c] w fun e w' => ∃ (A' : Option Addr) (c' : Nat), e = .returned (.slice A' (resolve l).length c') ∧ Own w' w.heap.size 56 7 A' (resolve l).length c' (its (resolve l)) ∧ Below w.heap.size w w' := by
  obtain ⟨i0, hi0, hz0, hz1, hz2⟩ := info_parts refItemInfo
  have HL := Lib.hid hl
  obtain ⟨N, hN⟩ : ∃ N, l.length = N := ⟨_, rfl⟩
  have HN := Lib.hid hN
  rw [hN] at hlen ⊢
  have HB0 := Lib.hid ((Below.refl w.heap.size w).alloc (Nat.le_refl _) (.cells #[] 56))
  have HO0 := Lib.hid (Own.new0' w 56 7)
  clear hl hN
  go_enter Try.func37, Try.ntmps37
  go_wp2
  go_loopw [3, 4] (fun vo vi wr => ∃ (k n : Nat) (Ao : Option Addr) (co : Nat) (R : List It), k ≤ N ∧ vo = .slice Ao n co ∧ vi = .int .i64 (k : Int) ∧ n ≤ k ∧ Hid (resolve (l.take k) = R) ∧ Hid (Own wr w.heap.size 56 7 Ao n co (its R)) ∧ Hid (Below w.heap.size w wr)) (fun _ vi _ => N - (intOf vi).toNat)
  case atStart => exact ⟨0, 0, _, 0, [], Nat.zero_le _, rfl, rfl, Nat.le_refl _, Lib.hid rfl, HO0, HB0⟩
  case round =>
    obtain ⟨k, n, Ao, co, R, hk, rfl, rfl, hnk, HR, HO, HB⟩ := hrel
    have hRn : R.length = n := by have := HO.out.1; rw [its_len] at this; omega
    have hnc : n ≤ co := by
      rcases HO.out.2 with ⟨hv, hn⟩ | ⟨_, _, _, hv, _, _, h3, _⟩
      · omega
      · injection hv with _ _ hc
        omega
    by_cases hlt : k < N
    · have hkl : k < l.length := by rw [HN.out]; exact hlt
      obtain ⟨b, o, rfl, hb, hc⟩ := HL.out.at_ (its_ne hkl)
      have r0 := Rd.it_range hc k hkl
      have e1 : decide ((k : Int) < (N : Int)) = true := decide_eq_true (by omega)
      have k1 : (0 : Int) ≤ (k : Int) := by omega
      have k2 : (k : Int) < (N : Int) := by omega
      have hw3 : IntKind.i64.wrap ((k : Int) + 1) = ((k + 1 : Nat) : Int) := by rw [IntWalk.i64_in _ (by omega)]; omega
      have hsucc := resolve_succ hkl
      rw [HR.out] at hsucc
      obtain ⟨x, hx⟩ : ∃ x, l[k] = x := ⟨_, rfl⟩
      rw [hx] at hsucc r0
      have HS1 := Lib.hid hsucc
      have HRW := Lib.hid r0
      clear hc hx hsucc HR r0
      go_wp2
      go_loopw [5] (fun va wr' => ∃ (i : Nat), i ≤ n ∧ va = .int .i64 (i : Int) ∧ Hid (Upto R x i) ∧ Hid (Own wr' w.heap.size 56 7 Ao n co (its R)) ∧ Hid (Below w.heap.size w wr')) (fun va _ => n - (intOf va).toNat)
      case atStart => exact ⟨0, Nat.zero_le _, rfl, Lib.hid (Upto.zero R x), HO, HB⟩
      case round =>
        clear HO HB
        obtain ⟨i, hin, rfl, HU, HO, HB⟩ := hrel
        have hw4 : IntKind.i64.wrap ((i : Int) + 1) = ((i + 1 : Nat) : Int) := by rw [IntWalk.i64_in _ (by omega)]; omega
        by_cases hat : i < n
        · obtain ⟨g, S, rfl, hg, hS, _, hcm, _, HA⟩ := Own.arr It.vals_len HO.out (by omega) (by omega)
          have hiR : i < R.length := by omega
          have hn0 : 0 < n := by omega
          have ry := HA.at_ i hiR
          have rx := rangeAt_below HRW.out HB.out hb
          have HRS := Lib.hid (fun h => rstep_same HU.out hiR h)
          have HRI := Lib.hid (fun (h : ¬ (R[i].cmp x < 0) ∧ R[i].c.same x.c = false) => rstep_ins HU.out (fun _ => h))
          have HUS := Lib.hid (fun (y : It) (h1 : R[i] = y) h2 h3 => Upto.succ (y := y) HU.out hiR h1 h2 h3)
          obtain ⟨y, hy⟩ : ∃ y, R[i] = y := ⟨_, rfl⟩
          rw [hy] at ry HRS HRI
          have HUS := Lib.hid (HUS.out y hy)
          have e2 : decide ((i : Int) < (n : Int)) = true := decide_eq_true (by omega)
          have e3 : decide (i < n) = true := decide_eq_true hat
          have i1 : (0 : Int) ≤ (i : Int) := by omega
          have i2 : (i : Int) < (n : Int) := by omega
          have hCC : ∀ W W', Below W.heap.size W W' → (fun W' => W'.rangeAt g (i * 7) y.vals ∧ W'.rangeAt b (o + k * 7) x.vals ∧ W'.rangeAt g (i * 7) y.c.vals ∧ W'.rangeAt b (o + k * 7) x.c.vals ∧ W'.cell? ⟨g, i * 7 + 6, none⟩ = some (.int .i64 y.pos) ∧ W'.cell? ⟨b, o + k * 7 + 6, none⟩ = some (.int .i64 x.pos) ∧ Own W' w.heap.size 56 7 (some ⟨g, 0, none⟩) n co (its R) ∧ Below w.heap.size w W') W → (fun W' => W'.rangeAt g (i * 7) y.vals ∧ W'.rangeAt b (o + k * 7) x.vals ∧ W'.rangeAt g (i * 7) y.c.vals ∧ W'.rangeAt b (o + k * 7) x.c.vals ∧ W'.cell? ⟨g, i * 7 + 6, none⟩ = some (.int .i64 y.pos) ∧ W'.cell? ⟨b, o + k * 7 + 6, none⟩ = some (.int .i64 x.pos) ∧ Own W' w.heap.size 56 7 (some ⟨g, 0, none⟩) n co (its R) ∧ Below w.heap.size w W') W' := by
            rintro W W' hbb ⟨h1, h2, h3, h4, h5, h6, h7, h8⟩
            have hgW := (h7.lt g rfl).2
            have hbW : b < W.heap.size := Nat.lt_of_lt_of_le hb h8.size
            exact ⟨rangeAt_below h1 hbb hgW, rangeAt_below h2 hbb hbW, rangeAt_below h3 hbb hgW, rangeAt_below h4 hbb hbW, (hbb.cell (p := ⟨g, _, none⟩) hgW).trans h5, (hbb.cell (p := ⟨b, _, none⟩) hbW).trans h6, h7.below hbb, h8.trans (hbb.mono h8.size)⟩

          have HC := hCC _ _ ((Below.refl wr.heap.size wr).drew) ⟨ry, rx, range_c ry, range_c rx, ry 6 _ rfl, rx 6 _ rfl, HO.out, HB.out⟩
          have hpos0 := Lib.hid hin
          clear ry rx hy HU HO HB HA
          cases hs : y.c.same x.c with
          | true =>
            by_cases hcmp : y.cmp x < 0
            · have hcd : decide (y.cmp x < 0) = true := decide_eq_true hcmp
              go_wp2
              refine region_wz (fun W' => W'.rangeAt g (i * 7) y.vals ∧ W'.rangeAt b (o + k * 7) x.vals ∧ W'.rangeAt g (i * 7) y.c.vals ∧ W'.rangeAt b (o + k * 7) x.c.vals ∧ W'.cell? ⟨g, i * 7 + 6, none⟩ = some (.int .i64 y.pos) ∧ W'.cell? ⟨b, o + k * 7 + 6, none⟩ = some (.int .i64 x.pos) ∧ Own W' w.heap.size 56 7 (some ⟨g, 0, none⟩) n co (its R) ∧ Below w.heap.size w W') none (by kernel_rfl) ?_
              apply WZ.take (i := 0) (some 13) rfl rfl (by kernel_rfl) (by kernel_rfl) (by kernel_rfl) (calm_panic _) (by kernel_rfl)
              case hy => (refine .inl ⟨by kernel_rfl, fun W hC => ?_⟩; (try dsimp only at hC); go_simp; (try simp only [e2,e3,hcd,hs]); rfl)
              case hC => exact HC
              case ha => (simp only [Act.put, List.setIfInBounds_toArray, List.set_cons_zero, List.set_cons_succ]; rfl)
              apply WZ.take (i := 1) (some 14) rfl rfl (by kernel_rfl) (by kernel_rfl) (by kernel_rfl) (calm_panic _) (by kernel_rfl)
              case hy => (refine .inl ⟨by kernel_rfl, fun W hC => ?_⟩; (try dsimp only at hC); go_simp; (try simp only [e2,e3,hcd,hs]); rfl)
              case hC => exact HC
              case ha => (simp only [Act.put, List.setIfInBounds_toArray, List.set_cons_zero, List.set_cons_succ]; rfl)
              apply WZ.take (i := 2) (some 15) rfl rfl (by kernel_rfl) (by kernel_rfl) (by kernel_rfl) (calm_panic _) (by kernel_rfl)
              case hy => (refine .inl ⟨by kernel_rfl, fun W hC => ?_⟩; (try dsimp only at hC); go_simp; (try simp only [e2,e3,hcd,hs]); rfl)
              case hC => exact HC
              case ha => (simp only [Act.put, List.setIfInBounds_toArray, List.set_cons_zero, List.set_cons_succ]; rfl)
              apply WZ.take (i := 3) (some 16) rfl rfl (by kernel_rfl) (by kernel_rfl) (by kernel_rfl) (calm_panic _) (by kernel_rfl)
              case hy => (refine .inl ⟨by kernel_rfl, fun W hC => ?_⟩; (try dsimp only at hC); go_simp; (try simp only [e2,e3,hcd,hs]); rfl)
              case hC => exact HC
              case ha => (simp only [Act.put, List.setIfInBounds_toArray, List.set_cons_zero, List.set_cons_succ]; rfl)
              apply WZ.take (i := 4) (some 17) rfl rfl (by kernel_rfl) (by kernel_rfl) (by kernel_rfl) (calm_panic _) (by kernel_rfl)
              case hy => (refine .inl ⟨by kernel_rfl, fun W hC => ?_⟩; (try dsimp only at hC); go_simp; (try simp only [e2,e3,hcd,hs]); rfl)
              case hC => exact HC
              case ha => (simp only [Act.put, List.setIfInBounds_toArray, List.set_cons_zero, List.set_cons_succ]; rfl)
              apply WZ.take (i := 5) (some 18) rfl rfl (by kernel_rfl) (by kernel_rfl) (by kernel_rfl) (calm_panic _) (by kernel_rfl)
              case hy => (refine .inl ⟨by kernel_rfl, fun W hC => ?_⟩; (try dsimp only at hC); go_simp; (try simp only [e2,e3,hcd,hs]); rfl)
              case hC => exact HC
              case ha => (simp only [Act.put, List.setIfInBounds_toArray, List.set_cons_zero, List.set_cons_succ]; rfl)
              apply WZ.take (i := 6) (some 19) rfl rfl (by kernel_rfl) (by kernel_rfl) (by kernel_rfl) (calm_panic _) (by kernel_rfl)
              case hy => (refine .inl ⟨by kernel_rfl, fun W hC => ?_⟩; (try dsimp only at hC); go_simp; (try simp only [e2,e3,hcd,hs]); rfl)
              case hC => exact HC
              case ha => (simp only [Act.put, List.setIfInBounds_toArray, List.set_cons_zero, List.set_cons_succ]; rfl)
              apply WZ.take (i := 7) (some 20) rfl rfl (by kernel_rfl) (by kernel_rfl) (by kernel_rfl) (calm_panic _) (by kernel_rfl)
              case hy => (refine .inl ⟨by kernel_rfl, fun W hC => ?_⟩; (try dsimp only at hC); go_simp; (try simp only [e2,e3,hcd,hs]); rfl)
              case hC => exact HC
              case ha => (simp only [Act.put, List.setIfInBounds_toArray, List.set_cons_zero, List.set_cons_succ]; rfl)
              apply WZ.take (i := 8) (some 21) rfl rfl (by kernel_rfl) (by kernel_rfl) (by kernel_rfl) (calm_panic _) (by kernel_rfl)
              case hy => first | (apply yieldsIf_load_mid (by kernel_rfl) _ _ rfl _ _ rfl; (case hS => (intro W hC; exact (show World.rangeAt _ _ _ (It.vals _) from hC.1))); (case hu => exact Try.underlying56); (case hd => rfl); (case hi => kernel_rfl)) | (apply yieldsIf_load_mid (by kernel_rfl) _ _ rfl _ _ rfl; (case hS => (intro W hC; exact (show World.rangeAt _ _ _ (It.vals _) from hC.2.1))); (case hu => exact Try.underlying56); (case hd => rfl); (case hi => kernel_rfl)) | (apply yieldsIf_load_mid (by kernel_rfl) _ _ rfl _ _ rfl; (case hS => (intro W hC; exact (show World.rangeAt _ _ _ (It.vals _) from hC.2.2.1))); (case hu => exact Try.underlying56); (case hd => rfl); (case hi => kernel_rfl)) | (apply yieldsIf_load_mid (by kernel_rfl) _ _ rfl _ _ rfl; (case hS => (intro W hC; exact (show World.rangeAt _ _ _ (It.vals _) from hC.2.2.2.1))); (case hu => exact Try.underlying56); (case hd => rfl); (case hi => kernel_rfl)) | (apply yieldsIf_load_mid (by kernel_rfl) _ _ rfl _ _ rfl; (case hS => (intro W hC; exact (show World.rangeAt _ _ _ (It.vals _) from hC.2.2.2))); (case hu => exact Try.underlying56); (case hd => rfl); (case hi => kernel_rfl)) | (apply yieldsIf_load_mid (by kernel_rfl) _ _ rfl _ _ rfl; (case hS => (intro W hC; exact (show World.rangeAt _ _ _ (It.vals _) from hC.2.2))); (case hu => exact Try.underlying56); (case hd => rfl); (case hi => kernel_rfl)) | (apply yieldsIf_load_mid (by kernel_rfl) _ _ rfl _ _ rfl; (case hS => (intro W hC; exact (show World.rangeAt _ _ _ (It.vals _) from hC.2))); (case hu => exact Try.underlying56); (case hd => rfl); (case hi => kernel_rfl)) | (apply yieldsIf_load_mid (by kernel_rfl) _ _ rfl _ _ rfl; (case hS => (intro W hC; exact (show World.rangeAt _ _ _ (It.vals _) from hC))); (case hu => exact Try.underlying56); (case hd => rfl); (case hi => kernel_rfl))
              case hC => exact HC
              case ha => (simp only [Act.put, List.setIfInBounds_toArray, List.set_cons_zero, List.set_cons_succ]; rfl)
              apply WZ.take (i := 9) (some 22) rfl rfl (by kernel_rfl) (by kernel_rfl) (by kernel_rfl) (calm_panic _) (by kernel_rfl)
              case hy => (refine .inl ⟨by kernel_rfl, fun W hC => ?_⟩; (try dsimp only at hC); go_simp; (try simp only [e2,e3,hcd,hs]); rfl)
              case hC => exact HC
              case ha => (simp only [Act.put, List.setIfInBounds_toArray, List.set_cons_zero, List.set_cons_succ]; rfl)
              apply WZ.take (i := 10) (some 23) rfl rfl (by kernel_rfl) (by kernel_rfl) (by kernel_rfl) (calm_panic _) (by kernel_rfl)
              case hy => (refine .inl ⟨by kernel_rfl, fun W hC => ?_⟩; (try dsimp only at hC); go_simp; (try simp only [e2,e3,hcd,hs]); rfl)
              case hC => exact HC
              case ha => (simp only [Act.put, List.setIfInBounds_toArray, List.set_cons_zero, List.set_cons_succ]; rfl)
              apply WZ.take (i := 11) (some 24) rfl rfl (by kernel_rfl) (by kernel_rfl) (by kernel_rfl) (calm_panic _) (by kernel_rfl)
              case hy => (refine .inl ⟨by kernel_rfl, fun W hC => ?_⟩; (try dsimp only at hC); go_simp; (try simp only [e2,e3,hcd,hs]); rfl)
              case hC => exact HC
              case ha => (simp only [Act.put, List.setIfInBounds_toArray, List.set_cons_zero, List.set_cons_succ]; rfl)
              apply WZ.take (i := 12) (some 25) rfl rfl (by kernel_rfl) (by kernel_rfl) (by kernel_rfl) (calm_panic _) (by kernel_rfl)
              case hy => first | (apply yieldsIf_load_mid (by kernel_rfl) _ _ rfl _ _ rfl; (case hS => (intro W hC; exact (show World.rangeAt _ _ _ (It.vals _) from hC.1))); (case hu => exact Try.underlying56); (case hd => rfl); (case hi => kernel_rfl)) | (apply yieldsIf_load_mid (by kernel_rfl) _ _ rfl _ _ rfl; (case hS => (intro W hC; exact (show World.rangeAt _ _ _ (It.vals _) from hC.2.1))); (case hu => exact Try.underlying56); (case hd => rfl); (case hi => kernel_rfl)) | (apply yieldsIf_load_mid (by kernel_rfl) _ _ rfl _ _ rfl; (case hS => (intro W hC; exact (show World.rangeAt _ _ _ (It.vals _) from hC.2.2.1))); (case hu => exact Try.underlying56); (case hd => rfl); (case hi => kernel_rfl)) | (apply yieldsIf_load_mid (by kernel_rfl) _ _ rfl _ _ rfl; (case hS => (intro W hC; exact (show World.rangeAt _ _ _ (It.vals _) from hC.2.2.2.1))); (case hu => exact Try.underlying56); (case hd => rfl); (case hi => kernel_rfl)) | (apply yieldsIf_load_mid (by kernel_rfl) _ _ rfl _ _ rfl; (case hS => (intro W hC; exact (show World.rangeAt _ _ _ (It.vals _) from hC.2.2.2))); (case hu => exact Try.underlying56); (case hd => rfl); (case hi => kernel_rfl)) | (apply yieldsIf_load_mid (by kernel_rfl) _ _ rfl _ _ rfl; (case hS => (intro W hC; exact (show World.rangeAt _ _ _ (It.vals _) from hC.2.2))); (case hu => exact Try.underlying56); (case hd => rfl); (case hi => kernel_rfl)) | (apply yieldsIf_load_mid (by kernel_rfl) _ _ rfl _ _ rfl; (case hS => (intro W hC; exact (show World.rangeAt _ _ _ (It.vals _) from hC.2))); (case hu => exact Try.underlying56); (case hd => rfl); (case hi => kernel_rfl)) | (apply yieldsIf_load_mid (by kernel_rfl) _ _ rfl _ _ rfl; (case hS => (intro W hC; exact (show World.rangeAt _ _ _ (It.vals _) from hC))); (case hu => exact Try.underlying56); (case hd => rfl); (case hi => kernel_rfl))
              case hC => exact HC
              case ha => (simp only [Act.put, List.setIfInBounds_toArray, List.set_cons_zero, List.set_cons_succ]; rfl)
              -- 13
              refine WZ.one (i := 13) rfl (by kernel_rfl) ?_
              conv => arg 4; arg 1; whnf
              go_wp2_with (go_at_call 24; refine (ref08Cmp_any y x _).mono ?_; rintro e w1 ⟨rfl, hb1⟩; have HC' := hCC _ _ hb1 HC)
              clear HC
              have HC := HC'
              clear HC' hb1
              refine ⟨HC, ?_⟩
              apply WZ.take (i := 14) (some 27) rfl rfl (by kernel_rfl) (by kernel_rfl) (by kernel_rfl) (calm_panic _) (by kernel_rfl)
              case hy => (refine .inl ⟨by kernel_rfl, fun W hC => ?_⟩; (try dsimp only at hC); go_simp; (try simp only [e2,e3,hcd,hs]); rfl)
              case hC => exact HC
              case ha => (simp only [Act.put, List.setIfInBounds_toArray, List.set_cons_zero, List.set_cons_succ]; rfl)
              apply WZ.take (i := 15) (some 28) rfl rfl (by kernel_rfl) (by kernel_rfl) (by kernel_rfl) (calm_panic _) (by kernel_rfl)
              case hy => (refine .inl ⟨by kernel_rfl, fun W hC => ?_⟩; (try dsimp only at hC); go_simp; (try simp only [e2,e3,hcd,hs]); rfl)
              case hC => exact HC
              case ha => (simp only [Act.put, List.setIfInBounds_toArray, List.set_cons_zero, List.set_cons_succ]; rfl)
              apply WZ.take (i := 16) (some 29) rfl rfl (by kernel_rfl) (by kernel_rfl) (by kernel_rfl) (calm_panic _) (by kernel_rfl)
              case hy => (refine .inl ⟨by kernel_rfl, fun W hC => ?_⟩; (try dsimp only at hC); go_simp; (try simp only [e2,e3,hcd,hs]); rfl)
              case hC => exact HC
              case ha => (simp only [Act.put, List.setIfInBounds_toArray, List.set_cons_zero, List.set_cons_succ]; rfl)
              apply WZ.take (i := 17) (some 30) rfl rfl (by kernel_rfl) (by kernel_rfl) (by kernel_rfl) (calm_panic _) (by kernel_rfl)
              case hy => (refine .inl ⟨by kernel_rfl, fun W hC => ?_⟩; (try dsimp only at hC); go_simp; (try simp only [e2,e3,hcd,hs]); rfl)
              case hC => exact HC
              case ha => (simp only [Act.put, List.setIfInBounds_toArray, List.set_cons_zero, List.set_cons_succ]; rfl)
              apply WZ.take (i := 18) (some 31) rfl rfl (by kernel_rfl) (by kernel_rfl) (by kernel_rfl) (calm_panic _) (by kernel_rfl)
              case hy => (refine .inl ⟨by kernel_rfl, fun W hC => ?_⟩; (try dsimp only at hC); go_simp; (try simp only [e2,e3,hcd,hs]); rfl)
              case hC => exact HC
              case ha => (simp only [Act.put, List.setIfInBounds_toArray, List.set_cons_zero, List.set_cons_succ]; rfl)
              apply WZ.take (i := 19) (some 32) rfl rfl (by kernel_rfl) (by kernel_rfl) (by kernel_rfl) (calm_panic _) (by kernel_rfl)
              case hy => (refine .inl ⟨by kernel_rfl, fun W hC => ?_⟩; (try dsimp only at hC); go_simp; (try simp only [e2,e3,hcd,hs]); rfl)
              case hC => exact HC
              case ha => (simp only [Act.put, List.setIfInBounds_toArray, List.set_cons_zero, List.set_cons_succ]; rfl)
              apply WZ.take (i := 20) (some 33) rfl rfl (by kernel_rfl) (by kernel_rfl) (by kernel_rfl) (calm_panic _) (by kernel_rfl)
              case hy => (refine .inl ⟨by kernel_rfl, fun W hC => ?_⟩; (try dsimp only at hC); go_simp; (try simp only [e2,e3,hcd,hs]); rfl)
              case hC => exact HC
              case ha => (simp only [Act.put, List.setIfInBounds_toArray, List.set_cons_zero, List.set_cons_succ]; rfl)
              apply WZ.take (i := 21) (some 34) rfl rfl (by kernel_rfl) (by kernel_rfl) (by kernel_rfl) (calm_panic _) (by kernel_rfl)
              case hy => first | (apply yieldsIf_load_mid (by kernel_rfl) _ _ rfl _ _ rfl; (case hS => (intro W hC; exact (show World.rangeAt _ _ _ (Cl.vals _) from hC.1))); (case hu => exact Try.underlying53); (case hd => rfl); (case hi => kernel_rfl)) | (apply yieldsIf_load_mid (by kernel_rfl) _ _ rfl _ _ rfl; (case hS => (intro W hC; exact (show World.rangeAt _ _ _ (Cl.vals _) from hC.2.1))); (case hu => exact Try.underlying53); (case hd => rfl); (case hi => kernel_rfl)) | (apply yieldsIf_load_mid (by kernel_rfl) _ _ rfl _ _ rfl; (case hS => (intro W hC; exact (show World.rangeAt _ _ _ (Cl.vals _) from hC.2.2.1))); (case hu => exact Try.underlying53); (case hd => rfl); (case hi => kernel_rfl)) | (apply yieldsIf_load_mid (by kernel_rfl) _ _ rfl _ _ rfl; (case hS => (intro W hC; exact (show World.rangeAt _ _ _ (Cl.vals _) from hC.2.2.2.1))); (case hu => exact Try.underlying53); (case hd => rfl); (case hi => kernel_rfl)) | (apply yieldsIf_load_mid (by kernel_rfl) _ _ rfl _ _ rfl; (case hS => (intro W hC; exact (show World.rangeAt _ _ _ (Cl.vals _) from hC.2.2.2))); (case hu => exact Try.underlying53); (case hd => rfl); (case hi => kernel_rfl)) | (apply yieldsIf_load_mid (by kernel_rfl) _ _ rfl _ _ rfl; (case hS => (intro W hC; exact (show World.rangeAt _ _ _ (Cl.vals _) from hC.2.2))); (case hu => exact Try.underlying53); (case hd => rfl); (case hi => kernel_rfl)) | (apply yieldsIf_load_mid (by kernel_rfl) _ _ rfl _ _ rfl; (case hS => (intro W hC; exact (show World.rangeAt _ _ _ (Cl.vals _) from hC.2))); (case hu => exact Try.underlying53); (case hd => rfl); (case hi => kernel_rfl)) | (apply yieldsIf_load_mid (by kernel_rfl) _ _ rfl _ _ rfl; (case hS => (intro W hC; exact (show World.rangeAt _ _ _ (Cl.vals _) from hC))); (case hu => exact Try.underlying53); (case hd => rfl); (case hi => kernel_rfl))
              case hC => exact HC
              case ha => (simp only [Act.put, List.setIfInBounds_toArray, List.set_cons_zero, List.set_cons_succ]; rfl)
              apply WZ.take (i := 22) (some 35) rfl rfl (by kernel_rfl) (by kernel_rfl) (by kernel_rfl) (calm_panic _) (by kernel_rfl)
              case hy => (refine .inl ⟨by kernel_rfl, fun W hC => ?_⟩; (try dsimp only at hC); go_simp; (try simp only [e2,e3,hcd,hs]); rfl)
              case hC => exact HC
              case ha => (simp only [Act.put, List.setIfInBounds_toArray, List.set_cons_zero, List.set_cons_succ]; rfl)
              apply WZ.take (i := 23) (some 36) rfl rfl (by kernel_rfl) (by kernel_rfl) (by kernel_rfl) (calm_panic _) (by kernel_rfl)
              case hy => (refine .inl ⟨by kernel_rfl, fun W hC => ?_⟩; (try dsimp only at hC); go_simp; (try simp only [e2,e3,hcd,hs]); rfl)
              case hC => exact HC
              case ha => (simp only [Act.put, List.setIfInBounds_toArray, List.set_cons_zero, List.set_cons_succ]; rfl)
              apply WZ.take (i := 24) (some 37) rfl rfl (by kernel_rfl) (by kernel_rfl) (by kernel_rfl) (calm_panic _) (by kernel_rfl)
              case hy => (refine .inl ⟨by kernel_rfl, fun W hC => ?_⟩; (try dsimp only at hC); go_simp; (try simp only [e2,e3,hcd,hs]); rfl)
              case hC => exact HC
              case ha => (simp only [Act.put, List.setIfInBounds_toArray, List.set_cons_zero, List.set_cons_succ]; rfl)
              apply WZ.take (i := 25) (some 38) rfl rfl (by kernel_rfl) (by kernel_rfl) (by kernel_rfl) (calm_panic _) (by kernel_rfl)
              case hy => (refine .inl ⟨by kernel_rfl, fun W hC => ?_⟩; (try dsimp only at hC); go_simp; (try simp only [e2,e3,hcd,hs]); rfl)
              case hC => exact HC
              case ha => (simp only [Act.put, List.setIfInBounds_toArray, List.set_cons_zero, List.set_cons_succ]; rfl)
              apply WZ.take (i := 26) (some 39) rfl rfl (by kernel_rfl) (by kernel_rfl) (by kernel_rfl) (calm_panic _) (by kernel_rfl)
              case hy => first | (apply yieldsIf_load_mid (by kernel_rfl) _ _ rfl _ _ rfl; (case hS => (intro W hC; exact (show World.rangeAt _ _ _ (Cl.vals _) from hC.1))); (case hu => exact Try.underlying53); (case hd => rfl); (case hi => kernel_rfl)) | (apply yieldsIf_load_mid (by kernel_rfl) _ _ rfl _ _ rfl; (case hS => (intro W hC; exact (show World.rangeAt _ _ _ (Cl.vals _) from hC.2.1))); (case hu => exact Try.underlying53); (case hd => rfl); (case hi => kernel_rfl)) | (apply yieldsIf_load_mid (by kernel_rfl) _ _ rfl _ _ rfl; (case hS => (intro W hC; exact (show World.rangeAt _ _ _ (Cl.vals _) from hC.2.2.1))); (case hu => exact Try.underlying53); (case hd => rfl); (case hi => kernel_rfl)) | (apply yieldsIf_load_mid (by kernel_rfl) _ _ rfl _ _ rfl; (case hS => (intro W hC; exact (show World.rangeAt _ _ _ (Cl.vals _) from hC.2.2.2.1))); (case hu => exact Try.underlying53); (case hd => rfl); (case hi => kernel_rfl)) | (apply yieldsIf_load_mid (by kernel_rfl) _ _ rfl _ _ rfl; (case hS => (intro W hC; exact (show World.rangeAt _ _ _ (Cl.vals _) from hC.2.2.2))); (case hu => exact Try.underlying53); (case hd => rfl); (case hi => kernel_rfl)) | (apply yieldsIf_load_mid (by kernel_rfl) _ _ rfl _ _ rfl; (case hS => (intro W hC; exact (show World.rangeAt _ _ _ (Cl.vals _) from hC.2.2))); (case hu => exact Try.underlying53); (case hd => rfl); (case hi => kernel_rfl)) | (apply yieldsIf_load_mid (by kernel_rfl) _ _ rfl _ _ rfl; (case hS => (intro W hC; exact (show World.rangeAt _ _ _ (Cl.vals _) from hC.2))); (case hu => exact Try.underlying53); (case hd => rfl); (case hi => kernel_rfl)) | (apply yieldsIf_load_mid (by kernel_rfl) _ _ rfl _ _ rfl; (case hS => (intro W hC; exact (show World.rangeAt _ _ _ (Cl.vals _) from hC))); (case hu => exact Try.underlying53); (case hd => rfl); (case hi => kernel_rfl))
              case hC => exact HC
              case ha => (simp only [Act.put, List.setIfInBounds_toArray, List.set_cons_zero, List.set_cons_succ]; rfl)
              -- 27
              refine WZ.one (i := 27) rfl (by kernel_rfl) ?_
              conv => arg 4; arg 1; whnf
              go_wp2_with (go_at_call 23; refine (refSame_any y.c x.c _).mono ?_; rintro e w1 ⟨rfl, hb1⟩; have HC' := hCC _ _ hb1 HC)
              clear HC
              have HC := HC'
              clear HC' hb1
              refine ⟨HC, ?_⟩
              apply WZ.take (i := 28) (some 41) rfl rfl (by kernel_rfl) (by kernel_rfl) (by kernel_rfl) (calm_panic _) (by kernel_rfl)
              case hy => (refine .inl ⟨by kernel_rfl, fun W hC => ?_⟩; (try dsimp only at hC); go_simp; (try simp only [e2,e3,hcd,hs]); rfl)
              case hC => exact HC
              case ha => (simp only [Act.put, List.setIfInBounds_toArray, List.set_cons_zero, List.set_cons_succ]; rfl)
              apply WZ.take (i := 29) (some 42) rfl rfl (by kernel_rfl) (by kernel_rfl) (by kernel_rfl) (calm_panic _) (by kernel_rfl)
              case hy => (refine .inl ⟨by kernel_rfl, fun W hC => ?_⟩; (try dsimp only at hC); go_simp; (try simp only [e2,e3,hcd,hs]); rfl)
              case hC => exact HC
              case ha => (simp only [Act.put, List.setIfInBounds_toArray, List.set_cons_zero, List.set_cons_succ]; rfl)
              refine WZ.done (by kernel_rfl) ?_ _
              simp only [Calm, Exit.then]
              go_wp2
              have HCd := hCC _ _ ((Below.refl _ _).drew) HC
              clear HC
              have HC := HCd
              clear HCd
              refine region_wz (fun W' => W'.rangeAt g (i * 7) y.vals ∧ W'.rangeAt b (o + k * 7) x.vals ∧ W'.rangeAt g (i * 7) y.c.vals ∧ W'.rangeAt b (o + k * 7) x.c.vals ∧ W'.cell? ⟨g, i * 7 + 6, none⟩ = some (.int .i64 y.pos) ∧ W'.cell? ⟨b, o + k * 7 + 6, none⟩ = some (.int .i64 x.pos) ∧ Own W' w.heap.size 56 7 (some ⟨g, 0, none⟩) n co (its R) ∧ Below w.heap.size w W') none (by kernel_rfl) ?_
              apply WZ.take (i := 0) (some 61) rfl rfl (by kernel_rfl) (by kernel_rfl) (by kernel_rfl) (calm_panic _) (by kernel_rfl)
              case hy => (refine .inl ⟨by kernel_rfl, fun W hC => ?_⟩; (try dsimp only at hC); go_simp; (try simp only [e2,e3,hs]); rfl)
              case hC => exact HC
              case ha => (simp only [Act.put, List.setIfInBounds_toArray, List.set_cons_zero, List.set_cons_succ]; rfl)
              apply WZ.take (i := 1) (some 62) rfl rfl (by kernel_rfl) (by kernel_rfl) (by kernel_rfl) (calm_panic _) (by kernel_rfl)
              case hy => (refine .inl ⟨by kernel_rfl, fun W hC => ?_⟩; (try dsimp only at hC); go_simp; (try simp only [e2,e3,hs]); rfl)
              case hC => exact HC
              case ha => (simp only [Act.put, List.setIfInBounds_toArray, List.set_cons_zero, List.set_cons_succ]; rfl)
              apply WZ.take (i := 2) (some 63) rfl rfl (by kernel_rfl) (by kernel_rfl) (by kernel_rfl) (calm_panic _) (by kernel_rfl)
              case hy => (refine .inl ⟨by kernel_rfl, fun W hC => ?_⟩; (try dsimp only at hC); go_simp; (try simp only [e2,e3,hs]); rfl)
              case hC => exact HC
              case ha => (simp only [Act.put, List.setIfInBounds_toArray, List.set_cons_zero, List.set_cons_succ]; rfl)
              apply WZ.take (i := 3) (some 64) rfl rfl (by kernel_rfl) (by kernel_rfl) (by kernel_rfl) (calm_panic _) (by kernel_rfl)
              case hy => (refine .inl ⟨by kernel_rfl, fun W hC => ?_⟩; (try dsimp only at hC); go_simp; (try simp only [e2,e3,hs]); rfl)
              case hC => exact HC
              case ha => (simp only [Act.put, List.setIfInBounds_toArray, List.set_cons_zero, List.set_cons_succ]; rfl)
              apply WZ.take (i := 4) (some 65) rfl rfl (by kernel_rfl) (by kernel_rfl) (by kernel_rfl) (calm_panic _) (by kernel_rfl)
              case hy => (refine .inl ⟨by kernel_rfl, fun W hC => ?_⟩; (try dsimp only at hC); go_simp; (try simp only [e2,e3,hs]); rfl)
              case hC => exact HC
              case ha => (simp only [Act.put, List.setIfInBounds_toArray, List.set_cons_zero, List.set_cons_succ]; rfl)
              apply WZ.take (i := 5) (some 66) rfl rfl (by kernel_rfl) (by kernel_rfl) (by kernel_rfl) (calm_panic _) (by kernel_rfl)
              case hy => (refine .inl ⟨by kernel_rfl, fun W hC => ?_⟩; (try dsimp only at hC); go_simp; (try simp only [e2,e3,hs]); rfl)
              case hC => exact HC
              case ha => (simp only [Act.put, List.setIfInBounds_toArray, List.set_cons_zero, List.set_cons_succ]; rfl)
              apply WZ.take (i := 6) (some 67) rfl rfl (by kernel_rfl) (by kernel_rfl) (by kernel_rfl) (calm_panic _) (by kernel_rfl)
              case hy => (refine .inl ⟨by kernel_rfl, fun W hC => ?_⟩; (try dsimp only at hC); go_simp; (try simp only [e2,e3,hs]); rfl)
              case hC => exact HC
              case ha => (simp only [Act.put, List.setIfInBounds_toArray, List.set_cons_zero, List.set_cons_succ]; rfl)
              apply WZ.take (i := 7) (some 68) rfl rfl (by kernel_rfl) (by kernel_rfl) (by kernel_rfl) (calm_panic _) (by kernel_rfl)
              case hy => (refine .inl ⟨by kernel_rfl, fun W hC => ?_⟩; (try dsimp only at hC); go_simp; (try simp only [e2,e3,hs]); rfl)
              case hC => exact HC
              case ha => (simp only [Act.put, List.setIfInBounds_toArray, List.set_cons_zero, List.set_cons_succ]; rfl)
              apply WZ.take (i := 8) (some 69) rfl rfl (by kernel_rfl) (by kernel_rfl) (by kernel_rfl) (calm_panic _) (by kernel_rfl)
              case hy => (refine .inl ⟨by kernel_rfl, fun W hC => ?_⟩; (try dsimp only at hC); go_simp; (try simp only [e2,e3,hs]); rfl)
              case hC => exact HC
              case ha => (simp only [Act.put, List.setIfInBounds_toArray, List.set_cons_zero, List.set_cons_succ]; rfl)
              apply WZ.take (i := 9) (some 70) rfl rfl (by kernel_rfl) (by kernel_rfl) (by kernel_rfl) (calm_panic _) (by kernel_rfl)
              case hy => first | (apply yieldsIf_load_mid (by kernel_rfl) _ _ rfl _ _ rfl; (case hS => (intro W hC; exact (show World.rangeAt _ _ _ (Cl.vals _) from hC.1))); (case hu => exact Try.underlying53); (case hd => rfl); (case hi => kernel_rfl)) | (apply yieldsIf_load_mid (by kernel_rfl) _ _ rfl _ _ rfl; (case hS => (intro W hC; exact (show World.rangeAt _ _ _ (Cl.vals _) from hC.2.1))); (case hu => exact Try.underlying53); (case hd => rfl); (case hi => kernel_rfl)) | (apply yieldsIf_load_mid (by kernel_rfl) _ _ rfl _ _ rfl; (case hS => (intro W hC; exact (show World.rangeAt _ _ _ (Cl.vals _) from hC.2.2.1))); (case hu => exact Try.underlying53); (case hd => rfl); (case hi => kernel_rfl)) | (apply yieldsIf_load_mid (by kernel_rfl) _ _ rfl _ _ rfl; (case hS => (intro W hC; exact (show World.rangeAt _ _ _ (Cl.vals _) from hC.2.2.2.1))); (case hu => exact Try.underlying53); (case hd => rfl); (case hi => kernel_rfl)) | (apply yieldsIf_load_mid (by kernel_rfl) _ _ rfl _ _ rfl; (case hS => (intro W hC; exact (show World.rangeAt _ _ _ (Cl.vals _) from hC.2.2.2))); (case hu => exact Try.underlying53); (case hd => rfl); (case hi => kernel_rfl)) | (apply yieldsIf_load_mid (by kernel_rfl) _ _ rfl _ _ rfl; (case hS => (intro W hC; exact (show World.rangeAt _ _ _ (Cl.vals _) from hC.2.2))); (case hu => exact Try.underlying53); (case hd => rfl); (case hi => kernel_rfl)) | (apply yieldsIf_load_mid (by kernel_rfl) _ _ rfl _ _ rfl; (case hS => (intro W hC; exact (show World.rangeAt _ _ _ (Cl.vals _) from hC.2))); (case hu => exact Try.underlying53); (case hd => rfl); (case hi => kernel_rfl)) | (apply yieldsIf_load_mid (by kernel_rfl) _ _ rfl _ _ rfl; (case hS => (intro W hC; exact (show World.rangeAt _ _ _ (Cl.vals _) from hC))); (case hu => exact Try.underlying53); (case hd => rfl); (case hi => kernel_rfl))
              case hC => exact HC
              case ha => (simp only [Act.put, List.setIfInBounds_toArray, List.set_cons_zero, List.set_cons_succ]; rfl)
              apply WZ.take (i := 10) (some 71) rfl rfl (by kernel_rfl) (by kernel_rfl) (by kernel_rfl) (calm_panic _) (by kernel_rfl)
              case hy => (refine .inl ⟨by kernel_rfl, fun W hC => ?_⟩; (try dsimp only at hC); go_simp; (try simp only [e2,e3,hs]); rfl)
              case hC => exact HC
              case ha => (simp only [Act.put, List.setIfInBounds_toArray, List.set_cons_zero, List.set_cons_succ]; rfl)
              apply WZ.take (i := 11) (some 72) rfl rfl (by kernel_rfl) (by kernel_rfl) (by kernel_rfl) (calm_panic _) (by kernel_rfl)
              case hy => (refine .inl ⟨by kernel_rfl, fun W hC => ?_⟩; (try dsimp only at hC); go_simp; (try simp only [e2,e3,hs]); rfl)
              case hC => exact HC
              case ha => (simp only [Act.put, List.setIfInBounds_toArray, List.set_cons_zero, List.set_cons_succ]; rfl)
              apply WZ.take (i := 12) (some 73) rfl rfl (by kernel_rfl) (by kernel_rfl) (by kernel_rfl) (calm_panic _) (by kernel_rfl)
              case hy => (refine .inl ⟨by kernel_rfl, fun W hC => ?_⟩; (try dsimp only at hC); go_simp; (try simp only [e2,e3,hs]); rfl)
              case hC => exact HC
              case ha => (simp only [Act.put, List.setIfInBounds_toArray, List.set_cons_zero, List.set_cons_succ]; rfl)
              apply WZ.take (i := 13) (some 74) rfl rfl (by kernel_rfl) (by kernel_rfl) (by kernel_rfl) (calm_panic _) (by kernel_rfl)
              case hy => (refine .inl ⟨by kernel_rfl, fun W hC => ?_⟩; (try dsimp only at hC); go_simp; (try simp only [e2,e3,hs]); rfl)
              case hC => exact HC
              case ha => (simp only [Act.put, List.setIfInBounds_toArray, List.set_cons_zero, List.set_cons_succ]; rfl)
              apply WZ.take (i := 14) (some 75) rfl rfl (by kernel_rfl) (by kernel_rfl) (by kernel_rfl) (calm_panic _) (by kernel_rfl)
              case hy => first | (apply yieldsIf_load_mid (by kernel_rfl) _ _ rfl _ _ rfl; (case hS => (intro W hC; exact (show World.rangeAt _ _ _ (Cl.vals _) from hC.1))); (case hu => exact Try.underlying53); (case hd => rfl); (case hi => kernel_rfl)) | (apply yieldsIf_load_mid (by kernel_rfl) _ _ rfl _ _ rfl; (case hS => (intro W hC; exact (show World.rangeAt _ _ _ (Cl.vals _) from hC.2.1))); (case hu => exact Try.underlying53); (case hd => rfl); (case hi => kernel_rfl)) | (apply yieldsIf_load_mid (by kernel_rfl) _ _ rfl _ _ rfl; (case hS => (intro W hC; exact (show World.rangeAt _ _ _ (Cl.vals _) from hC.2.2.1))); (case hu => exact Try.underlying53); (case hd => rfl); (case hi => kernel_rfl)) | (apply yieldsIf_load_mid (by kernel_rfl) _ _ rfl _ _ rfl; (case hS => (intro W hC; exact (show World.rangeAt _ _ _ (Cl.vals _) from hC.2.2.2.1))); (case hu => exact Try.underlying53); (case hd => rfl); (case hi => kernel_rfl)) | (apply yieldsIf_load_mid (by kernel_rfl) _ _ rfl _ _ rfl; (case hS => (intro W hC; exact (show World.rangeAt _ _ _ (Cl.vals _) from hC.2.2.2))); (case hu => exact Try.underlying53); (case hd => rfl); (case hi => kernel_rfl)) | (apply yieldsIf_load_mid (by kernel_rfl) _ _ rfl _ _ rfl; (case hS => (intro W hC; exact (show World.rangeAt _ _ _ (Cl.vals _) from hC.2.2))); (case hu => exact Try.underlying53); (case hd => rfl); (case hi => kernel_rfl)) | (apply yieldsIf_load_mid (by kernel_rfl) _ _ rfl _ _ rfl; (case hS => (intro W hC; exact (show World.rangeAt _ _ _ (Cl.vals _) from hC.2))); (case hu => exact Try.underlying53); (case hd => rfl); (case hi => kernel_rfl)) | (apply yieldsIf_load_mid (by kernel_rfl) _ _ rfl _ _ rfl; (case hS => (intro W hC; exact (show World.rangeAt _ _ _ (Cl.vals _) from hC))); (case hu => exact Try.underlying53); (case hd => rfl); (case hi => kernel_rfl))
              case hC => exact HC
              case ha => (simp only [Act.put, List.setIfInBounds_toArray, List.set_cons_zero, List.set_cons_succ]; rfl)
              -- 15
              refine WZ.one (i := 15) rfl (by kernel_rfl) ?_
              conv => arg 4; arg 1; whnf
              go_wp2_with (go_at_call 23; refine (refSame_any y.c x.c _).mono ?_; rintro e w1 ⟨rfl, hb1⟩; have HC' := hCC _ _ hb1 HC)
              clear HC
              have HC := HC'
              clear HC' hb1
              refine ⟨HC, ?_⟩
              apply WZ.take (i := 16) (some 77) rfl rfl (by kernel_rfl) (by kernel_rfl) (by kernel_rfl) (calm_panic _) (by kernel_rfl)
              case hy => (refine .inl ⟨by kernel_rfl, fun W hC => ?_⟩; (try dsimp only at hC); go_simp; (try simp only [e2,e3,hs]); rfl)
              case hC => exact HC
              case ha => (simp only [Act.put, List.setIfInBounds_toArray, List.set_cons_zero, List.set_cons_succ]; rfl)
              apply WZ.take (i := 17) (some 60) rfl rfl (by kernel_rfl) (by kernel_rfl) (by kernel_rfl) (calm_panic _) (by kernel_rfl)
              case hy => (refine .inl ⟨by kernel_rfl, fun W hC => ?_⟩; (try dsimp only at hC); go_simp; (try simp only [e2,e3,hs]); rfl)
              case hC => exact HC
              case ha => (simp only [Act.put, List.setIfInBounds_toArray, List.set_cons_zero, List.set_cons_succ]; rfl)
              refine WZ.done (by kernel_rfl) ?_ _
              simp only [Calm, Exit.then]
              go_wp2
              have HCd := hCC _ _ ((Below.refl _ _).drew) HC
              clear HC
              have HC := HCd
              clear HCd
              by_cases hpos : y.pos < x.pos
              · have hp : decide (y.pos < x.pos) = true := decide_eq_true hpos
                have HSUCC := Lib.hid (HS1.out.trans (show rstep R x = R.set i x by have := HRS.out hs; rwa [if_pos hpos] at this))
                refine region_wz (fun W' => W'.rangeAt g (i * 7) y.vals ∧ W'.rangeAt b (o + k * 7) x.vals ∧ W'.rangeAt g (i * 7) y.c.vals ∧ W'.rangeAt b (o + k * 7) x.c.vals ∧ W'.cell? ⟨g, i * 7 + 6, none⟩ = some (.int .i64 y.pos) ∧ W'.cell? ⟨b, o + k * 7 + 6, none⟩ = some (.int .i64 x.pos) ∧ Own W' w.heap.size 56 7 (some ⟨g, 0, none⟩) n co (its R) ∧ Below w.heap.size w W') none (by kernel_rfl) ?_
                apply WZ.take (i := 0) (some 78) rfl rfl (by kernel_rfl) (by kernel_rfl) (by kernel_rfl) (calm_panic _) (by kernel_rfl)
                case hy => (refine .inl ⟨by kernel_rfl, fun W hC => ?_⟩; (try dsimp only at hC); go_simp; (try simp only [hp]); rfl)
                case hC => exact HC
                case ha => (simp only [Act.put, List.setIfInBounds_toArray, List.set_cons_zero, List.set_cons_succ]; rfl)
                apply WZ.take (i := 1) (some 79) rfl rfl (by kernel_rfl) (by kernel_rfl) (by kernel_rfl) (calm_panic _) (by kernel_rfl)
                case hy => (refine .inl ⟨by kernel_rfl, fun W hC => ?_⟩; (try dsimp only at hC); go_simp; (try simp only [hp]); rfl)
                case hC => exact HC
                case ha => (simp only [Act.put, List.setIfInBounds_toArray, List.set_cons_zero, List.set_cons_succ]; rfl)
                apply WZ.take (i := 2) (some 80) rfl rfl (by kernel_rfl) (by kernel_rfl) (by kernel_rfl) (calm_panic _) (by kernel_rfl)
                case hy => (refine .inl ⟨by kernel_rfl, fun W hC => ?_⟩; (try dsimp only at hC); go_simp; (try simp only [hp]); rfl)
                case hC => exact HC
                case ha => (simp only [Act.put, List.setIfInBounds_toArray, List.set_cons_zero, List.set_cons_succ]; rfl)
                apply WZ.take (i := 3) (some 81) rfl rfl (by kernel_rfl) (by kernel_rfl) (by kernel_rfl) (calm_panic _) (by kernel_rfl)
                case hy => (refine .inl ⟨by kernel_rfl, fun W hC => ?_⟩; (try dsimp only at hC); go_simp; (try simp only [hp]); rfl)
                case hC => exact HC
                case ha => (simp only [Act.put, List.setIfInBounds_toArray, List.set_cons_zero, List.set_cons_succ]; rfl)
                apply WZ.take (i := 4) (some 82) rfl rfl (by kernel_rfl) (by kernel_rfl) (by kernel_rfl) (calm_panic _) (by kernel_rfl)
                case hy => (refine .inl ⟨by kernel_rfl, fun W hC => ?_⟩; (try dsimp only at hC); go_simp; (try simp only [hp]); rfl)
                case hC => exact HC
                case ha => (simp only [Act.put, List.setIfInBounds_toArray, List.set_cons_zero, List.set_cons_succ]; rfl)
                apply WZ.take (i := 5) (some 83) rfl rfl (by kernel_rfl) (by kernel_rfl) (by kernel_rfl) (calm_panic _) (by kernel_rfl)
                case hy => (refine .inl ⟨by kernel_rfl, fun W hC => ?_⟩; (try dsimp only at hC); go_simp; (try simp only [hp]); rfl)
                case hC => exact HC
                case ha => (simp only [Act.put, List.setIfInBounds_toArray, List.set_cons_zero, List.set_cons_succ]; rfl)
                apply WZ.take (i := 6) (some 84) rfl rfl (by kernel_rfl) (by kernel_rfl) (by kernel_rfl) (calm_panic _) (by kernel_rfl)
                case hy => (refine .inl ⟨by kernel_rfl, fun W hC => ?_⟩; (try dsimp only at hC); go_simp; (try simp only [hp]); rfl)
                case hC => exact HC
                case ha => (simp only [Act.put, List.setIfInBounds_toArray, List.set_cons_zero, List.set_cons_succ]; rfl)
                apply WZ.take (i := 7) (some 85) rfl rfl (by kernel_rfl) (by kernel_rfl) (by kernel_rfl) (calm_panic _) (by kernel_rfl)
                case hy => (refine .inl ⟨by kernel_rfl, fun W hC => ?_⟩; (try dsimp only at hC); go_simp; (try simp only [hp]); rfl)
                case hC => exact HC
                case ha => (simp only [Act.put, List.setIfInBounds_toArray, List.set_cons_zero, List.set_cons_succ]; rfl)
                apply WZ.take (i := 8) (some 86) rfl rfl (by kernel_rfl) (by kernel_rfl) (by kernel_rfl) (calm_panic _) (by kernel_rfl)
                case hy => (refine .inl ⟨by kernel_rfl, fun W hC => ?_⟩; (try dsimp only at hC); go_simp; (try simp only [hp]); rfl)
                case hC => exact HC
                case ha => (simp only [Act.put, List.setIfInBounds_toArray, List.set_cons_zero, List.set_cons_succ]; rfl)
                apply WZ.take (i := 9) (some 87) rfl rfl (by kernel_rfl) (by kernel_rfl) (by kernel_rfl) (calm_panic _) (by kernel_rfl)
                case hy => (refine .inl ⟨by kernel_rfl, fun W hC => ?_⟩; (try dsimp only at hC); go_simp; (try simp only [hp]); rfl)
                case hC => exact HC
                case ha => (simp only [Act.put, List.setIfInBounds_toArray, List.set_cons_zero, List.set_cons_succ]; rfl)
                apply WZ.take (i := 10) (some 88) rfl rfl (by kernel_rfl) (by kernel_rfl) (by kernel_rfl) (calm_panic _) (by kernel_rfl)
                case hy => (refine .inl ⟨by kernel_rfl, fun W hC => ?_⟩; (try dsimp only at hC); go_simp; (try simp only [hp]); rfl)
                case hC => exact HC
                case ha => (simp only [Act.put, List.setIfInBounds_toArray, List.set_cons_zero, List.set_cons_succ]; rfl)
                refine WZ.done (by kernel_rfl) ?_ _
                simp only [Calm, Exit.then]
                have HP := Own.put It.vals_len (by omega) HC.2.2.2.2.2.2.1 (show i < R.length by omega) x
                have HB2 := Own.grow HC.2.2.2.2.2.2.1 HC.2.2.2.2.2.2.2 HC.2.2.2.2.2.2.2.size (Nat.le_refl _) HP.2.2
                go_wp2_with (first
                  | (show wpList _ _ _ ({ dst := some 94, op := Op.load _ _, type := _, pos := _, after := _, guard := _ } :: _) _ _; refine wpList_load_mid rfl 56 (.tmp 93) rfl b (o + k * 7) rfl x.vals _ HC.2.1 Try.underlying56 rfl (by kernel_rfl) ?_)
                  | (show wpList _ _ _ ({ dst := none, op := Op.store _ _ _, type := _, pos := _, after := _, guard := _ } :: _) _ _; refine wpList_store_mid rfl 56 (.tmp 95) (.tmp 94) rfl g (i * 7) _ rfl rfl HP.1 (by kernel_rfl) (all_oneCell_toArray x.one) ?_))
                exact ⟨⟨k + 1, n, some ⟨g, 0, none⟩, co, R.set i x, by omega, rfl, rfl, by omega, HSUCC, Lib.hid HP.2.1, Lib.hid HB2⟩, by simp [intOf]; omega⟩
              · have hp : decide (y.pos < x.pos) = false := decide_eq_false hpos
                have HSUCC := Lib.hid (HS1.out.trans (show rstep R x = R by have := HRS.out hs; rwa [if_neg hpos] at this))
                refine region_wz (fun W' => W'.rangeAt g (i * 7) y.vals ∧ W'.rangeAt b (o + k * 7) x.vals ∧ W'.rangeAt g (i * 7) y.c.vals ∧ W'.rangeAt b (o + k * 7) x.c.vals ∧ W'.cell? ⟨g, i * 7 + 6, none⟩ = some (.int .i64 y.pos) ∧ W'.cell? ⟨b, o + k * 7 + 6, none⟩ = some (.int .i64 x.pos) ∧ Own W' w.heap.size 56 7 (some ⟨g, 0, none⟩) n co (its R) ∧ Below w.heap.size w W') none (by kernel_rfl) ?_
                apply WZ.take (i := 0) (some 78) rfl rfl (by kernel_rfl) (by kernel_rfl) (by kernel_rfl) (calm_panic _) (by kernel_rfl)
                case hy => (refine .inl ⟨by kernel_rfl, fun W hC => ?_⟩; (try dsimp only at hC); go_simp; (try simp only [hp]); rfl)
                case hC => exact HC
                case ha => (simp only [Act.put, List.setIfInBounds_toArray, List.set_cons_zero, List.set_cons_succ]; rfl)
                apply WZ.take (i := 1) (some 79) rfl rfl (by kernel_rfl) (by kernel_rfl) (by kernel_rfl) (calm_panic _) (by kernel_rfl)
                case hy => (refine .inl ⟨by kernel_rfl, fun W hC => ?_⟩; (try dsimp only at hC); go_simp; (try simp only [hp]); rfl)
                case hC => exact HC
                case ha => (simp only [Act.put, List.setIfInBounds_toArray, List.set_cons_zero, List.set_cons_succ]; rfl)
                apply WZ.take (i := 2) (some 80) rfl rfl (by kernel_rfl) (by kernel_rfl) (by kernel_rfl) (calm_panic _) (by kernel_rfl)
                case hy => (refine .inl ⟨by kernel_rfl, fun W hC => ?_⟩; (try dsimp only at hC); go_simp; (try simp only [hp]); rfl)
                case hC => exact HC
                case ha => (simp only [Act.put, List.setIfInBounds_toArray, List.set_cons_zero, List.set_cons_succ]; rfl)
                apply WZ.take (i := 3) (some 81) rfl rfl (by kernel_rfl) (by kernel_rfl) (by kernel_rfl) (calm_panic _) (by kernel_rfl)
                case hy => (refine .inl ⟨by kernel_rfl, fun W hC => ?_⟩; (try dsimp only at hC); go_simp; (try simp only [hp]); rfl)
                case hC => exact HC
                case ha => (simp only [Act.put, List.setIfInBounds_toArray, List.set_cons_zero, List.set_cons_succ]; rfl)
                apply WZ.take (i := 4) (some 82) rfl rfl (by kernel_rfl) (by kernel_rfl) (by kernel_rfl) (calm_panic _) (by kernel_rfl)
                case hy => (refine .inl ⟨by kernel_rfl, fun W hC => ?_⟩; (try dsimp only at hC); go_simp; (try simp only [hp]); rfl)
                case hC => exact HC
                case ha => (simp only [Act.put, List.setIfInBounds_toArray, List.set_cons_zero, List.set_cons_succ]; rfl)
                apply WZ.take (i := 5) (some 83) rfl rfl (by kernel_rfl) (by kernel_rfl) (by kernel_rfl) (calm_panic _) (by kernel_rfl)
                case hy => (refine .inl ⟨by kernel_rfl, fun W hC => ?_⟩; (try dsimp only at hC); go_simp; (try simp only [hp]); rfl)
                case hC => exact HC
                case ha => (simp only [Act.put, List.setIfInBounds_toArray, List.set_cons_zero, List.set_cons_succ]; rfl)
                apply WZ.take (i := 6) (some 84) rfl rfl (by kernel_rfl) (by kernel_rfl) (by kernel_rfl) (calm_panic _) (by kernel_rfl)
                case hy => (refine .inl ⟨by kernel_rfl, fun W hC => ?_⟩; (try dsimp only at hC); go_simp; (try simp only [hp]); rfl)
                case hC => exact HC
                case ha => (simp only [Act.put, List.setIfInBounds_toArray, List.set_cons_zero, List.set_cons_succ]; rfl)
                apply WZ.take (i := 7) (some 85) rfl rfl (by kernel_rfl) (by kernel_rfl) (by kernel_rfl) (calm_panic _) (by kernel_rfl)
                case hy => (refine .inl ⟨by kernel_rfl, fun W hC => ?_⟩; (try dsimp only at hC); go_simp; (try simp only [hp]); rfl)
                case hC => exact HC
                case ha => (simp only [Act.put, List.setIfInBounds_toArray, List.set_cons_zero, List.set_cons_succ]; rfl)
                apply WZ.take (i := 8) (some 86) rfl rfl (by kernel_rfl) (by kernel_rfl) (by kernel_rfl) (calm_panic _) (by kernel_rfl)
                case hy => (refine .inl ⟨by kernel_rfl, fun W hC => ?_⟩; (try dsimp only at hC); go_simp; (try simp only [hp]); rfl)
                case hC => exact HC
                case ha => (simp only [Act.put, List.setIfInBounds_toArray, List.set_cons_zero, List.set_cons_succ]; rfl)
                apply WZ.take (i := 9) (some 87) rfl rfl (by kernel_rfl) (by kernel_rfl) (by kernel_rfl) (calm_panic _) (by kernel_rfl)
                case hy => (refine .inl ⟨by kernel_rfl, fun W hC => ?_⟩; (try dsimp only at hC); go_simp; (try simp only [hp]); rfl)
                case hC => exact HC
                case ha => (simp only [Act.put, List.setIfInBounds_toArray, List.set_cons_zero, List.set_cons_succ]; rfl)
                apply WZ.take (i := 10) (some 88) rfl rfl (by kernel_rfl) (by kernel_rfl) (by kernel_rfl) (calm_panic _) (by kernel_rfl)
                case hy => (refine .inl ⟨by kernel_rfl, fun W hC => ?_⟩; (try dsimp only at hC); go_simp; (try simp only [hp]); rfl)
                case hC => exact HC
                case ha => (simp only [Act.put, List.setIfInBounds_toArray, List.set_cons_zero, List.set_cons_succ]; rfl)
                refine WZ.done (by kernel_rfl) ?_ _
                simp only [Calm, Exit.then]
                go_wp2
                exact ⟨⟨k + 1, n, some ⟨g, 0, none⟩, co, R, by omega, rfl, rfl, by omega, HSUCC, Lib.hid HC.2.2.2.2.2.2.1, Lib.hid HC.2.2.2.2.2.2.2⟩, by simp [intOf]; omega⟩
            · have hcd : decide (y.cmp x < 0) = false := decide_eq_false hcmp
              go_wp2
              refine region_wz (fun W' => W'.rangeAt g (i * 7) y.vals ∧ W'.rangeAt b (o + k * 7) x.vals ∧ W'.rangeAt g (i * 7) y.c.vals ∧ W'.rangeAt b (o + k * 7) x.c.vals ∧ W'.cell? ⟨g, i * 7 + 6, none⟩ = some (.int .i64 y.pos) ∧ W'.cell? ⟨b, o + k * 7 + 6, none⟩ = some (.int .i64 x.pos) ∧ Own W' w.heap.size 56 7 (some ⟨g, 0, none⟩) n co (its R) ∧ Below w.heap.size w W') none (by kernel_rfl) ?_
              apply WZ.take (i := 0) (some 13) rfl rfl (by kernel_rfl) (by kernel_rfl) (by kernel_rfl) (calm_panic _) (by kernel_rfl)
              case hy => (refine .inl ⟨by kernel_rfl, fun W hC => ?_⟩; (try dsimp only at hC); go_simp; (try simp only [e2,e3,hcd]); rfl)
              case hC => exact HC
              case ha => (simp only [Act.put, List.setIfInBounds_toArray, List.set_cons_zero, List.set_cons_succ]; rfl)
              apply WZ.take (i := 1) (some 14) rfl rfl (by kernel_rfl) (by kernel_rfl) (by kernel_rfl) (calm_panic _) (by kernel_rfl)
              case hy => (refine .inl ⟨by kernel_rfl, fun W hC => ?_⟩; (try dsimp only at hC); go_simp; (try simp only [e2,e3,hcd]); rfl)
              case hC => exact HC
              case ha => (simp only [Act.put, List.setIfInBounds_toArray, List.set_cons_zero, List.set_cons_succ]; rfl)
              apply WZ.take (i := 2) (some 15) rfl rfl (by kernel_rfl) (by kernel_rfl) (by kernel_rfl) (calm_panic _) (by kernel_rfl)
              case hy => (refine .inl ⟨by kernel_rfl, fun W hC => ?_⟩; (try dsimp only at hC); go_simp; (try simp only [e2,e3,hcd]); rfl)
              case hC => exact HC
              case ha => (simp only [Act.put, List.setIfInBounds_toArray, List.set_cons_zero, List.set_cons_succ]; rfl)
              apply WZ.take (i := 3) (some 16) rfl rfl (by kernel_rfl) (by kernel_rfl) (by kernel_rfl) (calm_panic _) (by kernel_rfl)
              case hy => (refine .inl ⟨by kernel_rfl, fun W hC => ?_⟩; (try dsimp only at hC); go_simp; (try simp only [e2,e3,hcd]); rfl)
              case hC => exact HC
              case ha => (simp only [Act.put, List.setIfInBounds_toArray, List.set_cons_zero, List.set_cons_succ]; rfl)
              apply WZ.take (i := 4) (some 17) rfl rfl (by kernel_rfl) (by kernel_rfl) (by kernel_rfl) (calm_panic _) (by kernel_rfl)
              case hy => (refine .inl ⟨by kernel_rfl, fun W hC => ?_⟩; (try dsimp only at hC); go_simp; (try simp only [e2,e3,hcd]); rfl)
              case hC => exact HC
              case ha => (simp only [Act.put, List.setIfInBounds_toArray, List.set_cons_zero, List.set_cons_succ]; rfl)
              apply WZ.take (i := 5) (some 18) rfl rfl (by kernel_rfl) (by kernel_rfl) (by kernel_rfl) (calm_panic _) (by kernel_rfl)
              case hy => (refine .inl ⟨by kernel_rfl, fun W hC => ?_⟩; (try dsimp only at hC); go_simp; (try simp only [e2,e3,hcd]); rfl)
              case hC => exact HC
              case ha => (simp only [Act.put, List.setIfInBounds_toArray, List.set_cons_zero, List.set_cons_succ]; rfl)
              apply WZ.take (i := 6) (some 19) rfl rfl (by kernel_rfl) (by kernel_rfl) (by kernel_rfl) (calm_panic _) (by kernel_rfl)
              case hy => (refine .inl ⟨by kernel_rfl, fun W hC => ?_⟩; (try dsimp only at hC); go_simp; (try simp only [e2,e3,hcd]); rfl)
              case hC => exact HC
              case ha => (simp only [Act.put, List.setIfInBounds_toArray, List.set_cons_zero, List.set_cons_succ]; rfl)
              apply WZ.take (i := 7) (some 20) rfl rfl (by kernel_rfl) (by kernel_rfl) (by kernel_rfl) (calm_panic _) (by kernel_rfl)
              case hy => (refine .inl ⟨by kernel_rfl, fun W hC => ?_⟩; (try dsimp only at hC); go_simp; (try simp only [e2,e3,hcd]); rfl)
              case hC => exact HC
              case ha => (simp only [Act.put, List.setIfInBounds_toArray, List.set_cons_zero, List.set_cons_succ]; rfl)
              apply WZ.take (i := 8) (some 21) rfl rfl (by kernel_rfl) (by kernel_rfl) (by kernel_rfl) (calm_panic _) (by kernel_rfl)
              case hy => first | (apply yieldsIf_load_mid (by kernel_rfl) _ _ rfl _ _ rfl; (case hS => (intro W hC; exact (show World.rangeAt _ _ _ (It.vals _) from hC.1))); (case hu => exact Try.underlying56); (case hd => rfl); (case hi => kernel_rfl)) | (apply yieldsIf_load_mid (by kernel_rfl) _ _ rfl _ _ rfl; (case hS => (intro W hC; exact (show World.rangeAt _ _ _ (It.vals _) from hC.2.1))); (case hu => exact Try.underlying56); (case hd => rfl); (case hi => kernel_rfl)) | (apply yieldsIf_load_mid (by kernel_rfl) _ _ rfl _ _ rfl; (case hS => (intro W hC; exact (show World.rangeAt _ _ _ (It.vals _) from hC.2.2.1))); (case hu => exact Try.underlying56); (case hd => rfl); (case hi => kernel_rfl)) | (apply yieldsIf_load_mid (by kernel_rfl) _ _ rfl _ _ rfl; (case hS => (intro W hC; exact (show World.rangeAt _ _ _ (It.vals _) from hC.2.2.2.1))); (case hu => exact Try.underlying56); (case hd => rfl); (case hi => kernel_rfl)) | (apply yieldsIf_load_mid (by kernel_rfl) _ _ rfl _ _ rfl; (case hS => (intro W hC; exact (show World.rangeAt _ _ _ (It.vals _) from hC.2.2.2))); (case hu => exact Try.underlying56); (case hd => rfl); (case hi => kernel_rfl)) | (apply yieldsIf_load_mid (by kernel_rfl) _ _ rfl _ _ rfl; (case hS => (intro W hC; exact (show World.rangeAt _ _ _ (It.vals _) from hC.2.2))); (case hu => exact Try.underlying56); (case hd => rfl); (case hi => kernel_rfl)) | (apply yieldsIf_load_mid (by kernel_rfl) _ _ rfl _ _ rfl; (case hS => (intro W hC; exact (show World.rangeAt _ _ _ (It.vals _) from hC.2))); (case hu => exact Try.underlying56); (case hd => rfl); (case hi => kernel_rfl)) | (apply yieldsIf_load_mid (by kernel_rfl) _ _ rfl _ _ rfl; (case hS => (intro W hC; exact (show World.rangeAt _ _ _ (It.vals _) from hC))); (case hu => exact Try.underlying56); (case hd => rfl); (case hi => kernel_rfl))
              case hC => exact HC
              case ha => (simp only [Act.put, List.setIfInBounds_toArray, List.set_cons_zero, List.set_cons_succ]; rfl)
              apply WZ.take (i := 9) (some 22) rfl rfl (by kernel_rfl) (by kernel_rfl) (by kernel_rfl) (calm_panic _) (by kernel_rfl)
              case hy => (refine .inl ⟨by kernel_rfl, fun W hC => ?_⟩; (try dsimp only at hC); go_simp; (try simp only [e2,e3,hcd]); rfl)
              case hC => exact HC
              case ha => (simp only [Act.put, List.setIfInBounds_toArray, List.set_cons_zero, List.set_cons_succ]; rfl)
              apply WZ.take (i := 10) (some 23) rfl rfl (by kernel_rfl) (by kernel_rfl) (by kernel_rfl) (calm_panic _) (by kernel_rfl)
              case hy => (refine .inl ⟨by kernel_rfl, fun W hC => ?_⟩; (try dsimp only at hC); go_simp; (try simp only [e2,e3,hcd]); rfl)
              case hC => exact HC
              case ha => (simp only [Act.put, List.setIfInBounds_toArray, List.set_cons_zero, List.set_cons_succ]; rfl)
              apply WZ.take (i := 11) (some 24) rfl rfl (by kernel_rfl) (by kernel_rfl) (by kernel_rfl) (calm_panic _) (by kernel_rfl)
              case hy => (refine .inl ⟨by kernel_rfl, fun W hC => ?_⟩; (try dsimp only at hC); go_simp; (try simp only [e2,e3,hcd]); rfl)
              case hC => exact HC
              case ha => (simp only [Act.put, List.setIfInBounds_toArray, List.set_cons_zero, List.set_cons_succ]; rfl)
              apply WZ.take (i := 12) (some 25) rfl rfl (by kernel_rfl) (by kernel_rfl) (by kernel_rfl) (calm_panic _) (by kernel_rfl)
              case hy => first | (apply yieldsIf_load_mid (by kernel_rfl) _ _ rfl _ _ rfl; (case hS => (intro W hC; exact (show World.rangeAt _ _ _ (It.vals _) from hC.1))); (case hu => exact Try.underlying56); (case hd => rfl); (case hi => kernel_rfl)) | (apply yieldsIf_load_mid (by kernel_rfl) _ _ rfl _ _ rfl; (case hS => (intro W hC; exact (show World.rangeAt _ _ _ (It.vals _) from hC.2.1))); (case hu => exact Try.underlying56); (case hd => rfl); (case hi => kernel_rfl)) | (apply yieldsIf_load_mid (by kernel_rfl) _ _ rfl _ _ rfl; (case hS => (intro W hC; exact (show World.rangeAt _ _ _ (It.vals _) from hC.2.2.1))); (case hu => exact Try.underlying56); (case hd => rfl); (case hi => kernel_rfl)) | (apply yieldsIf_load_mid (by kernel_rfl) _ _ rfl _ _ rfl; (case hS => (intro W hC; exact (show World.rangeAt _ _ _ (It.vals _) from hC.2.2.2.1))); (case hu => exact Try.underlying56); (case hd => rfl); (case hi => kernel_rfl)) | (apply yieldsIf_load_mid (by kernel_rfl) _ _ rfl _ _ rfl; (case hS => (intro W hC; exact (show World.rangeAt _ _ _ (It.vals _) from hC.2.2.2))); (case hu => exact Try.underlying56); (case hd => rfl); (case hi => kernel_rfl)) | (apply yieldsIf_load_mid (by kernel_rfl) _ _ rfl _ _ rfl; (case hS => (intro W hC; exact (show World.rangeAt _ _ _ (It.vals _) from hC.2.2))); (case hu => exact Try.underlying56); (case hd => rfl); (case hi => kernel_rfl)) | (apply yieldsIf_load_mid (by kernel_rfl) _ _ rfl _ _ rfl; (case hS => (intro W hC; exact (show World.rangeAt _ _ _ (It.vals _) from hC.2))); (case hu => exact Try.underlying56); (case hd => rfl); (case hi => kernel_rfl)) | (apply yieldsIf_load_mid (by kernel_rfl) _ _ rfl _ _ rfl; (case hS => (intro W hC; exact (show World.rangeAt _ _ _ (It.vals _) from hC))); (case hu => exact Try.underlying56); (case hd => rfl); (case hi => kernel_rfl))
              case hC => exact HC
              case ha => (simp only [Act.put, List.setIfInBounds_toArray, List.set_cons_zero, List.set_cons_succ]; rfl)
              -- 13
              refine WZ.one (i := 13) rfl (by kernel_rfl) ?_
              conv => arg 4; arg 1; whnf
              go_wp2_with (go_at_call 24; refine (ref08Cmp_any y x _).mono ?_; rintro e w1 ⟨rfl, hb1⟩; have HC' := hCC _ _ hb1 HC)
              clear HC
              have HC := HC'
              clear HC' hb1
              refine ⟨HC, ?_⟩
              apply WZ.take (i := 14) (some 27) rfl rfl (by kernel_rfl) (by kernel_rfl) (by kernel_rfl) (calm_panic _) (by kernel_rfl)
              case hy => (refine .inl ⟨by kernel_rfl, fun W hC => ?_⟩; (try dsimp only at hC); go_simp; (try simp only [e2,e3,hcd]); rfl)
              case hC => exact HC
              case ha => (simp only [Act.put, List.setIfInBounds_toArray, List.set_cons_zero, List.set_cons_succ]; rfl)
              apply WZ.take (i := 15) (some 28) rfl rfl (by kernel_rfl) (by kernel_rfl) (by kernel_rfl) (calm_panic _) (by kernel_rfl)
              case hy => (refine .inl ⟨by kernel_rfl, fun W hC => ?_⟩; (try dsimp only at hC); go_simp; (try simp only [e2,e3,hcd]); rfl)
              case hC => exact HC
              case ha => (simp only [Act.put, List.setIfInBounds_toArray, List.set_cons_zero, List.set_cons_succ]; rfl)
              apply WZ.take (i := 16) (some 29) rfl rfl (by kernel_rfl) (by kernel_rfl) (by kernel_rfl) (calm_panic _) (by kernel_rfl)
              case hy => (refine .inl ⟨by kernel_rfl, fun W hC => ?_⟩; (try dsimp only at hC); go_simp; (try simp only [e2,e3,hcd]); rfl)
              case hC => exact HC
              case ha => (simp only [Act.put, List.setIfInBounds_toArray, List.set_cons_zero, List.set_cons_succ]; rfl)
              apply WZ.take (i := 17) (some 30) rfl rfl (by kernel_rfl) (by kernel_rfl) (by kernel_rfl) (calm_panic _) (by kernel_rfl)
              case hy => exact .inr ⟨by kernel_rfl, rfl⟩
              case hC => exact HC
              case ha => (simp only [Act.put, List.setIfInBounds_toArray, List.set_cons_zero, List.set_cons_succ]; rfl)
              apply WZ.take (i := 18) (some 31) rfl rfl (by kernel_rfl) (by kernel_rfl) (by kernel_rfl) (calm_panic _) (by kernel_rfl)
              case hy => exact .inr ⟨by kernel_rfl, rfl⟩
              case hC => exact HC
              case ha => (simp only [Act.put, List.setIfInBounds_toArray, List.set_cons_zero, List.set_cons_succ]; rfl)
              apply WZ.take (i := 19) (some 32) rfl rfl (by kernel_rfl) (by kernel_rfl) (by kernel_rfl) (calm_panic _) (by kernel_rfl)
              case hy => exact .inr ⟨by kernel_rfl, rfl⟩
              case hC => exact HC
              case ha => (simp only [Act.put, List.setIfInBounds_toArray, List.set_cons_zero, List.set_cons_succ]; rfl)
              apply WZ.take (i := 20) (some 33) rfl rfl (by kernel_rfl) (by kernel_rfl) (by kernel_rfl) (calm_panic _) (by kernel_rfl)
              case hy => exact .inr ⟨by kernel_rfl, rfl⟩
              case hC => exact HC
              case ha => (simp only [Act.put, List.setIfInBounds_toArray, List.set_cons_zero, List.set_cons_succ]; rfl)
              apply WZ.take (i := 21) (some 34) rfl rfl (by kernel_rfl) (by kernel_rfl) (by kernel_rfl) (calm_panic _) (by kernel_rfl)
              case hy => exact .inr ⟨by kernel_rfl, rfl⟩
              case hC => exact HC
              case ha => (simp only [Act.put, List.setIfInBounds_toArray, List.set_cons_zero, List.set_cons_succ]; rfl)
              apply WZ.take (i := 22) (some 35) rfl rfl (by kernel_rfl) (by kernel_rfl) (by kernel_rfl) (calm_panic _) (by kernel_rfl)
              case hy => exact .inr ⟨by kernel_rfl, rfl⟩
              case hC => exact HC
              case ha => (simp only [Act.put, List.setIfInBounds_toArray, List.set_cons_zero, List.set_cons_succ]; rfl)
              apply WZ.take (i := 23) (some 36) rfl rfl (by kernel_rfl) (by kernel_rfl) (by kernel_rfl) (calm_panic _) (by kernel_rfl)
              case hy => exact .inr ⟨by kernel_rfl, rfl⟩
              case hC => exact HC
              case ha => (simp only [Act.put, List.setIfInBounds_toArray, List.set_cons_zero, List.set_cons_succ]; rfl)
              apply WZ.take (i := 24) (some 37) rfl rfl (by kernel_rfl) (by kernel_rfl) (by kernel_rfl) (calm_panic _) (by kernel_rfl)
              case hy => exact .inr ⟨by kernel_rfl, rfl⟩
              case hC => exact HC
              case ha => (simp only [Act.put, List.setIfInBounds_toArray, List.set_cons_zero, List.set_cons_succ]; rfl)
              apply WZ.take (i := 25) (some 38) rfl rfl (by kernel_rfl) (by kernel_rfl) (by kernel_rfl) (calm_panic _) (by kernel_rfl)
              case hy => exact .inr ⟨by kernel_rfl, rfl⟩
              case hC => exact HC
              case ha => (simp only [Act.put, List.setIfInBounds_toArray, List.set_cons_zero, List.set_cons_succ]; rfl)
              apply WZ.take (i := 26) (some 39) rfl rfl (by kernel_rfl) (by kernel_rfl) (by kernel_rfl) (calm_panic _) (by kernel_rfl)
              case hy => exact .inr ⟨by kernel_rfl, rfl⟩
              case hC => exact HC
              case ha => (simp only [Act.put, List.setIfInBounds_toArray, List.set_cons_zero, List.set_cons_succ]; rfl)
              apply WZ.take (i := 27) (some 40) rfl rfl (by kernel_rfl) (by kernel_rfl) (by kernel_rfl) (calm_panic _) (by kernel_rfl)
              case hy => exact .inr ⟨by kernel_rfl, rfl⟩
              case hC => exact HC
              case ha => (simp only [Act.put, List.setIfInBounds_toArray, List.set_cons_zero, List.set_cons_succ]; rfl)
              apply WZ.take (i := 28) (some 41) rfl rfl (by kernel_rfl) (by kernel_rfl) (by kernel_rfl) (calm_panic _) (by kernel_rfl)
              case hy => exact .inr ⟨by kernel_rfl, rfl⟩
              case hC => exact HC
              case ha => (simp only [Act.put, List.setIfInBounds_toArray, List.set_cons_zero, List.set_cons_succ]; rfl)
              apply WZ.take (i := 29) (some 42) rfl rfl (by kernel_rfl) (by kernel_rfl) (by kernel_rfl) (calm_panic _) (by kernel_rfl)
              case hy => (refine .inl ⟨by kernel_rfl, fun W hC => ?_⟩; (try dsimp only at hC); go_simp; (try simp only [e2,e3,hcd]); rfl)
              case hC => exact HC
              case ha => (simp only [Act.put, List.setIfInBounds_toArray, List.set_cons_zero, List.set_cons_succ]; rfl)
              refine WZ.done (by kernel_rfl) ?_ _
              simp only [Calm, Exit.then]
              go_wp2
              have HCd := hCC _ _ ((Below.refl _ _).drew) HC
              clear HC
              have HC := HCd
              clear HCd
              refine region_wz (fun W' => W'.rangeAt g (i * 7) y.vals ∧ W'.rangeAt b (o + k * 7) x.vals ∧ W'.rangeAt g (i * 7) y.c.vals ∧ W'.rangeAt b (o + k * 7) x.c.vals ∧ W'.cell? ⟨g, i * 7 + 6, none⟩ = some (.int .i64 y.pos) ∧ W'.cell? ⟨b, o + k * 7 + 6, none⟩ = some (.int .i64 x.pos) ∧ Own W' w.heap.size 56 7 (some ⟨g, 0, none⟩) n co (its R) ∧ Below w.heap.size w W') none (by kernel_rfl) ?_
              apply WZ.take (i := 0) (some 61) rfl rfl (by kernel_rfl) (by kernel_rfl) (by kernel_rfl) (calm_panic _) (by kernel_rfl)
              case hy => (refine .inl ⟨by kernel_rfl, fun W hC => ?_⟩; (try dsimp only at hC); go_simp; (try simp only [e2,e3,hs]); rfl)
              case hC => exact HC
              case ha => (simp only [Act.put, List.setIfInBounds_toArray, List.set_cons_zero, List.set_cons_succ]; rfl)
              apply WZ.take (i := 1) (some 62) rfl rfl (by kernel_rfl) (by kernel_rfl) (by kernel_rfl) (calm_panic _) (by kernel_rfl)
              case hy => (refine .inl ⟨by kernel_rfl, fun W hC => ?_⟩; (try dsimp only at hC); go_simp; (try simp only [e2,e3,hs]); rfl)
              case hC => exact HC
              case ha => (simp only [Act.put, List.setIfInBounds_toArray, List.set_cons_zero, List.set_cons_succ]; rfl)
              apply WZ.take (i := 2) (some 63) rfl rfl (by kernel_rfl) (by kernel_rfl) (by kernel_rfl) (calm_panic _) (by kernel_rfl)
              case hy => (refine .inl ⟨by kernel_rfl, fun W hC => ?_⟩; (try dsimp only at hC); go_simp; (try simp only [e2,e3,hs]); rfl)
              case hC => exact HC
              case ha => (simp only [Act.put, List.setIfInBounds_toArray, List.set_cons_zero, List.set_cons_succ]; rfl)
              apply WZ.take (i := 3) (some 64) rfl rfl (by kernel_rfl) (by kernel_rfl) (by kernel_rfl) (calm_panic _) (by kernel_rfl)
              case hy => (refine .inl ⟨by kernel_rfl, fun W hC => ?_⟩; (try dsimp only at hC); go_simp; (try simp only [e2,e3,hs]); rfl)
              case hC => exact HC
              case ha => (simp only [Act.put, List.setIfInBounds_toArray, List.set_cons_zero, List.set_cons_succ]; rfl)
              apply WZ.take (i := 4) (some 65) rfl rfl (by kernel_rfl) (by kernel_rfl) (by kernel_rfl) (calm_panic _) (by kernel_rfl)
              case hy => (refine .inl ⟨by kernel_rfl, fun W hC => ?_⟩; (try dsimp only at hC); go_simp; (try simp only [e2,e3,hs]); rfl)
              case hC => exact HC
              case ha => (simp only [Act.put, List.setIfInBounds_toArray, List.set_cons_zero, List.set_cons_succ]; rfl)
              apply WZ.take (i := 5) (some 66) rfl rfl (by kernel_rfl) (by kernel_rfl) (by kernel_rfl) (calm_panic _) (by kernel_rfl)
              case hy => (refine .inl ⟨by kernel_rfl, fun W hC => ?_⟩; (try dsimp only at hC); go_simp; (try simp only [e2,e3,hs]); rfl)
              case hC => exact HC
              case ha => (simp only [Act.put, List.setIfInBounds_toArray, List.set_cons_zero, List.set_cons_succ]; rfl)
              apply WZ.take (i := 6) (some 67) rfl rfl (by kernel_rfl) (by kernel_rfl) (by kernel_rfl) (calm_panic _) (by kernel_rfl)
              case hy => (refine .inl ⟨by kernel_rfl, fun W hC => ?_⟩; (try dsimp only at hC); go_simp; (try simp only [e2,e3,hs]); rfl)
              case hC => exact HC
              case ha => (simp only [Act.put, List.setIfInBounds_toArray, List.set_cons_zero, List.set_cons_succ]; rfl)
              apply WZ.take (i := 7) (some 68) rfl rfl (by kernel_rfl) (by kernel_rfl) (by kernel_rfl) (calm_panic _) (by kernel_rfl)
              case hy => (refine .inl ⟨by kernel_rfl, fun W hC => ?_⟩; (try dsimp only at hC); go_simp; (try simp only [e2,e3,hs]); rfl)
              case hC => exact HC
              case ha => (simp only [Act.put, List.setIfInBounds_toArray, List.set_cons_zero, List.set_cons_succ]; rfl)
              apply WZ.take (i := 8) (some 69) rfl rfl (by kernel_rfl) (by kernel_rfl) (by kernel_rfl) (calm_panic _) (by kernel_rfl)
              case hy => (refine .inl ⟨by kernel_rfl, fun W hC => ?_⟩; (try dsimp only at hC); go_simp; (try simp only [e2,e3,hs]); rfl)
              case hC => exact HC
              case ha => (simp only [Act.put, List.setIfInBounds_toArray, List.set_cons_zero, List.set_cons_succ]; rfl)
              apply WZ.take (i := 9) (some 70) rfl rfl (by kernel_rfl) (by kernel_rfl) (by kernel_rfl) (calm_panic _) (by kernel_rfl)
              case hy => first | (apply yieldsIf_load_mid (by kernel_rfl) _ _ rfl _ _ rfl; (case hS => (intro W hC; exact (show World.rangeAt _ _ _ (Cl.vals _) from hC.1))); (case hu => exact Try.underlying53); (case hd => rfl); (case hi => kernel_rfl)) | (apply yieldsIf_load_mid (by kernel_rfl) _ _ rfl _ _ rfl; (case hS => (intro W hC; exact (show World.rangeAt _ _ _ (Cl.vals _) from hC.2.1))); (case hu => exact Try.underlying53); (case hd => rfl); (case hi => kernel_rfl)) | (apply yieldsIf_load_mid (by kernel_rfl) _ _ rfl _ _ rfl; (case hS => (intro W hC; exact (show World.rangeAt _ _ _ (Cl.vals _) from hC.2.2.1))); (case hu => exact Try.underlying53); (case hd => rfl); (case hi => kernel_rfl)) | (apply yieldsIf_load_mid (by kernel_rfl) _ _ rfl _ _ rfl; (case hS => (intro W hC; exact (show World.rangeAt _ _ _ (Cl.vals _) from hC.2.2.2.1))); (case hu => exact Try.underlying53); (case hd => rfl); (case hi => kernel_rfl)) | (apply yieldsIf_load_mid (by kernel_rfl) _ _ rfl _ _ rfl; (case hS => (intro W hC; exact (show World.rangeAt _ _ _ (Cl.vals _) from hC.2.2.2))); (case hu => exact Try.underlying53); (case hd => rfl); (case hi => kernel_rfl)) | (apply yieldsIf_load_mid (by kernel_rfl) _ _ rfl _ _ rfl; (case hS => (intro W hC; exact (show World.rangeAt _ _ _ (Cl.vals _) from hC.2.2))); (case hu => exact Try.underlying53); (case hd => rfl); (case hi => kernel_rfl)) | (apply yieldsIf_load_mid (by kernel_rfl) _ _ rfl _ _ rfl; (case hS => (intro W hC; exact (show World.rangeAt _ _ _ (Cl.vals _) from hC.2))); (case hu => exact Try.underlying53); (case hd => rfl); (case hi => kernel_rfl)) | (apply yieldsIf_load_mid (by kernel_rfl) _ _ rfl _ _ rfl; (case hS => (intro W hC; exact (show World.rangeAt _ _ _ (Cl.vals _) from hC))); (case hu => exact Try.underlying53); (case hd => rfl); (case hi => kernel_rfl))
              case hC => exact HC
              case ha => (simp only [Act.put, List.setIfInBounds_toArray, List.set_cons_zero, List.set_cons_succ]; rfl)
              apply WZ.take (i := 10) (some 71) rfl rfl (by kernel_rfl) (by kernel_rfl) (by kernel_rfl) (calm_panic _) (by kernel_rfl)
              case hy => (refine .inl ⟨by kernel_rfl, fun W hC => ?_⟩; (try dsimp only at hC); go_simp; (try simp only [e2,e3,hs]); rfl)
              case hC => exact HC
              case ha => (simp only [Act.put, List.setIfInBounds_toArray, List.set_cons_zero, List.set_cons_succ]; rfl)
              apply WZ.take (i := 11) (some 72) rfl rfl (by kernel_rfl) (by kernel_rfl) (by kernel_rfl) (calm_panic _) (by kernel_rfl)
              case hy => (refine .inl ⟨by kernel_rfl, fun W hC => ?_⟩; (try dsimp only at hC); go_simp; (try simp only [e2,e3,hs]); rfl)
              case hC => exact HC
              case ha => (simp only [Act.put, List.setIfInBounds_toArray, List.set_cons_zero, List.set_cons_succ]; rfl)
              apply WZ.take (i := 12) (some 73) rfl rfl (by kernel_rfl) (by kernel_rfl) (by kernel_rfl) (calm_panic _) (by kernel_rfl)
              case hy => (refine .inl ⟨by kernel_rfl, fun W hC => ?_⟩; (try dsimp only at hC); go_simp; (try simp only [e2,e3,hs]); rfl)
              case hC => exact HC
              case ha => (simp only [Act.put, List.setIfInBounds_toArray, List.set_cons_zero, List.set_cons_succ]; rfl)
              apply WZ.take (i := 13) (some 74) rfl rfl (by kernel_rfl) (by kernel_rfl) (by kernel_rfl) (calm_panic _) (by kernel_rfl)
              case hy => (refine .inl ⟨by kernel_rfl, fun W hC => ?_⟩; (try dsimp only at hC); go_simp; (try simp only [e2,e3,hs]); rfl)
              case hC => exact HC
              case ha => (simp only [Act.put, List.setIfInBounds_toArray, List.set_cons_zero, List.set_cons_succ]; rfl)
              apply WZ.take (i := 14) (some 75) rfl rfl (by kernel_rfl) (by kernel_rfl) (by kernel_rfl) (calm_panic _) (by kernel_rfl)
              case hy => first | (apply yieldsIf_load_mid (by kernel_rfl) _ _ rfl _ _ rfl; (case hS => (intro W hC; exact (show World.rangeAt _ _ _ (Cl.vals _) from hC.1))); (case hu => exact Try.underlying53); (case hd => rfl); (case hi => kernel_rfl)) | (apply yieldsIf_load_mid (by kernel_rfl) _ _ rfl _ _ rfl; (case hS => (intro W hC; exact (show World.rangeAt _ _ _ (Cl.vals _) from hC.2.1))); (case hu => exact Try.underlying53); (case hd => rfl); (case hi => kernel_rfl)) | (apply yieldsIf_load_mid (by kernel_rfl) _ _ rfl _ _ rfl; (case hS => (intro W hC; exact (show World.rangeAt _ _ _ (Cl.vals _) from hC.2.2.1))); (case hu => exact Try.underlying53); (case hd => rfl); (case hi => kernel_rfl)) | (apply yieldsIf_load_mid (by kernel_rfl) _ _ rfl _ _ rfl; (case hS => (intro W hC; exact (show World.rangeAt _ _ _ (Cl.vals _) from hC.2.2.2.1))); (case hu => exact Try.underlying53); (case hd => rfl); (case hi => kernel_rfl)) | (apply yieldsIf_load_mid (by kernel_rfl) _ _ rfl _ _ rfl; (case hS => (intro W hC; exact (show World.rangeAt _ _ _ (Cl.vals _) from hC.2.2.2))); (case hu => exact Try.underlying53); (case hd => rfl); (case hi => kernel_rfl)) | (apply yieldsIf_load_mid (by kernel_rfl) _ _ rfl _ _ rfl; (case hS => (intro W hC; exact (show World.rangeAt _ _ _ (Cl.vals _) from hC.2.2))); (case hu => exact Try.underlying53); (case hd => rfl); (case hi => kernel_rfl)) | (apply yieldsIf_load_mid (by kernel_rfl) _ _ rfl _ _ rfl; (case hS => (intro W hC; exact (show World.rangeAt _ _ _ (Cl.vals _) from hC.2))); (case hu => exact Try.underlying53); (case hd => rfl); (case hi => kernel_rfl)) | (apply yieldsIf_load_mid (by kernel_rfl) _ _ rfl _ _ rfl; (case hS => (intro W hC; exact (show World.rangeAt _ _ _ (Cl.vals _) from hC))); (case hu => exact Try.underlying53); (case hd => rfl); (case hi => kernel_rfl))
              case hC => exact HC
              case ha => (simp only [Act.put, List.setIfInBounds_toArray, List.set_cons_zero, List.set_cons_succ]; rfl)
              -- 15
              refine WZ.one (i := 15) rfl (by kernel_rfl) ?_
              conv => arg 4; arg 1; whnf
              go_wp2_with (go_at_call 23; refine (refSame_any y.c x.c _).mono ?_; rintro e w1 ⟨rfl, hb1⟩; have HC' := hCC _ _ hb1 HC)
              clear HC
              have HC := HC'
              clear HC' hb1
              refine ⟨HC, ?_⟩
              apply WZ.take (i := 16) (some 77) rfl rfl (by kernel_rfl) (by kernel_rfl) (by kernel_rfl) (calm_panic _) (by kernel_rfl)
              case hy => (refine .inl ⟨by kernel_rfl, fun W hC => ?_⟩; (try dsimp only at hC); go_simp; (try simp only [e2,e3,hs]); rfl)
              case hC => exact HC
              case ha => (simp only [Act.put, List.setIfInBounds_toArray, List.set_cons_zero, List.set_cons_succ]; rfl)
              apply WZ.take (i := 17) (some 60) rfl rfl (by kernel_rfl) (by kernel_rfl) (by kernel_rfl) (calm_panic _) (by kernel_rfl)
              case hy => (refine .inl ⟨by kernel_rfl, fun W hC => ?_⟩; (try dsimp only at hC); go_simp; (try simp only [e2,e3,hs]); rfl)
              case hC => exact HC
              case ha => (simp only [Act.put, List.setIfInBounds_toArray, List.set_cons_zero, List.set_cons_succ]; rfl)
              refine WZ.done (by kernel_rfl) ?_ _
              simp only [Calm, Exit.then]
              go_wp2
              have HCd := hCC _ _ ((Below.refl _ _).drew) HC
              clear HC
              have HC := HCd
              clear HCd
              by_cases hpos : y.pos < x.pos
              · have hp : decide (y.pos < x.pos) = true := decide_eq_true hpos
                have HSUCC := Lib.hid (HS1.out.trans (show rstep R x = R.set i x by have := HRS.out hs; rwa [if_pos hpos] at this))
                refine region_wz (fun W' => W'.rangeAt g (i * 7) y.vals ∧ W'.rangeAt b (o + k * 7) x.vals ∧ W'.rangeAt g (i * 7) y.c.vals ∧ W'.rangeAt b (o + k * 7) x.c.vals ∧ W'.cell? ⟨g, i * 7 + 6, none⟩ = some (.int .i64 y.pos) ∧ W'.cell? ⟨b, o + k * 7 + 6, none⟩ = some (.int .i64 x.pos) ∧ Own W' w.heap.size 56 7 (some ⟨g, 0, none⟩) n co (its R) ∧ Below w.heap.size w W') none (by kernel_rfl) ?_
                apply WZ.take (i := 0) (some 78) rfl rfl (by kernel_rfl) (by kernel_rfl) (by kernel_rfl) (calm_panic _) (by kernel_rfl)
                case hy => (refine .inl ⟨by kernel_rfl, fun W hC => ?_⟩; (try dsimp only at hC); go_simp; (try simp only [hp]); rfl)
                case hC => exact HC
                case ha => (simp only [Act.put, List.setIfInBounds_toArray, List.set_cons_zero, List.set_cons_succ]; rfl)
                apply WZ.take (i := 1) (some 79) rfl rfl (by kernel_rfl) (by kernel_rfl) (by kernel_rfl) (calm_panic _) (by kernel_rfl)
                case hy => (refine .inl ⟨by kernel_rfl, fun W hC => ?_⟩; (try dsimp only at hC); go_simp; (try simp only [hp]); rfl)
                case hC => exact HC
                case ha => (simp only [Act.put, List.setIfInBounds_toArray, List.set_cons_zero, List.set_cons_succ]; rfl)
                apply WZ.take (i := 2) (some 80) rfl rfl (by kernel_rfl) (by kernel_rfl) (by kernel_rfl) (calm_panic _) (by kernel_rfl)
                case hy => (refine .inl ⟨by kernel_rfl, fun W hC => ?_⟩; (try dsimp only at hC); go_simp; (try simp only [hp]); rfl)
                case hC => exact HC
                case ha => (simp only [Act.put, List.setIfInBounds_toArray, List.set_cons_zero, List.set_cons_succ]; rfl)
                apply WZ.take (i := 3) (some 81) rfl rfl (by kernel_rfl) (by kernel_rfl) (by kernel_rfl) (calm_panic _) (by kernel_rfl)
                case hy => (refine .inl ⟨by kernel_rfl, fun W hC => ?_⟩; (try dsimp only at hC); go_simp; (try simp only [hp]); rfl)
                case hC => exact HC
                case ha => (simp only [Act.put, List.setIfInBounds_toArray, List.set_cons_zero, List.set_cons_succ]; rfl)
                apply WZ.take (i := 4) (some 82) rfl rfl (by kernel_rfl) (by kernel_rfl) (by kernel_rfl) (calm_panic _) (by kernel_rfl)
                case hy => (refine .inl ⟨by kernel_rfl, fun W hC => ?_⟩; (try dsimp only at hC); go_simp; (try simp only [hp]); rfl)
                case hC => exact HC
                case ha => (simp only [Act.put, List.setIfInBounds_toArray, List.set_cons_zero, List.set_cons_succ]; rfl)
                apply WZ.take (i := 5) (some 83) rfl rfl (by kernel_rfl) (by kernel_rfl) (by kernel_rfl) (calm_panic _) (by kernel_rfl)
                case hy => (refine .inl ⟨by kernel_rfl, fun W hC => ?_⟩; (try dsimp only at hC); go_simp; (try simp only [hp]); rfl)
                case hC => exact HC
                case ha => (simp only [Act.put, List.setIfInBounds_toArray, List.set_cons_zero, List.set_cons_succ]; rfl)
                apply WZ.take (i := 6) (some 84) rfl rfl (by kernel_rfl) (by kernel_rfl) (by kernel_rfl) (calm_panic _) (by kernel_rfl)
                case hy => (refine .inl ⟨by kernel_rfl, fun W hC => ?_⟩; (try dsimp only at hC); go_simp; (try simp only [hp]); rfl)
                case hC => exact HC
                case ha => (simp only [Act.put, List.setIfInBounds_toArray, List.set_cons_zero, List.set_cons_succ]; rfl)
                apply WZ.take (i := 7) (some 85) rfl rfl (by kernel_rfl) (by kernel_rfl) (by kernel_rfl) (calm_panic _) (by kernel_rfl)
                case hy => (refine .inl ⟨by kernel_rfl, fun W hC => ?_⟩; (try dsimp only at hC); go_simp; (try simp only [hp]); rfl)
                case hC => exact HC
                case ha => (simp only [Act.put, List.setIfInBounds_toArray, List.set_cons_zero, List.set_cons_succ]; rfl)
                apply WZ.take (i := 8) (some 86) rfl rfl (by kernel_rfl) (by kernel_rfl) (by kernel_rfl) (calm_panic _) (by kernel_rfl)
                case hy => (refine .inl ⟨by kernel_rfl, fun W hC => ?_⟩; (try dsimp only at hC); go_simp; (try simp only [hp]); rfl)
                case hC => exact HC
                case ha => (simp only [Act.put, List.setIfInBounds_toArray, List.set_cons_zero, List.set_cons_succ]; rfl)
                apply WZ.take (i := 9) (some 87) rfl rfl (by kernel_rfl) (by kernel_rfl) (by kernel_rfl) (calm_panic _) (by kernel_rfl)
                case hy => (refine .inl ⟨by kernel_rfl, fun W hC => ?_⟩; (try dsimp only at hC); go_simp; (try simp only [hp]); rfl)
                case hC => exact HC
                case ha => (simp only [Act.put, List.setIfInBounds_toArray, List.set_cons_zero, List.set_cons_succ]; rfl)
                apply WZ.take (i := 10) (some 88) rfl rfl (by kernel_rfl) (by kernel_rfl) (by kernel_rfl) (calm_panic _) (by kernel_rfl)
                case hy => (refine .inl ⟨by kernel_rfl, fun W hC => ?_⟩; (try dsimp only at hC); go_simp; (try simp only [hp]); rfl)
                case hC => exact HC
                case ha => (simp only [Act.put, List.setIfInBounds_toArray, List.set_cons_zero, List.set_cons_succ]; rfl)
                refine WZ.done (by kernel_rfl) ?_ _
                simp only [Calm, Exit.then]
                have HP := Own.put It.vals_len (by omega) HC.2.2.2.2.2.2.1 (show i < R.length by omega) x
                have HB2 := Own.grow HC.2.2.2.2.2.2.1 HC.2.2.2.2.2.2.2 HC.2.2.2.2.2.2.2.size (Nat.le_refl _) HP.2.2
                go_wp2_with (first
                  | (show wpList _ _ _ ({ dst := some 94, op := Op.load _ _, type := _, pos := _, after := _, guard := _ } :: _) _ _; refine wpList_load_mid rfl 56 (.tmp 93) rfl b (o + k * 7) rfl x.vals _ HC.2.1 Try.underlying56 rfl (by kernel_rfl) ?_)
                  | (show wpList _ _ _ ({ dst := none, op := Op.store _ _ _, type := _, pos := _, after := _, guard := _ } :: _) _ _; refine wpList_store_mid rfl 56 (.tmp 95) (.tmp 94) rfl g (i * 7) _ rfl rfl HP.1 (by kernel_rfl) (all_oneCell_toArray x.one) ?_))
                exact ⟨⟨k + 1, n, some ⟨g, 0, none⟩, co, R.set i x, by omega, rfl, rfl, by omega, HSUCC, Lib.hid HP.2.1, Lib.hid HB2⟩, by simp [intOf]; omega⟩
              · have hp : decide (y.pos < x.pos) = false := decide_eq_false hpos
                have HSUCC := Lib.hid (HS1.out.trans (show rstep R x = R by have := HRS.out hs; rwa [if_neg hpos] at this))
                refine region_wz (fun W' => W'.rangeAt g (i * 7) y.vals ∧ W'.rangeAt b (o + k * 7) x.vals ∧ W'.rangeAt g (i * 7) y.c.vals ∧ W'.rangeAt b (o + k * 7) x.c.vals ∧ W'.cell? ⟨g, i * 7 + 6, none⟩ = some (.int .i64 y.pos) ∧ W'.cell? ⟨b, o + k * 7 + 6, none⟩ = some (.int .i64 x.pos) ∧ Own W' w.heap.size 56 7 (some ⟨g, 0, none⟩) n co (its R) ∧ Below w.heap.size w W') none (by kernel_rfl) ?_
                apply WZ.take (i := 0) (some 78) rfl rfl (by kernel_rfl) (by kernel_rfl) (by kernel_rfl) (calm_panic _) (by kernel_rfl)
                case hy => (refine .inl ⟨by kernel_rfl, fun W hC => ?_⟩; (try dsimp only at hC); go_simp; (try simp only [hp]); rfl)
                case hC => exact HC
                case ha => (simp only [Act.put, List.setIfInBounds_toArray, List.set_cons_zero, List.set_cons_succ]; rfl)
                apply WZ.take (i := 1) (some 79) rfl rfl (by kernel_rfl) (by kernel_rfl) (by kernel_rfl) (calm_panic _) (by kernel_rfl)
                case hy => (refine .inl ⟨by kernel_rfl, fun W hC => ?_⟩; (try dsimp only at hC); go_simp; (try simp only [hp]); rfl)
                case hC => exact HC
                case ha => (simp only [Act.put, List.setIfInBounds_toArray, List.set_cons_zero, List.set_cons_succ]; rfl)
                apply WZ.take (i := 2) (some 80) rfl rfl (by kernel_rfl) (by kernel_rfl) (by kernel_rfl) (calm_panic _) (by kernel_rfl)
                case hy => (refine .inl ⟨by kernel_rfl, fun W hC => ?_⟩; (try dsimp only at hC); go_simp; (try simp only [hp]); rfl)
                case hC => exact HC
                case ha => (simp only [Act.put, List.setIfInBounds_toArray, List.set_cons_zero, List.set_cons_succ]; rfl)
                apply WZ.take (i := 3) (some 81) rfl rfl (by kernel_rfl) (by kernel_rfl) (by kernel_rfl) (calm_panic _) (by kernel_rfl)
                case hy => (refine .inl ⟨by kernel_rfl, fun W hC => ?_⟩; (try dsimp only at hC); go_simp; (try simp only [hp]); rfl)
                case hC => exact HC
                case ha => (simp only [Act.put, List.setIfInBounds_toArray, List.set_cons_zero, List.set_cons_succ]; rfl)
                apply WZ.take (i := 4) (some 82) rfl rfl (by kernel_rfl) (by kernel_rfl) (by kernel_rfl) (calm_panic _) (by kernel_rfl)
                case hy => (refine .inl ⟨by kernel_rfl, fun W hC => ?_⟩; (try dsimp only at hC); go_simp; (try simp only [hp]); rfl)
                case hC => exact HC
                case ha => (simp only [Act.put, List.setIfInBounds_toArray, List.set_cons_zero, List.set_cons_succ]; rfl)
                apply WZ.take (i := 5) (some 83) rfl rfl (by kernel_rfl) (by kernel_rfl) (by kernel_rfl) (calm_panic _) (by kernel_rfl)
                case hy => (refine .inl ⟨by kernel_rfl, fun W hC => ?_⟩; (try dsimp only at hC); go_simp; (try simp only [hp]); rfl)
                case hC => exact HC
                case ha => (simp only [Act.put, List.setIfInBounds_toArray, List.set_cons_zero, List.set_cons_succ]; rfl)
                apply WZ.take (i := 6) (some 84) rfl rfl (by kernel_rfl) (by kernel_rfl) (by kernel_rfl) (calm_panic _) (by kernel_rfl)
                case hy => (refine .inl ⟨by kernel_rfl, fun W hC => ?_⟩; (try dsimp only at hC); go_simp; (try simp only [hp]); rfl)
                case hC => exact HC
                case ha => (simp only [Act.put, List.setIfInBounds_toArray, List.set_cons_zero, List.set_cons_succ]; rfl)
                apply WZ.take (i := 7) (some 85) rfl rfl (by kernel_rfl) (by kernel_rfl) (by kernel_rfl) (calm_panic _) (by kernel_rfl)
                case hy => (refine .inl ⟨by kernel_rfl, fun W hC => ?_⟩; (try dsimp only at hC); go_simp; (try simp only [hp]); rfl)
                case hC => exact HC
                case ha => (simp only [Act.put, List.setIfInBounds_toArray, List.set_cons_zero, List.set_cons_succ]; rfl)
                apply WZ.take (i := 8) (some 86) rfl rfl (by kernel_rfl) (by kernel_rfl) (by kernel_rfl) (calm_panic _) (by kernel_rfl)
                case hy => (refine .inl ⟨by kernel_rfl, fun W hC => ?_⟩; (try dsimp only at hC); go_simp; (try simp only [hp]); rfl)
                case hC => exact HC
                case ha => (simp only [Act.put, List.setIfInBounds_toArray, List.set_cons_zero, List.set_cons_succ]; rfl)
                apply WZ.take (i := 9) (some 87) rfl rfl (by kernel_rfl) (by kernel_rfl) (by kernel_rfl) (calm_panic _) (by kernel_rfl)
                case hy => (refine .inl ⟨by kernel_rfl, fun W hC => ?_⟩; (try dsimp only at hC); go_simp; (try simp only [hp]); rfl)
                case hC => exact HC
                case ha => (simp only [Act.put, List.setIfInBounds_toArray, List.set_cons_zero, List.set_cons_succ]; rfl)
                apply WZ.take (i := 10) (some 88) rfl rfl (by kernel_rfl) (by kernel_rfl) (by kernel_rfl) (calm_panic _) (by kernel_rfl)
                case hy => (refine .inl ⟨by kernel_rfl, fun W hC => ?_⟩; (try dsimp only at hC); go_simp; (try simp only [hp]); rfl)
                case hC => exact HC
                case ha => (simp only [Act.put, List.setIfInBounds_toArray, List.set_cons_zero, List.set_cons_succ]; rfl)
                refine WZ.done (by kernel_rfl) ?_ _
                simp only [Calm, Exit.then]
                go_wp2
                exact ⟨⟨k + 1, n, some ⟨g, 0, none⟩, co, R, by omega, rfl, rfl, by omega, HSUCC, Lib.hid HC.2.2.2.2.2.2.1, Lib.hid HC.2.2.2.2.2.2.2⟩, by simp [intOf]; omega⟩
          | false =>
            by_cases hcmp : y.cmp x < 0
            · have hcd : decide (y.cmp x < 0) = true := decide_eq_true hcmp
              have HUN := Lib.hid (HUS.out hcmp hs)
              go_wp2
              refine region_wz (fun W' => W'.rangeAt g (i * 7) y.vals ∧ W'.rangeAt b (o + k * 7) x.vals ∧ W'.rangeAt g (i * 7) y.c.vals ∧ W'.rangeAt b (o + k * 7) x.c.vals ∧ W'.cell? ⟨g, i * 7 + 6, none⟩ = some (.int .i64 y.pos) ∧ W'.cell? ⟨b, o + k * 7 + 6, none⟩ = some (.int .i64 x.pos) ∧ Own W' w.heap.size 56 7 (some ⟨g, 0, none⟩) n co (its R) ∧ Below w.heap.size w W') none (by kernel_rfl) ?_
              apply WZ.take (i := 0) (some 13) rfl rfl (by kernel_rfl) (by kernel_rfl) (by kernel_rfl) (calm_panic _) (by kernel_rfl)
              case hy => (refine .inl ⟨by kernel_rfl, fun W hC => ?_⟩; (try dsimp only at hC); go_simp; (try simp only [e2,e3,hcd,hs]); rfl)
              case hC => exact HC
              case ha => (simp only [Act.put, List.setIfInBounds_toArray, List.set_cons_zero, List.set_cons_succ]; rfl)
              apply WZ.take (i := 1) (some 14) rfl rfl (by kernel_rfl) (by kernel_rfl) (by kernel_rfl) (calm_panic _) (by kernel_rfl)
              case hy => (refine .inl ⟨by kernel_rfl, fun W hC => ?_⟩; (try dsimp only at hC); go_simp; (try simp only [e2,e3,hcd,hs]); rfl)
              case hC => exact HC
              case ha => (simp only [Act.put, List.setIfInBounds_toArray, List.set_cons_zero, List.set_cons_succ]; rfl)
              apply WZ.take (i := 2) (some 15) rfl rfl (by kernel_rfl) (by kernel_rfl) (by kernel_rfl) (calm_panic _) (by kernel_rfl)
              case hy => (refine .inl ⟨by kernel_rfl, fun W hC => ?_⟩; (try dsimp only at hC); go_simp; (try simp only [e2,e3,hcd,hs]); rfl)
              case hC => exact HC
              case ha => (simp only [Act.put, List.setIfInBounds_toArray, List.set_cons_zero, List.set_cons_succ]; rfl)
              apply WZ.take (i := 3) (some 16) rfl rfl (by kernel_rfl) (by kernel_rfl) (by kernel_rfl) (calm_panic _) (by kernel_rfl)
              case hy => (refine .inl ⟨by kernel_rfl, fun W hC => ?_⟩; (try dsimp only at hC); go_simp; (try simp only [e2,e3,hcd,hs]); rfl)
              case hC => exact HC
              case ha => (simp only [Act.put, List.setIfInBounds_toArray, List.set_cons_zero, List.set_cons_succ]; rfl)
              apply WZ.take (i := 4) (some 17) rfl rfl (by kernel_rfl) (by kernel_rfl) (by kernel_rfl) (calm_panic _) (by kernel_rfl)
              case hy => (refine .inl ⟨by kernel_rfl, fun W hC => ?_⟩; (try dsimp only at hC); go_simp; (try simp only [e2,e3,hcd,hs]); rfl)
              case hC => exact HC
              case ha => (simp only [Act.put, List.setIfInBounds_toArray, List.set_cons_zero, List.set_cons_succ]; rfl)
              apply WZ.take (i := 5) (some 18) rfl rfl (by kernel_rfl) (by kernel_rfl) (by kernel_rfl) (calm_panic _) (by kernel_rfl)
              case hy => (refine .inl ⟨by kernel_rfl, fun W hC => ?_⟩; (try dsimp only at hC); go_simp; (try simp only [e2,e3,hcd,hs]); rfl)
              case hC => exact HC
              case ha => (simp only [Act.put, List.setIfInBounds_toArray, List.set_cons_zero, List.set_cons_succ]; rfl)
              apply WZ.take (i := 6) (some 19) rfl rfl (by kernel_rfl) (by kernel_rfl) (by kernel_rfl) (calm_panic _) (by kernel_rfl)
              case hy => (refine .inl ⟨by kernel_rfl, fun W hC => ?_⟩; (try dsimp only at hC); go_simp; (try simp only [e2,e3,hcd,hs]); rfl)
              case hC => exact HC
              case ha => (simp only [Act.put, List.setIfInBounds_toArray, List.set_cons_zero, List.set_cons_succ]; rfl)
              apply WZ.take (i := 7) (some 20) rfl rfl (by kernel_rfl) (by kernel_rfl) (by kernel_rfl) (calm_panic _) (by kernel_rfl)
              case hy => (refine .inl ⟨by kernel_rfl, fun W hC => ?_⟩; (try dsimp only at hC); go_simp; (try simp only [e2,e3,hcd,hs]); rfl)
              case hC => exact HC
              case ha => (simp only [Act.put, List.setIfInBounds_toArray, List.set_cons_zero, List.set_cons_succ]; rfl)
              apply WZ.take (i := 8) (some 21) rfl rfl (by kernel_rfl) (by kernel_rfl) (by kernel_rfl) (calm_panic _) (by kernel_rfl)
              case hy => first | (apply yieldsIf_load_mid (by kernel_rfl) _ _ rfl _ _ rfl; (case hS => (intro W hC; exact (show World.rangeAt _ _ _ (It.vals _) from hC.1))); (case hu => exact Try.underlying56); (case hd => rfl); (case hi => kernel_rfl)) | (apply yieldsIf_load_mid (by kernel_rfl) _ _ rfl _ _ rfl; (case hS => (intro W hC; exact (show World.rangeAt _ _ _ (It.vals _) from hC.2.1))); (case hu => exact Try.underlying56); (case hd => rfl); (case hi => kernel_rfl)) | (apply yieldsIf_load_mid (by kernel_rfl) _ _ rfl _ _ rfl; (case hS => (intro W hC; exact (show World.rangeAt _ _ _ (It.vals _) from hC.2.2.1))); (case hu => exact Try.underlying56); (case hd => rfl); (case hi => kernel_rfl)) | (apply yieldsIf_load_mid (by kernel_rfl) _ _ rfl _ _ rfl; (case hS => (intro W hC; exact (show World.rangeAt _ _ _ (It.vals _) from hC.2.2.2.1))); (case hu => exact Try.underlying56); (case hd => rfl); (case hi => kernel_rfl)) | (apply yieldsIf_load_mid (by kernel_rfl) _ _ rfl _ _ rfl; (case hS => (intro W hC; exact (show World.rangeAt _ _ _ (It.vals _) from hC.2.2.2))); (case hu => exact Try.underlying56); (case hd => rfl); (case hi => kernel_rfl)) | (apply yieldsIf_load_mid (by kernel_rfl) _ _ rfl _ _ rfl; (case hS => (intro W hC; exact (show World.rangeAt _ _ _ (It.vals _) from hC.2.2))); (case hu => exact Try.underlying56); (case hd => rfl); (case hi => kernel_rfl)) | (apply yieldsIf_load_mid (by kernel_rfl) _ _ rfl _ _ rfl; (case hS => (intro W hC; exact (show World.rangeAt _ _ _ (It.vals _) from hC.2))); (case hu => exact Try.underlying56); (case hd => rfl); (case hi => kernel_rfl)) | (apply yieldsIf_load_mid (by kernel_rfl) _ _ rfl _ _ rfl; (case hS => (intro W hC; exact (show World.rangeAt _ _ _ (It.vals _) from hC))); (case hu => exact Try.underlying56); (case hd => rfl); (case hi => kernel_rfl))
              case hC => exact HC
              case ha => (simp only [Act.put, List.setIfInBounds_toArray, List.set_cons_zero, List.set_cons_succ]; rfl)
              apply WZ.take (i := 9) (some 22) rfl rfl (by kernel_rfl) (by kernel_rfl) (by kernel_rfl) (calm_panic _) (by kernel_rfl)
              case hy => (refine .inl ⟨by kernel_rfl, fun W hC => ?_⟩; (try dsimp only at hC); go_simp; (try simp only [e2,e3,hcd,hs]); rfl)
              case hC => exact HC
              case ha => (simp only [Act.put, List.setIfInBounds_toArray, List.set_cons_zero, List.set_cons_succ]; rfl)
              apply WZ.take (i := 10) (some 23) rfl rfl (by kernel_rfl) (by kernel_rfl) (by kernel_rfl) (calm_panic _) (by kernel_rfl)
              case hy => (refine .inl ⟨by kernel_rfl, fun W hC => ?_⟩; (try dsimp only at hC); go_simp; (try simp only [e2,e3,hcd,hs]); rfl)
              case hC => exact HC
              case ha => (simp only [Act.put, List.setIfInBounds_toArray, List.set_cons_zero, List.set_cons_succ]; rfl)
              apply WZ.take (i := 11) (some 24) rfl rfl (by kernel_rfl) (by kernel_rfl) (by kernel_rfl) (calm_panic _) (by kernel_rfl)
              case hy => (refine .inl ⟨by kernel_rfl, fun W hC => ?_⟩; (try dsimp only at hC); go_simp; (try simp only [e2,e3,hcd,hs]); rfl)
              case hC => exact HC
              case ha => (simp only [Act.put, List.setIfInBounds_toArray, List.set_cons_zero, List.set_cons_succ]; rfl)
              apply WZ.take (i := 12) (some 25) rfl rfl (by kernel_rfl) (by kernel_rfl) (by kernel_rfl) (calm_panic _) (by kernel_rfl)
              case hy => first | (apply yieldsIf_load_mid (by kernel_rfl) _ _ rfl _ _ rfl; (case hS => (intro W hC; exact (show World.rangeAt _ _ _ (It.vals _) from hC.1))); (case hu => exact Try.underlying56); (case hd => rfl); (case hi => kernel_rfl)) | (apply yieldsIf_load_mid (by kernel_rfl) _ _ rfl _ _ rfl; (case hS => (intro W hC; exact (show World.rangeAt _ _ _ (It.vals _) from hC.2.1))); (case hu => exact Try.underlying56); (case hd => rfl); (case hi => kernel_rfl)) | (apply yieldsIf_load_mid (by kernel_rfl) _ _ rfl _ _ rfl; (case hS => (intro W hC; exact (show World.rangeAt _ _ _ (It.vals _) from hC.2.2.1))); (case hu => exact Try.underlying56); (case hd => rfl); (case hi => kernel_rfl)) | (apply yieldsIf_load_mid (by kernel_rfl) _ _ rfl _ _ rfl; (case hS => (intro W hC; exact (show World.rangeAt _ _ _ (It.vals _) from hC.2.2.2.1))); (case hu => exact Try.underlying56); (case hd => rfl); (case hi => kernel_rfl)) | (apply yieldsIf_load_mid (by kernel_rfl) _ _ rfl _ _ rfl; (case hS => (intro W hC; exact (show World.rangeAt _ _ _ (It.vals _) from hC.2.2.2))); (case hu => exact Try.underlying56); (case hd => rfl); (case hi => kernel_rfl)) | (apply yieldsIf_load_mid (by kernel_rfl) _ _ rfl _ _ rfl; (case hS => (intro W hC; exact (show World.rangeAt _ _ _ (It.vals _) from hC.2.2))); (case hu => exact Try.underlying56); (case hd => rfl); (case hi => kernel_rfl)) | (apply yieldsIf_load_mid (by kernel_rfl) _ _ rfl _ _ rfl; (case hS => (intro W hC; exact (show World.rangeAt _ _ _ (It.vals _) from hC.2))); (case hu => exact Try.underlying56); (case hd => rfl); (case hi => kernel_rfl)) | (apply yieldsIf_load_mid (by kernel_rfl) _ _ rfl _ _ rfl; (case hS => (intro W hC; exact (show World.rangeAt _ _ _ (It.vals _) from hC))); (case hu => exact Try.underlying56); (case hd => rfl); (case hi => kernel_rfl))
              case hC => exact HC
              case ha => (simp only [Act.put, List.setIfInBounds_toArray, List.set_cons_zero, List.set_cons_succ]; rfl)
              -- 13
              refine WZ.one (i := 13) rfl (by kernel_rfl) ?_
              conv => arg 4; arg 1; whnf
              go_wp2_with (go_at_call 24; refine (ref08Cmp_any y x _).mono ?_; rintro e w1 ⟨rfl, hb1⟩; have HC' := hCC _ _ hb1 HC)
              clear HC
              have HC := HC'
              clear HC' hb1
              refine ⟨HC, ?_⟩
              apply WZ.take (i := 14) (some 27) rfl rfl (by kernel_rfl) (by kernel_rfl) (by kernel_rfl) (calm_panic _) (by kernel_rfl)
              case hy => (refine .inl ⟨by kernel_rfl, fun W hC => ?_⟩; (try dsimp only at hC); go_simp; (try simp only [e2,e3,hcd,hs]); rfl)
              case hC => exact HC
              case ha => (simp only [Act.put, List.setIfInBounds_toArray, List.set_cons_zero, List.set_cons_succ]; rfl)
              apply WZ.take (i := 15) (some 28) rfl rfl (by kernel_rfl) (by kernel_rfl) (by kernel_rfl) (calm_panic _) (by kernel_rfl)
              case hy => (refine .inl ⟨by kernel_rfl, fun W hC => ?_⟩; (try dsimp only at hC); go_simp; (try simp only [e2,e3,hcd,hs]); rfl)
              case hC => exact HC
              case ha => (simp only [Act.put, List.setIfInBounds_toArray, List.set_cons_zero, List.set_cons_succ]; rfl)
              apply WZ.take (i := 16) (some 29) rfl rfl (by kernel_rfl) (by kernel_rfl) (by kernel_rfl) (calm_panic _) (by kernel_rfl)
              case hy => (refine .inl ⟨by kernel_rfl, fun W hC => ?_⟩; (try dsimp only at hC); go_simp; (try simp only [e2,e3,hcd,hs]); rfl)
              case hC => exact HC
              case ha => (simp only [Act.put, List.setIfInBounds_toArray, List.set_cons_zero, List.set_cons_succ]; rfl)
              apply WZ.take (i := 17) (some 30) rfl rfl (by kernel_rfl) (by kernel_rfl) (by kernel_rfl) (calm_panic _) (by kernel_rfl)
              case hy => (refine .inl ⟨by kernel_rfl, fun W hC => ?_⟩; (try dsimp only at hC); go_simp; (try simp only [e2,e3,hcd,hs]); rfl)
              case hC => exact HC
              case ha => (simp only [Act.put, List.setIfInBounds_toArray, List.set_cons_zero, List.set_cons_succ]; rfl)
              apply WZ.take (i := 18) (some 31) rfl rfl (by kernel_rfl) (by kernel_rfl) (by kernel_rfl) (calm_panic _) (by kernel_rfl)
              case hy => (refine .inl ⟨by kernel_rfl, fun W hC => ?_⟩; (try dsimp only at hC); go_simp; (try simp only [e2,e3,hcd,hs]); rfl)
              case hC => exact HC
              case ha => (simp only [Act.put, List.setIfInBounds_toArray, List.set_cons_zero, List.set_cons_succ]; rfl)
              apply WZ.take (i := 19) (some 32) rfl rfl (by kernel_rfl) (by kernel_rfl) (by kernel_rfl) (calm_panic _) (by kernel_rfl)
              case hy => (refine .inl ⟨by kernel_rfl, fun W hC => ?_⟩; (try dsimp only at hC); go_simp; (try simp only [e2,e3,hcd,hs]); rfl)
              case hC => exact HC
              case ha => (simp only [Act.put, List.setIfInBounds_toArray, List.set_cons_zero, List.set_cons_succ]; rfl)
              apply WZ.take (i := 20) (some 33) rfl rfl (by kernel_rfl) (by kernel_rfl) (by kernel_rfl) (calm_panic _) (by kernel_rfl)
              case hy => (refine .inl ⟨by kernel_rfl, fun W hC => ?_⟩; (try dsimp only at hC); go_simp; (try simp only [e2,e3,hcd,hs]); rfl)
              case hC => exact HC
              case ha => (simp only [Act.put, List.setIfInBounds_toArray, List.set_cons_zero, List.set_cons_succ]; rfl)
              apply WZ.take (i := 21) (some 34) rfl rfl (by kernel_rfl) (by kernel_rfl) (by kernel_rfl) (calm_panic _) (by kernel_rfl)
              case hy => first | (apply yieldsIf_load_mid (by kernel_rfl) _ _ rfl _ _ rfl; (case hS => (intro W hC; exact (show World.rangeAt _ _ _ (Cl.vals _) from hC.1))); (case hu => exact Try.underlying53); (case hd => rfl); (case hi => kernel_rfl)) | (apply yieldsIf_load_mid (by kernel_rfl) _ _ rfl _ _ rfl; (case hS => (intro W hC; exact (show World.rangeAt _ _ _ (Cl.vals _) from hC.2.1))); (case hu => exact Try.underlying53); (case hd => rfl); (case hi => kernel_rfl)) | (apply yieldsIf_load_mid (by kernel_rfl) _ _ rfl _ _ rfl; (case hS => (intro W hC; exact (show World.rangeAt _ _ _ (Cl.vals _) from hC.2.2.1))); (case hu => exact Try.underlying53); (case hd => rfl); (case hi => kernel_rfl)) | (apply yieldsIf_load_mid (by kernel_rfl) _ _ rfl _ _ rfl; (case hS => (intro W hC; exact (show World.rangeAt _ _ _ (Cl.vals _) from hC.2.2.2.1))); (case hu => exact Try.underlying53); (case hd => rfl); (case hi => kernel_rfl)) | (apply yieldsIf_load_mid (by kernel_rfl) _ _ rfl _ _ rfl; (case hS => (intro W hC; exact (show World.rangeAt _ _ _ (Cl.vals _) from hC.2.2.2))); (case hu => exact Try.underlying53); (case hd => rfl); (case hi => kernel_rfl)) | (apply yieldsIf_load_mid (by kernel_rfl) _ _ rfl _ _ rfl; (case hS => (intro W hC; exact (show World.rangeAt _ _ _ (Cl.vals _) from hC.2.2))); (case hu => exact Try.underlying53); (case hd => rfl); (case hi => kernel_rfl)) | (apply yieldsIf_load_mid (by kernel_rfl) _ _ rfl _ _ rfl; (case hS => (intro W hC; exact (show World.rangeAt _ _ _ (Cl.vals _) from hC.2))); (case hu => exact Try.underlying53); (case hd => rfl); (case hi => kernel_rfl)) | (apply yieldsIf_load_mid (by kernel_rfl) _ _ rfl _ _ rfl; (case hS => (intro W hC; exact (show World.rangeAt _ _ _ (Cl.vals _) from hC))); (case hu => exact Try.underlying53); (case hd => rfl); (case hi => kernel_rfl))
              case hC => exact HC
              case ha => (simp only [Act.put, List.setIfInBounds_toArray, List.set_cons_zero, List.set_cons_succ]; rfl)
              apply WZ.take (i := 22) (some 35) rfl rfl (by kernel_rfl) (by kernel_rfl) (by kernel_rfl) (calm_panic _) (by kernel_rfl)
              case hy => (refine .inl ⟨by kernel_rfl, fun W hC => ?_⟩; (try dsimp only at hC); go_simp; (try simp only [e2,e3,hcd,hs]); rfl)
              case hC => exact HC
              case ha => (simp only [Act.put, List.setIfInBounds_toArray, List.set_cons_zero, List.set_cons_succ]; rfl)
              apply WZ.take (i := 23) (some 36) rfl rfl (by kernel_rfl) (by kernel_rfl) (by kernel_rfl) (calm_panic _) (by kernel_rfl)
              case hy => (refine .inl ⟨by kernel_rfl, fun W hC => ?_⟩; (try dsimp only at hC); go_simp; (try simp only [e2,e3,hcd,hs]); rfl)
              case hC => exact HC
              case ha => (simp only [Act.put, List.setIfInBounds_toArray, List.set_cons_zero, List.set_cons_succ]; rfl)
              apply WZ.take (i := 24) (some 37) rfl rfl (by kernel_rfl) (by kernel_rfl) (by kernel_rfl) (calm_panic _) (by kernel_rfl)
              case hy => (refine .inl ⟨by kernel_rfl, fun W hC => ?_⟩; (try dsimp only at hC); go_simp; (try simp only [e2,e3,hcd,hs]); rfl)
              case hC => exact HC
              case ha => (simp only [Act.put, List.setIfInBounds_toArray, List.set_cons_zero, List.set_cons_succ]; rfl)
              apply WZ.take (i := 25) (some 38) rfl rfl (by kernel_rfl) (by kernel_rfl) (by kernel_rfl) (calm_panic _) (by kernel_rfl)
              case hy => (refine .inl ⟨by kernel_rfl, fun W hC => ?_⟩; (try dsimp only at hC); go_simp; (try simp only [e2,e3,hcd,hs]); rfl)
              case hC => exact HC
              case ha => (simp only [Act.put, List.setIfInBounds_toArray, List.set_cons_zero, List.set_cons_succ]; rfl)
              apply WZ.take (i := 26) (some 39) rfl rfl (by kernel_rfl) (by kernel_rfl) (by kernel_rfl) (calm_panic _) (by kernel_rfl)
              case hy => first | (apply yieldsIf_load_mid (by kernel_rfl) _ _ rfl _ _ rfl; (case hS => (intro W hC; exact (show World.rangeAt _ _ _ (Cl.vals _) from hC.1))); (case hu => exact Try.underlying53); (case hd => rfl); (case hi => kernel_rfl)) | (apply yieldsIf_load_mid (by kernel_rfl) _ _ rfl _ _ rfl; (case hS => (intro W hC; exact (show World.rangeAt _ _ _ (Cl.vals _) from hC.2.1))); (case hu => exact Try.underlying53); (case hd => rfl); (case hi => kernel_rfl)) | (apply yieldsIf_load_mid (by kernel_rfl) _ _ rfl _ _ rfl; (case hS => (intro W hC; exact (show World.rangeAt _ _ _ (Cl.vals _) from hC.2.2.1))); (case hu => exact Try.underlying53); (case hd => rfl); (case hi => kernel_rfl)) | (apply yieldsIf_load_mid (by kernel_rfl) _ _ rfl _ _ rfl; (case hS => (intro W hC; exact (show World.rangeAt _ _ _ (Cl.vals _) from hC.2.2.2.1))); (case hu => exact Try.underlying53); (case hd => rfl); (case hi => kernel_rfl)) | (apply yieldsIf_load_mid (by kernel_rfl) _ _ rfl _ _ rfl; (case hS => (intro W hC; exact (show World.rangeAt _ _ _ (Cl.vals _) from hC.2.2.2))); (case hu => exact Try.underlying53); (case hd => rfl); (case hi => kernel_rfl)) | (apply yieldsIf_load_mid (by kernel_rfl) _ _ rfl _ _ rfl; (case hS => (intro W hC; exact (show World.rangeAt _ _ _ (Cl.vals _) from hC.2.2))); (case hu => exact Try.underlying53); (case hd => rfl); (case hi => kernel_rfl)) | (apply yieldsIf_load_mid (by kernel_rfl) _ _ rfl _ _ rfl; (case hS => (intro W hC; exact (show World.rangeAt _ _ _ (Cl.vals _) from hC.2))); (case hu => exact Try.underlying53); (case hd => rfl); (case hi => kernel_rfl)) | (apply yieldsIf_load_mid (by kernel_rfl) _ _ rfl _ _ rfl; (case hS => (intro W hC; exact (show World.rangeAt _ _ _ (Cl.vals _) from hC))); (case hu => exact Try.underlying53); (case hd => rfl); (case hi => kernel_rfl))
              case hC => exact HC
              case ha => (simp only [Act.put, List.setIfInBounds_toArray, List.set_cons_zero, List.set_cons_succ]; rfl)
              -- 27
              refine WZ.one (i := 27) rfl (by kernel_rfl) ?_
              conv => arg 4; arg 1; whnf
              go_wp2_with (go_at_call 23; refine (refSame_any y.c x.c _).mono ?_; rintro e w1 ⟨rfl, hb1⟩; have HC' := hCC _ _ hb1 HC)
              clear HC
              have HC := HC'
              clear HC' hb1
              refine ⟨HC, ?_⟩
              apply WZ.take (i := 28) (some 41) rfl rfl (by kernel_rfl) (by kernel_rfl) (by kernel_rfl) (calm_panic _) (by kernel_rfl)
              case hy => (refine .inl ⟨by kernel_rfl, fun W hC => ?_⟩; (try dsimp only at hC); go_simp; (try simp only [e2,e3,hcd,hs]); rfl)
              case hC => exact HC
              case ha => (simp only [Act.put, List.setIfInBounds_toArray, List.set_cons_zero, List.set_cons_succ]; rfl)
              apply WZ.take (i := 29) (some 42) rfl rfl (by kernel_rfl) (by kernel_rfl) (by kernel_rfl) (calm_panic _) (by kernel_rfl)
              case hy => (refine .inl ⟨by kernel_rfl, fun W hC => ?_⟩; (try dsimp only at hC); go_simp; (try simp only [e2,e3,hcd,hs]); rfl)
              case hC => exact HC
              case ha => (simp only [Act.put, List.setIfInBounds_toArray, List.set_cons_zero, List.set_cons_succ]; rfl)
              refine WZ.done (by kernel_rfl) ?_ _
              simp only [Calm, Exit.then]
              go_wp2
              exact ⟨⟨i + 1, by omega, rfl, HUN, Lib.hid HC.2.2.2.2.2.2.1, Lib.hid HC.2.2.2.2.2.2.2⟩, by simp [intOf]; omega⟩
            · have hcd : decide (y.cmp x < 0) = false := decide_eq_false hcmp
              have HSUCC := Lib.hid (HS1.out.trans (HRI.out ⟨hcmp, hs⟩))
              go_wp2
              refine region_wz (fun W' => W'.rangeAt g (i * 7) y.vals ∧ W'.rangeAt b (o + k * 7) x.vals ∧ W'.rangeAt g (i * 7) y.c.vals ∧ W'.rangeAt b (o + k * 7) x.c.vals ∧ W'.cell? ⟨g, i * 7 + 6, none⟩ = some (.int .i64 y.pos) ∧ W'.cell? ⟨b, o + k * 7 + 6, none⟩ = some (.int .i64 x.pos) ∧ Own W' w.heap.size 56 7 (some ⟨g, 0, none⟩) n co (its R) ∧ Below w.heap.size w W') none (by kernel_rfl) ?_
              apply WZ.take (i := 0) (some 13) rfl rfl (by kernel_rfl) (by kernel_rfl) (by kernel_rfl) (calm_panic _) (by kernel_rfl)
              case hy => (refine .inl ⟨by kernel_rfl, fun W hC => ?_⟩; (try dsimp only at hC); go_simp; (try simp only [e2,e3,hcd]); rfl)
              case hC => exact HC
              case ha => (simp only [Act.put, List.setIfInBounds_toArray, List.set_cons_zero, List.set_cons_succ]; rfl)
              apply WZ.take (i := 1) (some 14) rfl rfl (by kernel_rfl) (by kernel_rfl) (by kernel_rfl) (calm_panic _) (by kernel_rfl)
              case hy => (refine .inl ⟨by kernel_rfl, fun W hC => ?_⟩; (try dsimp only at hC); go_simp; (try simp only [e2,e3,hcd]); rfl)
              case hC => exact HC
              case ha => (simp only [Act.put, List.setIfInBounds_toArray, List.set_cons_zero, List.set_cons_succ]; rfl)
              apply WZ.take (i := 2) (some 15) rfl rfl (by kernel_rfl) (by kernel_rfl) (by kernel_rfl) (calm_panic _) (by kernel_rfl)
              case hy => (refine .inl ⟨by kernel_rfl, fun W hC => ?_⟩; (try dsimp only at hC); go_simp; (try simp only [e2,e3,hcd]); rfl)
              case hC => exact HC
              case ha => (simp only [Act.put, List.setIfInBounds_toArray, List.set_cons_zero, List.set_cons_succ]; rfl)
              apply WZ.take (i := 3) (some 16) rfl rfl (by kernel_rfl) (by kernel_rfl) (by kernel_rfl) (calm_panic _) (by kernel_rfl)
              case hy => (refine .inl ⟨by kernel_rfl, fun W hC => ?_⟩; (try dsimp only at hC); go_simp; (try simp only [e2,e3,hcd]); rfl)
              case hC => exact HC
              case ha => (simp only [Act.put, List.setIfInBounds_toArray, List.set_cons_zero, List.set_cons_succ]; rfl)
              apply WZ.take (i := 4) (some 17) rfl rfl (by kernel_rfl) (by kernel_rfl) (by kernel_rfl) (calm_panic _) (by kernel_rfl)
              case hy => (refine .inl ⟨by kernel_rfl, fun W hC => ?_⟩; (try dsimp only at hC); go_simp; (try simp only [e2,e3,hcd]); rfl)
              case hC => exact HC
              case ha => (simp only [Act.put, List.setIfInBounds_toArray, List.set_cons_zero, List.set_cons_succ]; rfl)
              apply WZ.take (i := 5) (some 18) rfl rfl (by kernel_rfl) (by kernel_rfl) (by kernel_rfl) (calm_panic _) (by kernel_rfl)
              case hy => (refine .inl ⟨by kernel_rfl, fun W hC => ?_⟩; (try dsimp only at hC); go_simp; (try simp only [e2,e3,hcd]); rfl)
              case hC => exact HC
              case ha => (simp only [Act.put, List.setIfInBounds_toArray, List.set_cons_zero, List.set_cons_succ]; rfl)
              apply WZ.take (i := 6) (some 19) rfl rfl (by kernel_rfl) (by kernel_rfl) (by kernel_rfl) (calm_panic _) (by kernel_rfl)
              case hy => (refine .inl ⟨by kernel_rfl, fun W hC => ?_⟩; (try dsimp only at hC); go_simp; (try simp only [e2,e3,hcd]); rfl)
              case hC => exact HC
              case ha => (simp only [Act.put, List.setIfInBounds_toArray, List.set_cons_zero, List.set_cons_succ]; rfl)
              apply WZ.take (i := 7) (some 20) rfl rfl (by kernel_rfl) (by kernel_rfl) (by kernel_rfl) (calm_panic _) (by kernel_rfl)
              case hy => (refine .inl ⟨by kernel_rfl, fun W hC => ?_⟩; (try dsimp only at hC); go_simp; (try simp only [e2,e3,hcd]); rfl)
              case hC => exact HC
              case ha => (simp only [Act.put, List.setIfInBounds_toArray, List.set_cons_zero, List.set_cons_succ]; rfl)
              apply WZ.take (i := 8) (some 21) rfl rfl (by kernel_rfl) (by kernel_rfl) (by kernel_rfl) (calm_panic _) (by kernel_rfl)
              case hy => first | (apply yieldsIf_load_mid (by kernel_rfl) _ _ rfl _ _ rfl; (case hS => (intro W hC; exact (show World.rangeAt _ _ _ (It.vals _) from hC.1))); (case hu => exact Try.underlying56); (case hd => rfl); (case hi => kernel_rfl)) | (apply yieldsIf_load_mid (by kernel_rfl) _ _ rfl _ _ rfl; (case hS => (intro W hC; exact (show World.rangeAt _ _ _ (It.vals _) from hC.2.1))); (case hu => exact Try.underlying56); (case hd => rfl); (case hi => kernel_rfl)) | (apply yieldsIf_load_mid (by kernel_rfl) _ _ rfl _ _ rfl; (case hS => (intro W hC; exact (show World.rangeAt _ _ _ (It.vals _) from hC.2.2.1))); (case hu => exact Try.underlying56); (case hd => rfl); (case hi => kernel_rfl)) | (apply yieldsIf_load_mid (by kernel_rfl) _ _ rfl _ _ rfl; (case hS => (intro W hC; exact (show World.rangeAt _ _ _ (It.vals _) from hC.2.2.2.1))); (case hu => exact Try.underlying56); (case hd => rfl); (case hi => kernel_rfl)) | (apply yieldsIf_load_mid (by kernel_rfl) _ _ rfl _ _ rfl; (case hS => (intro W hC; exact (show World.rangeAt _ _ _ (It.vals _) from hC.2.2.2))); (case hu => exact Try.underlying56); (case hd => rfl); (case hi => kernel_rfl)) | (apply yieldsIf_load_mid (by kernel_rfl) _ _ rfl _ _ rfl; (case hS => (intro W hC; exact (show World.rangeAt _ _ _ (It.vals _) from hC.2.2))); (case hu => exact Try.underlying56); (case hd => rfl); (case hi => kernel_rfl)) | (apply yieldsIf_load_mid (by kernel_rfl) _ _ rfl _ _ rfl; (case hS => (intro W hC; exact (show World.rangeAt _ _ _ (It.vals _) from hC.2))); (case hu => exact Try.underlying56); (case hd => rfl); (case hi => kernel_rfl)) | (apply yieldsIf_load_mid (by kernel_rfl) _ _ rfl _ _ rfl; (case hS => (intro W hC; exact (show World.rangeAt _ _ _ (It.vals _) from hC))); (case hu => exact Try.underlying56); (case hd => rfl); (case hi => kernel_rfl))
              case hC => exact HC
              case ha => (simp only [Act.put, List.setIfInBounds_toArray, List.set_cons_zero, List.set_cons_succ]; rfl)
              apply WZ.take (i := 9) (some 22) rfl rfl (by kernel_rfl) (by kernel_rfl) (by kernel_rfl) (calm_panic _) (by kernel_rfl)
              case hy => (refine .inl ⟨by kernel_rfl, fun W hC => ?_⟩; (try dsimp only at hC); go_simp; (try simp only [e2,e3,hcd]); rfl)
              case hC => exact HC
              case ha => (simp only [Act.put, List.setIfInBounds_toArray, List.set_cons_zero, List.set_cons_succ]; rfl)
              apply WZ.take (i := 10) (some 23) rfl rfl (by kernel_rfl) (by kernel_rfl) (by kernel_rfl) (calm_panic _) (by kernel_rfl)
              case hy => (refine .inl ⟨by kernel_rfl, fun W hC => ?_⟩; (try dsimp only at hC); go_simp; (try simp only [e2,e3,hcd]); rfl)
              case hC => exact HC
              case ha => (simp only [Act.put, List.setIfInBounds_toArray, List.set_cons_zero, List.set_cons_succ]; rfl)
              apply WZ.take (i := 11) (some 24) rfl rfl (by kernel_rfl) (by kernel_rfl) (by kernel_rfl) (calm_panic _) (by kernel_rfl)
              case hy => (refine .inl ⟨by kernel_rfl, fun W hC => ?_⟩; (try dsimp only at hC); go_simp; (try simp only [e2,e3,hcd]); rfl)
              case hC => exact HC
              case ha => (simp only [Act.put, List.setIfInBounds_toArray, List.set_cons_zero, List.set_cons_succ]; rfl)
              apply WZ.take (i := 12) (some 25) rfl rfl (by kernel_rfl) (by kernel_rfl) (by kernel_rfl) (calm_panic _) (by kernel_rfl)
              case hy => first | (apply yieldsIf_load_mid (by kernel_rfl) _ _ rfl _ _ rfl; (case hS => (intro W hC; exact (show World.rangeAt _ _ _ (It.vals _) from hC.1))); (case hu => exact Try.underlying56); (case hd => rfl); (case hi => kernel_rfl)) | (apply yieldsIf_load_mid (by kernel_rfl) _ _ rfl _ _ rfl; (case hS => (intro W hC; exact (show World.rangeAt _ _ _ (It.vals _) from hC.2.1))); (case hu => exact Try.underlying56); (case hd => rfl); (case hi => kernel_rfl)) | (apply yieldsIf_load_mid (by kernel_rfl) _ _ rfl _ _ rfl; (case hS => (intro W hC; exact (show World.rangeAt _ _ _ (It.vals _) from hC.2.2.1))); (case hu => exact Try.underlying56); (case hd => rfl); (case hi => kernel_rfl)) | (apply yieldsIf_load_mid (by kernel_rfl) _ _ rfl _ _ rfl; (case hS => (intro W hC; exact (show World.rangeAt _ _ _ (It.vals _) from hC.2.2.2.1))); (case hu => exact Try.underlying56); (case hd => rfl); (case hi => kernel_rfl)) | (apply yieldsIf_load_mid (by kernel_rfl) _ _ rfl _ _ rfl; (case hS => (intro W hC; exact (show World.rangeAt _ _ _ (It.vals _) from hC.2.2.2))); (case hu => exact Try.underlying56); (case hd => rfl); (case hi => kernel_rfl)) | (apply yieldsIf_load_mid (by kernel_rfl) _ _ rfl _ _ rfl; (case hS => (intro W hC; exact (show World.rangeAt _ _ _ (It.vals _) from hC.2.2))); (case hu => exact Try.underlying56); (case hd => rfl); (case hi => kernel_rfl)) | (apply yieldsIf_load_mid (by kernel_rfl) _ _ rfl _ _ rfl; (case hS => (intro W hC; exact (show World.rangeAt _ _ _ (It.vals _) from hC.2))); (case hu => exact Try.underlying56); (case hd => rfl); (case hi => kernel_rfl)) | (apply yieldsIf_load_mid (by kernel_rfl) _ _ rfl _ _ rfl; (case hS => (intro W hC; exact (show World.rangeAt _ _ _ (It.vals _) from hC))); (case hu => exact Try.underlying56); (case hd => rfl); (case hi => kernel_rfl))
              case hC => exact HC
              case ha => (simp only [Act.put, List.setIfInBounds_toArray, List.set_cons_zero, List.set_cons_succ]; rfl)
              -- 13
              refine WZ.one (i := 13) rfl (by kernel_rfl) ?_
              conv => arg 4; arg 1; whnf
              go_wp2_with (go_at_call 24; refine (ref08Cmp_any y x _).mono ?_; rintro e w1 ⟨rfl, hb1⟩; have HC' := hCC _ _ hb1 HC)
              clear HC
              have HC := HC'
              clear HC' hb1
              refine ⟨HC, ?_⟩
              apply WZ.take (i := 14) (some 27) rfl rfl (by kernel_rfl) (by kernel_rfl) (by kernel_rfl) (calm_panic _) (by kernel_rfl)
              case hy => (refine .inl ⟨by kernel_rfl, fun W hC => ?_⟩; (try dsimp only at hC); go_simp; (try simp only [e2,e3,hcd]); rfl)
              case hC => exact HC
              case ha => (simp only [Act.put, List.setIfInBounds_toArray, List.set_cons_zero, List.set_cons_succ]; rfl)
              apply WZ.take (i := 15) (some 28) rfl rfl (by kernel_rfl) (by kernel_rfl) (by kernel_rfl) (calm_panic _) (by kernel_rfl)
              case hy => (refine .inl ⟨by kernel_rfl, fun W hC => ?_⟩; (try dsimp only at hC); go_simp; (try simp only [e2,e3,hcd]); rfl)
              case hC => exact HC
              case ha => (simp only [Act.put, List.setIfInBounds_toArray, List.set_cons_zero, List.set_cons_succ]; rfl)
              apply WZ.take (i := 16) (some 29) rfl rfl (by kernel_rfl) (by kernel_rfl) (by kernel_rfl) (calm_panic _) (by kernel_rfl)
              case hy => (refine .inl ⟨by kernel_rfl, fun W hC => ?_⟩; (try dsimp only at hC); go_simp; (try simp only [e2,e3,hcd]); rfl)
              case hC => exact HC
              case ha => (simp only [Act.put, List.setIfInBounds_toArray, List.set_cons_zero, List.set_cons_succ]; rfl)
              apply WZ.take (i := 17) (some 30) rfl rfl (by kernel_rfl) (by kernel_rfl) (by kernel_rfl) (calm_panic _) (by kernel_rfl)
              case hy => exact .inr ⟨by kernel_rfl, rfl⟩
              case hC => exact HC
              case ha => (simp only [Act.put, List.setIfInBounds_toArray, List.set_cons_zero, List.set_cons_succ]; rfl)
              apply WZ.take (i := 18) (some 31) rfl rfl (by kernel_rfl) (by kernel_rfl) (by kernel_rfl) (calm_panic _) (by kernel_rfl)
              case hy => exact .inr ⟨by kernel_rfl, rfl⟩
              case hC => exact HC
              case ha => (simp only [Act.put, List.setIfInBounds_toArray, List.set_cons_zero, List.set_cons_succ]; rfl)
              apply WZ.take (i := 19) (some 32) rfl rfl (by kernel_rfl) (by kernel_rfl) (by kernel_rfl) (calm_panic _) (by kernel_rfl)
              case hy => exact .inr ⟨by kernel_rfl, rfl⟩
              case hC => exact HC
              case ha => (simp only [Act.put, List.setIfInBounds_toArray, List.set_cons_zero, List.set_cons_succ]; rfl)
              apply WZ.take (i := 20) (some 33) rfl rfl (by kernel_rfl) (by kernel_rfl) (by kernel_rfl) (calm_panic _) (by kernel_rfl)
              case hy => exact .inr ⟨by kernel_rfl, rfl⟩
              case hC => exact HC
              case ha => (simp only [Act.put, List.setIfInBounds_toArray, List.set_cons_zero, List.set_cons_succ]; rfl)
              apply WZ.take (i := 21) (some 34) rfl rfl (by kernel_rfl) (by kernel_rfl) (by kernel_rfl) (calm_panic _) (by kernel_rfl)
              case hy => exact .inr ⟨by kernel_rfl, rfl⟩
              case hC => exact HC
              case ha => (simp only [Act.put, List.setIfInBounds_toArray, List.set_cons_zero, List.set_cons_succ]; rfl)
              apply WZ.take (i := 22) (some 35) rfl rfl (by kernel_rfl) (by kernel_rfl) (by kernel_rfl) (calm_panic _) (by kernel_rfl)
              case hy => exact .inr ⟨by kernel_rfl, rfl⟩
              case hC => exact HC
              case ha => (simp only [Act.put, List.setIfInBounds_toArray, List.set_cons_zero, List.set_cons_succ]; rfl)
              apply WZ.take (i := 23) (some 36) rfl rfl (by kernel_rfl) (by kernel_rfl) (by kernel_rfl) (calm_panic _) (by kernel_rfl)
              case hy => exact .inr ⟨by kernel_rfl, rfl⟩
              case hC => exact HC
              case ha => (simp only [Act.put, List.setIfInBounds_toArray, List.set_cons_zero, List.set_cons_succ]; rfl)
              apply WZ.take (i := 24) (some 37) rfl rfl (by kernel_rfl) (by kernel_rfl) (by kernel_rfl) (calm_panic _) (by kernel_rfl)
              case hy => exact .inr ⟨by kernel_rfl, rfl⟩
              case hC => exact HC
              case ha => (simp only [Act.put, List.setIfInBounds_toArray, List.set_cons_zero, List.set_cons_succ]; rfl)
              apply WZ.take (i := 25) (some 38) rfl rfl (by kernel_rfl) (by kernel_rfl) (by kernel_rfl) (calm_panic _) (by kernel_rfl)
              case hy => exact .inr ⟨by kernel_rfl, rfl⟩
              case hC => exact HC
              case ha => (simp only [Act.put, List.setIfInBounds_toArray, List.set_cons_zero, List.set_cons_succ]; rfl)
              apply WZ.take (i := 26) (some 39) rfl rfl (by kernel_rfl) (by kernel_rfl) (by kernel_rfl) (calm_panic _) (by kernel_rfl)
              case hy => exact .inr ⟨by kernel_rfl, rfl⟩
              case hC => exact HC
              case ha => (simp only [Act.put, List.setIfInBounds_toArray, List.set_cons_zero, List.set_cons_succ]; rfl)
              apply WZ.take (i := 27) (some 40) rfl rfl (by kernel_rfl) (by kernel_rfl) (by kernel_rfl) (calm_panic _) (by kernel_rfl)
              case hy => exact .inr ⟨by kernel_rfl, rfl⟩
              case hC => exact HC
              case ha => (simp only [Act.put, List.setIfInBounds_toArray, List.set_cons_zero, List.set_cons_succ]; rfl)
              apply WZ.take (i := 28) (some 41) rfl rfl (by kernel_rfl) (by kernel_rfl) (by kernel_rfl) (calm_panic _) (by kernel_rfl)
              case hy => exact .inr ⟨by kernel_rfl, rfl⟩
              case hC => exact HC
              case ha => (simp only [Act.put, List.setIfInBounds_toArray, List.set_cons_zero, List.set_cons_succ]; rfl)
              apply WZ.take (i := 29) (some 42) rfl rfl (by kernel_rfl) (by kernel_rfl) (by kernel_rfl) (calm_panic _) (by kernel_rfl)
              case hy => (refine .inl ⟨by kernel_rfl, fun W hC => ?_⟩; (try dsimp only at hC); go_simp; (try simp only [e2,e3,hcd]); rfl)
              case hC => exact HC
              case ha => (simp only [Act.put, List.setIfInBounds_toArray, List.set_cons_zero, List.set_cons_succ]; rfl)
              refine WZ.done (by kernel_rfl) ?_ _
              simp only [Calm, Exit.then]
              go_wp2
              have HCd := hCC _ _ ((Below.refl _ _).drew) HC
              clear HC
              have HC := HCd
              clear HCd
              refine region_wz (fun W' => W'.rangeAt g (i * 7) y.vals ∧ W'.rangeAt b (o + k * 7) x.vals ∧ W'.rangeAt g (i * 7) y.c.vals ∧ W'.rangeAt b (o + k * 7) x.c.vals ∧ W'.cell? ⟨g, i * 7 + 6, none⟩ = some (.int .i64 y.pos) ∧ W'.cell? ⟨b, o + k * 7 + 6, none⟩ = some (.int .i64 x.pos) ∧ Own W' w.heap.size 56 7 (some ⟨g, 0, none⟩) n co (its R) ∧ Below w.heap.size w W') none (by kernel_rfl) ?_
              apply WZ.take (i := 0) (some 61) rfl rfl (by kernel_rfl) (by kernel_rfl) (by kernel_rfl) (calm_panic _) (by kernel_rfl)
              case hy => (refine .inl ⟨by kernel_rfl, fun W hC => ?_⟩; (try dsimp only at hC); go_simp; (try simp only [e2,e3,hs]); rfl)
              case hC => exact HC
              case ha => (simp only [Act.put, List.setIfInBounds_toArray, List.set_cons_zero, List.set_cons_succ]; rfl)
              apply WZ.take (i := 1) (some 62) rfl rfl (by kernel_rfl) (by kernel_rfl) (by kernel_rfl) (calm_panic _) (by kernel_rfl)
              case hy => (refine .inl ⟨by kernel_rfl, fun W hC => ?_⟩; (try dsimp only at hC); go_simp; (try simp only [e2,e3,hs]); rfl)
              case hC => exact HC
              case ha => (simp only [Act.put, List.setIfInBounds_toArray, List.set_cons_zero, List.set_cons_succ]; rfl)
              apply WZ.take (i := 2) (some 63) rfl rfl (by kernel_rfl) (by kernel_rfl) (by kernel_rfl) (calm_panic _) (by kernel_rfl)
              case hy => (refine .inl ⟨by kernel_rfl, fun W hC => ?_⟩; (try dsimp only at hC); go_simp; (try simp only [e2,e3,hs]); rfl)
              case hC => exact HC
              case ha => (simp only [Act.put, List.setIfInBounds_toArray, List.set_cons_zero, List.set_cons_succ]; rfl)
              apply WZ.take (i := 3) (some 64) rfl rfl (by kernel_rfl) (by kernel_rfl) (by kernel_rfl) (calm_panic _) (by kernel_rfl)
              case hy => (refine .inl ⟨by kernel_rfl, fun W hC => ?_⟩; (try dsimp only at hC); go_simp; (try simp only [e2,e3,hs]); rfl)
              case hC => exact HC
              case ha => (simp only [Act.put, List.setIfInBounds_toArray, List.set_cons_zero, List.set_cons_succ]; rfl)
              apply WZ.take (i := 4) (some 65) rfl rfl (by kernel_rfl) (by kernel_rfl) (by kernel_rfl) (calm_panic _) (by kernel_rfl)
              case hy => (refine .inl ⟨by kernel_rfl, fun W hC => ?_⟩; (try dsimp only at hC); go_simp; (try simp only [e2,e3,hs]); rfl)
              case hC => exact HC
              case ha => (simp only [Act.put, List.setIfInBounds_toArray, List.set_cons_zero, List.set_cons_succ]; rfl)
              apply WZ.take (i := 5) (some 66) rfl rfl (by kernel_rfl) (by kernel_rfl) (by kernel_rfl) (calm_panic _) (by kernel_rfl)
              case hy => (refine .inl ⟨by kernel_rfl, fun W hC => ?_⟩; (try dsimp only at hC); go_simp; (try simp only [e2,e3,hs]); rfl)
              case hC => exact HC
              case ha => (simp only [Act.put, List.setIfInBounds_toArray, List.set_cons_zero, List.set_cons_succ]; rfl)
              apply WZ.take (i := 6) (some 67) rfl rfl (by kernel_rfl) (by kernel_rfl) (by kernel_rfl) (calm_panic _) (by kernel_rfl)
              case hy => (refine .inl ⟨by kernel_rfl, fun W hC => ?_⟩; (try dsimp only at hC); go_simp; (try simp only [e2,e3,hs]); rfl)
              case hC => exact HC
              case ha => (simp only [Act.put, List.setIfInBounds_toArray, List.set_cons_zero, List.set_cons_succ]; rfl)
              apply WZ.take (i := 7) (some 68) rfl rfl (by kernel_rfl) (by kernel_rfl) (by kernel_rfl) (calm_panic _) (by kernel_rfl)
              case hy => (refine .inl ⟨by kernel_rfl, fun W hC => ?_⟩; (try dsimp only at hC); go_simp; (try simp only [e2,e3,hs]); rfl)
              case hC => exact HC
              case ha => (simp only [Act.put, List.setIfInBounds_toArray, List.set_cons_zero, List.set_cons_succ]; rfl)
              apply WZ.take (i := 8) (some 69) rfl rfl (by kernel_rfl) (by kernel_rfl) (by kernel_rfl) (calm_panic _) (by kernel_rfl)
              case hy => (refine .inl ⟨by kernel_rfl, fun W hC => ?_⟩; (try dsimp only at hC); go_simp; (try simp only [e2,e3,hs]); rfl)
              case hC => exact HC
              case ha => (simp only [Act.put, List.setIfInBounds_toArray, List.set_cons_zero, List.set_cons_succ]; rfl)
              apply WZ.take (i := 9) (some 70) rfl rfl (by kernel_rfl) (by kernel_rfl) (by kernel_rfl) (calm_panic _) (by kernel_rfl)
              case hy => first | (apply yieldsIf_load_mid (by kernel_rfl) _ _ rfl _ _ rfl; (case hS => (intro W hC; exact (show World.rangeAt _ _ _ (Cl.vals _) from hC.1))); (case hu => exact Try.underlying53); (case hd => rfl); (case hi => kernel_rfl)) | (apply yieldsIf_load_mid (by kernel_rfl) _ _ rfl _ _ rfl; (case hS => (intro W hC; exact (show World.rangeAt _ _ _ (Cl.vals _) from hC.2.1))); (case hu => exact Try.underlying53); (case hd => rfl); (case hi => kernel_rfl)) | (apply yieldsIf_load_mid (by kernel_rfl) _ _ rfl _ _ rfl; (case hS => (intro W hC; exact (show World.rangeAt _ _ _ (Cl.vals _) from hC.2.2.1))); (case hu => exact Try.underlying53); (case hd => rfl); (case hi => kernel_rfl)) | (apply yieldsIf_load_mid (by kernel_rfl) _ _ rfl _ _ rfl; (case hS => (intro W hC; exact (show World.rangeAt _ _ _ (Cl.vals _) from hC.2.2.2.1))); (case hu => exact Try.underlying53); (case hd => rfl); (case hi => kernel_rfl)) | (apply yieldsIf_load_mid (by kernel_rfl) _ _ rfl _ _ rfl; (case hS => (intro W hC; exact (show World.rangeAt _ _ _ (Cl.vals _) from hC.2.2.2))); (case hu => exact Try.underlying53); (case hd => rfl); (case hi => kernel_rfl)) | (apply yieldsIf_load_mid (by kernel_rfl) _ _ rfl _ _ rfl; (case hS => (intro W hC; exact (show World.rangeAt _ _ _ (Cl.vals _) from hC.2.2))); (case hu => exact Try.underlying53); (case hd => rfl); (case hi => kernel_rfl)) | (apply yieldsIf_load_mid (by kernel_rfl) _ _ rfl _ _ rfl; (case hS => (intro W hC; exact (show World.rangeAt _ _ _ (Cl.vals _) from hC.2))); (case hu => exact Try.underlying53); (case hd => rfl); (case hi => kernel_rfl)) | (apply yieldsIf_load_mid (by kernel_rfl) _ _ rfl _ _ rfl; (case hS => (intro W hC; exact (show World.rangeAt _ _ _ (Cl.vals _) from hC))); (case hu => exact Try.underlying53); (case hd => rfl); (case hi => kernel_rfl))
              case hC => exact HC
              case ha => (simp only [Act.put, List.setIfInBounds_toArray, List.set_cons_zero, List.set_cons_succ]; rfl)
              apply WZ.take (i := 10) (some 71) rfl rfl (by kernel_rfl) (by kernel_rfl) (by kernel_rfl) (calm_panic _) (by kernel_rfl)
              case hy => (refine .inl ⟨by kernel_rfl, fun W hC => ?_⟩; (try dsimp only at hC); go_simp; (try simp only [e2,e3,hs]); rfl)
              case hC => exact HC
              case ha => (simp only [Act.put, List.setIfInBounds_toArray, List.set_cons_zero, List.set_cons_succ]; rfl)
              apply WZ.take (i := 11) (some 72) rfl rfl (by kernel_rfl) (by kernel_rfl) (by kernel_rfl) (calm_panic _) (by kernel_rfl)
              case hy => (refine .inl ⟨by kernel_rfl, fun W hC => ?_⟩; (try dsimp only at hC); go_simp; (try simp only [e2,e3,hs]); rfl)
              case hC => exact HC
              case ha => (simp only [Act.put, List.setIfInBounds_toArray, List.set_cons_zero, List.set_cons_succ]; rfl)
              apply WZ.take (i := 12) (some 73) rfl rfl (by kernel_rfl) (by kernel_rfl) (by kernel_rfl) (calm_panic _) (by kernel_rfl)
              case hy => (refine .inl ⟨by kernel_rfl, fun W hC => ?_⟩; (try dsimp only at hC); go_simp; (try simp only [e2,e3,hs]); rfl)
              case hC => exact HC
              case ha => (simp only [Act.put, List.setIfInBounds_toArray, List.set_cons_zero, List.set_cons_succ]; rfl)
              apply WZ.take (i := 13) (some 74) rfl rfl (by kernel_rfl) (by kernel_rfl) (by kernel_rfl) (calm_panic _) (by kernel_rfl)
              case hy => (refine .inl ⟨by kernel_rfl, fun W hC => ?_⟩; (try dsimp only at hC); go_simp; (try simp only [e2,e3,hs]); rfl)
              case hC => exact HC
              case ha => (simp only [Act.put, List.setIfInBounds_toArray, List.set_cons_zero, List.set_cons_succ]; rfl)
              apply WZ.take (i := 14) (some 75) rfl rfl (by kernel_rfl) (by kernel_rfl) (by kernel_rfl) (calm_panic _) (by kernel_rfl)
              case hy => first | (apply yieldsIf_load_mid (by kernel_rfl) _ _ rfl _ _ rfl; (case hS => (intro W hC; exact (show World.rangeAt _ _ _ (Cl.vals _) from hC.1))); (case hu => exact Try.underlying53); (case hd => rfl); (case hi => kernel_rfl)) | (apply yieldsIf_load_mid (by kernel_rfl) _ _ rfl _ _ rfl; (case hS => (intro W hC; exact (show World.rangeAt _ _ _ (Cl.vals _) from hC.2.1))); (case hu => exact Try.underlying53); (case hd => rfl); (case hi => kernel_rfl)) | (apply yieldsIf_load_mid (by kernel_rfl) _ _ rfl _ _ rfl; (case hS => (intro W hC; exact (show World.rangeAt _ _ _ (Cl.vals _) from hC.2.2.1))); (case hu => exact Try.underlying53); (case hd => rfl); (case hi => kernel_rfl)) | (apply yieldsIf_load_mid (by kernel_rfl) _ _ rfl _ _ rfl; (case hS => (intro W hC; exact (show World.rangeAt _ _ _ (Cl.vals _) from hC.2.2.2.1))); (case hu => exact Try.underlying53); (case hd => rfl); (case hi => kernel_rfl)) | (apply yieldsIf_load_mid (by kernel_rfl) _ _ rfl _ _ rfl; (case hS => (intro W hC; exact (show World.rangeAt _ _ _ (Cl.vals _) from hC.2.2.2))); (case hu => exact Try.underlying53); (case hd => rfl); (case hi => kernel_rfl)) | (apply yieldsIf_load_mid (by kernel_rfl) _ _ rfl _ _ rfl; (case hS => (intro W hC; exact (show World.rangeAt _ _ _ (Cl.vals _) from hC.2.2))); (case hu => exact Try.underlying53); (case hd => rfl); (case hi => kernel_rfl)) | (apply yieldsIf_load_mid (by kernel_rfl) _ _ rfl _ _ rfl; (case hS => (intro W hC; exact (show World.rangeAt _ _ _ (Cl.vals _) from hC.2))); (case hu => exact Try.underlying53); (case hd => rfl); (case hi => kernel_rfl)) | (apply yieldsIf_load_mid (by kernel_rfl) _ _ rfl _ _ rfl; (case hS => (intro W hC; exact (show World.rangeAt _ _ _ (Cl.vals _) from hC))); (case hu => exact Try.underlying53); (case hd => rfl); (case hi => kernel_rfl))
              case hC => exact HC
              case ha => (simp only [Act.put, List.setIfInBounds_toArray, List.set_cons_zero, List.set_cons_succ]; rfl)
              -- 15
              refine WZ.one (i := 15) rfl (by kernel_rfl) ?_
              conv => arg 4; arg 1; whnf
              go_wp2_with (go_at_call 23; refine (refSame_any y.c x.c _).mono ?_; rintro e w1 ⟨rfl, hb1⟩; have HC' := hCC _ _ hb1 HC)
              clear HC
              have HC := HC'
              clear HC' hb1
              refine ⟨HC, ?_⟩
              apply WZ.take (i := 16) (some 77) rfl rfl (by kernel_rfl) (by kernel_rfl) (by kernel_rfl) (calm_panic _) (by kernel_rfl)
              case hy => (refine .inl ⟨by kernel_rfl, fun W hC => ?_⟩; (try dsimp only at hC); go_simp; (try simp only [e2,e3,hs]); rfl)
              case hC => exact HC
              case ha => (simp only [Act.put, List.setIfInBounds_toArray, List.set_cons_zero, List.set_cons_succ]; rfl)
              apply WZ.take (i := 17) (some 60) rfl rfl (by kernel_rfl) (by kernel_rfl) (by kernel_rfl) (calm_panic _) (by kernel_rfl)
              case hy => (refine .inl ⟨by kernel_rfl, fun W hC => ?_⟩; (try dsimp only at hC); go_simp; (try simp only [e2,e3,hs]); rfl)
              case hC => exact HC
              case ha => (simp only [Act.put, List.setIfInBounds_toArray, List.set_cons_zero, List.set_cons_succ]; rfl)
              refine WZ.done (by kernel_rfl) ?_ _
              simp only [Calm, Exit.then]
              go_wp2
              obtain ⟨S0, hS0e⟩ : ∃ S0, w1.heap.size = S0 := ⟨_, rfl⟩
              have hS0 : w.heap.size ≤ S0 := by rw [← hS0e]; exact HC.2.2.2.2.2.2.2.size
              have HC8 : (fun W' => W'.rangeAt b (o + k * 7) x.vals ∧ Own W' w.heap.size 56 7 (some ⟨g, 0, none⟩) n co (its R) ∧ (∀ j, blk (some ⟨g, 0, none⟩) = some j → j < S0) ∧ S0 ≤ W'.heap.size ∧ Below w.heap.size w W') w1.drew :=
                ⟨HC.2.1, HC.2.2.2.2.2.2.1.drew, fun j hj => by rw [← hS0e]; exact (Own.lt HC.2.2.2.2.2.2.1 j hj).2, by show S0 ≤ w1.heap.size; omega, HC.2.2.2.2.2.2.2.drew⟩
              clear HC hCC
              have HC := HC8
              clear HC8
              have hsl1 := fun W => run_front (P := Try.prog) (t := 40) (e := 56) (size := 7) Try.underlying40 hi0 hz1 (some ⟨g, 0, none⟩) n co i (by omega) W
              have hsl2 := fun W => run_tail (P := Try.prog) (t := 40) (e := 56) (size := 7) Try.underlying40 hi0 hz1 (some ⟨g, 0, none⟩) n co i (by omega) W
              obtain ⟨At, hAt⟩ : ∃ At, tailA (some ⟨g, 0, none⟩) co i 7 = At := ⟨_, rfl⟩
              obtain ⟨CC, hCD⟩ : ∃ CC : World → Prop, ∀ W, CC W ↔ (fun W' => W'.rangeAt b (o + k * 7) x.vals ∧ Own W' w.heap.size 56 7 (some ⟨g, 0, none⟩) n co (its R) ∧ (∀ j, blk (some ⟨g, 0, none⟩) = some j → j < S0) ∧ S0 ≤ W'.heap.size ∧ Below w.heap.size w W') W := ⟨fun W' => W'.rangeAt b (o + k * 7) x.vals ∧ Own W' w.heap.size 56 7 (some ⟨g, 0, none⟩) n co (its R) ∧ (∀ j, blk (some ⟨g, 0, none⟩) = some j → j < S0) ∧ S0 ≤ W'.heap.size ∧ Below w.heap.size w W', fun _ => Iff.rfl⟩
              have hCC8 : ∀ W W', Below S0 W W' → CC W → CC W' := by
                intro W W' hb hc
                obtain ⟨h1, h2, h3, h4, h5⟩ := (hCD _).1 hc
                exact (hCD _).2 ⟨rangeAt_below h1 hb (by omega), h2.keep (fun j hj => hb.block j (h3 j hj)), h3, Nat.le_trans h4 hb.size, h5.trans (hb.mono hS0)⟩
              have hsz : ∀ W, CC W → S0 ≤ W.heap.size := fun W h => ((hCD _).1 h).2.2.2.1
              have hmk : ∀ W, CC W → W.rangeAt b (o + k * 7) [.string x.c.row, .string x.c.col, .int .u64 x.c.ts, .int .u64 x.c.seq, .bool x.c.del, .string x.c.val, .int .i64 x.pos] ∧ CC W := fun W h => ⟨((hCD _).1 h).1, h⟩
              have hal : ∀ (W : World) (ob : Obj), CC W → CC (W.alloc ob) := fun W ob h => hCC8 _ _ ((Below.refl S0 W).alloc (hsz _ h) ob) h
              have hnew0 : ∀ W, CC W → Own (W.alloc (.cells #[] 56)) S0 56 7 (some ⟨W.heap.size, 0, none⟩) 0 0 [] := fun W h => (Own.new0' W 56 7).lower (hsz _ h)
              have hnew1 : ∀ W g, CC W → W.heap.size = g → Rd (W.alloc (.cells #[.string x.c.row, .string x.c.col, .int .u64 x.c.ts, .int .u64 x.c.seq, .bool x.c.del, .string x.c.val, .int .i64 x.pos] 56)) (W.alloc (.cells #[.string x.c.row, .string x.c.col, .int .u64 x.c.ts, .int .u64 x.c.seq, .bool x.c.del, .string x.c.val, .int .i64 x.pos] 56)).heap.size (some ⟨g, 0, none⟩) x.vals := fun W g h hg => by
                rw [← hg]
                exact (Rd.all' W 56 x.vals _ W.heap.size rfl rfl).more (by rw [World.size_alloc]; omega)
              have hsrc1 : ∀ W, CC W → Rd W W.heap.size (some ⟨g, 0, none⟩) (its (R.take i)) := fun W h => (Own.rd ((hCD _).1 h).2.1 (by omega)).frontR It.vals_len (by omega)
              have hsrc2 : ∀ W, CC W → Rd W W.heap.size At (its (R.drop i)) := fun W h => by
                rw [← hAt]
                exact (Own.rd ((hCD _).1 h).2.1 (by omega)).tailR It.vals_len hRn hnc (by omega)
              have hbw : ∀ W, CC W → Below w.heap.size w W := fun W h => ((hCD _).1 h).2.2.2.2
              have hins : ∀ W n' A' c', Own W w.heap.size 56 7 A' n' c' (its (R.take i) ++ x.vals ++ its (R.drop i)) → Own W w.heap.size 56 7 A' n' c' (its (R.take i ++ x :: R.drop i)) := fun W n' A' c' h => by rw [List.append_assoc] at h; rw [its, List.flatMap_append, List.flatMap_cons]; exact h
              have hl1 : (its (R.take i)).length = i * 7 := by rw [its_len, List.length_take]; omega
              have HC8 := hmk _ ((hCD _).2 HC)
              clear HC
              have HC := HC8
              clear HC8
              rw [hAt] at hsl2
              clear hAt hCD hS0e
              refine region_wz (fun W' => W'.rangeAt b (o + k * 7) [.string x.c.row, .string x.c.col, .int .u64 x.c.ts, .int .u64 x.c.seq, .bool x.c.del, .string x.c.val, .int .i64 x.pos] ∧ CC W') none (by kernel_rfl) ?_
              apply WZ.take (i := 1) (some 46) rfl rfl (by kernel_rfl) (by kernel_rfl) (by kernel_rfl) (calm_panic _) (by kernel_rfl)
              case hy => (refine .inl ⟨by kernel_rfl, fun W hC => ?_⟩; (try dsimp only at hC); go_simp; (try simp only [hsl1,hsl2]); rfl)
              case hC => exact HC
              case ha => (simp only [Act.put, List.setIfInBounds_toArray, List.set_cons_zero, List.set_cons_succ]; rfl)
              apply WZ.take (i := 2) (some 47) rfl rfl (by kernel_rfl) (by kernel_rfl) (by kernel_rfl) (calm_panic _) (by kernel_rfl)
              case hy => (refine .inl ⟨by kernel_rfl, fun W hC => ?_⟩; (try dsimp only at hC); go_simp; (try simp only [hsl1,hsl2]); rfl)
              case hC => exact HC
              case ha => (simp only [Act.put, List.setIfInBounds_toArray, List.set_cons_zero, List.set_cons_succ]; rfl)
              apply WZ.take (i := 3) (some 48) rfl rfl (by kernel_rfl) (by kernel_rfl) (by kernel_rfl) (calm_panic _) (by kernel_rfl)
              case hy => (refine .inl ⟨by kernel_rfl, fun W hC => ?_⟩; (try dsimp only at hC); go_simp; (try simp only [hsl1,hsl2]); rfl)
              case hC => exact HC
              case ha => (simp only [Act.put, List.setIfInBounds_toArray, List.set_cons_zero, List.set_cons_succ]; rfl)
              apply WZ.take (i := 5) (some 50) rfl rfl (by kernel_rfl) (by kernel_rfl) (by kernel_rfl) (calm_panic _) (by kernel_rfl)
              case hy => (refine .inl ⟨by kernel_rfl, fun W hC => ?_⟩; (try dsimp only at hC); go_simp; (try simp only [hsl1,hsl2]); rfl)
              case hC => exact HC
              case ha => (simp only [Act.put, List.setIfInBounds_toArray, List.set_cons_zero, List.set_cons_succ]; rfl)
              apply WZ.take (i := 6) (some 51) rfl rfl (by kernel_rfl) (by kernel_rfl) (by kernel_rfl) (calm_panic _) (by kernel_rfl)
              case hy => (refine .inl ⟨by kernel_rfl, fun W hC => ?_⟩; (try dsimp only at hC); go_simp; (try simp only [hsl1,hsl2]); rfl)
              case hC => exact HC
              case ha => (simp only [Act.put, List.setIfInBounds_toArray, List.set_cons_zero, List.set_cons_succ]; rfl)
              apply WZ.take (i := 7) (some 52) rfl rfl (by kernel_rfl) (by kernel_rfl) (by kernel_rfl) (calm_panic _) (by kernel_rfl)
              case hy => (refine .inl ⟨by kernel_rfl, fun W hC => ?_⟩; (try dsimp only at hC); go_simp; (try simp only [hsl1,hsl2]); rfl)
              case hC => exact HC
              case ha => (simp only [Act.put, List.setIfInBounds_toArray, List.set_cons_zero, List.set_cons_succ]; rfl)
              apply WZ.take (i := 8) (some 53) rfl rfl (by kernel_rfl) (by kernel_rfl) (by kernel_rfl) (calm_panic _) (by kernel_rfl)
              case hy => first | (apply yieldsIf_load_mid (by kernel_rfl) _ _ rfl _ _ rfl; (case hS => (intro W hC; exact hC.1)); (case hu => exact Try.underlying56); (case hd => rfl); (case hi => kernel_rfl)) | (apply yieldsIf_load_mid (by kernel_rfl) _ _ rfl _ _ rfl; (case hS => (intro W hC; exact hC.2.1)); (case hu => exact Try.underlying56); (case hd => rfl); (case hi => kernel_rfl)) | (apply yieldsIf_load_mid (by kernel_rfl) _ _ rfl _ _ rfl; (case hS => (intro W hC; exact hC.2.2.1)); (case hu => exact Try.underlying56); (case hd => rfl); (case hi => kernel_rfl)) | (apply yieldsIf_load_mid (by kernel_rfl) _ _ rfl _ _ rfl; (case hS => (intro W hC; exact hC.2.2.2.1)); (case hu => exact Try.underlying56); (case hd => rfl); (case hi => kernel_rfl)) | (apply yieldsIf_load_mid (by kernel_rfl) _ _ rfl _ _ rfl; (case hS => (intro W hC; exact hC.2.2.2)); (case hu => exact Try.underlying56); (case hd => rfl); (case hi => kernel_rfl)) | (apply yieldsIf_load_mid (by kernel_rfl) _ _ rfl _ _ rfl; (case hS => (intro W hC; exact hC.2.2)); (case hu => exact Try.underlying56); (case hd => rfl); (case hi => kernel_rfl)) | (apply yieldsIf_load_mid (by kernel_rfl) _ _ rfl _ _ rfl; (case hS => (intro W hC; exact hC.2)); (case hu => exact Try.underlying56); (case hd => rfl); (case hi => kernel_rfl)) | (apply yieldsIf_load_mid (by kernel_rfl) _ _ rfl _ _ rfl; (case hS => (intro W hC; exact hC)); (case hu => exact Try.underlying56); (case hd => rfl); (case hi => kernel_rfl))
              case hC => exact HC
              case ha => (simp only [Act.put, List.setIfInBounds_toArray, List.set_cons_zero, List.set_cons_succ]; rfl)
              apply WZ.take (i := 11) (some 56) rfl rfl (by kernel_rfl) (by kernel_rfl) (by kernel_rfl) (calm_panic _) (by kernel_rfl)
              case hy => (refine .inl ⟨by kernel_rfl, fun W hC => ?_⟩; (try dsimp only at hC); go_simp; (try simp only [hsl1,hsl2]); rfl)
              case hC => exact HC
              case ha => (simp only [Act.put, List.setIfInBounds_toArray, List.set_cons_zero, List.set_cons_succ]; rfl)
              apply WZ.take (i := 12) (some 57) rfl rfl (by kernel_rfl) (by kernel_rfl) (by kernel_rfl) (calm_panic _) (by kernel_rfl)
              case hy => (refine .inl ⟨by kernel_rfl, fun W hC => ?_⟩; (try dsimp only at hC); go_simp; (try simp only [hsl1,hsl2]); rfl)
              case hC => exact HC
              case ha => (simp only [Act.put, List.setIfInBounds_toArray, List.set_cons_zero, List.set_cons_succ]; rfl)
              apply WZ.take (i := 13) (some 58) rfl rfl (by kernel_rfl) (by kernel_rfl) (by kernel_rfl) (calm_panic _) (by kernel_rfl)
              case hy => (refine .inl ⟨by kernel_rfl, fun W hC => ?_⟩; (try dsimp only at hC); go_simp; (try simp only [hsl1,hsl2]); rfl)
              case hC => exact HC
              case ha => (simp only [Act.put, List.setIfInBounds_toArray, List.set_cons_zero, List.set_cons_succ]; rfl)
              refine WZ.two (i := 0) (j := 9) rfl rfl (by kernel_rfl) ?_ ?_
              · conv => arg 4; arg 1; whnf
                go_wp2_with fail
                have hA0 := hnew0 _ HC.2
                try rw [World.size_alloc] at hA0
                have hA := own_any hA0
                clear hA0
                have HC2 := hmk _ (hal _ (.cells #[] 56) HC.2)
                try (have hR2 := hR.allocS (.cells #[] 56); clear hR; have hR := hR2; clear hR2)
                clear HC
                have HC := HC2
                clear HC2
                refine ⟨HC, ?_⟩
                refine WZ.two (i := 4) (j := 9) rfl rfl (by kernel_rfl) ?_ ?_
                · conv => arg 4; arg 1; whnf
                  have hP := hsrc1 _ HC.2
                  go_wp2_with (at_builtin; go_loud (refine wpList_app _ rfl _ _ _ rfl S0 56 i0 zeroItem 7 80 Try.underlying40 hi0 hz0 hz1 hz2 rfl (by decide) _ _ _ _ rfl (hA _ (by omega)) _ _ _ _ (its (R.take i)) rfl hP hl1 (its_one _) (by unfold maxLen; omega) (by omega) (hsz _ HC.2) ?_); intro A4 c4 w4 ho4 hg4 hat4)
                  have HC2 := hmk _ (hCC8 _ _ (Own.grow (hA _ rfl) (Below.refl S0 _) (hsz _ HC.2) (Nat.le_refl _) hg4) HC.2)
                  try (have hR2 := Rd.grownAt hR hg4 (by first | (simp [blk]; done) | (simp [blk]; omega)); clear hR; have hR := hR2; clear hR2)
                  clear HC hA hP
                  have HC := HC2
                  have hA := own_any ho4
                  clear HC2 ho4 hg4 hat4
                  refine ⟨HC, ?_⟩
                  -- 9
                  refine WZ.one (i := 9) rfl (by kernel_rfl) ?_
                  conv => arg 4; arg 1; whnf
                  go_wp2_with fail
                  first
                    | have hR := hnew1 _ _ HC.2 (World.size_alloc _ _)
                    | have hR := hnew1 _ _ HC.2 rfl
                  have HC2 := hmk _ (hal _ (.cells #[.string x.c.row, .string x.c.col, .int .u64 x.c.ts, .int .u64 x.c.seq, .bool x.c.del, .string x.c.val, .int .i64 x.pos] 56) HC.2)
                  try (have hA2 := own_any (Own.alloc (hA _ rfl) (.cells #[.string x.c.row, .string x.c.col, .int .u64 x.c.ts, .int .u64 x.c.seq, .bool x.c.del, .string x.c.val, .int .i64 x.pos] 56)); clear hA; have hA := hA2; clear hA2)
                  clear HC
                  have HC := HC2
                  clear HC2
                  refine ⟨HC, ?_⟩
                  -- 10
                  refine WZ.one (i := 10) rfl (by kernel_rfl) ?_
                  conv => arg 4; arg 1; whnf
                  go_wp2_with (at_builtin; go_loud (refine wpList_app _ rfl _ _ _ rfl S0 56 i0 zeroItem 7 80 Try.underlying40 hi0 hz0 hz1 hz2 rfl (by decide) _ _ _ _ rfl (hA _ (by omega)) _ _ _ _ x.vals rfl hR rfl x.one (by unfold maxLen; omega) (by omega) (hsz _ HC.2) ?_); intro A4 c4 w4 ho4 hg4 hat4)
                  have HC2 := hmk _ (hCC8 _ _ (Own.grow (hA _ rfl) (Below.refl S0 _) (hsz _ HC.2) (Nat.le_refl _) hg4) HC.2)
                  clear HC hA hR
                  have HC := HC2
                  have hA := own_any ho4
                  clear HC2 ho4 hg4 hat4
                  refine ⟨HC, ?_⟩
                  -- 14
                  refine WZ.one (i := 14) rfl (by kernel_rfl) ?_
                  conv => arg 4; arg 1; whnf
                  have hP := hsrc2 _ HC.2
                  go_wp2_with (at_builtin; go_loud (refine wpList_app _ rfl _ _ _ rfl S0 56 i0 zeroItem 7 80 Try.underlying40 hi0 hz0 hz1 hz2 rfl (by decide) _ _ _ _ rfl (hA _ (by omega)) _ _ _ _ (its (R.drop i)) rfl hP (by rw [its_len, List.length_drop]; omega) (its_one _) (by unfold maxLen; omega) (by omega) (hsz _ HC.2) ?_); intro A4 c4 w4 ho4 hg4 hat4)
                  have HC2 := hmk _ (hCC8 _ _ (Own.grow (hA _ rfl) (Below.refl S0 _) (hsz _ HC.2) (Nat.le_refl _) hg4) HC.2)
                  clear HC hA hP
                  have HC := HC2
                  have hA := own_any ho4
                  clear HC2 ho4 hg4 hat4
                  refine ⟨HC, ?_⟩
                  apply WZ.take (i := 15) (some 3) rfl rfl (by kernel_rfl) (by kernel_rfl) (by kernel_rfl) (calm_panic _) (by kernel_rfl)
                  case hy => (refine .inl ⟨by kernel_rfl, fun W hC => ?_⟩; (try dsimp only at hC); go_simp; (try simp only [hsl1,hsl2]); rfl)
                  case hC => exact HC
                  case ha => (simp only [Act.put, List.setIfInBounds_toArray, List.set_cons_zero, List.set_cons_succ]; rfl)
                  refine WZ.done (by kernel_rfl) ?_ _
                  simp only [Calm, Exit.then]
                  go_wp2
                  exact ⟨⟨k + 1, _, _, _, R.take i ++ x :: R.drop i, by omega, rfl, rfl, by omega, HSUCC, Lib.hid (hins _ _ _ _ ((hA _ (by omega)).lower hS0)), Lib.hid (hbw _ HC.2)⟩, by simp [intOf]; omega⟩
                · conv => arg 4; arg 1; whnf
                  go_wp2_with fail
                  first
                    | have hR := hnew1 _ _ HC.2 (World.size_alloc _ _)
                    | have hR := hnew1 _ _ HC.2 rfl
                  have HC2 := hmk _ (hal _ (.cells #[.string x.c.row, .string x.c.col, .int .u64 x.c.ts, .int .u64 x.c.seq, .bool x.c.del, .string x.c.val, .int .i64 x.pos] 56) HC.2)
                  try (have hA2 := own_any (Own.alloc (hA _ rfl) (.cells #[.string x.c.row, .string x.c.col, .int .u64 x.c.ts, .int .u64 x.c.seq, .bool x.c.del, .string x.c.val, .int .i64 x.pos] 56)); clear hA; have hA := hA2; clear hA2)
                  clear HC
                  have HC := HC2
                  clear HC2
                  refine ⟨HC, ?_⟩
                  -- 4
                  refine WZ.one (i := 4) rfl (by kernel_rfl) ?_
                  conv => arg 4; arg 1; whnf
                  have hP := hsrc1 _ HC.2
                  go_wp2_with (at_builtin; go_loud (refine wpList_app _ rfl _ _ _ rfl S0 56 i0 zeroItem 7 80 Try.underlying40 hi0 hz0 hz1 hz2 rfl (by decide) _ _ _ _ rfl (hA _ (by omega)) _ _ _ _ (its (R.take i)) rfl hP hl1 (its_one _) (by unfold maxLen; omega) (by omega) (hsz _ HC.2) ?_); intro A4 c4 w4 ho4 hg4 hat4)
                  have HC2 := hmk _ (hCC8 _ _ (Own.grow (hA _ rfl) (Below.refl S0 _) (hsz _ HC.2) (Nat.le_refl _) hg4) HC.2)
                  try (have hR2 := Rd.grownAt hR hg4 (by first | (simp [blk]; done) | (simp [blk]; omega)); clear hR; have hR := hR2; clear hR2)
                  clear HC hA hP
                  have HC := HC2
                  have hA := own_any ho4
                  clear HC2 ho4 hg4 hat4
                  refine ⟨HC, ?_⟩
                  -- 10
                  refine WZ.one (i := 10) rfl (by kernel_rfl) ?_
                  conv => arg 4; arg 1; whnf
                  go_wp2_with (at_builtin; go_loud (refine wpList_app _ rfl _ _ _ rfl S0 56 i0 zeroItem 7 80 Try.underlying40 hi0 hz0 hz1 hz2 rfl (by decide) _ _ _ _ rfl (hA _ (by omega)) _ _ _ _ x.vals rfl hR rfl x.one (by unfold maxLen; omega) (by omega) (hsz _ HC.2) ?_); intro A4 c4 w4 ho4 hg4 hat4)
                  have HC2 := hmk _ (hCC8 _ _ (Own.grow (hA _ rfl) (Below.refl S0 _) (hsz _ HC.2) (Nat.le_refl _) hg4) HC.2)
                  clear HC hA hR
                  have HC := HC2
                  have hA := own_any ho4
                  clear HC2 ho4 hg4 hat4
                  refine ⟨HC, ?_⟩
                  -- 14
                  refine WZ.one (i := 14) rfl (by kernel_rfl) ?_
                  conv => arg 4; arg 1; whnf
                  have hP := hsrc2 _ HC.2
                  go_wp2_with (at_builtin; go_loud (refine wpList_app _ rfl _ _ _ rfl S0 56 i0 zeroItem 7 80 Try.underlying40 hi0 hz0 hz1 hz2 rfl (by decide) _ _ _ _ rfl (hA _ (by omega)) _ _ _ _ (its (R.drop i)) rfl hP (by rw [its_len, List.length_drop]; omega) (its_one _) (by unfold maxLen; omega) (by omega) (hsz _ HC.2) ?_); intro A4 c4 w4 ho4 hg4 hat4)
                  have HC2 := hmk _ (hCC8 _ _ (Own.grow (hA _ rfl) (Below.refl S0 _) (hsz _ HC.2) (Nat.le_refl _) hg4) HC.2)
                  clear HC hA hP
                  have HC := HC2
                  have hA := own_any ho4
                  clear HC2 ho4 hg4 hat4
                  refine ⟨HC, ?_⟩
                  apply WZ.take (i := 15) (some 3) rfl rfl (by kernel_rfl) (by kernel_rfl) (by kernel_rfl) (calm_panic _) (by kernel_rfl)
                  case hy => (refine .inl ⟨by kernel_rfl, fun W hC => ?_⟩; (try dsimp only at hC); go_simp; (try simp only [hsl1,hsl2]); rfl)
                  case hC => exact HC
                  case ha => (simp only [Act.put, List.setIfInBounds_toArray, List.set_cons_zero, List.set_cons_succ]; rfl)
                  refine WZ.done (by kernel_rfl) ?_ _
                  simp only [Calm, Exit.then]
                  go_wp2
                  exact ⟨⟨k + 1, _, _, _, R.take i ++ x :: R.drop i, by omega, rfl, rfl, by omega, HSUCC, Lib.hid (hins _ _ _ _ ((hA _ (by omega)).lower hS0)), Lib.hid (hbw _ HC.2)⟩, by simp [intOf]; omega⟩
              · conv => arg 4; arg 1; whnf
                go_wp2_with fail
                first
                  | have hR := hnew1 _ _ HC.2 (World.size_alloc _ _)
                  | have hR := hnew1 _ _ HC.2 rfl
                have HC2 := hmk _ (hal _ (.cells #[.string x.c.row, .string x.c.col, .int .u64 x.c.ts, .int .u64 x.c.seq, .bool x.c.del, .string x.c.val, .int .i64 x.pos] 56) HC.2)
                try (have hA2 := own_any (Own.alloc (hA _ rfl) (.cells #[.string x.c.row, .string x.c.col, .int .u64 x.c.ts, .int .u64 x.c.seq, .bool x.c.del, .string x.c.val, .int .i64 x.pos] 56)); clear hA; have hA := hA2; clear hA2)
                clear HC
                have HC := HC2
                clear HC2
                refine ⟨HC, ?_⟩
                -- 0
                refine WZ.one (i := 0) rfl (by kernel_rfl) ?_
                conv => arg 4; arg 1; whnf
                go_wp2_with fail
                have hA0 := hnew0 _ HC.2
                try rw [World.size_alloc] at hA0
                have hA := own_any hA0
                clear hA0
                have HC2 := hmk _ (hal _ (.cells #[] 56) HC.2)
                try (have hR2 := hR.allocS (.cells #[] 56); clear hR; have hR := hR2; clear hR2)
                clear HC
                have HC := HC2
                clear HC2
                refine ⟨HC, ?_⟩
                -- 4
                refine WZ.one (i := 4) rfl (by kernel_rfl) ?_
                conv => arg 4; arg 1; whnf
                have hP := hsrc1 _ HC.2
                go_wp2_with (at_builtin; go_loud (refine wpList_app _ rfl _ _ _ rfl S0 56 i0 zeroItem 7 80 Try.underlying40 hi0 hz0 hz1 hz2 rfl (by decide) _ _ _ _ rfl (hA _ (by omega)) _ _ _ _ (its (R.take i)) rfl hP hl1 (its_one _) (by unfold maxLen; omega) (by omega) (hsz _ HC.2) ?_); intro A4 c4 w4 ho4 hg4 hat4)
                have HC2 := hmk _ (hCC8 _ _ (Own.grow (hA _ rfl) (Below.refl S0 _) (hsz _ HC.2) (Nat.le_refl _) hg4) HC.2)
                try (have hR2 := Rd.grownAt hR hg4 (by first | (simp [blk]; done) | (simp [blk]; omega)); clear hR; have hR := hR2; clear hR2)
                clear HC hA hP
                have HC := HC2
                have hA := own_any ho4
                clear HC2 ho4 hg4 hat4
                refine ⟨HC, ?_⟩
                -- 10
                refine WZ.one (i := 10) rfl (by kernel_rfl) ?_
                conv => arg 4; arg 1; whnf
                go_wp2_with (at_builtin; go_loud (refine wpList_app _ rfl _ _ _ rfl S0 56 i0 zeroItem 7 80 Try.underlying40 hi0 hz0 hz1 hz2 rfl (by decide) _ _ _ _ rfl (hA _ (by omega)) _ _ _ _ x.vals rfl hR rfl x.one (by unfold maxLen; omega) (by omega) (hsz _ HC.2) ?_); intro A4 c4 w4 ho4 hg4 hat4)
                have HC2 := hmk _ (hCC8 _ _ (Own.grow (hA _ rfl) (Below.refl S0 _) (hsz _ HC.2) (Nat.le_refl _) hg4) HC.2)
                clear HC hA hR
                have HC := HC2
                have hA := own_any ho4
                clear HC2 ho4 hg4 hat4
                refine ⟨HC, ?_⟩
                -- 14
                refine WZ.one (i := 14) rfl (by kernel_rfl) ?_
                conv => arg 4; arg 1; whnf
                have hP := hsrc2 _ HC.2
                go_wp2_with (at_builtin; go_loud (refine wpList_app _ rfl _ _ _ rfl S0 56 i0 zeroItem 7 80 Try.underlying40 hi0 hz0 hz1 hz2 rfl (by decide) _ _ _ _ rfl (hA _ (by omega)) _ _ _ _ (its (R.drop i)) rfl hP (by rw [its_len, List.length_drop]; omega) (its_one _) (by unfold maxLen; omega) (by omega) (hsz _ HC.2) ?_); intro A4 c4 w4 ho4 hg4 hat4)
                have HC2 := hmk _ (hCC8 _ _ (Own.grow (hA _ rfl) (Below.refl S0 _) (hsz _ HC.2) (Nat.le_refl _) hg4) HC.2)
                clear HC hA hP
                have HC := HC2
                have hA := own_any ho4
                clear HC2 ho4 hg4 hat4
                refine ⟨HC, ?_⟩
                apply WZ.take (i := 15) (some 3) rfl rfl (by kernel_rfl) (by kernel_rfl) (by kernel_rfl) (calm_panic _) (by kernel_rfl)
                case hy => (refine .inl ⟨by kernel_rfl, fun W hC => ?_⟩; (try dsimp only at hC); go_simp; (try simp only [hsl1,hsl2]); rfl)
                case hC => exact HC
                case ha => (simp only [Act.put, List.setIfInBounds_toArray, List.set_cons_zero, List.set_cons_succ]; rfl)
                refine WZ.done (by kernel_rfl) ?_ _
                simp only [Calm, Exit.then]
                go_wp2
                exact ⟨⟨k + 1, _, _, _, R.take i ++ x :: R.drop i, by omega, rfl, rfl, by omega, HSUCC, Lib.hid (hins _ _ _ _ ((hA _ (by omega)).lower hS0)), Lib.hid (hbw _ HC.2)⟩, by simp [intOf]; omega⟩
        · have hin' : n = i := by omega
          have HSUCC := Lib.hid (HS1.out.trans (rstep_ins HU.out (fun h => by omega)))
          have e2 : decide ((i : Int) < (n : Int)) = false := decide_eq_false (by omega)
          have e3 : decide (i < n) = false := decide_eq_false hat
          have HC : True := trivial
          have rx := rangeAt_below HRW.out HB.out hb
          obtain ⟨S0, hS0e⟩ : ∃ S0, wr.heap.size = S0 := ⟨_, rfl⟩
          have hS0 : w.heap.size ≤ S0 := by rw [← hS0e]; exact HB.out.size
          have HC8 : (fun W' => W'.rangeAt b (o + k * 7) x.vals ∧ Own W' w.heap.size 56 7 Ao n co (its R) ∧ (∀ j, blk Ao = some j → j < S0) ∧ S0 ≤ W'.heap.size ∧ Below w.heap.size w W') wr.drew.drew.drew :=
            ⟨rx, HO.out.drew.drew.drew, fun j hj => by rw [← hS0e]; exact (Own.lt HO.out j hj).2, by show S0 ≤ wr.heap.size; omega, HB.out.drew.drew.drew⟩
          have HC8 := Lib.hid HC8
          clear rx
          go_wp2
          refine region_wz (fun _ => True) none (by kernel_rfl) ?_
          apply WZ.take (i := 0) (some 13) rfl rfl (by kernel_rfl) (by kernel_rfl) (by kernel_rfl) (calm_panic _) (by kernel_rfl)
          case hy => (refine .inl ⟨by kernel_rfl, fun W hC => ?_⟩; (try dsimp only at hC); go_simp; (try simp only [e2,e3]); rfl)
          case hC => exact HC
          case ha => (simp only [Act.put, List.setIfInBounds_toArray, List.set_cons_zero, List.set_cons_succ]; rfl)
          apply WZ.take (i := 1) (some 14) rfl rfl (by kernel_rfl) (by kernel_rfl) (by kernel_rfl) (calm_panic _) (by kernel_rfl)
          case hy => (refine .inl ⟨by kernel_rfl, fun W hC => ?_⟩; (try dsimp only at hC); go_simp; (try simp only [e2,e3]); rfl)
          case hC => exact HC
          case ha => (simp only [Act.put, List.setIfInBounds_toArray, List.set_cons_zero, List.set_cons_succ]; rfl)
          apply WZ.take (i := 2) (some 15) rfl rfl (by kernel_rfl) (by kernel_rfl) (by kernel_rfl) (calm_panic _) (by kernel_rfl)
          case hy => (refine .inl ⟨by kernel_rfl, fun W hC => ?_⟩; (try dsimp only at hC); go_simp; (try simp only [e2,e3]); rfl)
          case hC => exact HC
          case ha => (simp only [Act.put, List.setIfInBounds_toArray, List.set_cons_zero, List.set_cons_succ]; rfl)
          apply WZ.take (i := 3) (some 16) rfl rfl (by kernel_rfl) (by kernel_rfl) (by kernel_rfl) (calm_panic _) (by kernel_rfl)
          case hy => (refine .inl ⟨by kernel_rfl, fun W hC => ?_⟩; (try dsimp only at hC); go_simp; (try simp only [e2,e3]); rfl)
          case hC => exact HC
          case ha => (simp only [Act.put, List.setIfInBounds_toArray, List.set_cons_zero, List.set_cons_succ]; rfl)
          apply WZ.take (i := 4) (some 17) rfl rfl (by kernel_rfl) (by kernel_rfl) (by kernel_rfl) (calm_panic _) (by kernel_rfl)
          case hy => (refine .inl ⟨by kernel_rfl, fun W hC => ?_⟩; (try dsimp only at hC); go_simp; (try simp only [e2,e3]); rfl)
          case hC => exact HC
          case ha => (simp only [Act.put, List.setIfInBounds_toArray, List.set_cons_zero, List.set_cons_succ]; rfl)
          apply WZ.take (i := 5) (some 18) rfl rfl (by kernel_rfl) (by kernel_rfl) (by kernel_rfl) (calm_panic _) (by kernel_rfl)
          case hy => exact .inr ⟨by kernel_rfl, rfl⟩
          case hC => exact HC
          case ha => (simp only [Act.put, List.setIfInBounds_toArray, List.set_cons_zero, List.set_cons_succ]; rfl)
          apply WZ.take (i := 6) (some 19) rfl rfl (by kernel_rfl) (by kernel_rfl) (by kernel_rfl) (calm_panic _) (by kernel_rfl)
          case hy => exact .inr ⟨by kernel_rfl, rfl⟩
          case hC => exact HC
          case ha => (simp only [Act.put, List.setIfInBounds_toArray, List.set_cons_zero, List.set_cons_succ]; rfl)
          apply WZ.take (i := 7) (some 20) rfl rfl (by kernel_rfl) (by kernel_rfl) (by kernel_rfl) (calm_panic _) (by kernel_rfl)
          case hy => exact .inr ⟨by kernel_rfl, rfl⟩
          case hC => exact HC
          case ha => (simp only [Act.put, List.setIfInBounds_toArray, List.set_cons_zero, List.set_cons_succ]; rfl)
          apply WZ.take (i := 8) (some 21) rfl rfl (by kernel_rfl) (by kernel_rfl) (by kernel_rfl) (calm_panic _) (by kernel_rfl)
          case hy => exact .inr ⟨by kernel_rfl, rfl⟩
          case hC => exact HC
          case ha => (simp only [Act.put, List.setIfInBounds_toArray, List.set_cons_zero, List.set_cons_succ]; rfl)
          apply WZ.take (i := 9) (some 22) rfl rfl (by kernel_rfl) (by kernel_rfl) (by kernel_rfl) (calm_panic _) (by kernel_rfl)
          case hy => exact .inr ⟨by kernel_rfl, rfl⟩
          case hC => exact HC
          case ha => (simp only [Act.put, List.setIfInBounds_toArray, List.set_cons_zero, List.set_cons_succ]; rfl)
          apply WZ.take (i := 10) (some 23) rfl rfl (by kernel_rfl) (by kernel_rfl) (by kernel_rfl) (calm_panic _) (by kernel_rfl)
          case hy => exact .inr ⟨by kernel_rfl, rfl⟩
          case hC => exact HC
          case ha => (simp only [Act.put, List.setIfInBounds_toArray, List.set_cons_zero, List.set_cons_succ]; rfl)
          apply WZ.take (i := 11) (some 24) rfl rfl (by kernel_rfl) (by kernel_rfl) (by kernel_rfl) (calm_panic _) (by kernel_rfl)
          case hy => exact .inr ⟨by kernel_rfl, rfl⟩
          case hC => exact HC
          case ha => (simp only [Act.put, List.setIfInBounds_toArray, List.set_cons_zero, List.set_cons_succ]; rfl)
          apply WZ.take (i := 12) (some 25) rfl rfl (by kernel_rfl) (by kernel_rfl) (by kernel_rfl) (calm_panic _) (by kernel_rfl)
          case hy => exact .inr ⟨by kernel_rfl, rfl⟩
          case hC => exact HC
          case ha => (simp only [Act.put, List.setIfInBounds_toArray, List.set_cons_zero, List.set_cons_succ]; rfl)
          apply WZ.take (i := 13) (some 26) rfl rfl (by kernel_rfl) (by kernel_rfl) (by kernel_rfl) (calm_panic _) (by kernel_rfl)
          case hy => exact .inr ⟨by kernel_rfl, rfl⟩
          case hC => exact HC
          case ha => (simp only [Act.put, List.setIfInBounds_toArray, List.set_cons_zero, List.set_cons_succ]; rfl)
          apply WZ.take (i := 14) (some 27) rfl rfl (by kernel_rfl) (by kernel_rfl) (by kernel_rfl) (calm_panic _) (by kernel_rfl)
          case hy => exact .inr ⟨by kernel_rfl, rfl⟩
          case hC => exact HC
          case ha => (simp only [Act.put, List.setIfInBounds_toArray, List.set_cons_zero, List.set_cons_succ]; rfl)
          apply WZ.take (i := 15) (some 28) rfl rfl (by kernel_rfl) (by kernel_rfl) (by kernel_rfl) (calm_panic _) (by kernel_rfl)
          case hy => (refine .inl ⟨by kernel_rfl, fun W hC => ?_⟩; (try dsimp only at hC); go_simp; (try simp only [e2,e3]); rfl)
          case hC => exact HC
          case ha => (simp only [Act.put, List.setIfInBounds_toArray, List.set_cons_zero, List.set_cons_succ]; rfl)
          apply WZ.take (i := 16) (some 29) rfl rfl (by kernel_rfl) (by kernel_rfl) (by kernel_rfl) (calm_panic _) (by kernel_rfl)
          case hy => (refine .inl ⟨by kernel_rfl, fun W hC => ?_⟩; (try dsimp only at hC); go_simp; (try simp only [e2,e3]); rfl)
          case hC => exact HC
          case ha => (simp only [Act.put, List.setIfInBounds_toArray, List.set_cons_zero, List.set_cons_succ]; rfl)
          apply WZ.take (i := 17) (some 30) rfl rfl (by kernel_rfl) (by kernel_rfl) (by kernel_rfl) (calm_panic _) (by kernel_rfl)
          case hy => exact .inr ⟨by kernel_rfl, rfl⟩
          case hC => exact HC
          case ha => (simp only [Act.put, List.setIfInBounds_toArray, List.set_cons_zero, List.set_cons_succ]; rfl)
          apply WZ.take (i := 18) (some 31) rfl rfl (by kernel_rfl) (by kernel_rfl) (by kernel_rfl) (calm_panic _) (by kernel_rfl)
          case hy => exact .inr ⟨by kernel_rfl, rfl⟩
          case hC => exact HC
          case ha => (simp only [Act.put, List.setIfInBounds_toArray, List.set_cons_zero, List.set_cons_succ]; rfl)
          apply WZ.take (i := 19) (some 32) rfl rfl (by kernel_rfl) (by kernel_rfl) (by kernel_rfl) (calm_panic _) (by kernel_rfl)
          case hy => exact .inr ⟨by kernel_rfl, rfl⟩
          case hC => exact HC
          case ha => (simp only [Act.put, List.setIfInBounds_toArray, List.set_cons_zero, List.set_cons_succ]; rfl)
          apply WZ.take (i := 20) (some 33) rfl rfl (by kernel_rfl) (by kernel_rfl) (by kernel_rfl) (calm_panic _) (by kernel_rfl)
          case hy => exact .inr ⟨by kernel_rfl, rfl⟩
          case hC => exact HC
          case ha => (simp only [Act.put, List.setIfInBounds_toArray, List.set_cons_zero, List.set_cons_succ]; rfl)
          apply WZ.take (i := 21) (some 34) rfl rfl (by kernel_rfl) (by kernel_rfl) (by kernel_rfl) (calm_panic _) (by kernel_rfl)
          case hy => exact .inr ⟨by kernel_rfl, rfl⟩
          case hC => exact HC
          case ha => (simp only [Act.put, List.setIfInBounds_toArray, List.set_cons_zero, List.set_cons_succ]; rfl)
          apply WZ.take (i := 22) (some 35) rfl rfl (by kernel_rfl) (by kernel_rfl) (by kernel_rfl) (calm_panic _) (by kernel_rfl)
          case hy => exact .inr ⟨by kernel_rfl, rfl⟩
          case hC => exact HC
          case ha => (simp only [Act.put, List.setIfInBounds_toArray, List.set_cons_zero, List.set_cons_succ]; rfl)
          apply WZ.take (i := 23) (some 36) rfl rfl (by kernel_rfl) (by kernel_rfl) (by kernel_rfl) (calm_panic _) (by kernel_rfl)
          case hy => exact .inr ⟨by kernel_rfl, rfl⟩
          case hC => exact HC
          case ha => (simp only [Act.put, List.setIfInBounds_toArray, List.set_cons_zero, List.set_cons_succ]; rfl)
          apply WZ.take (i := 24) (some 37) rfl rfl (by kernel_rfl) (by kernel_rfl) (by kernel_rfl) (calm_panic _) (by kernel_rfl)
          case hy => exact .inr ⟨by kernel_rfl, rfl⟩
          case hC => exact HC
          case ha => (simp only [Act.put, List.setIfInBounds_toArray, List.set_cons_zero, List.set_cons_succ]; rfl)
          apply WZ.take (i := 25) (some 38) rfl rfl (by kernel_rfl) (by kernel_rfl) (by kernel_rfl) (calm_panic _) (by kernel_rfl)
          case hy => exact .inr ⟨by kernel_rfl, rfl⟩
          case hC => exact HC
          case ha => (simp only [Act.put, List.setIfInBounds_toArray, List.set_cons_zero, List.set_cons_succ]; rfl)
          apply WZ.take (i := 26) (some 39) rfl rfl (by kernel_rfl) (by kernel_rfl) (by kernel_rfl) (calm_panic _) (by kernel_rfl)
          case hy => exact .inr ⟨by kernel_rfl, rfl⟩
          case hC => exact HC
          case ha => (simp only [Act.put, List.setIfInBounds_toArray, List.set_cons_zero, List.set_cons_succ]; rfl)
          apply WZ.take (i := 27) (some 40) rfl rfl (by kernel_rfl) (by kernel_rfl) (by kernel_rfl) (calm_panic _) (by kernel_rfl)
          case hy => exact .inr ⟨by kernel_rfl, rfl⟩
          case hC => exact HC
          case ha => (simp only [Act.put, List.setIfInBounds_toArray, List.set_cons_zero, List.set_cons_succ]; rfl)
          apply WZ.take (i := 28) (some 41) rfl rfl (by kernel_rfl) (by kernel_rfl) (by kernel_rfl) (calm_panic _) (by kernel_rfl)
          case hy => exact .inr ⟨by kernel_rfl, rfl⟩
          case hC => exact HC
          case ha => (simp only [Act.put, List.setIfInBounds_toArray, List.set_cons_zero, List.set_cons_succ]; rfl)
          apply WZ.take (i := 29) (some 42) rfl rfl (by kernel_rfl) (by kernel_rfl) (by kernel_rfl) (calm_panic _) (by kernel_rfl)
          case hy => (refine .inl ⟨by kernel_rfl, fun W hC => ?_⟩; (try dsimp only at hC); go_simp; (try simp only [e2,e3]); rfl)
          case hC => exact HC
          case ha => (simp only [Act.put, List.setIfInBounds_toArray, List.set_cons_zero, List.set_cons_succ]; rfl)
          refine WZ.done (by kernel_rfl) ?_ _
          simp only [Calm, Exit.then]
          go_wp2
          refine region_wz (fun _ => True) none (by kernel_rfl) ?_
          apply WZ.take (i := 0) (some 61) rfl rfl (by kernel_rfl) (by kernel_rfl) (by kernel_rfl) (calm_panic _) (by kernel_rfl)
          case hy => (refine .inl ⟨by kernel_rfl, fun W hC => ?_⟩; (try dsimp only at hC); go_simp; (try simp only [e2,e3]); rfl)
          case hC => exact HC
          case ha => (simp only [Act.put, List.setIfInBounds_toArray, List.set_cons_zero, List.set_cons_succ]; rfl)
          apply WZ.take (i := 1) (some 62) rfl rfl (by kernel_rfl) (by kernel_rfl) (by kernel_rfl) (calm_panic _) (by kernel_rfl)
          case hy => (refine .inl ⟨by kernel_rfl, fun W hC => ?_⟩; (try dsimp only at hC); go_simp; (try simp only [e2,e3]); rfl)
          case hC => exact HC
          case ha => (simp only [Act.put, List.setIfInBounds_toArray, List.set_cons_zero, List.set_cons_succ]; rfl)
          apply WZ.take (i := 2) (some 63) rfl rfl (by kernel_rfl) (by kernel_rfl) (by kernel_rfl) (calm_panic _) (by kernel_rfl)
          case hy => (refine .inl ⟨by kernel_rfl, fun W hC => ?_⟩; (try dsimp only at hC); go_simp; (try simp only [e2,e3]); rfl)
          case hC => exact HC
          case ha => (simp only [Act.put, List.setIfInBounds_toArray, List.set_cons_zero, List.set_cons_succ]; rfl)
          apply WZ.take (i := 3) (some 64) rfl rfl (by kernel_rfl) (by kernel_rfl) (by kernel_rfl) (calm_panic _) (by kernel_rfl)
          case hy => (refine .inl ⟨by kernel_rfl, fun W hC => ?_⟩; (try dsimp only at hC); go_simp; (try simp only [e2,e3]); rfl)
          case hC => exact HC
          case ha => (simp only [Act.put, List.setIfInBounds_toArray, List.set_cons_zero, List.set_cons_succ]; rfl)
          apply WZ.take (i := 4) (some 65) rfl rfl (by kernel_rfl) (by kernel_rfl) (by kernel_rfl) (calm_panic _) (by kernel_rfl)
          case hy => (refine .inl ⟨by kernel_rfl, fun W hC => ?_⟩; (try dsimp only at hC); go_simp; (try simp only [e2,e3]); rfl)
          case hC => exact HC
          case ha => (simp only [Act.put, List.setIfInBounds_toArray, List.set_cons_zero, List.set_cons_succ]; rfl)
          apply WZ.take (i := 5) (some 66) rfl rfl (by kernel_rfl) (by kernel_rfl) (by kernel_rfl) (calm_panic _) (by kernel_rfl)
          case hy => exact .inr ⟨by kernel_rfl, rfl⟩
          case hC => exact HC
          case ha => (simp only [Act.put, List.setIfInBounds_toArray, List.set_cons_zero, List.set_cons_succ]; rfl)
          apply WZ.take (i := 6) (some 67) rfl rfl (by kernel_rfl) (by kernel_rfl) (by kernel_rfl) (calm_panic _) (by kernel_rfl)
          case hy => exact .inr ⟨by kernel_rfl, rfl⟩
          case hC => exact HC
          case ha => (simp only [Act.put, List.setIfInBounds_toArray, List.set_cons_zero, List.set_cons_succ]; rfl)
          apply WZ.take (i := 7) (some 68) rfl rfl (by kernel_rfl) (by kernel_rfl) (by kernel_rfl) (calm_panic _) (by kernel_rfl)
          case hy => exact .inr ⟨by kernel_rfl, rfl⟩
          case hC => exact HC
          case ha => (simp only [Act.put, List.setIfInBounds_toArray, List.set_cons_zero, List.set_cons_succ]; rfl)
          apply WZ.take (i := 8) (some 69) rfl rfl (by kernel_rfl) (by kernel_rfl) (by kernel_rfl) (calm_panic _) (by kernel_rfl)
          case hy => exact .inr ⟨by kernel_rfl, rfl⟩
          case hC => exact HC
          case ha => (simp only [Act.put, List.setIfInBounds_toArray, List.set_cons_zero, List.set_cons_succ]; rfl)
          apply WZ.take (i := 9) (some 70) rfl rfl (by kernel_rfl) (by kernel_rfl) (by kernel_rfl) (calm_panic _) (by kernel_rfl)
          case hy => exact .inr ⟨by kernel_rfl, rfl⟩
          case hC => exact HC
          case ha => (simp only [Act.put, List.setIfInBounds_toArray, List.set_cons_zero, List.set_cons_succ]; rfl)
          apply WZ.take (i := 10) (some 71) rfl rfl (by kernel_rfl) (by kernel_rfl) (by kernel_rfl) (calm_panic _) (by kernel_rfl)
          case hy => exact .inr ⟨by kernel_rfl, rfl⟩
          case hC => exact HC
          case ha => (simp only [Act.put, List.setIfInBounds_toArray, List.set_cons_zero, List.set_cons_succ]; rfl)
          apply WZ.take (i := 11) (some 72) rfl rfl (by kernel_rfl) (by kernel_rfl) (by kernel_rfl) (calm_panic _) (by kernel_rfl)
          case hy => exact .inr ⟨by kernel_rfl, rfl⟩
          case hC => exact HC
          case ha => (simp only [Act.put, List.setIfInBounds_toArray, List.set_cons_zero, List.set_cons_succ]; rfl)
          apply WZ.take (i := 12) (some 73) rfl rfl (by kernel_rfl) (by kernel_rfl) (by kernel_rfl) (calm_panic _) (by kernel_rfl)
          case hy => exact .inr ⟨by kernel_rfl, rfl⟩
          case hC => exact HC
          case ha => (simp only [Act.put, List.setIfInBounds_toArray, List.set_cons_zero, List.set_cons_succ]; rfl)
          apply WZ.take (i := 13) (some 74) rfl rfl (by kernel_rfl) (by kernel_rfl) (by kernel_rfl) (calm_panic _) (by kernel_rfl)
          case hy => exact .inr ⟨by kernel_rfl, rfl⟩
          case hC => exact HC
          case ha => (simp only [Act.put, List.setIfInBounds_toArray, List.set_cons_zero, List.set_cons_succ]; rfl)
          apply WZ.take (i := 14) (some 75) rfl rfl (by kernel_rfl) (by kernel_rfl) (by kernel_rfl) (calm_panic _) (by kernel_rfl)
          case hy => exact .inr ⟨by kernel_rfl, rfl⟩
          case hC => exact HC
          case ha => (simp only [Act.put, List.setIfInBounds_toArray, List.set_cons_zero, List.set_cons_succ]; rfl)
          apply WZ.take (i := 15) (some 76) rfl rfl (by kernel_rfl) (by kernel_rfl) (by kernel_rfl) (calm_panic _) (by kernel_rfl)
          case hy => exact .inr ⟨by kernel_rfl, rfl⟩
          case hC => exact HC
          case ha => (simp only [Act.put, List.setIfInBounds_toArray, List.set_cons_zero, List.set_cons_succ]; rfl)
          apply WZ.take (i := 16) (some 77) rfl rfl (by kernel_rfl) (by kernel_rfl) (by kernel_rfl) (calm_panic _) (by kernel_rfl)
          case hy => (refine .inl ⟨by kernel_rfl, fun W hC => ?_⟩; (try dsimp only at hC); go_simp; (try simp only [e2,e3]); rfl)
          case hC => exact HC
          case ha => (simp only [Act.put, List.setIfInBounds_toArray, List.set_cons_zero, List.set_cons_succ]; rfl)
          apply WZ.take (i := 17) (some 60) rfl rfl (by kernel_rfl) (by kernel_rfl) (by kernel_rfl) (calm_panic _) (by kernel_rfl)
          case hy => (refine .inl ⟨by kernel_rfl, fun W hC => ?_⟩; (try dsimp only at hC); go_simp; (try simp only [e2,e3]); rfl)
          case hC => exact HC
          case ha => (simp only [Act.put, List.setIfInBounds_toArray, List.set_cons_zero, List.set_cons_succ]; rfl)
          refine WZ.done (by kernel_rfl) ?_ _
          simp only [Calm, Exit.then]
          go_wp2
          have HC := HC8.out
          clear HC8
          subst hin'
          have hsl1 := fun W => run_front (P := Try.prog) (t := 40) (e := 56) (size := 7) Try.underlying40 hi0 hz1 Ao n co n (by omega) W
          have hsl2 := fun W => run_tail (P := Try.prog) (t := 40) (e := 56) (size := 7) Try.underlying40 hi0 hz1 Ao n co n (by omega) W
          obtain ⟨At, hAt⟩ : ∃ At, tailA Ao co n 7 = At := ⟨_, rfl⟩
          obtain ⟨CC, hCD⟩ : ∃ CC : World → Prop, ∀ W, CC W ↔ (fun W' => W'.rangeAt b (o + k * 7) x.vals ∧ Own W' w.heap.size 56 7 Ao n co (its R) ∧ (∀ j, blk Ao = some j → j < S0) ∧ S0 ≤ W'.heap.size ∧ Below w.heap.size w W') W := ⟨fun W' => W'.rangeAt b (o + k * 7) x.vals ∧ Own W' w.heap.size 56 7 Ao n co (its R) ∧ (∀ j, blk Ao = some j → j < S0) ∧ S0 ≤ W'.heap.size ∧ Below w.heap.size w W', fun _ => Iff.rfl⟩
          have hCC8 : ∀ W W', Below S0 W W' → CC W → CC W' := by
            intro W W' hb hc
            obtain ⟨h1, h2, h3, h4, h5⟩ := (hCD _).1 hc
            exact (hCD _).2 ⟨rangeAt_below h1 hb (by omega), h2.keep (fun j hj => hb.block j (h3 j hj)), h3, Nat.le_trans h4 hb.size, h5.trans (hb.mono hS0)⟩
          have hsz : ∀ W, CC W → S0 ≤ W.heap.size := fun W h => ((hCD _).1 h).2.2.2.1
          have hmk : ∀ W, CC W → W.rangeAt b (o + k * 7) [.string x.c.row, .string x.c.col, .int .u64 x.c.ts, .int .u64 x.c.seq, .bool x.c.del, .string x.c.val, .int .i64 x.pos] ∧ CC W := fun W h => ⟨((hCD _).1 h).1, h⟩
          have hal : ∀ (W : World) (ob : Obj), CC W → CC (W.alloc ob) := fun W ob h => hCC8 _ _ ((Below.refl S0 W).alloc (hsz _ h) ob) h
          have hnew0 : ∀ W, CC W → Own (W.alloc (.cells #[] 56)) S0 56 7 (some ⟨W.heap.size, 0, none⟩) 0 0 [] := fun W h => (Own.new0' W 56 7).lower (hsz _ h)
          have hnew1 : ∀ W g, CC W → W.heap.size = g → Rd (W.alloc (.cells #[.string x.c.row, .string x.c.col, .int .u64 x.c.ts, .int .u64 x.c.seq, .bool x.c.del, .string x.c.val, .int .i64 x.pos] 56)) (W.alloc (.cells #[.string x.c.row, .string x.c.col, .int .u64 x.c.ts, .int .u64 x.c.seq, .bool x.c.del, .string x.c.val, .int .i64 x.pos] 56)).heap.size (some ⟨g, 0, none⟩) x.vals := fun W g h hg => by
            rw [← hg]
            exact (Rd.all' W 56 x.vals _ W.heap.size rfl rfl).more (by rw [World.size_alloc]; omega)
          have hsrc1 : ∀ W, CC W → Rd W W.heap.size Ao (its (R.take n)) := fun W h => (Own.rd ((hCD _).1 h).2.1 (by omega)).frontR It.vals_len (by omega)
          have hsrc2 : ∀ W, CC W → Rd W W.heap.size At (its (R.drop n)) := fun W h => by
            rw [← hAt]
            exact (Own.rd ((hCD _).1 h).2.1 (by omega)).tailR It.vals_len hRn hnc (by omega)
          have hbw : ∀ W, CC W → Below w.heap.size w W := fun W h => ((hCD _).1 h).2.2.2.2
          have hins : ∀ W n' A' c', Own W w.heap.size 56 7 A' n' c' (its (R.take n) ++ x.vals ++ its (R.drop n)) → Own W w.heap.size 56 7 A' n' c' (its (R.take n ++ x :: R.drop n)) := fun W n' A' c' h => by rw [List.append_assoc] at h; rw [its, List.flatMap_append, List.flatMap_cons]; exact h
          have hl1 : (its (R.take n)).length = n * 7 := by rw [its_len, List.length_take]; omega
          have HC8 := hmk _ ((hCD _).2 HC)
          clear HC
          have HC := HC8
          clear HC8
          rw [hAt] at hsl2
          clear hAt hCD hS0e
          refine region_wz (fun W' => W'.rangeAt b (o + k * 7) [.string x.c.row, .string x.c.col, .int .u64 x.c.ts, .int .u64 x.c.seq, .bool x.c.del, .string x.c.val, .int .i64 x.pos] ∧ CC W') none (by kernel_rfl) ?_
          apply WZ.take (i := 1) (some 46) rfl rfl (by kernel_rfl) (by kernel_rfl) (by kernel_rfl) (calm_panic _) (by kernel_rfl)
          case hy => (refine .inl ⟨by kernel_rfl, fun W hC => ?_⟩; (try dsimp only at hC); go_simp; (try simp only [hsl1,hsl2]); rfl)
          case hC => exact HC
          case ha => (simp only [Act.put, List.setIfInBounds_toArray, List.set_cons_zero, List.set_cons_succ]; rfl)
          apply WZ.take (i := 2) (some 47) rfl rfl (by kernel_rfl) (by kernel_rfl) (by kernel_rfl) (calm_panic _) (by kernel_rfl)
          case hy => (refine .inl ⟨by kernel_rfl, fun W hC => ?_⟩; (try dsimp only at hC); go_simp; (try simp only [hsl1,hsl2]); rfl)
          case hC => exact HC
          case ha => (simp only [Act.put, List.setIfInBounds_toArray, List.set_cons_zero, List.set_cons_succ]; rfl)
          apply WZ.take (i := 3) (some 48) rfl rfl (by kernel_rfl) (by kernel_rfl) (by kernel_rfl) (calm_panic _) (by kernel_rfl)
          case hy => (refine .inl ⟨by kernel_rfl, fun W hC => ?_⟩; (try dsimp only at hC); go_simp; (try simp only [hsl1,hsl2]); rfl)
          case hC => exact HC
          case ha => (simp only [Act.put, List.setIfInBounds_toArray, List.set_cons_zero, List.set_cons_succ]; rfl)
          apply WZ.take (i := 5) (some 50) rfl rfl (by kernel_rfl) (by kernel_rfl) (by kernel_rfl) (calm_panic _) (by kernel_rfl)
          case hy => (refine .inl ⟨by kernel_rfl, fun W hC => ?_⟩; (try dsimp only at hC); go_simp; (try simp only [hsl1,hsl2]); rfl)
          case hC => exact HC
          case ha => (simp only [Act.put, List.setIfInBounds_toArray, List.set_cons_zero, List.set_cons_succ]; rfl)
          apply WZ.take (i := 6) (some 51) rfl rfl (by kernel_rfl) (by kernel_rfl) (by kernel_rfl) (calm_panic _) (by kernel_rfl)
          case hy => (refine .inl ⟨by kernel_rfl, fun W hC => ?_⟩; (try dsimp only at hC); go_simp; (try simp only [hsl1,hsl2]); rfl)
          case hC => exact HC
          case ha => (simp only [Act.put, List.setIfInBounds_toArray, List.set_cons_zero, List.set_cons_succ]; rfl)
          apply WZ.take (i := 7) (some 52) rfl rfl (by kernel_rfl) (by kernel_rfl) (by kernel_rfl) (calm_panic _) (by kernel_rfl)
          case hy => (refine .inl ⟨by kernel_rfl, fun W hC => ?_⟩; (try dsimp only at hC); go_simp; (try simp only [hsl1,hsl2]); rfl)
          case hC => exact HC
          case ha => (simp only [Act.put, List.setIfInBounds_toArray, List.set_cons_zero, List.set_cons_succ]; rfl)
          apply WZ.take (i := 8) (some 53) rfl rfl (by kernel_rfl) (by kernel_rfl) (by kernel_rfl) (calm_panic _) (by kernel_rfl)
          case hy => first | (apply yieldsIf_load_mid (by kernel_rfl) _ _ rfl _ _ rfl; (case hS => (intro W hC; exact hC.1)); (case hu => exact Try.underlying56); (case hd => rfl); (case hi => kernel_rfl)) | (apply yieldsIf_load_mid (by kernel_rfl) _ _ rfl _ _ rfl; (case hS => (intro W hC; exact hC.2.1)); (case hu => exact Try.underlying56); (case hd => rfl); (case hi => kernel_rfl)) | (apply yieldsIf_load_mid (by kernel_rfl) _ _ rfl _ _ rfl; (case hS => (intro W hC; exact hC.2.2.1)); (case hu => exact Try.underlying56); (case hd => rfl); (case hi => kernel_rfl)) | (apply yieldsIf_load_mid (by kernel_rfl) _ _ rfl _ _ rfl; (case hS => (intro W hC; exact hC.2.2.2.1)); (case hu => exact Try.underlying56); (case hd => rfl); (case hi => kernel_rfl)) | (apply yieldsIf_load_mid (by kernel_rfl) _ _ rfl _ _ rfl; (case hS => (intro W hC; exact hC.2.2.2)); (case hu => exact Try.underlying56); (case hd => rfl); (case hi => kernel_rfl)) | (apply yieldsIf_load_mid (by kernel_rfl) _ _ rfl _ _ rfl; (case hS => (intro W hC; exact hC.2.2)); (case hu => exact Try.underlying56); (case hd => rfl); (case hi => kernel_rfl)) | (apply yieldsIf_load_mid (by kernel_rfl) _ _ rfl _ _ rfl; (case hS => (intro W hC; exact hC.2)); (case hu => exact Try.underlying56); (case hd => rfl); (case hi => kernel_rfl)) | (apply yieldsIf_load_mid (by kernel_rfl) _ _ rfl _ _ rfl; (case hS => (intro W hC; exact hC)); (case hu => exact Try.underlying56); (case hd => rfl); (case hi => kernel_rfl))
          case hC => exact HC
          case ha => (simp only [Act.put, List.setIfInBounds_toArray, List.set_cons_zero, List.set_cons_succ]; rfl)
          apply WZ.take (i := 11) (some 56) rfl rfl (by kernel_rfl) (by kernel_rfl) (by kernel_rfl) (calm_panic _) (by kernel_rfl)
          case hy => (refine .inl ⟨by kernel_rfl, fun W hC => ?_⟩; (try dsimp only at hC); go_simp; (try simp only [hsl1,hsl2]); rfl)
          case hC => exact HC
          case ha => (simp only [Act.put, List.setIfInBounds_toArray, List.set_cons_zero, List.set_cons_succ]; rfl)
          apply WZ.take (i := 12) (some 57) rfl rfl (by kernel_rfl) (by kernel_rfl) (by kernel_rfl) (calm_panic _) (by kernel_rfl)
          case hy => (refine .inl ⟨by kernel_rfl, fun W hC => ?_⟩; (try dsimp only at hC); go_simp; (try simp only [hsl1,hsl2]); rfl)
          case hC => exact HC
          case ha => (simp only [Act.put, List.setIfInBounds_toArray, List.set_cons_zero, List.set_cons_succ]; rfl)
          apply WZ.take (i := 13) (some 58) rfl rfl (by kernel_rfl) (by kernel_rfl) (by kernel_rfl) (calm_panic _) (by kernel_rfl)
          case hy => (refine .inl ⟨by kernel_rfl, fun W hC => ?_⟩; (try dsimp only at hC); go_simp; (try simp only [hsl1,hsl2]); rfl)
          case hC => exact HC
          case ha => (simp only [Act.put, List.setIfInBounds_toArray, List.set_cons_zero, List.set_cons_succ]; rfl)
          refine WZ.two (i := 0) (j := 9) rfl rfl (by kernel_rfl) ?_ ?_
          · conv => arg 4; arg 1; whnf
            go_wp2_with fail
            have hA0 := hnew0 _ HC.2
            try rw [World.size_alloc] at hA0
            have hA := own_any hA0
            clear hA0
            have HC2 := hmk _ (hal _ (.cells #[] 56) HC.2)
            try (have hR2 := hR.allocS (.cells #[] 56); clear hR; have hR := hR2; clear hR2)
            clear HC
            have HC := HC2
            clear HC2
            refine ⟨HC, ?_⟩
            refine WZ.two (i := 4) (j := 9) rfl rfl (by kernel_rfl) ?_ ?_
            · conv => arg 4; arg 1; whnf
              have hP := hsrc1 _ HC.2
              go_wp2_with (at_builtin; go_loud (refine wpList_app _ rfl _ _ _ rfl S0 56 i0 zeroItem 7 80 Try.underlying40 hi0 hz0 hz1 hz2 rfl (by decide) _ _ _ _ rfl (hA _ (by omega)) _ _ _ _ (its (R.take n)) rfl hP hl1 (its_one _) (by unfold maxLen; omega) (by omega) (hsz _ HC.2) ?_); intro A4 c4 w4 ho4 hg4 hat4)
              have HC2 := hmk _ (hCC8 _ _ (Own.grow (hA _ rfl) (Below.refl S0 _) (hsz _ HC.2) (Nat.le_refl _) hg4) HC.2)
              try (have hR2 := Rd.grownAt hR hg4 (by first | (simp [blk]; done) | (simp [blk]; omega)); clear hR; have hR := hR2; clear hR2)
              clear HC hA hP
              have HC := HC2
              have hA := own_any ho4
              clear HC2 ho4 hg4 hat4
              refine ⟨HC, ?_⟩
              -- 9
              refine WZ.one (i := 9) rfl (by kernel_rfl) ?_
              conv => arg 4; arg 1; whnf
              go_wp2_with fail
              first
                | have hR := hnew1 _ _ HC.2 (World.size_alloc _ _)
                | have hR := hnew1 _ _ HC.2 rfl
              have HC2 := hmk _ (hal _ (.cells #[.string x.c.row, .string x.c.col, .int .u64 x.c.ts, .int .u64 x.c.seq, .bool x.c.del, .string x.c.val, .int .i64 x.pos] 56) HC.2)
              try (have hA2 := own_any (Own.alloc (hA _ rfl) (.cells #[.string x.c.row, .string x.c.col, .int .u64 x.c.ts, .int .u64 x.c.seq, .bool x.c.del, .string x.c.val, .int .i64 x.pos] 56)); clear hA; have hA := hA2; clear hA2)
              clear HC
              have HC := HC2
              clear HC2
              refine ⟨HC, ?_⟩
              -- 10
              refine WZ.one (i := 10) rfl (by kernel_rfl) ?_
              conv => arg 4; arg 1; whnf
              go_wp2_with (at_builtin; go_loud (refine wpList_app _ rfl _ _ _ rfl S0 56 i0 zeroItem 7 80 Try.underlying40 hi0 hz0 hz1 hz2 rfl (by decide) _ _ _ _ rfl (hA _ (by omega)) _ _ _ _ x.vals rfl hR rfl x.one (by unfold maxLen; omega) (by omega) (hsz _ HC.2) ?_); intro A4 c4 w4 ho4 hg4 hat4)
              have HC2 := hmk _ (hCC8 _ _ (Own.grow (hA _ rfl) (Below.refl S0 _) (hsz _ HC.2) (Nat.le_refl _) hg4) HC.2)
              clear HC hA hR
              have HC := HC2
              have hA := own_any ho4
              clear HC2 ho4 hg4 hat4
              refine ⟨HC, ?_⟩
              -- 14
              refine WZ.one (i := 14) rfl (by kernel_rfl) ?_
              conv => arg 4; arg 1; whnf
              have hP := hsrc2 _ HC.2
              go_wp2_with (at_builtin; go_loud (refine wpList_app _ rfl _ _ _ rfl S0 56 i0 zeroItem 7 80 Try.underlying40 hi0 hz0 hz1 hz2 rfl (by decide) _ _ _ _ rfl (hA _ (by omega)) _ _ _ _ (its (R.drop n)) rfl hP (by rw [its_len, List.length_drop]; omega) (its_one _) (by unfold maxLen; omega) (by omega) (hsz _ HC.2) ?_); intro A4 c4 w4 ho4 hg4 hat4)
              have HC2 := hmk _ (hCC8 _ _ (Own.grow (hA _ rfl) (Below.refl S0 _) (hsz _ HC.2) (Nat.le_refl _) hg4) HC.2)
              clear HC hA hP
              have HC := HC2
              have hA := own_any ho4
              clear HC2 ho4 hg4 hat4
              refine ⟨HC, ?_⟩
              apply WZ.take (i := 15) (some 3) rfl rfl (by kernel_rfl) (by kernel_rfl) (by kernel_rfl) (calm_panic _) (by kernel_rfl)
              case hy => (refine .inl ⟨by kernel_rfl, fun W hC => ?_⟩; (try dsimp only at hC); go_simp; (try simp only [hsl1,hsl2]); rfl)
              case hC => exact HC
              case ha => (simp only [Act.put, List.setIfInBounds_toArray, List.set_cons_zero, List.set_cons_succ]; rfl)
              refine WZ.done (by kernel_rfl) ?_ _
              simp only [Calm, Exit.then]
              go_wp2
              exact ⟨⟨k + 1, _, _, _, R.take n ++ x :: R.drop n, by omega, rfl, rfl, by omega, HSUCC, Lib.hid (hins _ _ _ _ ((hA _ (by omega)).lower hS0)), Lib.hid (hbw _ HC.2)⟩, by simp [intOf]; omega⟩
            · conv => arg 4; arg 1; whnf
              go_wp2_with fail
              first
                | have hR := hnew1 _ _ HC.2 (World.size_alloc _ _)
                | have hR := hnew1 _ _ HC.2 rfl
              have HC2 := hmk _ (hal _ (.cells #[.string x.c.row, .string x.c.col, .int .u64 x.c.ts, .int .u64 x.c.seq, .bool x.c.del, .string x.c.val, .int .i64 x.pos] 56) HC.2)
              try (have hA2 := own_any (Own.alloc (hA _ rfl) (.cells #[.string x.c.row, .string x.c.col, .int .u64 x.c.ts, .int .u64 x.c.seq, .bool x.c.del, .string x.c.val, .int .i64 x.pos] 56)); clear hA; have hA := hA2; clear hA2)
              clear HC
              have HC := HC2
              clear HC2
              refine ⟨HC, ?_⟩
              -- 4
              refine WZ.one (i := 4) rfl (by kernel_rfl) ?_
              conv => arg 4; arg 1; whnf
              have hP := hsrc1 _ HC.2
              go_wp2_with (at_builtin; go_loud (refine wpList_app _ rfl _ _ _ rfl S0 56 i0 zeroItem 7 80 Try.underlying40 hi0 hz0 hz1 hz2 rfl (by decide) _ _ _ _ rfl (hA _ (by omega)) _ _ _ _ (its (R.take n)) rfl hP hl1 (its_one _) (by unfold maxLen; omega) (by omega) (hsz _ HC.2) ?_); intro A4 c4 w4 ho4 hg4 hat4)
              have HC2 := hmk _ (hCC8 _ _ (Own.grow (hA _ rfl) (Below.refl S0 _) (hsz _ HC.2) (Nat.le_refl _) hg4) HC.2)
              try (have hR2 := Rd.grownAt hR hg4 (by first | (simp [blk]; done) | (simp [blk]; omega)); clear hR; have hR := hR2; clear hR2)
              clear HC hA hP
              have HC := HC2
              have hA := own_any ho4
              clear HC2 ho4 hg4 hat4
              refine ⟨HC, ?_⟩
              -- 10
              refine WZ.one (i := 10) rfl (by kernel_rfl) ?_
              conv => arg 4; arg 1; whnf
              go_wp2_with (at_builtin; go_loud (refine wpList_app _ rfl _ _ _ rfl S0 56 i0 zeroItem 7 80 Try.underlying40 hi0 hz0 hz1 hz2 rfl (by decide) _ _ _ _ rfl (hA _ (by omega)) _ _ _ _ x.vals rfl hR rfl x.one (by unfold maxLen; omega) (by omega) (hsz _ HC.2) ?_); intro A4 c4 w4 ho4 hg4 hat4)
              have HC2 := hmk _ (hCC8 _ _ (Own.grow (hA _ rfl) (Below.refl S0 _) (hsz _ HC.2) (Nat.le_refl _) hg4) HC.2)
              clear HC hA hR
              have HC := HC2
              have hA := own_any ho4
              clear HC2 ho4 hg4 hat4
              refine ⟨HC, ?_⟩
              -- 14
              refine WZ.one (i := 14) rfl (by kernel_rfl) ?_
              conv => arg 4; arg 1; whnf
              have hP := hsrc2 _ HC.2
              go_wp2_with (at_builtin; go_loud (refine wpList_app _ rfl _ _ _ rfl S0 56 i0 zeroItem 7 80 Try.underlying40 hi0 hz0 hz1 hz2 rfl (by decide) _ _ _ _ rfl (hA _ (by omega)) _ _ _ _ (its (R.drop n)) rfl hP (by rw [its_len, List.length_drop]; omega) (its_one _) (by unfold maxLen; omega) (by omega) (hsz _ HC.2) ?_); intro A4 c4 w4 ho4 hg4 hat4)
              have HC2 := hmk _ (hCC8 _ _ (Own.grow (hA _ rfl) (Below.refl S0 _) (hsz _ HC.2) (Nat.le_refl _) hg4) HC.2)
              clear HC hA hP
              have HC := HC2
              have hA := own_any ho4
              clear HC2 ho4 hg4 hat4
              refine ⟨HC, ?_⟩
              apply WZ.take (i := 15) (some 3) rfl rfl (by kernel_rfl) (by kernel_rfl) (by kernel_rfl) (calm_panic _) (by kernel_rfl)
              case hy => (refine .inl ⟨by kernel_rfl, fun W hC => ?_⟩; (try dsimp only at hC); go_simp; (try simp only [hsl1,hsl2]); rfl)
              case hC => exact HC
              case ha => (simp only [Act.put, List.setIfInBounds_toArray, List.set_cons_zero, List.set_cons_succ]; rfl)
              refine WZ.done (by kernel_rfl) ?_ _
              simp only [Calm, Exit.then]
              go_wp2
              exact ⟨⟨k + 1, _, _, _, R.take n ++ x :: R.drop n, by omega, rfl, rfl, by omega, HSUCC, Lib.hid (hins _ _ _ _ ((hA _ (by omega)).lower hS0)), Lib.hid (hbw _ HC.2)⟩, by simp [intOf]; omega⟩
          · conv => arg 4; arg 1; whnf
            go_wp2_with fail
            first
              | have hR := hnew1 _ _ HC.2 (World.size_alloc _ _)
              | have hR := hnew1 _ _ HC.2 rfl
            have HC2 := hmk _ (hal _ (.cells #[.string x.c.row, .string x.c.col, .int .u64 x.c.ts, .int .u64 x.c.seq, .bool x.c.del, .string x.c.val, .int .i64 x.pos] 56) HC.2)
            try (have hA2 := own_any (Own.alloc (hA _ rfl) (.cells #[.string x.c.row, .string x.c.col, .int .u64 x.c.ts, .int .u64 x.c.seq, .bool x.c.del, .string x.c.val, .int .i64 x.pos] 56)); clear hA; have hA := hA2; clear hA2)
            clear HC
            have HC := HC2
            clear HC2
            refine ⟨HC, ?_⟩
            -- 0
            refine WZ.one (i := 0) rfl (by kernel_rfl) ?_
            conv => arg 4; arg 1; whnf
            go_wp2_with fail
            have hA0 := hnew0 _ HC.2
            try rw [World.size_alloc] at hA0
            have hA := own_any hA0
            clear hA0
            have HC2 := hmk _ (hal _ (.cells #[] 56) HC.2)
            try (have hR2 := hR.allocS (.cells #[] 56); clear hR; have hR := hR2; clear hR2)
            clear HC
            have HC := HC2
            clear HC2
            refine ⟨HC, ?_⟩
            -- 4
            refine WZ.one (i := 4) rfl (by kernel_rfl) ?_
            conv => arg 4; arg 1; whnf
            have hP := hsrc1 _ HC.2
            go_wp2_with (at_builtin; go_loud (refine wpList_app _ rfl _ _ _ rfl S0 56 i0 zeroItem 7 80 Try.underlying40 hi0 hz0 hz1 hz2 rfl (by decide) _ _ _ _ rfl (hA _ (by omega)) _ _ _ _ (its (R.take n)) rfl hP hl1 (its_one _) (by unfold maxLen; omega) (by omega) (hsz _ HC.2) ?_); intro A4 c4 w4 ho4 hg4 hat4)
            have HC2 := hmk _ (hCC8 _ _ (Own.grow (hA _ rfl) (Below.refl S0 _) (hsz _ HC.2) (Nat.le_refl _) hg4) HC.2)
            try (have hR2 := Rd.grownAt hR hg4 (by first | (simp [blk]; done) | (simp [blk]; omega)); clear hR; have hR := hR2; clear hR2)
            clear HC hA hP
            have HC := HC2
            have hA := own_any ho4
            clear HC2 ho4 hg4 hat4
            refine ⟨HC, ?_⟩
            -- 10
            refine WZ.one (i := 10) rfl (by kernel_rfl) ?_
            conv => arg 4; arg 1; whnf
            go_wp2_with (at_builtin; go_loud (refine wpList_app _ rfl _ _ _ rfl S0 56 i0 zeroItem 7 80 Try.underlying40 hi0 hz0 hz1 hz2 rfl (by decide) _ _ _ _ rfl (hA _ (by omega)) _ _ _ _ x.vals rfl hR rfl x.one (by unfold maxLen; omega) (by omega) (hsz _ HC.2) ?_); intro A4 c4 w4 ho4 hg4 hat4)
            have HC2 := hmk _ (hCC8 _ _ (Own.grow (hA _ rfl) (Below.refl S0 _) (hsz _ HC.2) (Nat.le_refl _) hg4) HC.2)
            clear HC hA hR
            have HC := HC2
            have hA := own_any ho4
            clear HC2 ho4 hg4 hat4
            refine ⟨HC, ?_⟩
            -- 14
            refine WZ.one (i := 14) rfl (by kernel_rfl) ?_
            conv => arg 4; arg 1; whnf
            have hP := hsrc2 _ HC.2
            go_wp2_with (at_builtin; go_loud (refine wpList_app _ rfl _ _ _ rfl S0 56 i0 zeroItem 7 80 Try.underlying40 hi0 hz0 hz1 hz2 rfl (by decide) _ _ _ _ rfl (hA _ (by omega)) _ _ _ _ (its (R.drop n)) rfl hP (by rw [its_len, List.length_drop]; omega) (its_one _) (by unfold maxLen; omega) (by omega) (hsz _ HC.2) ?_); intro A4 c4 w4 ho4 hg4 hat4)
            have HC2 := hmk _ (hCC8 _ _ (Own.grow (hA _ rfl) (Below.refl S0 _) (hsz _ HC.2) (Nat.le_refl _) hg4) HC.2)
            clear HC hA hP
            have HC := HC2
            have hA := own_any ho4
            clear HC2 ho4 hg4 hat4
            refine ⟨HC, ?_⟩
            apply WZ.take (i := 15) (some 3) rfl rfl (by kernel_rfl) (by kernel_rfl) (by kernel_rfl) (calm_panic _) (by kernel_rfl)
            case hy => (refine .inl ⟨by kernel_rfl, fun W hC => ?_⟩; (try dsimp only at hC); go_simp; (try simp only [hsl1,hsl2]); rfl)
            case hC => exact HC
            case ha => (simp only [Act.put, List.setIfInBounds_toArray, List.set_cons_zero, List.set_cons_succ]; rfl)
            refine WZ.done (by kernel_rfl) ?_ _
            simp only [Calm, Exit.then]
            go_wp2
            exact ⟨⟨k + 1, _, _, _, R.take n ++ x :: R.drop n, by omega, rfl, rfl, by omega, HSUCC, Lib.hid (hins _ _ _ _ ((hA _ (by omega)).lower hS0)), Lib.hid (hbw _ HC.2)⟩, by simp [intOf]; omega⟩
    · have e1 : decide ((k : Int) < (N : Int)) = false := decide_eq_false (by omega)
      have hkN : k = N := by omega
      have HK := Lib.hid hkN
      have HRn := Lib.hid hRn
      clear hkN hRn
      go_wp2
      go_ret
      have h1 := HR.out
      rw [HK.out, ← HN.out, List.take_length] at h1
      rw [h1, HRn.out]
      exact ⟨Ao, co, rfl, HO.out, HB.out⟩
end Go.Proofs.Ytflppcgonbjnmaa
