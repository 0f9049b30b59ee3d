/-
  The walk of symMerge at items, whatever the parts.
-/
import Derived.Test.YtflppcgonbjnmaaSymBItem
namespace Go.Proofs.Ytflppcgonbjnmaa
open Go.RowKit
attribute [local go_sem ↓] Go.wp_at_zero Go.wp_at_succ

/-- what symMerge does, at parts of so many items together -/
def SymOk (d : Nat) : Prop := ∀ (g S cap N : Nat) (X A B W : List It) (a m b : Nat) (w : World), b - a ≤ d → Arr It.vals 7 w g 59 S (X ++ A ++ B ++ W) → X.length = a → a + A.length = m → m + B.length = b → b + W.length = N → N ≤ 1000000000 →
  Srt It.lt A → Srt It.lt B → a < m → m < b →
  Calls Try.prog 62 #[.slice (some ⟨g, 0, none⟩) N cap, .int .i64 a, .int .i64 m, .int .i64 b, .func (.func 53) #[] #[]] w fun e w' =>
      e = .returned (.tuple #[]) ∧ ∃ Y, SS It.lt (A ++ B) Y ∧ Arr It.vals 7 w' g 59 S (X ++ Y ++ W) ∧ w.grownBy w' (some g)

/-- the places of the search -/
structure Places (a m b mid n s0 r0 : Nat) : Prop where
  s0a : a ≤ s0
  s0r0 : s0 ≤ r0
  r0m : r0 ≤ m
  nr0 : m ≤ n - r0
  r0n : r0 ≤ n
  ns0 : n - s0 ≤ b
  s0n : s0 ≤ n
  lo : s0 = a ∨ n - s0 = b
  hi : r0 = m ∨ n - r0 = m
  nmid : n = mid + m
theorem places_hi {a m b mid n : Nat} (h : mid < m) (_h1 : a + 2 ≤ m) (h2 : m + 2 ≤ b) (hm : (a + b) / 2 = mid) (hn : mid + m = n) : Places a m b mid n (n - b) mid := ⟨by omega, by omega, by omega, by omega, by omega, by omega, by omega, by omega, by omega, by omega⟩
theorem places_lo {a m b mid n : Nat} (h : ¬ mid < m) (h1 : a + 2 ≤ m) (_h2 : m + 2 ≤ b) (hm : (a + b) / 2 = mid) (hn : mid + m = n) : Places a m b mid n a m := ⟨by omega, by omega, by omega, by omega, by omega, by omega, by omega, by omega, by omega, by omega⟩

/-- does the search go on to the right of q? -/
def Asks {α : Type} (lt : α → α → Bool) (A B : List α) (a m n q : Nat) : Bool := match A[q - a]?, B[n - 1 - q - m]? with
  | some x, some y => !lt y x
  | _, _ => false
theorem asks_eq {α : Type} {lt : α → α → Bool} {A B : List α} {a m n q : Nat} {x y : α} (hx : A[q - a]? = some x) (hy : B[n - 1 - q - m]? = some y) : Asks lt A B a m n q = !lt y x := by
  unfold Asks
  rw [hx, hy]
section
variable {α : Type} {lt : α → α → Bool} {A B : List α} {a m b mid n s0 r0 : Nat}
theorem Places.in_ (h : Places a m b mid n s0 r0) (hA : a + A.length = m) (hB : m + B.length = b) {q : Nat} (h1 : s0 ≤ q) (h2 : q < r0) : ∃ x y, A[q - a]? = some x ∧ B[n - 1 - q - m]? = some y := by
  obtain ⟨p1, p2, p3, p4, p5, p6, p7, _, _, _⟩ := h
  exact ⟨_, _, List.getElem?_eq_getElem (by omega), List.getElem?_eq_getElem (by omega)⟩
theorem srt_le {l : List α} (hw : Weak lt) (h : Srt lt l) {i j : Nat} {x y : α} (hij : i ≤ j) (hx : l[i]? = some x) (hy : l[j]? = some y) : lt y x = false := by
  by_cases e : i = j
  · subst e; rw [hx] at hy; injection hy with hy; subst hy; exact hw.irrefl _
  · exact srt_get h (by omega) hx hy
theorem Places.up (h : Places a m b mid n s0 r0) (hw : Weak lt) (sA : Srt lt A) (sB : Srt lt B) (hA : a + A.length = m) (hB : m + B.length = b) {c : Nat} (hc : c < r0) (hp : Asks lt A B a m n c = true) : ∀ q, s0 ≤ q → q ≤ c → Asks lt A B a m n q = true := by
  intro q h1 h2
  obtain ⟨x, y, hx, hy⟩ := h.in_ hA hB (show s0 ≤ c by omega) hc
  obtain ⟨x', y', hx', hy'⟩ := h.in_ hA hB h1 (show q < r0 by omega)
  rw [asks_eq hx hy, Bool.not_eq_true'] at hp
  rw [asks_eq hx' hy', Bool.not_eq_true']
  have e1 := srt_le hw sA (show q - a ≤ c - a by omega) hx' hx
  have e2 := srt_le hw sB (show n - 1 - c - m ≤ n - 1 - q - m by omega) hy hy'
  exact hw.trans _ _ _ (hw.trans _ _ _ e1 hp) e2
theorem Places.down (h : Places a m b mid n s0 r0) (hw : Weak lt) (sA : Srt lt A) (sB : Srt lt B) (hA : a + A.length = m) (hB : m + B.length = b) {c : Nat} (hc : s0 ≤ c) (hp : Asks lt A B a m n c = false) : ∀ q, c ≤ q → q < r0 → Asks lt A B a m n q = false := by
  intro q h1 h2
  obtain ⟨x, y, hx, hy⟩ := h.in_ hA hB hc (show c < r0 by omega)
  obtain ⟨x', y', hx', hy'⟩ := h.in_ hA hB (show s0 ≤ q by omega) h2
  rw [asks_eq hx hy, Bool.not_eq_false'] at hp
  rw [asks_eq hx' hy', Bool.not_eq_false']
  have e1 := srt_le hw sA (show c - a ≤ q - a by omega) hx hx'
  have e2 := srt_le hw sB (show n - 1 - q - m ≤ n - 1 - c - m by omega) hy' hy
  exact hw.le_lt e2 (hw.lt_le hp e1)
theorem Places.below (h : Places a m b mid n s0 r0) (hw : Weak lt) (sA : Srt lt A) (sB : Srt lt B) (hA : a + A.length = m) (hB : m + B.length = b) {s : Nat} (hm : Mid (Asks lt A B a m n) s0 r0 s s) :
    ∀ x ∈ A.drop (s - a), ∀ y ∈ B.take (n - s - m), lt y x = true := by
  intro x hx y hy
  have hs1 := hm.lo_i
  have hs2 := hm.j_hi
  obtain ⟨q, hq, rfl⟩ := List.mem_iff_getElem.1 hx
  obtain ⟨r, hr, rfl⟩ := List.mem_iff_getElem.1 hy
  rw [List.length_drop] at hq
  rw [List.length_take] at hr
  rw [List.getElem_drop, List.getElem_take]
  have hp := h
  obtain ⟨p1, p2, p3, p4, p5, p6, p7, _, p9, _⟩ := hp
  by_cases e : s < r0
  · have h1 := hm.no s (Nat.le_refl _) e
    obtain ⟨x', y', hx', hy'⟩ := h.in_ hA hB hs1 e
    rw [asks_eq hx' hy', Bool.not_eq_false'] at h1
    have e1 := srt_le hw sA (show s - a ≤ s - a + q by omega) hx' (List.getElem?_eq_getElem (by omega))
    have e2 := srt_le hw sB (show r ≤ n - 1 - s - m by omega) (List.getElem?_eq_getElem (by omega)) hy'
    exact hw.le_lt e2 (hw.lt_le h1 e1)
  · omega
theorem Places.above (h : Places a m b mid n s0 r0) (hw : Weak lt) (sA : Srt lt A) (sB : Srt lt B) (hA : a + A.length = m) (hB : m + B.length = b) {s : Nat} (hm : Mid (Asks lt A B a m n) s0 r0 s s) :
    ∀ x ∈ A.take (s - a), ∀ y ∈ B.drop (n - s - m), lt y x = false := by
  intro x hx y hy
  have hs1 := hm.lo_i
  have hs2 := hm.j_hi
  obtain ⟨q, hq, rfl⟩ := List.mem_iff_getElem.1 hx
  obtain ⟨r, hr, rfl⟩ := List.mem_iff_getElem.1 hy
  rw [List.length_take] at hq
  rw [List.length_drop] at hr
  rw [List.getElem_take, List.getElem_drop]
  have hp := h
  obtain ⟨p1, p2, p3, p4, p5, p6, p7, p8, _, _⟩ := hp
  by_cases e : s0 < s
  · have h1 := hm.yes (s - 1) (by omega) (by omega)
    obtain ⟨x', y', hx', hy'⟩ := h.in_ hA hB (show s0 ≤ s - 1 by omega) (show s - 1 < r0 by omega)
    rw [asks_eq hx' hy', Bool.not_eq_true'] at h1
    have e1 := srt_le hw sA (show q ≤ s - 1 - a by omega) (List.getElem?_eq_getElem (by omega)) hx'
    have e2 := srt_le hw sB (show n - 1 - (s - 1) - m ≤ n - s - m + r by omega) hy' (List.getElem?_eq_getElem (by omega))
    exact hw.trans _ _ _ (hw.trans _ _ _ e1 h1) e2
  · omega
end
theorem sym_left {α : Type} {lt : α → α → Bool} (hw : Weak lt) {x : α} {B1 B2 : List α} (hB : Srt lt (B1 ++ B2)) (h1 : ∀ y ∈ B1, lt y x = true) (h2 : ∀ y ∈ B2, lt y x = false) : SS lt ([x] ++ (B1 ++ B2)) (B1 ++ ([x] ++ B2)) := by
  have hs := srt_append.1 hB
  have := merge_join hw (a1 := []) (a2 := [x]) (b1 := B1) (b2 := B2) (m1 := B1) (m2 := [x] ++ B2) (by simp [Srt]) hB (fun a ha y hy => by rw [List.mem_singleton.1 ha]; exact h1 y hy) (fun a ha => by cases ha)
    (SS.refl hs.1) (SS.refl (srt_append.2 ⟨by simp [Srt], hs.2.1, fun a ha y hy => by rw [List.mem_singleton.1 ha]; exact h2 y hy⟩))
  simpa using this
theorem sym_right {α : Type} {lt : α → α → Bool} (hw : Weak lt) {y : α} {A1 A2 : List α} (hA : Srt lt (A1 ++ A2)) (h1 : ∀ x ∈ A1, lt y x = false) (h2 : ∀ x ∈ A2, lt y x = true) : SS lt ((A1 ++ A2) ++ [y]) (A1 ++ [y] ++ A2) := by
  have hs := srt_append.1 hA
  have := merge_join hw (a1 := A1) (a2 := A2) (b1 := [y]) (b2 := []) (m1 := A1 ++ [y]) (m2 := A2) hA (by simp [Srt]) (fun a ha b hb => by rw [List.mem_singleton.1 hb]; exact h2 a ha) (fun a ha b hb => by cases hb)
    (SS.refl (srt_append.2 ⟨hs.1, by simp [Srt], fun a ha b hb => by rw [List.mem_singleton.1 hb]; exact h1 a ha⟩)) (by simpa using SS.refl hs.2.1)
  simpa using this

set_option maxRecDepth 10000 in
set_option maxHeartbeats 16000000 in
theorem symGen_any (hw : Weak It.lt) (d : Nat) (ih : SymOk d) (g S cap N : Nat) (X A B W : List It) (a m b : Nat) (w : World) (hd : b - a ≤ d + 1) (h : Arr It.vals 7 w g 59 S (X ++ A ++ B ++ W)) (ha : X.length = a) (hm : a + A.length = m) (hb : m + B.length = b) (hN : b + W.length = N) (hmax : N ≤ 1000000000)
    (hA : Srt It.lt A) (hB : Srt It.lt B) (h1 : a + 2 ≤ m) (h2 : m + 2 ≤ b) :
    Calls Try.prog 62 #[.slice (some ⟨g, 0, none⟩) N cap, .int .i64 a, .int .i64 m, .int .i64 b, .func (.func 53) #[] #[]] w fun e w' =>
      e = .returned (.tuple #[]) ∧ ∃ Y, SS It.lt (A ++ B) Y ∧ Arr It.vals 7 w' g 59 S (X ++ Y ++ W) ∧ w.grownBy w' (some g) := by
  have HW := Lib.hid hw
  have IH := Lib.hid ih
  have H := Lib.hid h
  have HSA := Lib.hid hA
  have HSB := Lib.hid hB
  obtain ⟨mid, hmid⟩ : ∃ mid, (a + b) / 2 = mid := ⟨_, rfl⟩
  obtain ⟨n, hn⟩ : ∃ n, mid + m = n := ⟨_, rfl⟩
  obtain ⟨n1, hn1⟩ : ∃ n1, n - 1 = n1 := ⟨_, rfl⟩
  obtain ⟨ab, hab⟩ : ∃ ab, a + b = ab := ⟨_, rfl⟩
  obtain ⟨ma, hma⟩ : ∃ ma, m - a = ma := ⟨_, rfl⟩
  obtain ⟨bm, hbm⟩ : ∃ bm, b - m = bm := ⟨_, rfl⟩
  have hw1 : IntKind.i64.wrap ((m : Int) - (a : Int)) = (ma : Int) := by rw [IntWalk.i64_in _ (by omega)]; omega
  have hw1' : ((ma : Int) == 1) = false := by simp; omega
  have hw1'' : ¬ (ma : Int) = 1 := by omega
  have hw1''' : ¬ ma = 1 := by omega
  have hwb : IntKind.i64.wrap ((b : Int) - (m : Int)) = (bm : Int) := by rw [IntWalk.i64_in _ (by omega)]; omega
  have hwb' : ((bm : Int) == 1) = false := by simp; omega
  have hwb'' : ¬ (bm : Int) = 1 := by omega
  have hwb''' : ¬ bm = 1 := by omega
  have hwab : IntKind.i64.wrap ((a : Int) + (b : Int)) = (ab : Int) := by rw [IntWalk.i64_in _ (by omega)]; omega
  have hwmid : (ab : Int) / 2 = (mid : Int) := by omega
  have hwn : IntKind.i64.wrap ((mid : Int) + (m : Int)) = (n : Int) := by rw [IntWalk.i64_in _ (by omega)]; omega
  have hwn1 : IntKind.i64.wrap ((n : Int) - 1) = (n1 : Int) := by rw [IntWalk.i64_in _ (by omega)]; omega
  have hbN : b ≤ N := by omega
  have habN : ab ≤ 2000000000 := by omega
  have HF := Lib.hid (show X.length = a ∧ a + A.length = m ∧ m + B.length = b ∧ b + W.length = N ∧ n - 1 = n1 ∧ (b - a ≤ d + 1 ∧ a < mid ∧ mid < b) from ⟨ha, hm, hb, hN, hn1, hd, by omega, by omega⟩)
  clear hw ih h hA hB
  by_cases hmm : mid < m
  · have HPL := Lib.hid (places_hi hmm h1 h2 hmid hn)
    obtain ⟨s0, hs0⟩ : ∃ s0, n - b = s0 := ⟨_, rfl⟩
    rw [hs0] at HPL
    have hws0 : IntKind.i64.wrap ((n : Int) - (b : Int)) = (s0 : Int) := by rw [IntWalk.i64_in _ (by omega)]; omega
    have hmmd : decide ((mid : Int) < (m : Int)) = true := decide_eq_true (by omega)
    clear ha hm hb hN hd h1 h2 hmid hn hn1 hab hma hbm hs0
    go_enter Try.func62, Try.ntmps62
    go_wp2
    go_loopw [20, 21] (fun vi vj wr => ∃ (i j : Nat), vi = .int .i64 (i : Int) ∧ vj = .int .i64 (j : Int) ∧ j ≤ m ∧ Hid (Mid (Asks It.lt A B a m n) s0 mid i j) ∧ Hid (Arr It.vals 7 wr g 59 S (X ++ A ++ B ++ W)) ∧ Hid (w.grownBy wr (some g))) (fun vi vj _ => (intOf vj).toNat - (intOf vi).toNat)
    case atStart => exact ⟨s0, mid, rfl, rfl, HPL.out.r0m, Lib.hid (Mid.start _ HPL.out.s0r0), H, Lib.hid (grownBy_refl _ _)⟩
    case round =>
      obtain ⟨i, j, rfl, rfl, hjm, HM, HA, HG⟩ := hrel
      obtain ⟨f1, f2, f3, f4, f5, f6⟩ := HF.out
      obtain ⟨p1, p2, p3, p4, p5, p6, p7, p8, p9, p10⟩ := HPL.out
      have m1 := HM.out.lo_i
      have m2 := HM.out.j_hi
      by_cases hij : i < j
      · have e1 : decide ((i : Int) < (j : Int)) = true := decide_eq_true (by omega)
        obtain ⟨ij, hijv⟩ : ∃ ij, i + j = ij := ⟨_, rfl⟩
        have hwij : IntKind.i64.wrap ((i : Int) + (j : Int)) = (ij : Int) := by rw [IntWalk.i64_in _ (by omega)]; omega
        obtain ⟨c, hh⟩ : ∃ c, ij / 2 = c := ⟨_, rfl⟩
        have hh' : (ij : Int) / 2 = (c : Int) := by omega
        have hic : i ≤ c ∧ c < j := by omega
        obtain ⟨pc, hpc0⟩ : ∃ pc, n - 1 - c = pc := ⟨_, rfl⟩
        have hpc : IntKind.i64.wrap ((n1 : Int) - (c : Int)) = (pc : Int) := by rw [IntWalk.i64_in _ (by omega)]; omega
        obtain ⟨x, y, hx, hy⟩ := HPL.out.in_ f2 f3 (show s0 ≤ c by omega) (show c < mid by omega)
        have hask := asks_eq (lt := It.lt) hx hy
        rw [hpc0] at hy
        have HX1 := Lib.hid (show (X ++ A ++ B ++ W)[pc]? = some y by
          rw [List.append_assoc, List.getElem?_append_right (by rw [List.length_append]; omega), List.length_append, f1, f2, List.getElem?_append_left (by omega)]; exact hy)
        have HX2 := Lib.hid (show (X ++ A ++ B ++ W)[c]? = some x by
          rw [List.append_assoc, List.getElem?_append_left (by rw [List.length_append]; omega), List.getElem?_append_right (by omega), f1]; exact hx)
        have HC : wr.drew.rangeAt g (pc * 7) (It.vals y) ∧ wr.drew.rangeAt g (c * 7) (It.vals x) := ⟨HA.out.drew.get HX1.out, HA.out.drew.get HX2.out⟩
        have k1 : (0 : Int) ≤ (c : Int) := by omega
        have k2 : (c : Int) < (N : Int) := by omega
        have k3 : (0 : Int) ≤ (pc : Int) := by omega
        have k4 : (pc : Int) < (N : Int) := by omega
        have HH := Lib.hid (And.intro hic hij)
        by_cases hcmp : It.cmp y x < 0
        · have hcd : decide (It.cmp y x < 0) = true := decide_eq_true hcmp
          have hlt : It.lt y x = true := decide_eq_true hcmp
          have HM2 := Lib.hid (HM.out.down hic.1 hic.2 (by rw [hask, hlt]; rfl) (HPL.out.down HW.out HSA.out HSB.out f2 f3 (show s0 ≤ c by omega) (by rw [hask, hlt]; rfl)))
          have hcm : c ≤ m := by omega
          clear f1 f2 f3 f4 f5 f6 p1 p2 p3 p4 p5 p6 p7 p8 p9 p10 m1 m2 hic hh hijv hx hy hlt hask hpc0
          go_wp2
          refine region_wz (fun W' => W'.rangeAt g (pc * 7) (It.vals y) ∧ W'.rangeAt g (c * 7) (It.vals x)) none (by kernel_rfl) ?_
          apply WZ.take (i := 0) (some 158) rfl rfl (by kernel_rfl) (by kernel_rfl) (by kernel_rfl) (calm_panic _) (by kernel_rfl)
          case hy => (refine .inl ⟨by kernel_rfl, fun W hC => ?_⟩; (try dsimp only at hC); go_simp; (try simp only [hpc]); rfl)
          case hC => exact HC
          case ha => (simp only [Act.put, List.setIfInBounds_toArray, List.set_cons_zero, List.set_cons_succ]; rfl)
          apply WZ.take (i := 1) (some 159) rfl rfl (by kernel_rfl) (by kernel_rfl) (by kernel_rfl) (calm_panic _) (by kernel_rfl)
          case hy => (refine .inl ⟨by kernel_rfl, fun W hC => ?_⟩; (try dsimp only at hC); go_simp; (try simp only [hpc]); rfl)
          case hC => exact HC
          case ha => (simp only [Act.put, List.setIfInBounds_toArray, List.set_cons_zero, List.set_cons_succ]; rfl)
          apply WZ.take (i := 2) (some 160) rfl rfl (by kernel_rfl) (by kernel_rfl) (by kernel_rfl) (calm_panic _) (by kernel_rfl)
          case hy => (refine .inl ⟨by kernel_rfl, fun W hC => ?_⟩; (try dsimp only at hC); go_simp; (try simp only [hpc]); rfl)
          case hC => exact HC
          case ha => (simp only [Act.put, List.setIfInBounds_toArray, List.set_cons_zero, List.set_cons_succ]; rfl)
          apply WZ.take (i := 3) (some 161) rfl rfl (by kernel_rfl) (by kernel_rfl) (by kernel_rfl) (calm_panic _) (by kernel_rfl)
          case hy => (refine .inl ⟨by kernel_rfl, fun W hC => ?_⟩; (try dsimp only at hC); go_simp; (try simp only [hpc]); rfl)
          case hC => exact HC
          case ha => (simp only [Act.put, List.setIfInBounds_toArray, List.set_cons_zero, List.set_cons_succ]; rfl)
          apply WZ.take (i := 4) (some 162) rfl rfl (by kernel_rfl) (by kernel_rfl) (by kernel_rfl) (calm_panic _) (by kernel_rfl)
          case hy => (refine .inl ⟨by kernel_rfl, fun W hC => ?_⟩; (try dsimp only at hC); go_simp; (try simp only [hpc]); rfl)
          case hC => exact HC
          case ha => (simp only [Act.put, List.setIfInBounds_toArray, List.set_cons_zero, List.set_cons_succ]; rfl)
          apply WZ.take (i := 5) (some 163) rfl rfl (by kernel_rfl) (by kernel_rfl) (by kernel_rfl) (calm_panic _) (by kernel_rfl)
          case hy => (refine .inl ⟨by kernel_rfl, fun W hC => ?_⟩; (try dsimp only at hC); go_simp; (try simp only [hpc]); rfl)
          case hC => exact HC
          case ha => (simp only [Act.put, List.setIfInBounds_toArray, List.set_cons_zero, List.set_cons_succ]; rfl)
          apply WZ.take (i := 6) (some 164) rfl rfl (by kernel_rfl) (by kernel_rfl) (by kernel_rfl) (calm_panic _) (by kernel_rfl)
          case hy => first | (apply yieldsIf_load_mid (by kernel_rfl) _ _ rfl _ _ rfl; (case hS => (intro W hC; exact (show World.rangeAt _ _ _ (It.vals _) from hC.1))); (case hu => exact Try.underlying59); (case hd => rfl); (case hi => kernel_rfl)) | (apply yieldsIf_load_mid (by kernel_rfl) _ _ rfl _ _ rfl; (case hS => (intro W hC; exact (show World.rangeAt _ _ _ (It.vals _) from hC.2.1))); (case hu => exact Try.underlying59); (case hd => rfl); (case hi => kernel_rfl)) | (apply yieldsIf_load_mid (by kernel_rfl) _ _ rfl _ _ rfl; (case hS => (intro W hC; exact (show World.rangeAt _ _ _ (It.vals _) from hC.2.2.1))); (case hu => exact Try.underlying59); (case hd => rfl); (case hi => kernel_rfl)) | (apply yieldsIf_load_mid (by kernel_rfl) _ _ rfl _ _ rfl; (case hS => (intro W hC; exact (show World.rangeAt _ _ _ (It.vals _) from hC.2.2.2.1))); (case hu => exact Try.underlying59); (case hd => rfl); (case hi => kernel_rfl)) | (apply yieldsIf_load_mid (by kernel_rfl) _ _ rfl _ _ rfl; (case hS => (intro W hC; exact (show World.rangeAt _ _ _ (It.vals _) from hC.2.2.2))); (case hu => exact Try.underlying59); (case hd => rfl); (case hi => kernel_rfl)) | (apply yieldsIf_load_mid (by kernel_rfl) _ _ rfl _ _ rfl; (case hS => (intro W hC; exact (show World.rangeAt _ _ _ (It.vals _) from hC.2.2))); (case hu => exact Try.underlying59); (case hd => rfl); (case hi => kernel_rfl)) | (apply yieldsIf_load_mid (by kernel_rfl) _ _ rfl _ _ rfl; (case hS => (intro W hC; exact (show World.rangeAt _ _ _ (It.vals _) from hC.2))); (case hu => exact Try.underlying59); (case hd => rfl); (case hi => kernel_rfl)) | (apply yieldsIf_load_mid (by kernel_rfl) _ _ rfl _ _ rfl; (case hS => (intro W hC; exact (show World.rangeAt _ _ _ (It.vals _) from hC))); (case hu => exact Try.underlying59); (case hd => rfl); (case hi => kernel_rfl))
          case hC => exact HC
          case ha => (simp only [Act.put, List.setIfInBounds_toArray, List.set_cons_zero, List.set_cons_succ]; rfl)
          apply WZ.take (i := 7) (some 165) rfl rfl (by kernel_rfl) (by kernel_rfl) (by kernel_rfl) (calm_panic _) (by kernel_rfl)
          case hy => (refine .inl ⟨by kernel_rfl, fun W hC => ?_⟩; (try dsimp only at hC); go_simp; (try simp only [hpc]); rfl)
          case hC => exact HC
          case ha => (simp only [Act.put, List.setIfInBounds_toArray, List.set_cons_zero, List.set_cons_succ]; rfl)
          apply WZ.take (i := 8) (some 166) rfl rfl (by kernel_rfl) (by kernel_rfl) (by kernel_rfl) (calm_panic _) (by kernel_rfl)
          case hy => (refine .inl ⟨by kernel_rfl, fun W hC => ?_⟩; (try dsimp only at hC); go_simp; (try simp only [hpc]); rfl)
          case hC => exact HC
          case ha => (simp only [Act.put, List.setIfInBounds_toArray, List.set_cons_zero, List.set_cons_succ]; rfl)
          apply WZ.take (i := 9) (some 167) rfl rfl (by kernel_rfl) (by kernel_rfl) (by kernel_rfl) (calm_panic _) (by kernel_rfl)
          case hy => (refine .inl ⟨by kernel_rfl, fun W hC => ?_⟩; (try dsimp only at hC); go_simp; (try simp only [hpc]); rfl)
          case hC => exact HC
          case ha => (simp only [Act.put, List.setIfInBounds_toArray, List.set_cons_zero, List.set_cons_succ]; rfl)
          apply WZ.take (i := 10) (some 168) rfl rfl (by kernel_rfl) (by kernel_rfl) (by kernel_rfl) (calm_panic _) (by kernel_rfl)
          case hy => first | (apply yieldsIf_load_mid (by kernel_rfl) _ _ rfl _ _ rfl; (case hS => (intro W hC; exact (show World.rangeAt _ _ _ (It.vals _) from hC.1))); (case hu => exact Try.underlying59); (case hd => rfl); (case hi => kernel_rfl)) | (apply yieldsIf_load_mid (by kernel_rfl) _ _ rfl _ _ rfl; (case hS => (intro W hC; exact (show World.rangeAt _ _ _ (It.vals _) from hC.2.1))); (case hu => exact Try.underlying59); (case hd => rfl); (case hi => kernel_rfl)) | (apply yieldsIf_load_mid (by kernel_rfl) _ _ rfl _ _ rfl; (case hS => (intro W hC; exact (show World.rangeAt _ _ _ (It.vals _) from hC.2.2.1))); (case hu => exact Try.underlying59); (case hd => rfl); (case hi => kernel_rfl)) | (apply yieldsIf_load_mid (by kernel_rfl) _ _ rfl _ _ rfl; (case hS => (intro W hC; exact (show World.rangeAt _ _ _ (It.vals _) from hC.2.2.2.1))); (case hu => exact Try.underlying59); (case hd => rfl); (case hi => kernel_rfl)) | (apply yieldsIf_load_mid (by kernel_rfl) _ _ rfl _ _ rfl; (case hS => (intro W hC; exact (show World.rangeAt _ _ _ (It.vals _) from hC.2.2.2))); (case hu => exact Try.underlying59); (case hd => rfl); (case hi => kernel_rfl)) | (apply yieldsIf_load_mid (by kernel_rfl) _ _ rfl _ _ rfl; (case hS => (intro W hC; exact (show World.rangeAt _ _ _ (It.vals _) from hC.2.2))); (case hu => exact Try.underlying59); (case hd => rfl); (case hi => kernel_rfl)) | (apply yieldsIf_load_mid (by kernel_rfl) _ _ rfl _ _ rfl; (case hS => (intro W hC; exact (show World.rangeAt _ _ _ (It.vals _) from hC.2))); (case hu => exact Try.underlying59); (case hd => rfl); (case hi => kernel_rfl)) | (apply yieldsIf_load_mid (by kernel_rfl) _ _ rfl _ _ rfl; (case hS => (intro W hC; exact (show World.rangeAt _ _ _ (It.vals _) from hC))); (case hu => exact Try.underlying59); (case hd => rfl); (case hi => kernel_rfl))
          case hC => exact HC
          case ha => (simp only [Act.put, List.setIfInBounds_toArray, List.set_cons_zero, List.set_cons_succ]; rfl)
          -- 11
          refine WZ.one (i := 11) rfl (by kernel_rfl) ?_
          conv => arg 4; arg 1; whnf
          go_wp2_with (go_at_call 53; refine (itemCompare_any y x _).mono ?_; rintro e w1 ⟨rfl, hb1⟩)
          have HG1 := Lib.hid (grownBy_trans (grownBy_drew1 HG.out) (grownBy_below hb1 (some g)))
          have HA1 := Lib.hid (HA.out.drew.below hb1 (HA.out.drew.lt))
          have HC : w1.rangeAt g (pc * 7) (It.vals y) ∧ w1.rangeAt g (c * 7) (It.vals x) := ⟨HA1.out.get HX1.out, HA1.out.get HX2.out⟩
          clear hb1
          refine ⟨HC, ?_⟩
          apply WZ.take (i := 12) (some 170) rfl rfl (by kernel_rfl) (by kernel_rfl) (by kernel_rfl) (calm_panic _) (by kernel_rfl)
          case hy => (refine .inl ⟨by kernel_rfl, fun W hC => ?_⟩; (try dsimp only at hC); go_simp; (try simp only [hpc]); rfl)
          case hC => exact HC
          case ha => (simp only [Act.put, List.setIfInBounds_toArray, List.set_cons_zero, List.set_cons_succ]; rfl)
          apply WZ.take (i := 13) (some 171) rfl rfl (by kernel_rfl) (by kernel_rfl) (by kernel_rfl) (calm_panic _) (by kernel_rfl)
          case hy => (refine .inl ⟨by kernel_rfl, fun W hC => ?_⟩; (try dsimp only at hC); go_simp; (try simp only [hpc]); rfl)
          case hC => exact HC
          case ha => (simp only [Act.put, List.setIfInBounds_toArray, List.set_cons_zero, List.set_cons_succ]; rfl)
          refine WZ.done (by kernel_rfl) ?_ _
          simp only [Calm, Exit.then]
          go_wp2
          exact ⟨⟨i, c, rfl, rfl, hcm, HM2, HA1, HG1⟩, by have := HH.out; simp [intOf]; omega⟩
        · have hcd : decide (It.cmp y x < 0) = false := decide_eq_false hcmp
          have hcmp' : 0 ≤ It.cmp y x := by omega
          have hlt : It.lt y x = false := decide_eq_false hcmp
          have HM2 := Lib.hid (HM.out.up hic.1 hic.2 (by rw [hask, hlt]; rfl) (HPL.out.up HW.out HSA.out HSB.out f2 f3 (show c < mid by omega) (by rw [hask, hlt]; rfl)))
          have hw3 : IntKind.i64.wrap ((c : Int) + 1) = ((c + 1 : Nat) : Int) := by rw [IntWalk.i64_in _ (by omega)]; omega
          clear f1 f2 f3 f4 f5 f6 p1 p2 p3 p4 p5 p6 p7 p8 p9 p10 m1 m2 hic hh hijv hx hy hlt hask hpc0
          go_wp2
          refine region_wz (fun W' => W'.rangeAt g (pc * 7) (It.vals y) ∧ W'.rangeAt g (c * 7) (It.vals x)) none (by kernel_rfl) ?_
          apply WZ.take (i := 0) (some 158) rfl rfl (by kernel_rfl) (by kernel_rfl) (by kernel_rfl) (calm_panic _) (by kernel_rfl)
          case hy => (refine .inl ⟨by kernel_rfl, fun W hC => ?_⟩; (try dsimp only at hC); go_simp; (try simp only [hpc]); rfl)
          case hC => exact HC
          case ha => (simp only [Act.put, List.setIfInBounds_toArray, List.set_cons_zero, List.set_cons_succ]; rfl)
          apply WZ.take (i := 1) (some 159) rfl rfl (by kernel_rfl) (by kernel_rfl) (by kernel_rfl) (calm_panic _) (by kernel_rfl)
          case hy => (refine .inl ⟨by kernel_rfl, fun W hC => ?_⟩; (try dsimp only at hC); go_simp; (try simp only [hpc]); rfl)
          case hC => exact HC
          case ha => (simp only [Act.put, List.setIfInBounds_toArray, List.set_cons_zero, List.set_cons_succ]; rfl)
          apply WZ.take (i := 2) (some 160) rfl rfl (by kernel_rfl) (by kernel_rfl) (by kernel_rfl) (calm_panic _) (by kernel_rfl)
          case hy => (refine .inl ⟨by kernel_rfl, fun W hC => ?_⟩; (try dsimp only at hC); go_simp; (try simp only [hpc]); rfl)
          case hC => exact HC
          case ha => (simp only [Act.put, List.setIfInBounds_toArray, List.set_cons_zero, List.set_cons_succ]; rfl)
          apply WZ.take (i := 3) (some 161) rfl rfl (by kernel_rfl) (by kernel_rfl) (by kernel_rfl) (calm_panic _) (by kernel_rfl)
          case hy => (refine .inl ⟨by kernel_rfl, fun W hC => ?_⟩; (try dsimp only at hC); go_simp; (try simp only [hpc]); rfl)
          case hC => exact HC
          case ha => (simp only [Act.put, List.setIfInBounds_toArray, List.set_cons_zero, List.set_cons_succ]; rfl)
          apply WZ.take (i := 4) (some 162) rfl rfl (by kernel_rfl) (by kernel_rfl) (by kernel_rfl) (calm_panic _) (by kernel_rfl)
          case hy => (refine .inl ⟨by kernel_rfl, fun W hC => ?_⟩; (try dsimp only at hC); go_simp; (try simp only [hpc]); rfl)
          case hC => exact HC
          case ha => (simp only [Act.put, List.setIfInBounds_toArray, List.set_cons_zero, List.set_cons_succ]; rfl)
          apply WZ.take (i := 5) (some 163) rfl rfl (by kernel_rfl) (by kernel_rfl) (by kernel_rfl) (calm_panic _) (by kernel_rfl)
          case hy => (refine .inl ⟨by kernel_rfl, fun W hC => ?_⟩; (try dsimp only at hC); go_simp; (try simp only [hpc]); rfl)
          case hC => exact HC
          case ha => (simp only [Act.put, List.setIfInBounds_toArray, List.set_cons_zero, List.set_cons_succ]; rfl)
          apply WZ.take (i := 6) (some 164) rfl rfl (by kernel_rfl) (by kernel_rfl) (by kernel_rfl) (calm_panic _) (by kernel_rfl)
          case hy => first | (apply yieldsIf_load_mid (by kernel_rfl) _ _ rfl _ _ rfl; (case hS => (intro W hC; exact (show World.rangeAt _ _ _ (It.vals _) from hC.1))); (case hu => exact Try.underlying59); (case hd => rfl); (case hi => kernel_rfl)) | (apply yieldsIf_load_mid (by kernel_rfl) _ _ rfl _ _ rfl; (case hS => (intro W hC; exact (show World.rangeAt _ _ _ (It.vals _) from hC.2.1))); (case hu => exact Try.underlying59); (case hd => rfl); (case hi => kernel_rfl)) | (apply yieldsIf_load_mid (by kernel_rfl) _ _ rfl _ _ rfl; (case hS => (intro W hC; exact (show World.rangeAt _ _ _ (It.vals _) from hC.2.2.1))); (case hu => exact Try.underlying59); (case hd => rfl); (case hi => kernel_rfl)) | (apply yieldsIf_load_mid (by kernel_rfl) _ _ rfl _ _ rfl; (case hS => (intro W hC; exact (show World.rangeAt _ _ _ (It.vals _) from hC.2.2.2.1))); (case hu => exact Try.underlying59); (case hd => rfl); (case hi => kernel_rfl)) | (apply yieldsIf_load_mid (by kernel_rfl) _ _ rfl _ _ rfl; (case hS => (intro W hC; exact (show World.rangeAt _ _ _ (It.vals _) from hC.2.2.2))); (case hu => exact Try.underlying59); (case hd => rfl); (case hi => kernel_rfl)) | (apply yieldsIf_load_mid (by kernel_rfl) _ _ rfl _ _ rfl; (case hS => (intro W hC; exact (show World.rangeAt _ _ _ (It.vals _) from hC.2.2))); (case hu => exact Try.underlying59); (case hd => rfl); (case hi => kernel_rfl)) | (apply yieldsIf_load_mid (by kernel_rfl) _ _ rfl _ _ rfl; (case hS => (intro W hC; exact (show World.rangeAt _ _ _ (It.vals _) from hC.2))); (case hu => exact Try.underlying59); (case hd => rfl); (case hi => kernel_rfl)) | (apply yieldsIf_load_mid (by kernel_rfl) _ _ rfl _ _ rfl; (case hS => (intro W hC; exact (show World.rangeAt _ _ _ (It.vals _) from hC))); (case hu => exact Try.underlying59); (case hd => rfl); (case hi => kernel_rfl))
          case hC => exact HC
          case ha => (simp only [Act.put, List.setIfInBounds_toArray, List.set_cons_zero, List.set_cons_succ]; rfl)
          apply WZ.take (i := 7) (some 165) rfl rfl (by kernel_rfl) (by kernel_rfl) (by kernel_rfl) (calm_panic _) (by kernel_rfl)
          case hy => (refine .inl ⟨by kernel_rfl, fun W hC => ?_⟩; (try dsimp only at hC); go_simp; (try simp only [hpc]); rfl)
          case hC => exact HC
          case ha => (simp only [Act.put, List.setIfInBounds_toArray, List.set_cons_zero, List.set_cons_succ]; rfl)
          apply WZ.take (i := 8) (some 166) rfl rfl (by kernel_rfl) (by kernel_rfl) (by kernel_rfl) (calm_panic _) (by kernel_rfl)
          case hy => (refine .inl ⟨by kernel_rfl, fun W hC => ?_⟩; (try dsimp only at hC); go_simp; (try simp only [hpc]); rfl)
          case hC => exact HC
          case ha => (simp only [Act.put, List.setIfInBounds_toArray, List.set_cons_zero, List.set_cons_succ]; rfl)
          apply WZ.take (i := 9) (some 167) rfl rfl (by kernel_rfl) (by kernel_rfl) (by kernel_rfl) (calm_panic _) (by kernel_rfl)
          case hy => (refine .inl ⟨by kernel_rfl, fun W hC => ?_⟩; (try dsimp only at hC); go_simp; (try simp only [hpc]); rfl)
          case hC => exact HC
          case ha => (simp only [Act.put, List.setIfInBounds_toArray, List.set_cons_zero, List.set_cons_succ]; rfl)
          apply WZ.take (i := 10) (some 168) rfl rfl (by kernel_rfl) (by kernel_rfl) (by kernel_rfl) (calm_panic _) (by kernel_rfl)
          case hy => first | (apply yieldsIf_load_mid (by kernel_rfl) _ _ rfl _ _ rfl; (case hS => (intro W hC; exact (show World.rangeAt _ _ _ (It.vals _) from hC.1))); (case hu => exact Try.underlying59); (case hd => rfl); (case hi => kernel_rfl)) | (apply yieldsIf_load_mid (by kernel_rfl) _ _ rfl _ _ rfl; (case hS => (intro W hC; exact (show World.rangeAt _ _ _ (It.vals _) from hC.2.1))); (case hu => exact Try.underlying59); (case hd => rfl); (case hi => kernel_rfl)) | (apply yieldsIf_load_mid (by kernel_rfl) _ _ rfl _ _ rfl; (case hS => (intro W hC; exact (show World.rangeAt _ _ _ (It.vals _) from hC.2.2.1))); (case hu => exact Try.underlying59); (case hd => rfl); (case hi => kernel_rfl)) | (apply yieldsIf_load_mid (by kernel_rfl) _ _ rfl _ _ rfl; (case hS => (intro W hC; exact (show World.rangeAt _ _ _ (It.vals _) from hC.2.2.2.1))); (case hu => exact Try.underlying59); (case hd => rfl); (case hi => kernel_rfl)) | (apply yieldsIf_load_mid (by kernel_rfl) _ _ rfl _ _ rfl; (case hS => (intro W hC; exact (show World.rangeAt _ _ _ (It.vals _) from hC.2.2.2))); (case hu => exact Try.underlying59); (case hd => rfl); (case hi => kernel_rfl)) | (apply yieldsIf_load_mid (by kernel_rfl) _ _ rfl _ _ rfl; (case hS => (intro W hC; exact (show World.rangeAt _ _ _ (It.vals _) from hC.2.2))); (case hu => exact Try.underlying59); (case hd => rfl); (case hi => kernel_rfl)) | (apply yieldsIf_load_mid (by kernel_rfl) _ _ rfl _ _ rfl; (case hS => (intro W hC; exact (show World.rangeAt _ _ _ (It.vals _) from hC.2))); (case hu => exact Try.underlying59); (case hd => rfl); (case hi => kernel_rfl)) | (apply yieldsIf_load_mid (by kernel_rfl) _ _ rfl _ _ rfl; (case hS => (intro W hC; exact (show World.rangeAt _ _ _ (It.vals _) from hC))); (case hu => exact Try.underlying59); (case hd => rfl); (case hi => kernel_rfl))
          case hC => exact HC
          case ha => (simp only [Act.put, List.setIfInBounds_toArray, List.set_cons_zero, List.set_cons_succ]; rfl)
          -- 11
          refine WZ.one (i := 11) rfl (by kernel_rfl) ?_
          conv => arg 4; arg 1; whnf
          go_wp2_with (go_at_call 53; refine (itemCompare_any y x _).mono ?_; rintro e w1 ⟨rfl, hb1⟩)
          have HG1 := Lib.hid (grownBy_trans (grownBy_drew1 HG.out) (grownBy_below hb1 (some g)))
          have HA1 := Lib.hid (HA.out.drew.below hb1 (HA.out.drew.lt))
          have HC : w1.rangeAt g (pc * 7) (It.vals y) ∧ w1.rangeAt g (c * 7) (It.vals x) := ⟨HA1.out.get HX1.out, HA1.out.get HX2.out⟩
          clear hb1
          refine ⟨HC, ?_⟩
          apply WZ.take (i := 12) (some 170) rfl rfl (by kernel_rfl) (by kernel_rfl) (by kernel_rfl) (calm_panic _) (by kernel_rfl)
          case hy => (refine .inl ⟨by kernel_rfl, fun W hC => ?_⟩; (try dsimp only at hC); go_simp; (try simp only [hpc]); rfl)
          case hC => exact HC
          case ha => (simp only [Act.put, List.setIfInBounds_toArray, List.set_cons_zero, List.set_cons_succ]; rfl)
          apply WZ.take (i := 13) (some 171) rfl rfl (by kernel_rfl) (by kernel_rfl) (by kernel_rfl) (calm_panic _) (by kernel_rfl)
          case hy => (refine .inl ⟨by kernel_rfl, fun W hC => ?_⟩; (try dsimp only at hC); go_simp; (try simp only [hpc]); rfl)
          case hC => exact HC
          case ha => (simp only [Act.put, List.setIfInBounds_toArray, List.set_cons_zero, List.set_cons_succ]; rfl)
          refine WZ.done (by kernel_rfl) ?_ _
          simp only [Calm, Exit.then]
          go_wp2
          exact ⟨⟨c + 1, j, by first | rfl | go_num, rfl, hjm, HM2, HA1, HG1⟩, by have := HH.out; simp [intOf]; omega⟩
      · have e1 : decide ((i : Int) < (j : Int)) = false := decide_eq_false (by omega)
        have e1' : ¬ i < j := hij
        have hje : i = j := by have := HM.out.i_j; omega
        subst hje
        have HLOW := Lib.hid (HPL.out.below HW.out HSA.out HSB.out f2 f3 HM.out)
        have HABO := Lib.hid (HPL.out.above HW.out HSA.out HSB.out f2 f3 HM.out)
        obtain ⟨en, hen⟩ : ∃ en, n - i = en := ⟨_, rfl⟩
        have hwen : IntKind.i64.wrap ((n : Int) - (i : Int)) = (en : Int) := by rw [IntWalk.i64_in _ (by omega)]; omega
        rw [hen] at HLOW HABO
        obtain ⟨A1, hA1⟩ : ∃ L, A.take (i - a) = L := ⟨_, rfl⟩
        obtain ⟨A2, hA2⟩ : ∃ L, A.drop (i - a) = L := ⟨_, rfl⟩
        obtain ⟨B1, hB1⟩ : ∃ L, B.take (en - m) = L := ⟨_, rfl⟩
        obtain ⟨B2, hB2⟩ : ∃ L, B.drop (en - m) = L := ⟨_, rfl⟩
        have la1 : A1.length = i - a := by rw [← hA1, List.length_take]; omega
        have la2 : A2.length = m - i := by rw [← hA2, List.length_drop]; omega
        have lb1 : B1.length = en - m := by rw [← hB1, List.length_take]; omega
        have lb2 : B2.length = b - en := by rw [← hB2, List.length_drop]; omega
        have hAA : A = A1 ++ A2 := by rw [← hA1, ← hA2, List.take_append_drop]
        have hBB : B = B1 ++ B2 := by rw [← hB1, ← hB2, List.take_append_drop]
        rw [hA2, hB1] at HLOW
        rw [hA1, hB2] at HABO
        have HAA := Lib.hid (And.intro hAA hBB)
        have hsA := HSA.out
        have hsB := HSB.out
        rw [hAA] at hsA
        rw [hBB] at hsB
        have sA := srt_append.1 hsA
        have sB := srt_append.1 hsB
        have HA0 : Hid (Arr It.vals 7 wr g 59 S ((X ++ A1) ++ A2 ++ B1 ++ (B2 ++ W))) := by have := HA.out; rw [hAA, hBB] at this; exact Lib.hid (by simpa only [List.append_assoc] using this)
        have hmidn : mid = i + (en - m) := by omega
        -- the three calls
        have HR := fun (h1 : i < m) (h2 : m < en) (W0 : World) (h0 : Arr It.vals 7 W0 g 59 S ((X ++ A1) ++ A2 ++ B1 ++ (B2 ++ W))) => rotate_any g S cap N (X ++ A1) A2 B1 (B2 ++ W) i m en (.func (.func 53) #[] #[]) W0 h0 (by rw [List.length_append]; omega) (by omega) (by omega) (by rw [List.length_append]; omega) hmax (by omega) (by omega)
        have HC2 := fun (h1 : a < i) (h2 : i < mid) (W0 : World) (h0 : Arr It.vals 7 W0 g 59 S (X ++ A1 ++ B1 ++ (A2 ++ B2 ++ W))) => IH.out g S cap N X A1 B1 (A2 ++ B2 ++ W) a i mid W0 (by omega) h0 f1 (by omega) (by omega) (by simp only [List.length_append]; omega) hmax sA.1 sB.1 h1 h2
        have HC3 := fun (h1 : mid < en) (h2 : en < b) (Y1 : List It) (hy : SS It.lt (A1 ++ B1) Y1) (W0 : World) (h0 : Arr It.vals 7 W0 g 59 S ((X ++ Y1) ++ A2 ++ B2 ++ W)) => IH.out g S cap N (X ++ Y1) A2 B2 W mid en b W0 (by omega) h0 (by rw [List.length_append, ← hy.2.2.length_eq, List.length_append]; omega) (by omega) (by omega) f4 hmax sA.2.1 sB.2.1 h1 h2
        have HS1 := Lib.hid (fun (h : A2 = [] ∨ B1 = []) => show ((X ++ A1) ++ A2 ++ B1 ++ (B2 ++ W)) = (X ++ A1 ++ B1 ++ (A2 ++ B2 ++ W)) by rcases h with h | h <;> rw [h] <;> simp)
        have HS2 := Lib.hid (fun (h : A1 = [] ∨ B1 = []) => show SS It.lt (A1 ++ B1) (A1 ++ B1) by
          rcases h with h | h
          · rw [h]; exact SS.refl sB.1
          · rw [h, List.append_nil]; exact SS.refl sA.1)
        have HS3 := Lib.hid (fun (h : A2 = [] ∨ B2 = []) => show SS It.lt (A2 ++ B2) (A2 ++ B2) by
          rcases h with h | h
          · rw [h]; exact SS.refl sB.2.1
          · rw [h, List.append_nil]; exact SS.refl sA.2.1)
        have HV1 := Lib.hid (fun (W0 : World) (h0 : Arr It.vals 7 W0 g 59 S ((X ++ A1) ++ B1 ++ A2 ++ (B2 ++ W))) => show Arr It.vals 7 W0 g 59 S (X ++ A1 ++ B1 ++ (A2 ++ B2 ++ W)) by simpa only [List.append_assoc] using h0)
        have HV0 := Lib.hid (fun (h : A2 = [] ∨ B1 = []) (W0 : World) (h0 : Arr It.vals 7 W0 g 59 S ((X ++ A1) ++ A2 ++ B1 ++ (B2 ++ W))) => show Arr It.vals 7 W0 g 59 S (X ++ A1 ++ B1 ++ (A2 ++ B2 ++ W)) by rw [HS1.out h] at h0; exact h0)
        have HV2 := Lib.hid (fun (W0 : World) (h0 : Arr It.vals 7 W0 g 59 S (X ++ A1 ++ B1 ++ (A2 ++ B2 ++ W))) => show Arr It.vals 7 W0 g 59 S ((X ++ (A1 ++ B1)) ++ A2 ++ B2 ++ W) by simpa only [List.append_assoc] using h0)
        have HV3 := Lib.hid (fun (Y : List It) (W0 : World) (h0 : Arr It.vals 7 W0 g 59 S (X ++ Y ++ (A2 ++ B2 ++ W))) => show Arr It.vals 7 W0 g 59 S ((X ++ Y) ++ A2 ++ B2 ++ W) by simpa only [List.append_assoc] using h0)
        have HV4 := Lib.hid (fun (Y : List It) (W0 : World) (h0 : Arr It.vals 7 W0 g 59 S ((X ++ Y) ++ A2 ++ B2 ++ W)) => show Arr It.vals 7 W0 g 59 S ((X ++ Y) ++ (A2 ++ B2) ++ W) by simpa only [List.append_assoc] using h0)
        have HV5 := Lib.hid (fun (Y Z : List It) (W0 : World) (h0 : Arr It.vals 7 W0 g 59 S ((X ++ Y) ++ Z ++ W)) => show Arr It.vals 7 W0 g 59 S (X ++ (Y ++ Z) ++ W) by simpa only [List.append_assoc] using h0)
        have HJ := Lib.hid (fun (Y1 Y2 : List It) (h1 : SS It.lt (A1 ++ B1) Y1) (h2 : SS It.lt (A2 ++ B2) Y2) => merge_join HW.out hsA hsB HLOW.out HABO.out h1 h2)
        have HLA := Lib.hid (And.intro la1 (And.intro la2 (And.intro lb1 lb2)))
        have hmide : mid < en ↔ i < m := by omega
        have hmen : m < en ↔ i < mid := by omega
        have hempA1 : ¬ a < i → A1 = [] := fun h => List.eq_nil_of_length_eq_zero (by omega)
        have hempA2 : ¬ i < m → A2 = [] := fun h => List.eq_nil_of_length_eq_zero (by omega)
        have hempB1 : ¬ m < en → B1 = [] := fun h => List.eq_nil_of_length_eq_zero (by omega)
        have hempB2 : ¬ en < b → B2 = [] := fun h => List.eq_nil_of_length_eq_zero (by omega)
        have HE := Lib.hid (And.intro hempA1 (And.intro hempA2 (And.intro hempB1 hempB2)))
        clear f1 f2 f3 f4 f5 f6 p1 p2 p3 p4 p5 p6 p7 p8 p9 p10 m1 m2 hij la1 la2 lb1 lb2 hAA hBB hsA hsB sA sB hA1 hA2 hB1 hB2 hmidn hen hempA1 hempA2 hempB1 hempB2 HA HLOW HABO
        have HME := Lib.hid (And.intro hmide hmen)
        by_cases q1 : a < i <;> by_cases q2 : i < m <;> by_cases q3 : i < mid <;> by_cases q4 : en < b
        all_goals first | (exfalso; omega) | (
          have q5 := hmide
          have q6 := hmen
          simp only [q2, q3, iff_true, iff_false] at q5 q6
          clear hmide hmen
          first | (have r1 : decide ((a : Int) < (i : Int)) = true := decide_eq_true (by omega)) | (have r1 : decide ((a : Int) < (i : Int)) = false := decide_eq_false (by omega))
          first | (have r2 : decide ((i : Int) < (m : Int)) = true := decide_eq_true (by omega)) | (have r2 : decide ((i : Int) < (m : Int)) = false := decide_eq_false (by omega))
          first | (have r3 : decide ((i : Int) < (mid : Int)) = true := decide_eq_true (by omega)) | (have r3 : decide ((i : Int) < (mid : Int)) = false := decide_eq_false (by omega))
          first | (have r4 : decide ((en : Int) < (b : Int)) = true := decide_eq_true (by omega)) | (have r4 : decide ((en : Int) < (b : Int)) = false := decide_eq_false (by omega))
          first | (have r5 : decide ((mid : Int) < (en : Int)) = true := decide_eq_true (by omega)) | (have r5 : decide ((mid : Int) < (en : Int)) = false := decide_eq_false (by omega))
          first | (have r6 : decide ((m : Int) < (en : Int)) = true := decide_eq_true (by omega)) | (have r6 : decide ((m : Int) < (en : Int)) = false := decide_eq_false (by omega))
          first | (have n1 : decide (a < i) = true := decide_eq_true (by omega)) | (have n1 : decide (a < i) = false := decide_eq_false (by omega))
          first | (have n2 : decide (i < m) = true := decide_eq_true (by omega)) | (have n2 : decide (i < m) = false := decide_eq_false (by omega))
          first | (have n3 : decide (i < mid) = true := decide_eq_true (by omega)) | (have n3 : decide (i < mid) = false := decide_eq_false (by omega))
          first | (have n4 : decide (en < b) = true := decide_eq_true (by omega)) | (have n4 : decide (en < b) = false := decide_eq_false (by omega))
          first | (have n5 : decide (mid < en) = true := decide_eq_true (by omega)) | (have n5 : decide (mid < en) = false := decide_eq_false (by omega))
          first | (have n6 : decide (m < en) = true := decide_eq_true (by omega)) | (have n6 : decide (m < en) = false := decide_eq_false (by omega))
          first | (have todo1 : Hid (i < m ∧ m < en) := Lib.hid (by omega)) | (have HN1 := Lib.hid (show A2 = [] ∨ B1 = [] by first | exact .inl (HE.out.2.1 (by omega)) | exact .inr (HE.out.2.2.1 (by omega))))
          first | (have todo2 : Hid (a < i ∧ i < mid) := Lib.hid (by omega)) | (have HN2 := Lib.hid (show A1 = [] ∨ B1 = [] by first | exact .inl (HE.out.1 (by omega)) | exact .inr (HE.out.2.2.1 (by omega))))
          first | (have todo3 : Hid (mid < en ∧ en < b) := Lib.hid (by omega)) | (have HN3 := Lib.hid (show A2 = [] ∨ B2 = [] by first | exact .inl (HE.out.2.1 (by omega)) | exact .inr (HE.out.2.2.2 (by omega))))
          go_wp2_with (first
            | (clear todo1; go_at_call 66; refine (HR q2 q6 _ HA0.out).mono ?_; rintro e w1 ⟨rfl, hx1, hg1⟩
               have HX1 := Lib.hid (HV1.out _ hx1)
               have HG1 := Lib.hid (grownBy_trans HG.out hg1)
               clear hx1 hg1 HR)
            | (clear todo2; go_at_call 62; (try (have HX1 := Lib.hid (HV0.out HN1.out _ HA0.out); have HG1 := HG)); refine (HC2 q1 q3 _ HX1.out).mono ?_; rintro e w2 ⟨rfl, Y1, hy1, hx2, hg2⟩
               have HY1 := Lib.hid hy1
               have HX2 := Lib.hid (HV3.out _ _ hx2)
               have HG2 := Lib.hid (grownBy_trans HG1.out hg2)
               clear hx2 hg2 hy1 HC2)
            | (clear todo3; go_at_call 62; (try (have HX1 := Lib.hid (HV0.out HN1.out _ HA0.out); have HG1 := HG)); (try (have HY1 := Lib.hid (HS2.out HN2.out); have HX2 := Lib.hid (HV2.out _ HX1.out); have HG2 := HG1)); refine (HC3 q5 q4 _ HY1.out _ HX2.out).mono ?_; rintro e w3 ⟨rfl, Y2, hy2, hx3, hg3⟩
               have HY2 := Lib.hid hy2
               have HX3 := Lib.hid hx3
               have HG3 := Lib.hid (grownBy_trans HG2.out hg3)
               clear hx3 hg3 hy2 HC3))
          go_end0
          try (have HX1 := Lib.hid (HV0.out HN1.out _ HA0.out); have HG1 := HG)
          try (have HY1 := Lib.hid (HS2.out HN2.out); have HX2 := Lib.hid (HV2.out _ HX1.out); have HG2 := HG1)
          try (have HY2 := Lib.hid (HS3.out HN3.out); have HX3 := Lib.hid (HV4.out _ _ HX2.out); have HG3 := HG2)
          have hss := HJ.out _ _ HY1.out HY2.out
          rw [← HAA.out.1, ← HAA.out.2] at hss
          exact ⟨rfl, _, hss, HV5.out _ _ _ HX3.out, HG3.out⟩)
  · have HPL := Lib.hid (places_lo hmm h1 h2 hmid hn)
    have hmmd : decide ((mid : Int) < (m : Int)) = false := decide_eq_false (by omega)
    clear ha hm hb hN hd h1 h2 hmid hn hn1 hab hma hbm
    go_enter Try.func62, Try.ntmps62
    go_wp2
    go_loopw [20, 21] (fun vi vj wr => ∃ (i j : Nat), vi = .int .i64 (i : Int) ∧ vj = .int .i64 (j : Int) ∧ j ≤ m ∧ Hid (Mid (Asks It.lt A B a m n) a m i j) ∧ Hid (Arr It.vals 7 wr g 59 S (X ++ A ++ B ++ W)) ∧ Hid (w.grownBy wr (some g))) (fun vi vj _ => (intOf vj).toNat - (intOf vi).toNat)
    case atStart => exact ⟨a, m, rfl, rfl, HPL.out.r0m, Lib.hid (Mid.start _ HPL.out.s0r0), H, Lib.hid (grownBy_refl _ _)⟩
    case round =>
      obtain ⟨i, j, rfl, rfl, hjm, HM, HA, HG⟩ := hrel
      obtain ⟨f1, f2, f3, f4, f5, f6⟩ := HF.out
      obtain ⟨p1, p2, p3, p4, p5, p6, p7, p8, p9, p10⟩ := HPL.out
      have m1 := HM.out.lo_i
      have m2 := HM.out.j_hi
      by_cases hij : i < j
      · have e1 : decide ((i : Int) < (j : Int)) = true := decide_eq_true (by omega)
        obtain ⟨ij, hijv⟩ : ∃ ij, i + j = ij := ⟨_, rfl⟩
        have hwij : IntKind.i64.wrap ((i : Int) + (j : Int)) = (ij : Int) := by rw [IntWalk.i64_in _ (by omega)]; omega
        obtain ⟨c, hh⟩ : ∃ c, ij / 2 = c := ⟨_, rfl⟩
        have hh' : (ij : Int) / 2 = (c : Int) := by omega
        have hic : i ≤ c ∧ c < j := by omega
        obtain ⟨pc, hpc0⟩ : ∃ pc, n - 1 - c = pc := ⟨_, rfl⟩
        have hpc : IntKind.i64.wrap ((n1 : Int) - (c : Int)) = (pc : Int) := by rw [IntWalk.i64_in _ (by omega)]; omega
        obtain ⟨x, y, hx, hy⟩ := HPL.out.in_ f2 f3 (show a ≤ c by omega) (show c < m by omega)
        have hask := asks_eq (lt := It.lt) hx hy
        rw [hpc0] at hy
        have HX1 := Lib.hid (show (X ++ A ++ B ++ W)[pc]? = some y by
          rw [List.append_assoc, List.getElem?_append_right (by rw [List.length_append]; omega), List.length_append, f1, f2, List.getElem?_append_left (by omega)]; exact hy)
        have HX2 := Lib.hid (show (X ++ A ++ B ++ W)[c]? = some x by
          rw [List.append_assoc, List.getElem?_append_left (by rw [List.length_append]; omega), List.getElem?_append_right (by omega), f1]; exact hx)
        have HC : wr.drew.rangeAt g (pc * 7) (It.vals y) ∧ wr.drew.rangeAt g (c * 7) (It.vals x) := ⟨HA.out.drew.get HX1.out, HA.out.drew.get HX2.out⟩
        have k1 : (0 : Int) ≤ (c : Int) := by omega
        have k2 : (c : Int) < (N : Int) := by omega
        have k3 : (0 : Int) ≤ (pc : Int) := by omega
        have k4 : (pc : Int) < (N : Int) := by omega
        have HH := Lib.hid (And.intro hic hij)
        by_cases hcmp : It.cmp y x < 0
        · have hcd : decide (It.cmp y x < 0) = true := decide_eq_true hcmp
          have hlt : It.lt y x = true := decide_eq_true hcmp
          have HM2 := Lib.hid (HM.out.down hic.1 hic.2 (by rw [hask, hlt]; rfl) (HPL.out.down HW.out HSA.out HSB.out f2 f3 (show a ≤ c by omega) (by rw [hask, hlt]; rfl)))
          have hcm : c ≤ m := by omega
          clear f1 f2 f3 f4 f5 f6 p1 p2 p3 p4 p5 p6 p7 p8 p9 p10 m1 m2 hic hh hijv hx hy hlt hask hpc0
          go_wp2
          refine region_wz (fun W' => W'.rangeAt g (pc * 7) (It.vals y) ∧ W'.rangeAt g (c * 7) (It.vals x)) none (by kernel_rfl) ?_
          apply WZ.take (i := 0) (some 158) rfl rfl (by kernel_rfl) (by kernel_rfl) (by kernel_rfl) (calm_panic _) (by kernel_rfl)
          case hy => (refine .inl ⟨by kernel_rfl, fun W hC => ?_⟩; (try dsimp only at hC); go_simp; (try simp only [hpc]); rfl)
          case hC => exact HC
          case ha => (simp only [Act.put, List.setIfInBounds_toArray, List.set_cons_zero, List.set_cons_succ]; rfl)
          apply WZ.take (i := 1) (some 159) rfl rfl (by kernel_rfl) (by kernel_rfl) (by kernel_rfl) (calm_panic _) (by kernel_rfl)
          case hy => (refine .inl ⟨by kernel_rfl, fun W hC => ?_⟩; (try dsimp only at hC); go_simp; (try simp only [hpc]); rfl)
          case hC => exact HC
          case ha => (simp only [Act.put, List.setIfInBounds_toArray, List.set_cons_zero, List.set_cons_succ]; rfl)
          apply WZ.take (i := 2) (some 160) rfl rfl (by kernel_rfl) (by kernel_rfl) (by kernel_rfl) (calm_panic _) (by kernel_rfl)
          case hy => (refine .inl ⟨by kernel_rfl, fun W hC => ?_⟩; (try dsimp only at hC); go_simp; (try simp only [hpc]); rfl)
          case hC => exact HC
          case ha => (simp only [Act.put, List.setIfInBounds_toArray, List.set_cons_zero, List.set_cons_succ]; rfl)
          apply WZ.take (i := 3) (some 161) rfl rfl (by kernel_rfl) (by kernel_rfl) (by kernel_rfl) (calm_panic _) (by kernel_rfl)
          case hy => (refine .inl ⟨by kernel_rfl, fun W hC => ?_⟩; (try dsimp only at hC); go_simp; (try simp only [hpc]); rfl)
          case hC => exact HC
          case ha => (simp only [Act.put, List.setIfInBounds_toArray, List.set_cons_zero, List.set_cons_succ]; rfl)
          apply WZ.take (i := 4) (some 162) rfl rfl (by kernel_rfl) (by kernel_rfl) (by kernel_rfl) (calm_panic _) (by kernel_rfl)
          case hy => (refine .inl ⟨by kernel_rfl, fun W hC => ?_⟩; (try dsimp only at hC); go_simp; (try simp only [hpc]); rfl)
          case hC => exact HC
          case ha => (simp only [Act.put, List.setIfInBounds_toArray, List.set_cons_zero, List.set_cons_succ]; rfl)
          apply WZ.take (i := 5) (some 163) rfl rfl (by kernel_rfl) (by kernel_rfl) (by kernel_rfl) (calm_panic _) (by kernel_rfl)
          case hy => (refine .inl ⟨by kernel_rfl, fun W hC => ?_⟩; (try dsimp only at hC); go_simp; (try simp only [hpc]); rfl)
          case hC => exact HC
          case ha => (simp only [Act.put, List.setIfInBounds_toArray, List.set_cons_zero, List.set_cons_succ]; rfl)
          apply WZ.take (i := 6) (some 164) rfl rfl (by kernel_rfl) (by kernel_rfl) (by kernel_rfl) (calm_panic _) (by kernel_rfl)
          case hy => first | (apply yieldsIf_load_mid (by kernel_rfl) _ _ rfl _ _ rfl; (case hS => (intro W hC; exact (show World.rangeAt _ _ _ (It.vals _) from hC.1))); (case hu => exact Try.underlying59); (case hd => rfl); (case hi => kernel_rfl)) | (apply yieldsIf_load_mid (by kernel_rfl) _ _ rfl _ _ rfl; (case hS => (intro W hC; exact (show World.rangeAt _ _ _ (It.vals _) from hC.2.1))); (case hu => exact Try.underlying59); (case hd => rfl); (case hi => kernel_rfl)) | (apply yieldsIf_load_mid (by kernel_rfl) _ _ rfl _ _ rfl; (case hS => (intro W hC; exact (show World.rangeAt _ _ _ (It.vals _) from hC.2.2.1))); (case hu => exact Try.underlying59); (case hd => rfl); (case hi => kernel_rfl)) | (apply yieldsIf_load_mid (by kernel_rfl) _ _ rfl _ _ rfl; (case hS => (intro W hC; exact (show World.rangeAt _ _ _ (It.vals _) from hC.2.2.2.1))); (case hu => exact Try.underlying59); (case hd => rfl); (case hi => kernel_rfl)) | (apply yieldsIf_load_mid (by kernel_rfl) _ _ rfl _ _ rfl; (case hS => (intro W hC; exact (show World.rangeAt _ _ _ (It.vals _) from hC.2.2.2))); (case hu => exact Try.underlying59); (case hd => rfl); (case hi => kernel_rfl)) | (apply yieldsIf_load_mid (by kernel_rfl) _ _ rfl _ _ rfl; (case hS => (intro W hC; exact (show World.rangeAt _ _ _ (It.vals _) from hC.2.2))); (case hu => exact Try.underlying59); (case hd => rfl); (case hi => kernel_rfl)) | (apply yieldsIf_load_mid (by kernel_rfl) _ _ rfl _ _ rfl; (case hS => (intro W hC; exact (show World.rangeAt _ _ _ (It.vals _) from hC.2))); (case hu => exact Try.underlying59); (case hd => rfl); (case hi => kernel_rfl)) | (apply yieldsIf_load_mid (by kernel_rfl) _ _ rfl _ _ rfl; (case hS => (intro W hC; exact (show World.rangeAt _ _ _ (It.vals _) from hC))); (case hu => exact Try.underlying59); (case hd => rfl); (case hi => kernel_rfl))
          case hC => exact HC
          case ha => (simp only [Act.put, List.setIfInBounds_toArray, List.set_cons_zero, List.set_cons_succ]; rfl)
          apply WZ.take (i := 7) (some 165) rfl rfl (by kernel_rfl) (by kernel_rfl) (by kernel_rfl) (calm_panic _) (by kernel_rfl)
          case hy => (refine .inl ⟨by kernel_rfl, fun W hC => ?_⟩; (try dsimp only at hC); go_simp; (try simp only [hpc]); rfl)
          case hC => exact HC
          case ha => (simp only [Act.put, List.setIfInBounds_toArray, List.set_cons_zero, List.set_cons_succ]; rfl)
          apply WZ.take (i := 8) (some 166) rfl rfl (by kernel_rfl) (by kernel_rfl) (by kernel_rfl) (calm_panic _) (by kernel_rfl)
          case hy => (refine .inl ⟨by kernel_rfl, fun W hC => ?_⟩; (try dsimp only at hC); go_simp; (try simp only [hpc]); rfl)
          case hC => exact HC
          case ha => (simp only [Act.put, List.setIfInBounds_toArray, List.set_cons_zero, List.set_cons_succ]; rfl)
          apply WZ.take (i := 9) (some 167) rfl rfl (by kernel_rfl) (by kernel_rfl) (by kernel_rfl) (calm_panic _) (by kernel_rfl)
          case hy => (refine .inl ⟨by kernel_rfl, fun W hC => ?_⟩; (try dsimp only at hC); go_simp; (try simp only [hpc]); rfl)
          case hC => exact HC
          case ha => (simp only [Act.put, List.setIfInBounds_toArray, List.set_cons_zero, List.set_cons_succ]; rfl)
          apply WZ.take (i := 10) (some 168) rfl rfl (by kernel_rfl) (by kernel_rfl) (by kernel_rfl) (calm_panic _) (by kernel_rfl)
          case hy => first | (apply yieldsIf_load_mid (by kernel_rfl) _ _ rfl _ _ rfl; (case hS => (intro W hC; exact (show World.rangeAt _ _ _ (It.vals _) from hC.1))); (case hu => exact Try.underlying59); (case hd => rfl); (case hi => kernel_rfl)) | (apply yieldsIf_load_mid (by kernel_rfl) _ _ rfl _ _ rfl; (case hS => (intro W hC; exact (show World.rangeAt _ _ _ (It.vals _) from hC.2.1))); (case hu => exact Try.underlying59); (case hd => rfl); (case hi => kernel_rfl)) | (apply yieldsIf_load_mid (by kernel_rfl) _ _ rfl _ _ rfl; (case hS => (intro W hC; exact (show World.rangeAt _ _ _ (It.vals _) from hC.2.2.1))); (case hu => exact Try.underlying59); (case hd => rfl); (case hi => kernel_rfl)) | (apply yieldsIf_load_mid (by kernel_rfl) _ _ rfl _ _ rfl; (case hS => (intro W hC; exact (show World.rangeAt _ _ _ (It.vals _) from hC.2.2.2.1))); (case hu => exact Try.underlying59); (case hd => rfl); (case hi => kernel_rfl)) | (apply yieldsIf_load_mid (by kernel_rfl) _ _ rfl _ _ rfl; (case hS => (intro W hC; exact (show World.rangeAt _ _ _ (It.vals _) from hC.2.2.2))); (case hu => exact Try.underlying59); (case hd => rfl); (case hi => kernel_rfl)) | (apply yieldsIf_load_mid (by kernel_rfl) _ _ rfl _ _ rfl; (case hS => (intro W hC; exact (show World.rangeAt _ _ _ (It.vals _) from hC.2.2))); (case hu => exact Try.underlying59); (case hd => rfl); (case hi => kernel_rfl)) | (apply yieldsIf_load_mid (by kernel_rfl) _ _ rfl _ _ rfl; (case hS => (intro W hC; exact (show World.rangeAt _ _ _ (It.vals _) from hC.2))); (case hu => exact Try.underlying59); (case hd => rfl); (case hi => kernel_rfl)) | (apply yieldsIf_load_mid (by kernel_rfl) _ _ rfl _ _ rfl; (case hS => (intro W hC; exact (show World.rangeAt _ _ _ (It.vals _) from hC))); (case hu => exact Try.underlying59); (case hd => rfl); (case hi => kernel_rfl))
          case hC => exact HC
          case ha => (simp only [Act.put, List.setIfInBounds_toArray, List.set_cons_zero, List.set_cons_succ]; rfl)
          -- 11
          refine WZ.one (i := 11) rfl (by kernel_rfl) ?_
          conv => arg 4; arg 1; whnf
          go_wp2_with (go_at_call 53; refine (itemCompare_any y x _).mono ?_; rintro e w1 ⟨rfl, hb1⟩)
          have HG1 := Lib.hid (grownBy_trans (grownBy_drew1 HG.out) (grownBy_below hb1 (some g)))
          have HA1 := Lib.hid (HA.out.drew.below hb1 (HA.out.drew.lt))
          have HC : w1.rangeAt g (pc * 7) (It.vals y) ∧ w1.rangeAt g (c * 7) (It.vals x) := ⟨HA1.out.get HX1.out, HA1.out.get HX2.out⟩
          clear hb1
          refine ⟨HC, ?_⟩
          apply WZ.take (i := 12) (some 170) rfl rfl (by kernel_rfl) (by kernel_rfl) (by kernel_rfl) (calm_panic _) (by kernel_rfl)
          case hy => (refine .inl ⟨by kernel_rfl, fun W hC => ?_⟩; (try dsimp only at hC); go_simp; (try simp only [hpc]); rfl)
          case hC => exact HC
          case ha => (simp only [Act.put, List.setIfInBounds_toArray, List.set_cons_zero, List.set_cons_succ]; rfl)
          apply WZ.take (i := 13) (some 171) rfl rfl (by kernel_rfl) (by kernel_rfl) (by kernel_rfl) (calm_panic _) (by kernel_rfl)
          case hy => (refine .inl ⟨by kernel_rfl, fun W hC => ?_⟩; (try dsimp only at hC); go_simp; (try simp only [hpc]); rfl)
          case hC => exact HC
          case ha => (simp only [Act.put, List.setIfInBounds_toArray, List.set_cons_zero, List.set_cons_succ]; rfl)
          refine WZ.done (by kernel_rfl) ?_ _
          simp only [Calm, Exit.then]
          go_wp2
          exact ⟨⟨i, c, rfl, rfl, hcm, HM2, HA1, HG1⟩, by have := HH.out; simp [intOf]; omega⟩
        · have hcd : decide (It.cmp y x < 0) = false := decide_eq_false hcmp
          have hcmp' : 0 ≤ It.cmp y x := by omega
          have hlt : It.lt y x = false := decide_eq_false hcmp
          have HM2 := Lib.hid (HM.out.up hic.1 hic.2 (by rw [hask, hlt]; rfl) (HPL.out.up HW.out HSA.out HSB.out f2 f3 (show c < m by omega) (by rw [hask, hlt]; rfl)))
          have hw3 : IntKind.i64.wrap ((c : Int) + 1) = ((c + 1 : Nat) : Int) := by rw [IntWalk.i64_in _ (by omega)]; omega
          clear f1 f2 f3 f4 f5 f6 p1 p2 p3 p4 p5 p6 p7 p8 p9 p10 m1 m2 hic hh hijv hx hy hlt hask hpc0
          go_wp2
          refine region_wz (fun W' => W'.rangeAt g (pc * 7) (It.vals y) ∧ W'.rangeAt g (c * 7) (It.vals x)) none (by kernel_rfl) ?_
          apply WZ.take (i := 0) (some 158) rfl rfl (by kernel_rfl) (by kernel_rfl) (by kernel_rfl) (calm_panic _) (by kernel_rfl)
          case hy => (refine .inl ⟨by kernel_rfl, fun W hC => ?_⟩; (try dsimp only at hC); go_simp; (try simp only [hpc]); rfl)
          case hC => exact HC
          case ha => (simp only [Act.put, List.setIfInBounds_toArray, List.set_cons_zero, List.set_cons_succ]; rfl)
          apply WZ.take (i := 1) (some 159) rfl rfl (by kernel_rfl) (by kernel_rfl) (by kernel_rfl) (calm_panic _) (by kernel_rfl)
          case hy => (refine .inl ⟨by kernel_rfl, fun W hC => ?_⟩; (try dsimp only at hC); go_simp; (try simp only [hpc]); rfl)
          case hC => exact HC
          case ha => (simp only [Act.put, List.setIfInBounds_toArray, List.set_cons_zero, List.set_cons_succ]; rfl)
          apply WZ.take (i := 2) (some 160) rfl rfl (by kernel_rfl) (by kernel_rfl) (by kernel_rfl) (calm_panic _) (by kernel_rfl)
          case hy => (refine .inl ⟨by kernel_rfl, fun W hC => ?_⟩; (try dsimp only at hC); go_simp; (try simp only [hpc]); rfl)
          case hC => exact HC
          case ha => (simp only [Act.put, List.setIfInBounds_toArray, List.set_cons_zero, List.set_cons_succ]; rfl)
          apply WZ.take (i := 3) (some 161) rfl rfl (by kernel_rfl) (by kernel_rfl) (by kernel_rfl) (calm_panic _) (by kernel_rfl)
          case hy => (refine .inl ⟨by kernel_rfl, fun W hC => ?_⟩; (try dsimp only at hC); go_simp; (try simp only [hpc]); rfl)
          case hC => exact HC
          case ha => (simp only [Act.put, List.setIfInBounds_toArray, List.set_cons_zero, List.set_cons_succ]; rfl)
          apply WZ.take (i := 4) (some 162) rfl rfl (by kernel_rfl) (by kernel_rfl) (by kernel_rfl) (calm_panic _) (by kernel_rfl)
          case hy => (refine .inl ⟨by kernel_rfl, fun W hC => ?_⟩; (try dsimp only at hC); go_simp; (try simp only [hpc]); rfl)
          case hC => exact HC
          case ha => (simp only [Act.put, List.setIfInBounds_toArray, List.set_cons_zero, List.set_cons_succ]; rfl)
          apply WZ.take (i := 5) (some 163) rfl rfl (by kernel_rfl) (by kernel_rfl) (by kernel_rfl) (calm_panic _) (by kernel_rfl)
          case hy => (refine .inl ⟨by kernel_rfl, fun W hC => ?_⟩; (try dsimp only at hC); go_simp; (try simp only [hpc]); rfl)
          case hC => exact HC
          case ha => (simp only [Act.put, List.setIfInBounds_toArray, List.set_cons_zero, List.set_cons_succ]; rfl)
          apply WZ.take (i := 6) (some 164) rfl rfl (by kernel_rfl) (by kernel_rfl) (by kernel_rfl) (calm_panic _) (by kernel_rfl)
          case hy => first | (apply yieldsIf_load_mid (by kernel_rfl) _ _ rfl _ _ rfl; (case hS => (intro W hC; exact (show World.rangeAt _ _ _ (It.vals _) from hC.1))); (case hu => exact Try.underlying59); (case hd => rfl); (case hi => kernel_rfl)) | (apply yieldsIf_load_mid (by kernel_rfl) _ _ rfl _ _ rfl; (case hS => (intro W hC; exact (show World.rangeAt _ _ _ (It.vals _) from hC.2.1))); (case hu => exact Try.underlying59); (case hd => rfl); (case hi => kernel_rfl)) | (apply yieldsIf_load_mid (by kernel_rfl) _ _ rfl _ _ rfl; (case hS => (intro W hC; exact (show World.rangeAt _ _ _ (It.vals _) from hC.2.2.1))); (case hu => exact Try.underlying59); (case hd => rfl); (case hi => kernel_rfl)) | (apply yieldsIf_load_mid (by kernel_rfl) _ _ rfl _ _ rfl; (case hS => (intro W hC; exact (show World.rangeAt _ _ _ (It.vals _) from hC.2.2.2.1))); (case hu => exact Try.underlying59); (case hd => rfl); (case hi => kernel_rfl)) | (apply yieldsIf_load_mid (by kernel_rfl) _ _ rfl _ _ rfl; (case hS => (intro W hC; exact (show World.rangeAt _ _ _ (It.vals _) from hC.2.2.2))); (case hu => exact Try.underlying59); (case hd => rfl); (case hi => kernel_rfl)) | (apply yieldsIf_load_mid (by kernel_rfl) _ _ rfl _ _ rfl; (case hS => (intro W hC; exact (show World.rangeAt _ _ _ (It.vals _) from hC.2.2))); (case hu => exact Try.underlying59); (case hd => rfl); (case hi => kernel_rfl)) | (apply yieldsIf_load_mid (by kernel_rfl) _ _ rfl _ _ rfl; (case hS => (intro W hC; exact (show World.rangeAt _ _ _ (It.vals _) from hC.2))); (case hu => exact Try.underlying59); (case hd => rfl); (case hi => kernel_rfl)) | (apply yieldsIf_load_mid (by kernel_rfl) _ _ rfl _ _ rfl; (case hS => (intro W hC; exact (show World.rangeAt _ _ _ (It.vals _) from hC))); (case hu => exact Try.underlying59); (case hd => rfl); (case hi => kernel_rfl))
          case hC => exact HC
          case ha => (simp only [Act.put, List.setIfInBounds_toArray, List.set_cons_zero, List.set_cons_succ]; rfl)
          apply WZ.take (i := 7) (some 165) rfl rfl (by kernel_rfl) (by kernel_rfl) (by kernel_rfl) (calm_panic _) (by kernel_rfl)
          case hy => (refine .inl ⟨by kernel_rfl, fun W hC => ?_⟩; (try dsimp only at hC); go_simp; (try simp only [hpc]); rfl)
          case hC => exact HC
          case ha => (simp only [Act.put, List.setIfInBounds_toArray, List.set_cons_zero, List.set_cons_succ]; rfl)
          apply WZ.take (i := 8) (some 166) rfl rfl (by kernel_rfl) (by kernel_rfl) (by kernel_rfl) (calm_panic _) (by kernel_rfl)
          case hy => (refine .inl ⟨by kernel_rfl, fun W hC => ?_⟩; (try dsimp only at hC); go_simp; (try simp only [hpc]); rfl)
          case hC => exact HC
          case ha => (simp only [Act.put, List.setIfInBounds_toArray, List.set_cons_zero, List.set_cons_succ]; rfl)
          apply WZ.take (i := 9) (some 167) rfl rfl (by kernel_rfl) (by kernel_rfl) (by kernel_rfl) (calm_panic _) (by kernel_rfl)
          case hy => (refine .inl ⟨by kernel_rfl, fun W hC => ?_⟩; (try dsimp only at hC); go_simp; (try simp only [hpc]); rfl)
          case hC => exact HC
          case ha => (simp only [Act.put, List.setIfInBounds_toArray, List.set_cons_zero, List.set_cons_succ]; rfl)
          apply WZ.take (i := 10) (some 168) rfl rfl (by kernel_rfl) (by kernel_rfl) (by kernel_rfl) (calm_panic _) (by kernel_rfl)
          case hy => first | (apply yieldsIf_load_mid (by kernel_rfl) _ _ rfl _ _ rfl; (case hS => (intro W hC; exact (show World.rangeAt _ _ _ (It.vals _) from hC.1))); (case hu => exact Try.underlying59); (case hd => rfl); (case hi => kernel_rfl)) | (apply yieldsIf_load_mid (by kernel_rfl) _ _ rfl _ _ rfl; (case hS => (intro W hC; exact (show World.rangeAt _ _ _ (It.vals _) from hC.2.1))); (case hu => exact Try.underlying59); (case hd => rfl); (case hi => kernel_rfl)) | (apply yieldsIf_load_mid (by kernel_rfl) _ _ rfl _ _ rfl; (case hS => (intro W hC; exact (show World.rangeAt _ _ _ (It.vals _) from hC.2.2.1))); (case hu => exact Try.underlying59); (case hd => rfl); (case hi => kernel_rfl)) | (apply yieldsIf_load_mid (by kernel_rfl) _ _ rfl _ _ rfl; (case hS => (intro W hC; exact (show World.rangeAt _ _ _ (It.vals _) from hC.2.2.2.1))); (case hu => exact Try.underlying59); (case hd => rfl); (case hi => kernel_rfl)) | (apply yieldsIf_load_mid (by kernel_rfl) _ _ rfl _ _ rfl; (case hS => (intro W hC; exact (show World.rangeAt _ _ _ (It.vals _) from hC.2.2.2))); (case hu => exact Try.underlying59); (case hd => rfl); (case hi => kernel_rfl)) | (apply yieldsIf_load_mid (by kernel_rfl) _ _ rfl _ _ rfl; (case hS => (intro W hC; exact (show World.rangeAt _ _ _ (It.vals _) from hC.2.2))); (case hu => exact Try.underlying59); (case hd => rfl); (case hi => kernel_rfl)) | (apply yieldsIf_load_mid (by kernel_rfl) _ _ rfl _ _ rfl; (case hS => (intro W hC; exact (show World.rangeAt _ _ _ (It.vals _) from hC.2))); (case hu => exact Try.underlying59); (case hd => rfl); (case hi => kernel_rfl)) | (apply yieldsIf_load_mid (by kernel_rfl) _ _ rfl _ _ rfl; (case hS => (intro W hC; exact (show World.rangeAt _ _ _ (It.vals _) from hC))); (case hu => exact Try.underlying59); (case hd => rfl); (case hi => kernel_rfl))
          case hC => exact HC
          case ha => (simp only [Act.put, List.setIfInBounds_toArray, List.set_cons_zero, List.set_cons_succ]; rfl)
          -- 11
          refine WZ.one (i := 11) rfl (by kernel_rfl) ?_
          conv => arg 4; arg 1; whnf
          go_wp2_with (go_at_call 53; refine (itemCompare_any y x _).mono ?_; rintro e w1 ⟨rfl, hb1⟩)
          have HG1 := Lib.hid (grownBy_trans (grownBy_drew1 HG.out) (grownBy_below hb1 (some g)))
          have HA1 := Lib.hid (HA.out.drew.below hb1 (HA.out.drew.lt))
          have HC : w1.rangeAt g (pc * 7) (It.vals y) ∧ w1.rangeAt g (c * 7) (It.vals x) := ⟨HA1.out.get HX1.out, HA1.out.get HX2.out⟩
          clear hb1
          refine ⟨HC, ?_⟩
          apply WZ.take (i := 12) (some 170) rfl rfl (by kernel_rfl) (by kernel_rfl) (by kernel_rfl) (calm_panic _) (by kernel_rfl)
          case hy => (refine .inl ⟨by kernel_rfl, fun W hC => ?_⟩; (try dsimp only at hC); go_simp; (try simp only [hpc]); rfl)
          case hC => exact HC
          case ha => (simp only [Act.put, List.setIfInBounds_toArray, List.set_cons_zero, List.set_cons_succ]; rfl)
          apply WZ.take (i := 13) (some 171) rfl rfl (by kernel_rfl) (by kernel_rfl) (by kernel_rfl) (calm_panic _) (by kernel_rfl)
          case hy => (refine .inl ⟨by kernel_rfl, fun W hC => ?_⟩; (try dsimp only at hC); go_simp; (try simp only [hpc]); rfl)
          case hC => exact HC
          case ha => (simp only [Act.put, List.setIfInBounds_toArray, List.set_cons_zero, List.set_cons_succ]; rfl)
          refine WZ.done (by kernel_rfl) ?_ _
          simp only [Calm, Exit.then]
          go_wp2
          exact ⟨⟨c + 1, j, by first | rfl | go_num, rfl, hjm, HM2, HA1, HG1⟩, by have := HH.out; simp [intOf]; omega⟩
      · have e1 : decide ((i : Int) < (j : Int)) = false := decide_eq_false (by omega)
        have e1' : ¬ i < j := hij
        have hje : i = j := by have := HM.out.i_j; omega
        subst hje
        have HLOW := Lib.hid (HPL.out.below HW.out HSA.out HSB.out f2 f3 HM.out)
        have HABO := Lib.hid (HPL.out.above HW.out HSA.out HSB.out f2 f3 HM.out)
        obtain ⟨en, hen⟩ : ∃ en, n - i = en := ⟨_, rfl⟩
        have hwen : IntKind.i64.wrap ((n : Int) - (i : Int)) = (en : Int) := by rw [IntWalk.i64_in _ (by omega)]; omega
        rw [hen] at HLOW HABO
        obtain ⟨A1, hA1⟩ : ∃ L, A.take (i - a) = L := ⟨_, rfl⟩
        obtain ⟨A2, hA2⟩ : ∃ L, A.drop (i - a) = L := ⟨_, rfl⟩
        obtain ⟨B1, hB1⟩ : ∃ L, B.take (en - m) = L := ⟨_, rfl⟩
        obtain ⟨B2, hB2⟩ : ∃ L, B.drop (en - m) = L := ⟨_, rfl⟩
        have la1 : A1.length = i - a := by rw [← hA1, List.length_take]; omega
        have la2 : A2.length = m - i := by rw [← hA2, List.length_drop]; omega
        have lb1 : B1.length = en - m := by rw [← hB1, List.length_take]; omega
        have lb2 : B2.length = b - en := by rw [← hB2, List.length_drop]; omega
        have hAA : A = A1 ++ A2 := by rw [← hA1, ← hA2, List.take_append_drop]
        have hBB : B = B1 ++ B2 := by rw [← hB1, ← hB2, List.take_append_drop]
        rw [hA2, hB1] at HLOW
        rw [hA1, hB2] at HABO
        have HAA := Lib.hid (And.intro hAA hBB)
        have hsA := HSA.out
        have hsB := HSB.out
        rw [hAA] at hsA
        rw [hBB] at hsB
        have sA := srt_append.1 hsA
        have sB := srt_append.1 hsB
        have HA0 : Hid (Arr It.vals 7 wr g 59 S ((X ++ A1) ++ A2 ++ B1 ++ (B2 ++ W))) := by have := HA.out; rw [hAA, hBB] at this; exact Lib.hid (by simpa only [List.append_assoc] using this)
        have hmidn : mid = i + (en - m) := by omega
        -- the three calls
        have HR := fun (h1 : i < m) (h2 : m < en) (W0 : World) (h0 : Arr It.vals 7 W0 g 59 S ((X ++ A1) ++ A2 ++ B1 ++ (B2 ++ W))) => rotate_any g S cap N (X ++ A1) A2 B1 (B2 ++ W) i m en (.func (.func 53) #[] #[]) W0 h0 (by rw [List.length_append]; omega) (by omega) (by omega) (by rw [List.length_append]; omega) hmax (by omega) (by omega)
        have HC2 := fun (h1 : a < i) (h2 : i < mid) (W0 : World) (h0 : Arr It.vals 7 W0 g 59 S (X ++ A1 ++ B1 ++ (A2 ++ B2 ++ W))) => IH.out g S cap N X A1 B1 (A2 ++ B2 ++ W) a i mid W0 (by omega) h0 f1 (by omega) (by omega) (by simp only [List.length_append]; omega) hmax sA.1 sB.1 h1 h2
        have HC3 := fun (h1 : mid < en) (h2 : en < b) (Y1 : List It) (hy : SS It.lt (A1 ++ B1) Y1) (W0 : World) (h0 : Arr It.vals 7 W0 g 59 S ((X ++ Y1) ++ A2 ++ B2 ++ W)) => IH.out g S cap N (X ++ Y1) A2 B2 W mid en b W0 (by omega) h0 (by rw [List.length_append, ← hy.2.2.length_eq, List.length_append]; omega) (by omega) (by omega) f4 hmax sA.2.1 sB.2.1 h1 h2
        have HS1 := Lib.hid (fun (h : A2 = [] ∨ B1 = []) => show ((X ++ A1) ++ A2 ++ B1 ++ (B2 ++ W)) = (X ++ A1 ++ B1 ++ (A2 ++ B2 ++ W)) by rcases h with h | h <;> rw [h] <;> simp)
        have HS2 := Lib.hid (fun (h : A1 = [] ∨ B1 = []) => show SS It.lt (A1 ++ B1) (A1 ++ B1) by
          rcases h with h | h
          · rw [h]; exact SS.refl sB.1
          · rw [h, List.append_nil]; exact SS.refl sA.1)
        have HS3 := Lib.hid (fun (h : A2 = [] ∨ B2 = []) => show SS It.lt (A2 ++ B2) (A2 ++ B2) by
          rcases h with h | h
          · rw [h]; exact SS.refl sB.2.1
          · rw [h, List.append_nil]; exact SS.refl sA.2.1)
        have HV1 := Lib.hid (fun (W0 : World) (h0 : Arr It.vals 7 W0 g 59 S ((X ++ A1) ++ B1 ++ A2 ++ (B2 ++ W))) => show Arr It.vals 7 W0 g 59 S (X ++ A1 ++ B1 ++ (A2 ++ B2 ++ W)) by simpa only [List.append_assoc] using h0)
        have HV0 := Lib.hid (fun (h : A2 = [] ∨ B1 = []) (W0 : World) (h0 : Arr It.vals 7 W0 g 59 S ((X ++ A1) ++ A2 ++ B1 ++ (B2 ++ W))) => show Arr It.vals 7 W0 g 59 S (X ++ A1 ++ B1 ++ (A2 ++ B2 ++ W)) by rw [HS1.out h] at h0; exact h0)
        have HV2 := Lib.hid (fun (W0 : World) (h0 : Arr It.vals 7 W0 g 59 S (X ++ A1 ++ B1 ++ (A2 ++ B2 ++ W))) => show Arr It.vals 7 W0 g 59 S ((X ++ (A1 ++ B1)) ++ A2 ++ B2 ++ W) by simpa only [List.append_assoc] using h0)
        have HV3 := Lib.hid (fun (Y : List It) (W0 : World) (h0 : Arr It.vals 7 W0 g 59 S (X ++ Y ++ (A2 ++ B2 ++ W))) => show Arr It.vals 7 W0 g 59 S ((X ++ Y) ++ A2 ++ B2 ++ W) by simpa only [List.append_assoc] using h0)
        have HV4 := Lib.hid (fun (Y : List It) (W0 : World) (h0 : Arr It.vals 7 W0 g 59 S ((X ++ Y) ++ A2 ++ B2 ++ W)) => show Arr It.vals 7 W0 g 59 S ((X ++ Y) ++ (A2 ++ B2) ++ W) by simpa only [List.append_assoc] using h0)
        have HV5 := Lib.hid (fun (Y Z : List It) (W0 : World) (h0 : Arr It.vals 7 W0 g 59 S ((X ++ Y) ++ Z ++ W)) => show Arr It.vals 7 W0 g 59 S (X ++ (Y ++ Z) ++ W) by simpa only [List.append_assoc] using h0)
        have HJ := Lib.hid (fun (Y1 Y2 : List It) (h1 : SS It.lt (A1 ++ B1) Y1) (h2 : SS It.lt (A2 ++ B2) Y2) => merge_join HW.out hsA hsB HLOW.out HABO.out h1 h2)
        have HLA := Lib.hid (And.intro la1 (And.intro la2 (And.intro lb1 lb2)))
        have hmide : mid < en ↔ i < m := by omega
        have hmen : m < en ↔ i < mid := by omega
        have hempA1 : ¬ a < i → A1 = [] := fun h => List.eq_nil_of_length_eq_zero (by omega)
        have hempA2 : ¬ i < m → A2 = [] := fun h => List.eq_nil_of_length_eq_zero (by omega)
        have hempB1 : ¬ m < en → B1 = [] := fun h => List.eq_nil_of_length_eq_zero (by omega)
        have hempB2 : ¬ en < b → B2 = [] := fun h => List.eq_nil_of_length_eq_zero (by omega)
        have HE := Lib.hid (And.intro hempA1 (And.intro hempA2 (And.intro hempB1 hempB2)))
        clear f1 f2 f3 f4 f5 f6 p1 p2 p3 p4 p5 p6 p7 p8 p9 p10 m1 m2 hij la1 la2 lb1 lb2 hAA hBB hsA hsB sA sB hA1 hA2 hB1 hB2 hmidn hen hempA1 hempA2 hempB1 hempB2 HA HLOW HABO
        have HME := Lib.hid (And.intro hmide hmen)
        by_cases q1 : a < i <;> by_cases q2 : i < m <;> by_cases q3 : i < mid <;> by_cases q4 : en < b
        all_goals first | (exfalso; omega) | (
          have q5 := hmide
          have q6 := hmen
          simp only [q2, q3, iff_true, iff_false] at q5 q6
          clear hmide hmen
          first | (have r1 : decide ((a : Int) < (i : Int)) = true := decide_eq_true (by omega)) | (have r1 : decide ((a : Int) < (i : Int)) = false := decide_eq_false (by omega))
          first | (have r2 : decide ((i : Int) < (m : Int)) = true := decide_eq_true (by omega)) | (have r2 : decide ((i : Int) < (m : Int)) = false := decide_eq_false (by omega))
          first | (have r3 : decide ((i : Int) < (mid : Int)) = true := decide_eq_true (by omega)) | (have r3 : decide ((i : Int) < (mid : Int)) = false := decide_eq_false (by omega))
          first | (have r4 : decide ((en : Int) < (b : Int)) = true := decide_eq_true (by omega)) | (have r4 : decide ((en : Int) < (b : Int)) = false := decide_eq_false (by omega))
          first | (have r5 : decide ((mid : Int) < (en : Int)) = true := decide_eq_true (by omega)) | (have r5 : decide ((mid : Int) < (en : Int)) = false := decide_eq_false (by omega))
          first | (have r6 : decide ((m : Int) < (en : Int)) = true := decide_eq_true (by omega)) | (have r6 : decide ((m : Int) < (en : Int)) = false := decide_eq_false (by omega))
          first | (have n1 : decide (a < i) = true := decide_eq_true (by omega)) | (have n1 : decide (a < i) = false := decide_eq_false (by omega))
          first | (have n2 : decide (i < m) = true := decide_eq_true (by omega)) | (have n2 : decide (i < m) = false := decide_eq_false (by omega))
          first | (have n3 : decide (i < mid) = true := decide_eq_true (by omega)) | (have n3 : decide (i < mid) = false := decide_eq_false (by omega))
          first | (have n4 : decide (en < b) = true := decide_eq_true (by omega)) | (have n4 : decide (en < b) = false := decide_eq_false (by omega))
          first | (have n5 : decide (mid < en) = true := decide_eq_true (by omega)) | (have n5 : decide (mid < en) = false := decide_eq_false (by omega))
          first | (have n6 : decide (m < en) = true := decide_eq_true (by omega)) | (have n6 : decide (m < en) = false := decide_eq_false (by omega))
          first | (have todo1 : Hid (i < m ∧ m < en) := Lib.hid (by omega)) | (have HN1 := Lib.hid (show A2 = [] ∨ B1 = [] by first | exact .inl (HE.out.2.1 (by omega)) | exact .inr (HE.out.2.2.1 (by omega))))
          first | (have todo2 : Hid (a < i ∧ i < mid) := Lib.hid (by omega)) | (have HN2 := Lib.hid (show A1 = [] ∨ B1 = [] by first | exact .inl (HE.out.1 (by omega)) | exact .inr (HE.out.2.2.1 (by omega))))
          first | (have todo3 : Hid (mid < en ∧ en < b) := Lib.hid (by omega)) | (have HN3 := Lib.hid (show A2 = [] ∨ B2 = [] by first | exact .inl (HE.out.2.1 (by omega)) | exact .inr (HE.out.2.2.2 (by omega))))
          go_wp2_with (first
            | (clear todo1; go_at_call 66; refine (HR q2 q6 _ HA0.out).mono ?_; rintro e w1 ⟨rfl, hx1, hg1⟩
               have HX1 := Lib.hid (HV1.out _ hx1)
               have HG1 := Lib.hid (grownBy_trans HG.out hg1)
               clear hx1 hg1 HR)
            | (clear todo2; go_at_call 62; (try (have HX1 := Lib.hid (HV0.out HN1.out _ HA0.out); have HG1 := HG)); refine (HC2 q1 q3 _ HX1.out).mono ?_; rintro e w2 ⟨rfl, Y1, hy1, hx2, hg2⟩
               have HY1 := Lib.hid hy1
               have HX2 := Lib.hid (HV3.out _ _ hx2)
               have HG2 := Lib.hid (grownBy_trans HG1.out hg2)
               clear hx2 hg2 hy1 HC2)
            | (clear todo3; go_at_call 62; (try (have HX1 := Lib.hid (HV0.out HN1.out _ HA0.out); have HG1 := HG)); (try (have HY1 := Lib.hid (HS2.out HN2.out); have HX2 := Lib.hid (HV2.out _ HX1.out); have HG2 := HG1)); refine (HC3 q5 q4 _ HY1.out _ HX2.out).mono ?_; rintro e w3 ⟨rfl, Y2, hy2, hx3, hg3⟩
               have HY2 := Lib.hid hy2
               have HX3 := Lib.hid hx3
               have HG3 := Lib.hid (grownBy_trans HG2.out hg3)
               clear hx3 hg3 hy2 HC3))
          go_end0
          try (have HX1 := Lib.hid (HV0.out HN1.out _ HA0.out); have HG1 := HG)
          try (have HY1 := Lib.hid (HS2.out HN2.out); have HX2 := Lib.hid (HV2.out _ HX1.out); have HG2 := HG1)
          try (have HY2 := Lib.hid (HS3.out HN3.out); have HX3 := Lib.hid (HV4.out _ _ HX2.out); have HG3 := HG2)
          have hss := HJ.out _ _ HY1.out HY2.out
          rw [← HAA.out.1, ← HAA.out.2] at hss
          exact ⟨rfl, _, hss, HV5.out _ _ _ HX3.out, HG3.out⟩)
end Go.Proofs.Ytflppcgonbjnmaa
