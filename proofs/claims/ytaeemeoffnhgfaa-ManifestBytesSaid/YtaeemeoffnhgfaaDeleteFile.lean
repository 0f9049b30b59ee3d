/-
  The walk of slices.Delete at files: one file is taken out.
-/
import Derived.Test.YtaeemeoffnhgfaaIndexFile
import Derived.Test.YtaeemeoffnhgfaaArrMore
import Derived.Test.YtaeemeoffnhgfaaRegKit13
import Derived.ArgAppend
import Derived.Lib.AppendZeros
namespace Go.Proofs.Ytaeemeoffnhgfaa
open Go.RowKit
attribute [local go_sem ↓] Go.wp_at_zero Go.wp_at_succ

theorem Arr.rd {α : Type} {enc : α → List Value} {k : Nat} {w : World} {g : Nat} {e : TypeId} {S : Nat} {l : List α} (h : Arr enc k w g e S l) (hk : ∀ x, (enc x).length = k) (hk0 : 0 < k) : Rd w w.heap.size (some ⟨g, 0, none⟩) (l.flatMap enc) := fun _ =>
  ⟨g, 0, rfl, h.lt, fun p hp => by
    rw [encs_length hk] at hp
    have hi : p / k < l.length := (Nat.div_lt_iff_lt_mul hk0).2 hp
    have hj : p % k < k := Nat.mod_lt _ hk0
    have e1 : p / k * k + p % k = p := by rw [Nat.mul_comm]; exact Nat.div_add_mod p k
    have hv : (enc l[p / k])[p % k]? = some ((enc l[p / k])[p % k]'(by rw [hk]; exact hj)) := List.getElem?_eq_getElem _
    have h1 := h.at_ _ hi _ _ hv
    have h2 := encs_get hk l _ _ hi _ hv
    rw [e1] at h1 h2
    rw [Nat.zero_add, h1]
    obtain ⟨_, h3⟩ := List.getElem?_eq_some_iff.1 h2
    rw [← h3]⟩
/-- several elements stored anew from place i on -/
theorem Arr.put {α : Type} {enc : α → List Value} {k : Nat} {w : World} {g : Nat} {e : TypeId} {S : Nat} {l : List α} (h : Arr enc k w g e S l) (hk : ∀ x, (enc x).length = k) {i : Nat} (ys : List α) (hi : i + ys.length ≤ l.length) :
    Arr enc k (w.setCells g (i * k) (ys.flatMap enc)) g e S (l.take i ++ ys) ∧ w.grownBy (w.setCells g (i * k) (ys.flatMap enc)) (some g) := by
  obtain ⟨cur, hc, hs⟩ := h.cur
  obtain ⟨⟨cur', h1, h2⟩, h3⟩ := setCells_block g e (ys.flatMap enc) (i * k) w cur hc
  have hle : (i + ys.length) * k ≤ S := Nat.le_trans (Nat.mul_le_mul_right k hi) h.len
  have hyl := encs_length hk ys
  refine ⟨⟨⟨cur', h1, h2.trans hs⟩, by rw [List.length_append, List.length_take, Nat.min_eq_left (by omega)]; exact hle, fun j hj => ?_⟩, h3⟩
  rw [List.length_append, List.length_take, Nat.min_eq_left (by omega)] at hj
  by_cases hji : j < i
  · rw [List.getElem_append_left (by rw [List.length_take]; omega), List.getElem_take]
    refine World.rangeAt_setCells_apart (h.at_ j (by omega)) g _ _ (.inr (.inl ?_))
    rw [hk]
    exact mul_le_of hji
  · have hlt : (l.take i).length = i := by rw [List.length_take, Nat.min_eq_left (by omega)]
    rw [List.getElem_append_right (by rw [hlt]; omega)]
    have hr := World.rangeAt_setCells_same w g (i * k) (ys.flatMap enc) (h.there (by rw [hyl, ← Nat.add_mul]; exact hle))
    intro t v hv
    have hjl : j - i < ys.length := by omega
    have hv2 := encs_get hk ys (j - i) t hjl v (by simpa [hlt] using hv)
    have := hr _ _ hv2
    rw [← Nat.add_assoc, ← Nat.add_mul, show i + (j - i) = j by omega] at this
    exact this
set_option maxRecDepth 10000 in
set_option maxHeartbeats 2000000 in
theorem deleteFile_any (g S cap N i j : Nat) (l : List Fi) (w : World) (h : Arr Fi.vals 5 w g 23 S l) (hN : l.length = N) (hmax : N ≤ 1000000) (hcap : N ≤ cap) (hi : i < N) (hij : i + 1 = j) :
    Calls Try.prog 35 #[.slice (some ⟨g, 0, none⟩) N cap, .int .i64 (i : Int), .int .i64 (j : Int)] w fun e w' =>
      e = .returned (.slice (some ⟨g, 0, none⟩) (N - 1) cap) ∧ Arr Fi.vals 5 w' g 23 S (l.take i ++ l.drop j) ∧ w.grownBy w' (some g) := by
  obtain ⟨i0, hi0, hz0, hz1, hz2⟩ := info_parts fileInfo
  obtain ⟨ys, hys⟩ : ∃ ys, l.drop j = ys := ⟨_, rfl⟩
  have hyl : ys.length = N - j := by rw [← hys, List.length_drop, hN]
  obtain ⟨M, hM⟩ : ∃ M, N - j = M := ⟨_, rfl⟩
  rw [hM] at hyl
  obtain ⟨a, ha, hat⟩ : ∃ a, tailA (some ⟨g, 0, none⟩) cap j 5 = some a ∧ ∀ t u, (fis ys)[t]? = some u → w.cell? (a.add t) = some u := by
    have hrd := (h.rd Fi.vals_len (by omega)).tailR (n := N) (c := cap) (i := j) Fi.vals_len hN hcap (by omega)
    rw [hys] at hrd
    by_cases hn : fis ys = []
    · obtain ⟨a, ha⟩ : ∃ a, tailA (some ⟨g, 0, none⟩) cap j 5 = some a := by
        unfold tailA
        split
        · exact ⟨_, rfl⟩
        · exact ⟨_, rfl⟩
      exact ⟨a, ha, fun t u hu => by rw [hn] at hu; simp at hu⟩
    · obtain ⟨b, o, e, _, hc⟩ := hrd hn
      refine ⟨_, e, fun t u hu => ?_⟩
      obtain ⟨ht, rfl⟩ := List.getElem?_eq_some_iff.1 hu
      rw [add_at]
      exact hc t ht
  have hput := h.drew.put Fi.vals_len (i := i) ys (by omega)
  have hth := fun t (ht : t < (fis ys).length) => h.drew.there (o := i * 5) (n := (fis ys).length) (by
    have := h.len
    have h2 := fis_len ys
    have h3 := Nat.mul_le_mul_right 5 (show i + ys.length ≤ l.length by omega)
    rw [Nat.add_mul] at h3
    omega) t ht
  have happ := run_append_room_cells (P := Try.prog) (w := w.drew) 25 25 23 i0 Try.underlying25 hi0 g 0 i cap a M (cap - j) (fis ys) (by rw [hz1, fis_len, hyl]) hat (fis_one ys) (by omega) (fun t ht => by rw [hz1, Nat.zero_add]; exact (hth t ht).1) (fun t ht => by rw [hz1, Nat.zero_add]; exact (hth t ht).2)
  rw [hz1, Nat.zero_add] at happ
  obtain ⟨w2, hw2⟩ : ∃ w2, w.drew.setCells g (i * 5) (fis ys) = w2 := ⟨_, rfl⟩
  obtain ⟨n1, hn1⟩ : ∃ n1, i + M = n1 := ⟨_, rfl⟩
  have hnn : N - 1 = n1 := by omega
  rw [hw2] at hput happ
  rw [hn1] at happ
  rw [hnn, hys]
  obtain ⟨hA2, hG2⟩ := hput
  have hln : (l.take i ++ ys).length = n1 := by rw [List.length_append, List.length_take, hyl]; omega
  obtain ⟨m, hm⟩ : ∃ m, l.take i ++ ys = m := ⟨_, rfl⟩
  rw [hm] at hA2 hln ⊢
  have hsl1 := fun W => run_front (P := Try.prog) (t := 25) (e := 23) (size := 5) Try.underlying25 hi0 hz1 (some ⟨g, 0, none⟩) N cap i (by omega) W
  have hsl2 := fun W => run_tail (P := Try.prog) (t := 25) (e := 23) (size := 5) Try.underlying25 hi0 hz1 (some ⟨g, 0, none⟩) N cap j (by omega) W
  rw [ha, hM] at hsl2
  have hsl3 := fun W => run_mid (P := Try.prog) (t := 25) (e := 23) (size := 5) Try.underlying25 hi0 hz1 (some ⟨g, 0, none⟩) n1 cap n1 N (by omega) (by omega) W
  have htl : tailA (some ⟨g, 0, none⟩) cap n1 5 = some ⟨g, n1 * 5, none⟩ := by
    unfold tailA
    rw [if_neg (by omega), Option.map_some, add_at, Nat.zero_add]
  rw [htl, show N - n1 = 1 by omega] at hsl3
  have hS : (n1 + 1) * 5 ≤ S := by
    have := h.len
    rw [hN, show N = n1 + 1 by omega] at this
    exact this
  have hthz : w2.there g (n1 * 5) (Builtin.zeroCells (zeroFile).cells 1).size := hA2.there (by
    have h2 : (Builtin.zeroCells (zeroFile).cells 1).size = 5 := by simp [Builtin.zeroCells, Value.cells, zeroFile]
    omega)
  have hcl := fun ty => run_clear_mid (P := Try.prog) w2 25 23 ty zeroFile Try.underlying25 (fun W => by simp [zeroValue, typeInfo, hi0, hz0, Result.andThen]) (by simp [zeroFile, Value.cells, Value.oneCell']) g (n1 * 5) 1 (cap - n1) (by omega) hthz
  have hab := hA2.above Fi.vals_len (o := n1 * 5) (by omega) (Builtin.zeroCells (zeroFile).cells 1).toList
  have HAB := Lib.hid (And.intro hab.1 (grownBy_trans (grownBy_trans (grownBy_drew1 (grownBy_refl w (some g))) hG2) hab.2))
  generalize (Builtin.zeroCells (zeroFile).cells 1).toList = zs at hcl HAB
  obtain ⟨w3, hw3⟩ : ∃ w3, w2.setCells g (n1 * 5) zs = w3 := ⟨_, rfl⟩
  rw [hw3] at hcl HAB
  have e1 : decide ((i : Int) = (j : Int)) = false := decide_eq_false (by omega)
  have e2 : ((i : Int) == (j : Int)) = false := beq_eq_false_iff_ne.2 (by omega)
  have q1 : (0 : Int) ≤ (i : Int) := by omega
  have q2 : (i : Int) ≤ (j : Int) := by omega
  have q3 : (j : Int) ≤ (N : Int) := by omega
  have q4 : (N : Int) ≤ (cap : Int) := by omega
  obtain ⟨cj, hcj⟩ : ∃ cj, cap - j = cj := ⟨_, rfl⟩
  obtain ⟨cn, hcn⟩ : ∃ cn, cap - n1 = cn := ⟨_, rfl⟩
  rw [hcj] at hsl2 happ
  rw [hcn] at hsl3 hcl
  have HAPP := Lib.hid happ
  clear hA2 hG2 happ hth hthz hab hw3 hw2 hat ha h hS htl hln hm hyl hys hcj hcn hnn hn1 hM hN
  go_enter Try.func35, Try.ntmps35
  go_wp2
  have HC : True := trivial
  refine region_wz (fun W' => True) none (by kernel_rfl) ?_
  apply WZ.take (i := 0) (some 20) rfl rfl (by kernel_rfl) (by kernel_rfl) (by kernel_rfl) (calm_panic _) (by kernel_rfl)
  case hy => (refine .inl ⟨by kernel_rfl, fun W hC => ?_⟩; (try dsimp only at hC); go_simp; (try simp only [hsl1,hsl2]); rfl)
  case hC => exact HC
  case ha => (simp only [Act.put, List.setIfInBounds_toArray, List.set_cons_zero, List.set_cons_succ]; rfl)
  apply WZ.take (i := 1) (some 21) rfl rfl (by kernel_rfl) (by kernel_rfl) (by kernel_rfl) (calm_panic _) (by kernel_rfl)
  case hy => (refine .inl ⟨by kernel_rfl, fun W hC => ?_⟩; (try dsimp only at hC); go_simp; (try simp only [hsl1,hsl2]); rfl)
  case hC => exact HC
  case ha => (simp only [Act.put, List.setIfInBounds_toArray, List.set_cons_zero, List.set_cons_succ]; rfl)
  apply WZ.take (i := 2) (some 22) rfl rfl (by kernel_rfl) (by kernel_rfl) (by kernel_rfl) (calm_panic _) (by kernel_rfl)
  case hy => (refine .inl ⟨by kernel_rfl, fun W hC => ?_⟩; (try dsimp only at hC); go_simp; (try simp only [hsl1,hsl2]); rfl)
  case hC => exact HC
  case ha => (simp only [Act.put, List.setIfInBounds_toArray, List.set_cons_zero, List.set_cons_succ]; rfl)
  apply WZ.take (i := 3) (some 23) rfl rfl (by kernel_rfl) (by kernel_rfl) (by kernel_rfl) (calm_panic _) (by kernel_rfl)
  case hy => (refine .inl ⟨by kernel_rfl, fun W hC => ?_⟩; (try dsimp only at hC); go_simp; (try simp only [hsl1,hsl2]); rfl)
  case hC => exact HC
  case ha => (simp only [Act.put, List.setIfInBounds_toArray, List.set_cons_zero, List.set_cons_succ]; rfl)
  apply WZ.take (i := 4) (some 24) rfl rfl (by kernel_rfl) (by kernel_rfl) (by kernel_rfl) (calm_panic _) (by kernel_rfl)
  case hy => (refine .inl ⟨by kernel_rfl, fun W hC => ?_⟩; (try dsimp only at hC); go_simp; (try simp only [hsl1,hsl2]); rfl)
  case hC => exact HC
  case ha => (simp only [Act.put, List.setIfInBounds_toArray, List.set_cons_zero, List.set_cons_succ]; rfl)
  apply WZ.take (i := 5) (some 25) rfl rfl (by kernel_rfl) (by kernel_rfl) (by kernel_rfl) (calm_panic _) (by kernel_rfl)
  case hy => (refine .inl ⟨by kernel_rfl, fun W hC => ?_⟩; (try dsimp only at hC); go_simp; (try simp only [hsl1,hsl2]); rfl)
  case hC => exact HC
  case ha => (simp only [Act.put, List.setIfInBounds_toArray, List.set_cons_zero, List.set_cons_succ]; rfl)
  -- 6
  refine WZ.one (i := 6) rfl (by kernel_rfl) ?_
  conv => arg 4; arg 1; whnf
  go_wp2_with (at_builtin; go_loud (refine Lib.wpList_append_run _ rfl _ _ _ _ rfl _ _ rfl rfl _ _ HAPP.out ?_))
  refine ⟨trivial, ?_⟩
  apply WZ.take (i := 7) (some 0) rfl rfl (by kernel_rfl) (by kernel_rfl) (by kernel_rfl) (calm_panic _) (by kernel_rfl)
  case hy => (refine .inl ⟨by kernel_rfl, fun W hC => ?_⟩; (try dsimp only at hC); go_simp; (try simp only [hsl1,hsl2]); rfl)
  case hC => exact HC
  case ha => (simp only [Act.put, List.setIfInBounds_toArray, List.set_cons_zero, List.set_cons_succ]; rfl)
  refine WZ.done (by kernel_rfl) ?_ _
  simp only [Calm, Exit.then]
  clear HC
  go_wp2
  go_ret
  exact ⟨rfl, HAB.out.1, HAB.out.2⟩
end Go.Proofs.Ytaeemeoffnhgfaa
