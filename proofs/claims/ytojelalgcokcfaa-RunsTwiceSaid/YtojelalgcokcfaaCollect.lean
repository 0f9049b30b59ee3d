/-
  The walks of the functions that collect items, or cells, one by one.
-/
import Derived.Test.YtojelalgcokcfaaResolve
import Derived.Test.YtojelalgcokcfaaCellEq
namespace Go.Proofs.Ytojelalgcokcfaa
open Go.RowKit
attribute [local go_sem ↓] Go.wp_at_zero Go.wp_at_succ

theorem Rd.all (w : World) (e : TypeId) (vs : List Value) (cur : Array Value) (h : cur.toList = vs) : Rd (w.alloc (.cells cur e)) (w.heap.size + 1) (some ⟨w.heap.size, 0, none⟩) vs := fun _ =>
  ⟨w.heap.size, 0, rfl, by omega, fun j hj => by
    subst h
    rw [Nat.zero_add, cell_of_row _ w.heap.size j cur e (0, 0) (heap_alloc_new w _)]
    simp at hj
    rw [Array.getElem?_eq_getElem hj, Array.getElem_toList]⟩
theorem its_get (l : List It) (i j : Nat) (hi : i < l.length) (hj : j < 7) (h : i * 7 + j < (its l).length) : (its l)[i * 7 + j] = (l[i].vals)[j]'(by rw [It.vals_len]; exact hj) := by
  have h1 := encs_get It.vals_len l i j hi ((l[i].vals)[j]'(by rw [It.vals_len]; exact hj)) (List.getElem?_eq_getElem _)
  rw [List.getElem?_eq_getElem h] at h1
  exact Option.some.inj h1
theorem Rd.it_at {w : World} {b o : Nat} {l : List It} (hc : ∀ j (h : j < (its l).length), w.cell? ⟨b, o + j, none⟩ = some (its l)[j]) (k : Nat) (hk : k < l.length) : w.cell? ⟨b, o + k * 7, none⟩ = some (.string l[k].c.row) ∧ w.cell? ⟨b, o + k * 7 + 1, none⟩ = some (.string l[k].c.col) ∧ w.cell? ⟨b, o + k * 7 + 2, none⟩ = some (.int .u64 l[k].c.ts) ∧ w.cell? ⟨b, o + k * 7 + 3, none⟩ = some (.int .u64 l[k].c.seq) ∧ w.cell? ⟨b, o + k * 7 + 4, none⟩ = some (.bool l[k].c.del) ∧ w.cell? ⟨b, o + k * 7 + 5, none⟩ = some (.string l[k].c.val) ∧ w.cell? ⟨b, o + k * 7 + 6, none⟩ = some (.int .i64 l[k].pos) := by
  have hl := its_len l
  have f : ∀ j (hj : j < 7), w.cell? ⟨b, o + k * 7 + j, none⟩ = some ((l[k].vals)[j]'(by rw [It.vals_len]; exact hj)) := fun j hj => by
    have h1 : k * 7 + j < (its l).length := by omega
    have h2 := hc (k * 7 + j) h1
    rw [its_get l k j hk hj h1] at h2
    rw [← h2]
    congr 2
    omega
  exact ⟨f 0 (by omega), f 1 (by omega), f 2 (by omega), f 3 (by omega), f 4 (by omega), f 5 (by omega), f 6 (by omega)⟩
theorem its_ne {l : List It} {k : Nat} (h : k < l.length) : its l ≠ [] := fun e => by
  have := its_len l
  rw [e] at this
  simp at this
  omega
theorem its_take {l : List It} {k : Nat} (h : k < l.length) : its (l.take k) ++ (l[k]).vals = its (l.take (k + 1)) := by
  rw [List.take_succ_eq_append_getElem h]
  show _ = (l.take k ++ [l[k]]).flatMap It.vals
  rw [List.flatMap_append, List.flatMap_singleton]
theorem Own.new0' (w : World) (e size : Nat) : Own (w.alloc (.cells #[] e)) w.heap.size e size (some ⟨w.heap.size, 0, none⟩) 0 0 [] :=
  ⟨by simp, .inr ⟨w.heap.size, 0, #[], rfl, Nat.le_refl _, heap_alloc_new w _, Nat.le_refl _, by unfold maxLen; omega, by simp, by simp⟩⟩

set_option maxHeartbeats 4000000 in
theorem its_any (A : Option Addr) (c : Nat) (l : List It) (w : World) (hl : Rd w w.heap.size A (its l)) (hlen : l.length ≤ 1000000) :
    Calls Try.prog 13 #[.slice A l.length c] w fun e w' => ∃ (A' : Option Addr) (c' : Nat), e = .returned (.slice A' l.length c') ∧ Own w' w.heap.size 50 7 A' l.length c' (its l) ∧ Below w.heap.size w w' := by
  obtain ⟨i0, hi0, hz0, hz1, hz2⟩ := info_parts refItemInfo
  have HL := Lib.hid hl
  obtain ⟨N, hN⟩ : ∃ N, l.length = N := ⟨_, rfl⟩
  have HN := Lib.hid hN
  rw [hN] at hlen ⊢
  have HB0 := Lib.hid ((Below.refl w.heap.size w).alloc (Nat.le_refl _) (.cells #[] 50))
  have HO0 := Lib.hid (Own.new0' w 50 7)
  clear hl hN
  go_enter Try.func13, Try.ntmps13
  go_wp2
  go_loopw [3, 4] (fun vo vi wr => ∃ (k : Nat) (Ao : Option Addr) (co : Nat), k ≤ N ∧ vo = .slice Ao k co ∧ vi = .int .i64 (k : Int) ∧ Hid (Own wr w.heap.size 50 7 Ao k co (its (l.take k))) ∧ Hid (Below w.heap.size w wr)) (fun _ vi _ => N - (intOf vi).toNat)
  case atStart => exact ⟨0, _, 0, Nat.zero_le _, rfl, rfl, HO0, HB0⟩
  case round =>
    obtain ⟨k, Ao, co, hk, rfl, rfl, HO, HB⟩ := hrel
    by_cases hlt : k < N
    · have hkl : k < l.length := by rw [HN.out]; exact hlt
      obtain ⟨b, o, rfl, hb, hc⟩ := (HL.out.below HB.out).at_ (its_ne hkl)
      obtain ⟨z0, z1, z2, z3, z4, z5, z6⟩ := Rd.it_at hc k hkl
      have e1 : decide ((k : Int) < (N : Int)) = true := decide_eq_true (by omega)
      have k1 : (0 : Int) ≤ (k : Int) := by omega
      have k2 : (k : Int) < (N : Int) := by omega
      have hz := HB.out.size
      have HT := Lib.hid (its_take hkl)
      have hw3 : IntKind.i64.wrap ((k : Int) + 1) = ((k + 1 : Nat) : Int) := by rw [IntWalk.i64_in _ (by omega)]; omega
      clear hc
      go_wp2_with (first
        | (at_builtin; go_loud (refine wpList_app _ rfl _ _ _ rfl w.heap.size 50 i0 zeroItem 7 80 Try.underlying33 hi0 hz0 hz1 hz2 rfl (by decide) _ _ _ _ rfl (Own.alloc HO.out _) _ _ 1 _ (l[k]).vals rfl (Rd.all _ _ _ _ rfl) rfl (l[k]).one (by unfold maxLen; omega) (by omega) (by rw [World.size_alloc]; omega) ?_); intro A4 c4 w4 ho4 hg4 hat4
           rw [HT.out] at ho4
           have HO4 := Lib.hid ho4
           have HB4 := Lib.hid ((Own.alloc HO.out _).grow (HB.out.alloc hz _) (by rw [World.size_alloc]; omega) (Nat.le_refl _) hg4)
           clear ho4 hg4 hat4))
      exact ⟨⟨k + 1, A4, c4, by omega, rfl, rfl, HO4, HB4⟩, by simp [intOf]; omega⟩
    · have e1 : decide ((k : Int) < (N : Int)) = false := decide_eq_false (by omega)
      have hkN : k = N := by omega
      have HK := Lib.hid hkN
      clear hkN
      go_wp2
      go_ret
      have := HO.out
      rw [HK.out, ← HN.out, List.take_length] at this
      exact ⟨Ao, co, by rw [← HK.out]; rfl, by rwa [HN.out] at this, HB.out⟩

def itemsFrom : Nat → List Cl → List It
  | _, [] => []
  | k, c :: l => ⟨c, k⟩ :: itemsFrom (k + 1) l
/-- cells, each with its place -/
def items (l : List Cl) : List It := itemsFrom 0 l
theorem itemsFrom_snoc : ∀ (l : List Cl) (k : Nat) (c : Cl), itemsFrom k (l ++ [c]) = itemsFrom k l ++ [⟨c, ((k + l.length : Nat) : Int)⟩]
  | [], k, c => by simp [itemsFrom]
  | x :: l, k, c => by
    rw [List.cons_append, itemsFrom, itemsFrom_snoc l (k + 1) c]
    simp only [itemsFrom, List.cons_append, List.length_cons]
    rw [show k + 1 + l.length = k + (l.length + 1) by omega]
theorem items_take {l : List Cl} {k : Nat} (h : k < l.length) : its (items (l.take k)) ++ (⟨l[k], (k : Int)⟩ : It).vals = its (items (l.take (k + 1))) := by
  rw [List.take_succ_eq_append_getElem h]
  unfold items
  rw [itemsFrom_snoc, List.length_take, Nat.min_eq_left (Nat.le_of_lt h), Nat.zero_add]
  show _ = (itemsFrom 0 (l.take k) ++ [(⟨l[k], (k : Int)⟩ : It)]).flatMap It.vals
  rw [List.flatMap_append, List.flatMap_singleton]
theorem itemsFrom_length : ∀ (l : List Cl) (k : Nat), (itemsFrom k l).length = l.length
  | [], _ => rfl
  | x :: l, k => by rw [itemsFrom, List.length_cons, itemsFrom_length l, List.length_cons]
theorem items_length (l : List Cl) : (items l).length = l.length := itemsFrom_length l 0
theorem cells_take {l : List It} {k : Nat} (h : k < l.length) : vals ((l.take k).map (·.c)) ++ (l[k].c).vals = vals ((l.take (k + 1)).map (·.c)) := by
  rw [List.take_succ_eq_append_getElem h]
  unfold vals
  rw [List.map_append, List.flatMap_append, List.map_singleton, List.flatMap_singleton]
theorem cl_one (c : Cl) : ∀ u ∈ c.vals, u.oneCell' = true := by
  intro u hu
  simp only [Cl.vals, List.mem_cons, List.not_mem_nil, or_false] at hu
  rcases hu with rfl | rfl | rfl | rfl | rfl | rfl <;> rfl

set_option maxHeartbeats 4000000 in
theorem cells_any (A : Option Addr) (c : Nat) (l : List It) (w : World) (hl : Rd w w.heap.size A (its l)) (hlen : l.length ≤ 1759218604441) :
    Calls Try.prog 18 #[.slice A l.length c] w fun e w' => ∃ (A' : Option Addr) (c' : Nat), e = .returned (.slice A' l.length c') ∧ Own w' w.heap.size 46 6 A' l.length c' (vals (l.map (·.c))) ∧ Below w.heap.size w w' := by
  obtain ⟨i0, hi0, hz0, hz1, hz2⟩ := info_parts cellInfo
  have HL := Lib.hid hl
  obtain ⟨N, hN⟩ : ∃ N, l.length = N := ⟨_, rfl⟩
  have HN := Lib.hid hN
  rw [hN] at hlen ⊢
  have HB0 := Lib.hid ((Below.refl w.heap.size w).alloc (Nat.le_refl _) (.cells #[] 46))
  have HO0 := Lib.hid (Own.new0' w 46 6)
  clear hl hN
  go_enter Try.func18, Try.ntmps18
  go_wp2
  go_loopw [3, 4] (fun vo vi wr => ∃ (k : Nat) (Ao : Option Addr) (co : Nat), k ≤ N ∧ vo = .slice Ao k co ∧ vi = .int .i64 (k : Int) ∧ Hid (Own wr w.heap.size 46 6 Ao k co (vals ((l.take k).map (·.c)))) ∧ Hid (Below w.heap.size w wr)) (fun _ vi _ => N - (intOf vi).toNat)
  case atStart => exact ⟨0, _, 0, Nat.zero_le _, rfl, rfl, HO0, HB0⟩
  case round =>
    obtain ⟨k, Ao, co, hk, rfl, rfl, HO, HB⟩ := hrel
    by_cases hlt : k < N
    · have hkl : k < l.length := by rw [HN.out]; exact hlt
      obtain ⟨b, o, rfl, hb, hc⟩ := (HL.out.below HB.out).at_ (its_ne hkl)
      obtain ⟨z0, z1, z2, z3, z4, z5, z6⟩ := Rd.it_at hc k hkl
      have e1 : decide ((k : Int) < (N : Int)) = true := decide_eq_true (by omega)
      have k1 : (0 : Int) ≤ (k : Int) := by omega
      have k2 : (k : Int) < (N : Int) := by omega
      have hz := HB.out.size
      have HT := Lib.hid (cells_take hkl)
      have hw3 : IntKind.i64.wrap ((k : Int) + 1) = ((k + 1 : Nat) : Int) := by rw [IntWalk.i64_in _ (by omega)]; omega
      clear hc
      go_wp2_with (first
        | (at_builtin; go_loud (refine wpList_app _ rfl _ _ _ rfl w.heap.size 46 i0 zeroCell 6 72 Try.underlying22 hi0 hz0 hz1 hz2 rfl (by decide) _ _ _ _ rfl (Own.alloc HO.out _) _ _ 1 _ (l[k].c).vals rfl (Rd.all _ _ _ _ rfl) rfl (cl_one l[k].c) (by unfold maxLen; omega) (by omega) (by rw [World.size_alloc]; omega) ?_); intro A4 c4 w4 ho4 hg4 hat4
           rw [HT.out] at ho4
           have HO4 := Lib.hid ho4
           have HB4 := Lib.hid ((Own.alloc HO.out _).grow (HB.out.alloc hz _) (by rw [World.size_alloc]; omega) (Nat.le_refl _) hg4)
           clear ho4 hg4 hat4))
      exact ⟨⟨k + 1, A4, c4, by omega, rfl, rfl, HO4, HB4⟩, by simp [intOf]; omega⟩
    · have e1 : decide ((k : Int) < (N : Int)) = false := decide_eq_false (by omega)
      have hkN : k = N := by omega
      have HK := Lib.hid hkN
      clear hkN
      go_wp2
      go_ret
      have := HO.out
      rw [HK.out, ← HN.out, List.take_length] at this
      exact ⟨Ao, co, by rw [← HK.out]; rfl, by rwa [HN.out] at this, HB.out⟩

set_option maxHeartbeats 4000000 in
theorem refItems_any (A : Option Addr) (c : Nat) (l : List Cl) (w : World) (hl : Rd w w.heap.size A (vals l)) (hlen : l.length ≤ 1000000) :
    Calls Try.prog 15 #[.slice A l.length c] w fun e w' => ∃ (A' : Option Addr) (c' : Nat), e = .returned (.slice A' l.length c') ∧ Own w' w.heap.size 50 7 A' l.length c' (its (items l)) ∧ Below w.heap.size w w' := by
  obtain ⟨i0, hi0, hz0, hz1, hz2⟩ := info_parts refItemInfo
  have HL := Lib.hid hl
  obtain ⟨N, hN⟩ : ∃ N, l.length = N := ⟨_, rfl⟩
  have HN := Lib.hid hN
  rw [hN] at hlen ⊢
  have HB0 := Lib.hid ((Below.refl w.heap.size w).alloc (Nat.le_refl _) (.cells #[] 50))
  have HO0 := Lib.hid (Own.new0' w 50 7)
  clear hl hN
  go_enter Try.func15, Try.ntmps15
  go_wp2
  go_loopw [3, 4] (fun vo vi wr => ∃ (k : Nat) (Ao : Option Addr) (co : Nat), k ≤ N ∧ vo = .slice Ao k co ∧ vi = .int .i64 (k : Int) ∧ Hid (Own wr w.heap.size 50 7 Ao k co (its (items (l.take k)))) ∧ Hid (Below w.heap.size w wr)) (fun _ vi _ => N - (intOf vi).toNat)
  case atStart => exact ⟨0, _, 0, Nat.zero_le _, rfl, rfl, HO0, HB0⟩
  case round =>
    obtain ⟨k, Ao, co, hk, rfl, rfl, HO, HB⟩ := hrel
    by_cases hlt : k < N
    · have hkl : k < l.length := by rw [HN.out]; exact hlt
      obtain ⟨b, o, rfl, hb, hc⟩ := (HL.out.below HB.out).at_ (vals_ne hkl)
      obtain ⟨z0, z1, z2, z3, z4, z5⟩ := Rd.cell_at (B := 0) hc k hkl
      have e1 : decide ((k : Int) < (N : Int)) = true := decide_eq_true (by omega)
      have k1 : (0 : Int) ≤ (k : Int) := by omega
      have k2 : (k : Int) < (N : Int) := by omega
      have hz := HB.out.size
      have HT := Lib.hid (items_take hkl)
      have hw3 : IntKind.i64.wrap ((k : Int) + 1) = ((k + 1 : Nat) : Int) := by rw [IntWalk.i64_in _ (by omega)]; omega
      clear hc
      go_wp2_with (first
        | (at_builtin; go_loud (refine wpList_app _ rfl _ _ _ rfl w.heap.size 50 i0 zeroItem 7 80 Try.underlying33 hi0 hz0 hz1 hz2 rfl (by decide) _ _ _ _ rfl (Own.alloc HO.out _) _ _ 1 _ (⟨l[k], (k : Int)⟩ : It).vals rfl (Rd.all _ _ _ _ rfl) rfl (It.one ⟨l[k], (k : Int)⟩) (by unfold maxLen; omega) (by omega) (by rw [World.size_alloc]; omega) ?_); intro A4 c4 w4 ho4 hg4 hat4
           rw [HT.out] at ho4
           have HO4 := Lib.hid ho4
           have HB4 := Lib.hid ((Own.alloc HO.out _).grow (HB.out.alloc hz _) (by rw [World.size_alloc]; omega) (Nat.le_refl _) hg4)
           clear ho4 hg4 hat4))
      exact ⟨⟨k + 1, A4, c4, by omega, rfl, rfl, HO4, HB4⟩, by simp [intOf]; omega⟩
    · have e1 : decide ((k : Int) < (N : Int)) = false := decide_eq_false (by omega)
      have hkN : k = N := by omega
      have HK := Lib.hid hkN
      clear hkN
      go_wp2
      go_ret
      have := HO.out
      rw [HK.out, ← HN.out, List.take_length] at this
      exact ⟨Ao, co, by rw [← HK.out]; rfl, by rwa [HN.out] at this, HB.out⟩
end Go.Proofs.Ytojelalgcokcfaa
