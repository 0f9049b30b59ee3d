/-
  The walk of runs.Items.
-/
import Derived.Test.YtojelalgcokcfaaCollect
namespace Go.Proofs.Ytojelalgcokcfaa
open Go.RowKit
attribute [local go_sem ↓] Go.wp_at_zero Go.wp_at_succ

theorem Rd.all' (w : World) (e : TypeId) (vs : List Value) (cur : Array Value) (n : Nat) (hn : w.heap.size = n) (h : cur.toList = vs) : Rd (w.alloc (.cells cur e)) (n + 1) (some ⟨n, 0, none⟩) vs := by
  subst hn
  exact Rd.all w e vs cur h

set_option maxHeartbeats 4000000 in
theorem items_any (A : Option Addr) (c : Nat) (l : List Cl) (w : World) (hl : Rd w w.heap.size A (vals l)) (hlen : l.length ≤ 1000000) :
    Calls Try.prog 14 #[.slice A l.length c] w fun e w' => ∃ (A' : Option Addr) (c' : Nat), e = .returned (.slice A' l.length c') ∧ Own w' w.heap.size 48 7 A' l.length c' (its (items l)) ∧ Below w.heap.size w w' := by
  obtain ⟨i0, hi0, hz0, hz1, hz2⟩ := info_parts itemInfo
  have HL := Lib.hid hl
  obtain ⟨N, hN⟩ : ∃ N, l.length = N := ⟨_, rfl⟩
  have HN := Lib.hid hN
  rw [hN] at hlen ⊢
  have HB0 := Lib.hid (Below.refl w.heap.size w)
  have HO0 : Hid (Own w w.heap.size 48 7 none 0 0 (its (items (l.take 0)))) := Own.nil
  clear hl hN
  go_enter Try.func14, Try.ntmps14
  go_wp2
  go_loopw [2, 7] (fun vo vi wr => ∃ (k : Nat) (Ao : Option Addr) (co : Nat), k ≤ N ∧ vo = .slice Ao k co ∧ vi = .int .i64 (k : Int) ∧ Hid (Own wr w.heap.size 48 7 Ao k co (its (items (l.take k)))) ∧ Hid (Below w.heap.size w wr)) (fun _ vi _ => N - (intOf vi).toNat)
  case atStart => exact ⟨0, _, 0, Nat.zero_le _, rfl, rfl, HO0, HB0⟩
  case round =>
    obtain ⟨k, Ao, co, hk, rfl, rfl, HO, HB⟩ := hrel
    by_cases hlt : k < N
    · have hkl : k < l.length := by rw [HN.out]; exact hlt
      obtain ⟨b, o, rfl, hb, hc⟩ := (HL.out.below HB.out).at_ (vals_ne hkl)
      obtain ⟨z0, z1, z2, z3, z4, z5⟩ := Rd.cell_at (B := 0) hc k hkl
      have e1 : decide ((k : Int) < (N : Int)) = true := decide_eq_true (by omega)
      have k1 : (0 : Int) ≤ (k : Int) := by omega
      have k2 : (k : Int) < (N : Int) := by omega
      have hz := HB.out.size
      have HT := Lib.hid (items_take hkl)
      have hw3 : IntKind.i64.wrap ((k : Int) + 1) = ((k + 1 : Nat) : Int) := by rw [IntWalk.i64_in _ (by omega)]; omega
      clear hc
      go_wp2_with (first
        | (at_builtin; go_loud (refine wpList_app _ rfl _ _ _ rfl w.heap.size 48 i0 zeroItem 7 80 Try.underlying35 hi0 hz0 hz1 hz2 rfl (by decide) _ _ _ _ rfl (Own.alloc (Own.alloc HO.out _) _) _ _ 1 _ (⟨l[k], (k : Int)⟩ : It).vals rfl (Rd.all' _ _ _ _ (wr.heap.size + 1) (World.size_alloc _ _) rfl) rfl (It.one ⟨l[k], (k : Int)⟩) (by unfold maxLen; omega) (by omega) (by rw [World.size_alloc, World.size_alloc]; omega) ?_); intro A4 c4 w4 ho4 hg4 hat4
           rw [HT.out] at ho4
           have HO4 := Lib.hid ho4
           have HB4 := Lib.hid ((Own.alloc (Own.alloc HO.out _) _).grow ((HB.out.alloc hz _).alloc (by rw [World.size_alloc]; omega) _) (by rw [World.size_alloc, World.size_alloc]; omega) (Nat.le_refl _) hg4)
           clear ho4 hg4 hat4))
      exact ⟨⟨k + 1, A4, c4, by omega, rfl, rfl, HO4, HB4⟩, by simp [intOf]; omega⟩
    · have e1 : decide ((k : Int) < (N : Int)) = false := decide_eq_false (by omega)
      have hkN : k = N := by omega
      have HK := Lib.hid hkN
      clear hkN
      go_wp2
      go_ret
      have := HO.out
      rw [HK.out, ← HN.out, List.take_length] at this
      exact ⟨Ao, co, by rw [← HK.out]; rfl, by rwa [HN.out] at this, HB.out⟩
end Go.Proofs.Ytojelalgcokcfaa
