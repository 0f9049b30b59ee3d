/-
  The walks of State.those, Find and Over.
-/
import Derived.Test.YtaeemeoffnhgfaaApply
namespace Go.Proofs.Ytaeemeoffnhgfaa
open Go.RowKit
attribute [local go_sem ↓] Go.wp_at_zero Go.wp_at_succ

theorem Rd.ofBlock1 {w : World} (x : Fi) {c : Array Value} (hc : c.toList = x.vals) (T : TypeId) : Rd (w.alloc (.cells c T)) (w.alloc (.cells c T)).heap.size (some ⟨w.heap.size, 0, none⟩) (fis [x]) := by
  have := Rd.ofBlock (heap_alloc_new w (.cells c T)) hc
  rw [show fis [x] = x.vals by simp [fis]]
  exact this
theorem filter_next {α : Type} {q : α → Bool} {l : List α} {k : Nat} (hk : k < l.length) : (l.take (k + 1)).filter q = (l.take k).filter q ++ (if q l[k] then [l[k]] else []) := by
  rw [List.take_succ_eq_append_getElem hk, List.filter_append]
  congr 1
  rw [List.filter_cons, List.filter_nil]
theorem OwnF.nil {w : World} {B : Nat} : OwnF w B none 0 0 [] := Own.nil
set_option maxRecDepth 10000 in
set_option maxHeartbeats 4000000 in
theorem those_any (f : FuncId) (caps : Array Value) (q : Fi → Bool) (w : World) (eg : ∀ args W, (callFunc f args).run Try.prog W = .ok (.enter f args) W) (hq : ∀ x W, Below w.heap.size w W → Calls Try.prog f (#[x.agg] ++ caps) W fun e w' => e = .returned (.bool (q x)) ∧ Below W.heap.size W w') (A : Option Addr) (c N : Nat) (l : List Fi) (nx fl : Int) (hl : Rd w w.heap.size A (fis l)) (hN : l.length = N) (hlen : N ≤ 100000) :
    Calls Try.prog 42 #[stV A N c nx fl, .func (.func f) #[] caps] w fun e w' => ∃ (A' : Option Addr) (n' c' : Nat), e = .returned (.slice A' n' c') ∧ OwnF w' w.heap.size A' n' c' (l.filter q) ∧ Below w.heap.size w w' := by
  have HL := Lib.hid hl
  have HN := Lib.hid hN
  have HQ := Lib.hid hq
  have hb0 := (Below.refl w.heap.size w).alloc (Nat.le_refl _) (.cells #[.slice A N c, .int .u64 nx, .int .u64 fl] 30)
  have HB0 := Lib.hid hb0
  unfold stV stC
  clear hl hN hq hb0
  go_enter Try.func42, Try.ntmps42
  go_wp2
  go_loopw [4, 10] (fun vo vi wr => ∃ (k n : Nat) (Ao : Option Addr) (co : Nat), vo = .slice Ao n co ∧ vi = .int .i64 (k : Int) ∧ k ≤ N ∧ n ≤ k ∧ Hid (OwnF wr w.heap.size Ao n co ((l.take k).filter q)) ∧ Hid (Below w.heap.size w wr)) (fun _ vi _ => N - (intOf vi).toNat)
  case atStart => exact ⟨0, 0, none, 0, rfl, rfl, Nat.zero_le _, Nat.le_refl _, Lib.hid OwnF.nil, HB0⟩
  case round =>
    obtain ⟨k, n, Ao, co, rfl, rfl, hk, hnk, HO, HB⟩ := hrel
    rename World => wr
    by_cases hlt : k < N
    · have e1 : decide ((k : Int) < (N : Int)) = true := decide_eq_true (by omega)
      have k1 : (0 : Int) ≤ (k : Int) := by omega
      have k2 : (k : Int) < (N : Int) := by omega
      have hkl : k < l.length := by rw [HN.out]; exact hlt
      obtain ⟨b, o, rfl, hr⟩ := rd_elem (HL.out.below HB.out) hkl
      have hfn := filter_next (q := q) hkl
      obtain ⟨x, hx⟩ : ∃ x, l[k] = x := ⟨_, rfl⟩
      rw [hx] at hr hfn
      have HR := Lib.hid hr
      clear hr hx
      cases hqx : q x with
      | true =>
        rw [hqx, if_pos rfl] at hfn
        have HFN := Lib.hid hfn
        clear hfn
        go_wp2_with (first
          | (show wpList _ _ _ ({ dst := some 13, op := Op.load _ _, type := _, pos := _, after := _, guard := _ } :: _) _ _; refine wpList_load_mid rfl 23 (.tmp 12) rfl b (o + k * 5) rfl x.vals _ HR.out Try.underlying23 rfl (by kernel_rfl) ?_)
          | (show wpList _ _ _ ({ dst := none, op := Op.store _ (Operand.tmp 6) _, type := _, pos := _, after := _, guard := _ } :: _) _ _; refine wpList_store_mid rfl 23 (.tmp 6) (.tmp 13) rfl wr.heap.size 0 x.vals.toArray rfl rfl (FBox.there_made _ _ _ _ _ _ _) (by kernel_rfl) (all_oneCell_toArray (Fi.one x)) ?_; refine FBox.madeW 23 wr _ _ _ _ _ x ?_; intro w6 HG6 HB6)
          | (show wpList _ _ _ ({ dst := some 15, op := Op.load _ _, type := _, pos := _, after := _, guard := _ } :: _) _ _; refine wpList_load_mid rfl 23 (.tmp 6) rfl wr.heap.size 0 rfl x.vals _ HG6.out.range Try.underlying23 rfl (by kernel_rfl) ?_)
          | (refine (HQ.out x _ (HB.out.trans (HB6.out.mono HB.out.size))).mono ?_; rintro e w7 ⟨rfl, hb7⟩; rw [hqx]; have HG7 := Lib.hid (HG6.out.below hb7 HG6.out.lt); have HB7 := Lib.hid (HB6.out.trans (hb7.mono HB6.out.size)))
          | (show wpList _ _ _ ({ dst := some 18, op := Op.load _ _, type := _, pos := _, after := _, guard := _ } :: _) _ _; refine wpList_load_mid rfl 23 (.tmp 6) rfl wr.heap.size 0 rfl [.int .i64 x.level, .string x.name, .string x.low, .string x.high, .int .i64 x.many] _ HG7.out.range Try.underlying23 rfl (by kernel_rfl) ?_)
          | (at_builtin; show wpList _ _ _ ({ dst := some 20, op := _, type := _, pos := _, after := _, guard := _ } :: _) _ _; go_loud (refine files_app rfl _ _ rfl w.heap.size Ao n co (n + 1) ((l.take k).filter q) [x] rfl (OwnF.below (OwnF.below HO.out HB7.out) ((Below.refl _ _).alloc (Nat.le_refl _) _)) (some ⟨w7.heap.size, 0, none⟩) 1 1 rfl (Rd.ofBlock1 x rfl _) rfl rfl (by omega) (by rw [World.size_alloc]; have := HB.out.size; have := HB7.out.size; omega) ?_); intro A8 c8 w8 HO8 HG8; have ho8 := HO8.out; have HB8 := Lib.hid (Own.grow (OwnF.below (OwnF.below HO.out HB7.out) ((Below.refl _ _).alloc (Nat.le_refl _) _)) (((HB.out.trans (HB7.out.mono HB.out.size)).trans (((Below.refl _ _).alloc (Nat.le_refl _) _).mono (Nat.le_trans HB.out.size HB7.out.size)))) (by rw [World.size_alloc]; have := HB.out.size; have := HB7.out.size; omega) (Nat.le_refl _) HG8.out)))
        rw [← HFN.out] at ho8
        exact ⟨⟨k + 1, n + 1, A8, c8, rfl, by first | rfl | go_num, by omega, by omega, Lib.hid ho8, HB8⟩, by simp [intOf]; omega⟩
      | false =>
        rw [hqx, if_neg Bool.false_ne_true, List.append_nil] at hfn
        have HFN := Lib.hid hfn
        clear hfn
        go_wp2_with (first
          | (show wpList _ _ _ ({ dst := some 13, op := Op.load _ _, type := _, pos := _, after := _, guard := _ } :: _) _ _; refine wpList_load_mid rfl 23 (.tmp 12) rfl b (o + k * 5) rfl x.vals _ HR.out Try.underlying23 rfl (by kernel_rfl) ?_)
          | (show wpList _ _ _ ({ dst := none, op := Op.store _ (Operand.tmp 6) _, type := _, pos := _, after := _, guard := _ } :: _) _ _; refine wpList_store_mid rfl 23 (.tmp 6) (.tmp 13) rfl wr.heap.size 0 x.vals.toArray rfl rfl (FBox.there_made _ _ _ _ _ _ _) (by kernel_rfl) (all_oneCell_toArray (Fi.one x)) ?_; refine FBox.madeW 23 wr _ _ _ _ _ x ?_; intro w6 HG6 HB6)
          | (show wpList _ _ _ ({ dst := some 15, op := Op.load _ _, type := _, pos := _, after := _, guard := _ } :: _) _ _; refine wpList_load_mid rfl 23 (.tmp 6) rfl wr.heap.size 0 rfl x.vals _ HG6.out.range Try.underlying23 rfl (by kernel_rfl) ?_)
          | (refine (HQ.out x _ (HB.out.trans (HB6.out.mono HB.out.size))).mono ?_; rintro e w7 ⟨rfl, hb7⟩; rw [hqx]; have HG7 := Lib.hid (HG6.out.below hb7 HG6.out.lt); have HB7 := Lib.hid (HB6.out.trans (hb7.mono HB6.out.size)))
          | (show wpList _ _ _ ({ dst := some 18, op := Op.load _ _, type := _, pos := _, after := _, guard := _ } :: _) _ _; refine wpList_load_mid rfl 23 (.tmp 6) rfl wr.heap.size 0 rfl [.int .i64 x.level, .string x.name, .string x.low, .string x.high, .int .i64 x.many] _ HG7.out.range Try.underlying23 rfl (by kernel_rfl) ?_)
          | (at_builtin; show wpList _ _ _ ({ dst := some 20, op := _, type := _, pos := _, after := _, guard := _ } :: _) _ _; go_loud (refine files_app rfl _ _ rfl w.heap.size Ao n co (n + 1) ((l.take k).filter q) [x] rfl (OwnF.below (OwnF.below HO.out HB7.out) ((Below.refl _ _).alloc (Nat.le_refl _) _)) (some ⟨w7.heap.size, 0, none⟩) 1 1 rfl (Rd.ofBlock1 x rfl _) rfl rfl (by omega) (by rw [World.size_alloc]; have := HB.out.size; have := HB7.out.size; omega) ?_); intro A8 c8 w8 HO8 HG8; have ho8 := HO8.out; have HB8 := Lib.hid (Own.grow (OwnF.below (OwnF.below HO.out HB7.out) ((Below.refl _ _).alloc (Nat.le_refl _) _)) (((HB.out.trans (HB7.out.mono HB.out.size)).trans (((Below.refl _ _).alloc (Nat.le_refl _) _).mono (Nat.le_trans HB.out.size HB7.out.size)))) (by rw [World.size_alloc]; have := HB.out.size; have := HB7.out.size; omega) (Nat.le_refl _) HG8.out)))
        have ho7 := OwnF.below HO.out HB7.out
        rw [← HFN.out] at ho7
        exact ⟨⟨k + 1, n, Ao, co, rfl, by first | rfl | go_num, by omega, by omega, Lib.hid ho7, Lib.hid (HB.out.trans (HB7.out.mono HB.out.size))⟩, by simp [intOf]; omega⟩
    · have e1 : decide ((k : Int) < (N : Int)) = false := decide_eq_false (by omega)
      have ho := HO.out
      rw [List.take_of_length_le (by rw [HN.out]; omega)] at ho
      have HOF := Lib.hid ho
      clear ho
      go_wp2
      go_ret
      exact ⟨Ao, n, co, rfl, HOF.out, HB.out⟩
end Go.Proofs.Ytaeemeoffnhgfaa
