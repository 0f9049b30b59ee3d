/-
  The walk of the law MergeMany. No conditions.
-/
import Derived.Test.YtflppcgonbjnmaaJK
import Derived.Laws.BytesString
namespace Go.Proofs.Ytflppcgonbjnmaa
open Go.RowKit
attribute [local go_sem ↓] Go.wp_at_zero Go.wp_at_succ

def manyIt (i : Nat) : It := ⟨⟨⟨#[UInt8.ofNat (i + 1)]⟩, ⟨#[99]⟩, 0, 0, false, ⟨#[]⟩⟩, i⟩
def manyL (n : Nat) : List (List It) := (List.range n).map fun i => [manyIt i]
theorem manyL_succ (n : Nat) : manyL (n + 1) = manyL n ++ [[manyIt n]] := by simp [manyL, List.range_succ]
theorem manyL_len (n : Nat) : (manyL n).length = n := by simp [manyL]
theorem flat_single {α β : Type} (f : α → β) : ∀ l : List α, (l.map fun i => [f i]).flatten = l.map f
  | [] => rfl
  | x :: l => by rw [List.map_cons, List.flatten_cons, flat_single f l]; rfl
theorem many_flat (n : Nat) : (manyL n).flatten = (List.range n).map manyIt := flat_single manyIt _
theorem many_lt {i j : Nat} (hj : j < 60) (h : i < j) : cc (manyIt i) (manyIt j) < 0 := by
  have h1 : ((List.range 60).all fun j => (List.range j).all fun i => decide (cc (manyIt i) (manyIt j) < 0)) = true := by kernel_rfl
  rw [List.all_eq_true] at h1
  have h2 := h1 j (List.mem_range.2 hj)
  rw [List.all_eq_true] at h2
  exact of_decide_eq_true (h2 i (List.mem_range.2 h))
theorem many_strict {n : Nat} (hn : n ≤ 60) : Strict (manyL n).flatten := by
  rw [many_flat]
  unfold Strict
  rw [List.pairwise_map]
  refine List.Pairwise.imp_of_mem (fun {a b} _ hb h => many_lt ?_ h) (List.pairwise_lt_range)
  have := List.mem_range.1 hb
  omega
theorem many_sorted (n : Nat) : sortedL (manyL n) = true := by
  unfold sortedL manyL
  rw [List.all_eq_true]
  intro r hr
  obtain ⟨i, _, rfl⟩ := List.mem_map.1 hr
  rfl
theorem many_resolve {n : Nat} (hn : n ≤ 60) : (resolve (manyL n).flatten).length = n := by
  rw [resolve_strict (many_strict hn), many_flat, List.length_map, List.length_range]
theorem many_str (w : World) (k : Nat) : (convert 58 9 (.slice (some ⟨w.heap.size, 0, none⟩) 1 1)).run Try.prog (w.alloc (.cells #[.int .u8 ((k : Int) + 1)] 5)) = .ok (.string (manyIt k).c.row) (w.alloc (.cells #[.int .u8 ((k : Int) + 1)] 5)) := by
  have e : (manyIt k).c.row = [(k : Int) + 1].foldl (fun r n => r.push (UInt8.ofNat n.toNat)) ByteArray.empty := by
    show _ = ByteArray.empty.push (UInt8.ofNat ((k : Int) + 1).toNat)
    rw [show ((k : Int) + 1).toNat = k + 1 by omega]
    rfl
  rw [e, run_convert_bytes_string _ 58 9 5 _ _ _ Try.underlying58 Try.underlying5 Try.underlying9]
  refine run_bytesToString _ _ 1 1 [(k : Int) + 1] ?_
  exact run_loadCells_list (P := Try.prog) (w := w.alloc (.cells #[.int .u8 ((k : Int) + 1)] 5)) (⟨w.heap.size, 0, none⟩ : Addr) [Value.int .u8 ((k : Int) + 1)] (fun j v hv => by
    match j, hv with
    | 0, hv =>
      injection hv with hv
      subst hv
      exact (cell_of_row _ w.heap.size 0 #[.int .u8 ((k : Int) + 1)] 5 (0, 0) (heap_alloc_new w _)))
theorem many_new {w wr w4 : World} {k co : Nat} {Ao : Option Addr} {vs : List Value} {o1 : Obj} (ho : Own wr w.heap.size 32 1 Ao k co vs) (hi : ILists wr w.heap.size vs (manyL k)) (hb : Below w.heap.size w wr)
    (hg : (((wr.alloc o1).alloc (.cells (manyIt k).vals.toArray 59)).alloc (.cells #[.slice (some ⟨wr.heap.size + 1, 0, none⟩) 1 1] 32)).grownBy w4 (blk Ao)) :
    ILists w4 w.heap.size (vs ++ [.slice (some ⟨wr.heap.size + 1, 0, none⟩) 1 1]) (manyL (k + 1)) := by
  have hz := hb.size
  have ho3 := ((ho.alloc o1).alloc (.cells (manyIt k).vals.toArray 59)).alloc (.cells #[.slice (some ⟨wr.heap.size + 1, 0, none⟩) 1 1] 32)
  have h1 : ILists w4 w.heap.size vs (manyL k) := hi.keep fun A n c xs h => (((h.alloc o1).alloc _).alloc _).grown hg (Own.type_ne' (((h.alloc o1).alloc _).alloc _) ho3 (by decide))
  have h2 : Own ((wr.alloc o1).alloc (.cells (manyIt k).vals.toArray 59)) w.heap.size 59 7 (some ⟨wr.heap.size + 1, 0, none⟩) 1 1 (its [manyIt k]) := by
    have := World.ownsRow_lit (base := w.heap.size) (e := 59) (size := 7) (wr.alloc o1) (manyIt k).vals.toArray 1 (by rw [World.size_alloc]; omega) (by decide) rfl
    rw [World.size_alloc] at this
    exact this
  have h3 := (h2.alloc (.cells #[.slice (some ⟨wr.heap.size + 1, 0, none⟩) 1 1] 32)).grown hg (Own.type_ne' (h2.alloc _) ho3 (by decide))
  rw [manyL_succ]
  exact h1.snoc (p := [manyIt k]) h3
set_option maxHeartbeats 4000000 in
set_option maxRecDepth 20000 in
theorem mergeMany_any (xn xw : Nat) (w : World) (h1 : xn ≤ 255) (h2 : xw ≤ 255) :
    Calls Try.prog 7 #[.int .u8 xn, .int .u8 xw] w fun e w' => e = .returned (.bool true) ∧ Below w.heap.size w w' := by
  obtain ⟨i0, hi0, hz0, hz1, hz2⟩ := info_parts itemsInfo
  obtain ⟨n, hn⟩ : ∃ n, xn % 60 = n := ⟨_, rfl⟩
  obtain ⟨v, hv⟩ : ∃ v, xw % 5 = v := ⟨_, rfl⟩
  have kn : n < 60 := by rw [← hn]; exact Nat.mod_lt _ (by omega)
  have kv : v < 5 := by rw [← hv]; exact Nat.mod_lt _ (by omega)
  have rn1 : (xn : Int) % 60 = (n : Int) := by rw [← hn]; rfl
  have rn2 : Int.tmod (xn : Int) 60 = (n : Int) := by rw [← hn]; rfl
  have rv1 : (xw : Int) % 5 = (v : Int) := by rw [← hv]; rfl
  have rv2 : Int.tmod (xw : Int) 5 = (v : Int) := by rw [← hv]; rfl
  obtain ⟨m, hm⟩ : ∃ m, v + 2 = m := ⟨_, rfl⟩
  have wv : IntKind.i64.wrap (2 + (v : Int)) = (m : Int) := by rw [IntWalk.i64_in _ (by omega)]; omega
  clear hn hv
  have HO0 := Lib.hid (Own.new0' w 32 1)
  have HB0 := Lib.hid ((Below.refl w.heap.size w).alloc (Nat.le_refl _) (.cells #[] 32))
  go_enter Try.func7, Try.ntmps7
  go_wp2_with fail
  go_loopw [6, 7] (fun vo vi wr => ∃ (k : Nat) (Ao : Option Addr) (co : Nat) (vs : List Value), k ≤ n ∧ vo = .slice Ao k co ∧ vi = .int .i64 (k : Int) ∧ Hid (Own wr w.heap.size 32 1 Ao k co vs) ∧ Hid (ILists wr w.heap.size vs (manyL k)) ∧ Hid (Below w.heap.size w wr)) (fun _ vi _ => n - (intOf vi).toNat)
  case atStart => exact ⟨0, _, 0, [], Nat.zero_le _, rfl, rfl, HO0, ILists.nil, HB0⟩
  case round =>
    clear HO0 HB0
    obtain ⟨k, Ao, co, vs, hk, rfl, rfl, HO, HI, HB⟩ := hrel
    by_cases hlt : k < n
    · have e1 : decide ((k : Int) < (n : Int)) = true := decide_eq_true (by omega)
      have hw3 : IntKind.i64.wrap ((k : Int) + 1) = ((k + 1 : Nat) : Int) := by rw [IntWalk.i64_in _ (by omega)]; omega
      have hw4 : IntKind.u8.wrap (k : Int) = (k : Int) := by rw [IntWalk.u8_in _ (by omega)]
      have hw5 : IntKind.u8.wrap (1 + (k : Int)) = ((k + 1 : Nat) : Int) := by rw [IntWalk.u8_in _ (by omega)]; omega
      have hcv := many_str wr k
      have HN := Lib.hid (fun (w4 : World) (o1 : Obj) h => many_new (w4 := w4) (o1 := o1) HO.out HI.out HB.out h)
      go_wp2_with (first
        | (at_builtin; go_loud (refine wpList_app _ rfl _ _ _ rfl w.heap.size 32 i0 (.slice none 0 0) 1 24 Try.underlying30 hi0 hz0 hz1 hz2 rfl (by decide) _ _ _ _ rfl (Own.alloc (Own.alloc (Own.alloc HO.out _) _) _) _ _ 1 _ [.slice (some ⟨wr.heap.size + 1, 0, none⟩) 1 1] rfl (Rd.all' _ _ _ _ (wr.heap.size + 1 + 1) (by rw [World.size_alloc, World.size_alloc]) rfl) rfl (by simp [Value.oneCell']) (by unfold maxLen; omega) (by omega) (by rw [World.size_alloc, World.size_alloc, World.size_alloc]; have := HB.out.size; omega) ?_); intro A4 c4 w4 ho4 hg4 hat4
           have HI4 := Lib.hid (HN.out w4 _ hg4)
           have HO4 := Lib.hid ho4
           have HB4 := Lib.hid ((Own.alloc (Own.alloc (Own.alloc HO.out _) _) _).grow (((HB.out.alloc HB.out.size _).alloc (by rw [World.size_alloc]; have := HB.out.size; omega) _).alloc (by rw [World.size_alloc, World.size_alloc]; have := HB.out.size; omega) _) (by rw [World.size_alloc, World.size_alloc, World.size_alloc]; have := HB.out.size; omega) (Nat.le_refl _) hg4)
           clear ho4 hg4 hat4))
      exact ⟨⟨k + 1, A4, c4, _, by omega, rfl, by first | rfl | go_num, HO4, HI4, HB4⟩, by simp [intOf]; omega⟩
    · have e1 : decide ((k : Int) < (n : Int)) = false := decide_eq_false (by omega)
      obtain rfl : k = n := by omega
      have hlr := HI.out.lrd HO.out
      have hal := all_ok Ao co (manyL k) m wr hlr.1 (by rw [manyL_len]; omega) (by rw [many_flat, List.length_map, List.length_range]; omega) (by rw [manyL_len]; exact HO.out.cap) (by omega) (by omega) (many_sorted k)
      rw [many_resolve (by omega), manyL_len] at hal
      have HAL := Lib.hid hal
      have HV := Lib.hid hm
      obtain ⟨pn, hpn⟩ : ∃ pn, passN m k = pn := ⟨_, rfl⟩
      have hpk : pn ≤ 6 := by rw [← hpn]; exact passN_pow (by omega) 6 k (by omega)
      rw [hpn] at HAL
      have HP := Lib.hid hpn
      have hm0 : ¬ ((m : Int) = 0) := by omega
      have hm00 : ¬ (m = 0) := by omega
      clear hlr hal HI hpn hm
      go_wp2_with (go_at_call 19; refine HAL.out.mono ?_; rintro e w2 ⟨A2, c2, rfl, ho2, hb2⟩; have HB2 := Lib.hid (HB.out.trans (hb2.mono HB.out.size)); clear ho2 hb2)
      go_loopw [11, 12] (fun va vk wr' => ∃ (a b : Nat), va = .int .i64 (a : Int) ∧ vk = .int .i64 (b : Int) ∧ b ≤ k ∧ a ≤ pn ∧ Hid (pn = passN m b + a) ∧ w2 = wr') (fun _ vk _ => (intOf vk).toNat)
      case atStart => exact ⟨0, k, rfl, rfl, Nat.le_refl _, Nat.zero_le _, Lib.hid HP.out.symm, rfl⟩
      case round =>
        obtain ⟨a, b, rfl, rfl, hbk, hap, HQ, rfl⟩ := hrel
        by_cases hb2 : 1 < b
        · have e2 : decide ((1 : Int) < (b : Int)) = true := decide_eq_true (by omega)
          obtain ⟨q, hq⟩ : ∃ q, (b + m - 1) / m = q := ⟨_, rfl⟩
          have hqb : q < b := by rw [← hq]; exact ceil_lt (by have := HV.out; omega) (by omega)
          have hq1 : ((b : Int) + (m : Int) - 1) / (m : Int) = (q : Int) := by rw [← hq, show ((b : Int) + (m : Int) - 1) = ((b + m - 1 : Nat) : Int) by omega]; rfl
          have hq2 : Int.tdiv ((b : Int) + (m : Int) - 1) (m : Int) = (q : Int) := by rw [← hq, show ((b : Int) + (m : Int) - 1) = ((b + m - 1 : Nat) : Int) by omega]; rfl
          have hw6 : IntKind.i64.wrap ((b : Int) + (m : Int)) = (b : Int) + (m : Int) := by have := HV.out; rw [IntWalk.i64_in _ (by omega)]
          have hw7 : IntKind.i64.wrap ((b : Int) + (m : Int) - 1) = (b : Int) + (m : Int) - 1 := by have := HV.out; rw [IntWalk.i64_in _ (by omega)]
          have hw8 : IntKind.i64.wrap (q : Int) = (q : Int) := by rw [IntWalk.i64_in _ (by omega)]
          have hpm := passN_more (w := m) (n := b) (by have := HV.out; omega) (by omega)
          rw [hq] at hpm
          have hqq := HQ.out
          have HQ2 := Lib.hid (show pn = passN m q + (a + 1) by omega)
          have ha1 : a + 1 ≤ pn := by have := HQ2.out; omega
          have hw9 : IntKind.i64.wrap ((a : Int) + 1) = ((a + 1 : Nat) : Int) := by rw [IntWalk.i64_in _ (by omega)]; omega
          clear hpm hqq hq
          go_wp2
          exact ⟨⟨a + 1, q, by first | rfl | go_num, rfl, by omega, ha1, HQ2, by first | rfl | trivial⟩, by simp [intOf]; omega⟩
        · have e2 : decide ((1 : Int) < (b : Int)) = false := decide_eq_false (by omega)
          have hpa : pn = a := by
            have h := HQ.out
            rw [passN_le (by omega)] at h
            omega
          subst hpa
          have j1 : ((pn : Int) == (pn : Int)) = true := beq_self_eq_true _
          have j2 : ((k : Int) == (k : Int)) = true := beq_self_eq_true _
          clear HQ hap
          go_wp2_with (go_at_call 9; refine (shown_any _).mono ?_; rintro e w5 ⟨rfl, hb5⟩)
          go_ret
          exact ⟨rfl, HB2.out.trans (hb5.mono HB2.out.size)⟩
end Go.Proofs.Ytflppcgonbjnmaa
