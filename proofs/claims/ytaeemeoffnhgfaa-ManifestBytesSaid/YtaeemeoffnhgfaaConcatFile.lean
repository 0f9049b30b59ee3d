/-
  The walk of slices.Concat at files.
-/
import Derived.Test.YtaeemeoffnhgfaaDeleteFile
namespace Go.Proofs.Ytaeemeoffnhgfaa
open Go.RowKit
attribute [local go_sem ↓] Go.wp_at_zero Go.wp_at_succ

theorem run_slice_front {P : Program} {t e : TypeId} {i : TypeInfo} (ht : P.underlying t = some (.slice e)) (hi : P.info? e = some i) (A : Option Addr) (n c k : Nat) (hk : k ≤ c) (W : World) :
    (Instr.slice t (.slice A n c) none (some (.int .i64 (k : Int))) none).run P W = .ok (.slice A k c) W := by
  have he : P.underlying t = some (.slice (P.elem t)) := by rw [ht]; simp [Program.elem, ht]
  have hee : P.elem t = e := by simp [Program.elem, ht]
  rw [run_slice_h (P := P) W t A n c he .i64 k (by omega) (by omega), hee]
  simp [sizeOf, typeInfo, hi, Result.andThen, sliced]
  intro _
  cases A <;> simp [Addr.add]
theorem zeroCells_sized {zc : Array Value} {k : Nat} (h : zc.size = k) (n : Nat) : (Builtin.zeroCells zc n).size = n * k := by simp [Builtin.zeroCells, h]

/-- slices, one behind the other: where each lies, how long it is, and its values -/
structure Sl where
  A : Option Addr
  n : Nat
  c : Nat
  vs : List Value
def Sl.val (x : Sl) : Value := .slice x.A x.n x.c
/-- all lie below block B, with elements of k cells -/
def SlsIn (w : World) (B k : Nat) (l : List Sl) : Prop := ∀ x ∈ l, Rd w B x.A x.vs ∧ x.vs.length = x.n * k ∧ ∀ u ∈ x.vs, u.oneCell' = true
def total (l : List Sl) : Nat := (l.map Sl.n).sum
def joined (l : List Sl) : List Value := l.flatMap Sl.vs
theorem total_succ {l : List Sl} {k : Nat} (h : k < l.length) : total (l.take (k + 1)) = total (l.take k) + l[k].n := by
  unfold total
  rw [List.take_succ_eq_append_getElem h, List.map_append, List.sum_append_nat]
  rfl
theorem joined_succ {l : List Sl} {k : Nat} (h : k < l.length) : joined (l.take (k + 1)) = joined (l.take k) ++ l[k].vs := by
  unfold joined
  rw [List.take_succ_eq_append_getElem h, List.flatMap_append]
  simp
theorem total_le (l : List Sl) (k : Nat) : total (l.take k) ≤ total l := by
  have : total l = total (l.take k) + total (l.drop k) := by
    unfold total
    rw [← List.sum_append_nat, ← List.map_append, List.take_append_drop]
  omega
theorem SlsIn.below {w w' : World} {B k : Nat} {l : List Sl} (h : SlsIn w B k l) (hb : Below B w w') : SlsIn w' B k l := fun x hx => ⟨(h x hx).1.below hb, (h x hx).2⟩
theorem sl_vals_at {l : List Sl} {k : Nat} (h : k < l.length) (h' : k < (l.map Sl.val).length) : (l.map Sl.val)[k] = .slice l[k].A l[k].n l[k].c := by
  rw [List.getElem_map]
  rfl

set_option maxRecDepth 10000 in
set_option maxHeartbeats 1000000 in
theorem grow_nil (N : Nat) (w : World) (hN : N ≤ 1000000) :
    Calls Try.prog 63 #[.slice none 0 0, .int .i64 N] w fun e w' => ∃ (A' : Option Addr) (c' : Nat), e = .returned (.slice A' 0 c') ∧ Own w' w.heap.size 23 5 A' 0 c' [] ∧ Below w.heap.size w w' := by
  obtain ⟨i0, hi0, hz0, hz1, hz2⟩ := info_parts fileInfo
  have hw0 : IntKind.i64.wrap ((N : Int) - 0) = (N : Int) := by rw [IntWalk.i64_in _ (by omega)]; omega
  have h1 : decide ((N : Int) < 0) = false := decide_eq_false (by omega)
  rcases Nat.eq_zero_or_pos N with h0 | h0
  · subst h0
    go_enter Try.func63, Try.ntmps63
    go_wp2
    go_ret
    exact ⟨none, 0, rfl, Own.nil, Below.refl _ _⟩
  · have h2 : decide (0 < (N : Int)) = true := decide_eq_true (by omega)
    have hs1 := fun W => run_slice_front (P := Try.prog) (t := 25) Try.underlying25 hi0 none 0 0 0 (Nat.le_refl _) W
    have hr := Lib.run_append_nil_zeros (P := Try.prog) w 25 3 25 23 i0 _ .i64 .i64 Try.underlying25 Try.underlying3 hi0 hz0 N h0 (by omega) (by omega) (by rw [hz2]; omega)
    obtain ⟨cap, hcap⟩ : ∃ cap, grownCap w N 0 23 = cap := ⟨_, rfl⟩
    have hc1 := grownCap_ge w N 0 23
    have hc2 := grownCap_le_maxLen w N 0 23 (by unfold maxLen; omega)
    rw [hcap] at hr hc1 hc2
    have hs2 := fun W => run_slice_front (P := Try.prog) (t := 25) Try.underlying25 hi0 (some ⟨w.heap.size, 0, none⟩) N cap 0 (Nat.zero_le _) W
    obtain ⟨cs, hcs⟩ : ∃ cs, (Builtin.zeroCells (Value.cells zeroFile) N ++ Builtin.zeroCells (Value.cells zeroFile) (cap - N)) = cs := ⟨_, rfl⟩
    rw [hcs] at hr
    have hsz : cs.size = cap * 5 := by
      rw [← hcs, Array.size_append, zeroCells_sized (k := 5) rfl, zeroCells_sized (k := 5) rfl, ← Nat.add_mul]
      congr 1
      omega
    have ho : Own (w.drew.alloc (.cells cs 23)) w.heap.size 23 5 (some ⟨w.heap.size, 0, none⟩) 0 cap [] :=
      ⟨by simp, .inr ⟨w.heap.size, cap, cs, rfl, Nat.le_refl _, heap_alloc_new w.drew _, Nat.zero_le _, hc2, hsz, by simp⟩⟩
    have hb : Below w.heap.size w (w.drew.alloc (.cells cs 23)) := (Below.refl _ w).drew.alloc (Nat.le_refl _) _
    have HO := Lib.hid ho
    have HB := Lib.hid hb
    have HR := Lib.hid hr
    clear ho hb hr hcs hsz hc1 hc2 hcap
    go_enter Try.func63, Try.ntmps63
    go_wp2_with (at_builtin; refine Lib.wpList_append_run _ rfl _ _ _ _ rfl _ _ rfl rfl _ _ HR.out ?_)
    go_ret
    exact ⟨_, _, rfl, HO.out, HB.out⟩
set_option maxRecDepth 10000 in
set_option maxHeartbeats 2000000 in
theorem concat_any (A : Option Addr) (c : Nat) (l : List Sl) (w : World) (hA : Rd w w.heap.size A (l.map Sl.val)) (hl : SlsIn w w.heap.size 5 l) (hlen : l.length ≤ 1000000) (hN : total l ≤ 1000000) :
    Calls Try.prog 36 #[.slice A l.length c] w fun e w' => ∃ (A' : Option Addr) (c' : Nat), e = .returned (.slice A' (total l) c') ∧ Own w' w.heap.size 23 5 A' (total l) c' (joined l) ∧ Below w.heap.size w w' := by
  obtain ⟨i0, hi0, hz0, hz1, hz2⟩ := info_parts fileInfo
  go_enter Try.func36, Try.ntmps36
  go_wp2
  go_loopw [3, 5, 11] (fun s _ i wr => ∃ k : Nat, s = .int .i64 (total (l.take k)) ∧ i = .int .i64 k ∧ k ≤ l.length ∧ wr = w) (fun _ _ i _ => l.length - (intOf i).toNat)
  case atStart => exact ⟨0, rfl, rfl, Nat.zero_le _, rfl⟩
  case round =>
    obtain ⟨k, rfl, rfl, hk, rfl⟩ := hrel
    by_cases hlt : k < l.length
    · have hd : decide ((k : Int) < (l.length : Int)) = true := decide_eq_true (by omega)
      have h1 := total_succ hlt
      have h2 := total_le l (k + 1)
      obtain ⟨b, o, rfl, hb, hc⟩ := hA.at_ (by intro e; rw [List.map_eq_nil_iff] at e; subst e; simp at hlt)
      have hck := hc k (by simpa using hlt)
      rw [sl_vals_at hlt] at hck
      have hw1 : IntKind.i64.wrap ((total (l.take k) : Int) + (l[k].n : Int)) = (total (l.take (k + 1)) : Int) := by rw [IntWalk.i64_in _ (by omega)]; omega
      have hd2 : decide ((total (l.take (k + 1)) : Int) < 0) = false := decide_eq_false (by omega)
      have hw2 : IntKind.i64.wrap ((k : Int) + 1) = ((k + 1 : Nat) : Int) := by rw [IntWalk.i64_in _ (by omega)]; omega
      have i1 : (0 : Int) ≤ (k : Int) := by omega
      have i2 : (k : Int) < (l.length : Int) := by omega
      have H1 := Lib.hid h1
      have H2 := Lib.hid h2
      clear h1 h2 hc
      go_wp2
      exact ⟨⟨k + 1, rfl, by first | rfl | go_num, by omega, by first | rfl | trivial⟩, by simp [intOf]; omega⟩
    · rename World => w0
      have hk2 : k = l.length := by omega
      subst hk2
      rw [List.take_length]
      have hd : decide ((l.length : Int) < (l.length : Int)) = false := decide_eq_false (by omega)
      go_wp2_with (go_at_call 63; refine (grow_nil (total l) _ (by omega)).mono ?_; rintro e w1 ⟨A1, c1, rfl, ho1, hb1⟩)
      go_loopw [6, 8, 27] (fun s _ i wr' => ∃ (A2 : Option Addr) (c2 k : Nat), s = .slice A2 (total (l.take k)) c2 ∧ i = .int .i64 k ∧ k ≤ l.length ∧ Own wr' w0.heap.size 23 5 A2 (total (l.take k)) c2 (joined (l.take k)) ∧ Below w0.heap.size w0 wr') (fun _ _ i _ => l.length - (intOf i).toNat)
      case atStart => exact ⟨A1, c1, 0, rfl, rfl, Nat.zero_le _, ho1, hb1⟩
      case round =>
        obtain ⟨A2, c2, k, rfl, rfl, hk, ho, hB⟩ := hrel
        clear ho1 hb1 hd
        by_cases hlt : k < l.length
        · have hd : decide ((k : Int) < (l.length : Int)) = true := decide_eq_true (by omega)
          have h1 := total_succ hlt
          have h2 := total_le l (k + 1)
          obtain ⟨b, o, rfl, hb, hc⟩ := (hA.below hB).at_ (by intro e; rw [List.map_eq_nil_iff] at e; subst e; simp at hlt)
          have hck := hc k (by simpa using hlt)
          rw [sl_vals_at hlt] at hck
          have hw2 : IntKind.i64.wrap ((k : Int) + 1) = ((k + 1 : Nat) : Int) := by rw [IntWalk.i64_in _ (by omega)]; omega
          have i1 : (0 : Int) ≤ (k : Int) := by omega
          have i2 : (k : Int) < (l.length : Int) := by omega
          obtain ⟨hr, hvl, h1c⟩ := (hl.below hB) _ (List.getElem_mem hlt)
          have HO := Lib.hid ho
          have HB := Lib.hid hB
          have H1 := Lib.hid h1
          have H3 := Lib.hid (joined_succ hlt)
          have HH := Lib.hid (And.intro hr (And.intro hvl h1c))
          have hN2 : total (l.take k) + l[k].n ≤ 1000000 := by omega
          have hsz := hB.size
          clear ho hB h1 h2 hr hvl h1c hl hA hc
          go_wp2_with (at_builtin; go_loud (refine wpList_app _ rfl _ _ _ rfl w0.heap.size 23 i0 zeroFile 5 64 Try.underlying25 hi0 hz0 hz1 hz2 rfl (by decide) A2 _ c2 _ rfl HO.out w0.heap.size l[k].A l[k].n l[k].c l[k].vs rfl HH.out.1 HH.out.2.1 HH.out.2.2 (by unfold maxLen; omega) (by omega) (by omega) ?_); intro A3 c3 w3 ho3 hg3 _)
          refine ⟨⟨A3, c3, k + 1, by rw [H1.out], by first | rfl | go_num, by omega, by rw [H1.out, H3.out]; exact ho3, Own.grow HO.out HB.out (by omega) (Nat.le_refl _) hg3⟩, by simp [intOf]; omega⟩
        · have hk2 : k = l.length := by omega
          subst hk2
          rw [List.take_length] at ho ⊢
          have hd : decide ((l.length : Int) < (l.length : Int)) = false := decide_eq_false (by omega)
          have HO := Lib.hid ho
          have HB := Lib.hid hB
          clear ho hB
          go_wp2
          go_ret
          exact ⟨A2, c2, rfl, HO.out, HB.out⟩
end Go.Proofs.Ytaeemeoffnhgfaa

