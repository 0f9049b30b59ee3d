/-
  The walk of the reference's Decode. No conditions.
-/
import Derived.Test.YtaeemeoffnhgfaaByC13
import Derived.Test.YtaeemeoffnhgfaaByD13
namespace Go.Proofs.Ytaeemeoffnhgfaa
open Go.RowKit
attribute [local go_sem ↓] Go.wp_at_zero Go.wp_at_succ

def firstR (s : ByteArray) : Int × ByteArray := match s.data.toList with | [] => (-1, ByteArray.empty) | b :: _ => (b.toNat, s.extract 1 s.size)
def takenR (s : ByteArray) : ByteArray × ByteArray × Bool := if (firstR s).1 < 0 ∨ ((firstR s).2.size : Int) < (firstR s).1 then (ByteArray.empty, ByteArray.empty, false) else ((firstR s).2.extract 0 (firstR s).1.toNat, (firstR s).2.extract (firstR s).1.toNat (firstR s).2.size, true)

set_option maxHeartbeats 2000000 in
theorem first_any (s : ByteArray) (w : World) (hs : s.size ≤ 1000000) :
    Calls Try.prog 57 #[.string s] w fun e w' => e = .returned (.tuple #[.int .i64 (firstR s).1, .string (firstR s).2]) ∧ Below w.heap.size w w' := by
  cases hd : s.data.toList with
  | nil =>
    have h0 : s.size = 0 := congrArg List.length hd
    have e1 : ((s.size : Int) == 0) = true := by simp [h0]
    have HF := Lib.hid (show firstR s = (-1, ByteArray.empty) by unfold firstR; rw [hd])
    clear hd
    go_enter Try.func57, Try.ntmps57
    go_wp2
    go_ret2
    exact ⟨by rw [HF.out]; rfl, Below.refl _ _⟩
  | cons b l =>
    have h0 : s.size = l.length + 1 := congrArg List.length hd
    have e1 : ((s.size : Int) == 0) = false := by simp [h0]; omega
    have HF := Lib.hid (show firstR s = ((b.toNat : Int), s.extract 1 s.size) by unfold firstR; rw [hd])
    have i0 : (0 : Int) < (s.size : Int) := by omega
    have i1 : (1 : Int) ≤ (s.size : Int) := by omega
    have HC : True := trivial
    have i2 : 0 < s.size := by omega
    have HG := Lib.hid (show s[0]'i2 = b by
      have h1 : s.data[0]? = some b := by rw [← Array.getElem?_toList, hd]; rfl
      obtain ⟨h2, h3⟩ := Array.getElem?_eq_some_iff.1 h1
      exact h3)
    clear hd h0
    go_enter Try.func57, Try.ntmps57
    go_wp2
    refine region_wz (fun _ => True) none (by kernel_rfl) ?_
    apply WZ.take (i := 0) (some 7) rfl rfl (by kernel_rfl) (by kernel_rfl) (by kernel_rfl) (calm_panic _) (by kernel_rfl)
    case hy => (refine .inl ⟨by kernel_rfl, fun W hC => ?_⟩; (try dsimp only at hC); go_simp; rfl)
    case hC => exact HC
    case ha => (simp only [Act.put, List.setIfInBounds_toArray, List.set_cons_zero, List.set_cons_succ]; rfl)
    apply WZ.take (i := 1) (some 8) rfl rfl (by kernel_rfl) (by kernel_rfl) (by kernel_rfl) (calm_panic _) (by kernel_rfl)
    case hy => (refine .inl ⟨by kernel_rfl, fun W hC => ?_⟩; (try dsimp only at hC); go_simp; rfl)
    case hC => exact HC
    case ha => (simp only [Act.put, List.setIfInBounds_toArray, List.set_cons_zero, List.set_cons_succ]; rfl)
    apply WZ.take (i := 2) (some 9) rfl rfl (by kernel_rfl) (by kernel_rfl) (by kernel_rfl) (calm_panic _) (by kernel_rfl)
    case hy => (refine .inl ⟨by kernel_rfl, fun W hC => ?_⟩; (try dsimp only at hC); go_simp; rfl)
    case hC => exact HC
    case ha => (simp only [Act.put, List.setIfInBounds_toArray, List.set_cons_zero, List.set_cons_succ]; rfl)
    apply WZ.take (i := 3) (some 10) rfl rfl (by kernel_rfl) (by kernel_rfl) (by kernel_rfl) (calm_panic _) (by kernel_rfl)
    case hy => (refine .inl ⟨by kernel_rfl, fun W hC => ?_⟩; (try dsimp only at hC); go_simp; rfl)
    case hC => exact HC
    case ha => (simp only [Act.put, List.setIfInBounds_toArray, List.set_cons_zero, List.set_cons_succ]; rfl)
    apply WZ.take (i := 4) (some 11) rfl rfl (by kernel_rfl) (by kernel_rfl) (by kernel_rfl) (calm_panic _) (by kernel_rfl)
    case hy => (refine .inl ⟨by kernel_rfl, fun W hC => ?_⟩; (try dsimp only at hC); go_simp; rfl)
    case hC => exact HC
    case ha => (simp only [Act.put, List.setIfInBounds_toArray, List.set_cons_zero, List.set_cons_succ]; rfl)
    apply WZ.take (i := 5) (some 2) rfl rfl (by kernel_rfl) (by kernel_rfl) (by kernel_rfl) (calm_panic _) (by kernel_rfl)
    case hy => (refine .inl ⟨by kernel_rfl, fun W hC => ?_⟩; (try dsimp only at hC); go_simp; rfl)
    case hC => exact HC
    case ha => (simp only [Act.put, List.setIfInBounds_toArray, List.set_cons_zero, List.set_cons_succ]; rfl)
    apply WZ.take (i := 6) (some 3) rfl rfl (by kernel_rfl) (by kernel_rfl) (by kernel_rfl) (calm_panic _) (by kernel_rfl)
    case hy => (refine .inl ⟨by kernel_rfl, fun W hC => ?_⟩; (try dsimp only at hC); go_simp; rfl)
    case hC => exact HC
    case ha => (simp only [Act.put, List.setIfInBounds_toArray, List.set_cons_zero, List.set_cons_succ]; rfl)
    refine WZ.done (by kernel_rfl) ?_ _
    simp only [Calm, Exit.then]
    go_wp2
    go_ret2
    refine ⟨?_, (Below.refl _ _).drew⟩
    rw [HF.out]
    have hb := b.toNat_lt
    show Ending.returned (.tuple #[.int .i64 (IntKind.i64.wrap (s[0].toNat : Int)), .string (s.extract 1 s.size)]) = _
    rw [HG.out, i64_nat _ (by omega)]
theorem firstR_size (s : ByteArray) : (firstR s).2.size ≤ s.size ∧ (firstR s).1 < 256 := by
  unfold firstR
  split
  · exact ⟨Nat.zero_le _, by show (-1 : Int) < 256; omega⟩
  · rename_i b l h
    have hb := b.toNat_lt
    simp only [ByteArray.size_extract]
    omega

set_option maxRecDepth 20000 in
set_option maxHeartbeats 2000000 in
theorem taken_any (s : ByteArray) (w : World) (hs : s.size ≤ 1000000) :
    Calls Try.prog 58 #[.string s] w fun e w' => e = .returned (.tuple #[.string (takenR s).1, .string (takenR s).2.1, .bool (takenR s).2.2]) ∧ Below w.heap.size w w' := by
  have H1 := Lib.hid (first_any s w hs)
  obtain ⟨hz, hlt⟩ := firstR_size s
  have HT0 := Lib.hid (show takenR s = if (firstR s).1 < 0 ∨ ((firstR s).2.size : Int) < (firstR s).1 then (ByteArray.empty, ByteArray.empty, false) else ((firstR s).2.extract 0 (firstR s).1.toNat, (firstR s).2.extract (firstR s).1.toNat (firstR s).2.size, true) from rfl)
  obtain ⟨⟨z, r⟩, hf⟩ : ∃ p, firstR s = p := ⟨_, rfl⟩
  rw [hf] at H1 hz hlt HT0
  simp only at H1 hz hlt HT0
  have HC : True := trivial
  clear hf
  by_cases h0 : z < 0
  · have HT := Lib.hid (show takenR s = (ByteArray.empty, ByteArray.empty, false) by rw [HT0.out, if_pos (.inl h0)])
    have e1 : decide (z < 0) = true := decide_eq_true h0
    go_enter Try.func58, Try.ntmps58
    go_wp2_with (go_at_call 57; refine H1.out.mono ?_; rintro e w1 ⟨rfl, hb1⟩)
    go_ret3
    exact ⟨by rw [HT.out]; rfl, hb1⟩
  have e1 : decide (z < 0) = false := decide_eq_false h0
  by_cases h1 : (r.size : Int) < z
  · have HT := Lib.hid (show takenR s = (ByteArray.empty, ByteArray.empty, false) by rw [HT0.out, if_pos (.inr h1)])
    have e2 : decide ((r.size : Int) < z) = true := decide_eq_true h1
    go_enter Try.func58, Try.ntmps58
    go_wp2_with (go_at_call 57; refine H1.out.mono ?_; rintro e w1 ⟨rfl, hb1⟩)
    go_ret3
    exact ⟨by rw [HT.out]; rfl, hb1⟩
  have e2 : decide ((r.size : Int) < z) = false := decide_eq_false h1
  obtain ⟨n, hn⟩ : ∃ n : Nat, z = n := ⟨z.toNat, by omega⟩
  subst hn
  have HT := Lib.hid (show takenR s = (r.extract 0 n, r.extract n r.size, true) by rw [HT0.out, if_neg (by omega)]; rfl)
  have k1 : (0 : Int) ≤ (n : Int) := by omega
  have k2 : (n : Int) ≤ (r.size : Int) := by omega
  clear HT0
  go_enter Try.func58, Try.ntmps58
  go_wp2_with (go_at_call 57; refine H1.out.mono ?_; rintro e w1 ⟨rfl, hb1⟩)
  refine region_wz (fun _ => True) none (by kernel_rfl) ?_
  apply WZ.take (i := 0) (some 19) rfl rfl (by kernel_rfl) (by kernel_rfl) (by kernel_rfl) (calm_panic _) (by kernel_rfl)
  case hy => (refine .inl ⟨by kernel_rfl, fun W hC => ?_⟩; (try dsimp only at hC); go_simp; rfl)
  case hC => exact HC
  case ha => (simp only [Act.put, List.setIfInBounds_toArray, List.set_cons_zero, List.set_cons_succ]; rfl)
  apply WZ.take (i := 1) (some 20) rfl rfl (by kernel_rfl) (by kernel_rfl) (by kernel_rfl) (calm_panic _) (by kernel_rfl)
  case hy => (refine .inl ⟨by kernel_rfl, fun W hC => ?_⟩; (try dsimp only at hC); go_simp; rfl)
  case hC => exact HC
  case ha => (simp only [Act.put, List.setIfInBounds_toArray, List.set_cons_zero, List.set_cons_succ]; rfl)
  apply WZ.take (i := 2) (some 21) rfl rfl (by kernel_rfl) (by kernel_rfl) (by kernel_rfl) (calm_panic _) (by kernel_rfl)
  case hy => (refine .inl ⟨by kernel_rfl, fun W hC => ?_⟩; (try dsimp only at hC); go_simp; rfl)
  case hC => exact HC
  case ha => (simp only [Act.put, List.setIfInBounds_toArray, List.set_cons_zero, List.set_cons_succ]; rfl)
  apply WZ.take (i := 3) (some 22) rfl rfl (by kernel_rfl) (by kernel_rfl) (by kernel_rfl) (calm_panic _) (by kernel_rfl)
  case hy => (refine .inl ⟨by kernel_rfl, fun W hC => ?_⟩; (try dsimp only at hC); go_simp; rfl)
  case hC => exact HC
  case ha => (simp only [Act.put, List.setIfInBounds_toArray, List.set_cons_zero, List.set_cons_succ]; rfl)
  apply WZ.take (i := 4) (some 23) rfl rfl (by kernel_rfl) (by kernel_rfl) (by kernel_rfl) (calm_panic _) (by kernel_rfl)
  case hy => (refine .inl ⟨by kernel_rfl, fun W hC => ?_⟩; (try dsimp only at hC); go_simp; rfl)
  case hC => exact HC
  case ha => (simp only [Act.put, List.setIfInBounds_toArray, List.set_cons_zero, List.set_cons_succ]; rfl)
  apply WZ.take (i := 5) (some 24) rfl rfl (by kernel_rfl) (by kernel_rfl) (by kernel_rfl) (calm_panic _) (by kernel_rfl)
  case hy => (refine .inl ⟨by kernel_rfl, fun W hC => ?_⟩; (try dsimp only at hC); go_simp; rfl)
  case hC => exact HC
  case ha => (simp only [Act.put, List.setIfInBounds_toArray, List.set_cons_zero, List.set_cons_succ]; rfl)
  apply WZ.take (i := 6) (some 2) rfl rfl (by kernel_rfl) (by kernel_rfl) (by kernel_rfl) (calm_panic _) (by kernel_rfl)
  case hy => (refine .inl ⟨by kernel_rfl, fun W hC => ?_⟩; (try dsimp only at hC); go_simp; rfl)
  case hC => exact HC
  case ha => (simp only [Act.put, List.setIfInBounds_toArray, List.set_cons_zero, List.set_cons_succ]; rfl)
  apply WZ.take (i := 7) (some 3) rfl rfl (by kernel_rfl) (by kernel_rfl) (by kernel_rfl) (calm_panic _) (by kernel_rfl)
  case hy => (refine .inl ⟨by kernel_rfl, fun W hC => ?_⟩; (try dsimp only at hC); go_simp; rfl)
  case hC => exact HC
  case ha => (simp only [Act.put, List.setIfInBounds_toArray, List.set_cons_zero, List.set_cons_succ]; rfl)
  apply WZ.take (i := 8) (some 4) rfl rfl (by kernel_rfl) (by kernel_rfl) (by kernel_rfl) (calm_panic _) (by kernel_rfl)
  case hy => (refine .inl ⟨by kernel_rfl, fun W hC => ?_⟩; (try dsimp only at hC); go_simp; rfl)
  case hC => exact HC
  case ha => (simp only [Act.put, List.setIfInBounds_toArray, List.set_cons_zero, List.set_cons_succ]; rfl)
  refine WZ.done (by kernel_rfl) ?_ _
  simp only [Calm, Exit.then]
  go_wp2
  go_ret3
  exact ⟨by rw [HT.out]; rfl, hb1.drew⟩
theorem numL_drop {l : List UInt8} {i : Nat} (h : i < l.length) : numL (l.drop i) = l[i].toNat + 256 * numL (l.drop (i + 1)) := by
  rw [List.drop_eq_getElem_cons h, numL]
set_option maxRecDepth 20000 in
set_option maxHeartbeats 2000000 in
theorem refNum_any (s : ByteArray) (w : World) (h8 : 8 ≤ s.size) (hs : s.size ≤ 1000000) :
    Calls Try.prog 56 #[.string s] w fun e w' => e = .returned (.int .u64 (numL (s.data.toList.take 8) : Nat)) ∧ w = w' := by
  obtain ⟨xs, hxs⟩ : ∃ xs, s.data.toList.take 8 = xs := ⟨_, rfl⟩
  have hx8 : xs.length = 8 := by rw [← hxs, List.length_take]; exact Nat.min_eq_left h8
  have hget : ∀ i (h : i < 8), ∃ h' : i < s.size, s[i]'h' = xs[i] := fun i h => by
    refine ⟨by omega, ?_⟩
    subst hxs
    rw [List.getElem_take]
    rfl
  have HG := Lib.hid hget
  have HX := Lib.hid hx8
  rw [hxs]
  have H0 := Lib.hid (show numL (xs.drop 8) = 0 by rw [List.drop_eq_nil_of_le (by omega)]; rfl)
  clear hxs hget
  go_enter Try.func56, Try.ntmps56
  go_wp2
  go_loopw [3, 4] (fun v3 v4 wr => ∃ (j N : Nat), v4 = .int .i64 ((j : Int) - 1) ∧ v3 = .int .u64 (N : Nat) ∧ j ≤ 8 ∧ Hid (N = numL (xs.drop j)) ∧ wr = w) (fun _ v4 _ => (intOf v4 + 1).toNat)
  case atStart => exact ⟨8, 0, rfl, rfl, by omega, Lib.hid H0.out.symm, rfl⟩
  case round =>
    obtain ⟨j, N, rfl, rfl, hj, HN, rfl⟩ := hrel
    cases j with
    | zero =>
      go_wp2
      go_ret
      exact ⟨by rw [show numL xs = N from HN.out.symm]; rfl, rfl⟩
    | succ i =>
      have hi : ((i + 1 : Nat) : Int) - 1 = (i : Int) := by omega
      rw [hi]
      obtain ⟨hlt, hgt⟩ := HG.out i (by omega)
      have hb := xs[i].toNat_lt
      have HST := Lib.hid (numL_drop (l := xs) (i := i) (by rw [HX.out]; omega))
      have hle := numL_lt (xs.drop (i + 1))
      have hle2 : (xs.drop (i + 1)).length ≤ 7 := by rw [List.length_drop, HX.out]; omega
      have hN7 : N < 72057594037927936 := by
        rw [HN.out]
        exact Nat.lt_of_lt_of_le hle (Nat.le_trans (Nat.pow_le_pow_right (by omega) hle2) (by decide))
      have e1 : decide ((0 : Int) ≤ (i : Int)) = true := decide_eq_true (by omega)
      have k1 : (0 : Int) ≤ (i : Int) := by omega
      have k2 : (i : Int) < (s.size : Int) := by omega
      clear hle hle2
      go_wp2
      exact ⟨⟨i, N * 256 + xs[i].toNat, rfl, by first | rfl | go_num, by omega, Lib.hid (by rw [HST.out, ← HN.out]; omega), trivial⟩, by simp only [intOf]; omega⟩
end Go.Proofs.Ytaeemeoffnhgfaa

namespace Go.Proofs.Ytaeemeoffnhgfaa
open Go.RowKit

def rr1 (s : ByteArray) : ByteArray := (firstR s).2
def rr2 (s : ByteArray) : ByteArray := (takenR (rr1 s)).2.1
def rr3 (s : ByteArray) : ByteArray := (takenR (rr2 s)).2.1
def rr4 (s : ByteArray) : ByteArray := (takenR (rr3 s)).2.1
def okF (s : ByteArray) : Bool := (takenR (rr1 s)).2.2 && (takenR (rr2 s)).2.2 && (takenR (rr3 s)).2.2 && decide (2 ≤ (rr4 s).size)
def fileR (s : ByteArray) : Option (Fi × ByteArray) := if okF s then some (⟨(firstR s).1, (takenR (rr1 s)).1, (takenR (rr2 s)).1, (takenR (rr3 s)).1, (numL ((rr4 s).data.toList.take 2) : Nat)⟩, (rr4 s).extract 2 (rr4 s).size) else none
def filesR : Nat → ByteArray → Option (List Fi × ByteArray)
  | 0, s => some ([], s)
  | k + 1, s => match filesR k s with | none => none | some (L, r) => match fileR r with | none => none | some (x, q) => some (L ++ [x], q)
def delsR : Nat → ByteArray → Option (List ByteArray × ByteArray)
  | 0, s => some ([], s)
  | k + 1, s => match delsR k s with | none => none | some (L, r) => if (takenR r).2.2 then some (L ++ [(takenR r).1], (takenR r).2.1) else none
def decR (t : ByteArray) : Ans :=
  if t.size < 16 then noAns else
  match filesR (firstR (t.extract 16 t.size)).1.toNat (firstR (t.extract 16 t.size)).2 with
  | none => noAns
  | some (F, r) => match delsR (firstR r).1.toNat (firstR r).2 with
    | none => noAns
    | some (G, _) => if encE (numL (t.data.toList.take 8)) (numL ((t.extract 8 t.size).data.toList.take 8)) F G = (t, 0) then ⟨numL (t.data.toList.take 8), numL ((t.extract 8 t.size).data.toList.take 8), F, G, 0⟩ else noAns
theorem fileR_eq {s s1 s2 s3 s4 nm lo hi : ByteArray} {z : Int} {a b c : Bool} (h1 : firstR s = (z, s1)) (h2 : takenR s1 = (nm, s2, a)) (h3 : takenR s2 = (lo, s3, b)) (h4 : takenR s3 = (hi, s4, c)) :
    fileR s = if (a && b && c && decide (2 ≤ s4.size)) = true then some (⟨z, nm, lo, hi, (numL (s4.data.toList.take 2) : Nat)⟩, s4.extract 2 s4.size) else none := by
  have e1 : rr1 s = s1 := by unfold rr1; rw [h1]
  have e2 : rr2 s = s2 := by unfold rr2; rw [e1, h2]
  have e3 : rr3 s = s3 := by unfold rr3; rw [e2, h3]
  have e4 : rr4 s = s4 := by unfold rr4; rw [e3, h4]
  unfold fileR okF
  rw [e1, e2, e3, e4, h1, h2, h3, h4]
theorem filesR_next {k : Nat} {s r q : ByteArray} {L : List Fi} {x : Fi} (h : filesR k s = some (L, r)) (h' : fileR r = some (x, q)) : filesR (k + 1) s = some (L ++ [x], q) := by
  rw [filesR, h]
  simp only [h']
theorem filesR_stop {k n : Nat} {s : ByteArray} (h : filesR k s = none) (hn : k ≤ n) : filesR n s = none := by
  induction n with
  | zero => obtain rfl : k = 0 := by omega
            exact h
  | succ n ih =>
    by_cases e : k = n + 1
    · rw [← e]; exact h
    · rw [filesR, ih (by omega)]
theorem filesR_bad {k n : Nat} {s r : ByteArray} {L : List Fi} (h : filesR k s = some (L, r)) (h' : fileR r = none) (hn : k < n) : filesR n s = none :=
  filesR_stop (k := k + 1) (by rw [filesR, h]; simp only [h']) hn
theorem delsR_next {k : Nat} {s r q x : ByteArray} {L : List ByteArray} (h : delsR k s = some (L, r)) (h' : takenR r = (x, q, true)) : delsR (k + 1) s = some (L ++ [x], q) := by
  rw [delsR, h]
  simp only [h', if_true]
theorem delsR_stop {k n : Nat} {s : ByteArray} (h : delsR k s = none) (hn : k ≤ n) : delsR n s = none := by
  induction n with
  | zero => obtain rfl : k = 0 := by omega
            exact h
  | succ n ih =>
    by_cases e : k = n + 1
    · rw [← e]; exact h
    · rw [delsR, ih (by omega)]
theorem delsR_bad {k n : Nat} {s r q x : ByteArray} {L : List ByteArray} (h : delsR k s = some (L, r)) (h' : takenR r = (x, q, false)) (hn : k < n) : delsR n s = none :=
  delsR_stop (k := k + 1) (by rw [delsR, h]; simp only [h', Bool.false_eq_true, if_false]) hn
theorem decR_short {t : ByteArray} (h : t.size < 16) : decR t = noAns := by unfold decR; rw [if_pos h]
theorem decR_files {t s : ByteArray} {z : Int} (h : ¬ t.size < 16) (hf : firstR (t.extract 16 t.size) = (z, s)) (hn : filesR z.toNat s = none) : decR t = noAns := by
  unfold decR
  rw [if_neg h, hf]
  simp only [hn]
theorem decR_dels {t s r q : ByteArray} {z y : Int} {F : List Fi} (h : ¬ t.size < 16) (hf : firstR (t.extract 16 t.size) = (z, s)) (hn : filesR z.toNat s = some (F, r)) (hg : firstR r = (y, q)) (hd : delsR y.toNat q = none) : decR t = noAns := by
  unfold decR
  rw [if_neg h, hf]
  simp only [hn, hg, hd]
theorem decR_all {t s r q u S : ByteArray} {z y E : Int} {F : List Fi} {G : List ByteArray} {nx fl : Nat} (h : ¬ t.size < 16) (hf : firstR (t.extract 16 t.size) = (z, s)) (hn : filesR z.toNat s = some (F, r)) (hg : firstR r = (y, q)) (hd : delsR y.toNat q = some (G, u))
    (h1 : numL (t.data.toList.take 8) = nx) (h2 : numL ((t.extract 8 t.size).data.toList.take 8) = fl) (he : encE nx fl F G = (S, E)) : (E = 0 ∧ S = t → decR t = ⟨nx, fl, F, G, 0⟩) ∧ (E ≠ 0 ∨ S ≠ t → decR t = noAns) := by
  have e : decR t = if (S, E) = (t, 0) then ⟨nx, fl, F, G, 0⟩ else noAns := by
    unfold decR
    rw [if_neg h, hf]
    simp only [hn, hg, hd, h1, h2, he]
  rw [e]
  constructor
  · rintro ⟨rfl, rfl⟩
    rw [if_pos rfl]
  · intro h
    rw [if_neg]
    rintro h3
    injection h3 with h3 h4
    rcases h with h | h
    · exact h h4
    · exact h h3
theorem takenR_size (s : ByteArray) : (takenR s).2.1.size ≤ s.size := by
  unfold takenR
  split
  · exact Nat.zero_le _
  · have := (firstR_size s).1
    simp only [ByteArray.size_extract]
    omega
theorem fileR_size {s q : ByteArray} {x : Fi} (h : fileR s = some (x, q)) : q.size ≤ s.size := by
  unfold fileR at h
  split at h
  · injection h with h
    injection h with _ h
    rw [← h]
    have h1 : (rr1 s).size ≤ s.size := (firstR_size s).1
    have h2 : (rr2 s).size ≤ (rr1 s).size := by unfold rr2; exact takenR_size _
    have h3 : (rr3 s).size ≤ (rr2 s).size := by unfold rr3; exact takenR_size _
    have h4 : (rr4 s).size ≤ (rr3 s).size := by unfold rr4; exact takenR_size _
    simp only [ByteArray.size_extract]
    omega
  · cases h

/-- behind some files -/
structure DecR (w W : World) (ge : Nat) (A : Option Addr) (n c nx fl : Nat) (add : List Fi) : Prop where
  bl : Below w.heap.size w W
  z : EBox 49 W w.heap.size none 0 0 none 0 0 0 0
  e : EBox 49 W ge A n c none 0 0 nx fl
  oa : OwnR W (ge + 1) A n c add
  lt : w.heap.size < ge
section
variable {w W W' : World} {ge n c nx fl g : Nat} {A : Option Addr} {add : List Fi}
theorem DecR.below (h : DecR w W ge A n c nx fl add) (hb : Below W.heap.size W W') : DecR w W' ge A n c nx fl add :=
  ⟨h.bl.trans (hb.mono h.bl.size), h.z.below hb h.z.lt, h.e.below hb h.e.lt, Own.below h.oa hb, h.lt⟩
theorem DecR.far (h : DecR w W ge A n c nx fl add) (hg : W.grownBy W' (some g)) (hlt : ge < g ∧ blk A ≠ some g) : DecR w W' ge A n c nx fl add :=
  ⟨below_grown h.bl h.bl.size hg (by have := h.lt; omega), h.z.grown hg (fun e => by injection e with e; have := h.lt; omega), h.e.grown hg (fun e => by injection e with e; omega), Own.grown h.oa hg (.inr hlt.2), h.lt⟩
theorem DecR.new (h : DecR w W ge A n c nx fl add) : ge < W.heap.size ∧ blk A ≠ some W.heap.size := ⟨h.e.lt, fun e => by have := (Own.lt h.oa _ e).2; omega⟩
theorem DecR.put (h : DecR w W ge A n c nx fl add) {A' : Option Addr} {n' c' : Nat} {add' : List Fi} (ho : OwnR W' (ge + 1) A' n' c' add') (hg : W.grownBy W' (blk A)) : DecR w (W'.setCell ⟨ge, 0, none⟩ (.slice A' n' c')) ge A' n' c' nx fl add' := by
  have hlt := h.lt
  have hb : Below w.heap.size w W' := h.bl.grown hg h.bl.size (fun k hk => by have := (Own.lt h.oa k hk).1; omega)
  have hz : EBox 49 W' w.heap.size none 0 0 none 0 0 0 0 := h.z.grown hg (own_off h.oa (by omega))
  have he : EBox 49 W' ge A n c none 0 0 nx fl := h.e.grown hg (own_off h.oa (by omega))
  exact ⟨below_grown hb hb.size (grown_set _ _ _ _) (by omega), hz.grown (grown_set _ _ _ _) (fun e => by injection e; omega), he.set0 _ _ _, Own.setCell ho (own_off ho (show ge < ge + 1 by omega)) _, hlt⟩
end
/-- behind all files, and some texts -/
structure DecS (w W : World) (ge B2 : Nat) (A : Option Addr) (n c : Nat) (D : Option Addr) (m d nx fl : Nat) (add : List Fi) (del : List ByteArray) : Prop where
  bl : Below w.heap.size w W
  z : EBox 49 W w.heap.size none 0 0 none 0 0 0 0
  e : EBox 49 W ge A n c D m d nx fl
  oa : OwnR W (ge + 1) A n c add
  od : OwnS W B2 D m d del
  lt : w.heap.size < ge
  ha : ∀ k, blk A = some k → k < B2
  hB : ge < B2
  hs : B2 ≤ W.heap.size
theorem DecS.start {w W : World} {ge n c nx fl : Nat} {A : Option Addr} {add : List Fi} (h : DecR w W ge A n c nx fl add) : DecS w W ge W.heap.size A n c none 0 0 nx fl add [] :=
  ⟨h.bl, h.z, h.e, h.oa, Own.nil, h.lt, fun k hk => (Own.lt h.oa k hk).2, h.e.lt, Nat.le_refl _⟩
section
variable {w W W' : World} {ge B2 n c m d nx fl : Nat} {A D : Option Addr} {add : List Fi} {del : List ByteArray}
theorem DecS.below (h : DecS w W ge B2 A n c D m d nx fl add del) (hb : Below W.heap.size W W') : DecS w W' ge B2 A n c D m d nx fl add del :=
  ⟨h.bl.trans (hb.mono h.bl.size), h.z.below hb h.z.lt, h.e.below hb h.e.lt, Own.below h.oa hb, Own.below h.od hb, h.lt, h.ha, h.hB, Nat.le_trans h.hs hb.size⟩
theorem DecS.off (h : DecS w W ge B2 A n c D m d nx fl add del) : blk A = none ∨ blk A ≠ blk D := by
  cases hA : blk A with
  | none => exact .inl rfl
  | some k => exact .inr (fun e => by have h1 := h.ha k hA; have h2 := (Own.lt h.od k e.symm).1; omega)
theorem DecS.put (h : DecS w W ge B2 A n c D m d nx fl add del) {D' : Option Addr} {m' d' : Nat} {del' : List ByteArray} (ho : OwnS W' B2 D' m' d' del') (hg : W.grownBy W' (blk D)) : DecS w (W'.setCell ⟨ge, 1, none⟩ (.slice D' m' d')) ge B2 A n c D' m' d' nx fl add del' := by
  have hlt := h.lt
  have hB := h.hB
  have hb : Below w.heap.size w W' := h.bl.grown hg h.bl.size (fun k hk => by have := (Own.lt h.od k hk).1; omega)
  have hz : EBox 49 W' w.heap.size none 0 0 none 0 0 0 0 := h.z.grown hg (own_off h.od (by omega))
  have he : EBox 49 W' ge A n c D m d nx fl := h.e.grown hg (own_off h.od hB)
  have ha := Own.grown h.oa hg h.off
  exact ⟨below_grown hb hb.size (grown_set _ _ _ _) (by omega), hz.grown (grown_set _ _ _ _) (fun e => by injection e; omega), he.set1 _ _ _, Own.setCell ha (own_off h.oa (show ge < ge + 1 by omega)) _, Own.setCell ho (own_off ho hB) _, hlt, h.ha, hB, by have := hg.size; have := h.hs; simp [World.setCell]; omega⟩
end
section
variable {T : TypeId} {w : World} {g : Nat} {x : Fi}
theorem FBox.set0 (h : FBox T w g x) (z : Int) : FBox T (w.setCell ⟨g, 0, none⟩ (.int .i64 z)) g { x with level := z } := by
  unfold FBox at *
  exact heap_setCell_same w g 0 _ _ _ h
theorem FBox.set1 (h : FBox T w g x) (s : ByteArray) : FBox T (w.setCell ⟨g, 1, none⟩ (.string s)) g { x with name := s } := by
  unfold FBox at *
  exact heap_setCell_same w g 1 _ _ _ h
theorem FBox.set2 (h : FBox T w g x) (s : ByteArray) : FBox T (w.setCell ⟨g, 2, none⟩ (.string s)) g { x with low := s } := by
  unfold FBox at *
  exact heap_setCell_same w g 2 _ _ _ h
theorem FBox.set3 (h : FBox T w g x) (s : ByteArray) : FBox T (w.setCell ⟨g, 3, none⟩ (.string s)) g { x with high := s } := by
  unfold FBox at *
  exact heap_setCell_same w g 3 _ _ _ h
theorem FBox.free (h : FBox T w g x) (j : Nat) : w.frozen? ⟨g, j, none⟩ = false := frozen_of_row _ _ _ _ _ h
end
theorem num_two {s : ByteArray} (h : 2 ≤ s.size) : numL (s.data.toList.take 2) = (s[0]'(by omega)).toNat + 256 * (s[1]'(by omega)).toNat := by
  have hl : 2 ≤ s.data.toList.length := h
  match hd : s.data.toList, hl with
  | a :: b :: l, _ =>
    have h0 : s[0]'(by omega) = a := by
      have h1 : s.data[0]? = some a := by rw [← Array.getElem?_toList, hd]; rfl
      exact (Array.getElem?_eq_some_iff.1 h1).2
    have h1 : s[1]'(by omega) = b := by
      have h1 : s.data[1]? = some b := by rw [← Array.getElem?_toList, hd]; rfl
      exact (Array.getElem?_eq_some_iff.1 h1).2
    rw [h0, h1]
    simp [numL]
end Go.Proofs.Ytaeemeoffnhgfaa

namespace Go.Proofs.Ytaeemeoffnhgfaa
open Go.RowKit
attribute [local go_sem ↓] Go.wp_at_zero Go.wp_at_succ

theorem noAns_out {w W W' : World} {r : Ans} (hr : r = noAns) (hb : Below w.heap.size w W) (hg : W.grownBy W' (some w.heap.size)) : AnsOut w r (.returned (.tuple #[.agg #[.slice none 0 0, .slice none 0 0, .int .u64 (0 : Nat), .int .u64 (0 : Nat)], .int .i64 50])) W' := by
  subst hr
  exact ⟨none, none, 0, 0, 0, 0, rfl, Rd.nil, Rd.nil, rfl, rfl, below_grown hb hb.size hg (Nat.le_refl _)⟩
set_option maxRecDepth 100000 in
set_option maxHeartbeats 16000000 in
theorem refDecode_any (t : ByteArray) (w : World) (ht : t.size ≤ 100000) :
    Calls Try.prog 25 #[.string t] w (AnsOut w (decR t)) := by
  obtain ⟨W0, hW0⟩ : ∃ W0, w.alloc (.cells #[.slice none 0 0, .slice none 0 0, .int .u64 0, .int .u64 0] 49) = W0 := ⟨_, rfl⟩
  have hb0 := below_al w (.cells #[.slice none 0 0, .slice none 0 0, .int .u64 0, .int .u64 0] 49)
  have hz0 : EBox 49 (w.alloc (.cells #[.slice none 0 0, .slice none 0 0, .int .u64 0, .int .u64 0] 49)) w.heap.size none 0 0 none 0 0 0 0 := EBox.new 49 w none 0 0 none 0 0 0 0
  rw [hW0] at hb0 hz0
  have HB0 := Lib.hid hb0
  have HZ0 := Lib.hid hz0
  clear hb0 hz0
  by_cases h16 : t.size < 16
  · have HNO := Lib.hid (decR_short h16)
    have e1 : decide ((t.size : Int) < 16) = true := decide_eq_true (by omega)
    have HBL := HB0.out
    go_enter Try.func25, Try.ntmps25
    go_wp2_with (show wpList _ _ _ ({ dst := none, op := Op.store _ (Operand.tmp 2) _, type := _, pos := _, after := _, guard := _ } :: _) _ _; refine wpList_store_mid rfl 49 (.tmp 2) (.tmp 22) rfl w.heap.size 0 (edN none 0 0 none 0 0 0 0) rfl rfl HZ0.out.there (by kernel_rfl) (edN_one _ _ _ _ _ _ _ _) ?_; refine HZ0.out.setW none 0 0 none 0 0 0 0 ?_; intro w18 HZ18 HG18)
    (try simp only [Exit.inBlock, Exit.then])
    exact bodyPost_ret (ed_resultsR rfl _ _ _ none 0 0 none 0 0 0 0 _ rfl rfl HZ18.out) rfl (noAns_out HNO.out HBL HG18.out)
  have e1 : decide ((t.size : Int) < 16) = false := decide_eq_false (by omega)
  obtain ⟨nx, hnx⟩ : ∃ nx, numL (t.data.toList.take 8) = nx := ⟨_, rfl⟩
  obtain ⟨fl, hfl⟩ : ∃ fl, numL ((t.extract 8 t.size).data.toList.take 8) = fl := ⟨_, rfl⟩
  have hnl : nx < 18446744073709551616 := by
    rw [← hnx]
    refine Nat.lt_of_lt_of_le (numL_lt _) (Nat.le_trans (Nat.pow_le_pow_right (by omega) (?_ : _ ≤ 8)) (by decide))
    rw [List.length_take]; exact Nat.min_le_left _ _
  have hfl' : fl < 18446744073709551616 := by
    rw [← hfl]
    refine Nat.lt_of_lt_of_le (numL_lt _) (Nat.le_trans (Nat.pow_le_pow_right (by omega) (?_ : _ ≤ 8)) (by decide))
    rw [List.length_take]; exact Nat.min_le_left _ _
  have hx8 : (t.extract 8 t.size).size = t.size - 8 := by simp [ByteArray.size_extract]
  have HNX := Lib.hid (fun W => by have := refNum_any t W (by omega) (by omega); rw [hnx] at this; exact this)
  have HFL := Lib.hid (fun W => by have := refNum_any (t.extract 8 t.size) W (by omega) (by omega); rw [hfl] at this; exact this)
  have HNE := Lib.hid (And.intro hnx hfl)
  have hx16 : (t.extract 16 t.size).size ≤ 100000 := by simp only [ByteArray.size_extract]; omega
  have hsz0 := firstR_size (t.extract 16 t.size)
  have C9 := fun W => first_any (t.extract 16 t.size) W (by omega)
  obtain ⟨⟨z, s0⟩, hfi⟩ : ∃ p, firstR (t.extract 16 t.size) = p := ⟨_, rfl⟩
  rw [hfi] at hsz0
  simp only [hfi] at C9
  have HC9 := Lib.hid C9
  have HFI := Lib.hid hfi
  have hs0 : s0.size ≤ 100000 := Nat.le_trans hsz0.1 hx16
  have hz : z < 256 := hsz0.2
  have HST := Lib.hid (fun (w3 : World) (he : EBox 49 w3 W0.drew.heap.size none 0 0 none 0 0 nx fl) (hb : Below W0.drew.heap.size W0.drew w3) => (show DecR w w3 W0.heap.size none 0 0 nx fl [] from
    ⟨HB0.out.trans ((below_of_drew' hb).mono HB0.out.size), HZ0.out.below (below_of_drew' hb) HZ0.out.lt, he, Own.nil, HZ0.out.lt⟩))
  have k8 : (8 : Int) ≤ (t.size : Int) := by omega
  have k16 : (16 : Int) ≤ (t.size : Int) := by omega
  have HC : True := trivial
  clear hnx hfl hx8 C9 hfi hsz0 hx16
  go_enter Try.func25, Try.ntmps25
  go_upto_region 3 with fail
  go_cut [4] (fun s4 wx => ∃ ge : Nat, s4 = .pointer (some ⟨ge, 0, none⟩) ∧ Hid (DecR w wx ge none 0 0 nx fl []))
  case first =>
    refine region_wz (fun _ => True) none (by kernel_rfl) ?_
    apply WZ.take (i := 0) (some 23) rfl rfl (by kernel_rfl) (by kernel_rfl) (by kernel_rfl) (calm_panic _) (by kernel_rfl)
    case hy => (refine .inl ⟨by kernel_rfl, fun W hC => ?_⟩; (try dsimp only at hC); go_simp; rfl)
    case hC => exact HC
    case ha => (simp only [Act.put, List.setIfInBounds_toArray, List.set_cons_zero, List.set_cons_succ]; rfl)
    apply WZ.take (i := 2) (some 25) rfl rfl (by kernel_rfl) (by kernel_rfl) (by kernel_rfl) (calm_panic _) (by kernel_rfl)
    case hy => (refine .inl ⟨by kernel_rfl, fun W hC => ?_⟩; (try dsimp only at hC); go_simp; rfl)
    case hC => exact HC
    case ha => (simp only [Act.put, List.setIfInBounds_toArray, List.set_cons_zero, List.set_cons_succ]; rfl)
    apply WZ.take (i := 3) (some 26) rfl rfl (by kernel_rfl) (by kernel_rfl) (by kernel_rfl) (calm_panic _) (by kernel_rfl)
    case hy => (refine .inl ⟨by kernel_rfl, fun W hC => ?_⟩; (try dsimp only at hC); go_simp; rfl)
    case hC => exact HC
    case ha => (simp only [Act.put, List.setIfInBounds_toArray, List.set_cons_zero, List.set_cons_succ]; rfl)
    refine WZ.two (i := 1) (j := 6) rfl rfl (by kernel_rfl) ?_ ?_
    · conv => arg 4; arg 1; whnf
      go_wp2_with (go_at_call 56; refine (HNX.out _).mono ?_; rintro e w1 ⟨rfl, rfl⟩)
      refine ⟨HC, ?_⟩
      refine WZ.two (i := 4) (j := 6) rfl rfl (by kernel_rfl) ?_ ?_
      · conv => arg 4; arg 1; whnf
        go_wp2_with (go_at_call 56; refine (HFL.out _).mono ?_; rintro e w1 ⟨rfl, rfl⟩)
        refine ⟨HC, ?_⟩
        apply WZ.take (i := 5) (some 28) rfl rfl (by kernel_rfl) (by kernel_rfl) (by kernel_rfl) (calm_panic _) (by kernel_rfl)
        case hy => (refine .inl ⟨by kernel_rfl, fun W hC => ?_⟩; (try dsimp only at hC); go_simp; rfl)
        case hC => exact HC
        case ha => (simp only [Act.put, List.setIfInBounds_toArray, List.set_cons_zero, List.set_cons_succ]; rfl)
        -- 6
        refine WZ.one (i := 6) rfl (by kernel_rfl) ?_
        conv => arg 4; arg 1; whnf
        go_wp2_with fail
        refine ⟨HC, ?_⟩
        -- 7
        refine WZ.one (i := 7) rfl (by kernel_rfl) ?_
        conv => arg 4; arg 1; whnf
        go_wp2_with (show wpList _ _ _ ({ dst := none, op := Op.store _ (Operand.tmp 4) _, type := _, pos := _, after := _, guard := _ } :: _) _ _; refine wpList_store_mid rfl 49 (.tmp 4) (.tmp 28) rfl W0.heap.size 0 (edN none 0 0 none 0 0 nx fl) rfl rfl (there_made4 _ W0.drew _ _ _ _) (by kernel_rfl) (edN_one _ _ _ _ _ _ _ _) ?_; refine EBox.madeW 49 W0.drew _ _ _ _ none 0 0 none 0 0 nx fl ?_; intro w3 HE3 HB3)
        refine ⟨HC, ?_⟩
        refine WZ.done (by kernel_rfl) ?_ _
        simp only [Calm, Exit.then]
        go_wp2_with fail
        go_meet
        exact ⟨W0.heap.size, rfl, Lib.hid (HST.out w3 HE3.out HB3.out)⟩
      · conv => arg 4; arg 1; whnf
        go_wp2_with fail
        refine ⟨HC, ?_⟩
        -- 4
        refine WZ.one (i := 4) rfl (by kernel_rfl) ?_
        conv => arg 4; arg 1; whnf
        go_wp2_with (go_at_call 56; refine (HFL.out _).mono ?_; rintro e w1 ⟨rfl, rfl⟩)
        refine ⟨HC, ?_⟩
        apply WZ.take (i := 5) (some 28) rfl rfl (by kernel_rfl) (by kernel_rfl) (by kernel_rfl) (calm_panic _) (by kernel_rfl)
        case hy => (refine .inl ⟨by kernel_rfl, fun W hC => ?_⟩; (try dsimp only at hC); go_simp; rfl)
        case hC => exact HC
        case ha => (simp only [Act.put, List.setIfInBounds_toArray, List.set_cons_zero, List.set_cons_succ]; rfl)
        -- 7
        refine WZ.one (i := 7) rfl (by kernel_rfl) ?_
        conv => arg 4; arg 1; whnf
        go_wp2_with (show wpList _ _ _ ({ dst := none, op := Op.store _ (Operand.tmp 4) _, type := _, pos := _, after := _, guard := _ } :: _) _ _; refine wpList_store_mid rfl 49 (.tmp 4) (.tmp 28) rfl W0.heap.size 0 (edN none 0 0 none 0 0 nx fl) rfl rfl (there_made4 _ W0.drew _ _ _ _) (by kernel_rfl) (edN_one _ _ _ _ _ _ _ _) ?_; refine EBox.madeW 49 W0.drew _ _ _ _ none 0 0 none 0 0 nx fl ?_; intro w3 HE3 HB3)
        refine ⟨HC, ?_⟩
        refine WZ.done (by kernel_rfl) ?_ _
        simp only [Calm, Exit.then]
        go_wp2_with fail
        go_meet
        exact ⟨W0.heap.size, rfl, Lib.hid (HST.out w3 HE3.out HB3.out)⟩
    · conv => arg 4; arg 1; whnf
      go_wp2_with fail
      refine ⟨HC, ?_⟩
      -- 1
      refine WZ.one (i := 1) rfl (by kernel_rfl) ?_
      conv => arg 4; arg 1; whnf
      go_wp2_with (go_at_call 56; refine (HNX.out _).mono ?_; rintro e w1 ⟨rfl, rfl⟩)
      refine ⟨HC, ?_⟩
      -- 4
      refine WZ.one (i := 4) rfl (by kernel_rfl) ?_
      conv => arg 4; arg 1; whnf
      go_wp2_with (go_at_call 56; refine (HFL.out _).mono ?_; rintro e w1 ⟨rfl, rfl⟩)
      refine ⟨HC, ?_⟩
      apply WZ.take (i := 5) (some 28) rfl rfl (by kernel_rfl) (by kernel_rfl) (by kernel_rfl) (calm_panic _) (by kernel_rfl)
      case hy => (refine .inl ⟨by kernel_rfl, fun W hC => ?_⟩; (try dsimp only at hC); go_simp; rfl)
      case hC => exact HC
      case ha => (simp only [Act.put, List.setIfInBounds_toArray, List.set_cons_zero, List.set_cons_succ]; rfl)
      -- 7
      refine WZ.one (i := 7) rfl (by kernel_rfl) ?_
      conv => arg 4; arg 1; whnf
      go_wp2_with (show wpList _ _ _ ({ dst := none, op := Op.store _ (Operand.tmp 4) _, type := _, pos := _, after := _, guard := _ } :: _) _ _; refine wpList_store_mid rfl 49 (.tmp 4) (.tmp 28) rfl W0.heap.size 0 (edN none 0 0 none 0 0 nx fl) rfl rfl (there_made4 _ W0.drew _ _ _ _) (by kernel_rfl) (edN_one _ _ _ _ _ _ _ _) ?_; refine EBox.madeW 49 W0.drew _ _ _ _ none 0 0 none 0 0 nx fl ?_; intro w3 HE3 HB3)
      refine ⟨HC, ?_⟩
      refine WZ.done (by kernel_rfl) ?_ _
      simp only [Calm, Exit.then]
      go_wp2_with fail
      go_meet
      exact ⟨W0.heap.size, rfl, Lib.hid (HST.out w3 HE3.out HB3.out)⟩
  case rest =>
    obtain ⟨ge, rfl, HD0⟩ := hcut
    rename World => w3
    clear HST HNX HFL
    go_wp2_with (go_at_call 57; refine (HC9.out _).mono ?_; rintro e w4 ⟨rfl, hb4⟩; have HD4 := Lib.hid (HD0.out.below hb4); clear hb4)
    clear k8 k16 e1
    go_loopw [6, 7] (fun v6 v7 wr => ∃ (k c : Nat) (A : Option Addr) (L : List Fi) (s : ByteArray), v6 = .string s ∧ v7 = .int .i64 (k : Int) ∧ k ≤ z.toNat ∧ s.size ≤ 100000 ∧ Hid (filesR k s0 = some (L, s)) ∧ Hid (L.length = k) ∧ Hid (DecR w wr ge A k c nx fl L)) (fun _ v7 _ => z.toNat - (intOf v7).toNat)
    case atStart => exact ⟨0, 0, none, [], s0, rfl, rfl, Nat.zero_le _, hs0, Lib.hid rfl, Lib.hid rfl, HD4⟩
    case round =>
      clear HD4 HD0 HZ0 HB0 hW0
      obtain ⟨k, c, A, L, s, rfl, rfl, hk, hs, HFK, HLK, HD⟩ := hrel
      rename World => wr
      by_cases hlt : (k : Int) < z
      · have e1 : decide ((k : Int) < z) = true := decide_eq_true hlt
        have hw3 : IntKind.i64.wrap ((k : Int) + 1) = ((k + 1 : Nat) : Int) := by rw [IntWalk.i64_in _ (by omega)]; omega
        have y1 := firstR_size s
        have C0 := fun W => first_any s W (by omega)
        obtain ⟨⟨lv, s1⟩, h1⟩ : ∃ p, firstR s = p := ⟨_, rfl⟩
        rw [h1] at y1
        simp only [h1] at C0
        have z1 : s1.size ≤ 100000 := Nat.le_trans y1.1 hs
        have y2 := takenR_size s1
        have C1 := fun W => taken_any s1 W (by omega)
        obtain ⟨⟨nm, s2, a⟩, h2⟩ : ∃ p, takenR s1 = p := ⟨_, rfl⟩
        rw [h2] at y2
        simp only [h2] at C1
        have z2 : s2.size ≤ 100000 := Nat.le_trans y2 z1
        have y3 := takenR_size s2
        have C2 := fun W => taken_any s2 W (by omega)
        obtain ⟨⟨lo, s3, b⟩, h3⟩ : ∃ p, takenR s2 = p := ⟨_, rfl⟩
        rw [h3] at y3
        simp only [h3] at C2
        have z3 : s3.size ≤ 100000 := Nat.le_trans y3 z2
        have y4 := takenR_size s3
        have C3 := fun W => taken_any s3 W (by omega)
        obtain ⟨⟨hi, s4, cc⟩, h4⟩ : ∃ p, takenR s3 = p := ⟨_, rfl⟩
        rw [h4] at y4
        simp only [h4] at C3
        have z4 : s4.size ≤ 100000 := Nat.le_trans y4 z3
        have C0 := Lib.hid C0
        have C1 := Lib.hid C1
        have C2 := Lib.hid C2
        have C3 := Lib.hid C3
        have HFE := Lib.hid (fileR_eq h1 h2 h3 h4)
        have HLT := Lib.hid HD.out.new
        have HBADF := Lib.hid (fun (h : fileR s = none) => decR_files h16 HFI.out (filesR_bad HFK.out h (show k < z.toNat by omega)))
        clear h1 h2 h3 h4 y1 y2 y3 y4 z1 z2 z3
        go_upto_region 14 with (first
          | (go_at_call 58; have hq := D3.out; refine (C3.out _).mono ?_; rintro e v3 ⟨rfl, hb⟩; have hd := hq.below hb; clear hq; have hf := F3.out.below' hb; have c3 := hf.cells.2.2.2.1; have f3 := hf.free 3; obtain ⟨W4, hW4⟩ : ∃ W, v3.setCell ⟨wr.heap.size, 3, none⟩ (.string hi) = W := ⟨_, rfl⟩; have hf' := hf.set3 hi; have hg' := grown_set v3 wr.heap.size 3 (.string hi); rw [hW4] at hf' hg'; have F4 := Lib.hid (show FBox 76 W4 wr.heap.size (Fi.mk lv nm lo hi 0) from hf'); have D4 := Lib.hid (hd.far hg' HLT.out); clear hb hd hf hf' hg')
          | (go_at_call 58; have hq := D2.out; refine (C2.out _).mono ?_; rintro e v2 ⟨rfl, hb⟩; have hd := hq.below hb; clear hq; have hf := F2.out.below' hb; have c2 := hf.cells.2.2.1; have f2 := hf.free 2; obtain ⟨W3, hW3⟩ : ∃ W, v2.setCell ⟨wr.heap.size, 2, none⟩ (.string lo) = W := ⟨_, rfl⟩; have hf' := hf.set2 lo; have hg' := grown_set v2 wr.heap.size 2 (.string lo); rw [hW3] at hf' hg'; have F3 := Lib.hid (show FBox 76 W3 wr.heap.size (Fi.mk lv nm lo ⟨#[]⟩ 0) from hf'); have D3 := Lib.hid (hd.far hg' HLT.out); clear hb hd hf hf' hg')
          | (go_at_call 58; have hq := D1.out; refine (C1.out _).mono ?_; rintro e v1 ⟨rfl, hb⟩; have hd := hq.below hb; clear hq; have hf := F1.out.below' hb; have c1 := hf.cells.2.1; have f1 := hf.free 1; obtain ⟨W2, hW2⟩ : ∃ W, v1.setCell ⟨wr.heap.size, 1, none⟩ (.string nm) = W := ⟨_, rfl⟩; have hf' := hf.set1 nm; have hg' := grown_set v1 wr.heap.size 1 (.string nm); rw [hW2] at hf' hg'; have F2 := Lib.hid (show FBox 76 W2 wr.heap.size (Fi.mk lv nm ⟨#[]⟩ ⟨#[]⟩ 0) from hf'); have D2 := Lib.hid (hd.far hg' HLT.out); clear hb hd hf hf' hg')
          | (go_at_call 57; have hq := D0.out; refine (C0.out _).mono ?_; rintro e v0 ⟨rfl, hb⟩; have hd := hq.below hb; clear hq; have hf := F0.out.below' hb; have c0 := hf.cells.1; have f0 := hf.free 0; obtain ⟨W1, hW1⟩ : ∃ W, v0.setCell ⟨wr.heap.size, 0, none⟩ (.int .i64 lv) = W := ⟨_, rfl⟩; have hf' := hf.set0 lv; have hg' := grown_set v0 wr.heap.size 0 (.int .i64 lv); rw [hW1] at hf' hg'; have F1 := Lib.hid (show FBox 76 W1 wr.heap.size (Fi.mk lv ⟨#[]⟩ ⟨#[]⟩ ⟨#[]⟩ 0) from hf'); have D1 := Lib.hid (hd.far hg' HLT.out); clear hb hd hf hf' hg')
          | (show wpList _ _ _ ({ dst := none, op := Op.store _ (Operand.tmp 8) _, type := _, pos := _, after := _, guard := _ } :: _) _ _; refine wpList_store_mid rfl 76 (.tmp 8) (.tmp 40) rfl wr.heap.size 0 (Fi.mk 0 ⟨#[]⟩ ⟨#[]⟩ ⟨#[]⟩ 0).vals.toArray rfl rfl (FBox.there_made _ _ _ _ _ _ _) (by kernel_rfl) (all_oneCell_toArray (Fi.one (Fi.mk 0 ⟨#[]⟩ ⟨#[]⟩ ⟨#[]⟩ 0))) ?_; refine FBox.madeW 76 wr _ _ _ _ _ (Fi.mk 0 ⟨#[]⟩ ⟨#[]⟩ ⟨#[]⟩ 0) ?_; intro w0 F0 HB0; have D0 := Lib.hid (HD.out.below HB0.out)))
        cases a with
        | false =>
          have HNO := Lib.hid (HBADF.out (by rw [HFE.out, if_neg (by simp)]))
          have HBL := D4.out.bl
          go_wp2_with (show wpList _ _ _ ({ dst := none, op := Op.store _ (Operand.tmp 2) _, type := _, pos := _, after := _, guard := _ } :: _) _ _; refine wpList_store_mid rfl 49 (.tmp 2) (.tmp 83) rfl w.heap.size 0 (edN none 0 0 none 0 0 0 0) rfl rfl D4.out.z.there (by kernel_rfl) (edN_one _ _ _ _ _ _ _ _) ?_; refine D4.out.z.setW none 0 0 none 0 0 0 0 ?_; intro w18 HZ18 HG18)
          (try simp only [Exit.inBlock, Exit.then])
          exact bodyPost_ret (ed_resultsR rfl _ _ _ none 0 0 none 0 0 0 0 _ rfl rfl HZ18.out) rfl (noAns_out HNO.out HBL HG18.out)
        | true =>
          cases b with
          | false =>
            have HNO := Lib.hid (HBADF.out (by rw [HFE.out, if_neg (by simp)]))
            have HBL := D4.out.bl
            go_wp2_with (show wpList _ _ _ ({ dst := none, op := Op.store _ (Operand.tmp 2) _, type := _, pos := _, after := _, guard := _ } :: _) _ _; refine wpList_store_mid rfl 49 (.tmp 2) (.tmp 83) rfl w.heap.size 0 (edN none 0 0 none 0 0 0 0) rfl rfl D4.out.z.there (by kernel_rfl) (edN_one _ _ _ _ _ _ _ _) ?_; refine D4.out.z.setW none 0 0 none 0 0 0 0 ?_; intro w18 HZ18 HG18)
            (try simp only [Exit.inBlock, Exit.then])
            exact bodyPost_ret (ed_resultsR rfl _ _ _ none 0 0 none 0 0 0 0 _ rfl rfl HZ18.out) rfl (noAns_out HNO.out HBL HG18.out)
          | true =>
            cases cc with
            | false =>
              have HNO := Lib.hid (HBADF.out (by rw [HFE.out, if_neg (by simp)]))
              have HBL := D4.out.bl
              go_wp2_with (show wpList _ _ _ ({ dst := none, op := Op.store _ (Operand.tmp 2) _, type := _, pos := _, after := _, guard := _ } :: _) _ _; refine wpList_store_mid rfl 49 (.tmp 2) (.tmp 83) rfl w.heap.size 0 (edN none 0 0 none 0 0 0 0) rfl rfl D4.out.z.there (by kernel_rfl) (edN_one _ _ _ _ _ _ _ _) ?_; refine D4.out.z.setW none 0 0 none 0 0 0 0 ?_; intro w18 HZ18 HG18)
              (try simp only [Exit.inBlock, Exit.then])
              exact bodyPost_ret (ed_resultsR rfl _ _ _ none 0 0 none 0 0 0 0 _ rfl rfl HZ18.out) rfl (noAns_out HNO.out HBL HG18.out)
            | true =>
              by_cases h2 : s4.size < 2
              · have e2 : decide ((s4.size : Int) < 2) = true := decide_eq_true (by omega)
                have HNO := Lib.hid (HBADF.out (by rw [HFE.out, if_neg (by simp; omega)]))
                have HBL := D4.out.bl
                go_wp2_with (show wpList _ _ _ ({ dst := none, op := Op.store _ (Operand.tmp 2) _, type := _, pos := _, after := _, guard := _ } :: _) _ _; refine wpList_store_mid rfl 49 (.tmp 2) (.tmp 83) rfl w.heap.size 0 (edN none 0 0 none 0 0 0 0) rfl rfl D4.out.z.there (by kernel_rfl) (edN_one _ _ _ _ _ _ _ _) ?_; refine D4.out.z.setW none 0 0 none 0 0 0 0 ?_; intro w18 HZ18 HG18)
                (try simp only [Exit.inBlock, Exit.then])
                exact bodyPost_ret (ed_resultsR rfl _ _ _ none 0 0 none 0 0 0 0 _ rfl rfl HZ18.out) rfl (noAns_out HNO.out HBL HG18.out)
              · have e2 : decide ((s4.size : Int) < 2) = false := decide_eq_false (by omega)
                have hfx := HFE.out
                rw [if_pos (by simp; omega)] at hfx
                have hnt := num_two (s := s4) (by omega)
                obtain ⟨mn, hmn⟩ : ∃ mn, numL (s4.data.toList.take 2) = mn := ⟨_, rfl⟩
                rw [hmn] at hfx hnt
                have HFX := Lib.hid (filesR_next HFK.out hfx)
                have HSQ := Lib.hid (fileR_size hfx)
                have j0 : (0 : Int) < (s4.size : Int) := by omega
                have j1 : (1 : Int) < (s4.size : Int) := by omega
                have j2 : (2 : Int) ≤ (s4.size : Int) := by omega
                have q0 := (s4[0]'(by omega)).toNat_lt
                have q1 := (s4[1]'(by omega)).toNat_lt
                have g0 : IntKind.i64.wrap ((s4[0]'(by omega)).toNat : Int) = ((s4[0]'(by omega)).toNat : Int) := i64_nat _ (by omega)
                have g1 : IntKind.i64.wrap ((s4[1]'(by omega)).toNat : Int) = ((s4[1]'(by omega)).toNat : Int) := i64_nat _ (by omega)
                have g2 : IntKind.i64.wrap (256 * ((s4[1]'(by omega)).toNat : Int)) = 256 * ((s4[1]'(by omega)).toNat : Int) := IntWalk.i64_in _ (by omega)
                have n0 : 0 < s4.size := by omega
                have n1 : 1 < s4.size := by omega
                have g3 : IntKind.i64.wrap (((s4[0]'(by omega)).toNat : Int) + 256 * ((s4[1]'(by omega)).toNat : Int)) = (mn : Int) := by rw [IntWalk.i64_in _ (by omega), hnt]; omega
                have HVE : Hid (((s4[0]'(by omega)).toNat : Int) + (256 : Int) * ((s4[1]'(by omega)).toNat : Int) = (mn : Int)) := Lib.hid (by rw [hnt]; omega)
                have c4 := F4.out.cells.2.2.2.2
                have f4 := F4.out.free 4
                clear hfx hnt hmn
                go_upto_region 16 with fail
                go_cut [] (fun wx => Hid (FBox 76 wx wr.heap.size (Fi.mk lv nm lo hi mn)) ∧ Hid (DecR w wx ge A k c nx fl L))
                case first =>
                  refine region_wz (fun _ => True) (some 9) (by kernel_rfl) ?_
                  apply WZ.take (i := 0) (some 84) rfl rfl (by kernel_rfl) (by kernel_rfl) (by kernel_rfl) (calm_panic _) (by kernel_rfl)
                  case hy => (refine .inl ⟨by kernel_rfl, fun W hC => ?_⟩; (try dsimp only at hC); go_simp; rfl)
                  case hC => exact HC
                  case ha => (simp only [Act.put, List.setIfInBounds_toArray, List.set_cons_zero, List.set_cons_succ]; rfl)
                  apply WZ.take (i := 1) (some 85) rfl rfl (by kernel_rfl) (by kernel_rfl) (by kernel_rfl) (calm_panic _) (by kernel_rfl)
                  case hy => (refine .inl ⟨by kernel_rfl, fun W hC => ?_⟩; (try dsimp only at hC); go_simp; rfl)
                  case hC => exact HC
                  case ha => (simp only [Act.put, List.setIfInBounds_toArray, List.set_cons_zero, List.set_cons_succ]; rfl)
                  apply WZ.take (i := 2) (some 86) rfl rfl (by kernel_rfl) (by kernel_rfl) (by kernel_rfl) (calm_panic _) (by kernel_rfl)
                  case hy => (refine .inl ⟨by kernel_rfl, fun W hC => ?_⟩; (try dsimp only at hC); go_simp; rfl)
                  case hC => exact HC
                  case ha => (simp only [Act.put, List.setIfInBounds_toArray, List.set_cons_zero, List.set_cons_succ]; rfl)
                  apply WZ.take (i := 3) (some 87) rfl rfl (by kernel_rfl) (by kernel_rfl) (by kernel_rfl) (calm_panic _) (by kernel_rfl)
                  case hy => (refine .inl ⟨by kernel_rfl, fun W hC => ?_⟩; (try dsimp only at hC); go_simp; rfl)
                  case hC => exact HC
                  case ha => (simp only [Act.put, List.setIfInBounds_toArray, List.set_cons_zero, List.set_cons_succ]; rfl)
                  apply WZ.take (i := 4) (some 88) rfl rfl (by kernel_rfl) (by kernel_rfl) (by kernel_rfl) (calm_panic _) (by kernel_rfl)
                  case hy => (refine .inl ⟨by kernel_rfl, fun W hC => ?_⟩; (try dsimp only at hC); go_simp; rfl)
                  case hC => exact HC
                  case ha => (simp only [Act.put, List.setIfInBounds_toArray, List.set_cons_zero, List.set_cons_succ]; rfl)
                  apply WZ.take (i := 5) (some 89) rfl rfl (by kernel_rfl) (by kernel_rfl) (by kernel_rfl) (calm_panic _) (by kernel_rfl)
                  case hy => (refine .inl ⟨by kernel_rfl, fun W hC => ?_⟩; (try dsimp only at hC); go_simp; rfl)
                  case hC => exact HC
                  case ha => (simp only [Act.put, List.setIfInBounds_toArray, List.set_cons_zero, List.set_cons_succ]; rfl)
                  apply WZ.take (i := 6) (some 90) rfl rfl (by kernel_rfl) (by kernel_rfl) (by kernel_rfl) (calm_panic _) (by kernel_rfl)
                  case hy => (refine .inl ⟨by kernel_rfl, fun W hC => ?_⟩; (try dsimp only at hC); go_simp; rfl)
                  case hC => exact HC
                  case ha => (simp only [Act.put, List.setIfInBounds_toArray, List.set_cons_zero, List.set_cons_succ]; rfl)
                  apply WZ.take (i := 7) (some 91) rfl rfl (by kernel_rfl) (by kernel_rfl) (by kernel_rfl) (calm_panic _) (by kernel_rfl)
                  case hy => (refine .inl ⟨by kernel_rfl, fun W hC => ?_⟩; (try dsimp only at hC); go_simp; rfl)
                  case hC => exact HC
                  case ha => (simp only [Act.put, List.setIfInBounds_toArray, List.set_cons_zero, List.set_cons_succ]; rfl)
                  apply WZ.take (i := 8) (some 92) rfl rfl (by kernel_rfl) (by kernel_rfl) (by kernel_rfl) (calm_panic _) (by kernel_rfl)
                  case hy => (refine .inl ⟨by kernel_rfl, fun W hC => ?_⟩; (try dsimp only at hC); go_simp; rfl)
                  case hC => exact HC
                  case ha => (simp only [Act.put, List.setIfInBounds_toArray, List.set_cons_zero, List.set_cons_succ]; rfl)
                  -- 9
                  refine WZ.last (i := 9) rfl (by kernel_rfl) (by kernel_rfl) ?_
                  conv => arg 4; arg 1; whnf
                  go_wp2
                  refine WZ.done (by kernel_rfl) ?_ _
                  simp only [Calm, Exit.then]
                  go_wp2_with fail
                  go_meet
                  exact ⟨Lib.hid (by rw [HVE.out]; exact F4.out.set4 mn), Lib.hid ((D4.out.below ((Below.refl _ _).drew)).far (grown_set _ _ _ _) HLT.out)⟩
                case rest =>
                  obtain ⟨HF5, HD5⟩ := hcut
                  rename World => W5
                  have c0 := HD5.out.e.cells.1
                  have hn6 : k ≤ 300 := by omega
                  go_wp2_with (first
                    | (show wpList _ _ _ ({ dst := some 97, op := Op.load _ _, type := _, pos := _, after := _, guard := _ } :: _) _ _; refine wpList_load_mid rfl 76 (.tmp 8) rfl wr.heap.size 0 rfl [.int .i64 lv, .string nm, .string lo, .string hi, .int .i64 mn] _ HF5.out.range Try.underlying76 rfl (by kernel_rfl) ?_)
                    | (at_builtin; go_loud (refine refs_app rfl _ _ rfl (ge + 1) A k c (k + 1) L [Fi.mk lv nm lo hi mn] rfl (OwnR.below HD5.out.oa (below_al _ _)) (some ⟨W5.heap.size, 0, none⟩) 1 1 rfl (rd_made (Fi.mk lv nm lo hi mn) rfl rfl) rfl rfl (by omega) (by rw [World.size_alloc]; have := HD5.out.e.lt; omega) ?_); intro A8 c8 w12 HO12 HG12; have HD12 := Lib.hid (DecR.put (HD5.out.below (below_al _ _)) HO12.out HG12.out); have he12 := (HD5.out.below (below_al W5 (.cells #[.int .i64 lv, .string nm, .string lo, .string hi, .int .i64 mn] 76))).e.grown HG12.out (own_off HD5.out.oa (Nat.lt_succ_self _)); have c12 := he12.cells.1; have f12 := he12.free 0; clear he12))
                  exact ⟨⟨k + 1, c8, A8, L ++ [Fi.mk lv nm lo hi mn], s4.extract 2 s4.size, rfl, by first | rfl | go_num, by omega, Nat.le_trans HSQ.out hs, HFX, Lib.hid (by rw [List.length_append, HLK.out]; rfl), HD12⟩, by simp [intOf]; omega⟩
      · have e1 : decide ((k : Int) < z) = false := decide_eq_false hlt
        have hkz : k = z.toNat := by omega
        have hfz := HFK.out
        rw [hkz] at hfz
        have HFZ := Lib.hid hfz
        have y1 := firstR_size s
        have C9 := fun W => first_any s W (by omega)
        obtain ⟨⟨y, q⟩, h1⟩ : ∃ p, firstR s = p := ⟨_, rfl⟩
        rw [h1] at y1
        simp only [h1] at C9
        have HC5 := Lib.hid C9
        have hq0 : q.size ≤ 100000 := Nat.le_trans y1.1 hs
        have hy : y < 256 := y1.2
        have H1 := Lib.hid h1
        have hk3 : k ≤ 300 := by omega
        clear hfz C9 h1 y1 hkz
        go_wp2_with (go_at_call 57; refine (HC5.out _).mono ?_; rintro e w5 ⟨rfl, hb5⟩; have HD5 := Lib.hid (HD.out.below hb5); clear hb5)
        have HS0 := Lib.hid (DecS.start HD5.out)
        go_loopw [6, 13] (fun v6 v13 wq => ∃ (j d : Nat) (D : Option Addr) (G : List ByteArray) (r : ByteArray), v6 = .string r ∧ v13 = .int .i64 (j : Int) ∧ j ≤ y.toNat ∧ r.size ≤ 100000 ∧ Hid (delsR j q = some (G, r)) ∧ Hid (G.length = j) ∧ Hid (DecS w wq ge w5.heap.size A k c D j d nx fl L G)) (fun _ v13 _ => y.toNat - (intOf v13).toNat)
        case atStart => exact ⟨0, 0, none, [], q, rfl, rfl, Nat.zero_le _, hq0, Lib.hid rfl, Lib.hid rfl, HS0⟩
        case round =>
          clear HS0 HD5 HD
          obtain ⟨j, d, D, G, r, rfl, rfl, hj, hr, HFD, HLG, HS⟩ := hrel
          rename World => wq
          by_cases hjt : (j : Int) < y
          · have e2 : decide ((j : Int) < y) = true := decide_eq_true hjt
            have hw3 : IntKind.i64.wrap ((j : Int) + 1) = ((j + 1 : Nat) : Int) := by rw [IntWalk.i64_in _ (by omega)]; omega
            have y2 := takenR_size r
            have C1 := fun W => taken_any r W (by omega)
            obtain ⟨⟨x, r2, is⟩, h2⟩ : ∃ p, takenR r = p := ⟨_, rfl⟩
            rw [h2] at y2
            simp only [h2] at C1
            have HC1 := Lib.hid C1
            have H2 := Lib.hid h2
            have hr2 : r2.size ≤ 100000 := Nat.le_trans y2 hr
            clear C1 h2 y2
            go_upto_region 24 with (go_at_call 58; refine (HC1.out _).mono ?_; rintro e w6 ⟨rfl, hb6⟩; have HS6 := Lib.hid (HS.out.below hb6); clear hb6)
            cases is with
            | false =>
              have HNO := Lib.hid (decR_dels h16 HFI.out HFZ.out H1.out (delsR_bad HFD.out H2.out (show j < y.toNat by omega)))
              have HBL := HS6.out.bl
              go_wp2_with (show wpList _ _ _ ({ dst := none, op := Op.store _ (Operand.tmp 2) _, type := _, pos := _, after := _, guard := _ } :: _) _ _; refine wpList_store_mid rfl 49 (.tmp 2) (.tmp 119) rfl w.heap.size 0 (edN none 0 0 none 0 0 0 0) rfl rfl HS6.out.z.there (by kernel_rfl) (edN_one _ _ _ _ _ _ _ _) ?_; refine HS6.out.z.setW none 0 0 none 0 0 0 0 ?_; intro w18 HZ18 HG18)
              (try simp only [Exit.inBlock, Exit.then])
              exact bodyPost_ret (ed_resultsR rfl _ _ _ none 0 0 none 0 0 0 0 _ rfl rfl HZ18.out) rfl (noAns_out HNO.out HBL HG18.out)
            | true =>
              have HDN := Lib.hid (delsR_next HFD.out H2.out)
              have c1 := HS6.out.e.cells.2.1
              have hj3 : j ≤ 300 := by omega
              go_wp2_with (at_builtin; go_loud (refine texts_app rfl _ _ rfl w5.heap.size D j d (j + 1) G [x] rfl (OwnS.below HS6.out.od (below_al _ _)) (some ⟨w6.heap.size, 0, none⟩) 1 1 rfl (Rd.madeS _ [x] rfl _ rfl) rfl rfl (by omega) (by rw [World.size_alloc]; have := HS6.out.hs; omega) ?_); intro D9 d9 w16 HO16 HG16; have HS16 := Lib.hid (DecS.put (HS6.out.below (below_al _ _)) HO16.out HG16.out); have he16 := (HS6.out.below (below_al w6 (.cells #[.string x] 9))).e.grown HG16.out (own_off HS6.out.od HS6.out.hB); have c16 := he16.cells.2.1; have f16 := he16.free 1; clear he16)
              exact ⟨⟨j + 1, d9, D9, G ++ [x], r2, rfl, by first | rfl | go_num, by omega, hr2, HDN, Lib.hid (by rw [List.length_append, HLG.out]; rfl), HS16⟩, by simp [intOf]; omega⟩
          · have e2 : decide ((j : Int) < y) = false := decide_eq_false hjt
            have hjy : j = y.toNat := by omega
            have hdz := HFD.out
            rw [hjy] at hdz
            obtain ⟨⟨S, E⟩, hSE⟩ : ∃ p, encE nx fl L G = p := ⟨_, rfl⟩
            have HEN := Lib.hid hSE
            have HALL := Lib.hid (decR_all h16 HFI.out HFZ.out H1.out hdz HNE.out.1 HNE.out.2 hSE)
            have hj3 : j ≤ 300 := by omega
            clear hdz hSE hjy
            by_cases hE : E = 0
            · have hne : (E != 0) = false := by simp [hE]
              by_cases hSt : S = t
              · skip
                go_wp2_with (first
                  | (show wpList _ _ _ ({ dst := some 128, op := Op.load _ _, type := _, pos := _, after := _, guard := _ } :: _) _ _; refine wpList_load_mid rfl 49 (.tmp 4) rfl ge 0 rfl [.slice A k c, .slice D j d, .int .u64 nx, .int .u64 fl] _ HS.out.e.range Try.underlying49 rfl (by kernel_rfl) ?_)
                  | (go_at_call 23; refine (refEncode_any A D c d k j L G nx fl _ (OwnR.rd HS.out.oa) HS.out.od.rd HLK.out HLG.out (by omega) (by omega) hnl hfl' HEN.out).mono ?_; rintro e w17 ⟨rfl, hb17⟩; have HS17 := Lib.hid (HS.out.below hb17); clear hb17)
                  | (show wpList _ _ _ ({ dst := none, op := Op.store _ (Operand.tmp 2) (Operand.tmp 139), type := _, pos := _, after := _, guard := _ } :: _) _ _; refine wpList_store_mid rfl 49 (.tmp 2) (.tmp 139) rfl w.heap.size 0 (edN none 0 0 none 0 0 0 0) rfl rfl HS17.out.z.there (by kernel_rfl) (edN_one _ _ _ _ _ _ _ _) ?_; refine HS17.out.z.setW none 0 0 none 0 0 0 0 ?_; intro w18 HZ18 HG18)
                  | (show wpList _ _ _ ({ dst := some 140, op := Op.load _ _, type := _, pos := _, after := _, guard := _ } :: _) _ _; refine wpList_load_mid rfl 49 (.tmp 4) rfl ge 0 rfl [.slice A k c, .slice D j d, .int .u64 nx, .int .u64 fl] _ HS17.out.e.range Try.underlying49 rfl (by kernel_rfl) ?_)
                  | (show wpList _ _ _ ({ dst := none, op := Op.store _ (Operand.tmp 2) (Operand.tmp 140), type := _, pos := _, after := _, guard := _ } :: _) _ _; refine wpList_store_mid rfl 49 (.tmp 2) (.tmp 140) rfl w.heap.size 0 (edN A k c D j d nx fl) rfl rfl HS17.out.z.there (by kernel_rfl) (edN_one _ _ _ _ _ _ _ _) ?_; refine HS17.out.z.setW A k c D j d nx fl ?_; intro w18 HZ18 HG18))
                (try simp only [Exit.inBlock, Exit.then])
                have HG := Lib.hid (HALL.out.1 ⟨hE, hSt⟩)
                have HBO := Lib.hid (below_grown HS17.out.bl HS17.out.bl.size HG18.out (Nat.le_refl _))
                have hA := Own.rd (Own.grown HS17.out.oa HG18.out (.inr (own_off HS17.out.oa (by have := HS17.out.lt; omega)))) (by omega)
                have hD := Own.rd (Own.grown HS17.out.od HG18.out (.inr (own_off HS17.out.od (by have := HS17.out.lt; have := HS17.out.hB; omega)))) (by omega)
                exact bodyPost_ret (ed_resultsR rfl _ _ _ A k c D j d nx fl _ rfl rfl HZ18.out) rfl ⟨A, D, k, c, j, d, by rw [HG.out]; rfl, by rw [HG.out]; exact hA, by rw [HG.out]; exact hD, by rw [HG.out]; exact HLK.out, by rw [HG.out]; exact HLG.out, HBO.out⟩
              · have hs1 : (S.toList == t.toList) = false := by rw [beq_eq_false_iff_ne]; exact fun h => hSt (toList_inj h)
                have HNO := Lib.hid (HALL.out.2 (.inr hSt))
                go_wp2_with (first
                  | (show wpList _ _ _ ({ dst := some 128, op := Op.load _ _, type := _, pos := _, after := _, guard := _ } :: _) _ _; refine wpList_load_mid rfl 49 (.tmp 4) rfl ge 0 rfl [.slice A k c, .slice D j d, .int .u64 nx, .int .u64 fl] _ HS.out.e.range Try.underlying49 rfl (by kernel_rfl) ?_)
                  | (go_at_call 23; refine (refEncode_any A D c d k j L G nx fl _ (OwnR.rd HS.out.oa) HS.out.od.rd HLK.out HLG.out (by omega) (by omega) hnl hfl' HEN.out).mono ?_; rintro e w17 ⟨rfl, hb17⟩; have HS17 := Lib.hid (HS.out.below hb17); clear hb17)
                  | (show wpList _ _ _ ({ dst := none, op := Op.store _ (Operand.tmp 2) (Operand.tmp 139), type := _, pos := _, after := _, guard := _ } :: _) _ _; refine wpList_store_mid rfl 49 (.tmp 2) (.tmp 139) rfl w.heap.size 0 (edN none 0 0 none 0 0 0 0) rfl rfl HS17.out.z.there (by kernel_rfl) (edN_one _ _ _ _ _ _ _ _) ?_; refine HS17.out.z.setW none 0 0 none 0 0 0 0 ?_; intro w18 HZ18 HG18)
                  | (show wpList _ _ _ ({ dst := some 140, op := Op.load _ _, type := _, pos := _, after := _, guard := _ } :: _) _ _; refine wpList_load_mid rfl 49 (.tmp 4) rfl ge 0 rfl [.slice A k c, .slice D j d, .int .u64 nx, .int .u64 fl] _ HS17.out.e.range Try.underlying49 rfl (by kernel_rfl) ?_)
                  | (show wpList _ _ _ ({ dst := none, op := Op.store _ (Operand.tmp 2) (Operand.tmp 140), type := _, pos := _, after := _, guard := _ } :: _) _ _; refine wpList_store_mid rfl 49 (.tmp 2) (.tmp 140) rfl w.heap.size 0 (edN A k c D j d nx fl) rfl rfl HS17.out.z.there (by kernel_rfl) (edN_one _ _ _ _ _ _ _ _) ?_; refine HS17.out.z.setW A k c D j d nx fl ?_; intro w18 HZ18 HG18))
                (try simp only [Exit.inBlock, Exit.then])
                exact bodyPost_ret (ed_resultsR rfl _ _ _ none 0 0 none 0 0 0 0 _ rfl rfl HZ18.out) rfl (noAns_out HNO.out HS17.out.bl HG18.out)
            · have hne : (E != 0) = true := by simp [hE]
              have HNO := Lib.hid (HALL.out.2 (.inl hE))
              go_wp2_with (first
                | (show wpList _ _ _ ({ dst := some 128, op := Op.load _ _, type := _, pos := _, after := _, guard := _ } :: _) _ _; refine wpList_load_mid rfl 49 (.tmp 4) rfl ge 0 rfl [.slice A k c, .slice D j d, .int .u64 nx, .int .u64 fl] _ HS.out.e.range Try.underlying49 rfl (by kernel_rfl) ?_)
                | (go_at_call 23; refine (refEncode_any A D c d k j L G nx fl _ (OwnR.rd HS.out.oa) HS.out.od.rd HLK.out HLG.out (by omega) (by omega) hnl hfl' HEN.out).mono ?_; rintro e w17 ⟨rfl, hb17⟩; have HS17 := Lib.hid (HS.out.below hb17); clear hb17)
                | (show wpList _ _ _ ({ dst := none, op := Op.store _ (Operand.tmp 2) (Operand.tmp 139), type := _, pos := _, after := _, guard := _ } :: _) _ _; refine wpList_store_mid rfl 49 (.tmp 2) (.tmp 139) rfl w.heap.size 0 (edN none 0 0 none 0 0 0 0) rfl rfl HS17.out.z.there (by kernel_rfl) (edN_one _ _ _ _ _ _ _ _) ?_; refine HS17.out.z.setW none 0 0 none 0 0 0 0 ?_; intro w18 HZ18 HG18)
                | (show wpList _ _ _ ({ dst := some 140, op := Op.load _ _, type := _, pos := _, after := _, guard := _ } :: _) _ _; refine wpList_load_mid rfl 49 (.tmp 4) rfl ge 0 rfl [.slice A k c, .slice D j d, .int .u64 nx, .int .u64 fl] _ HS17.out.e.range Try.underlying49 rfl (by kernel_rfl) ?_)
                | (show wpList _ _ _ ({ dst := none, op := Op.store _ (Operand.tmp 2) (Operand.tmp 140), type := _, pos := _, after := _, guard := _ } :: _) _ _; refine wpList_store_mid rfl 49 (.tmp 2) (.tmp 140) rfl w.heap.size 0 (edN A k c D j d nx fl) rfl rfl HS17.out.z.there (by kernel_rfl) (edN_one _ _ _ _ _ _ _ _) ?_; refine HS17.out.z.setW A k c D j d nx fl ?_; intro w18 HZ18 HG18))
              (try simp only [Exit.inBlock, Exit.then])
              exact bodyPost_ret (ed_resultsR rfl _ _ _ none 0 0 none 0 0 0 0 _ rfl rfl HZ18.out) rfl (noAns_out HNO.out HS17.out.bl HG18.out)
end Go.Proofs.Ytaeemeoffnhgfaa
