/-
  The walk of slices.DeleteFunc at cells, by any function that answers for a cell.
-/
import Derived.Test.YtoligmmjmghgnaaIndexCell
import Derived.Test.YtoligmmjmghgnaaQBox
import Derived.Test.YtoligmmjmghgnaaCompactPlainC
namespace Go.Proofs.Ytoligmmjmghgnaa
open Go.RowKit
attribute [local go_sem ↓] Go.wp_at_zero Go.wp_at_succ

/-- while elements are taken out: i are kept of the first j; from j on all is as it was -/
def DelSt {α : Type} (q : α → Bool) (l m : List α) (i j : Nat) : Prop := m.length = l.length ∧ i < j ∧ j ≤ l.length ∧ m.take i = (l.take j).filter (fun x => !q x) ∧ m.drop j = l.drop j
theorem DelSt.get {α : Type} {q : α → Bool} {l m : List α} {i j : Nat} (h : DelSt q l m i j) {p : Nat} (hp : j ≤ p) : m[p]? = l[p]? := by
  have := congrArg (fun q => q[p - j]?) h.2.2.2.2
  simp only [List.getElem?_drop] at this
  rwa [show j + (p - j) = p by omega] at this
theorem filter_take_succ {α : Type} {q : α → Bool} {l : List α} {k : Nat} {y : α} (hy : l[k]? = some y) : (l.take (k + 1)).filter q = (l.take k).filter q ++ (if q y then [y] else []) := by
  obtain ⟨hk, rfl⟩ := List.getElem?_eq_some_iff.1 hy
  rw [List.take_succ_eq_append_getElem hk, List.filter_append]
  congr 1
  rw [List.filter_cons, List.filter_nil]
theorem DelSt.skip {α : Type} {q : α → Bool} {l m : List α} {i j : Nat} (h : DelSt q l m i j) {y : α} (hy : l[j]? = some y) (he : q y = true) : DelSt q l m i (j + 1) := by
  obtain ⟨h1, h2, h3, h4, h5⟩ := h
  have hp := (List.getElem?_eq_some_iff.1 hy).1
  refine ⟨h1, by omega, hp, ?_, ?_⟩
  · rw [filter_take_succ hy, he, h4]; simp
  · have := congrArg (fun q => q.drop 1) h5
    simpa only [List.drop_drop] using this
theorem DelSt.put {α : Type} {q : α → Bool} {l m : List α} {i j : Nat} (h : DelSt q l m i j) {y : α} (hy : l[j]? = some y) (he : q y = false) : DelSt q l (m.set i y) (i + 1) (j + 1) := by
  obtain ⟨h1, h2, h3, h4, h5⟩ := h
  have hp := (List.getElem?_eq_some_iff.1 hy).1
  refine ⟨by simp [h1], by omega, hp, ?_, ?_⟩
  · have hkm : i < m.length := by omega
    have e1 : (m.set i y).take (i + 1) = (m.set i y).take i ++ [y] := by rw [List.take_succ_eq_append_getElem (by rw [List.length_set]; exact hkm), List.getElem_set_self]
    have e2 : (m.set i y).take i = m.take i := by rw [List.take_set_of_le (Nat.le_refl i)]
    rw [filter_take_succ hy, he, ← h4, e1, e2]
    rfl
  · have := congrArg (fun q => q.drop 1) h5
    simp only [List.drop_drop] at this
    rw [← this, List.drop_set_of_lt (by omega)]
theorem DelSt.start {α : Type} {q : α → Bool} {l : List α} {i : Nat} (hi : l.findIdx? q = some i) : DelSt q l l i (i + 1) := by
  obtain ⟨h1, h2, h3⟩ := List.findIdx?_eq_some_iff_getElem.1 hi
  refine ⟨rfl, Nat.lt_succ_self _, h1, ?_, rfl⟩
  rw [filter_take_succ (List.getElem?_eq_getElem h1), h2]
  simp only [Bool.not_true, Bool.false_eq_true, if_false, List.append_nil]
  symm
  rw [List.filter_eq_self]
  intro x hx
  obtain ⟨j, hj, rfl⟩ := List.getElem_of_mem hx
  rw [List.length_take] at hj
  rw [List.getElem_take]
  have := h3 j (by omega)
  simpa using this
theorem filter_none {α : Type} {q : α → Bool} {l : List α} (h : l.findIdx? q = none) : l.filter (fun x => !q x) = l := by
  rw [List.filter_eq_self]
  intro x hx
  rw [List.findIdx?_eq_none_iff.1 h x hx]
  rfl
theorem idx_none {α : Type} {q : α → Bool} {l : List α} (h : l.findIdx? q = none) : idx q l = -1 := by unfold idx; rw [h]
theorem idx_some {α : Type} {q : α → Bool} {l : List α} {i : Nat} (h : l.findIdx? q = some i) : idx q l = (i : Int) := by unfold idx; rw [h]
theorem Arr.rd {α : Type} {enc : α → List Value} {k : Nat} {w : World} {g : Nat} {e : TypeId} {S : Nat} {l : List α} (h : Arr enc k w g e S l) (hk : ∀ x, (enc x).length = k) (hk0 : 0 < k) : Rd w w.heap.size (some ⟨g, 0, none⟩) (l.flatMap enc) := fun _ =>
  ⟨g, 0, rfl, h.lt, fun p hp => by
    rw [encs_length hk] at hp
    have hi : p / k < l.length := (Nat.div_lt_iff_lt_mul hk0).2 hp
    have hj : p % k < k := Nat.mod_lt _ hk0
    have e1 : p / k * k + p % k = p := by rw [Nat.mul_comm]; exact Nat.div_add_mod p k
    have hv : (enc l[p / k])[p % k]? = some ((enc l[p / k])[p % k]'(by rw [hk]; exact hj)) := List.getElem?_eq_getElem _
    have h1 := h.at_ _ hi _ _ hv
    have h2 := encs_get hk l _ _ hi _ hv
    rw [e1] at h1 h2
    rw [Nat.zero_add, h1]
    obtain ⟨_, h3⟩ := List.getElem?_eq_some_iff.1 h2
    rw [← h3]⟩
set_option maxRecDepth 10000 in
set_option maxHeartbeats 4000000 in
theorem deleteFunc_any (f : FuncId) (caps : Array Value) (q : Cl → Bool) (g S cap N : Nat) (l : List Cl) (w : World) (eg : ∀ args W, (callFunc f args).run Try.prog W = .ok (.enter f args) W)
    (hq : ∀ x W, w.grownBy W (some g) → Calls Try.prog f (#[x.agg] ++ caps) W fun e w' => e = .returned (.bool (q x)) ∧ Below W.heap.size W w') (h : Arr Cl.vals 6 w g 29 S l) (hN : l.length = N) (hmax : N ≤ 1000000) (hcap : N ≤ cap) :
    Calls Try.prog 20 #[.slice (some ⟨g, 0, none⟩) N cap, .func (.func f) #[] caps] w fun e w' => ∃ k, e = .returned (.slice (some ⟨g, 0, none⟩) k cap) ∧ (l.filter (fun x => !q x)).length = k ∧ Arr Cl.vals 6 w' g 29 S (l.filter (fun x => !q x)) ∧ w.grownBy w' (some g) := by
  obtain ⟨i0, hi0, hz0, hz1, hz2⟩ := info_parts cellInfo
  have hix := indexCell_any f caps q w eg (fun x W hb => hq x W (grownBy_below hb _)) (some ⟨g, 0, none⟩) cap l (h.rd Cl.vals_len (by omega)) (by unfold maxLen; omega)
  rw [hN] at hix
  have H := Lib.hid h
  have HN := Lib.hid hN
  have HQ := Lib.hid hq
  have HIX := Lib.hid hix
  clear h hN hq hix
  cases hfi : l.findIdx? q with
  | none =>
    have HI := Lib.hid (idx_none hfi)
    have HF := Lib.hid (filter_none hfi)
    clear hfi
    go_enter Try.func20, Try.ntmps20
    go_wp2_with (go_at_call 36; refine HIX.out.mono ?_; rintro e w1 ⟨rfl, hb1⟩; rw [HI.out])
    go_ret
    exact ⟨N, rfl, by rw [HF.out, HN.out], by rw [HF.out]; exact H.out.below hb1 H.out.lt, grownBy_below hb1 _⟩
  | some i1 =>
    have HI := Lib.hid (idx_some hfi)
    have HS := Lib.hid (DelSt.start hfi)
    have hi1 : i1 < N := by rw [← HN.out]; exact (List.findIdx?_eq_some_iff_getElem.1 hfi).1
    have hw0 : IntKind.i64.wrap ((i1 : Int) + 1) = ((i1 + 1 : Nat) : Int) := by rw [IntWalk.i64_in _ (by omega)]; omega
    have hne : ((i1 : Int) == -1) = false := by rw [beq_eq_false_iff_ne]; omega
    clear hfi
    go_enter Try.func20, Try.ntmps20
    go_wp2_with (go_at_call 36; refine HIX.out.mono ?_; rintro e w1 ⟨rfl, hb1⟩; rw [HI.out])
    have HA1 := Lib.hid (H.out.below hb1 H.out.lt)
    have HG1 := Lib.hid (grownBy_below hb1 (some g))
    clear hw0 hne hb1 HIX HI
    go_loopw [5, 6] (fun vi vj wr => ∃ (i j : Nat) (m : List Cl), vi = .int .i64 (i : Int) ∧ vj = .int .i64 (j : Int) ∧ i < j ∧ j ≤ N ∧ Hid (DelSt q l m i j) ∧ Hid (Arr Cl.vals 6 wr g 29 S m) ∧ Hid (w.grownBy wr (some g))) (fun _ vj _ => N - (intOf vj).toNat)
    case atStart => exact ⟨i1, i1 + 1, l, rfl, by first | rfl | go_num, Nat.lt_succ_self _, hi1, HS, HA1, HG1⟩
    case round =>
      obtain ⟨i, j, m, rfl, rfl, hij, hjN, HST, HA, HG⟩ := hrel
      rename World => wr
      clear HA1 HG1 HS
      by_cases hlt : j < N
      · have e1 : decide ((j : Int) < (N : Int)) = true := decide_eq_true (by omega)
        have k1 : (0 : Int) ≤ (j : Int) := by omega
        have k2 : (j : Int) < (N : Int) := by omega
        have k3 : (0 : Int) ≤ (i : Int) := by omega
        have k4 : (i : Int) < (N : Int) := by omega
        have hml : m.length = N := by rw [HST.out.1, HN.out]
        obtain ⟨y, hy⟩ : ∃ y, l[j]? = some y := ⟨_, List.getElem?_eq_getElem (by rw [HN.out]; exact hlt)⟩
        have HX := Lib.hid (show m[j]? = some y by rw [HST.out.get (Nat.le_refl _)]; exact hy)
        have HR := Lib.hid (HA.out.get HX.out)
        have HSK := Lib.hid (fun h => HST.out.skip hy h)
        have HSP := Lib.hid (fun h => HST.out.put hy h)
        have hil : i < m.length := by omega
        have HIL := Lib.hid hil
        have hglt := HA.out.lt
        clear hy hml hil
        cases hqy : q y with
        | true =>
          have HF := Lib.hid (HSK.out hqy)
          go_wp2_with (first
            | (show wpList _ _ _ ({ dst := some 25, op := Op.load _ _, type := _, pos := _, after := _, guard := _ } :: _) _ _; refine wpList_load_mid rfl 29 (.tmp 24) rfl g (j * 6) rfl y.vals _ HR.out Try.underlying29 rfl (by kernel_rfl) ?_)
            | (show wpList _ _ _ ({ dst := none, op := Op.store _ (Operand.tmp 7) _, type := _, pos := _, after := _, guard := _ } :: _) _ _; refine wpList_store_mid rfl 29 (.tmp 7) (.tmp 25) rfl wr.heap.size 0 y.vals.toArray rfl rfl (QBox.there_made _ _ _ _ _ _ _ _) (by kernel_rfl) (all_oneCell_toArray (Cl.one y)) ?_; refine QBox.madeW 29 wr _ _ _ _ _ _ y ?_; intro w6 HG6 HB6)
            | (show wpList _ _ _ ({ dst := some 27, op := Op.load _ _, type := _, pos := _, after := _, guard := _ } :: _) _ _; refine wpList_load_mid rfl 29 (.tmp 7) rfl wr.heap.size 0 rfl y.vals _ HG6.out.range Try.underlying29 rfl (by kernel_rfl) ?_)
            | (refine (HQ.out y _ (grownBy_trans HG.out (grownBy_below HB6.out (some g)))).mono ?_; rintro e w7 ⟨rfl, hb7⟩; rw [hqy]; have HB7 := Lib.hid (HB6.out.trans (hb7.mono HB6.out.size)); clear hb7))
          exact ⟨⟨i, j + 1, m, rfl, by first | rfl | go_num, by omega, by omega, HF, Lib.hid (HA.out.below HB7.out hglt), Lib.hid (grownBy_trans HG.out (grownBy_below HB7.out (some g)))⟩, by simp [intOf]; omega⟩
        | false =>
          have HF := Lib.hid (HSP.out hqy)
          go_wp2_with (first
            | (show wpList _ _ _ ({ dst := some 25, op := Op.load _ _, type := _, pos := _, after := _, guard := _ } :: _) _ _; refine wpList_load_mid rfl 29 (.tmp 24) rfl g (j * 6) rfl y.vals _ HR.out Try.underlying29 rfl (by kernel_rfl) ?_)
            | (show wpList _ _ _ ({ dst := none, op := Op.store _ (Operand.tmp 7) _, type := _, pos := _, after := _, guard := _ } :: _) _ _; refine wpList_store_mid rfl 29 (.tmp 7) (.tmp 25) rfl wr.heap.size 0 y.vals.toArray rfl rfl (QBox.there_made _ _ _ _ _ _ _ _) (by kernel_rfl) (all_oneCell_toArray (Cl.one y)) ?_; refine QBox.madeW 29 wr _ _ _ _ _ _ y ?_; intro w6 HG6 HB6)
            | (show wpList _ _ _ ({ dst := some 27, op := Op.load _ _, type := _, pos := _, after := _, guard := _ } :: _) _ _; refine wpList_load_mid rfl 29 (.tmp 7) rfl wr.heap.size 0 rfl y.vals _ HG6.out.range Try.underlying29 rfl (by kernel_rfl) ?_)
            | (refine (HQ.out y _ (grownBy_trans HG.out (grownBy_below HB6.out (some g)))).mono ?_; rintro e w7 ⟨rfl, hb7⟩; rw [hqy]; have HB7 := Lib.hid (HB6.out.trans (hb7.mono HB6.out.size)); have HG7 := Lib.hid (HG6.out.below hb7 HG6.out.lt); have HA7 := Lib.hid (HA.out.below HB7.out hglt); have HS7 := Lib.hid (HA7.out.set Cl.vals_len HIL.out y); clear hb7)
            | (show wpList _ _ _ ({ dst := some 32, op := Op.load _ _, type := _, pos := _, after := _, guard := _ } :: _) _ _; refine wpList_load_mid rfl 29 (.tmp 7) rfl wr.heap.size 0 rfl y.vals _ HG7.out.range Try.underlying29 rfl (by kernel_rfl) ?_)
            | (show wpList _ _ _ ({ dst := none, op := Op.store _ (Operand.tmp 33) _, type := _, pos := _, after := _, guard := _ } :: _) _ _; refine wpList_store_mid rfl 29 (.tmp 33) (.tmp 32) rfl g (i * 6) y.vals.toArray rfl rfl (HA7.out.there_at HIL.out) (by kernel_rfl) (all_oneCell_toArray (Cl.one y)) ?_))
          exact ⟨⟨i + 1, j + 1, m.set i y, by first | rfl | go_num, by first | rfl | go_num, by omega, by omega, HF, Lib.hid HS7.out.1, Lib.hid (grownBy_trans (grownBy_trans HG.out (grownBy_below HB7.out (some g))) HS7.out.2)⟩, by simp [intOf]; omega⟩
      · have e1 : decide ((j : Int) < (N : Int)) = false := decide_eq_false (by omega)
        have hjn : j = N := by omega
        have hml : m.length = N := by rw [HST.out.1, HN.out]
        have hst := HST.out.2.2.2.1
        rw [hjn, show l.take N = l from List.take_of_length_le (by rw [HN.out]; exact Nat.le_refl _)] at hst
        have hsl := fun W => run_tail (P := Try.prog) (t := 26) (e := 29) (size := 6) Try.underlying26 hi0 hz1 (some ⟨g, 0, none⟩) N cap i (by omega) W
        have htl : tailA (some ⟨g, 0, none⟩) cap i 6 = some ⟨g, i * 6, none⟩ := by
          unfold tailA
          rw [if_neg (by omega), Option.map_some, add_at, Nat.zero_add]
        rw [htl] at hsl
        have hth : wr.there g (i * 6) (Builtin.zeroCells (zeroCell).cells (N - i)).size := HA.out.there (by
          have h1 := HA.out.len
          rw [hml] at h1
          have h2 : (Builtin.zeroCells (zeroCell).cells (N - i)).size = (N - i) * 6 := by simp [Builtin.zeroCells, Value.cells, zeroCell]
          rw [h2, ← Nat.add_mul]
          rwa [show i + (N - i) = N by omega])
        have hcl := fun ty => run_clear_mid (P := Try.prog) wr 26 29 ty zeroCell Try.underlying26 (fun W => by simp [zeroValue, typeInfo, hi0, hz0, Result.andThen]) (by simp [zeroCell, Value.cells, Value.oneCell']) g (i * 6) (N - i) (cap - i) (by omega) hth
        have hab := (HA.out.take i).above Cl.vals_len (o := i * 6) (by rw [List.length_take]; exact Nat.mul_le_mul_right 6 (by omega)) (Builtin.zeroCells (zeroCell).cells (N - i)).toList
        rw [hst] at hab
        have HAB := Lib.hid hab
        have HL := Lib.hid (show (l.filter (fun x => !q x)).length = i by rw [← hst, List.length_take]; omega)
        generalize (Builtin.zeroCells (zeroCell).cells (N - i)).toList = zs at hcl HAB
        have kq : (i : Int) ≤ (N : Int) := by omega
        have kq1 : (0 : Int) ≤ (i : Int) := by omega
        have kq3 : (i : Int) ≤ (cap : Int) := by omega
        have kq4 : i ≤ cap := by omega
        obtain ⟨nkk, hnkk⟩ : ∃ nkk, N - i = nkk := ⟨_, rfl⟩
        obtain ⟨ckk, hckk⟩ : ∃ ckk, cap - i = ckk := ⟨_, rfl⟩
        rw [hnkk, hckk] at hsl hcl
        clear htl hth hab hml hst hnkk hckk hjn
        go_wp2
        go_ret
        exact ⟨i, rfl, HL.out, HAB.out.1, grownBy_trans HG.out HAB.out.2⟩
end Go.Proofs.Ytoligmmjmghgnaa
