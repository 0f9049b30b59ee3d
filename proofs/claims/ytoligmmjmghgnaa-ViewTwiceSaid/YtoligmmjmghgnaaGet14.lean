/-
  The walk of view.Get.
-/
import Derived.Test.YtoligmmjmghgnaaScan14
namespace Go.Proofs.Ytoligmmjmghgnaa
open Go.RowKit Go.Shelf
attribute [local go_sem ↓] Go.wp_at_zero Go.wp_at_succ

def zeroCl : Cl := ⟨⟨#[]⟩, ⟨#[]⟩, 0, 0, false, ⟨#[]⟩⟩
def isAt (row col : ByteArray) (c : Cl) : Bool := decide (c.row = row) && decide (c.col = col)
def getP (l : List Cl) (row col : ByteArray) : Cl × Bool := match l.find? (isAt row col) with
  | some c => (c, true)
  | none => (zeroCl, false)
def noneTo14 (q : Cl → Bool) (l : List Cl) (k : Nat) : Prop := ∀ j (h : j < l.length), j < k → q l[j] = false
theorem find_hit {q : Cl → Bool} {l : List Cl} {k : Nat} (h : noneTo14 q l k) (hk : k < l.length) (hq : q l[k] = true) : l.find? q = some l[k] := by
  rw [List.find?_eq_some_iff_getElem]
  exact ⟨hq, k, hk, rfl, fun j hj => by rw [h j (by omega) hj]; rfl⟩
theorem find_miss {q : Cl → Bool} {l : List Cl} {k : Nat} (h : noneTo14 q l k) (hk : l.length ≤ k) : l.find? q = none := by
  rw [List.find?_eq_none]
  intro x hx
  obtain ⟨j, hj, rfl⟩ := List.getElem_of_mem hx
  rw [h j hj (by omega)]
  exact Bool.false_ne_true
theorem QBox.there {T : TypeId} {w : World} {g : Nat} {x : Cl} (h : QBox T w g x) : w.there g 0 6 := fun j hj => by
  refine ⟨?_, frozen_of_row _ _ _ _ _ h⟩
  rw [Nat.zero_add, cell_of_row _ _ _ _ _ (0, 0) h, Array.getElem?_eq_getElem (by simpa using hj)]
  rfl
theorem QBox.setW {T : TypeId} {w : World} {g : Nat} {x : Cl} (h : QBox T w g x) (y : Cl) {M : World → Prop} (hM : ∀ w', Hid (QBox T w' g y) → Hid (w.grownBy w' (some g)) → M w') : M (w.setCells g 0 y.vals.toArray.toList) := by
  obtain ⟨h1, h2⟩ := QBox.set h y
  exact hM _ (Lib.hid h1) (Lib.hid h2)
theorem get_results {fn : Func} (h : fn.results = #[.cell 8 29, .tmp 9]) (tmps : Array Value) (w : World) (g : Nat) (x : Cl) (v : Value) (h8 : tmps.getD 8 undef = .pointer (some ⟨g, 0, none⟩)) (h9 : tmps.getD 9 undef = v) (hx : QBox 29 w g x) :
    (results fn tmps).run Try.prog w = .ok (.tuple #[x.agg, v]) w := by
  rw [results_cell_tmp h, h8, h9]
  simp only [asAddr, Sem.run_pure, Result.andThen_ok, run_loadVar_mid w g 0 29 x.vals _ hx.range Try.underlying29 rfl (by kernel_rfl)]
  rfl
def GetOut (L : List Cs) (at_ : Nat) (row col fr tl : ByteArray) (w : World) (e : Ending) (w' : World) : Prop := ∃ m, Once Cl.lt (allOf L at_) m ∧ e = .returned (.tuple #[(getP (scanP m fr tl) row col).1.agg, .bool (getP (scanP m fr tl) row col).2]) ∧ Below w.heap.size w w'
set_option maxRecDepth 10000 in
set_option maxHeartbeats 4000000 in
theorem get_any (Aq : Option Addr) (c N at_ : Nat) (L : List Cs) (row col : ByteArray) (w : World) (hA : Rd w w.heap.size Aq (L.map Cs.val)) (hl : CsIn w w.heap.size L) (hN : L.length = N) (hlen : N ≤ 1000) (htot : (L.flatMap Cs.l).length ≤ 100000) :
    Calls Try.prog 15 #[.slice Aq N c, .int .u64 (at_ : Int), .string row, .string col] w (GetOut L at_ row col row ⟨#[]⟩ w) := by
  have HX0 := Lib.hid (show QBox 29 (w.alloc (.cells #[.string ⟨#[]⟩, .string ⟨#[]⟩, .int .u64 0, .int .u64 0, .bool false, .string ⟨#[]⟩] 29)) w.heap.size zeroCl from QBox.new _ w zeroCl)
  have hb0 := below_al w (.cells #[.string ⟨#[]⟩, .string ⟨#[]⟩, .int .u64 0, .int .u64 0, .bool false, .string ⟨#[]⟩] 29)
  obtain ⟨w1, hw1⟩ : ∃ w1, w.alloc (.cells #[.string ⟨#[]⟩, .string ⟨#[]⟩, .int .u64 0, .int .u64 0, .bool false, .string ⟨#[]⟩] 29) = w1 := ⟨_, rfl⟩
  rw [hw1] at HX0 hb0
  have HSC := Lib.hid (scan_any Aq c N at_ L row ⟨#[]⟩ w1 ((hA.below hb0).more hb0.size) ((hl.below hb0).more hb0.size) hN hlen htot)
  have HB0 := Lib.hid hb0
  have HW1 := Lib.hid hw1
  clear hA hl hN hb0 hw1
  go_enter Try.func15, Try.ntmps15
  go_wp2_with (go_at_call 9; rw [HW1.out]; refine HSC.out.mono ?_; rintro e w2 ⟨A2, n2, c2, m, rfl, hm, ho, hb2⟩; have HM := Lib.hid hm; have HO := Lib.hid ho; have HB2 := Lib.hid (HB0.out.trans (hb2.mono HB0.out.size)); have HX2 := Lib.hid (HX0.out.below hb2 HX0.out.lt); have hsz2 := hb2.size; clear hm ho hb2)
  have HL := Lib.hid HO.out.len
  obtain ⟨S, hS⟩ : ∃ S, scanP m row ⟨#[]⟩ = S := ⟨_, rfl⟩
  rw [hS] at HO HL
  have HS := Lib.hid hS
  have hn2 : n2 ≤ 100000 := by
    have h1 := HL.out
    rw [← HS.out] at h1
    unfold scanP at h1
    have h2 := List.length_filter_le (fun c => inR row ⟨#[]⟩ c.row && seen m c) m
    have h3 : m.length ≤ 100000 := by
      have h4 := HM.out
      have h5 : m.length ≤ (allOf L at_).length := Once.length_le cl_weak h4
      have h6 : (allOf L at_).length ≤ (L.flatMap Cs.l).length := List.length_filter_le _ _
      omega
    omega
  clear hS
  go_loopw [17] (fun vi wr => ∃ k : Nat, vi = .int .i64 (k : Int) ∧ k ≤ n2 ∧ Hid (noneTo14 (isAt row col) S k) ∧ Hid (Below w2.heap.size w2 wr)) (fun vi _ => n2 - (intOf vi).toNat)
  case atStart => exact ⟨0, rfl, Nat.zero_le _, Lib.hid (fun j h hk => by omega), Lib.hid (Below.refl _ _)⟩
  case round =>
    obtain ⟨k, rfl, hk, HU, HB⟩ := hrel
    rename World => wr
    by_cases hlt : k < n2
    · have e1 : decide ((k : Int) < (n2 : Int)) = true := decide_eq_true (by omega)
      have k1 : (0 : Int) ≤ (k : Int) := by omega
      have k2 : (k : Int) < (n2 : Int) := by omega
      have hkl : k < S.length := by rw [HL.out]; exact hlt
      obtain ⟨b, o, rfl, hbl, hr⟩ := rd_elem ((OwnC.rd HO.out).below HB.out) hkl
      have HH := Lib.hid (fun h => find_hit HU.out hkl h)
      have HNX := Lib.hid (fun (h : isAt row col S[k] = false) => show noneTo14 (isAt row col) S (k + 1) from fun j hj hjk => by
        by_cases e : j = k
        · subst e; exact h
        · exact HU.out j hj (by omega))
      obtain ⟨x, hx⟩ : ∃ x, S[k] = x := ⟨_, rfl⟩
      rw [hx] at hr HH HNX
      have HR := Lib.hid hr
      have q1 := beq_name x.row row
      have q2 := beq_name x.col col
      clear hr hx
      have HXr := Lib.hid (HX2.out.below HB.out HX2.out.lt)
      by_cases h1 : x.row = row
      · by_cases h2 : x.col = col
        · have HF := Lib.hid (HH.out (by unfold isAt; rw [decide_eq_true h1, decide_eq_true h2]; rfl))
          rw [decide_eq_true h1] at q1
          rw [decide_eq_true h2] at q2
          clear h1 h2
          go_wp2_with (first
            | (show wpList _ _ _ ({ dst := some 20, op := Op.load _ _, type := _, pos := _, after := _, guard := _ } :: _) _ _; refine wpList_load_mid rfl 29 (.tmp 19) rfl b (o + k * 6) rfl x.vals _ HR.out Try.underlying29 rfl (by kernel_rfl) ?_)
            | (show wpList _ _ _ ({ dst := none, op := Op.store _ (Operand.tmp 11) _, type := _, pos := _, after := _, guard := _ } :: _) _ _; refine wpList_store_mid rfl 29 (.tmp 11) (.tmp 20) rfl wr.heap.size 0 x.vals.toArray rfl rfl (QBox.there_made _ _ _ _ _ _ _ _) (by kernel_rfl) (all_oneCell_toArray (Cl.one x)) ?_; refine QBox.madeW 29 wr _ _ _ _ _ _ x ?_; intro w6 HG6 HB6; obtain ⟨c0, c1, c2, c3, c4, c5⟩ := HG6.out.cells; have HX6 := Lib.hid (HXr.out.below HB6.out HXr.out.lt))
            | (show wpList _ _ _ ({ dst := some 31, op := Op.load _ _, type := _, pos := _, after := _, guard := _ } :: _) _ _; refine wpList_load_mid rfl 29 (.tmp 11) rfl wr.heap.size 0 rfl x.vals _ HG6.out.range Try.underlying29 rfl (by kernel_rfl) ?_)
            | (show wpList _ _ _ ({ dst := none, op := Op.store _ (Operand.tmp 8) _, type := _, pos := _, after := _, guard := _ } :: _) _ _; refine wpList_store_mid rfl 29 (.tmp 8) (.tmp 31) rfl w.heap.size 0 x.vals.toArray rfl rfl HX6.out.there (by kernel_rfl) (all_oneCell_toArray (Cl.one x)) ?_; refine HX6.out.setW x ?_; intro w7 HX7 HG7))
          (try simp only [Exit.inBlock, Exit.then])
          refine bodyPost_ret (get_results rfl _ _ w.heap.size x _ rfl rfl HX7.out) rfl ⟨m, HM.out, by rw [HS.out]; unfold getP; rw [HF.out]; rfl, ?_⟩
          exact below_grown (HB2.out.trans ((HB.out.trans (HB6.out.mono HB.out.size)).mono HB2.out.size)) (Nat.le_trans HB2.out.size (Nat.le_trans HB.out.size HB6.out.size)) HG7.out (Nat.le_refl _)
        · have HF := Lib.hid (HNX.out (by unfold isAt; rw [decide_eq_false h2, Bool.and_false]))
          rw [decide_eq_true h1] at q1
          rw [decide_eq_false h2] at q2
          clear h1 h2
          go_wp2_with (first
            | (show wpList _ _ _ ({ dst := some 20, op := Op.load _ _, type := _, pos := _, after := _, guard := _ } :: _) _ _; refine wpList_load_mid rfl 29 (.tmp 19) rfl b (o + k * 6) rfl x.vals _ HR.out Try.underlying29 rfl (by kernel_rfl) ?_)
            | (show wpList _ _ _ ({ dst := none, op := Op.store _ (Operand.tmp 11) _, type := _, pos := _, after := _, guard := _ } :: _) _ _; refine wpList_store_mid rfl 29 (.tmp 11) (.tmp 20) rfl wr.heap.size 0 x.vals.toArray rfl rfl (QBox.there_made _ _ _ _ _ _ _ _) (by kernel_rfl) (all_oneCell_toArray (Cl.one x)) ?_; refine QBox.madeW 29 wr _ _ _ _ _ _ x ?_; intro w6 HG6 HB6; obtain ⟨c0, c1, c2, c3, c4, c5⟩ := HG6.out.cells))
          exact ⟨⟨k + 1, by first | rfl | go_num, by omega, HF, Lib.hid (HB.out.trans (HB6.out.mono HB.out.size))⟩, by simp [intOf]; omega⟩
      · have HF := Lib.hid (HNX.out (by unfold isAt; rw [decide_eq_false h1, Bool.false_and]))
        rw [decide_eq_false h1] at q1
        clear h1 q2
        go_wp2_with (first
          | (show wpList _ _ _ ({ dst := some 20, op := Op.load _ _, type := _, pos := _, after := _, guard := _ } :: _) _ _; refine wpList_load_mid rfl 29 (.tmp 19) rfl b (o + k * 6) rfl x.vals _ HR.out Try.underlying29 rfl (by kernel_rfl) ?_)
          | (show wpList _ _ _ ({ dst := none, op := Op.store _ (Operand.tmp 11) _, type := _, pos := _, after := _, guard := _ } :: _) _ _; refine wpList_store_mid rfl 29 (.tmp 11) (.tmp 20) rfl wr.heap.size 0 x.vals.toArray rfl rfl (QBox.there_made _ _ _ _ _ _ _ _) (by kernel_rfl) (all_oneCell_toArray (Cl.one x)) ?_; refine QBox.madeW 29 wr _ _ _ _ _ _ x ?_; intro w6 HG6 HB6; obtain ⟨c0, c1, c2, c3, c4, c5⟩ := HG6.out.cells))
        exact ⟨⟨k + 1, by first | rfl | go_num, by omega, HF, Lib.hid (HB.out.trans (HB6.out.mono HB.out.size))⟩, by simp [intOf]; omega⟩
    · have e1 : decide ((k : Int) < (n2 : Int)) = false := decide_eq_false (by omega)
      have HF := Lib.hid (find_miss HU.out (by rw [HL.out]; omega))
      have HXr := Lib.hid (HX2.out.below HB.out HX2.out.lt)
      go_wp2_with (show wpList _ _ _ ({ dst := none, op := Op.store _ (Operand.tmp 8) _, type := _, pos := _, after := _, guard := _ } :: _) _ _; refine wpList_store_mid rfl 29 (.tmp 8) (.tmp 33) rfl w.heap.size 0 zeroCl.vals.toArray rfl rfl HXr.out.there (by kernel_rfl) (all_oneCell_toArray (Cl.one zeroCl)) ?_; refine HXr.out.setW zeroCl ?_; intro w7 HX7 HG7)
      (try simp only [Exit.inBlock, Exit.then])
      refine bodyPost_ret (get_results rfl _ _ w.heap.size zeroCl _ rfl rfl HX7.out) rfl ⟨m, HM.out, by rw [HS.out]; unfold getP; rw [HF.out]; rfl, ?_⟩
      exact below_grown (HB2.out.trans (HB.out.mono HB2.out.size)) (Nat.le_trans HB2.out.size HB.out.size) HG7.out (Nat.le_refl _)
end Go.Proofs.Ytoligmmjmghgnaa
