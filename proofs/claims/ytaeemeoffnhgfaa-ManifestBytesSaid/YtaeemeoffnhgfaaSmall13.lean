/-
  The walk of small; edits, as they lie in memory.
-/
import Derived.Test.YtaeemeoffnhgfaaFilesL
namespace Go.Proofs.Ytaeemeoffnhgfaa
open Go.RowKit
attribute [local go_sem ↓] Go.wp_at_zero Go.wp_at_succ

def shortS (s : ByteArray) : Bool := decide (s.size ≤ 100)
def smallE (add : List Fi) (del : List ByteArray) : Bool := del.all shortS && bndF add && decide (del.length ≤ 40)
theorem text_elem {w : World} {B k : Nat} {A : Option Addr} {l : List ByteArray} (h : Rd w B A (l.map Value.string)) (hk : k < l.length) : ∃ b o, A = some ⟨b, o, none⟩ ∧ b < B ∧ w.cell? ⟨b, o + k, none⟩ = some (.string l[k]) := by
  obtain ⟨b, o, e, hb, hc⟩ := h.at_ (by intro h; have := congrArg List.length h; rw [List.length_map] at this; simp at this; rw [this] at hk; simp at hk)
  have := hc k (by rw [List.length_map]; exact hk)
  rw [List.getElem_map] at this
  exact ⟨b, o, e, hb, this⟩
set_option maxHeartbeats 2000000 in
theorem bounded_wide (A : Option Addr) (c N : Nat) (l : List Fi) (w : World) (hl : Rd w w.heap.size A (fis l)) (hN : l.length = N) (hlen : N ≤ maxLen) :
    Calls Try.prog 9 #[.slice A N c] w fun e w' => e = .returned (.bool (bndF l)) ∧ w = w' := by
  unfold maxLen at hlen
  have HL := Lib.hid hl
  have HN := Lib.hid hN
  clear hl hN
  go_enter Try.func9, Try.ntmps9
  go_wp2
  go_loopw [3] (fun vi wr => ∃ k : Nat, vi = .int .i64 (k : Int) ∧ k ≤ N ∧ Hid (allTo bndOne l k) ∧ wr = w) (fun vi _ => N - (intOf vi).toNat)
  case atStart => exact ⟨0, rfl, Nat.zero_le _, Lib.hid (allTo.zero _ _), rfl⟩
  case round =>
    obtain ⟨k, rfl, hk, HU, rfl⟩ := hrel
    rename World => wr
    by_cases hlt : k < N
    · have e1 : decide ((k : Int) < (N : Int)) = true := decide_eq_true (by omega)
      have k1 : (0 : Int) ≤ (k : Int) := by omega
      have k2 : (k : Int) < (N : Int) := by omega
      have hkl : k < l.length := by rw [HN.out]; exact hlt
      obtain ⟨b, o, rfl, hr⟩ := rd_elem HL.out hkl
      have HB := Lib.hid (fun h => all_bad (q := bndOne) hkl h)
      have HG := Lib.hid (fun h => HU.out.succ hkl h)
      obtain ⟨x, hx⟩ : ∃ x, l[k] = x := ⟨_, rfl⟩
      rw [hx] at hr HB HG
      have d1 : wr.cell? ⟨b, o + k * 5 + 1, none⟩ = some (.string x.name) := hr 1 _ rfl
      have d2 : wr.cell? ⟨b, o + k * 5 + 2, none⟩ = some (.string x.low) := hr 2 _ rfl
      have d3 : wr.cell? ⟨b, o + k * 5 + 3, none⟩ = some (.string x.high) := hr 3 _ rfl
      clear hr hx
      go_wp2
      all_goals first
        | (go_ret; refine ⟨ret_bool ?_, rfl⟩; unfold bndF; rw [HB.out (by unfold bndOne; simp; omega)]; rfl)
        | exact ⟨⟨k + 1, by first | rfl | go_num, by omega, Lib.hid (HG.out (by unfold bndOne; simp; omega)), by first | trivial | rfl⟩, by simp [intOf]; omega⟩
    · have e1 : decide ((k : Int) < (N : Int)) = false := decide_eq_false (by omega)
      have hb : bndF l = decide ((N : Int) ≤ 40) := by
        unfold bndF
        rw [HU.out.all (by rw [HN.out]; omega), HN.out, Bool.true_and]
        simp only [decide_eq_decide]
        omega
      have HB := Lib.hid hb
      clear hb
      go_wp2
      go_ret
      exact ⟨ret_bool (by first | (rw [HB.out]; done) | (rw [HB.out]; simp only [decide_eq_decide]; omega)), rfl⟩
set_option maxRecDepth 10000 in
set_option maxHeartbeats 2000000 in
theorem small_any (A D : Option Addr) (c d N M : Nat) (add : List Fi) (del : List ByteArray) (nx fl : Int) (w : World) (ha : Rd w w.heap.size A (fis add)) (hd : Rd w w.heap.size D (del.map Value.string)) (hN : add.length = N) (hM : del.length = M) (hlen : N ≤ maxLen) (hlen' : M ≤ maxLen) :
    Calls Try.prog 15 #[.agg #[.slice A N c, .slice D M d, .int .u64 nx, .int .u64 fl]] w fun e w' => e = .returned (.bool (smallE add del)) ∧ Below w.heap.size w w' := by
  unfold maxLen at hlen hlen'
  have hal := below_al w (.cells #[.slice A N c, .slice D M d, .int .u64 nx, .int .u64 fl] 36)
  have hbd := bounded_wide A c N add (w.alloc (.cells #[.slice A N c, .slice D M d, .int .u64 nx, .int .u64 fl] 36)) ((ha.below hal).more hal.size) hN (by unfold maxLen; omega)
  have HD := Lib.hid (hd.below hal)
  have HAL := Lib.hid hal
  have HM := Lib.hid hM
  have HBD := Lib.hid hbd
  clear ha hd hN hM hbd hal
  go_enter Try.func15, Try.ntmps15
  go_wp2
  go_loopw [3] (fun vi wr => ∃ k : Nat, vi = .int .i64 (k : Int) ∧ k ≤ M ∧ Hid (allTo shortS del k) ∧ wr = w.alloc (.cells #[.slice A N c, .slice D M d, .int .u64 nx, .int .u64 fl] 36)) (fun vi _ => M - (intOf vi).toNat)
  case atStart => exact ⟨0, rfl, Nat.zero_le _, Lib.hid (allTo.zero _ _), rfl⟩
  case round =>
    obtain ⟨k, rfl, hk, HU, rfl⟩ := hrel
    by_cases hlt : k < M
    · have e1 : decide ((k : Int) < (M : Int)) = true := decide_eq_true (by omega)
      have k1 : (0 : Int) ≤ (k : Int) := by omega
      have k2 : (k : Int) < (M : Int) := by omega
      have hkl : k < del.length := by rw [HM.out]; exact hlt
      obtain ⟨b, o, rfl, hbl, hr⟩ := text_elem HD.out hkl
      have HB := Lib.hid (fun h => all_bad (q := shortS) hkl h)
      have HG := Lib.hid (fun h => HU.out.succ hkl h)
      obtain ⟨x, hx⟩ : ∃ x, del[k] = x := ⟨_, rfl⟩
      rw [hx] at hr HB HG
      clear hx
      by_cases hsz : 100 < x.size
      · have e2 : decide ((100 : Int) < (x.size : Int)) = true := decide_eq_true (by omega)
        have HF := Lib.hid (HB.out (by unfold shortS; rw [decide_eq_false (by omega)]))
        go_wp2
        go_ret
        exact ⟨ret_bool (by unfold smallE; rw [HF.out]; rfl), HAL.out⟩
      · have e2 : decide ((100 : Int) < (x.size : Int)) = false := decide_eq_false (by omega)
        have HF := Lib.hid (HG.out (by unfold shortS; rw [decide_eq_true (by omega)]))
        go_wp2
        exact ⟨⟨k + 1, by first | rfl | go_num, by omega, HF, by first | trivial | rfl⟩, by simp [intOf]; omega⟩
    · have e1 : decide ((k : Int) < (M : Int)) = false := decide_eq_false (by omega)
      have hb : smallE add del = (bndF add && decide ((M : Int) ≤ 40)) := by
        unfold smallE
        rw [HU.out.all (by rw [HM.out]; omega), HM.out, Bool.true_and]
        congr 1
        simp only [decide_eq_decide]
        omega
      have HB := Lib.hid hb
      clear hb
      go_wp2_with (go_at_call 9; refine HBD.out.mono ?_; rintro e w5 ⟨rfl, rfl⟩; cases hq : bndF add)
      all_goals go_ret
      all_goals refine ⟨ret_bool ?_, HAL.out⟩
      all_goals rw [HB.out]
      all_goals simp_all
/-- an edit, and where it lies -/
structure Ed where
  A : Option Addr
  c : Nat
  add : List Fi
  D : Option Addr
  d : Nat
  del : List ByteArray
  nx : Int
  fl : Int
def Ed.vals (e : Ed) : List Value := [.slice e.A e.add.length e.c, .slice e.D e.del.length e.d, .int .u64 e.nx, .int .u64 e.fl]
theorem Ed.vals_len (e : Ed) : e.vals.length = 4 := rfl
abbrev eds (l : List Ed) : List Value := l.flatMap Ed.vals
/-- what an edit points at lies in w -/
def Ed.In (w : World) (e : Ed) : Prop := Rd w w.heap.size e.A (fis e.add) ∧ Rd w w.heap.size e.D (e.del.map Value.string) ∧ e.add.length ≤ maxLen ∧ e.del.length ≤ maxLen
theorem Ed.In.below {w w' : World} {e : Ed} (h : e.In w) (hb : Below w.heap.size w w') : e.In w' := ⟨(h.1.below hb).more hb.size, (h.2.1.below hb).more hb.size, h.2.2⟩
theorem eds_ne {l : List Ed} {k : Nat} (h : k < l.length) : eds l ≠ [] := fun e => by
  have := encs_length Ed.vals_len l
  rw [show l.flatMap Ed.vals = eds l from rfl, e] at this
  simp at this
  omega
theorem ed_elem {w : World} {B k : Nat} {A : Option Addr} {l : List Ed} (h : Rd w B A (eds l)) (hk : k < l.length) : ∃ b o, A = some ⟨b, o, none⟩ ∧ b < B ∧ w.rangeAt b (o + k * 4) l[k].vals := by
  obtain ⟨b, o, e, hb, hc⟩ := h.at_ (eds_ne hk)
  exact ⟨b, o, e, hb, Rd.enc_range Ed.vals_len hc k hk⟩
theorem smallE_parts {add : List Fi} {del : List ByteArray} (h : smallE add del = true) : (∀ x ∈ add, bndOne x = true) ∧ add.length ≤ 40 ∧ del.length ≤ 40 := by
  unfold smallE bndF at h
  simp only [Bool.and_eq_true, decide_eq_true_eq, List.all_eq_true] at h
  exact ⟨h.1.2.1, h.1.2.2, h.2⟩
end Go.Proofs.Ytaeemeoffnhgfaa
