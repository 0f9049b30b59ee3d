/-
  The walks of the small functions on cells: comparing texts, numbers and cells; whether cells rise; whether two lists of cells are the same.
  No conditions but that numbers fit their kinds. The walks of the comparisons of two cells. Cells, held against each other by the language's own equality. The walks of the functions on lists of cells and of borders. No conditions.
-/
import Derived.Test.YtflppcgonbjnmaaJB
import Derived.Test.YtflppcgonbjnmaaRows
import Derived.WalkSpells
import Derived.Deep.QuietTactic
import Derived.BigQuiet
import Derived.Deep.RegionHeld3
import Derived.Deep.DrawnRows
import Derived.Lib.Hide
namespace Go.Proofs.Ytflppcgonbjnmaa
open Go.RowKit

set_option maxHeartbeats 400000 in
theorem compare_any (a b : ByteArray) (w : World) :
    Calls Try.prog 63 #[.string a, .string b] w fun e w' => e = .returned (.int .i64 (txt a b)) ∧ w = w' := by
  go_enter Try.func63, Try.ntmps63
  go_wp2
  rw [run_callFunc_extern Try.func70 (by kernel_rfl) (by kernel_rfl) (by kernel_rfl) (e := Extern.BytealgCompare.compare) (by kernel_rfl), Lib.run_compareString, compare_txt]
  simp only [Result.andThen]
  rw [Oper.upon_value]
  go_wp2
  go_ret
  exact ⟨rfl, rfl⟩

set_option maxHeartbeats 400000 in
theorem text_any (a b : ByteArray) (w : World) :
    Calls Try.prog 50 #[.string a, .string b] w fun e w' => e = .returned (.int .i64 (txt a b)) ∧ w = w' := by
  go_enter Try.func50, Try.ntmps50
  go_wp2
  · go_ret; exact ⟨ret_int (txt_m ‹_›), rfl⟩
  · go_ret; exact ⟨ret_int (txt_p ‹_› ‹_›), rfl⟩
  · go_ret; exact ⟨ret_int (txt_0 ‹_›), rfl⟩

set_option maxHeartbeats 400000 in
theorem compare64_any (a b : Nat) (w : World) :
    Calls Try.prog 64 #[.int .u64 a, .int .u64 b] w fun e w' => e = .returned (.int .i64 (num a b)) ∧ w = w' := by
  go_enter Try.func64, Try.ntmps64
  go_wp2
  all_goals (go_ret; exact ⟨by simp [num, *], rfl⟩)

theorem take_all {l : List Int} {k : Nat} (hk : k < l.length) (h : ∀ z ∈ l.take k, z = 0) (h0 : l[k] = 0) : ∀ z ∈ l.take (k + 1), z = 0 := by
  rw [List.take_succ_eq_append_getElem hk]
  intro z hz
  rcases List.mem_append.1 hz with hz | hz
  · exact h z hz
  · rw [List.mem_singleton.1 hz, h0]

set_option maxHeartbeats 400000 in
theorem or_any (A : Option Addr) (c : Nat) (zs : List Int) (w : World) (B : Nat) (h : Rd w B A (zs.map (Value.int .i64))) (hz : zs.length ≤ maxLen) :
    Calls Try.prog 58 #[.slice A zs.length c] w fun e w' => e = .returned (.int .i64 (first zs)) ∧ w = w' := by
  unfold maxLen at hz
  go_enter Try.func58, Try.ntmps58
  go_wp2
  go_loop [5, 8] (fun _ i => ∃ k : Nat, k ≤ zs.length ∧ (∀ z ∈ zs.take k, z = 0) ∧ i = .int .i64 k) (fun _ i => zs.length - (intOf i).toNat)
  case atStart => exact ⟨0, Nat.zero_le _, by simp, rfl⟩
  case round =>
    obtain ⟨k, hk, h0, rfl⟩ := hrel
    by_cases hlt : k < zs.length
    · obtain ⟨b, o, rfl, hb, hc⟩ := h.at_ (by intro e; simp at e; subst e; simp at hlt)
      have hcell : w.cell? ⟨b, o + k, none⟩ = some (.int .i64 zs[k]) := by rw [hc k (by simpa using hlt)]; simp
      have H0 : Hid _ := h0
      clear h0 hc h
      have hT := take_all hlt H0
      have HT : Hid _ := hT
      clear hT
      by_cases hz0 : zs[k] = 0
      · have hb : (zs[k] != 0) = false := by simp [hz0]
        have HZ : Hid _ := hz0
        clear hz0
        go_wp2
        go_round
        case rel => exact ⟨k + 1, by omega, HT HZ, by go_num⟩
        case measure => simp [intOf]; omega
      · have hb : (zs[k] != 0) = true := by simp [hz0]
        have HF : Hid _ := first_take hlt H0 hz0
        clear hz0
        go_wp2
        go_ret
        exact ⟨ret_int (HF.symm), rfl⟩
    · have HF : Hid _ := first_all (l := zs) (by rw [List.take_of_length_le (by omega)] at h0; exact h0)
      clear h0
      go_wp2
      go_ret
      exact ⟨ret_int HF.symm, rfl⟩
end Go.Proofs.Ytflppcgonbjnmaa
namespace Go.Proofs.Ytflppcgonbjnmaa
open Go.RowKit
attribute [local go_sem ↓] Go.wp_at_zero Go.wp_at_succ

theorem below2 (w : World) (o p : Obj) : Below w.heap.size w ((w.alloc o).alloc p) := ((Below.refl _ _).alloc (Nat.le_refl _) _).alloc (by simp) _

/-- cmp.Or of four numbers that lie in one new block -/
theorem or4_any (b : Nat) (x y z u : Int) (w : World) (h : w.cell? ⟨b, 0, none⟩ = some (.int .i64 x) ∧ w.cell? ⟨b, 1, none⟩ = some (.int .i64 y) ∧ w.cell? ⟨b, 2, none⟩ = some (.int .i64 z) ∧ w.cell? ⟨b, 3, none⟩ = some (.int .i64 u)) :
    Calls Try.prog 58 #[.slice (some ⟨b, 0, none⟩) 4 4] w fun e w' => e = .returned (.int .i64 (first [x, y, z, u])) ∧ w = w' :=
  or_any _ 4 [x, y, z, u] w (b + 1) (fun _ => ⟨b, 0, rfl, by omega, fun j hj => by
    obtain ⟨h0, h1, h2, h3⟩ := h
    match j, hj with
    | 0, _ => exact h0
    | 1, _ => exact h1
    | 2, _ => exact h2
    | 3, _ => exact h3⟩) (by simp [maxLen])

theorem first4 (x y z u : Int) : first [x, y, z, u] = if x = 0 then if y = 0 then if z = 0 then u else z else y else x := by
  simp only [first_cons, first_nil]
  by_cases hu : u = 0 <;> simp [hu]

theorem refcmp_1 {x y : Cl} (h : (txt x.row y.row != 0) = true) : txt x.row y.row = x.cmp y := by
  have h : txt x.row y.row ≠ 0 := by simpa using h
  simp [Cl.cmp, first4, h]
theorem refcmp_2 {x y : Cl} (h : (txt x.row y.row != 0) = false) (k : (txt x.col y.col != 0) = true) : txt x.col y.col = x.cmp y := by
  have h : txt x.row y.row = 0 := by simpa using h
  have k : txt x.col y.col ≠ 0 := by simpa using k
  simp [Cl.cmp, first4, h, k]
theorem refcmp_3 {x y : Cl} (h : (txt x.row y.row != 0) = false) (k : (txt x.col y.col != 0) = false) (l : y.ts < x.ts) : -1 = x.cmp y := by
  have h : txt x.row y.row = 0 := by simpa using h
  have k : txt x.col y.col = 0 := by simpa using k
  simp [Cl.cmp, first4, h, k, num, l]
theorem refcmp_4 {x y : Cl} (h : (txt x.row y.row != 0) = false) (k : (txt x.col y.col != 0) = false) (l : ¬ y.ts < x.ts) (m : x.ts < y.ts) : 1 = x.cmp y := by
  have h : txt x.row y.row = 0 := by simpa using h
  have k : txt x.col y.col = 0 := by simpa using k
  simp [Cl.cmp, first4, h, k, num, l, m]
theorem refcmp_5 {x y : Cl} (h : (txt x.row y.row != 0) = false) (k : (txt x.col y.col != 0) = false) (l : ¬ y.ts < x.ts) (m : ¬ x.ts < y.ts) (n : y.seq < x.seq) : -1 = x.cmp y := by
  have h : txt x.row y.row = 0 := by simpa using h
  have k : txt x.col y.col = 0 := by simpa using k
  simp [Cl.cmp, first4, h, k, num, l, m, n]
theorem refcmp_6 {x y : Cl} (h : (txt x.row y.row != 0) = false) (k : (txt x.col y.col != 0) = false) (l : ¬ y.ts < x.ts) (m : ¬ x.ts < y.ts) (n : ¬ y.seq < x.seq) (o : x.seq < y.seq) : 1 = x.cmp y := by
  have h : txt x.row y.row = 0 := by simpa using h
  have k : txt x.col y.col = 0 := by simpa using k
  simp [Cl.cmp, first4, h, k, num, l, m, n, o]
theorem refcmp_7 {x y : Cl} (h : (txt x.row y.row != 0) = false) (k : (txt x.col y.col != 0) = false) (l : ¬ y.ts < x.ts) (m : ¬ x.ts < y.ts) (n : ¬ y.seq < x.seq) (o : ¬ x.seq < y.seq) : 0 = x.cmp y := by
  have h : txt x.row y.row = 0 := by simpa using h
  have k : txt x.col y.col = 0 := by simpa using k
  simp [Cl.cmp, first4, h, k, num, l, m, n, o]
theorem below3 (w : World) (o p q : Obj) : Below w.heap.size w (((w.alloc o).alloc p).alloc q).drew := ((below2 w o p).alloc (by simp; omega) q).drew

set_option maxHeartbeats 1000000 in
theorem refCmp_any (x y : Cl) (w : World) :
    Calls Try.prog 38 #[x.agg, y.agg] w fun e w' => e = .returned (.int .i64 (x.cmp y)) ∧ Below w.heap.size w w' := by
  unfold Cl.agg
  go_enter Try.func38, Try.ntmps38
  go_wp2_with (go_at_call 50; refine (text_any _ _ _).mono ?_; rintro e w' ⟨rfl, rfl⟩)
  · go_ret; exact ⟨ret_int (refcmp_1 ‹_›), below2 _ _ _⟩
  · go_ret; exact ⟨ret_int (refcmp_2 ‹_› ‹_›), below2 _ _ _⟩
  · go_ret; exact ⟨ret_int (refcmp_3 ‹_› ‹_› ‹_›), below2 _ _ _⟩
  · go_ret; exact ⟨ret_int (refcmp_4 ‹_› ‹_› ‹_› ‹_›), below2 _ _ _⟩
  · go_ret; exact ⟨ret_int (refcmp_5 ‹_› ‹_› ‹_› ‹_› ‹_›), below2 _ _ _⟩
  · go_ret; exact ⟨ret_int (refcmp_6 ‹_› ‹_› ‹_› ‹_› ‹_› ‹_›), below2 _ _ _⟩
  · go_ret; exact ⟨ret_int (refcmp_7 ‹_› ‹_› ‹_› ‹_› ‹_› ‹_›), below2 _ _ _⟩

set_option maxHeartbeats 1000000 in
theorem cmp_any (x y : Cl) (w : World) :
    Calls Try.prog 59 #[x.agg, y.agg] w fun e w' => e = .returned (.int .i64 (x.cmp y)) ∧ Below w.heap.size w w' := by
  unfold Cl.agg
  go_enter Try.func59, Try.ntmps59
  go_wp2_with fail
  go_region_held3 (fun w' => w'.cell? ⟨w.heap.size, 0, none⟩ = some (.string x.row) ∧ w'.cell? ⟨w.heap.size, 1, none⟩ = some (.string x.col) ∧ w'.cell? ⟨w.heap.size, 2, none⟩ = some (.int .u64 x.ts) ∧ w'.cell? ⟨w.heap.size, 3, none⟩ = some (.int .u64 x.seq) ∧
     w'.cell? ⟨w.heap.size + 1, 0, none⟩ = some (.string y.row) ∧ w'.cell? ⟨w.heap.size + 1, 1, none⟩ = some (.string y.col) ∧ w'.cell? ⟨w.heap.size + 1, 2, none⟩ = some (.int .u64 y.ts) ∧ w'.cell? ⟨w.heap.size + 1, 3, none⟩ = some (.int .u64 y.seq)) (go_keep)
    (first | (go_at_call 63; refine (compare_any _ _ _).mono ?_; rintro e w' ⟨rfl, rfl⟩) | (go_at_call 64; refine (compare64_any _ _ _).mono ?_; rintro e w' ⟨rfl, rfl⟩) | (go_at_call 58; refine (or4_any _ (txt x.row y.row) (txt x.col y.col) (num y.ts x.ts) (num y.seq x.seq) _ ?_).mono ?_; (simp [World.cell?_alloc_at]); rintro e w' ⟨rfl, rfl⟩))
  go_wp2
  go_ret
  exact ⟨rfl, below3 _ _ _ _⟩
end Go.Proofs.Ytflppcgonbjnmaa
namespace Go.Proofs.Ytflppcgonbjnmaa
open Go.RowKit
attribute [local go_sem ↓] Go.wp_at_zero Go.wp_at_succ

theorem vals_ne {l : List Cl} {k : Nat} (h : k < l.length) : vals l ≠ [] := fun e => by
  have := length_vals l
  rw [e] at this
  simp at this
  omega

theorem if_same {α : Type} (p q r t u v : Prop) [Decidable p] [Decidable q] [Decidable r] [Decidable t] [Decidable u] [Decidable v] (b : Bool) (x y : α) (f : Bool → α) (hx : f false = x) (hy : f true = y) (hb : b = true ↔ p ∧ q ∧ r ∧ t ∧ u ∧ v) :
    (if p then if q then if r then if t then if u then if v then x else y else y else y else y else y else y) = f (!b) := by
  subst hx hy
  cases b with
  | true =>
    obtain ⟨h1, h2, h3, h4, h5, h6⟩ := hb.1 rfl
    simp [h1, h2, h3, h4, h5, h6]
  | false =>
    have hn : ¬ (p ∧ q ∧ r ∧ t ∧ u ∧ v) := fun h => by have := hb.2 h; cases this
    by_cases h1 : p <;> by_cases h2 : q <;> by_cases h3 : r <;> by_cases h4 : t <;> by_cases h5 : u <;> by_cases h6 : v <;> simp_all

theorem neq_cell (x y : Cl) (W : World) : (binOp .neq 53 x.agg y.agg).run Try.prog W = .ok (.bool (!decide (x = y))) W := by
  go_simp
  refine if_same _ _ _ _ _ _ _ _ _ (fun b => Result.ok (Value.bool b) W) rfl rfl ?_
  rw [decide_eq_true_iff]
  obtain ⟨r, c, t, s, d, v⟩ := x
  obtain ⟨r', c', t', s', d', v'⟩ := y
  constructor
  · intro h; cases h; simp
  · rintro ⟨h1, h2, h3, h4, h5, h6⟩
    cases toList_inj h1; cases toList_inj h2; cases toList_inj h6
    have e3 : t = t' := Int.ofNat.inj h3
    have e4 : s = s' := Int.ofNat.inj h4
    have e5 : d = d' := h5
    rw [e3, e4, e5]

theorem if_same' {α : Type} (p q r t u v : Prop) [Decidable p] [Decidable q] [Decidable r] [Decidable t] [Decidable u] [Decidable v] (b : Bool) (x y : α) (f : Bool → α) (hx : f true = x) (hy : f false = y) (hb : b = true ↔ p ∧ q ∧ r ∧ t ∧ u ∧ v) :
    (if p then if q then if r then if t then if u then if v then x else y else y else y else y else y else y) = f b := by
  have := if_same p q r t u v b x y (fun c => f (!c)) (by simpa using hx) (by simpa using hy) hb
  simpa using this
theorem cl_eq_iff (x y : Cl) : x = y ↔ x.row.toList = y.row.toList ∧ x.col.toList = y.col.toList ∧ (x.ts : Int) = y.ts ∧ (x.seq : Int) = y.seq ∧ x.del = y.del ∧ x.val.toList = y.val.toList := by
  obtain ⟨r, c, t, s, d, v⟩ := x
  obtain ⟨r', c', t', s', d', v'⟩ := y
  constructor
  · intro h; cases h; simp
  · rintro ⟨h1, h2, h3, h4, h5, h6⟩
    cases toList_inj h1; cases toList_inj h2; cases toList_inj h6
    have e3 : t = t' := Int.ofNat.inj h3
    have e4 : s = s' := Int.ofNat.inj h4
    have e5 : d = d' := h5
    rw [e3, e4, e5]
theorem eql_cell (x y : Cl) (W : World) : (binOp .eql 53 x.agg y.agg).run Try.prog W = .ok (.bool (decide (x = y))) W := by
  go_simp
  refine if_same' _ _ _ _ _ _ _ _ _ (fun b => Result.ok (Value.bool b) W) rfl rfl ?_
  rw [decide_eq_true_iff]
  exact cl_eq_iff x y
end Go.Proofs.Ytflppcgonbjnmaa
namespace Go.Proofs.Ytflppcgonbjnmaa
open Go.RowKit
attribute [local go_sem ↓] Go.wp_at_zero Go.wp_at_succ

def Cl.fits (c : Cl) : Prop := c.ts < 2 ^ 64 ∧ c.seq < 2 ^ 64

/-- the same prefix -/
def sameTo (l m : List Cl) (k : Nat) : Prop := l.take k = m.take k
theorem sameTo_succ {l m : List Cl} {k : Nat} (h : sameTo l m k) (hk : k < l.length) (hk' : k < m.length) (he : l[k] = m[k]) : sameTo l m (k + 1) := by
  unfold sameTo at *
  rw [List.take_succ_eq_append_getElem hk, List.take_succ_eq_append_getElem hk', h, he]
theorem sameTo_end {l m : List Cl} {k : Nat} (h : sameTo l m k) (hn : l.length = m.length) (hk : l.length ≤ k) : true = decide (l = m) := by
  unfold sameTo at h
  rw [List.take_of_length_le hk, List.take_of_length_le (by omega)] at h
  simp [h]
theorem sameTo_not {l m : List Cl} {k : Nat} (hk : k < l.length) (hk' : k < m.length) (he : l[k] ≠ m[k]) : false = decide (l = m) := by
  symm
  rw [decide_eq_false_iff_not]
  rintro rfl
  exact he rfl
theorem sameTo_len {l m : List Cl} (hn : ¬ l.length = m.length) : false = decide (l = m) := by
  symm
  rw [decide_eq_false_iff_not]
  rintro rfl
  exact hn rfl

set_option maxHeartbeats 1000000 in
theorem sameCells_any (A B : Option Addr) (c d : Nat) (l m : List Cl) (w : World) (D : Nat) (hl : Rd w D A (vals l)) (hm : Rd w D B (vals m)) (hlen : l.length ≤ maxLen) (_hlen' : m.length ≤ maxLen) :
    Calls Try.prog 12 #[.slice A l.length c, .slice B m.length d] w fun e w' => e = .returned (.bool (decide (l = m))) ∧ ∃ n, w' = w.drewN n := by
  unfold maxLen at hlen _hlen'
  by_cases hn : l.length = m.length
  · have hb : ((l.length : Int) != (m.length : Int)) = false := by simp [hn]
    have HN := Lib.hid hn
    clear hn
    go_enter Try.func12, Try.ntmps12
    go_wp2
    go_loopw [5] (fun i wr => ∃ k n : Nat, k ≤ l.length ∧ sameTo l m k ∧ i = .int .i64 k ∧ wr = w.drewN n) (fun i _ => l.length - (intOf i).toNat)
    case atStart => exact ⟨0, 0, Nat.zero_le _, rfl, rfl, rfl⟩
    case round =>
      obtain ⟨k, n, hk, hsame, rfl, rfl⟩ := hrel
      have HS := Lib.hid hsame
      clear hsame
      by_cases hlt : k < l.length
      · have hlt' : k < m.length := by have := HN.out; omega
        obtain ⟨b, o, rfl, hb, hc⟩ := hl.at_ (vals_ne hlt)
        obtain ⟨b', o', rfl, hb', hc'⟩ := hm.at_ (vals_ne hlt')
        obtain ⟨l0, l1, l2, l3, l4, l5⟩ := Rd.cell_at (_B := D) hc k hlt
        obtain ⟨m0, m1, m2, m3, m4, m5⟩ := Rd.cell_at (_B := D) hc' k hlt'
        clear hc hc' hl hm
        have hne := neq_cell l[k] m[k]
        unfold Cl.agg at hne
        by_cases heq : l[k] = m[k]
        · have HE := Lib.hid heq
          have ht : decide (l[k] = m[k]) = true := by simp [heq]
          clear heq
          go_wp2
          go_quiet (fail)
          go_wp2
          go_roundw
          case rel => exact ⟨k + 1, _, by omega, sameTo_succ HS.out hlt hlt' HE.out, by go_num, rfl⟩
          case measure => simp [intOf]; omega
        · have HE := Lib.hid heq
          have ht : decide (l[k] = m[k]) = false := by simp [heq]
          clear heq
          go_wp2
          go_quiet (fail)
          go_wp2
          go_ret
          exact ⟨ret_bool (sameTo_not hlt hlt' HE.out), _, World.drewN_drewN _ _ _⟩
      · have HE := Lib.hid (sameTo_end HS.out HN.out (by omega))
        go_wp2
        go_ret
        exact ⟨ret_bool HE.out, _, rfl⟩
  · have hb : ((l.length : Int) != (m.length : Int)) = true := by simp; omega
    have HN := Lib.hid hn
    clear hn
    go_enter Try.func12, Try.ntmps12
    go_wp2
    go_ret
    exact ⟨ret_bool (sameTo_len HN.out), 0, rfl⟩
end Go.Proofs.Ytflppcgonbjnmaa
