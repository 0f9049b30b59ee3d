/-
  The walks of the reference's Span, Row and Bytes.
-/
import Derived.Test.YtijicefakfpdcaaRefPut12
import Derived.Test.YtijicefakfpdcaaRefEncW12
namespace Go.Proofs.Ytijicefakfpdcaa
open Go.RowKit
attribute [local go_sem ↓] Go.wp_at_zero Go.wp_at_succ

theorem filter_take {α : Type} (p : α → Bool) {l : List α} {k : Nat} (h : k < l.length) : (l.take (k + 1)).filter p = (l.take k).filter p ++ (if p l[k] then [l[k]] else []) := by
  rw [List.take_succ_eq_append_getElem h, List.filter_append]
  cases hp : p l[k] <;> simp [hp]
/-- what the loop keeps: a row of its own with those that are in -/
def Flt (w W : World) (p : Cl → Bool) (l : List Cl) (k : Nat) (A : Option Addr) (n c : Nat) : Prop := n = ((l.take k).filter p).length ∧ Own W w.heap.size 31 6 A n c (vals ((l.take k).filter p)) ∧ Below w.heap.size w W
theorem Flt.no {w W : World} {p : Cl → Bool} {l : List Cl} {k n c : Nat} {A : Option Addr} (h : Flt w W p l k A n c) (hk : k < l.length) (hp : p l[k] = false) : Flt w W p l (k + 1) A n c := by
  unfold Flt at h ⊢
  rw [filter_take p hk, hp]
  simpa using h
theorem Flt.yes {w W W' : World} {p : Cl → Bool} {l : List Cl} {k n c c' : Nat} {A A' : Option Addr} (h : Flt w W p l k A n c) (hk : k < l.length) (hp : p l[k] = true) (ho : Own W' w.heap.size 31 6 A' (n + 1) c' (vals ((l.take k).filter p) ++ vals [l[k]])) (hb : Below w.heap.size w W') : Flt w W' p l (k + 1) A' (n + 1) c' := by
  unfold Flt
  rw [filter_take p hk, hp, if_pos rfl, ← vals_append]
  exact ⟨by rw [h.1]; simp, ho, hb⟩
theorem Flt.n_le {w W : World} {p : Cl → Bool} {l : List Cl} {k n c : Nat} {A : Option Addr} (h : Flt w W p l k A n c) : n ≤ l.length := by
  rw [h.1]
  exact Nat.le_trans (List.length_filter_le _ _) (by rw [List.length_take]; omega)

theorem nil_row (w : World) : Own (w.alloc (.cells #[] 31)) w.heap.size 31 6 (some ⟨w.heap.size, 0, none⟩) 0 0 (vals []) := World.ownsRow_lit w #[] 0 (Nat.le_refl _) (by simp [maxLen]) (by simp)

set_option maxHeartbeats 4000000 in
theorem refRow_any (A : Option Addr) (cap : Nat) (l : List Cl) (row : ByteArray) (w : World) (hl : Rd w w.heap.size A (vals l)) (hlen : l.length ≤ 1000) :
    Calls Try.prog 14 #[.slice A l.length cap, .string row] w fun e w' => GivesCells w (rowed l row) e w' := by
  obtain ⟨i0, hi0, hz0, hz1, hz2⟩ := info_parts cellInfo12
  have HL := Lib.hid hl
  have H0 : Hid (Flt w (w.alloc (.cells #[] 31)) (fun c => decide (c.row = row)) l 0 (some ⟨w.heap.size, 0, none⟩) 0 0) := Lib.hid ⟨rfl, nil_row w, (Below.refl _ _).alloc (Nat.le_refl _) _⟩
  clear hl
  go_enter Try.func14, Try.ntmps14
  go_wp2
  go_loopw [5, 6] (fun s i wr => ∃ (k : Nat) (A1 : Option Addr) (n1 c1 : Nat), s = .slice A1 n1 c1 ∧ i = .int .i64 k ∧ k ≤ l.length ∧ Hid (Flt w wr (fun c => decide (c.row = row)) l k A1 n1 c1)) (fun _ i _ => l.length - (intOf i).toNat)
  case atStart => exact ⟨0, _, 0, 0, rfl, rfl, Nat.zero_le _, H0⟩
  case round =>
    obtain ⟨k, A1, n1, c1, rfl, rfl, hk, HS⟩ := hrel
    rename World => wz
    have hzr := HS.out.2.2.size
    have hnl := HS.out.n_le
    by_cases hlt : k < l.length
    · obtain ⟨b, o, rfl, hb, hc⟩ := (HL.out.below HS.out.2.2).at_ (vals_ne hlt)
      obtain ⟨l0, l1, l2, l3, l4, l5⟩ := Rd.cell_at (B := 0) hc k hlt
      clear hc
      have hd : decide ((k : Int) < (l.length : Int)) = true := decide_eq_true (by omega)
      have i1 : (0 : Int) ≤ (k : Int) := by omega
      have i2 : (k : Int) < (l.length : Int) := by omega
      have hw1 : IntKind.i64.wrap ((k : Int) + 1) = ((k + 1 : Nat) : Int) := by rw [IntWalk.i64_in _ (by omega)]; omega
      by_cases hr : l[k].row = row
      · have HP : Hid ((fun c : Cl => decide (c.row = row)) l[k] = true) := Lib.hid (decide_eq_true hr)
        have hq : (l[k].row.toList == row.toList) = true := by rw [hr]; simp
        clear hr
        have hbn := (HS.out.2.2.alloc hzr (.cells #[.string l[k].row, .string l[k].col, .int .u64 l[k].ts, .int .u64 l[k].seq, .bool l[k].del, .string l[k].val] 31))
        have HBN := Lib.hid hbn
        have hrd : Rd (wz.alloc (.cells #[.string l[k].row, .string l[k].col, .int .u64 l[k].ts, .int .u64 l[k].seq, .bool l[k].del, .string l[k].val] 31)) (wz.heap.size + 1) (some ⟨wz.heap.size, 0, none⟩) (vals [l[k]]) := by
          have := Rd.ofBlock (CBox.new wz l[k]) (xs := vals [l[k]]) (by simp [vals, Cl.vals])
          rwa [World.size_alloc] at this
        have HRD := Lib.hid hrd
        clear hbn hrd
        go_wp2_with (at_builtin; go_loud (refine wpList_app _ rfl _ _ _ rfl w.heap.size 31 i0 zeroCell 6 72 Try.underlying22 hi0 hz0 hz1 hz2 rfl (by decide) A1 n1 c1 _ rfl (Own.alloc HS.out.2.1 _) _ (some ⟨wz.heap.size, 0, none⟩) 1 1 (vals [l[k]]) rfl HRD.out (by rw [length_vals]; rfl) (vals_one _) (by unfold maxLen; omega) (by omega) (by rw [World.size_alloc]; omega) ?_); intro A6 c6 w6 ho6 hg6 _)
        exact ⟨⟨k + 1, A6, n1 + 1, c6, rfl, by first | rfl | go_num, by omega, Lib.hid (HS.out.yes hlt HP.out ho6 (Own.grow (Own.alloc HS.out.2.1 _) HBN.out (by rw [World.size_alloc]; omega) (Nat.le_refl _) hg6))⟩, by simp [intOf]; omega⟩
      · have HP : Hid ((fun c : Cl => decide (c.row = row)) l[k] = false) := Lib.hid (decide_eq_false hr)
        have hq : (l[k].row.toList == row.toList) = false := by rw [beq_eq_false_iff_ne]; exact fun e => hr (toList_inj e)
        go_wp2
        exact ⟨⟨k + 1, A1, n1, c1, rfl, by first | rfl | go_num, by omega, Lib.hid (HS.out.no hlt HP.out)⟩, by simp [intOf]; omega⟩
    · have hk2 : k = l.length := by omega
      subst hk2
      have hf := HS.out
      unfold Flt at hf
      rw [List.take_length] at hf
      have HF := Lib.hid hf
      clear hf
      go_wp2
      go_ret
      obtain ⟨f1, f2, f3⟩ := HF.out
      subst f1
      exact ⟨A1, c1, rfl, f2, f3⟩
set_option maxHeartbeats 4000000 in
theorem refSpan_any (A : Option Addr) (cap : Nat) (l : List Cl) (f t : ByteArray) (w : World) (hl : Rd w w.heap.size A (vals l)) (hlen : l.length ≤ 1000) :
    Calls Try.prog 12 #[.slice A l.length cap, .string f, .string t] w fun e w' => GivesCells w (span l f t) e w' := by
  have he := empty_size t
  obtain ⟨i0, hi0, hz0, hz1, hz2⟩ := info_parts cellInfo12
  have HL := Lib.hid hl
  have H0 : Hid (Flt w (w.alloc (.cells #[] 31)) (fun c => spanned f t c.row) l 0 (some ⟨w.heap.size, 0, none⟩) 0 0) := Lib.hid ⟨rfl, nil_row w, (Below.refl _ _).alloc (Nat.le_refl _) _⟩
  clear hl
  go_enter Try.func12, Try.ntmps12
  go_wp2
  go_loopw [7, 8] (fun s i wr => ∃ (k : Nat) (A1 : Option Addr) (n1 c1 : Nat), s = .slice A1 n1 c1 ∧ i = .int .i64 k ∧ k ≤ l.length ∧ Hid (Flt w wr (fun c => spanned f t c.row) l k A1 n1 c1)) (fun _ i _ => l.length - (intOf i).toNat)
  case atStart => exact ⟨0, _, 0, 0, rfl, rfl, Nat.zero_le _, H0⟩
  case round =>
    obtain ⟨k, A1, n1, c1, rfl, rfl, hk, HS⟩ := hrel
    rename World => wz
    have hzr := HS.out.2.2.size
    have hnl := HS.out.n_le
    by_cases hlt : k < l.length
    · obtain ⟨b, o, rfl, hb, hc⟩ := (HL.out.below HS.out.2.2).at_ (vals_ne hlt)
      obtain ⟨l0, l1, l2, l3, l4, l5⟩ := Rd.cell_at (B := 0) hc k hlt
      clear hc
      have hd : decide ((k : Int) < (l.length : Int)) = true := decide_eq_true (by omega)
      have i1 : (0 : Int) ≤ (k : Int) := by omega
      have i2 : (k : Int) < (l.length : Int) := by omega
      have hw1 : IntKind.i64.wrap ((k : Int) + 1) = ((k + 1 : Nat) : Int) := by rw [IntWalk.i64_in _ (by omega)]; omega
      cases h1 : lt l[k].row f with
      | true =>
        have HP : Hid ((fun c : Cl => spanned f t c.row) l[k] = false) := Lib.hid (by show spanned f t l[k].row = false; unfold spanned; rw [h1]; rfl)
        have q1 : Op.bytesLess l[k].row.toList f.toList = true := h1
        clear h1 he
        go_wp2
        exact ⟨⟨k + 1, A1, n1, c1, rfl, by first | rfl | go_num, by omega, Lib.hid (HS.out.no hlt HP.out)⟩, by simp [intOf]; omega⟩
      | false =>
        have q1 : Op.bytesLess l[k].row.toList f.toList = false := h1
        by_cases h2 : t.toList = []
        · have q2 : (t.toList == []) = true := by rw [h2]; rfl
          have HP : Hid ((fun c : Cl => spanned f t c.row) l[k] = true) := Lib.hid (by show spanned f t l[k].row = true; unfold spanned; rw [h1, decide_eq_true h2]; rfl)
          clear h1 he h2
          have hbn := (HS.out.2.2.alloc hzr (.cells #[.string l[k].row, .string l[k].col, .int .u64 l[k].ts, .int .u64 l[k].seq, .bool l[k].del, .string l[k].val] 31))
          have HBN := Lib.hid hbn
          have hrd : Rd (wz.alloc (.cells #[.string l[k].row, .string l[k].col, .int .u64 l[k].ts, .int .u64 l[k].seq, .bool l[k].del, .string l[k].val] 31)) (wz.heap.size + 1) (some ⟨wz.heap.size, 0, none⟩) (vals [l[k]]) := by
            have := Rd.ofBlock (CBox.new wz l[k]) (xs := vals [l[k]]) (by simp [vals, Cl.vals])
            rwa [World.size_alloc] at this
          have HRD := Lib.hid hrd
          clear hbn hrd
          go_wp2_with (at_builtin; go_loud (refine wpList_app _ rfl _ _ _ rfl w.heap.size 31 i0 zeroCell 6 72 Try.underlying22 hi0 hz0 hz1 hz2 rfl (by decide) A1 n1 c1 _ rfl (Own.alloc HS.out.2.1 _) _ (some ⟨wz.heap.size, 0, none⟩) 1 1 (vals [l[k]]) rfl HRD.out (by rw [length_vals]; rfl) (vals_one _) (by unfold maxLen; omega) (by omega) (by rw [World.size_alloc]; omega) ?_); intro A6 c6 w6 ho6 hg6 _)
          exact ⟨⟨k + 1, A6, n1 + 1, c6, rfl, by first | rfl | go_num, by omega, Lib.hid (HS.out.yes hlt HP.out ho6 (Own.grow (Own.alloc HS.out.2.1 _) HBN.out (by rw [World.size_alloc]; omega) (Nat.le_refl _) hg6))⟩, by simp [intOf]; omega⟩
        · have q2 : (t.toList == []) = false := beq_eq_false_iff_ne.2 h2
          cases h3 : lt l[k].row t with
          | true =>
            have HP : Hid ((fun c : Cl => spanned f t c.row) l[k] = true) := Lib.hid (by show spanned f t l[k].row = true; unfold spanned; rw [h1, h3, decide_eq_false h2]; rfl)
            have q3 : Op.bytesLess l[k].row.toList t.toList = true := h3
            clear h1 he h2 h3
            have hbn := (HS.out.2.2.alloc hzr (.cells #[.string l[k].row, .string l[k].col, .int .u64 l[k].ts, .int .u64 l[k].seq, .bool l[k].del, .string l[k].val] 31))
            have HBN := Lib.hid hbn
            have hrd : Rd (wz.alloc (.cells #[.string l[k].row, .string l[k].col, .int .u64 l[k].ts, .int .u64 l[k].seq, .bool l[k].del, .string l[k].val] 31)) (wz.heap.size + 1) (some ⟨wz.heap.size, 0, none⟩) (vals [l[k]]) := by
              have := Rd.ofBlock (CBox.new wz l[k]) (xs := vals [l[k]]) (by simp [vals, Cl.vals])
              rwa [World.size_alloc] at this
            have HRD := Lib.hid hrd
            clear hbn hrd
            go_wp2_with (at_builtin; go_loud (refine wpList_app _ rfl _ _ _ rfl w.heap.size 31 i0 zeroCell 6 72 Try.underlying22 hi0 hz0 hz1 hz2 rfl (by decide) A1 n1 c1 _ rfl (Own.alloc HS.out.2.1 _) _ (some ⟨wz.heap.size, 0, none⟩) 1 1 (vals [l[k]]) rfl HRD.out (by rw [length_vals]; rfl) (vals_one _) (by unfold maxLen; omega) (by omega) (by rw [World.size_alloc]; omega) ?_); intro A6 c6 w6 ho6 hg6 _)
            exact ⟨⟨k + 1, A6, n1 + 1, c6, rfl, by first | rfl | go_num, by omega, Lib.hid (HS.out.yes hlt HP.out ho6 (Own.grow (Own.alloc HS.out.2.1 _) HBN.out (by rw [World.size_alloc]; omega) (Nat.le_refl _) hg6))⟩, by simp [intOf]; omega⟩
          | false =>
            have HP : Hid ((fun c : Cl => spanned f t c.row) l[k] = false) := Lib.hid (by show spanned f t l[k].row = false; unfold spanned; rw [h1, h3, decide_eq_false h2]; rfl)
            have q3 : Op.bytesLess l[k].row.toList t.toList = false := h3
            clear h1 he h2 h3
            go_wp2
            exact ⟨⟨k + 1, A1, n1, c1, rfl, by first | rfl | go_num, by omega, Lib.hid (HS.out.no hlt HP.out)⟩, by simp [intOf]; omega⟩
    · have hk2 : k = l.length := by omega
      subst hk2
      have hf := HS.out
      unfold Flt at hf
      rw [List.take_length] at hf
      have HF := Lib.hid hf
      clear hf
      go_wp2
      go_ret
      obtain ⟨f1, f2, f3⟩ := HF.out
      subst f1
      exact ⟨A1, c1, rfl, f2, f3⟩
theorem bytesOf_take {l : List Cl} {k : Nat} (h : k < l.length) : bytesOf (l.take (k + 1)) = bytesOf (l.take k) + encLen l[k] := by
  unfold bytesOf
  rw [List.take_succ_eq_append_getElem h, List.map_append, List.sum_append]
  simp
set_option maxHeartbeats 4000000 in
theorem refBytes_any (A : Option Addr) (cap : Nat) (l : List Cl) (w : World) (hl : Rd w w.heap.size A (vals l)) (hlen : l.length ≤ 1000) (hm : ∀ c ∈ l, may c = true) :
    Calls Try.prog 17 #[.slice A l.length cap] w fun e w' => e = .returned (.int .i64 (bytesOf l)) ∧ Below w.heap.size w w' := by
  have HL := Lib.hid hl
  have HM := Lib.hid hm
  clear hl hm
  go_enter Try.func17, Try.ntmps17
  go_wp2
  go_loopw [3, 4] (fun s i wr => ∃ (k : Nat), s = .int .i64 (bytesOf (l.take k)) ∧ i = .int .i64 k ∧ k ≤ l.length ∧ bytesOf (l.take k) ≤ 300 * k ∧ Hid (Below w.heap.size w wr)) (fun _ i _ => l.length - (intOf i).toNat)
  case atStart => exact ⟨0, rfl, rfl, Nat.zero_le _, by simp [bytesOf], Lib.hid (Below.refl _ _)⟩
  case round =>
    obtain ⟨k, rfl, rfl, hk, hby, HB⟩ := hrel
    rename World => wz
    by_cases hlt : k < l.length
    · have hmk := HM.out l[k] (List.getElem_mem hlt)
      have hel := encLen_le hmk
      have HBT := Lib.hid (bytesOf_take hlt)
      obtain ⟨b, o, rfl, hb, hc⟩ := (HL.out.below HB.out).at_ (vals_ne hlt)
      obtain ⟨l0, l1, l2, l3, l4, l5⟩ := Rd.cell_at (B := 0) hc k hlt
      have HMK := Lib.hid hmk
      clear hc hmk
      go_wp2_with (go_at_call 27; refine (refEncode_ok l[k] _ HMK.out).mono ?_; rintro e w3 ⟨s, rfl, hs, hb3⟩; have HB3 := Lib.hid (HB.out.trans (hb3.mono HB.out.size)); clear hb3)
      exact ⟨⟨k + 1, by rw [HBT.out]; first | rfl | go_num, by first | rfl | go_num, by omega, by rw [HBT.out]; omega, HB3⟩, by simp [intOf]; omega⟩
    · have hk2 : k = l.length := by omega
      subst hk2
      go_wp2
      go_ret
      rw [List.take_length]
      exact ⟨rfl, HB.out⟩
end Go.Proofs.Ytijicefakfpdcaa
