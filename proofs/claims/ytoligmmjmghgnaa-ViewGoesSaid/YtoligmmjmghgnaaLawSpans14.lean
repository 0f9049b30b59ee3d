/-
  The walk of the law ViewSpans.
-/
import Derived.Test.YtoligmmjmghgnaaBounded14
namespace Go.Proofs.Ytoligmmjmghgnaa
open Go.RowKit Go.Shelf
attribute [local go_sem ↓] Go.wp_at_zero Go.wp_at_succ

theorem rd_lists {w : World} {g : Nat} {T : TypeId} {c : Array Value} {L : List Cs} (h : c.toList = L.map Cs.val) (hg : w.heap.size = g) : Rd (w.alloc (.cells c T)) (w.alloc (.cells c T)).heap.size (some ⟨g, 0, none⟩) (L.map Cs.val) := by
  rw [← hg]
  exact Rd.ofBlock (heap_alloc_new w (.cells c T)) h
theorem scan_w (Aq : Option Addr) (c N at_ : Nat) (L : List Cs) (fr tl : ByteArray) (w : World) (hA : Rd w w.heap.size Aq (L.map Cs.val)) (hl : CsIn w w.heap.size L) (hN : L.length = N) (hlen : N ≤ 1000) (htot : (L.flatMap Cs.l).length ≤ 1000) :
    Calls Try.prog 9 #[.slice Aq N c, .int .u64 (at_ : Int), .string fr, .string tl] w fun e w' => ∃ (A' : Option Addr) (n' c' : Nat) (m : List Cl), e = .returned (.slice A' n' c') ∧ n' ≤ 1000 ∧ Once Cl.lt (allOf L at_) m ∧ OwnC w' w.heap.size A' n' c' (scanP m fr tl) ∧ Below w.heap.size w w' := by
  refine (scan_any Aq c N at_ L fr tl w hA hl hN hlen (by omega)).mono ?_
  rintro e w' ⟨A', n', c', m, rfl, hm, ho, hb⟩
  refine ⟨A', n', c', m, rfl, ?_, hm, ho, hb⟩
  have h1 := ho.len
  have h2 : (scanP m fr tl).length ≤ m.length := List.length_filter_le _ _
  have h3 := hm.length_le cl_weak
  have h4 : (allOf L at_).length ≤ (L.flatMap Cs.l).length := List.length_filter_le _ _
  omega
set_option maxRecDepth 10000 in
set_option maxHeartbeats 2000000 in
theorem spans_wide (A : Option Addr) (c N at_ : Nat) (l : List Cl) (fr tl : ByteArray) (w : World) (hl : Rd w w.heap.size A (cls l)) (hN : l.length = N) (hlen : N ≤ maxLen) (h : bnd l = false ∨ 100 < fr.size ∨ 100 < tl.size) :
    Calls Try.prog 5 #[.slice A N c, .int .u64 (at_ : Int), .string fr, .string tl] w fun e w' => e = .returned (.bool true) ∧ Below w.heap.size w w' := by
  have HBD := Lib.hid (bounded_w A c N l w _ hl hN hlen)
  clear hl hN
  cases hb : bnd l with
  | false =>
    go_enter Try.func5, Try.ntmps5
    go_wp2_with (first
      | (go_at_call 12; refine HBD.out.mono ?_; rintro e w1 ⟨rfl, rfl⟩; rw [hb])
      | (go_at_call 8; refine (shown_any _).mono ?_; rintro e w2 ⟨rfl, hb2⟩))
    go_ret
    exact ⟨rfl, hb2⟩
  | true =>
    by_cases h1 : 100 < fr.size
    · have e1 : decide ((100 : Int) < (fr.size : Int)) = true := decide_eq_true (by omega)
      go_enter Try.func5, Try.ntmps5
      go_wp2_with (first
        | (go_at_call 12; refine HBD.out.mono ?_; rintro e w1 ⟨rfl, rfl⟩; rw [hb])
        | (go_at_call 8; refine (shown_any _).mono ?_; rintro e w2 ⟨rfl, hb2⟩))
      go_ret
      exact ⟨rfl, hb2⟩
    have e1 : decide ((100 : Int) < (fr.size : Int)) = false := decide_eq_false (by omega)
    have h2 : 100 < tl.size := by
      rcases h with h | h | h
      · rw [hb] at h; cases h
      · exact absurd h h1
      · exact h
    have e2 : decide ((100 : Int) < (tl.size : Int)) = true := decide_eq_true (by omega)
    go_enter Try.func5, Try.ntmps5
    go_wp2_with (first
      | (go_at_call 12; refine HBD.out.mono ?_; rintro e w1 ⟨rfl, rfl⟩; rw [hb])
      | (go_at_call 8; refine (shown_any _).mono ?_; rintro e w2 ⟨rfl, hb2⟩))
    go_ret
    exact ⟨rfl, hb2⟩
set_option maxRecDepth 10000 in
set_option maxHeartbeats 4000000 in
theorem spans_any (A : Option Addr) (c N at_ : Nat) (l : List Cl) (fr tl : ByteArray) (w : World) (hl : Rd w w.heap.size A (cls l)) (hN : l.length = N) (hlen : N ≤ maxLen) (hb : bnd l = true) (h1 : fr.size ≤ 100) (h2 : tl.size ≤ 100) :
    Calls Try.prog 5 #[.slice A N c, .int .u64 (at_ : Int), .string fr, .string tl] w fun e w' => e = .returned (.bool true) ∧ Below w.heap.size w w' := by
  have HBD := Lib.hid (bounded_w A c N l w _ hl hN hlen)
  have e1 : decide ((100 : Int) < (fr.size : Int)) = false := decide_eq_false (by omega)
  have e2 : decide ((100 : Int) < (tl.size : Int)) = false := decide_eq_false (by omega)
  have hn60 : N ≤ 60 := by rw [← hN]; exact bnd_len hb
  have HL := Lib.hid hl
  have HN := Lib.hid hN
  obtain ⟨L, hL⟩ : ∃ L : List Cs, L = [⟨A, c, l⟩] := ⟨_, rfl⟩
  have HLL := Lib.hid hL
  have hLv : L.map Cs.val = [.slice A N c] := by rw [hL, ← hN]; rfl
  have hLn : L.length = 1 := by rw [hL]; rfl
  have hLt : (L.flatMap Cs.l).length ≤ 1000 := by rw [hL]; simp; omega
  have HLV := Lib.hid hLv
  have hcs : ∀ W, Below w.heap.size w W → CsIn W W.heap.size L := fun W hb x hx => by
    rw [HLL.out, List.mem_singleton] at hx
    subst hx
    exact (HL.out.below hb).more hb.size
  have HCS := Lib.hid hcs
  clear hl hN hL hLv hcs
  go_enter Try.func5, Try.ntmps5
  go_wp2_with (first
    | (go_at_call 12; refine HBD.out.mono ?_; rintro e w1 ⟨rfl, rfl⟩; rw [hb])
    | (go_at_call 8; refine (shown_any _).mono ?_; rintro e w2 ⟨rfl, hb2⟩; have HB2 := Lib.hid hb2; clear hb2)
    | (go_at_call 9; refine (scan_w (some ⟨w2.heap.size, 0, none⟩) 1 1 at_ L ⟨#[]⟩ ⟨#[]⟩ (w2.alloc (.cells #[.slice A N c] 26)) (rd_lists (by rw [HLV.out]) rfl) (HCS.out _ (HB2.out.trans ((below_al w2 _).mono HB2.out.size))) hLn (by omega) hLt).mono ?_; rintro e w4 ⟨A4, n4, c4, m, rfl, hn4, hm, ho4, hb4⟩))
  have HB4 := Lib.hid ((HB2.out.trans ((below_al w2 (.cells #[.slice A N c] 26)).mono HB2.out.size)).trans (hb4.mono (Nat.le_trans HB2.out.size (below_al w2 _).size)))
  have HRL := Lib.hid (show Rd w4 w4.heap.size (some ⟨w2.heap.size, 0, none⟩) (L.map Cs.val) from ((rd_lists (w := w2) (T := 26) (c := #[.slice A N c]) (L := L) (by rw [HLV.out]) rfl).below hb4).more hb4.size)
  obtain ⟨S, hS⟩ : ∃ S, scanP m ⟨#[]⟩ ⟨#[]⟩ = S := ⟨_, rfl⟩
  rw [hS] at ho4
  have HS := Lib.hid hS
  have HM := Lib.hid hm
  have HO4 := Lib.hid ho4
  have HSL := Lib.hid ho4.len
  have HO0 := Lib.hid (show OwnC (w4.alloc (.cells #[] 29)) w4.heap.size (some ⟨w4.heap.size, 0, none⟩) 0 0 ((S.take 0).filter (fun c => inR fr tl c.row)) from Own.new0' w4 _ 6)
  have HB0 := Lib.hid (below_al w4 (.cells #[] 29))
  clear hS hm ho4 hb4 e1 e2
  go_loopw [11, 12] (fun vo vi wr => ∃ (k no : Nat) (Ao : Option Addr) (co : Nat), vo = .slice Ao no co ∧ vi = .int .i64 (k : Int) ∧ k ≤ n4 ∧ no ≤ k ∧ Hid (OwnC wr w4.heap.size Ao no co ((S.take k).filter (fun c => inR fr tl c.row))) ∧ Hid (Below w4.heap.size w4 wr)) (fun _ vi _ => n4 - (intOf vi).toNat)
  case atStart => exact ⟨0, 0, _, 0, rfl, rfl, Nat.zero_le _, Nat.le_refl _, HO0, HB0⟩
  case round =>
    obtain ⟨k, no, Ao, co, rfl, rfl, hk, hno, HO, HB⟩ := hrel
    rename World => wr
    clear HO0 HB0
    by_cases hlt : k < n4
    · have e1 : decide ((k : Int) < (n4 : Int)) = true := decide_eq_true (by omega)
      have k1 : (0 : Int) ≤ (k : Int) := by omega
      have k2 : (k : Int) < (n4 : Int) := by omega
      have hkl : k < S.length := by rw [HSL.out]; exact hlt
      obtain ⟨b, o, rfl, hbl, hr⟩ := rd_elem ((OwnC.rd HO4.out).below HB.out) hkl
      have hfn := filter_next (q := fun c => inR fr tl c.row) hkl
      obtain ⟨x, hx⟩ : ∃ x, S[k] = x := ⟨_, rfl⟩
      rw [hx] at hr hfn
      have c0 : wr.cell? ⟨b, o + k * 6, none⟩ = some (.string x.row) := hr 0 _ rfl
      have HR := Lib.hid hr
      have HFN := Lib.hid hfn
      have q1 := bl_lt x.row fr
      have q2 := bl_lt x.row tl
      have q3 := empty_size tl
      clear hr hx hfn
      rcases inR_cases fr tl x.row with ⟨h1, h2⟩ | ⟨h1, h2, h3⟩ | ⟨h1, h2, h3⟩
      · rw [h1] at q1
        have HFX := Lib.hid (show (S.take (k + 1)).filter (fun c => inR fr tl c.row) = (S.take k).filter (fun c => inR fr tl c.row) by rw [HFN.out, h2]; exact List.append_nil _)
        clear q2 q3 h1 h2
        go_wp2
        exact ⟨⟨k + 1, no, Ao, co, rfl, by first | rfl | go_num, by omega, by omega, Lib.hid (by rw [HFX.out]; exact HO.out), HB⟩, by simp [intOf]; omega⟩
      · rw [h1] at q1
        rw [decide_eq_true h2] at q3
        have HFX := Lib.hid (show (S.take (k + 1)).filter (fun c => inR fr tl c.row) = (S.take k).filter (fun c => inR fr tl c.row) ++ [x] by rw [HFN.out, h3]; rfl)
        clear q2 h1 h2 h3
        go_wp2_with (first
          | (show wpList _ _ _ ({ dst := some 67, op := Op.load _ _, type := _, pos := _, after := _, guard := _ } :: _) _ _; refine wpList_load_mid rfl 29 (.tmp 66) rfl b (o + k * 6) rfl [.string x.row, .string x.col, .int .u64 x.ts, .int .u64 x.seq, .bool x.del, .string x.val] _ HR.out Try.underlying29 rfl (by kernel_rfl) ?_)
          | (at_builtin; show wpList _ _ _ ({ dst := some 69, op := _, type := _, pos := _, after := _, guard := _ } :: _) _ _; go_loud (refine cells_app rfl _ _ rfl w4.heap.size Ao no co (no + 1) ((S.take k).filter (fun c => inR fr tl c.row)) [x] rfl (OwnC.below HO.out (below_al _ _)) (some ⟨wr.heap.size, 0, none⟩) 1 1 rfl (rd_made x rfl rfl) rfl rfl (by omega) (by rw [World.size_alloc]; have := HB.out.size; omega) ?_); intro A8 c8 w8 HO8 HG8; rw [← HFX.out] at HO8; have HB8 := Lib.hid (Own.grow (OwnC.below HO.out (below_al _ _)) (HB.out.trans ((below_al _ _).mono HB.out.size)) (by rw [World.size_alloc]; have := HB.out.size; omega) (Nat.le_refl _) HG8.out)))
        exact ⟨⟨k + 1, no + 1, A8, c8, rfl, by first | rfl | go_num, by omega, by omega, HO8, HB8⟩, by simp [intOf]; omega⟩
      · rw [h1] at q1
        rw [decide_eq_false h2] at q3
        cases h5 : lt x.row tl with
        | false =>
          rw [h5] at q2 h3
          have HFX := Lib.hid (show (S.take (k + 1)).filter (fun c => inR fr tl c.row) = (S.take k).filter (fun c => inR fr tl c.row) by rw [HFN.out, h3]; exact List.append_nil _)
          clear h1 h2 h3 h5
          go_wp2
          exact ⟨⟨k + 1, no, Ao, co, rfl, by first | rfl | go_num, by omega, by omega, Lib.hid (by rw [HFX.out]; exact HO.out), HB⟩, by simp [intOf]; omega⟩
        | true =>
          rw [h5] at q2 h3
          have HFX := Lib.hid (show (S.take (k + 1)).filter (fun c => inR fr tl c.row) = (S.take k).filter (fun c => inR fr tl c.row) ++ [x] by rw [HFN.out, h3]; rfl)
          clear h1 h2 h3 h5
          go_wp2_with (first
            | (show wpList _ _ _ ({ dst := some 67, op := Op.load _ _, type := _, pos := _, after := _, guard := _ } :: _) _ _; refine wpList_load_mid rfl 29 (.tmp 66) rfl b (o + k * 6) rfl [.string x.row, .string x.col, .int .u64 x.ts, .int .u64 x.seq, .bool x.del, .string x.val] _ HR.out Try.underlying29 rfl (by kernel_rfl) ?_)
            | (at_builtin; show wpList _ _ _ ({ dst := some 69, op := _, type := _, pos := _, after := _, guard := _ } :: _) _ _; go_loud (refine cells_app rfl _ _ rfl w4.heap.size Ao no co (no + 1) ((S.take k).filter (fun c => inR fr tl c.row)) [x] rfl (OwnC.below HO.out (below_al _ _)) (some ⟨wr.heap.size, 0, none⟩) 1 1 rfl (rd_made x rfl rfl) rfl rfl (by omega) (by rw [World.size_alloc]; have := HB.out.size; omega) ?_); intro A8 c8 w8 HO8 HG8; rw [← HFX.out] at HO8; have HB8 := Lib.hid (Own.grow (OwnC.below HO.out (below_al _ _)) (HB.out.trans ((below_al _ _).mono HB.out.size)) (by rw [World.size_alloc]; have := HB.out.size; omega) (Nat.le_refl _) HG8.out)))
          exact ⟨⟨k + 1, no + 1, A8, c8, rfl, by first | rfl | go_num, by omega, by omega, HO8, HB8⟩, by simp [intOf]; omega⟩
    · have e1 : decide ((k : Int) < (n4 : Int)) = false := decide_eq_false (by omega)
      have ho := HO.out
      rw [show S.take k = S from List.take_of_length_le (by rw [HSL.out]; omega), ← HS.out, ← scan_span m fr tl ⟨#[]⟩ rfl] at ho
      have HOF := Lib.hid ho
      have HBr := Lib.hid (HB4.out.trans (HB.out.mono HB4.out.size))
      have HRLr := Lib.hid ((HRL.out.below HB.out).more HB.out.size)
      clear ho
      go_wp2_with (first
        | (go_at_call 9; refine (scan_w (some ⟨w2.heap.size, 0, none⟩) 1 1 at_ L fr tl wr HRLr.out (HCS.out _ HBr.out) hLn (by omega) hLt).mono ?_; rintro e w6 ⟨A6, n6, c6, m6, rfl, hn6, hm6, ho6, hb6⟩; have hmm := Once.unique cl_weak hm6 HM.out; rw [hmm] at ho6; clear hmm hm6; have HO6 := Lib.hid ho6; have HOF6 := Lib.hid (OwnC.below HOF.out hb6); have HB6 := Lib.hid (HBr.out.trans (hb6.mono HBr.out.size)); clear ho6 hb6)
        | (go_at_call 13; refine (sameCells_w A6 Ao c6 co n6 no _ _ _ (OwnC.rd HO6.out) (OwnC.rd HOF6.out) (OwnC.len HO6.out) (OwnC.len HOF6.out) (by unfold maxLen; omega) (by unfold maxLen; omega)).mono ?_; rw [decide_eq_true rfl]; rintro e w7 ⟨rfl, hb7⟩))
      go_ret
      exact ⟨rfl, HB6.out.trans (hb7.mono HB6.out.size)⟩
end Go.Proofs.Ytoligmmjmghgnaa
