/-
  The walk of the law ViewGoes.
-/
import Derived.Test.YtoligmmjmghgnaaLawSpans14
namespace Go.Proofs.Ytoligmmjmghgnaa
open Go.RowKit Go.Shelf
attribute [local go_sem ↓] Go.wp_at_zero Go.wp_at_succ

set_option maxRecDepth 10000 in
set_option maxHeartbeats 2000000 in
theorem goes_wide (A : Option Addr) (c N ts : Nat) (l : List Cl) (fr tl : ByteArray) (w : World) (hl : Rd w w.heap.size A (cls l)) (hN : l.length = N) (hlen : N ≤ maxLen) (h : bnd l = false ∨ 100 < fr.size ∨ 100 < tl.size) :
    Calls Try.prog 4 #[.slice A N c, .string fr, .string tl, .int .u64 (ts : Int)] w fun e w' => e = .returned (.bool true) ∧ Below w.heap.size w w' := by
  have HBD := Lib.hid (bounded_w A c N l w _ hl hN hlen)
  clear hl hN
  cases hb : bnd l with
  | false =>
    go_enter Try.func4, Try.ntmps4
    go_wp2_with (first
      | (go_at_call 12; refine HBD.out.mono ?_; rintro e w1 ⟨rfl, rfl⟩; rw [hb])
      | (go_at_call 8; refine (shown_any _).mono ?_; rintro e w2 ⟨rfl, hb2⟩))
    go_ret
    exact ⟨rfl, hb2⟩
  | true =>
    by_cases h1 : 100 < fr.size
    · have e1 : decide ((100 : Int) < (fr.size : Int)) = true := decide_eq_true (by omega)
      go_enter Try.func4, Try.ntmps4
      go_wp2_with (first
        | (go_at_call 12; refine HBD.out.mono ?_; rintro e w1 ⟨rfl, rfl⟩; rw [hb])
        | (go_at_call 8; refine (shown_any _).mono ?_; rintro e w2 ⟨rfl, hb2⟩))
      go_ret
      exact ⟨rfl, hb2⟩
    have e1 : decide ((100 : Int) < (fr.size : Int)) = false := decide_eq_false (by omega)
    have h2 : 100 < tl.size := by
      rcases h with h | h | h
      · rw [hb] at h; cases h
      · exact absurd h h1
      · exact h
    have e2 : decide ((100 : Int) < (tl.size : Int)) = true := decide_eq_true (by omega)
    go_enter Try.func4, Try.ntmps4
    go_wp2_with (first
      | (go_at_call 12; refine HBD.out.mono ?_; rintro e w1 ⟨rfl, rfl⟩; rw [hb])
      | (go_at_call 8; refine (shown_any _).mono ?_; rintro e w2 ⟨rfl, hb2⟩))
    go_ret
    exact ⟨rfl, hb2⟩
def seqTo (l : List Cl) (k top : Nat) : Prop := ∀ x ∈ l.take k, x.seq ≤ top
theorem seqTo.succ {l : List Cl} {k top t2 : Nat} (h : seqTo l k top) (hk : k < l.length) (h1 : top ≤ t2) (h2 : l[k].seq ≤ t2) : seqTo l (k + 1) t2 := fun x hx => by
  rw [List.take_succ_eq_append_getElem hk] at hx
  rcases List.mem_append.1 hx with hx | hx
  · exact Nat.le_trans (h x hx) h1
  · rw [List.mem_singleton.1 hx]; exact h2
theorem filter_at {α : Type} (P : α → Bool) {S : List α} {i : Nat} (hi : i < S.length) (hp : P S[i] = true) : ∃ h : ((S.take i).filter P).length < (S.filter P).length, (S.filter P)[((S.take i).filter P).length] = S[i] := by
  have e : S.filter P = (S.take i).filter P ++ S[i] :: (S.drop (i + 1)).filter P := by
    have h1 : S = S.take i ++ S[i] :: S.drop (i + 1) := by rw [List.getElem_cons_drop, List.take_append_drop]
    calc S.filter P = (S.take i ++ S[i] :: S.drop (i + 1)).filter P := by rw [← h1]
      _ = _ := by rw [List.filter_append, List.filter_cons, hp, if_pos rfl]
  have h : ((S.take i).filter P).length < (S.filter P).length := by rw [e]; simp
  refine ⟨h, ?_⟩
  have h2 : (S.filter P)[((S.take i).filter P).length]? = some S[i] := by rw [e]; simp
  rw [List.getElem?_eq_getElem h] at h2
  injection h2
theorem allOf_one {A : Option Addr} {c top : Nat} {l : List Cl} (h : ∀ x ∈ l, x.seq ≤ top) : allOf [⟨A, c, l⟩] top = l := by
  unfold allOf
  rw [List.flatMap_cons, List.flatMap_nil, List.append_nil, List.filter_eq_self]
  intro x hx
  rw [decide_eq_false (by have := h x hx; show ¬ top < x.seq; omega)]
  rfl
theorem allOf_two {A B : Option Addr} {c c' top : Nat} {l : List Cl} {d : Cl} (h : ∀ x ∈ l, x.seq ≤ top) (hd : d.seq = top + 1) : allOf [⟨A, c, l⟩, ⟨B, c', [d]⟩] (top + 1) = l ++ [d] := by
  unfold allOf
  rw [List.flatMap_cons, List.flatMap_cons, List.flatMap_nil, List.append_nil, List.filter_eq_self]
  intro x hx
  rcases List.mem_append.1 hx with hx | hx
  · rw [decide_eq_false (by have := h x hx; show ¬ top + 1 < x.seq; omega)]
    rfl
  · rw [List.mem_singleton.1 hx, hd, decide_eq_false (by omega)]
    rfl
theorem scan_z (Aq : Option Addr) (c N at_ : Nat) (z : Int) (hz : z = (at_ : Int)) (L : List Cs) (w : World) (hA : Rd w w.heap.size Aq (L.map Cs.val)) (hl : CsIn w w.heap.size L) (hN : L.length = N) (hlen : N ≤ 1000) (htot : (L.flatMap Cs.l).length ≤ 1000) :
    Calls Try.prog 9 #[.slice Aq N c, .int .u64 z, .string ⟨#[]⟩, .string ⟨#[]⟩] w fun e w' => ∃ (A' : Option Addr) (n' c' : Nat) (m : List Cl), e = .returned (.slice A' n' c') ∧ n' ≤ 1000 ∧ Once Cl.lt (allOf L at_) m ∧ OwnC w' w.heap.size A' n' c' (scanP m ⟨#[]⟩ ⟨#[]⟩) ∧ Below w.heap.size w w' := by
  subst hz
  exact scan_w Aq c N at_ L _ _ w hA hl hN hlen htot
theorem two_lists {w w4 : World} {A : Option Addr} {c N ts top : Nat} {l : List Cl} {fr tl : ByteArray} (hl : Rd w w.heap.size A (cls l)) (hN : l.length = N) (hb : Below w.heap.size w w4) :
    Rd ((w4.alloc (.cells #[.string fr, .string tl, .int .u64 (ts : Int), .int .u64 ((top : Int) + 1), .bool true, .string ⟨#[]⟩] 29)).alloc (.cells #[.slice A N c, .slice (some ⟨w4.heap.size, 0, none⟩) 1 1] 26)) ((w4.alloc (.cells #[.string fr, .string tl, .int .u64 (ts : Int), .int .u64 ((top : Int) + 1), .bool true, .string ⟨#[]⟩] 29)).alloc (.cells #[.slice A N c, .slice (some ⟨w4.heap.size, 0, none⟩) 1 1] 26)).heap.size (some ⟨w4.heap.size + 1, 0, none⟩) (([⟨A, c, l⟩, ⟨some ⟨w4.heap.size, 0, none⟩, 1, [(⟨fr, tl, ts, top + 1, true, ⟨#[]⟩⟩ : Cl)]⟩] : List Cs).map Cs.val) ∧ CsIn ((w4.alloc (.cells #[.string fr, .string tl, .int .u64 (ts : Int), .int .u64 ((top : Int) + 1), .bool true, .string ⟨#[]⟩] 29)).alloc (.cells #[.slice A N c, .slice (some ⟨w4.heap.size, 0, none⟩) 1 1] 26)) ((w4.alloc (.cells #[.string fr, .string tl, .int .u64 (ts : Int), .int .u64 ((top : Int) + 1), .bool true, .string ⟨#[]⟩] 29)).alloc (.cells #[.slice A N c, .slice (some ⟨w4.heap.size, 0, none⟩) 1 1] 26)).heap.size [⟨A, c, l⟩, ⟨some ⟨w4.heap.size, 0, none⟩, 1, [(⟨fr, tl, ts, top + 1, true, ⟨#[]⟩⟩ : Cl)]⟩] ∧ Below w.heap.size w ((w4.alloc (.cells #[.string fr, .string tl, .int .u64 (ts : Int), .int .u64 ((top : Int) + 1), .bool true, .string ⟨#[]⟩] 29)).alloc (.cells #[.slice A N c, .slice (some ⟨w4.heap.size, 0, none⟩) 1 1] 26)) := by
  have b1 := below_al w4 (.cells #[.string fr, .string tl, .int .u64 (ts : Int), .int .u64 ((top : Int) + 1), .bool true, .string ⟨#[]⟩] 29)
  have b2 := below_al (w4.alloc (.cells #[.string fr, .string tl, .int .u64 (ts : Int), .int .u64 ((top : Int) + 1), .bool true, .string ⟨#[]⟩] 29)) (.cells #[.slice A N c, .slice (some ⟨w4.heap.size, 0, none⟩) 1 1] 26)
  have b3 := hb.trans ((b1.trans (b2.mono b1.size)).mono hb.size)
  refine ⟨rd_lists (by rw [← hN]; rfl) (World.size_alloc _ _), fun x hx => ?_, b3⟩
  simp only [List.mem_cons, List.not_mem_nil, or_false] at hx
  rcases hx with rfl | rfl
  · exact (hl.below b3).more b3.size
  · exact (rd_made (⟨fr, tl, ts, top + 1, true, ⟨#[]⟩⟩ : Cl) (by simp [Cl.vals]) rfl).allocS _
def Cl.fit (c : Cl) : Prop := c.seq < 18446744073709551616
set_option maxRecDepth 10000 in
set_option maxHeartbeats 8000000 in
theorem goes_any (A : Option Addr) (c N ts : Nat) (l : List Cl) (fr tl : ByteArray) (w : World) (hl : Rd w w.heap.size A (cls l)) (hN : l.length = N) (hlen : N ≤ maxLen) (hb : bnd l = true) (h1 : fr.size ≤ 100) (h2 : tl.size ≤ 100) (hfit : ∀ x ∈ l, x.fit) :
    Calls Try.prog 4 #[.slice A N c, .string fr, .string tl, .int .u64 (ts : Int)] w fun e w' => e = .returned (.bool true) ∧ Below w.heap.size w w' := by
  have HBD := Lib.hid (bounded_w A c N l w _ hl hN hlen)
  have e1 : decide ((100 : Int) < (fr.size : Int)) = false := decide_eq_false (by omega)
  have e2 : decide ((100 : Int) < (tl.size : Int)) = false := decide_eq_false (by omega)
  have hn60 : N ≤ 60 := by rw [← hN]; exact bnd_len hb
  have HL := Lib.hid hl
  have HN := Lib.hid hN
  have HFIT := Lib.hid hfit
  clear hl hN hfit
  go_enter Try.func4, Try.ntmps4
  go_wp2_with (first
    | (go_at_call 12; refine HBD.out.mono ?_; rintro e w1 ⟨rfl, rfl⟩; rw [hb])
    | (go_at_call 8; refine (shown_any _).mono ?_; rintro e w2 ⟨rfl, hb2⟩; have HB2 := Lib.hid hb2; clear hb2))
  clear e1 e2
  go_loopw [9, 10] (fun vt vi wr => ∃ (k top : Nat), vt = .int .u64 (top : Int) ∧ vi = .int .i64 (k : Int) ∧ k ≤ N ∧ top < 18446744073709551616 ∧ Hid (seqTo l k top) ∧ wr = w2) (fun _ vi _ => N - (intOf vi).toNat)
  case atStart => exact ⟨0, 0, rfl, rfl, Nat.zero_le _, by omega, Lib.hid (fun x hx => by simp at hx), rfl⟩
  case round =>
    obtain ⟨k, top, rfl, rfl, hk, htop, HT, rfl⟩ := hrel
    rename World => wr
    by_cases hlt : k < N
    · have e1 : decide ((k : Int) < (N : Int)) = true := decide_eq_true (by omega)
      have k1 : (0 : Int) ≤ (k : Int) := by omega
      have k2 : (k : Int) < (N : Int) := by omega
      have hkl : k < l.length := by rw [HN.out]; exact hlt
      obtain ⟨b, o, rfl, hbl, hr⟩ := rd_elem (HL.out.below HB2.out) hkl
      have hfx := HFIT.out _ (List.getElem_mem hkl)
      have HS := Lib.hid (fun t2 h1 h2 => seqTo.succ (t2 := t2) HT.out hkl h1 h2)
      obtain ⟨x, hx⟩ : ∃ x, l[k] = x := ⟨_, rfl⟩
      rw [hx] at hr hfx HS
      have c3 : wr.cell? ⟨b, o + k * 6 + 3, none⟩ = some (.int .u64 (x.seq : Int)) := hr 3 _ rfl
      have hxf : x.seq < 18446744073709551616 := hfx
      clear hr hx hfx
      have HXF := Lib.hid hxf
      have HTP := Lib.hid htop
      clear hxf htop
      go_wp2
      exact ⟨⟨k + 1, max top x.seq, by first | rfl | (congr 1; split <;> omega), by first | rfl | go_num, by omega, by have := HXF.out; have := HTP.out; omega, Lib.hid (HS.out _ (Nat.le_max_left _ _) (Nat.le_max_right _ _)), by first | trivial | rfl⟩, by simp [intOf]; omega⟩
    · have e1 : decide ((k : Int) < (N : Int)) = false := decide_eq_false (by omega)
      have hall : ∀ x ∈ l, x.seq ≤ top := by
        have := HT.out
        unfold seqTo at this
        rwa [List.take_of_length_le (by rw [HN.out]; omega)] at this
      have HALL := Lib.hid hall
      clear hall
      by_cases hmx : top = 18446744073709551615
      · have e2 : ((top : Int) == 18446744073709551615) = true := by rw [beq_iff_eq, hmx]; rfl
        have e3 : (top == 18446744073709551615) = true := by rw [beq_iff_eq, hmx]
        clear htop
        have HMX := Lib.hid hmx
        clear hmx
        go_wp2
        go_ret
        exact ⟨rfl, HB2.out⟩
      · have e2 : ((top : Int) == 18446744073709551615) = false := by rw [beq_eq_false_iff_ne]; omega
        have e3 : (top == 18446744073709551615) = false := by rw [beq_eq_false_iff_ne]; exact hmx
        have hw1 : IntKind.u64.wrap ((top : Int) + 1) = (top : Int) + 1 := IntWalk.u64_in _ (by omega)
        clear htop hmx
        have HA1 := Lib.hid (allOf_one (A := A) (c := c) HALL.out)
        have HA2 := Lib.hid (fun B => allOf_two (A := A) (B := B) (c := c) (c' := 1) (d := (⟨fr, tl, ts, top + 1, true, ⟨#[]⟩⟩ : Cl)) HALL.out rfl)
        go_wp2_with (first
          | (go_at_call 9; have M := HA1; clear M; refine (scan_z (some ⟨wr.heap.size, 0, none⟩) 1 1 top _ rfl [⟨A, c, l⟩] (wr.alloc (.cells #[.slice A N c] 26)) (rd_lists (by rw [← HN.out]; rfl) rfl) (fun x hx => by rw [List.mem_singleton.1 hx]; exact (HL.out.below (HB2.out.trans ((below_al wr _).mono HB2.out.size))).more (Nat.le_trans HB2.out.size (below_al wr _).size)) rfl (by omega) (by simp; have := HN.out; omega)).mono ?_; rintro e w4 ⟨A4, n4, c4, m, rfl, hn4, hm, ho4, hb4⟩; have HM := Lib.hid (HA1.out ▸ hm : Once Cl.lt l m); have HO4 := Lib.hid ho4; have HB4 := Lib.hid ((HB2.out.trans ((below_al wr (.cells #[.slice A N c] 26)).mono HB2.out.size)).trans (hb4.mono (Nat.le_trans HB2.out.size (below_al wr _).size))); clear hm ho4 hb4 HA1)
          | (go_at_call 9; have M := HA2; clear M; refine (scan_z (some ⟨w4.heap.size + 1, 0, none⟩) 2 2 (top + 1) _ (by first | rfl | simp) [⟨A, c, l⟩, ⟨some ⟨w4.heap.size, 0, none⟩, 1, [(⟨fr, tl, ts, top + 1, true, ⟨#[]⟩⟩ : Cl)]⟩] ((w4.alloc (.cells #[.string fr, .string tl, .int .u64 (ts : Int), .int .u64 ((top : Int) + 1), .bool true, .string ⟨#[]⟩] 29)).alloc (.cells #[.slice A N c, .slice (some ⟨w4.heap.size, 0, none⟩) 1 1] 26)) (two_lists HL.out HN.out HB4.out).1 (two_lists HL.out HN.out HB4.out).2.1 rfl (by omega) (by simp; have := HN.out; omega)).mono ?_; rintro e w6 ⟨A6, n6, c6, m2, rfl, hn6, hm2, ho6, hb6⟩; have HM2 := Lib.hid (HA2.out _ ▸ hm2 : Once Cl.lt (l ++ [(⟨fr, tl, ts, top + 1, true, ⟨#[]⟩⟩ : Cl)]) m2); have HO6 := Lib.hid ho6; have HB6 := Lib.hid ((two_lists (c := c) (ts := ts) (top := top) (fr := fr) (tl := tl) HL.out HN.out HB4.out).2.2.trans (hb6.mono (two_lists (c := c) (ts := ts) (top := top) (fr := fr) (tl := tl) HL.out HN.out HB4.out).2.2.size)); have HO46 := Lib.hid (OwnC.below (OwnC.below (OwnC.below HO4.out (below_al _ (.cells #[.string fr, .string tl, .int .u64 (ts : Int), .int .u64 ((top : Int) + 1), .bool true, .string ⟨#[]⟩] 29))) (below_al _ (.cells #[.slice A N c, .slice (some ⟨w4.heap.size, 0, none⟩) 1 1] 26))) hb6); clear hm2 ho6 hb6 HA2 HO4))
        have hgs := goes_scan ⟨#[]⟩ rfl HM.out HM2.out (fun x hx => Nat.lt_succ_of_le (HALL.out x hx)) rfl
        obtain ⟨S, hS⟩ : ∃ S, scanP m ⟨#[]⟩ ⟨#[]⟩ = S := ⟨_, rfl⟩
        obtain ⟨P, hP⟩ : ∃ P : Cl → Bool, P = fun c => !(column (⟨fr, tl, ts, top + 1, true, ⟨#[]⟩⟩ : Cl) c && decide (c.ts ≤ ts)) := ⟨_, rfl⟩
        have hgs2 : scanP m2 ⟨#[]⟩ ⟨#[]⟩ = S.filter P := by rw [hgs, hS, hP]
        rw [hgs2] at HO6
        rw [hS] at HO46
        have HP := Lib.hid hP
        have HSL := Lib.hid HO46.out.len
        have HTL := Lib.hid HO6.out.len
        clear hgs hgs2 hS hP e1 e2 e3 hw1
        go_loopw [13, 14] (fun vk vi wq => ∃ i kk : Nat, vk = .int .i64 (kk : Int) ∧ vi = .int .i64 (i : Int) ∧ i ≤ n4 ∧ kk ≤ i ∧ Hid (((S.take i).filter P).length = kk) ∧ Hid (Below w6.heap.size w6 wq)) (fun _ vi _ => n4 - (intOf vi).toNat)
        case atStart => exact ⟨0, 0, rfl, rfl, Nat.zero_le _, Nat.le_refl _, Lib.hid rfl, Lib.hid (Below.refl _ _)⟩
        case round =>
          obtain ⟨i, kk, rfl, rfl, hi, hkk, HK, HB⟩ := hrel
          rename World => wq
          by_cases hlt : i < n4
          · have f1 : decide ((i : Int) < (n4 : Int)) = true := decide_eq_true (by omega)
            have f2 : (0 : Int) ≤ (i : Int) := by omega
            have f3 : (i : Int) < (n4 : Int) := by omega
            have hil : i < S.length := by rw [HSL.out]; exact hlt
            obtain ⟨b, o, rfl, hbl, hr⟩ := rd_elem ((OwnC.rd HO46.out).below HB.out) hil
            have hfn := filter_next (q := P) hil
            have hat := filter_at P hil
            obtain ⟨x, hx⟩ : ∃ x, S[i] = x := ⟨_, rfl⟩
            rw [hx] at hr hfn hat
            have c0 : wq.cell? ⟨b, o + i * 6, none⟩ = some (.string x.row) := hr 0 _ rfl
            have c1 : wq.cell? ⟨b, o + i * 6 + 1, none⟩ = some (.string x.col) := hr 1 _ rfl
            have c2 : wq.cell? ⟨b, o + i * 6 + 2, none⟩ = some (.int .u64 (x.ts : Int)) := hr 2 _ rfl
            have q1 := beq_name x.row fr
            have q2 := beq_name x.col tl
            have HFN := Lib.hid hfn
            have HAT := Lib.hid hat
            have HR := Lib.hid hr
            clear hx hfn hat hr
            by_cases g1 : x.row = fr
            · rw [decide_eq_true g1] at q1
              by_cases g2 : x.col = tl
              · rw [decide_eq_true g2] at q2
                by_cases g3 : x.ts ≤ ts
                · have q3 : decide (x.ts ≤ ts) = true := decide_eq_true g3
                  have hpx : P x = false := by rw [HP.out]; show (!(column (⟨fr, tl, ts, top + 1, true, ⟨#[]⟩⟩ : Cl) x && decide (x.ts ≤ ts))) = false; rw [column_eq.2 ⟨g1.symm, g2.symm⟩, q3]; rfl
                  have HF := Lib.hid (show ((S.take (i + 1)).filter P).length = kk by rw [HFN.out, hpx]; simpa using HK.out)
                  clear g1 g2 hpx
                  go_wp2
                  exact ⟨⟨i + 1, kk, rfl, by first | rfl | go_num, by omega, by omega, HF, HB⟩, by simp [intOf]; omega⟩
                · have q3 : decide (x.ts ≤ ts) = false := decide_eq_false g3
                  have hpx : P x = true := by rw [HP.out]; show (!(column (⟨fr, tl, ts, top + 1, true, ⟨#[]⟩⟩ : Cl) x && decide (x.ts ≤ ts))) = true; rw [q3, Bool.and_false]; rfl
                  have hx1 := HAT.out hpx
                  rw [HK.out] at hx1
                  obtain ⟨hkt, hke⟩ := hx1
                  obtain ⟨b', o', hA6, hbl', hr'⟩ := rd_elem ((OwnC.rd HO6.out).below HB.out) hkt
                  subst hA6
                  rw [hke] at hr'
                  have hk6 : kk < n6 := by rw [← HTL.out]; exact hkt
                  have HF := Lib.hid (show ((S.take (i + 1)).filter P).length = kk + 1 by rw [HFN.out, hpx, List.length_append, HK.out]; rfl)
                  have p1 : decide ((n6 : Int) ≤ (kk : Int)) = false := decide_eq_false (by omega)
                  have p2 : decide (n6 ≤ kk) = false := decide_eq_false (by omega)
                  have p3 : (0 : Int) ≤ (kk : Int) := by omega
                  have p4 : (kk : Int) < (n6 : Int) := by omega
                  have hne : ∀ W, (binOp .neq 29 (.agg x.vals.toArray) (.agg x.vals.toArray)).run Try.prog W = .ok (.bool false) W := fun W => by
                    have := neq_cell x x W
                    rw [decide_eq_true rfl] at this
                    exact this
                  have HC : wq.drew.rangeAt b' (o' + kk * 6) x.vals ∧ wq.drew.rangeAt b (o + i * 6) x.vals := ⟨hr', HR.out⟩
                  clear hr' hkt hke hpx
                  go_wp2
                  refine region_wz (fun W => W.rangeAt b' (o' + kk * 6) x.vals ∧ W.rangeAt b (o + i * 6) x.vals) none (by kernel_rfl) ?_
                  apply WZ.take (i := 0) (some 95) rfl rfl (by kernel_rfl) (by kernel_rfl) (by kernel_rfl) (calm_panic _) (by kernel_rfl)
                  case hy => (refine .inl ⟨by kernel_rfl, fun W hC => ?_⟩; (try dsimp only at hC); go_simp; (try simp only [hne]); rfl)
                  case hC => exact HC
                  case ha => (simp only [Act.put, List.setIfInBounds_toArray, List.set_cons_zero, List.set_cons_succ]; rfl)
                  apply WZ.take (i := 1) (some 96) rfl rfl (by kernel_rfl) (by kernel_rfl) (by kernel_rfl) (calm_panic _) (by kernel_rfl)
                  case hy => (refine .inl ⟨by kernel_rfl, fun W hC => ?_⟩; (try dsimp only at hC); go_simp; (try simp only [hne]); rfl)
                  case hC => exact HC
                  case ha => (simp only [Act.put, List.setIfInBounds_toArray, List.set_cons_zero, List.set_cons_succ]; rfl)
                  apply WZ.take (i := 2) (some 97) rfl rfl (by kernel_rfl) (by kernel_rfl) (by kernel_rfl) (calm_panic _) (by kernel_rfl)
                  case hy => (refine .inl ⟨by kernel_rfl, fun W hC => ?_⟩; (try dsimp only at hC); go_simp; (try simp only [hne]); rfl)
                  case hC => exact HC
                  case ha => (simp only [Act.put, List.setIfInBounds_toArray, List.set_cons_zero, List.set_cons_succ]; rfl)
                  apply WZ.take (i := 3) (some 98) rfl rfl (by kernel_rfl) (by kernel_rfl) (by kernel_rfl) (calm_panic _) (by kernel_rfl)
                  case hy => (refine .inl ⟨by kernel_rfl, fun W hC => ?_⟩; (try dsimp only at hC); go_simp; (try simp only [hne]); rfl)
                  case hC => exact HC
                  case ha => (simp only [Act.put, List.setIfInBounds_toArray, List.set_cons_zero, List.set_cons_succ]; rfl)
                  apply WZ.take (i := 4) (some 99) rfl rfl (by kernel_rfl) (by kernel_rfl) (by kernel_rfl) (calm_panic _) (by kernel_rfl)
                  case hy => (refine .inl ⟨by kernel_rfl, fun W hC => ?_⟩; (try dsimp only at hC); go_simp; (try simp only [hne]); rfl)
                  case hC => exact HC
                  case ha => (simp only [Act.put, List.setIfInBounds_toArray, List.set_cons_zero, List.set_cons_succ]; rfl)
                  apply WZ.take (i := 5) (some 100) rfl rfl (by kernel_rfl) (by kernel_rfl) (by kernel_rfl) (calm_panic _) (by kernel_rfl)
                  case hy => (refine .inl ⟨by kernel_rfl, fun W hC => ?_⟩; (try dsimp only at hC); go_simp; (try simp only [hne]); rfl)
                  case hC => exact HC
                  case ha => (simp only [Act.put, List.setIfInBounds_toArray, List.set_cons_zero, List.set_cons_succ]; rfl)
                  apply WZ.take (i := 6) (some 101) rfl rfl (by kernel_rfl) (by kernel_rfl) (by kernel_rfl) (calm_panic _) (by kernel_rfl)
                  case hy => (refine .inl ⟨by kernel_rfl, fun W hC => ?_⟩; (try dsimp only at hC); go_simp; (try simp only [hne]); rfl)
                  case hC => exact HC
                  case ha => (simp only [Act.put, List.setIfInBounds_toArray, List.set_cons_zero, List.set_cons_succ]; rfl)
                  apply WZ.take (i := 7) (some 102) rfl rfl (by kernel_rfl) (by kernel_rfl) (by kernel_rfl) (calm_panic _) (by kernel_rfl)
                  case hy => (refine .inl ⟨by kernel_rfl, fun W hC => ?_⟩; (try dsimp only at hC); go_simp; (try simp only [hne]); rfl)
                  case hC => exact HC
                  case ha => (simp only [Act.put, List.setIfInBounds_toArray, List.set_cons_zero, List.set_cons_succ]; rfl)
                  apply WZ.take (i := 8) (some 103) rfl rfl (by kernel_rfl) (by kernel_rfl) (by kernel_rfl) (calm_panic _) (by kernel_rfl)
                  case hy => first | (apply yieldsIf_load_mid (by kernel_rfl) _ _ rfl _ _ rfl; (case hS => (intro W hC; exact (show World.rangeAt _ _ _ (Cl.vals _) from hC.1))); (case hu => exact Try.underlying29); (case hd => rfl); (case hi => kernel_rfl)) | (apply yieldsIf_load_mid (by kernel_rfl) _ _ rfl _ _ rfl; (case hS => (intro W hC; exact (show World.rangeAt _ _ _ (Cl.vals _) from hC.2.1))); (case hu => exact Try.underlying29); (case hd => rfl); (case hi => kernel_rfl)) | (apply yieldsIf_load_mid (by kernel_rfl) _ _ rfl _ _ rfl; (case hS => (intro W hC; exact (show World.rangeAt _ _ _ (Cl.vals _) from hC.2.2.1))); (case hu => exact Try.underlying29); (case hd => rfl); (case hi => kernel_rfl)) | (apply yieldsIf_load_mid (by kernel_rfl) _ _ rfl _ _ rfl; (case hS => (intro W hC; exact (show World.rangeAt _ _ _ (Cl.vals _) from hC.2.2.2.1))); (case hu => exact Try.underlying29); (case hd => rfl); (case hi => kernel_rfl)) | (apply yieldsIf_load_mid (by kernel_rfl) _ _ rfl _ _ rfl; (case hS => (intro W hC; exact (show World.rangeAt _ _ _ (Cl.vals _) from hC.2.2.2))); (case hu => exact Try.underlying29); (case hd => rfl); (case hi => kernel_rfl)) | (apply yieldsIf_load_mid (by kernel_rfl) _ _ rfl _ _ rfl; (case hS => (intro W hC; exact (show World.rangeAt _ _ _ (Cl.vals _) from hC.2.2))); (case hu => exact Try.underlying29); (case hd => rfl); (case hi => kernel_rfl)) | (apply yieldsIf_load_mid (by kernel_rfl) _ _ rfl _ _ rfl; (case hS => (intro W hC; exact (show World.rangeAt _ _ _ (Cl.vals _) from hC.2))); (case hu => exact Try.underlying29); (case hd => rfl); (case hi => kernel_rfl)) | (apply yieldsIf_load_mid (by kernel_rfl) _ _ rfl _ _ rfl; (case hS => (intro W hC; exact (show World.rangeAt _ _ _ (Cl.vals _) from hC))); (case hu => exact Try.underlying29); (case hd => rfl); (case hi => kernel_rfl))
                  case hC => exact HC
                  case ha => (simp only [Act.put, List.setIfInBounds_toArray, List.set_cons_zero, List.set_cons_succ]; rfl)
                  apply WZ.take (i := 9) (some 104) rfl rfl (by kernel_rfl) (by kernel_rfl) (by kernel_rfl) (calm_panic _) (by kernel_rfl)
                  case hy => (refine .inl ⟨by kernel_rfl, fun W hC => ?_⟩; (try dsimp only at hC); go_simp; (try simp only [hne]); rfl)
                  case hC => exact HC
                  case ha => (simp only [Act.put, List.setIfInBounds_toArray, List.set_cons_zero, List.set_cons_succ]; rfl)
                  apply WZ.take (i := 10) (some 105) rfl rfl (by kernel_rfl) (by kernel_rfl) (by kernel_rfl) (calm_panic _) (by kernel_rfl)
                  case hy => (refine .inl ⟨by kernel_rfl, fun W hC => ?_⟩; (try dsimp only at hC); go_simp; (try simp only [hne]); rfl)
                  case hC => exact HC
                  case ha => (simp only [Act.put, List.setIfInBounds_toArray, List.set_cons_zero, List.set_cons_succ]; rfl)
                  apply WZ.take (i := 11) (some 106) rfl rfl (by kernel_rfl) (by kernel_rfl) (by kernel_rfl) (calm_panic _) (by kernel_rfl)
                  case hy => (refine .inl ⟨by kernel_rfl, fun W hC => ?_⟩; (try dsimp only at hC); go_simp; (try simp only [hne]); rfl)
                  case hC => exact HC
                  case ha => (simp only [Act.put, List.setIfInBounds_toArray, List.set_cons_zero, List.set_cons_succ]; rfl)
                  apply WZ.take (i := 12) (some 107) rfl rfl (by kernel_rfl) (by kernel_rfl) (by kernel_rfl) (calm_panic _) (by kernel_rfl)
                  case hy => first | (apply yieldsIf_load_mid (by kernel_rfl) _ _ rfl _ _ rfl; (case hS => (intro W hC; exact (show World.rangeAt _ _ _ (Cl.vals _) from hC.1))); (case hu => exact Try.underlying29); (case hd => rfl); (case hi => kernel_rfl)) | (apply yieldsIf_load_mid (by kernel_rfl) _ _ rfl _ _ rfl; (case hS => (intro W hC; exact (show World.rangeAt _ _ _ (Cl.vals _) from hC.2.1))); (case hu => exact Try.underlying29); (case hd => rfl); (case hi => kernel_rfl)) | (apply yieldsIf_load_mid (by kernel_rfl) _ _ rfl _ _ rfl; (case hS => (intro W hC; exact (show World.rangeAt _ _ _ (Cl.vals _) from hC.2.2.1))); (case hu => exact Try.underlying29); (case hd => rfl); (case hi => kernel_rfl)) | (apply yieldsIf_load_mid (by kernel_rfl) _ _ rfl _ _ rfl; (case hS => (intro W hC; exact (show World.rangeAt _ _ _ (Cl.vals _) from hC.2.2.2.1))); (case hu => exact Try.underlying29); (case hd => rfl); (case hi => kernel_rfl)) | (apply yieldsIf_load_mid (by kernel_rfl) _ _ rfl _ _ rfl; (case hS => (intro W hC; exact (show World.rangeAt _ _ _ (Cl.vals _) from hC.2.2.2))); (case hu => exact Try.underlying29); (case hd => rfl); (case hi => kernel_rfl)) | (apply yieldsIf_load_mid (by kernel_rfl) _ _ rfl _ _ rfl; (case hS => (intro W hC; exact (show World.rangeAt _ _ _ (Cl.vals _) from hC.2.2))); (case hu => exact Try.underlying29); (case hd => rfl); (case hi => kernel_rfl)) | (apply yieldsIf_load_mid (by kernel_rfl) _ _ rfl _ _ rfl; (case hS => (intro W hC; exact (show World.rangeAt _ _ _ (Cl.vals _) from hC.2))); (case hu => exact Try.underlying29); (case hd => rfl); (case hi => kernel_rfl)) | (apply yieldsIf_load_mid (by kernel_rfl) _ _ rfl _ _ rfl; (case hS => (intro W hC; exact (show World.rangeAt _ _ _ (Cl.vals _) from hC))); (case hu => exact Try.underlying29); (case hd => rfl); (case hi => kernel_rfl))
                  case hC => exact HC
                  case ha => (simp only [Act.put, List.setIfInBounds_toArray, List.set_cons_zero, List.set_cons_succ]; rfl)
                  apply WZ.take (i := 13) (some 108) rfl rfl (by kernel_rfl) (by kernel_rfl) (by kernel_rfl) (calm_panic _) (by kernel_rfl)
                  case hy => (refine .inl ⟨by kernel_rfl, fun W hC => ?_⟩; (try dsimp only at hC); go_simp; (try simp only [hne]); rfl)
                  case hC => exact HC
                  case ha => (simp only [Act.put, List.setIfInBounds_toArray, List.set_cons_zero, List.set_cons_succ]; rfl)
                  apply WZ.take (i := 14) (some 109) rfl rfl (by kernel_rfl) (by kernel_rfl) (by kernel_rfl) (calm_panic _) (by kernel_rfl)
                  case hy => (refine .inl ⟨by kernel_rfl, fun W hC => ?_⟩; (try dsimp only at hC); go_simp; (try simp only [hne]); rfl)
                  case hC => exact HC
                  case ha => (simp only [Act.put, List.setIfInBounds_toArray, List.set_cons_zero, List.set_cons_succ]; rfl)
                  refine WZ.done (by kernel_rfl) ?_ _
                  simp only [Calm, Exit.then]
                  clear HC
                  go_wp2
                  exact ⟨⟨i + 1, kk + 1, by first | rfl | go_num, by first | rfl | go_num, by omega, by omega, HF, Lib.hid HB.out.drew⟩, by simp [intOf]; omega⟩
              · rw [decide_eq_false g2] at q2
                have hpx : P x = true := by
                  rw [HP.out]
                  show (!(column (⟨fr, tl, ts, top + 1, true, ⟨#[]⟩⟩ : Cl) x && decide (x.ts ≤ ts))) = true
                  rw [show column (⟨fr, tl, ts, top + 1, true, ⟨#[]⟩⟩ : Cl) x = false by unfold column; rw [decide_eq_false (fun e : tl = x.col => g2 e.symm), Bool.and_false]]
                  rfl
                have hx1 := HAT.out hpx
                rw [HK.out] at hx1
                obtain ⟨hkt, hke⟩ := hx1
                obtain ⟨b', o', hA6, hbl', hr'⟩ := rd_elem ((OwnC.rd HO6.out).below HB.out) hkt
                subst hA6
                rw [hke] at hr'
                have hk6 : kk < n6 := by rw [← HTL.out]; exact hkt
                have HF := Lib.hid (show ((S.take (i + 1)).filter P).length = kk + 1 by rw [HFN.out, hpx, List.length_append, HK.out]; rfl)
                have p1 : decide ((n6 : Int) ≤ (kk : Int)) = false := decide_eq_false (by omega)
                have p2 : decide (n6 ≤ kk) = false := decide_eq_false (by omega)
                have p3 : (0 : Int) ≤ (kk : Int) := by omega
                have p4 : (kk : Int) < (n6 : Int) := by omega
                have hne : ∀ W, (binOp .neq 29 (.agg x.vals.toArray) (.agg x.vals.toArray)).run Try.prog W = .ok (.bool false) W := fun W => by
                  have := neq_cell x x W
                  rw [decide_eq_true rfl] at this
                  exact this
                have HC : wq.drew.rangeAt b' (o' + kk * 6) x.vals ∧ wq.drew.rangeAt b (o + i * 6) x.vals := ⟨hr', HR.out⟩
                clear hr' hkt hke hpx
                go_wp2
                refine region_wz (fun W => W.rangeAt b' (o' + kk * 6) x.vals ∧ W.rangeAt b (o + i * 6) x.vals) none (by kernel_rfl) ?_
                apply WZ.take (i := 0) (some 95) rfl rfl (by kernel_rfl) (by kernel_rfl) (by kernel_rfl) (calm_panic _) (by kernel_rfl)
                case hy => (refine .inl ⟨by kernel_rfl, fun W hC => ?_⟩; (try dsimp only at hC); go_simp; (try simp only [hne]); rfl)
                case hC => exact HC
                case ha => (simp only [Act.put, List.setIfInBounds_toArray, List.set_cons_zero, List.set_cons_succ]; rfl)
                apply WZ.take (i := 1) (some 96) rfl rfl (by kernel_rfl) (by kernel_rfl) (by kernel_rfl) (calm_panic _) (by kernel_rfl)
                case hy => (refine .inl ⟨by kernel_rfl, fun W hC => ?_⟩; (try dsimp only at hC); go_simp; (try simp only [hne]); rfl)
                case hC => exact HC
                case ha => (simp only [Act.put, List.setIfInBounds_toArray, List.set_cons_zero, List.set_cons_succ]; rfl)
                apply WZ.take (i := 2) (some 97) rfl rfl (by kernel_rfl) (by kernel_rfl) (by kernel_rfl) (calm_panic _) (by kernel_rfl)
                case hy => (refine .inl ⟨by kernel_rfl, fun W hC => ?_⟩; (try dsimp only at hC); go_simp; (try simp only [hne]); rfl)
                case hC => exact HC
                case ha => (simp only [Act.put, List.setIfInBounds_toArray, List.set_cons_zero, List.set_cons_succ]; rfl)
                apply WZ.take (i := 3) (some 98) rfl rfl (by kernel_rfl) (by kernel_rfl) (by kernel_rfl) (calm_panic _) (by kernel_rfl)
                case hy => (refine .inl ⟨by kernel_rfl, fun W hC => ?_⟩; (try dsimp only at hC); go_simp; (try simp only [hne]); rfl)
                case hC => exact HC
                case ha => (simp only [Act.put, List.setIfInBounds_toArray, List.set_cons_zero, List.set_cons_succ]; rfl)
                apply WZ.take (i := 4) (some 99) rfl rfl (by kernel_rfl) (by kernel_rfl) (by kernel_rfl) (calm_panic _) (by kernel_rfl)
                case hy => (refine .inl ⟨by kernel_rfl, fun W hC => ?_⟩; (try dsimp only at hC); go_simp; (try simp only [hne]); rfl)
                case hC => exact HC
                case ha => (simp only [Act.put, List.setIfInBounds_toArray, List.set_cons_zero, List.set_cons_succ]; rfl)
                apply WZ.take (i := 5) (some 100) rfl rfl (by kernel_rfl) (by kernel_rfl) (by kernel_rfl) (calm_panic _) (by kernel_rfl)
                case hy => (refine .inl ⟨by kernel_rfl, fun W hC => ?_⟩; (try dsimp only at hC); go_simp; (try simp only [hne]); rfl)
                case hC => exact HC
                case ha => (simp only [Act.put, List.setIfInBounds_toArray, List.set_cons_zero, List.set_cons_succ]; rfl)
                apply WZ.take (i := 6) (some 101) rfl rfl (by kernel_rfl) (by kernel_rfl) (by kernel_rfl) (calm_panic _) (by kernel_rfl)
                case hy => (refine .inl ⟨by kernel_rfl, fun W hC => ?_⟩; (try dsimp only at hC); go_simp; (try simp only [hne]); rfl)
                case hC => exact HC
                case ha => (simp only [Act.put, List.setIfInBounds_toArray, List.set_cons_zero, List.set_cons_succ]; rfl)
                apply WZ.take (i := 7) (some 102) rfl rfl (by kernel_rfl) (by kernel_rfl) (by kernel_rfl) (calm_panic _) (by kernel_rfl)
                case hy => (refine .inl ⟨by kernel_rfl, fun W hC => ?_⟩; (try dsimp only at hC); go_simp; (try simp only [hne]); rfl)
                case hC => exact HC
                case ha => (simp only [Act.put, List.setIfInBounds_toArray, List.set_cons_zero, List.set_cons_succ]; rfl)
                apply WZ.take (i := 8) (some 103) rfl rfl (by kernel_rfl) (by kernel_rfl) (by kernel_rfl) (calm_panic _) (by kernel_rfl)
                case hy => first | (apply yieldsIf_load_mid (by kernel_rfl) _ _ rfl _ _ rfl; (case hS => (intro W hC; exact (show World.rangeAt _ _ _ (Cl.vals _) from hC.1))); (case hu => exact Try.underlying29); (case hd => rfl); (case hi => kernel_rfl)) | (apply yieldsIf_load_mid (by kernel_rfl) _ _ rfl _ _ rfl; (case hS => (intro W hC; exact (show World.rangeAt _ _ _ (Cl.vals _) from hC.2.1))); (case hu => exact Try.underlying29); (case hd => rfl); (case hi => kernel_rfl)) | (apply yieldsIf_load_mid (by kernel_rfl) _ _ rfl _ _ rfl; (case hS => (intro W hC; exact (show World.rangeAt _ _ _ (Cl.vals _) from hC.2.2.1))); (case hu => exact Try.underlying29); (case hd => rfl); (case hi => kernel_rfl)) | (apply yieldsIf_load_mid (by kernel_rfl) _ _ rfl _ _ rfl; (case hS => (intro W hC; exact (show World.rangeAt _ _ _ (Cl.vals _) from hC.2.2.2.1))); (case hu => exact Try.underlying29); (case hd => rfl); (case hi => kernel_rfl)) | (apply yieldsIf_load_mid (by kernel_rfl) _ _ rfl _ _ rfl; (case hS => (intro W hC; exact (show World.rangeAt _ _ _ (Cl.vals _) from hC.2.2.2))); (case hu => exact Try.underlying29); (case hd => rfl); (case hi => kernel_rfl)) | (apply yieldsIf_load_mid (by kernel_rfl) _ _ rfl _ _ rfl; (case hS => (intro W hC; exact (show World.rangeAt _ _ _ (Cl.vals _) from hC.2.2))); (case hu => exact Try.underlying29); (case hd => rfl); (case hi => kernel_rfl)) | (apply yieldsIf_load_mid (by kernel_rfl) _ _ rfl _ _ rfl; (case hS => (intro W hC; exact (show World.rangeAt _ _ _ (Cl.vals _) from hC.2))); (case hu => exact Try.underlying29); (case hd => rfl); (case hi => kernel_rfl)) | (apply yieldsIf_load_mid (by kernel_rfl) _ _ rfl _ _ rfl; (case hS => (intro W hC; exact (show World.rangeAt _ _ _ (Cl.vals _) from hC))); (case hu => exact Try.underlying29); (case hd => rfl); (case hi => kernel_rfl))
                case hC => exact HC
                case ha => (simp only [Act.put, List.setIfInBounds_toArray, List.set_cons_zero, List.set_cons_succ]; rfl)
                apply WZ.take (i := 9) (some 104) rfl rfl (by kernel_rfl) (by kernel_rfl) (by kernel_rfl) (calm_panic _) (by kernel_rfl)
                case hy => (refine .inl ⟨by kernel_rfl, fun W hC => ?_⟩; (try dsimp only at hC); go_simp; (try simp only [hne]); rfl)
                case hC => exact HC
                case ha => (simp only [Act.put, List.setIfInBounds_toArray, List.set_cons_zero, List.set_cons_succ]; rfl)
                apply WZ.take (i := 10) (some 105) rfl rfl (by kernel_rfl) (by kernel_rfl) (by kernel_rfl) (calm_panic _) (by kernel_rfl)
                case hy => (refine .inl ⟨by kernel_rfl, fun W hC => ?_⟩; (try dsimp only at hC); go_simp; (try simp only [hne]); rfl)
                case hC => exact HC
                case ha => (simp only [Act.put, List.setIfInBounds_toArray, List.set_cons_zero, List.set_cons_succ]; rfl)
                apply WZ.take (i := 11) (some 106) rfl rfl (by kernel_rfl) (by kernel_rfl) (by kernel_rfl) (calm_panic _) (by kernel_rfl)
                case hy => (refine .inl ⟨by kernel_rfl, fun W hC => ?_⟩; (try dsimp only at hC); go_simp; (try simp only [hne]); rfl)
                case hC => exact HC
                case ha => (simp only [Act.put, List.setIfInBounds_toArray, List.set_cons_zero, List.set_cons_succ]; rfl)
                apply WZ.take (i := 12) (some 107) rfl rfl (by kernel_rfl) (by kernel_rfl) (by kernel_rfl) (calm_panic _) (by kernel_rfl)
                case hy => first | (apply yieldsIf_load_mid (by kernel_rfl) _ _ rfl _ _ rfl; (case hS => (intro W hC; exact (show World.rangeAt _ _ _ (Cl.vals _) from hC.1))); (case hu => exact Try.underlying29); (case hd => rfl); (case hi => kernel_rfl)) | (apply yieldsIf_load_mid (by kernel_rfl) _ _ rfl _ _ rfl; (case hS => (intro W hC; exact (show World.rangeAt _ _ _ (Cl.vals _) from hC.2.1))); (case hu => exact Try.underlying29); (case hd => rfl); (case hi => kernel_rfl)) | (apply yieldsIf_load_mid (by kernel_rfl) _ _ rfl _ _ rfl; (case hS => (intro W hC; exact (show World.rangeAt _ _ _ (Cl.vals _) from hC.2.2.1))); (case hu => exact Try.underlying29); (case hd => rfl); (case hi => kernel_rfl)) | (apply yieldsIf_load_mid (by kernel_rfl) _ _ rfl _ _ rfl; (case hS => (intro W hC; exact (show World.rangeAt _ _ _ (Cl.vals _) from hC.2.2.2.1))); (case hu => exact Try.underlying29); (case hd => rfl); (case hi => kernel_rfl)) | (apply yieldsIf_load_mid (by kernel_rfl) _ _ rfl _ _ rfl; (case hS => (intro W hC; exact (show World.rangeAt _ _ _ (Cl.vals _) from hC.2.2.2))); (case hu => exact Try.underlying29); (case hd => rfl); (case hi => kernel_rfl)) | (apply yieldsIf_load_mid (by kernel_rfl) _ _ rfl _ _ rfl; (case hS => (intro W hC; exact (show World.rangeAt _ _ _ (Cl.vals _) from hC.2.2))); (case hu => exact Try.underlying29); (case hd => rfl); (case hi => kernel_rfl)) | (apply yieldsIf_load_mid (by kernel_rfl) _ _ rfl _ _ rfl; (case hS => (intro W hC; exact (show World.rangeAt _ _ _ (Cl.vals _) from hC.2))); (case hu => exact Try.underlying29); (case hd => rfl); (case hi => kernel_rfl)) | (apply yieldsIf_load_mid (by kernel_rfl) _ _ rfl _ _ rfl; (case hS => (intro W hC; exact (show World.rangeAt _ _ _ (Cl.vals _) from hC))); (case hu => exact Try.underlying29); (case hd => rfl); (case hi => kernel_rfl))
                case hC => exact HC
                case ha => (simp only [Act.put, List.setIfInBounds_toArray, List.set_cons_zero, List.set_cons_succ]; rfl)
                apply WZ.take (i := 13) (some 108) rfl rfl (by kernel_rfl) (by kernel_rfl) (by kernel_rfl) (calm_panic _) (by kernel_rfl)
                case hy => (refine .inl ⟨by kernel_rfl, fun W hC => ?_⟩; (try dsimp only at hC); go_simp; (try simp only [hne]); rfl)
                case hC => exact HC
                case ha => (simp only [Act.put, List.setIfInBounds_toArray, List.set_cons_zero, List.set_cons_succ]; rfl)
                apply WZ.take (i := 14) (some 109) rfl rfl (by kernel_rfl) (by kernel_rfl) (by kernel_rfl) (calm_panic _) (by kernel_rfl)
                case hy => (refine .inl ⟨by kernel_rfl, fun W hC => ?_⟩; (try dsimp only at hC); go_simp; (try simp only [hne]); rfl)
                case hC => exact HC
                case ha => (simp only [Act.put, List.setIfInBounds_toArray, List.set_cons_zero, List.set_cons_succ]; rfl)
                refine WZ.done (by kernel_rfl) ?_ _
                simp only [Calm, Exit.then]
                clear HC
                go_wp2
                exact ⟨⟨i + 1, kk + 1, by first | rfl | go_num, by first | rfl | go_num, by omega, by omega, HF, Lib.hid HB.out.drew⟩, by simp [intOf]; omega⟩
            · rw [decide_eq_false g1] at q1
              have hpx : P x = true := by
                rw [HP.out]
                show (!(column (⟨fr, tl, ts, top + 1, true, ⟨#[]⟩⟩ : Cl) x && decide (x.ts ≤ ts))) = true
                rw [show column (⟨fr, tl, ts, top + 1, true, ⟨#[]⟩⟩ : Cl) x = false by unfold column; rw [decide_eq_false (fun e : fr = x.row => g1 e.symm), Bool.false_and]]
                rfl
              have hx1 := HAT.out hpx
              rw [HK.out] at hx1
              obtain ⟨hkt, hke⟩ := hx1
              obtain ⟨b', o', hA6, hbl', hr'⟩ := rd_elem ((OwnC.rd HO6.out).below HB.out) hkt
              subst hA6
              rw [hke] at hr'
              have hk6 : kk < n6 := by rw [← HTL.out]; exact hkt
              have HF := Lib.hid (show ((S.take (i + 1)).filter P).length = kk + 1 by rw [HFN.out, hpx, List.length_append, HK.out]; rfl)
              have p1 : decide ((n6 : Int) ≤ (kk : Int)) = false := decide_eq_false (by omega)
              have p2 : decide (n6 ≤ kk) = false := decide_eq_false (by omega)
              have p3 : (0 : Int) ≤ (kk : Int) := by omega
              have p4 : (kk : Int) < (n6 : Int) := by omega
              have hne : ∀ W, (binOp .neq 29 (.agg x.vals.toArray) (.agg x.vals.toArray)).run Try.prog W = .ok (.bool false) W := fun W => by
                have := neq_cell x x W
                rw [decide_eq_true rfl] at this
                exact this
              have HC : wq.drew.rangeAt b' (o' + kk * 6) x.vals ∧ wq.drew.rangeAt b (o + i * 6) x.vals := ⟨hr', HR.out⟩
              clear hr' hkt hke hpx
              go_wp2
              refine region_wz (fun W => W.rangeAt b' (o' + kk * 6) x.vals ∧ W.rangeAt b (o + i * 6) x.vals) none (by kernel_rfl) ?_
              apply WZ.take (i := 0) (some 95) rfl rfl (by kernel_rfl) (by kernel_rfl) (by kernel_rfl) (calm_panic _) (by kernel_rfl)
              case hy => (refine .inl ⟨by kernel_rfl, fun W hC => ?_⟩; (try dsimp only at hC); go_simp; (try simp only [hne]); rfl)
              case hC => exact HC
              case ha => (simp only [Act.put, List.setIfInBounds_toArray, List.set_cons_zero, List.set_cons_succ]; rfl)
              apply WZ.take (i := 1) (some 96) rfl rfl (by kernel_rfl) (by kernel_rfl) (by kernel_rfl) (calm_panic _) (by kernel_rfl)
              case hy => (refine .inl ⟨by kernel_rfl, fun W hC => ?_⟩; (try dsimp only at hC); go_simp; (try simp only [hne]); rfl)
              case hC => exact HC
              case ha => (simp only [Act.put, List.setIfInBounds_toArray, List.set_cons_zero, List.set_cons_succ]; rfl)
              apply WZ.take (i := 2) (some 97) rfl rfl (by kernel_rfl) (by kernel_rfl) (by kernel_rfl) (calm_panic _) (by kernel_rfl)
              case hy => (refine .inl ⟨by kernel_rfl, fun W hC => ?_⟩; (try dsimp only at hC); go_simp; (try simp only [hne]); rfl)
              case hC => exact HC
              case ha => (simp only [Act.put, List.setIfInBounds_toArray, List.set_cons_zero, List.set_cons_succ]; rfl)
              apply WZ.take (i := 3) (some 98) rfl rfl (by kernel_rfl) (by kernel_rfl) (by kernel_rfl) (calm_panic _) (by kernel_rfl)
              case hy => (refine .inl ⟨by kernel_rfl, fun W hC => ?_⟩; (try dsimp only at hC); go_simp; (try simp only [hne]); rfl)
              case hC => exact HC
              case ha => (simp only [Act.put, List.setIfInBounds_toArray, List.set_cons_zero, List.set_cons_succ]; rfl)
              apply WZ.take (i := 4) (some 99) rfl rfl (by kernel_rfl) (by kernel_rfl) (by kernel_rfl) (calm_panic _) (by kernel_rfl)
              case hy => (refine .inl ⟨by kernel_rfl, fun W hC => ?_⟩; (try dsimp only at hC); go_simp; (try simp only [hne]); rfl)
              case hC => exact HC
              case ha => (simp only [Act.put, List.setIfInBounds_toArray, List.set_cons_zero, List.set_cons_succ]; rfl)
              apply WZ.take (i := 5) (some 100) rfl rfl (by kernel_rfl) (by kernel_rfl) (by kernel_rfl) (calm_panic _) (by kernel_rfl)
              case hy => (refine .inl ⟨by kernel_rfl, fun W hC => ?_⟩; (try dsimp only at hC); go_simp; (try simp only [hne]); rfl)
              case hC => exact HC
              case ha => (simp only [Act.put, List.setIfInBounds_toArray, List.set_cons_zero, List.set_cons_succ]; rfl)
              apply WZ.take (i := 6) (some 101) rfl rfl (by kernel_rfl) (by kernel_rfl) (by kernel_rfl) (calm_panic _) (by kernel_rfl)
              case hy => (refine .inl ⟨by kernel_rfl, fun W hC => ?_⟩; (try dsimp only at hC); go_simp; (try simp only [hne]); rfl)
              case hC => exact HC
              case ha => (simp only [Act.put, List.setIfInBounds_toArray, List.set_cons_zero, List.set_cons_succ]; rfl)
              apply WZ.take (i := 7) (some 102) rfl rfl (by kernel_rfl) (by kernel_rfl) (by kernel_rfl) (calm_panic _) (by kernel_rfl)
              case hy => (refine .inl ⟨by kernel_rfl, fun W hC => ?_⟩; (try dsimp only at hC); go_simp; (try simp only [hne]); rfl)
              case hC => exact HC
              case ha => (simp only [Act.put, List.setIfInBounds_toArray, List.set_cons_zero, List.set_cons_succ]; rfl)
              apply WZ.take (i := 8) (some 103) rfl rfl (by kernel_rfl) (by kernel_rfl) (by kernel_rfl) (calm_panic _) (by kernel_rfl)
              case hy => first | (apply yieldsIf_load_mid (by kernel_rfl) _ _ rfl _ _ rfl; (case hS => (intro W hC; exact (show World.rangeAt _ _ _ (Cl.vals _) from hC.1))); (case hu => exact Try.underlying29); (case hd => rfl); (case hi => kernel_rfl)) | (apply yieldsIf_load_mid (by kernel_rfl) _ _ rfl _ _ rfl; (case hS => (intro W hC; exact (show World.rangeAt _ _ _ (Cl.vals _) from hC.2.1))); (case hu => exact Try.underlying29); (case hd => rfl); (case hi => kernel_rfl)) | (apply yieldsIf_load_mid (by kernel_rfl) _ _ rfl _ _ rfl; (case hS => (intro W hC; exact (show World.rangeAt _ _ _ (Cl.vals _) from hC.2.2.1))); (case hu => exact Try.underlying29); (case hd => rfl); (case hi => kernel_rfl)) | (apply yieldsIf_load_mid (by kernel_rfl) _ _ rfl _ _ rfl; (case hS => (intro W hC; exact (show World.rangeAt _ _ _ (Cl.vals _) from hC.2.2.2.1))); (case hu => exact Try.underlying29); (case hd => rfl); (case hi => kernel_rfl)) | (apply yieldsIf_load_mid (by kernel_rfl) _ _ rfl _ _ rfl; (case hS => (intro W hC; exact (show World.rangeAt _ _ _ (Cl.vals _) from hC.2.2.2))); (case hu => exact Try.underlying29); (case hd => rfl); (case hi => kernel_rfl)) | (apply yieldsIf_load_mid (by kernel_rfl) _ _ rfl _ _ rfl; (case hS => (intro W hC; exact (show World.rangeAt _ _ _ (Cl.vals _) from hC.2.2))); (case hu => exact Try.underlying29); (case hd => rfl); (case hi => kernel_rfl)) | (apply yieldsIf_load_mid (by kernel_rfl) _ _ rfl _ _ rfl; (case hS => (intro W hC; exact (show World.rangeAt _ _ _ (Cl.vals _) from hC.2))); (case hu => exact Try.underlying29); (case hd => rfl); (case hi => kernel_rfl)) | (apply yieldsIf_load_mid (by kernel_rfl) _ _ rfl _ _ rfl; (case hS => (intro W hC; exact (show World.rangeAt _ _ _ (Cl.vals _) from hC))); (case hu => exact Try.underlying29); (case hd => rfl); (case hi => kernel_rfl))
              case hC => exact HC
              case ha => (simp only [Act.put, List.setIfInBounds_toArray, List.set_cons_zero, List.set_cons_succ]; rfl)
              apply WZ.take (i := 9) (some 104) rfl rfl (by kernel_rfl) (by kernel_rfl) (by kernel_rfl) (calm_panic _) (by kernel_rfl)
              case hy => (refine .inl ⟨by kernel_rfl, fun W hC => ?_⟩; (try dsimp only at hC); go_simp; (try simp only [hne]); rfl)
              case hC => exact HC
              case ha => (simp only [Act.put, List.setIfInBounds_toArray, List.set_cons_zero, List.set_cons_succ]; rfl)
              apply WZ.take (i := 10) (some 105) rfl rfl (by kernel_rfl) (by kernel_rfl) (by kernel_rfl) (calm_panic _) (by kernel_rfl)
              case hy => (refine .inl ⟨by kernel_rfl, fun W hC => ?_⟩; (try dsimp only at hC); go_simp; (try simp only [hne]); rfl)
              case hC => exact HC
              case ha => (simp only [Act.put, List.setIfInBounds_toArray, List.set_cons_zero, List.set_cons_succ]; rfl)
              apply WZ.take (i := 11) (some 106) rfl rfl (by kernel_rfl) (by kernel_rfl) (by kernel_rfl) (calm_panic _) (by kernel_rfl)
              case hy => (refine .inl ⟨by kernel_rfl, fun W hC => ?_⟩; (try dsimp only at hC); go_simp; (try simp only [hne]); rfl)
              case hC => exact HC
              case ha => (simp only [Act.put, List.setIfInBounds_toArray, List.set_cons_zero, List.set_cons_succ]; rfl)
              apply WZ.take (i := 12) (some 107) rfl rfl (by kernel_rfl) (by kernel_rfl) (by kernel_rfl) (calm_panic _) (by kernel_rfl)
              case hy => first | (apply yieldsIf_load_mid (by kernel_rfl) _ _ rfl _ _ rfl; (case hS => (intro W hC; exact (show World.rangeAt _ _ _ (Cl.vals _) from hC.1))); (case hu => exact Try.underlying29); (case hd => rfl); (case hi => kernel_rfl)) | (apply yieldsIf_load_mid (by kernel_rfl) _ _ rfl _ _ rfl; (case hS => (intro W hC; exact (show World.rangeAt _ _ _ (Cl.vals _) from hC.2.1))); (case hu => exact Try.underlying29); (case hd => rfl); (case hi => kernel_rfl)) | (apply yieldsIf_load_mid (by kernel_rfl) _ _ rfl _ _ rfl; (case hS => (intro W hC; exact (show World.rangeAt _ _ _ (Cl.vals _) from hC.2.2.1))); (case hu => exact Try.underlying29); (case hd => rfl); (case hi => kernel_rfl)) | (apply yieldsIf_load_mid (by kernel_rfl) _ _ rfl _ _ rfl; (case hS => (intro W hC; exact (show World.rangeAt _ _ _ (Cl.vals _) from hC.2.2.2.1))); (case hu => exact Try.underlying29); (case hd => rfl); (case hi => kernel_rfl)) | (apply yieldsIf_load_mid (by kernel_rfl) _ _ rfl _ _ rfl; (case hS => (intro W hC; exact (show World.rangeAt _ _ _ (Cl.vals _) from hC.2.2.2))); (case hu => exact Try.underlying29); (case hd => rfl); (case hi => kernel_rfl)) | (apply yieldsIf_load_mid (by kernel_rfl) _ _ rfl _ _ rfl; (case hS => (intro W hC; exact (show World.rangeAt _ _ _ (Cl.vals _) from hC.2.2))); (case hu => exact Try.underlying29); (case hd => rfl); (case hi => kernel_rfl)) | (apply yieldsIf_load_mid (by kernel_rfl) _ _ rfl _ _ rfl; (case hS => (intro W hC; exact (show World.rangeAt _ _ _ (Cl.vals _) from hC.2))); (case hu => exact Try.underlying29); (case hd => rfl); (case hi => kernel_rfl)) | (apply yieldsIf_load_mid (by kernel_rfl) _ _ rfl _ _ rfl; (case hS => (intro W hC; exact (show World.rangeAt _ _ _ (Cl.vals _) from hC))); (case hu => exact Try.underlying29); (case hd => rfl); (case hi => kernel_rfl))
              case hC => exact HC
              case ha => (simp only [Act.put, List.setIfInBounds_toArray, List.set_cons_zero, List.set_cons_succ]; rfl)
              apply WZ.take (i := 13) (some 108) rfl rfl (by kernel_rfl) (by kernel_rfl) (by kernel_rfl) (calm_panic _) (by kernel_rfl)
              case hy => (refine .inl ⟨by kernel_rfl, fun W hC => ?_⟩; (try dsimp only at hC); go_simp; (try simp only [hne]); rfl)
              case hC => exact HC
              case ha => (simp only [Act.put, List.setIfInBounds_toArray, List.set_cons_zero, List.set_cons_succ]; rfl)
              apply WZ.take (i := 14) (some 109) rfl rfl (by kernel_rfl) (by kernel_rfl) (by kernel_rfl) (calm_panic _) (by kernel_rfl)
              case hy => (refine .inl ⟨by kernel_rfl, fun W hC => ?_⟩; (try dsimp only at hC); go_simp; (try simp only [hne]); rfl)
              case hC => exact HC
              case ha => (simp only [Act.put, List.setIfInBounds_toArray, List.set_cons_zero, List.set_cons_succ]; rfl)
              refine WZ.done (by kernel_rfl) ?_ _
              simp only [Calm, Exit.then]
              clear HC
              go_wp2
              exact ⟨⟨i + 1, kk + 1, by first | rfl | go_num, by first | rfl | go_num, by omega, by omega, HF, Lib.hid HB.out.drew⟩, by simp [intOf]; omega⟩
          · have f1 : decide ((i : Int) < (n4 : Int)) = false := decide_eq_false (by omega)
            have hkn : kk = n6 := by
              have h1 := HK.out
              rw [List.take_of_length_le (by rw [HSL.out]; omega), HTL.out] at h1
              exact h1.symm
            have e5 : ((kk : Int) == (n6 : Int)) = true := by rw [beq_iff_eq]; omega
            have e6 : (kk == n6) = true := by rw [beq_iff_eq]; exact hkn
            clear hkn
            go_wp2
            go_ret
            exact ⟨rfl, HB6.out.trans (HB.out.mono HB6.out.size)⟩
end Go.Proofs.Ytoligmmjmghgnaa
