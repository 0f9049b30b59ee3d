/-
  The walk of the law ManifestApplies.
-/
import Derived.Test.YtaeemeoffnhgfaaLawFinds
import Derived.Test.YtaeemeoffnhgfaaRefApply13
import Derived.Deep.DeepCutAuto
namespace Go.Proofs.Ytaeemeoffnhgfaa
open Go.RowKit
attribute [local go_sem ↓] Go.wp_at_zero Go.wp_at_succ

theorem SBoxR.range {w : World} {g n c : Nat} {A : Option Addr} {nx fl : Int} (h : SBoxR w g A n c nx fl) : w.rangeAt g 0 [.slice A n c, .int .u64 nx, .int .u64 fl] := fun j v hv => by
  rw [Nat.zero_add, cell_of_row w g j _ _ (0, 0) h, ← Array.getElem?_toList]
  exact hv
theorem SBoxR.there {w : World} {g n c : Nat} {A : Option Addr} {nx fl : Int} (h : SBoxR w g A n c nx fl) : w.there g 0 3 := fun j hj => by
  refine ⟨?_, frozen_of_row _ _ _ _ _ h⟩
  rw [Nat.zero_add, cell_of_row _ _ _ _ _ (0, 0) h, Array.getElem?_eq_getElem (by simpa using hj)]
  rfl
theorem SBoxR.not_files {w : World} {g n c b o : Nat} {A : Option Addr} {nx fl : Int} (h : SBoxR w g A n c nx fl) {m : List Fi} (hm : m ≠ []) (hc : ∀ j (hj : j < (fis m).length), w.cell? ⟨b, o + j, none⟩ = some (fis m)[j]) : b ≠ g := by
  rintro rfl
  obtain ⟨x, m', rfl⟩ := List.exists_cons_of_ne_nil hm
  have h0 := hc 0 (by rw [fis_len]; simp)
  have e0 : (fis (x :: m'))[0]'(by rw [fis_len]; simp) = .int .i64 x.level := rfl
  rw [e0, cell_of_row w b _ _ _ (0, 0) h] at h0
  match o, h0 with
  | 0, h0 => cases h0
  | 1, h0 => cases h0
  | 2, h0 => cases h0
  | o + 3, h0 => simp at h0
theorem SBoxR.keep {w w' : World} {g n c : Nat} {A : Option Addr} {nx fl : Int} (h : SBoxR w g A n c nx fl) (hg : w.grownBy w' (some g)) {A' : Option Addr} {m : List Fi} (hr : Rd w w.heap.size A' (fis m)) : Rd w' w'.heap.size A' (fis m) := fun hn => by
  have hm : m ≠ [] := fun e => hn (by rw [e]; rfl)
  obtain ⟨b, o, e, hb, hc⟩ := hr hn
  have hne := h.not_files hm hc
  exact ⟨b, o, e, Nat.lt_of_lt_of_le hb hg.size, fun j hj => (World.cell?_of_block (hg.block b hb (fun e => hne (by injection e)))).trans (hc j hj)⟩
theorem SBox.keep {w w' : World} {g n c : Nat} {A : Option Addr} {nx fl : Int} (h : SBox w g A n c nx fl) (hg : w.grownBy w' (some g)) {A' : Option Addr} {m : List Fi} (hr : Rd w w.heap.size A' (fis m)) : Rd w' w'.heap.size A' (fis m) := fun hn => by
  have hm : m ≠ [] := fun e => hn (by rw [e]; rfl)
  obtain ⟨b, o, e, hb, hc⟩ := hr hn
  have hne := h.not_files hm hc
  exact ⟨b, o, e, Nat.lt_of_lt_of_le hb hg.size, fun j hj => (World.cell?_of_block (hg.block b hb (fun e => hne (by injection e)))).trans (hc j hj)⟩
theorem SBoxR.setW {w : World} {g n0 c0 : Nat} {A0 : Option Addr} {x0 y0 : Int} (h : SBoxR w g A0 n0 c0 x0 y0) (A : Option Addr) (n c : Nat) (nx fl : Int) {M : World → Prop}
    (hM : ∀ w', Hid (SBoxR w' g A n c nx fl) → Hid (w.grownBy w' (some g)) → M w') : M (w.setCells g 0 (stC A n c nx fl).toList) := by
  have hg := (setCells_block _ _ (stC A n c nx fl).toList 0 w _ h).2
  have h1 := heap_setCell_same w _ 0 _ _ (.slice A n c) h
  have h2 := heap_setCell_same _ _ 1 _ _ (.int .u64 nx) h1
  have h3 := heap_setCell_same _ _ 2 _ _ (.int .u64 fl) h2
  exact hM _ (Lib.hid h3) (Lib.hid hg)
theorem SBox.other {w w' : World} {g g' n c : Nat} {A : Option Addr} {nx fl : Int} (h : SBox w g A n c nx fl) (hg : w.grownBy w' (some g')) (hne : g ≠ g') : SBox w' g A n c nx fl := (hg.block g h.lt (fun e => hne (by injection e))).trans h
theorem SBoxR.other {w w' : World} {g g' n c : Nat} {A : Option Addr} {nx fl : Int} (h : SBoxR w g A n c nx fl) (hg : w.grownBy w' (some g')) (hne : g ≠ g') : SBoxR w' g A n c nx fl := (hg.block g h.lt (fun e => hne (by injection e))).trans h
theorem made_stateR {w4 W : World} {B : Nat} (hb : Below B w4 W) (hB : B ≤ W.heap.size) :
    SBoxR (W.alloc (.cells #[.slice none 0 0, .int .u64 0, .int .u64 0] 44)) W.heap.size none 0 0 0 0 ∧ Below B w4 (W.alloc (.cells #[.slice none 0 0, .int .u64 0, .int .u64 0] 44)) ∧ B ≤ W.heap.size :=
  ⟨SBoxR.new _ _ _ _ _ _, hb.trans ((below_al W _).mono hB), hB⟩
theorem refApply_edit {w4 : World} {A : Option Addr} {cs NS NA ND K : Nat} {S m : List Fi} {e : Ed} {nx fl r X Y : Int} (hrm : applyF nx fl e.nx e.fl S e.add e.del = (r, m)) (hK : m.length = K) (hX : (if r = 0 then e.nx else 0) = X) (hY : (if r = 0 then e.fl else 0) = Y)
    (hS : Rd w4 w4.heap.size A (fis S)) (hE : e.In w4) (eS : S.length = NS) (eA : e.add.length = NA) (eD : e.del.length = ND) (l1 : NS ≤ 450) (l2 : NA ≤ 100) (l3 : ND ≤ 100) (hg : Good S) : ∀ W (Ba : Option Addr) (da : Nat), Below w4.heap.size w4 W → Rd W W.heap.size Ba (fis e.add) →
    Calls Try.prog 16 #[.agg #[.slice A NS cs, .int .u64 nx, .int .u64 fl], .agg #[.slice Ba NA da, .slice e.D ND e.d, .int .u64 e.nx, .int .u64 e.fl]] W fun e' w' =>
      ∃ (A6 : Option Addr) (c6 : Nat), e' = .returned (.tuple #[.agg #[.slice A6 K c6, .int .u64 X, .int .u64 Y], .int .i64 r]) ∧ Rd w' w'.heap.size A6 (fis m) ∧ Below W.heap.size W w' := fun W Ba da hb hba => by
  have hE' := hE.below hb
  have h := refApply_any A Ba e.D cs da e.d NS NA ND S e.add e.del nx fl e.nx e.fl W ((hS.below hb).more hb.size) hba hE'.2.1 eS eA eD l1 l2 l3
  rw [refF_eq hg, hrm] at h
  subst hK hX hY
  exact h
theorem applyF_len {nx fl nx' fl' r : Int} {S add m : List Fi} {del : List ByteArray} (h : applyF nx fl nx' fl' S add del = (r, m)) (hS : Good S) : m.length ≤ S.length + add.length := by
  by_cases hr : r = 0
  · subst hr
    exact (hS.apply h).2
  · have hm : m = [] := by
      unfold applyF at h
      split at h
      · injection h with _ h2
        exact h2.symm
      · cases hd : delAll (srt S) del with
        | none =>
          rw [applyM_none hd] at h
          injection h with _ h2
          exact h2.symm
        | some L =>
          cases ht : twice add (L ++ add) with
          | true =>
            rw [applyM_twice hd ht] at h
            injection h with _ h2
            exact h2.symm
          | false =>
            cases ha : apart (srt (L ++ add)) with
            | false =>
              rw [applyM_order hd ht ha] at h
              injection h with _ h2
              exact h2.symm
            | true =>
              rw [applyM_ok hd ht ha] at h
              injection h with h1 _
              exact absurd h1.symm hr
    rw [hm]
    exact Nat.zero_le _
theorem edit_rd {w5 : World} {A D : Option Addr} {c NA cd nd : Nat} {l : List Fi} {nx fl : Int} (hl : Rd w5 w5.heap.size A (fis l)) (hN : l.length = NA) (hlen : NA ≤ 100000) (W : World) (hb : Below w5.heap.size w5 W) :
    Calls Try.prog 17 #[.agg #[.slice A NA c, .slice D nd cd, .int .u64 nx, .int .u64 fl]] W fun e w' => ∃ (B : Option Addr) (d : Nat), e = .returned (.agg #[.slice B NA d, .slice D nd cd, .int .u64 nx, .int .u64 fl]) ∧ Rd w' w'.heap.size B (fis l) ∧ Below W.heap.size W w' := by
  refine (edit_any A D c NA cd nd l nx fl W ((hl.below hb).more hb.size) hN hlen).mono ?_
  rintro e w' ⟨B, d, rfl, ho, hb'⟩
  exact ⟨B, d, rfl, OwnR.rd ho, hb'⟩
/-- both states behind i edits, in the variables g and g + 1 -/
def Run2 (w W : World) (g i : Nat) : Prop := w.heap.size ≤ g ∧ Below w.heap.size w W ∧ ∃ (S : List Fi) (A : Option Addr) (c : Nat) (A' : Option Addr) (c' : Nat) (nx fl : Int), SBox W g A S.length c nx fl ∧ SBoxR W (g + 1) A' S.length c' nx fl ∧ Rd W W.heap.size A (fis S) ∧ Rd W W.heap.size A' (fis S) ∧ S.length ≤ 40 * i ∧ Good S
theorem Run2.start {w w2 : World} (hb : Below w.heap.size w w2) : Run2 w ((w2.alloc (.cells #[.slice none 0 0, .int .u64 0, .int .u64 0] 30)).alloc (.cells #[.slice none 0 0, .int .u64 0, .int .u64 0] 44)) w2.heap.size 0 := by
  have h1 := below_al (w2.alloc (.cells #[.slice none 0 0, .int .u64 0, .int .u64 0] 30)) (.cells #[.slice none 0 0, .int .u64 0, .int .u64 0] 44)
  refine ⟨hb.size, (hb.trans ((below_al w2 _).mono hb.size)).trans (h1.mono (Nat.le_trans hb.size (below_al w2 (.cells #[.slice none 0 0, .int .u64 0, .int .u64 0] 30)).size)), [], none, 0, none, 0, 0, 0, (SBox.new w2 none 0 0 0 0).below h1, ?_, Rd.nil, Rd.nil, Nat.zero_le _, Good.nil⟩
  have := SBoxR.new (w2.alloc (.cells #[.slice none 0 0, .int .u64 0, .int .u64 0] 30)) none 0 0 0 0
  rw [World.size_alloc] at this
  exact this
theorem Run2.next {w W : World} {g i K c c' : Nat} {A A' : Option Addr} {S : List Fi} {nx fl : Int} (hg : w.heap.size ≤ g) (hb : Below w.heap.size w W) (hK : S.length = K) (hs : SBox W g A K c nx fl) (hs' : SBoxR W (g + 1) A' K c' nx fl) (hr : Rd W W.heap.size A (fis S)) (hr' : Rd W W.heap.size A' (fis S)) (hl : S.length ≤ 40 * (i + 1)) (hgood : Good S) : Run2 w W g (i + 1) := by
  subst hK
  exact ⟨hg, hb, S, A, c, A', c', nx, fl, hs, hs', hr, hr', hl, hgood⟩
set_option maxRecDepth 10000 in
set_option maxHeartbeats 4000000 in
theorem applies_wide (A : Option Addr) (cap N : Nat) (row low high : ByteArray) (z : Int) (w : World) (h : 10 < N ∨ 100 < row.size ∨ 100 < low.size ∨ 100 < high.size) :
    Calls Try.prog 5 #[.slice A N cap, .string row, .string low, .string high, .int .i64 z] w fun e w' => e = .returned (.bool true) ∧ Below w.heap.size w w' := by
  by_cases h1 : 10 < N
  · have e1 : decide ((10 : Int) < (N : Int)) = true := decide_eq_true (by omega)
    go_enter Try.func5, Try.ntmps5
    go_wp2_with (go_at_call 11; refine (shown_any _).mono ?_; rintro e w2 ⟨rfl, hb2⟩)
    go_ret
    exact ⟨rfl, hb2⟩
  have e1 : decide ((10 : Int) < (N : Int)) = false := decide_eq_false (by omega)
  by_cases h2 : 100 < row.size
  · have e2 : decide ((100 : Int) < (row.size : Int)) = true := decide_eq_true (by omega)
    go_enter Try.func5, Try.ntmps5
    go_wp2_with (go_at_call 11; refine (shown_any _).mono ?_; rintro e w2 ⟨rfl, hb2⟩)
    go_ret
    exact ⟨rfl, hb2⟩
  have e2 : decide ((100 : Int) < (row.size : Int)) = false := decide_eq_false (by omega)
  by_cases h3 : 100 < low.size
  · have e3 : decide ((100 : Int) < (low.size : Int)) = true := decide_eq_true (by omega)
    go_enter Try.func5, Try.ntmps5
    go_wp2_with (go_at_call 11; refine (shown_any _).mono ?_; rintro e w2 ⟨rfl, hb2⟩)
    go_ret
    exact ⟨rfl, hb2⟩
  have e3 : decide ((100 : Int) < (low.size : Int)) = false := decide_eq_false (by omega)
  · have e4 : decide ((100 : Int) < (high.size : Int)) = true := decide_eq_true (by omega)
    go_enter Try.func5, Try.ntmps5
    go_wp2_with (go_at_call 11; refine (shown_any _).mono ?_; rintro e w2 ⟨rfl, hb2⟩)
    go_ret
    exact ⟨rfl, hb2⟩
theorem over_at2 (A : Option Addr) (c N : Nat) (l : List Fi) (nx fl z : Int) (lo hi : ByteArray) (w : World) (hl : Rd w w.heap.size A (fis l)) (hN : l.length = N) (hlen : N ≤ 100000) :
    Calls Try.prog 20 #[.agg #[.slice A N c, .int .u64 nx, .int .u64 fl], .int .i64 z, .string lo, .string hi] w fun e w' => ∃ (A' : Option Addr) (n' c' : Nat), e = .returned (.slice A' n' c') ∧ n' ≤ N ∧ OwnF w' w.heap.size A' n' c' (l.filter (onRows z lo hi)) ∧ Below w.heap.size w w' := by
  refine (over_any A c N l nx fl z lo hi w hl hN hlen).mono ?_
  rintro e w' ⟨A', n', c', rfl, ho, hb⟩
  exact ⟨A', n', c', rfl, by rw [← ho.len, ← hN]; exact List.length_filter_le _ _, ho, hb⟩
set_option maxRecDepth 10000 in
set_option maxHeartbeats 16000000 in
theorem applies_any (A0 : Option Addr) (cap N : Nat) (L : List Ed) (row low high : ByteArray) (z : Int) (w : World) (hl : Rd w w.heap.size A0 (eds L)) (he : ∀ e ∈ L, e.In w) (hN : L.length = N) (h10 : N ≤ 10) (h100 : row.size ≤ 100) (h101 : low.size ≤ 100) (h102 : high.size ≤ 100) :
    Calls Try.prog 5 #[.slice A0 N cap, .string row, .string low, .string high, .int .i64 z] w fun e w' => e = .returned (.bool true) ∧ Below w.heap.size w w' := by
  have HL := Lib.hid hl
  have HE := Lib.hid he
  have HN := Lib.hid hN
  have e1 : decide ((10 : Int) < (N : Int)) = false := decide_eq_false (by omega)
  have e2 : decide ((100 : Int) < (row.size : Int)) = false := decide_eq_false (by omega)
  have e3 : decide ((100 : Int) < (low.size : Int)) = false := decide_eq_false (by omega)
  have e4 : decide ((100 : Int) < (high.size : Int)) = false := decide_eq_false (by omega)
  clear hl he hN
  go_enter Try.func5, Try.ntmps5
  go_wp2_with (go_at_call 11; refine (shown_any _).mono ?_; rintro e w2 ⟨rfl, hb2⟩; have HB2 := Lib.hid hb2; clear hb2)
  clear e1 e2 e3 e4
  go_loopw [13] (fun vi wr => ∃ i : Nat, vi = .int .i64 (i : Int) ∧ i ≤ N ∧ Hid (Run2 w wr w2.heap.size i)) (fun vi _ => N - (intOf vi).toNat)
  case atStart => exact ⟨0, rfl, Nat.zero_le _, Lib.hid (Run2.start HB2.out)⟩
  case round =>
    obtain ⟨i, rfl, hi, HRUN⟩ := hrel
    rename World => wr
    by_cases hlt : i < N
    · have e1 : decide ((i : Int) < (N : Int)) = true := decide_eq_true (by omega)
      have k1 : (0 : Int) ≤ (i : Int) := by omega
      have k2 : (i : Int) < (N : Int) := by omega
      have hil : i < L.length := by rw [HN.out]; exact hlt
      obtain ⟨hgw, hbw, S, A, c, A', c', nx, fl, hs, hs', hr, hr', hsl, hgood⟩ := HRUN.out
      obtain ⟨b, o, rfl, hbl, hre⟩ := ed_elem (HL.out.below hbw) hil
      have hein := (HE.out _ (List.getElem_mem hil)).below hbw
      obtain ⟨e, he⟩ : ∃ e, L[i] = e := ⟨_, rfl⟩
      rw [he] at hre hein
      unfold Ed.vals at hre
      obtain ⟨NS, hNS⟩ : ∃ n, S.length = n := ⟨_, rfl⟩
      obtain ⟨NA, hNA⟩ : ∃ n, e.add.length = n := ⟨_, rfl⟩
      obtain ⟨ND, hND⟩ : ∃ n, e.del.length = n := ⟨_, rfl⟩
      rw [hNA, hND] at hre
      rw [hNS] at hs hs' hsl
      have hsmall := small_any e.A e.D e.c e.d NA ND e.add e.del e.nx e.fl wr hein.1 hein.2.1 hNA hND (hNA ▸ hein.2.2.1) (hND ▸ hein.2.2.2)
      have HSM := Lib.hid hsmall
      have HRE := Lib.hid hre
      have HIN := Lib.hid hein
      have HS := Lib.hid hs
      have HSR := Lib.hid hs'
      have HRS0 := Lib.hid hr
      have HRR0 := Lib.hid hr'
      have HGW := Lib.hid hgw
      have HBWr := Lib.hid hbw
      have HGOODS := Lib.hid hgood
      have HNS := Lib.hid hNS
      have HNA := Lib.hid hNA
      have HND := Lib.hid hND
      have hbs := Nat.lt_of_lt_of_le hbl hbw.size
      clear hsmall hre hein hs hs' hr hr' hgw hbw hgood he HRUN hNS hNA hND
      cases hsm : smallE e.add e.del with
      | false =>
        go_wp2_with (first
          | (show wpList _ _ _ ({ dst := some 52, op := Op.load _ _, type := _, pos := _, after := _, guard := _ } :: _) _ _; refine wpList_load_mid rfl 36 (.tmp 51) rfl b (o + i * 4) rfl [.slice e.A NA e.c, .slice e.D ND e.d, .int .u64 e.nx, .int .u64 e.fl] _ HRE.out Try.underlying36 rfl (by kernel_rfl) ?_)
          | (go_at_call 15; refine HSM.out.mono ?_; rintro e' w4 ⟨rfl, hb4⟩; rw [hsm])
          | (go_at_call 11; refine (shown_any _).mono ?_; rintro e' w5 ⟨rfl, hb5⟩))
        go_ret
        exact ⟨rfl, (HBWr.out.trans (hb4.mono HBWr.out.size)).trans (hb5.mono (Nat.le_trans HBWr.out.size hb4.size))⟩
      | true =>
        obtain ⟨p1, p2, p3⟩ := smallE_parts hsm
        rw [HNA.out] at p2
        rw [HND.out] at p3
        go_upto_region 10 with (first
          | (show wpList _ _ _ ({ dst := some 52, op := Op.load _ _, type := _, pos := _, after := _, guard := _ } :: _) _ _; refine wpList_load_mid rfl 36 (.tmp 51) rfl b (o + i * 4) rfl [.slice e.A NA e.c, .slice e.D ND e.d, .int .u64 e.nx, .int .u64 e.fl] _ HRE.out Try.underlying36 rfl (by kernel_rfl) ?_)
          | (go_at_call 15; refine HSM.out.mono ?_; rintro e' w4 ⟨rfl, hb4⟩; rw [hsm]))
        have HS4 := Lib.hid (SBox.below HS.out hb4)
        have HSR4 := Lib.hid (SBoxR.below HSR.out hb4)
        have HRS := Lib.hid ((HRS0.out.below hb4).more hb4.size)
        have HRR := Lib.hid ((HRR0.out.below hb4).more hb4.size)
        have HIN4 := Lib.hid (HIN.out.below hb4)
        have HBW := Lib.hid (HBWr.out.trans (hb4.mono HBWr.out.size))
        have hre4 := rangeAt_below HRE.out hb4 hbs
        have HRE4 := Lib.hid hre4
        have hbs4 : b < w4.heap.size := Nat.lt_of_lt_of_le hbs hb4.size
        have hlen : NS ≤ 40 * (i + 1) := by omega
        have HLENS := Lib.hid (show S.length ≤ 40 * (i + 1) by rw [HNS.out]; exact hlen)
        obtain ⟨rm, hrm⟩ : ∃ rm, applyF nx fl e.nx e.fl S e.add e.del = rm := ⟨_, rfl⟩
        obtain ⟨r, m⟩ := rm
        obtain ⟨K, hK⟩ : ∃ K, m.length = K := ⟨_, rfl⟩
        obtain ⟨X, hX⟩ : ∃ X, (if r = 0 then e.nx else 0) = X := ⟨_, rfl⟩
        obtain ⟨Y, hY⟩ : ∃ Y, (if r = 0 then e.fl else 0) = Y := ⟨_, rfl⟩
        have hap := apply_edit (w4 := w4) (cs := c) hrm hK hX hY HRS.out HIN4.out HNS.out HNA.out HND.out (by omega) (by omega) (by omega) HGOODS.out
        have hrp := refApply_edit (w4 := w4) (cs := c') hrm hK hX hY HRR.out HIN4.out HNS.out HNA.out HND.out (by omega) (by omega) (by omega) HGOODS.out
        have HAP := Lib.hid hap
        have HRP4 := Lib.hid hrp
        have HK := Lib.hid hK
        have HRM := Lib.hid hrm
        have HKL := Lib.hid (applyF_len HRM.out HGOODS.out)
        have hk500 : K ≤ 100000 := by have h5 := HKL.out; rw [HK.out, HNS.out, HNA.out] at h5; omega
        clear hap hrp hK hX hY hrm HS HSR HRS0 HRR0 HIN HRE HSM hb4 hre4
        go_cut [14, 15] (fun s14 s15 wx => ∃ (g14 : Nat) (A6 : Option Addr) (c6 : Nat), s14 = .pointer (some ⟨g14, 0, none⟩) ∧ s15 = .int .i64 r ∧ Hid (SBox wx g14 A6 K c6 X Y) ∧ Hid (Rd wx wx.heap.size A6 (fis m)) ∧ Hid (Below w4.heap.size w4 wx) ∧ Hid (w4.heap.size ≤ g14))
        case first =>
          obtain ⟨CC, hCD⟩ : ∃ CC : World → Prop, ∀ W, CC W ↔ Below w4.heap.size w4 W := ⟨fun W => Below w4.heap.size w4 W, fun W => Iff.rfl⟩
          have hmk : ∀ W, Below w4.heap.size w4 W → W.rangeAt w2.heap.size 0 [.slice A NS c, .int .u64 nx, .int .u64 fl] ∧ W.rangeAt b (o + i * 4) [.slice e.A NA e.c, .slice e.D ND e.d, .int .u64 e.nx, .int .u64 e.fl] ∧ CC W := fun W hb => ⟨(SBox.below HS4.out hb).range, rangeAt_below HRE4.out hb hbs4, (hCD W).2 hb⟩
          have HB := Lib.hid ((Below.refl w4.heap.size w4).drew)
          have HC := hmk _ HB.out
          refine region_wz (fun W' => W'.rangeAt w2.heap.size 0 [.slice A NS c, .int .u64 nx, .int .u64 fl] ∧ W'.rangeAt b (o + i * 4) [.slice e.A NA e.c, .slice e.D ND e.d, .int .u64 e.nx, .int .u64 e.fl] ∧ CC W') none (by kernel_rfl) ?_
          apply WZ.take (i := 0) (some 57) rfl rfl (by kernel_rfl) (by kernel_rfl) (by kernel_rfl) (calm_panic _) (by kernel_rfl)
          case hy => first | (apply yieldsIf_load_mid (by kernel_rfl) _ _ rfl _ _ rfl; (case hS => (intro W hC; exact hC.1)); (case hu => exact Try.underlying30); (case hd => rfl); (case hi => kernel_rfl)) | (apply yieldsIf_load_mid (by kernel_rfl) _ _ rfl _ _ rfl; (case hS => (intro W hC; exact hC.2.1)); (case hu => exact Try.underlying30); (case hd => rfl); (case hi => kernel_rfl)) | (apply yieldsIf_load_mid (by kernel_rfl) _ _ rfl _ _ rfl; (case hS => (intro W hC; exact hC.2.2.1)); (case hu => exact Try.underlying30); (case hd => rfl); (case hi => kernel_rfl)) | (apply yieldsIf_load_mid (by kernel_rfl) _ _ rfl _ _ rfl; (case hS => (intro W hC; exact hC.2.2.2.1)); (case hu => exact Try.underlying30); (case hd => rfl); (case hi => kernel_rfl)) | (apply yieldsIf_load_mid (by kernel_rfl) _ _ rfl _ _ rfl; (case hS => (intro W hC; exact hC.2.2.2)); (case hu => exact Try.underlying30); (case hd => rfl); (case hi => kernel_rfl)) | (apply yieldsIf_load_mid (by kernel_rfl) _ _ rfl _ _ rfl; (case hS => (intro W hC; exact hC.2.2)); (case hu => exact Try.underlying30); (case hd => rfl); (case hi => kernel_rfl)) | (apply yieldsIf_load_mid (by kernel_rfl) _ _ rfl _ _ rfl; (case hS => (intro W hC; exact hC.2)); (case hu => exact Try.underlying30); (case hd => rfl); (case hi => kernel_rfl)) | (apply yieldsIf_load_mid (by kernel_rfl) _ _ rfl _ _ rfl; (case hS => (intro W hC; exact hC)); (case hu => exact Try.underlying30); (case hd => rfl); (case hi => kernel_rfl))
          case hC => exact HC
          case ha => (simp only [Act.put, List.setIfInBounds_toArray, List.set_cons_zero, List.set_cons_succ]; rfl)
          apply WZ.take (i := 1) (some 58) rfl rfl (by kernel_rfl) (by kernel_rfl) (by kernel_rfl) (calm_panic _) (by kernel_rfl)
          case hy => (refine .inl ⟨by kernel_rfl, fun W hC => ?_⟩; (try dsimp only at hC); go_simp; rfl)
          case hC => exact HC
          case ha => (simp only [Act.put, List.setIfInBounds_toArray, List.set_cons_zero, List.set_cons_succ]; rfl)
          apply WZ.take (i := 2) (some 59) rfl rfl (by kernel_rfl) (by kernel_rfl) (by kernel_rfl) (calm_panic _) (by kernel_rfl)
          case hy => (refine .inl ⟨by kernel_rfl, fun W hC => ?_⟩; (try dsimp only at hC); go_simp; rfl)
          case hC => exact HC
          case ha => (simp only [Act.put, List.setIfInBounds_toArray, List.set_cons_zero, List.set_cons_succ]; rfl)
          apply WZ.take (i := 3) (some 60) rfl rfl (by kernel_rfl) (by kernel_rfl) (by kernel_rfl) (calm_panic _) (by kernel_rfl)
          case hy => (refine .inl ⟨by kernel_rfl, fun W hC => ?_⟩; (try dsimp only at hC); go_simp; rfl)
          case hC => exact HC
          case ha => (simp only [Act.put, List.setIfInBounds_toArray, List.set_cons_zero, List.set_cons_succ]; rfl)
          apply WZ.take (i := 4) (some 61) rfl rfl (by kernel_rfl) (by kernel_rfl) (by kernel_rfl) (calm_panic _) (by kernel_rfl)
          case hy => first | (apply yieldsIf_load_mid (by kernel_rfl) _ _ rfl _ _ rfl; (case hS => (intro W hC; exact hC.1)); (case hu => exact Try.underlying36); (case hd => rfl); (case hi => kernel_rfl)) | (apply yieldsIf_load_mid (by kernel_rfl) _ _ rfl _ _ rfl; (case hS => (intro W hC; exact hC.2.1)); (case hu => exact Try.underlying36); (case hd => rfl); (case hi => kernel_rfl)) | (apply yieldsIf_load_mid (by kernel_rfl) _ _ rfl _ _ rfl; (case hS => (intro W hC; exact hC.2.2.1)); (case hu => exact Try.underlying36); (case hd => rfl); (case hi => kernel_rfl)) | (apply yieldsIf_load_mid (by kernel_rfl) _ _ rfl _ _ rfl; (case hS => (intro W hC; exact hC.2.2.2.1)); (case hu => exact Try.underlying36); (case hd => rfl); (case hi => kernel_rfl)) | (apply yieldsIf_load_mid (by kernel_rfl) _ _ rfl _ _ rfl; (case hS => (intro W hC; exact hC.2.2.2)); (case hu => exact Try.underlying36); (case hd => rfl); (case hi => kernel_rfl)) | (apply yieldsIf_load_mid (by kernel_rfl) _ _ rfl _ _ rfl; (case hS => (intro W hC; exact hC.2.2)); (case hu => exact Try.underlying36); (case hd => rfl); (case hi => kernel_rfl)) | (apply yieldsIf_load_mid (by kernel_rfl) _ _ rfl _ _ rfl; (case hS => (intro W hC; exact hC.2)); (case hu => exact Try.underlying36); (case hd => rfl); (case hi => kernel_rfl)) | (apply yieldsIf_load_mid (by kernel_rfl) _ _ rfl _ _ rfl; (case hS => (intro W hC; exact hC)); (case hu => exact Try.underlying36); (case hd => rfl); (case hi => kernel_rfl))
          case hC => exact HC
          case ha => (simp only [Act.put, List.setIfInBounds_toArray, List.set_cons_zero, List.set_cons_succ]; rfl)
          refine WZ.two (i := 5) (j := 9) rfl rfl (by kernel_rfl) ?_ ?_
          · conv => arg 4; arg 1; whnf
            go_wp2_with (go_at_call 12; refine (HAP.out _ HB.out).mono ?_; rintro e' w6 ⟨A6, c6, rfl, hr6, hb6⟩; have HR6 := Lib.hid hr6)
            try (have HT2 := Lib.hid (SBox.below HT.out hb6); clear HT; have HT := HT2; clear HT2)
            have HB2 := Lib.hid (HB.out.trans (hb6.mono HB.out.size))
            clear HB HC hb6 hr6
            have HB := HB2
            clear HB2
            have HC := hmk _ HB.out
            refine ⟨HC, ?_⟩
            apply WZ.take (i := 6) (some 56) rfl rfl (by kernel_rfl) (by kernel_rfl) (by kernel_rfl) (calm_panic _) (by kernel_rfl)
            case hy => (refine .inl ⟨by kernel_rfl, fun W hC => ?_⟩; (try dsimp only at hC); go_simp; rfl)
            case hC => exact HC
            case ha => (simp only [Act.put, List.setIfInBounds_toArray, List.set_cons_zero, List.set_cons_succ]; rfl)
            apply WZ.take (i := 7) (some 63) rfl rfl (by kernel_rfl) (by kernel_rfl) (by kernel_rfl) (calm_panic _) (by kernel_rfl)
            case hy => (refine .inl ⟨by kernel_rfl, fun W hC => ?_⟩; (try dsimp only at hC); go_simp; rfl)
            case hC => exact HC
            case ha => (simp only [Act.put, List.setIfInBounds_toArray, List.set_cons_zero, List.set_cons_succ]; rfl)
            apply WZ.take (i := 8) (some 64) rfl rfl (by kernel_rfl) (by kernel_rfl) (by kernel_rfl) (calm_panic _) (by kernel_rfl)
            case hy => (refine .inl ⟨by kernel_rfl, fun W hC => ?_⟩; (try dsimp only at hC); go_simp; rfl)
            case hC => exact HC
            case ha => (simp only [Act.put, List.setIfInBounds_toArray, List.set_cons_zero, List.set_cons_succ]; rfl)
            -- 9
            refine WZ.one (i := 9) rfl (by kernel_rfl) ?_
            conv => arg 4; arg 1; whnf
            go_wp2_with fail
            have hMS := made_state HB.out HB.out.size
            try (have HR62 := Lib.hid (HR6.out.allocS (.cells #[.slice none 0 0, .int .u64 0, .int .u64 0] 30)); clear HR6; have HR6 := HR62; clear HR62)
            first
              | have HT := Lib.hid (show SBox (w4.drew.alloc (.cells #[.slice none 0 0, .int .u64 0, .int .u64 0] 30)) w4.heap.size none 0 0 0 0 from hMS.1)
              | have HT := Lib.hid hMS.1
            have HGE := Lib.hid hMS.2.2
            have HB2 := Lib.hid hMS.2.1
            clear HB HC hMS
            have HB := HB2
            clear HB2
            have HC := hmk _ HB.out
            refine ⟨HC, ?_⟩
            -- 10
            refine WZ.one (i := 10) rfl (by kernel_rfl) ?_
            conv => arg 4; arg 1; whnf
            go_wp2_with (refine wpList_store_mid rfl 30 (.tmp 14) (.tmp 63) rfl _ 0 (stC A6 K c6 X Y) rfl rfl HT.out.there (by kernel_rfl) (stC_one _ _ _ _ _) ?_; refine HT.out.setW A6 K c6 X Y HR6.out ?_; intro w9 HT9 HG9 HR9)
            have HB2 := Lib.hid (below_grown HB.out HB.out.size HG9.out HGE.out)
            clear HB HC HT HG9 HR6
            have HB := HB2
            clear HB2
            have HC := hmk _ HB.out
            refine ⟨HC, ?_⟩
            apply WZ.take (i := 11) (some 15) rfl rfl (by kernel_rfl) (by kernel_rfl) (by kernel_rfl) (calm_panic _) (by kernel_rfl)
            case hy => (refine .inl ⟨by kernel_rfl, fun W hC => ?_⟩; (try dsimp only at hC); go_simp; rfl)
            case hC => exact HC
            case ha => (simp only [Act.put, List.setIfInBounds_toArray, List.set_cons_zero, List.set_cons_succ]; rfl)
            refine WZ.done (by kernel_rfl) ?_ _
            simp only [Calm, Exit.then]
            clear HC hmk hCD
            go_wp2_with fail
            go_meet
            first
              | exact ⟨_, A6, c6, rfl, rfl, HT9, HR9, HB, HGE⟩
              | trace_state
          · conv => arg 4; arg 1; whnf
            go_wp2_with fail
            have hMS := made_state HB.out HB.out.size
            try (have HR62 := Lib.hid (HR6.out.allocS (.cells #[.slice none 0 0, .int .u64 0, .int .u64 0] 30)); clear HR6; have HR6 := HR62; clear HR62)
            first
              | have HT := Lib.hid (show SBox (w4.drew.alloc (.cells #[.slice none 0 0, .int .u64 0, .int .u64 0] 30)) w4.heap.size none 0 0 0 0 from hMS.1)
              | have HT := Lib.hid hMS.1
            have HGE := Lib.hid hMS.2.2
            have HB2 := Lib.hid hMS.2.1
            clear HB HC hMS
            have HB := HB2
            clear HB2
            have HC := hmk _ HB.out
            refine ⟨HC, ?_⟩
            -- 5
            refine WZ.one (i := 5) rfl (by kernel_rfl) ?_
            conv => arg 4; arg 1; whnf
            go_wp2_with (go_at_call 12; refine (HAP.out _ HB.out).mono ?_; rintro e' w6 ⟨A6, c6, rfl, hr6, hb6⟩; have HR6 := Lib.hid hr6)
            try (have HT2 := Lib.hid (SBox.below HT.out hb6); clear HT; have HT := HT2; clear HT2)
            have HB2 := Lib.hid (HB.out.trans (hb6.mono HB.out.size))
            clear HB HC hb6 hr6
            have HB := HB2
            clear HB2
            have HC := hmk _ HB.out
            refine ⟨HC, ?_⟩
            apply WZ.take (i := 6) (some 56) rfl rfl (by kernel_rfl) (by kernel_rfl) (by kernel_rfl) (calm_panic _) (by kernel_rfl)
            case hy => (refine .inl ⟨by kernel_rfl, fun W hC => ?_⟩; (try dsimp only at hC); go_simp; rfl)
            case hC => exact HC
            case ha => (simp only [Act.put, List.setIfInBounds_toArray, List.set_cons_zero, List.set_cons_succ]; rfl)
            apply WZ.take (i := 7) (some 63) rfl rfl (by kernel_rfl) (by kernel_rfl) (by kernel_rfl) (calm_panic _) (by kernel_rfl)
            case hy => (refine .inl ⟨by kernel_rfl, fun W hC => ?_⟩; (try dsimp only at hC); go_simp; rfl)
            case hC => exact HC
            case ha => (simp only [Act.put, List.setIfInBounds_toArray, List.set_cons_zero, List.set_cons_succ]; rfl)
            apply WZ.take (i := 8) (some 64) rfl rfl (by kernel_rfl) (by kernel_rfl) (by kernel_rfl) (calm_panic _) (by kernel_rfl)
            case hy => (refine .inl ⟨by kernel_rfl, fun W hC => ?_⟩; (try dsimp only at hC); go_simp; rfl)
            case hC => exact HC
            case ha => (simp only [Act.put, List.setIfInBounds_toArray, List.set_cons_zero, List.set_cons_succ]; rfl)
            -- 10
            refine WZ.one (i := 10) rfl (by kernel_rfl) ?_
            conv => arg 4; arg 1; whnf
            go_wp2_with (refine wpList_store_mid rfl 30 (.tmp 14) (.tmp 63) rfl _ 0 (stC A6 K c6 X Y) rfl rfl HT.out.there (by kernel_rfl) (stC_one _ _ _ _ _) ?_; refine HT.out.setW A6 K c6 X Y HR6.out ?_; intro w9 HT9 HG9 HR9)
            have HB2 := Lib.hid (below_grown HB.out HB.out.size HG9.out HGE.out)
            clear HB HC HT HG9 HR6
            have HB := HB2
            clear HB2
            have HC := hmk _ HB.out
            refine ⟨HC, ?_⟩
            apply WZ.take (i := 11) (some 15) rfl rfl (by kernel_rfl) (by kernel_rfl) (by kernel_rfl) (calm_panic _) (by kernel_rfl)
            case hy => (refine .inl ⟨by kernel_rfl, fun W hC => ?_⟩; (try dsimp only at hC); go_simp; rfl)
            case hC => exact HC
            case ha => (simp only [Act.put, List.setIfInBounds_toArray, List.set_cons_zero, List.set_cons_succ]; rfl)
            refine WZ.done (by kernel_rfl) ?_ _
            simp only [Calm, Exit.then]
            clear HC hmk hCD
            go_wp2_with fail
            go_meet
            first
              | exact ⟨_, A6, c6, rfl, rfl, HT9, HR9, HB, HGE⟩
              | trace_state
        case rest =>
          obtain ⟨g14, A6, c6, rfl, rfl, HT6, HR6, HB6, HGE6⟩ := hcut
          rename World => w5
          have HS5 := Lib.hid (SBox.below HS4.out HB6.out)
          have HSR5 := Lib.hid (SBoxR.below HSR4.out HB6.out)
          have HRE5 := Lib.hid (rangeAt_below HRE4.out HB6.out hbs4)
          have hbs5 : b < w5.heap.size := Nat.lt_of_lt_of_le hbs4 HB6.out.size
          have HED := Lib.hid (fun W (hb : Below w5.heap.size w5 W) => edit_rd (D := e.D) (cd := e.d) (nd := ND) (nx := e.nx) (fl := e.fl) (c := e.c) ((HIN4.out.1.below HB6.out).more HB6.out.size) HNA.out (by omega) W hb)
          have HRP := Lib.hid (fun W (Ba : Option Addr) (da : Nat) (hb : Below w5.heap.size w5 W) (hr : Rd W W.heap.size Ba (fis e.add)) => HRP4.out W Ba da (HB6.out.trans (hb.mono HB6.out.size)) hr)
          clear HAP HRP4
          go_upto_region 11 with fail
          go_cut [16, 17] (fun s16 s17 wx => ∃ (g16 : Nat) (A7 : Option Addr) (c7 : Nat), s16 = .pointer (some ⟨g16, 0, none⟩) ∧ s17 = .int .i64 r ∧ Hid (SBoxR wx g16 A7 K c7 X Y) ∧ Hid (Rd wx wx.heap.size A7 (fis m)) ∧ Hid (Below w5.heap.size w5 wx) ∧ Hid (w5.heap.size ≤ g16))
          case first =>
            obtain ⟨CC, hCD⟩ : ∃ CC : World → Prop, ∀ W, CC W ↔ Below w5.heap.size w5 W := ⟨fun W => Below w5.heap.size w5 W, fun W => Iff.rfl⟩
            have hmk : ∀ W, Below w5.heap.size w5 W → W.rangeAt (w2.heap.size + 1) 0 [.slice A' NS c', .int .u64 nx, .int .u64 fl] ∧ W.rangeAt b (o + i * 4) [.slice e.A NA e.c, .slice e.D ND e.d, .int .u64 e.nx, .int .u64 e.fl] ∧ CC W := fun W hb => ⟨(SBoxR.below HSR5.out hb).range, rangeAt_below HRE5.out hb hbs5, (hCD W).2 hb⟩
            have HB := Lib.hid ((Below.refl w5.heap.size w5).drew)
            have HC := hmk _ HB.out
            refine region_wz (fun W' => W'.rangeAt (w2.heap.size + 1) 0 [.slice A' NS c', .int .u64 nx, .int .u64 fl] ∧ W'.rangeAt b (o + i * 4) [.slice e.A NA e.c, .slice e.D ND e.d, .int .u64 e.nx, .int .u64 e.fl] ∧ CC W') none (by kernel_rfl) ?_
            apply WZ.take (i := 0) (some 66) rfl rfl (by kernel_rfl) (by kernel_rfl) (by kernel_rfl) (calm_panic _) (by kernel_rfl)
            case hy => first | (apply yieldsIf_load_mid (by kernel_rfl) _ _ rfl _ _ rfl; (case hS => (intro W hC; exact hC.1)); (case hu => exact Try.underlying44); (case hd => rfl); (case hi => kernel_rfl)) | (apply yieldsIf_load_mid (by kernel_rfl) _ _ rfl _ _ rfl; (case hS => (intro W hC; exact hC.2.1)); (case hu => exact Try.underlying44); (case hd => rfl); (case hi => kernel_rfl)) | (apply yieldsIf_load_mid (by kernel_rfl) _ _ rfl _ _ rfl; (case hS => (intro W hC; exact hC.2.2.1)); (case hu => exact Try.underlying44); (case hd => rfl); (case hi => kernel_rfl)) | (apply yieldsIf_load_mid (by kernel_rfl) _ _ rfl _ _ rfl; (case hS => (intro W hC; exact hC.2.2.2.1)); (case hu => exact Try.underlying44); (case hd => rfl); (case hi => kernel_rfl)) | (apply yieldsIf_load_mid (by kernel_rfl) _ _ rfl _ _ rfl; (case hS => (intro W hC; exact hC.2.2.2)); (case hu => exact Try.underlying44); (case hd => rfl); (case hi => kernel_rfl)) | (apply yieldsIf_load_mid (by kernel_rfl) _ _ rfl _ _ rfl; (case hS => (intro W hC; exact hC.2.2)); (case hu => exact Try.underlying44); (case hd => rfl); (case hi => kernel_rfl)) | (apply yieldsIf_load_mid (by kernel_rfl) _ _ rfl _ _ rfl; (case hS => (intro W hC; exact hC.2)); (case hu => exact Try.underlying44); (case hd => rfl); (case hi => kernel_rfl)) | (apply yieldsIf_load_mid (by kernel_rfl) _ _ rfl _ _ rfl; (case hS => (intro W hC; exact hC)); (case hu => exact Try.underlying44); (case hd => rfl); (case hi => kernel_rfl))
            case hC => exact HC
            case ha => (simp only [Act.put, List.setIfInBounds_toArray, List.set_cons_zero, List.set_cons_succ]; rfl)
            apply WZ.take (i := 1) (some 67) rfl rfl (by kernel_rfl) (by kernel_rfl) (by kernel_rfl) (calm_panic _) (by kernel_rfl)
            case hy => (refine .inl ⟨by kernel_rfl, fun W hC => ?_⟩; (try dsimp only at hC); go_simp; rfl)
            case hC => exact HC
            case ha => (simp only [Act.put, List.setIfInBounds_toArray, List.set_cons_zero, List.set_cons_succ]; rfl)
            apply WZ.take (i := 2) (some 68) rfl rfl (by kernel_rfl) (by kernel_rfl) (by kernel_rfl) (calm_panic _) (by kernel_rfl)
            case hy => (refine .inl ⟨by kernel_rfl, fun W hC => ?_⟩; (try dsimp only at hC); go_simp; rfl)
            case hC => exact HC
            case ha => (simp only [Act.put, List.setIfInBounds_toArray, List.set_cons_zero, List.set_cons_succ]; rfl)
            apply WZ.take (i := 3) (some 69) rfl rfl (by kernel_rfl) (by kernel_rfl) (by kernel_rfl) (calm_panic _) (by kernel_rfl)
            case hy => (refine .inl ⟨by kernel_rfl, fun W hC => ?_⟩; (try dsimp only at hC); go_simp; rfl)
            case hC => exact HC
            case ha => (simp only [Act.put, List.setIfInBounds_toArray, List.set_cons_zero, List.set_cons_succ]; rfl)
            apply WZ.take (i := 4) (some 70) rfl rfl (by kernel_rfl) (by kernel_rfl) (by kernel_rfl) (calm_panic _) (by kernel_rfl)
            case hy => first | (apply yieldsIf_load_mid (by kernel_rfl) _ _ rfl _ _ rfl; (case hS => (intro W hC; exact hC.1)); (case hu => exact Try.underlying36); (case hd => rfl); (case hi => kernel_rfl)) | (apply yieldsIf_load_mid (by kernel_rfl) _ _ rfl _ _ rfl; (case hS => (intro W hC; exact hC.2.1)); (case hu => exact Try.underlying36); (case hd => rfl); (case hi => kernel_rfl)) | (apply yieldsIf_load_mid (by kernel_rfl) _ _ rfl _ _ rfl; (case hS => (intro W hC; exact hC.2.2.1)); (case hu => exact Try.underlying36); (case hd => rfl); (case hi => kernel_rfl)) | (apply yieldsIf_load_mid (by kernel_rfl) _ _ rfl _ _ rfl; (case hS => (intro W hC; exact hC.2.2.2.1)); (case hu => exact Try.underlying36); (case hd => rfl); (case hi => kernel_rfl)) | (apply yieldsIf_load_mid (by kernel_rfl) _ _ rfl _ _ rfl; (case hS => (intro W hC; exact hC.2.2.2)); (case hu => exact Try.underlying36); (case hd => rfl); (case hi => kernel_rfl)) | (apply yieldsIf_load_mid (by kernel_rfl) _ _ rfl _ _ rfl; (case hS => (intro W hC; exact hC.2.2)); (case hu => exact Try.underlying36); (case hd => rfl); (case hi => kernel_rfl)) | (apply yieldsIf_load_mid (by kernel_rfl) _ _ rfl _ _ rfl; (case hS => (intro W hC; exact hC.2)); (case hu => exact Try.underlying36); (case hd => rfl); (case hi => kernel_rfl)) | (apply yieldsIf_load_mid (by kernel_rfl) _ _ rfl _ _ rfl; (case hS => (intro W hC; exact hC)); (case hu => exact Try.underlying36); (case hd => rfl); (case hi => kernel_rfl))
            case hC => exact HC
            case ha => (simp only [Act.put, List.setIfInBounds_toArray, List.set_cons_zero, List.set_cons_succ]; rfl)
            refine WZ.two (i := 5) (j := 10) rfl rfl (by kernel_rfl) ?_ ?_
            · conv => arg 4; arg 1; whnf
              go_wp2_with (go_at_call 17; refine (HED.out _ HB.out).mono ?_; rintro e' w6 ⟨Ba, da, rfl, hr6, hb6⟩; have HRA := Lib.hid hr6)
              try (have HT2 := Lib.hid (SBoxR.below HT.out hb6); clear HT; have HT := HT2; clear HT2)
              have HB2 := Lib.hid (HB.out.trans (hb6.mono HB.out.size))
              clear HB HC hb6 hr6
              have HB := HB2
              clear HB2
              have HC := hmk _ HB.out
              refine ⟨HC, ?_⟩
              refine WZ.two (i := 6) (j := 10) rfl rfl (by kernel_rfl) ?_ ?_
              · conv => arg 4; arg 1; whnf
                go_wp2_with (go_at_call 16; refine (HRP.out _ _ _ HB.out HRA.out).mono ?_; rintro e' w7 ⟨A7, c7, rfl, hr7, hb7⟩; have HR7 := Lib.hid hr7)
                try (have HT2 := Lib.hid (SBoxR.below HT.out hb7); clear HT; have HT := HT2; clear HT2)
                have HB2 := Lib.hid (HB.out.trans (hb7.mono HB.out.size))
                clear HB HC hb7 hr7
                have HB := HB2
                clear HB2
                have HC := hmk _ HB.out
                refine ⟨HC, ?_⟩
                apply WZ.take (i := 7) (some 65) rfl rfl (by kernel_rfl) (by kernel_rfl) (by kernel_rfl) (calm_panic _) (by kernel_rfl)
                case hy => (refine .inl ⟨by kernel_rfl, fun W hC => ?_⟩; (try dsimp only at hC); go_simp; rfl)
                case hC => exact HC
                case ha => (simp only [Act.put, List.setIfInBounds_toArray, List.set_cons_zero, List.set_cons_succ]; rfl)
                apply WZ.take (i := 8) (some 73) rfl rfl (by kernel_rfl) (by kernel_rfl) (by kernel_rfl) (calm_panic _) (by kernel_rfl)
                case hy => (refine .inl ⟨by kernel_rfl, fun W hC => ?_⟩; (try dsimp only at hC); go_simp; rfl)
                case hC => exact HC
                case ha => (simp only [Act.put, List.setIfInBounds_toArray, List.set_cons_zero, List.set_cons_succ]; rfl)
                apply WZ.take (i := 9) (some 74) rfl rfl (by kernel_rfl) (by kernel_rfl) (by kernel_rfl) (calm_panic _) (by kernel_rfl)
                case hy => (refine .inl ⟨by kernel_rfl, fun W hC => ?_⟩; (try dsimp only at hC); go_simp; rfl)
                case hC => exact HC
                case ha => (simp only [Act.put, List.setIfInBounds_toArray, List.set_cons_zero, List.set_cons_succ]; rfl)
                -- 10
                refine WZ.one (i := 10) rfl (by kernel_rfl) ?_
                conv => arg 4; arg 1; whnf
                go_wp2_with fail
                have hMS := made_stateR HB.out HB.out.size
                try (have HRA2 := Lib.hid (HRA.out.allocS (.cells #[.slice none 0 0, .int .u64 0, .int .u64 0] 44)); clear HRA; have HRA := HRA2; clear HRA2)
                try (have HR72 := Lib.hid (HR7.out.allocS (.cells #[.slice none 0 0, .int .u64 0, .int .u64 0] 44)); clear HR7; have HR7 := HR72; clear HR72)
                first
                  | have HT := Lib.hid (show SBoxR (w5.drew.alloc (.cells #[.slice none 0 0, .int .u64 0, .int .u64 0] 44)) w5.heap.size none 0 0 0 0 from hMS.1)
                  | have HT := Lib.hid hMS.1
                have HGE := Lib.hid hMS.2.2
                have HB2 := Lib.hid hMS.2.1
                clear HB HC hMS
                have HB := HB2
                clear HB2
                have HC := hmk _ HB.out
                refine ⟨HC, ?_⟩
                -- 11
                refine WZ.one (i := 11) rfl (by kernel_rfl) ?_
                conv => arg 4; arg 1; whnf
                go_wp2_with (refine wpList_store_mid rfl 44 (.tmp 16) (.tmp 73) rfl _ 0 (stC A7 K c7 X Y) rfl rfl HT.out.there (by kernel_rfl) (stC_one _ _ _ _ _) ?_; refine HT.out.setW A7 K c7 X Y ?_; intro w9 HT9 HG9)
                have HR9 := Lib.hid (SBoxR.keep HT.out HG9.out HR7.out)
                have HB2 := Lib.hid (below_grown HB.out HB.out.size HG9.out HGE.out)
                clear HB HC HT HG9 HR7
                have HB := HB2
                clear HB2
                have HC := hmk _ HB.out
                refine ⟨HC, ?_⟩
                apply WZ.take (i := 12) (some 17) rfl rfl (by kernel_rfl) (by kernel_rfl) (by kernel_rfl) (calm_panic _) (by kernel_rfl)
                case hy => (refine .inl ⟨by kernel_rfl, fun W hC => ?_⟩; (try dsimp only at hC); go_simp; rfl)
                case hC => exact HC
                case ha => (simp only [Act.put, List.setIfInBounds_toArray, List.set_cons_zero, List.set_cons_succ]; rfl)
                refine WZ.done (by kernel_rfl) ?_ _
                simp only [Calm, Exit.then]
                clear HC hmk hCD
                go_wp2_with fail
                go_meet
                first
                  | exact ⟨_, A7, c7, rfl, rfl, HT9, HR9, HB, HGE⟩
                  | trace_state
              · conv => arg 4; arg 1; whnf
                go_wp2_with fail
                have hMS := made_stateR HB.out HB.out.size
                try (have HRA2 := Lib.hid (HRA.out.allocS (.cells #[.slice none 0 0, .int .u64 0, .int .u64 0] 44)); clear HRA; have HRA := HRA2; clear HRA2)
                try (have HR72 := Lib.hid (HR7.out.allocS (.cells #[.slice none 0 0, .int .u64 0, .int .u64 0] 44)); clear HR7; have HR7 := HR72; clear HR72)
                first
                  | have HT := Lib.hid (show SBoxR (w5.drew.alloc (.cells #[.slice none 0 0, .int .u64 0, .int .u64 0] 44)) w5.heap.size none 0 0 0 0 from hMS.1)
                  | have HT := Lib.hid hMS.1
                have HGE := Lib.hid hMS.2.2
                have HB2 := Lib.hid hMS.2.1
                clear HB HC hMS
                have HB := HB2
                clear HB2
                have HC := hmk _ HB.out
                refine ⟨HC, ?_⟩
                -- 6
                refine WZ.one (i := 6) rfl (by kernel_rfl) ?_
                conv => arg 4; arg 1; whnf
                go_wp2_with (go_at_call 16; refine (HRP.out _ _ _ HB.out HRA.out).mono ?_; rintro e' w7 ⟨A7, c7, rfl, hr7, hb7⟩; have HR7 := Lib.hid hr7)
                try (have HT2 := Lib.hid (SBoxR.below HT.out hb7); clear HT; have HT := HT2; clear HT2)
                have HB2 := Lib.hid (HB.out.trans (hb7.mono HB.out.size))
                clear HB HC hb7 hr7
                have HB := HB2
                clear HB2
                have HC := hmk _ HB.out
                refine ⟨HC, ?_⟩
                apply WZ.take (i := 7) (some 65) rfl rfl (by kernel_rfl) (by kernel_rfl) (by kernel_rfl) (calm_panic _) (by kernel_rfl)
                case hy => (refine .inl ⟨by kernel_rfl, fun W hC => ?_⟩; (try dsimp only at hC); go_simp; rfl)
                case hC => exact HC
                case ha => (simp only [Act.put, List.setIfInBounds_toArray, List.set_cons_zero, List.set_cons_succ]; rfl)
                apply WZ.take (i := 8) (some 73) rfl rfl (by kernel_rfl) (by kernel_rfl) (by kernel_rfl) (calm_panic _) (by kernel_rfl)
                case hy => (refine .inl ⟨by kernel_rfl, fun W hC => ?_⟩; (try dsimp only at hC); go_simp; rfl)
                case hC => exact HC
                case ha => (simp only [Act.put, List.setIfInBounds_toArray, List.set_cons_zero, List.set_cons_succ]; rfl)
                apply WZ.take (i := 9) (some 74) rfl rfl (by kernel_rfl) (by kernel_rfl) (by kernel_rfl) (calm_panic _) (by kernel_rfl)
                case hy => (refine .inl ⟨by kernel_rfl, fun W hC => ?_⟩; (try dsimp only at hC); go_simp; rfl)
                case hC => exact HC
                case ha => (simp only [Act.put, List.setIfInBounds_toArray, List.set_cons_zero, List.set_cons_succ]; rfl)
                -- 11
                refine WZ.one (i := 11) rfl (by kernel_rfl) ?_
                conv => arg 4; arg 1; whnf
                go_wp2_with (refine wpList_store_mid rfl 44 (.tmp 16) (.tmp 73) rfl _ 0 (stC A7 K c7 X Y) rfl rfl HT.out.there (by kernel_rfl) (stC_one _ _ _ _ _) ?_; refine HT.out.setW A7 K c7 X Y ?_; intro w9 HT9 HG9)
                have HR9 := Lib.hid (SBoxR.keep HT.out HG9.out HR7.out)
                have HB2 := Lib.hid (below_grown HB.out HB.out.size HG9.out HGE.out)
                clear HB HC HT HG9 HR7
                have HB := HB2
                clear HB2
                have HC := hmk _ HB.out
                refine ⟨HC, ?_⟩
                apply WZ.take (i := 12) (some 17) rfl rfl (by kernel_rfl) (by kernel_rfl) (by kernel_rfl) (calm_panic _) (by kernel_rfl)
                case hy => (refine .inl ⟨by kernel_rfl, fun W hC => ?_⟩; (try dsimp only at hC); go_simp; rfl)
                case hC => exact HC
                case ha => (simp only [Act.put, List.setIfInBounds_toArray, List.set_cons_zero, List.set_cons_succ]; rfl)
                refine WZ.done (by kernel_rfl) ?_ _
                simp only [Calm, Exit.then]
                clear HC hmk hCD
                go_wp2_with fail
                go_meet
                first
                  | exact ⟨_, A7, c7, rfl, rfl, HT9, HR9, HB, HGE⟩
                  | trace_state
            · conv => arg 4; arg 1; whnf
              go_wp2_with fail
              have hMS := made_stateR HB.out HB.out.size
              try (have HRA2 := Lib.hid (HRA.out.allocS (.cells #[.slice none 0 0, .int .u64 0, .int .u64 0] 44)); clear HRA; have HRA := HRA2; clear HRA2)
              try (have HR72 := Lib.hid (HR7.out.allocS (.cells #[.slice none 0 0, .int .u64 0, .int .u64 0] 44)); clear HR7; have HR7 := HR72; clear HR72)
              first
                | have HT := Lib.hid (show SBoxR (w5.drew.alloc (.cells #[.slice none 0 0, .int .u64 0, .int .u64 0] 44)) w5.heap.size none 0 0 0 0 from hMS.1)
                | have HT := Lib.hid hMS.1
              have HGE := Lib.hid hMS.2.2
              have HB2 := Lib.hid hMS.2.1
              clear HB HC hMS
              have HB := HB2
              clear HB2
              have HC := hmk _ HB.out
              refine ⟨HC, ?_⟩
              -- 5
              refine WZ.one (i := 5) rfl (by kernel_rfl) ?_
              conv => arg 4; arg 1; whnf
              go_wp2_with (go_at_call 17; refine (HED.out _ HB.out).mono ?_; rintro e' w6 ⟨Ba, da, rfl, hr6, hb6⟩; have HRA := Lib.hid hr6)
              try (have HT2 := Lib.hid (SBoxR.below HT.out hb6); clear HT; have HT := HT2; clear HT2)
              have HB2 := Lib.hid (HB.out.trans (hb6.mono HB.out.size))
              clear HB HC hb6 hr6
              have HB := HB2
              clear HB2
              have HC := hmk _ HB.out
              refine ⟨HC, ?_⟩
              -- 6
              refine WZ.one (i := 6) rfl (by kernel_rfl) ?_
              conv => arg 4; arg 1; whnf
              go_wp2_with (go_at_call 16; refine (HRP.out _ _ _ HB.out HRA.out).mono ?_; rintro e' w7 ⟨A7, c7, rfl, hr7, hb7⟩; have HR7 := Lib.hid hr7)
              try (have HT2 := Lib.hid (SBoxR.below HT.out hb7); clear HT; have HT := HT2; clear HT2)
              have HB2 := Lib.hid (HB.out.trans (hb7.mono HB.out.size))
              clear HB HC hb7 hr7
              have HB := HB2
              clear HB2
              have HC := hmk _ HB.out
              refine ⟨HC, ?_⟩
              apply WZ.take (i := 7) (some 65) rfl rfl (by kernel_rfl) (by kernel_rfl) (by kernel_rfl) (calm_panic _) (by kernel_rfl)
              case hy => (refine .inl ⟨by kernel_rfl, fun W hC => ?_⟩; (try dsimp only at hC); go_simp; rfl)
              case hC => exact HC
              case ha => (simp only [Act.put, List.setIfInBounds_toArray, List.set_cons_zero, List.set_cons_succ]; rfl)
              apply WZ.take (i := 8) (some 73) rfl rfl (by kernel_rfl) (by kernel_rfl) (by kernel_rfl) (calm_panic _) (by kernel_rfl)
              case hy => (refine .inl ⟨by kernel_rfl, fun W hC => ?_⟩; (try dsimp only at hC); go_simp; rfl)
              case hC => exact HC
              case ha => (simp only [Act.put, List.setIfInBounds_toArray, List.set_cons_zero, List.set_cons_succ]; rfl)
              apply WZ.take (i := 9) (some 74) rfl rfl (by kernel_rfl) (by kernel_rfl) (by kernel_rfl) (calm_panic _) (by kernel_rfl)
              case hy => (refine .inl ⟨by kernel_rfl, fun W hC => ?_⟩; (try dsimp only at hC); go_simp; rfl)
              case hC => exact HC
              case ha => (simp only [Act.put, List.setIfInBounds_toArray, List.set_cons_zero, List.set_cons_succ]; rfl)
              -- 11
              refine WZ.one (i := 11) rfl (by kernel_rfl) ?_
              conv => arg 4; arg 1; whnf
              go_wp2_with (refine wpList_store_mid rfl 44 (.tmp 16) (.tmp 73) rfl _ 0 (stC A7 K c7 X Y) rfl rfl HT.out.there (by kernel_rfl) (stC_one _ _ _ _ _) ?_; refine HT.out.setW A7 K c7 X Y ?_; intro w9 HT9 HG9)
              have HR9 := Lib.hid (SBoxR.keep HT.out HG9.out HR7.out)
              have HB2 := Lib.hid (below_grown HB.out HB.out.size HG9.out HGE.out)
              clear HB HC HT HG9 HR7
              have HB := HB2
              clear HB2
              have HC := hmk _ HB.out
              refine ⟨HC, ?_⟩
              apply WZ.take (i := 12) (some 17) rfl rfl (by kernel_rfl) (by kernel_rfl) (by kernel_rfl) (calm_panic _) (by kernel_rfl)
              case hy => (refine .inl ⟨by kernel_rfl, fun W hC => ?_⟩; (try dsimp only at hC); go_simp; rfl)
              case hC => exact HC
              case ha => (simp only [Act.put, List.setIfInBounds_toArray, List.set_cons_zero, List.set_cons_succ]; rfl)
              refine WZ.done (by kernel_rfl) ?_ _
              simp only [Calm, Exit.then]
              clear HC hmk hCD
              go_wp2_with fail
              go_meet
              first
                | exact ⟨_, A7, c7, rfl, rfl, HT9, HR9, HB, HGE⟩
                | trace_state
          case rest =>
            obtain ⟨g16, A7, c7, rfl, rfl, HT7, HR7, HB7, HGE7⟩ := hcut
            rename World => w6
            have HT6b := Lib.hid (SBox.below HT6.out HB7.out)
            have HR6b := Lib.hid ((HR6.out.below HB7.out).more HB7.out.size)
            obtain ⟨CC, hCD⟩ : ∃ CC : World → Prop, ∀ W, CC W ↔ Below w6.heap.size w6 W := ⟨fun W => Below w6.heap.size w6 W, fun W => Iff.rfl⟩
            have hmk : ∀ W, Below w6.heap.size w6 W → W.cell? ⟨g14, 0, none⟩ = some (.slice A6 K c6) ∧ W.cell? ⟨g14, 1, none⟩ = some (.int .u64 X) ∧ W.cell? ⟨g14, 2, none⟩ = some (.int .u64 Y) ∧ W.cell? ⟨g16, 0, none⟩ = some (.slice A7 K c7) ∧ W.cell? ⟨g16, 1, none⟩ = some (.int .u64 X) ∧ W.cell? ⟨g16, 2, none⟩ = some (.int .u64 Y) ∧ CC W := fun W hb => by
              obtain ⟨a0, a1, a2⟩ := (SBox.below HT6b.out hb).cells
              obtain ⟨b0, b1, b2⟩ := (SBoxR.below HT7.out hb).cells
              exact ⟨a0, a1, a2, b0, b1, b2, (hCD W).2 hb⟩
            have hcb : ∀ W, CC W → Below w6.heap.size w6 W := fun W h => (hCD W).1 h
            have HB := Lib.hid ((Below.refl w6.heap.size w6).drew)
            have HC := hmk _ HB.out
            clear hCD
            go_wp2
            refine region_wz (fun W => W.cell? ⟨g14, 0, none⟩ = some (.slice A6 K c6) ∧ W.cell? ⟨g14, 1, none⟩ = some (.int .u64 X) ∧ W.cell? ⟨g14, 2, none⟩ = some (.int .u64 Y) ∧ W.cell? ⟨g16, 0, none⟩ = some (.slice A7 K c7) ∧ W.cell? ⟨g16, 1, none⟩ = some (.int .u64 X) ∧ W.cell? ⟨g16, 2, none⟩ = some (.int .u64 Y) ∧ CC W) none (by kernel_rfl) ?_
            apply WZ.take (i := 0) (some 75) rfl rfl (by kernel_rfl) (by kernel_rfl) (by kernel_rfl) (calm_panic _) (by kernel_rfl)
            case hy => (refine .inl ⟨by kernel_rfl, fun W hC => ?_⟩; (try dsimp only at hC); go_simp; (try simp only [bne_self_eq_false]); rfl)
            case hC => exact HC
            case ha => (simp only [Act.put, List.setIfInBounds_toArray, List.set_cons_zero, List.set_cons_succ]; rfl)
            apply WZ.take (i := 1) (some 76) rfl rfl (by kernel_rfl) (by kernel_rfl) (by kernel_rfl) (calm_panic _) (by kernel_rfl)
            case hy => (refine .inl ⟨by kernel_rfl, fun W hC => ?_⟩; (try dsimp only at hC); go_simp; (try simp only [bne_self_eq_false]); rfl)
            case hC => exact HC
            case ha => (simp only [Act.put, List.setIfInBounds_toArray, List.set_cons_zero, List.set_cons_succ]; rfl)
            apply WZ.take (i := 2) (some 77) rfl rfl (by kernel_rfl) (by kernel_rfl) (by kernel_rfl) (calm_panic _) (by kernel_rfl)
            case hy => (refine .inl ⟨by kernel_rfl, fun W hC => ?_⟩; (try dsimp only at hC); go_simp; (try simp only [bne_self_eq_false]); rfl)
            case hC => exact HC
            case ha => (simp only [Act.put, List.setIfInBounds_toArray, List.set_cons_zero, List.set_cons_succ]; rfl)
            apply WZ.take (i := 3) (some 78) rfl rfl (by kernel_rfl) (by kernel_rfl) (by kernel_rfl) (calm_panic _) (by kernel_rfl)
            case hy => (refine .inl ⟨by kernel_rfl, fun W hC => ?_⟩; (try dsimp only at hC); go_simp; (try simp only [bne_self_eq_false]); rfl)
            case hC => exact HC
            case ha => (simp only [Act.put, List.setIfInBounds_toArray, List.set_cons_zero, List.set_cons_succ]; rfl)
            apply WZ.take (i := 4) (some 79) rfl rfl (by kernel_rfl) (by kernel_rfl) (by kernel_rfl) (calm_panic _) (by kernel_rfl)
            case hy => (refine .inl ⟨by kernel_rfl, fun W hC => ?_⟩; (try dsimp only at hC); go_simp; (try simp only [bne_self_eq_false]); rfl)
            case hC => exact HC
            case ha => (simp only [Act.put, List.setIfInBounds_toArray, List.set_cons_zero, List.set_cons_succ]; rfl)
            apply WZ.take (i := 5) (some 80) rfl rfl (by kernel_rfl) (by kernel_rfl) (by kernel_rfl) (calm_panic _) (by kernel_rfl)
            case hy => (refine .inl ⟨by kernel_rfl, fun W hC => ?_⟩; (try dsimp only at hC); go_simp; (try simp only [bne_self_eq_false]); rfl)
            case hC => exact HC
            case ha => (simp only [Act.put, List.setIfInBounds_toArray, List.set_cons_zero, List.set_cons_succ]; rfl)
            apply WZ.take (i := 7) (some 82) rfl rfl (by kernel_rfl) (by kernel_rfl) (by kernel_rfl) (calm_panic _) (by kernel_rfl)
            case hy => (refine .inl ⟨by kernel_rfl, fun W hC => ?_⟩; (try dsimp only at hC); go_simp; (try simp only [bne_self_eq_false]); rfl)
            case hC => exact HC
            case ha => (simp only [Act.put, List.setIfInBounds_toArray, List.set_cons_zero, List.set_cons_succ]; rfl)
            apply WZ.take (i := 8) (some 83) rfl rfl (by kernel_rfl) (by kernel_rfl) (by kernel_rfl) (calm_panic _) (by kernel_rfl)
            case hy => (refine .inl ⟨by kernel_rfl, fun W hC => ?_⟩; (try dsimp only at hC); go_simp; (try simp only [bne_self_eq_false]); rfl)
            case hC => exact HC
            case ha => (simp only [Act.put, List.setIfInBounds_toArray, List.set_cons_zero, List.set_cons_succ]; rfl)
            -- 6
            refine WZ.one (i := 6) rfl (by kernel_rfl) ?_
            conv => arg 4; arg 1; whnf
            go_wp2_with (go_at_call 14; refine (filesL_any A6 c6 K m _ (((HR6b.out.below (hcb _ HC.2.2.2.2.2.2))).more (hcb _ HC.2.2.2.2.2.2).size) HK.out hk500).mono ?_; rintro e' w12 ⟨A12, c12, rfl, ho12, hb12⟩; have HN12 := Lib.hid (OwnR.rd ho12); have HNL := Lib.hid (OwnR.len ho12))
            have HB12 := Lib.hid ((hcb _ HC.2.2.2.2.2.2).trans (hb12.mono (hcb _ HC.2.2.2.2.2.2).size))
            clear HC ho12 hb12
            have HC := hmk _ HB12.out
            refine ⟨HC, ?_⟩
            -- 9
            refine WZ.one (i := 9) rfl (by kernel_rfl) ?_
            conv => arg 4; arg 1; whnf
            go_wp2_with (go_at_call 13; refine (sameFiles_any A12 A7 c12 c7 K K m m _ _ HN12.out (((HR7.out.below HB12.out)).more HB12.out.size) HNL.out HNL.out (by omega) (by omega)).mono ?_; rw [decide_eq_true rfl]; rintro e' w13 ⟨rfl, hb13⟩)
            have HB13 := Lib.hid (HB12.out.trans (hb13.mono HB12.out.size))
            clear HC hb13 HN12
            have HC := hmk _ HB13.out
            refine ⟨HC, ?_⟩
            apply WZ.take (i := 10) (some 85) rfl rfl (by kernel_rfl) (by kernel_rfl) (by kernel_rfl) (calm_panic _) (by kernel_rfl)
            case hy => (refine .inl ⟨by kernel_rfl, fun W hC => ?_⟩; (try dsimp only at hC); go_simp; (try simp only [bne_self_eq_false]); rfl)
            case hC => exact HC
            case ha => (simp only [Act.put, List.setIfInBounds_toArray, List.set_cons_zero, List.set_cons_succ]; rfl)
            apply WZ.take (i := 11) (some 86) rfl rfl (by kernel_rfl) (by kernel_rfl) (by kernel_rfl) (calm_panic _) (by kernel_rfl)
            case hy => (refine .inl ⟨by kernel_rfl, fun W hC => ?_⟩; (try dsimp only at hC); go_simp; (try simp only [bne_self_eq_false]); rfl)
            case hC => exact HC
            case ha => (simp only [Act.put, List.setIfInBounds_toArray, List.set_cons_zero, List.set_cons_succ]; rfl)
            apply WZ.take (i := 12) (some 87) rfl rfl (by kernel_rfl) (by kernel_rfl) (by kernel_rfl) (calm_panic _) (by kernel_rfl)
            case hy => (refine .inl ⟨by kernel_rfl, fun W hC => ?_⟩; (try dsimp only at hC); go_simp; (try simp only [bne_self_eq_false]); rfl)
            case hC => exact HC
            case ha => (simp only [Act.put, List.setIfInBounds_toArray, List.set_cons_zero, List.set_cons_succ]; rfl)
            apply WZ.take (i := 13) (some 88) rfl rfl (by kernel_rfl) (by kernel_rfl) (by kernel_rfl) (calm_panic _) (by kernel_rfl)
            case hy => (refine .inl ⟨by kernel_rfl, fun W hC => ?_⟩; (try dsimp only at hC); go_simp; (try simp only [bne_self_eq_false]); rfl)
            case hC => exact HC
            case ha => (simp only [Act.put, List.setIfInBounds_toArray, List.set_cons_zero, List.set_cons_succ]; rfl)
            apply WZ.take (i := 14) (some 89) rfl rfl (by kernel_rfl) (by kernel_rfl) (by kernel_rfl) (calm_panic _) (by kernel_rfl)
            case hy => (refine .inl ⟨by kernel_rfl, fun W hC => ?_⟩; (try dsimp only at hC); go_simp; (try simp only [bne_self_eq_false]); rfl)
            case hC => exact HC
            case ha => (simp only [Act.put, List.setIfInBounds_toArray, List.set_cons_zero, List.set_cons_succ]; rfl)
            apply WZ.take (i := 15) (some 90) rfl rfl (by kernel_rfl) (by kernel_rfl) (by kernel_rfl) (calm_panic _) (by kernel_rfl)
            case hy => (refine .inl ⟨by kernel_rfl, fun W hC => ?_⟩; (try dsimp only at hC); go_simp; (try simp only [bne_self_eq_false]); rfl)
            case hC => exact HC
            case ha => (simp only [Act.put, List.setIfInBounds_toArray, List.set_cons_zero, List.set_cons_succ]; rfl)
            apply WZ.take (i := 16) (some 91) rfl rfl (by kernel_rfl) (by kernel_rfl) (by kernel_rfl) (calm_panic _) (by kernel_rfl)
            case hy => (refine .inl ⟨by kernel_rfl, fun W hC => ?_⟩; (try dsimp only at hC); go_simp; (try simp only [bne_self_eq_false]); rfl)
            case hC => exact HC
            case ha => (simp only [Act.put, List.setIfInBounds_toArray, List.set_cons_zero, List.set_cons_succ]; rfl)
            apply WZ.take (i := 17) (some 92) rfl rfl (by kernel_rfl) (by kernel_rfl) (by kernel_rfl) (calm_panic _) (by kernel_rfl)
            case hy => (refine .inl ⟨by kernel_rfl, fun W hC => ?_⟩; (try dsimp only at hC); go_simp; (try simp only [bne_self_eq_false]); rfl)
            case hC => exact HC
            case ha => (simp only [Act.put, List.setIfInBounds_toArray, List.set_cons_zero, List.set_cons_succ]; rfl)
            apply WZ.take (i := 18) (some 93) rfl rfl (by kernel_rfl) (by kernel_rfl) (by kernel_rfl) (calm_panic _) (by kernel_rfl)
            case hy => (refine .inl ⟨by kernel_rfl, fun W hC => ?_⟩; (try dsimp only at hC); go_simp; (try simp only [bne_self_eq_false]); rfl)
            case hC => exact HC
            case ha => (simp only [Act.put, List.setIfInBounds_toArray, List.set_cons_zero, List.set_cons_succ]; rfl)
            apply WZ.take (i := 19) (some 94) rfl rfl (by kernel_rfl) (by kernel_rfl) (by kernel_rfl) (calm_panic _) (by kernel_rfl)
            case hy => (refine .inl ⟨by kernel_rfl, fun W hC => ?_⟩; (try dsimp only at hC); go_simp; (try simp only [bne_self_eq_false]); rfl)
            case hC => exact HC
            case ha => (simp only [Act.put, List.setIfInBounds_toArray, List.set_cons_zero, List.set_cons_succ]; rfl)
            apply WZ.take (i := 20) (some 95) rfl rfl (by kernel_rfl) (by kernel_rfl) (by kernel_rfl) (calm_panic _) (by kernel_rfl)
            case hy => (refine .inl ⟨by kernel_rfl, fun W hC => ?_⟩; (try dsimp only at hC); go_simp; (try simp only [bne_self_eq_false]); rfl)
            case hC => exact HC
            case ha => (simp only [Act.put, List.setIfInBounds_toArray, List.set_cons_zero, List.set_cons_succ]; rfl)
            apply WZ.take (i := 21) (some 96) rfl rfl (by kernel_rfl) (by kernel_rfl) (by kernel_rfl) (calm_panic _) (by kernel_rfl)
            case hy => (refine .inl ⟨by kernel_rfl, fun W hC => ?_⟩; (try dsimp only at hC); go_simp; (try simp only [bne_self_eq_false]); rfl)
            case hC => exact HC
            case ha => (simp only [Act.put, List.setIfInBounds_toArray, List.set_cons_zero, List.set_cons_succ]; rfl)
            apply WZ.take (i := 22) (some 97) rfl rfl (by kernel_rfl) (by kernel_rfl) (by kernel_rfl) (calm_panic _) (by kernel_rfl)
            case hy => (refine .inl ⟨by kernel_rfl, fun W hC => ?_⟩; (try dsimp only at hC); go_simp; (try simp only [bne_self_eq_false]); rfl)
            case hC => exact HC
            case ha => (simp only [Act.put, List.setIfInBounds_toArray, List.set_cons_zero, List.set_cons_succ]; rfl)
            apply WZ.take (i := 23) (some 98) rfl rfl (by kernel_rfl) (by kernel_rfl) (by kernel_rfl) (calm_panic _) (by kernel_rfl)
            case hy => (refine .inl ⟨by kernel_rfl, fun W hC => ?_⟩; (try dsimp only at hC); go_simp; (try simp only [bne_self_eq_false]); rfl)
            case hC => exact HC
            case ha => (simp only [Act.put, List.setIfInBounds_toArray, List.set_cons_zero, List.set_cons_succ]; rfl)
            apply WZ.take (i := 24) (some 99) rfl rfl (by kernel_rfl) (by kernel_rfl) (by kernel_rfl) (calm_panic _) (by kernel_rfl)
            case hy => (refine .inl ⟨by kernel_rfl, fun W hC => ?_⟩; (try dsimp only at hC); go_simp; (try simp only [bne_self_eq_false]); rfl)
            case hC => exact HC
            case ha => (simp only [Act.put, List.setIfInBounds_toArray, List.set_cons_zero, List.set_cons_succ]; rfl)
            apply WZ.take (i := 25) (some 100) rfl rfl (by kernel_rfl) (by kernel_rfl) (by kernel_rfl) (calm_panic _) (by kernel_rfl)
            case hy => (refine .inl ⟨by kernel_rfl, fun W hC => ?_⟩; (try dsimp only at hC); go_simp; (try simp only [bne_self_eq_false]); rfl)
            case hC => exact HC
            case ha => (simp only [Act.put, List.setIfInBounds_toArray, List.set_cons_zero, List.set_cons_succ]; rfl)
            refine WZ.done (by kernel_rfl) ?_ _
            simp only [Calm, Exit.then]
            clear HC hmk hcb HB
            have HB46 := Lib.hid ((HB6.out.trans (HB7.out.mono HB6.out.size)).trans (HB13.out.mono (Nat.le_trans HB6.out.size HB7.out.size)))
            have HBF := Lib.hid (HBW.out.trans (HB46.out.mono HBW.out.size))
            have HS13 := Lib.hid (SBox.below HS4.out HB46.out)
            have HSR13 := Lib.hid (SBoxR.below HSR4.out HB46.out)
            by_cases hr0 : r = 0
            · subst hr0
              have hgd := HGOODS.out.apply HRM.out
              have HGOOD := Lib.hid hgd.1
              have HLEN := Lib.hid (show m.length ≤ 40 * (i + 1) by have := hgd.2; rw [HNS.out, HNA.out] at this; omega)
              have hx13 := SBox.below HT6b.out HB13.out
              have HX13 := Lib.hid (SBoxR.below HT7.out HB13.out)
              have HRA := Lib.hid ((HR6b.out.below HB13.out).more HB13.out.size)
              have HRB := Lib.hid ((HR7.out.below HB13.out).more HB13.out.size)
              obtain ⟨f0, f1, f2⟩ := hx13.cells
              have HNE := Lib.hid (show g16 ≠ w2.heap.size by have h1 := HS4.out.lt; have h2 := HGE7.out; have h3 := HB6.out.size; omega)
              have HNE2 := Lib.hid (show w2.heap.size ≠ w2.heap.size + 1 by omega)
              clear hgd hx13
              go_wp2_with (first
                | (show wpList _ _ _ ({ dst := none, op := Op.store _ (Operand.tmp 11) _, type := _, pos := _, after := _, guard := _ } :: _) _ _; refine wpList_store_mid rfl 30 (.tmp 11) (.tmp 103) rfl w2.heap.size 0 (stC A6 K c6 X Y) rfl rfl HS13.out.there (by kernel_rfl) (stC_one _ _ _ _ _) ?_; refine HS13.out.setW A6 K c6 X Y HRA.out ?_; intro wE HSE HGE HRE; clear f0 f1 f2; obtain ⟨q0, q1, q2⟩ := (SBoxR.other HX13.out HGE.out HNE.out).cells; have HSRE := Lib.hid (SBoxR.other HSR13.out HGE.out (Ne.symm HNE2.out)); have HRBE := Lib.hid (SBox.keep HS13.out HGE.out HRB.out))
                | (show wpList _ _ _ ({ dst := none, op := Op.store _ (Operand.tmp 12) _, type := _, pos := _, after := _, guard := _ } :: _) _ _; refine wpList_store_mid rfl 44 (.tmp 12) (.tmp 104) rfl (w2.heap.size + 1) 0 (stC A7 K c7 X Y) rfl rfl HSRE.out.there (by kernel_rfl) (stC_one _ _ _ _ _) ?_; refine HSRE.out.setW A7 K c7 X Y ?_; intro wF HSF HGF))
              have HBE := Lib.hid (below_grown HBF.out HBF.out.size HGE.out HGW.out)
              have HBG := Lib.hid (below_grown HBE.out HBE.out.size HGF.out (Nat.le_succ_of_le HGW.out))
              exact ⟨⟨i + 1, by first | rfl | go_num, by omega, Lib.hid (Run2.next HGW.out HBG.out HK.out (SBox.other HSE.out HGF.out HNE2.out) HSF.out (SBoxR.keep HSRE.out HGF.out HRE.out) (SBoxR.keep HSRE.out HGF.out HRBE.out) HLEN.out HGOOD.out)⟩, by simp [intOf]; omega⟩
            · have e4 : (r == 0) = false := by simpa using hr0
              have HRA := Lib.hid ((HRS.out.below HB46.out).more HB46.out.size)
              have HRB := Lib.hid ((HRR.out.below HB46.out).more HB46.out.size)
              clear hr0
              go_wp2
              exact ⟨⟨i + 1, by first | rfl | go_num, by omega, Lib.hid (Run2.next HGW.out HBF.out HNS.out HS13.out HSR13.out HRA.out HRB.out HLENS.out HGOODS.out)⟩, by simp [intOf]; omega⟩
    · have e1 : decide ((i : Int) < (N : Int)) = false := decide_eq_false (by omega)
      obtain ⟨hgw, hbw, S, A, c, A', c', nx, fl, hs, hs', hr, hr', hsl, hgood⟩ := HRUN.out
      obtain ⟨NS, hNS⟩ : ∃ n, S.length = n := ⟨_, rfl⟩
      rw [hNS] at hs hs' hsl
      have hn4 : NS ≤ 100000 := by omega
      have HS := Lib.hid hs
      have HSR := Lib.hid hs'
      have HRS := Lib.hid hr
      have HRR := Lib.hid hr'
      have HBW := Lib.hid hbw
      have HNS := Lib.hid hNS
      clear hgw hbw hs hs' hr hr' hgood hNS HRUN
      obtain ⟨CC, hCD⟩ : ∃ CC : World → Prop, ∀ W, CC W ↔ Below wr.heap.size wr W := ⟨fun W => Below wr.heap.size wr W, fun W => Iff.rfl⟩
      have hmk : ∀ W, Below wr.heap.size wr W → W.rangeAt w2.heap.size 0 [.slice A NS c, .int .u64 nx, .int .u64 fl] ∧ W.rangeAt (w2.heap.size + 1) 0 [.slice A' NS c', .int .u64 nx, .int .u64 fl] ∧ CC W := fun W hb => ⟨(SBox.below HS.out hb).range, (SBoxR.below HSR.out hb).range, (hCD W).2 hb⟩
      have hcb : ∀ W, CC W → Below wr.heap.size wr W := fun W h => (hCD W).1 h
      have HB := Lib.hid ((Below.refl wr.heap.size wr).drew)
      have HC := hmk _ HB.out
      clear hCD
      go_wp2
      refine region_wz (fun W => W.rangeAt w2.heap.size 0 [.slice A NS c, .int .u64 nx, .int .u64 fl] ∧ W.rangeAt (w2.heap.size + 1) 0 [.slice A' NS c', .int .u64 nx, .int .u64 fl] ∧ CC W) none (by kernel_rfl) ?_
      apply WZ.take (i := 0) (some 105) rfl rfl (by kernel_rfl) (by kernel_rfl) (by kernel_rfl) (calm_panic _) (by kernel_rfl)
      case hy => first | (apply yieldsIf_load_mid (by kernel_rfl) _ _ rfl _ _ rfl; (case hS => (intro W hC; exact hC.1)); (case hu => exact Try.underlying30); (case hd => rfl); (case hi => kernel_rfl)) | (apply yieldsIf_load_mid (by kernel_rfl) _ _ rfl _ _ rfl; (case hS => (intro W hC; exact hC.2.1)); (case hu => exact Try.underlying30); (case hd => rfl); (case hi => kernel_rfl)) | (apply yieldsIf_load_mid (by kernel_rfl) _ _ rfl _ _ rfl; (case hS => (intro W hC; exact hC.2.2.1)); (case hu => exact Try.underlying30); (case hd => rfl); (case hi => kernel_rfl)) | (apply yieldsIf_load_mid (by kernel_rfl) _ _ rfl _ _ rfl; (case hS => (intro W hC; exact hC.2.2.2.1)); (case hu => exact Try.underlying30); (case hd => rfl); (case hi => kernel_rfl)) | (apply yieldsIf_load_mid (by kernel_rfl) _ _ rfl _ _ rfl; (case hS => (intro W hC; exact hC.2.2.2)); (case hu => exact Try.underlying30); (case hd => rfl); (case hi => kernel_rfl)) | (apply yieldsIf_load_mid (by kernel_rfl) _ _ rfl _ _ rfl; (case hS => (intro W hC; exact hC.2.2)); (case hu => exact Try.underlying30); (case hd => rfl); (case hi => kernel_rfl)) | (apply yieldsIf_load_mid (by kernel_rfl) _ _ rfl _ _ rfl; (case hS => (intro W hC; exact hC.2)); (case hu => exact Try.underlying30); (case hd => rfl); (case hi => kernel_rfl)) | (apply yieldsIf_load_mid (by kernel_rfl) _ _ rfl _ _ rfl; (case hS => (intro W hC; exact hC)); (case hu => exact Try.underlying30); (case hd => rfl); (case hi => kernel_rfl))
      case hC => exact HC
      case ha => (simp only [Act.put, List.setIfInBounds_toArray, List.set_cons_zero, List.set_cons_succ]; rfl)
      apply WZ.take (i := 1) (some 106) rfl rfl (by kernel_rfl) (by kernel_rfl) (by kernel_rfl) (calm_panic _) (by kernel_rfl)
      case hy => (refine .inl ⟨by kernel_rfl, fun W hC => ?_⟩; (try dsimp only at hC); go_simp; rfl)
      case hC => exact HC
      case ha => (simp only [Act.put, List.setIfInBounds_toArray, List.set_cons_zero, List.set_cons_succ]; rfl)
      apply WZ.take (i := 4) (some 109) rfl rfl (by kernel_rfl) (by kernel_rfl) (by kernel_rfl) (calm_panic _) (by kernel_rfl)
      case hy => first | (apply yieldsIf_load_mid (by kernel_rfl) _ _ rfl _ _ rfl; (case hS => (intro W hC; exact hC.1)); (case hu => exact Try.underlying44); (case hd => rfl); (case hi => kernel_rfl)) | (apply yieldsIf_load_mid (by kernel_rfl) _ _ rfl _ _ rfl; (case hS => (intro W hC; exact hC.2.1)); (case hu => exact Try.underlying44); (case hd => rfl); (case hi => kernel_rfl)) | (apply yieldsIf_load_mid (by kernel_rfl) _ _ rfl _ _ rfl; (case hS => (intro W hC; exact hC.2.2.1)); (case hu => exact Try.underlying44); (case hd => rfl); (case hi => kernel_rfl)) | (apply yieldsIf_load_mid (by kernel_rfl) _ _ rfl _ _ rfl; (case hS => (intro W hC; exact hC.2.2.2.1)); (case hu => exact Try.underlying44); (case hd => rfl); (case hi => kernel_rfl)) | (apply yieldsIf_load_mid (by kernel_rfl) _ _ rfl _ _ rfl; (case hS => (intro W hC; exact hC.2.2.2)); (case hu => exact Try.underlying44); (case hd => rfl); (case hi => kernel_rfl)) | (apply yieldsIf_load_mid (by kernel_rfl) _ _ rfl _ _ rfl; (case hS => (intro W hC; exact hC.2.2)); (case hu => exact Try.underlying44); (case hd => rfl); (case hi => kernel_rfl)) | (apply yieldsIf_load_mid (by kernel_rfl) _ _ rfl _ _ rfl; (case hS => (intro W hC; exact hC.2)); (case hu => exact Try.underlying44); (case hd => rfl); (case hi => kernel_rfl)) | (apply yieldsIf_load_mid (by kernel_rfl) _ _ rfl _ _ rfl; (case hS => (intro W hC; exact hC)); (case hu => exact Try.underlying44); (case hd => rfl); (case hi => kernel_rfl))
      case hC => exact HC
      case ha => (simp only [Act.put, List.setIfInBounds_toArray, List.set_cons_zero, List.set_cons_succ]; rfl)
      apply WZ.take (i := 5) (some 110) rfl rfl (by kernel_rfl) (by kernel_rfl) (by kernel_rfl) (calm_panic _) (by kernel_rfl)
      case hy => (refine .inl ⟨by kernel_rfl, fun W hC => ?_⟩; (try dsimp only at hC); go_simp; rfl)
      case hC => exact HC
      case ha => (simp only [Act.put, List.setIfInBounds_toArray, List.set_cons_zero, List.set_cons_succ]; rfl)
      -- 2
      refine WZ.one (i := 2) rfl (by kernel_rfl) ?_
      conv => arg 4; arg 1; whnf
      go_wp2_with (go_at_call 18; refine (find_at A c NS S nx fl row _ ((HRS.out.below (hcb _ HC.2.2)).more (hcb _ HC.2.2).size) HNS.out hn4).mono ?_; rintro e w21 ⟨A1, n1, c1, rfl, hn1, ho1, hb1⟩)
      have HO1 := Lib.hid ho1
      have HB1 := Lib.hid ((hcb _ HC.2.2).trans (hb1.mono (hcb _ HC.2.2).size))
      clear HC ho1 hb1
      have HC := hmk _ HB1.out
      refine ⟨HC, ?_⟩
      -- 3
      refine WZ.one (i := 3) rfl (by kernel_rfl) ?_
      conv => arg 4; arg 1; whnf
      go_wp2_with (go_at_call 14; refine (filesL_any A1 c1 n1 _ _ (Own.rd HO1.out (by omega)) (OwnF.len HO1.out) (by omega)).mono ?_; rintro e w22 ⟨A2, c2, rfl, ho2, hb2⟩)
      have HO2 := Lib.hid ho2
      have HB2 := Lib.hid (HB1.out.trans (hb2.mono HB1.out.size))
      clear HC ho2 hb2 HO1 HB1
      have HC := hmk _ HB2.out
      refine ⟨HC, ?_⟩
      -- 6
      refine WZ.one (i := 6) rfl (by kernel_rfl) ?_
      conv => arg 4; arg 1; whnf
      go_wp2_with (go_at_call 19; refine (refFindF_any A' c' NS S nx fl row _ ((HRR.out.below HB2.out).more HB2.out.size) HNS.out hn4).mono ?_; rintro e w23 ⟨A3, n3, c3, rfl, hn3, ho3, hb3⟩)
      have HO3 := Lib.hid ho3
      have HO23 := Lib.hid (OwnR.below HO2.out hb3)
      have HB3 := Lib.hid (HB2.out.trans (hb3.mono HB2.out.size))
      clear HC ho3 hb3 HO2 HB2
      have HC := hmk _ HB3.out
      refine ⟨HC, ?_⟩
      -- 7
      refine WZ.one (i := 7) rfl (by kernel_rfl) ?_
      conv => arg 4; arg 1; whnf
      go_wp2_with (go_at_call 13; refine (sameFiles_any A2 A3 c2 c3 n1 n3 _ _ _ _ (OwnR.rd HO23.out) (OwnR.rd HO3.out) (OwnR.len HO23.out) (OwnR.len HO3.out) (by omega) (by omega)).mono ?_; rw [decide_eq_true rfl]; rintro e w24 ⟨rfl, hb4⟩)
      have HB4 := Lib.hid (HB3.out.trans (hb4.mono HB3.out.size))
      clear HC hb4 HO23 HO3 HB3
      have HC := hmk _ HB4.out
      refine ⟨HC, ?_⟩
      apply WZ.take (i := 8) (some 113) rfl rfl (by kernel_rfl) (by kernel_rfl) (by kernel_rfl) (calm_panic _) (by kernel_rfl)
      case hy => (refine .inl ⟨by kernel_rfl, fun W hC => ?_⟩; (try dsimp only at hC); go_simp; rfl)
      case hC => exact HC
      case ha => (simp only [Act.put, List.setIfInBounds_toArray, List.set_cons_zero, List.set_cons_succ]; rfl)
      apply WZ.take (i := 9) (some 114) rfl rfl (by kernel_rfl) (by kernel_rfl) (by kernel_rfl) (calm_panic _) (by kernel_rfl)
      case hy => first | (apply yieldsIf_load_mid (by kernel_rfl) _ _ rfl _ _ rfl; (case hS => (intro W hC; exact hC.1)); (case hu => exact Try.underlying30); (case hd => rfl); (case hi => kernel_rfl)) | (apply yieldsIf_load_mid (by kernel_rfl) _ _ rfl _ _ rfl; (case hS => (intro W hC; exact hC.2.1)); (case hu => exact Try.underlying30); (case hd => rfl); (case hi => kernel_rfl)) | (apply yieldsIf_load_mid (by kernel_rfl) _ _ rfl _ _ rfl; (case hS => (intro W hC; exact hC.2.2.1)); (case hu => exact Try.underlying30); (case hd => rfl); (case hi => kernel_rfl)) | (apply yieldsIf_load_mid (by kernel_rfl) _ _ rfl _ _ rfl; (case hS => (intro W hC; exact hC.2.2.2.1)); (case hu => exact Try.underlying30); (case hd => rfl); (case hi => kernel_rfl)) | (apply yieldsIf_load_mid (by kernel_rfl) _ _ rfl _ _ rfl; (case hS => (intro W hC; exact hC.2.2.2)); (case hu => exact Try.underlying30); (case hd => rfl); (case hi => kernel_rfl)) | (apply yieldsIf_load_mid (by kernel_rfl) _ _ rfl _ _ rfl; (case hS => (intro W hC; exact hC.2.2)); (case hu => exact Try.underlying30); (case hd => rfl); (case hi => kernel_rfl)) | (apply yieldsIf_load_mid (by kernel_rfl) _ _ rfl _ _ rfl; (case hS => (intro W hC; exact hC.2)); (case hu => exact Try.underlying30); (case hd => rfl); (case hi => kernel_rfl)) | (apply yieldsIf_load_mid (by kernel_rfl) _ _ rfl _ _ rfl; (case hS => (intro W hC; exact hC)); (case hu => exact Try.underlying30); (case hd => rfl); (case hi => kernel_rfl))
      case hC => exact HC
      case ha => (simp only [Act.put, List.setIfInBounds_toArray, List.set_cons_zero, List.set_cons_succ]; rfl)
      apply WZ.take (i := 10) (some 115) rfl rfl (by kernel_rfl) (by kernel_rfl) (by kernel_rfl) (calm_panic _) (by kernel_rfl)
      case hy => (refine .inl ⟨by kernel_rfl, fun W hC => ?_⟩; (try dsimp only at hC); go_simp; rfl)
      case hC => exact HC
      case ha => (simp only [Act.put, List.setIfInBounds_toArray, List.set_cons_zero, List.set_cons_succ]; rfl)
      apply WZ.take (i := 11) (some 116) rfl rfl (by kernel_rfl) (by kernel_rfl) (by kernel_rfl) (calm_panic _) (by kernel_rfl)
      case hy => (refine .inl ⟨by kernel_rfl, fun W hC => ?_⟩; (try dsimp only at hC); go_simp; rfl)
      case hC => exact HC
      case ha => (simp only [Act.put, List.setIfInBounds_toArray, List.set_cons_zero, List.set_cons_succ]; rfl)
      apply WZ.take (i := 12) (some 117) rfl rfl (by kernel_rfl) (by kernel_rfl) (by kernel_rfl) (calm_panic _) (by kernel_rfl)
      case hy => (refine .inl ⟨by kernel_rfl, fun W hC => ?_⟩; (try dsimp only at hC); go_simp; rfl)
      case hC => exact HC
      case ha => (simp only [Act.put, List.setIfInBounds_toArray, List.set_cons_zero, List.set_cons_succ]; rfl)
      apply WZ.take (i := 15) (some 120) rfl rfl (by kernel_rfl) (by kernel_rfl) (by kernel_rfl) (calm_panic _) (by kernel_rfl)
      case hy => first | (apply yieldsIf_load_mid (by kernel_rfl) _ _ rfl _ _ rfl; (case hS => (intro W hC; exact hC.1)); (case hu => exact Try.underlying44); (case hd => rfl); (case hi => kernel_rfl)) | (apply yieldsIf_load_mid (by kernel_rfl) _ _ rfl _ _ rfl; (case hS => (intro W hC; exact hC.2.1)); (case hu => exact Try.underlying44); (case hd => rfl); (case hi => kernel_rfl)) | (apply yieldsIf_load_mid (by kernel_rfl) _ _ rfl _ _ rfl; (case hS => (intro W hC; exact hC.2.2.1)); (case hu => exact Try.underlying44); (case hd => rfl); (case hi => kernel_rfl)) | (apply yieldsIf_load_mid (by kernel_rfl) _ _ rfl _ _ rfl; (case hS => (intro W hC; exact hC.2.2.2.1)); (case hu => exact Try.underlying44); (case hd => rfl); (case hi => kernel_rfl)) | (apply yieldsIf_load_mid (by kernel_rfl) _ _ rfl _ _ rfl; (case hS => (intro W hC; exact hC.2.2.2)); (case hu => exact Try.underlying44); (case hd => rfl); (case hi => kernel_rfl)) | (apply yieldsIf_load_mid (by kernel_rfl) _ _ rfl _ _ rfl; (case hS => (intro W hC; exact hC.2.2)); (case hu => exact Try.underlying44); (case hd => rfl); (case hi => kernel_rfl)) | (apply yieldsIf_load_mid (by kernel_rfl) _ _ rfl _ _ rfl; (case hS => (intro W hC; exact hC.2)); (case hu => exact Try.underlying44); (case hd => rfl); (case hi => kernel_rfl)) | (apply yieldsIf_load_mid (by kernel_rfl) _ _ rfl _ _ rfl; (case hS => (intro W hC; exact hC)); (case hu => exact Try.underlying44); (case hd => rfl); (case hi => kernel_rfl))
      case hC => exact HC
      case ha => (simp only [Act.put, List.setIfInBounds_toArray, List.set_cons_zero, List.set_cons_succ]; rfl)
      apply WZ.take (i := 16) (some 121) rfl rfl (by kernel_rfl) (by kernel_rfl) (by kernel_rfl) (calm_panic _) (by kernel_rfl)
      case hy => (refine .inl ⟨by kernel_rfl, fun W hC => ?_⟩; (try dsimp only at hC); go_simp; rfl)
      case hC => exact HC
      case ha => (simp only [Act.put, List.setIfInBounds_toArray, List.set_cons_zero, List.set_cons_succ]; rfl)
      apply WZ.take (i := 17) (some 122) rfl rfl (by kernel_rfl) (by kernel_rfl) (by kernel_rfl) (calm_panic _) (by kernel_rfl)
      case hy => (refine .inl ⟨by kernel_rfl, fun W hC => ?_⟩; (try dsimp only at hC); go_simp; rfl)
      case hC => exact HC
      case ha => (simp only [Act.put, List.setIfInBounds_toArray, List.set_cons_zero, List.set_cons_succ]; rfl)
      apply WZ.take (i := 18) (some 123) rfl rfl (by kernel_rfl) (by kernel_rfl) (by kernel_rfl) (calm_panic _) (by kernel_rfl)
      case hy => (refine .inl ⟨by kernel_rfl, fun W hC => ?_⟩; (try dsimp only at hC); go_simp; rfl)
      case hC => exact HC
      case ha => (simp only [Act.put, List.setIfInBounds_toArray, List.set_cons_zero, List.set_cons_succ]; rfl)
      -- 13
      refine WZ.one (i := 13) rfl (by kernel_rfl) ?_
      conv => arg 4; arg 1; whnf
      go_wp2_with (go_at_call 20; refine (over_at2 A c NS S nx fl z low high _ ((HRS.out.below HB4.out).more HB4.out.size) HNS.out hn4).mono ?_; rintro e w31 ⟨A4, n4, c4, rfl, hn5, ho1, hb1⟩)
      have HO4 := Lib.hid ho1
      have HB5 := Lib.hid (HB4.out.trans (hb1.mono HB4.out.size))
      clear HC ho1 hb1 HB4
      have HC := hmk _ HB5.out
      refine ⟨HC, ?_⟩
      -- 14
      refine WZ.one (i := 14) rfl (by kernel_rfl) ?_
      conv => arg 4; arg 1; whnf
      go_wp2_with (go_at_call 14; refine (filesL_any A4 c4 n4 _ _ (Own.rd HO4.out (by omega)) (OwnF.len HO4.out) (by omega)).mono ?_; rintro e w32 ⟨A5, c5, rfl, ho2, hb2⟩)
      have HO5 := Lib.hid ho2
      have HB6 := Lib.hid (HB5.out.trans (hb2.mono HB5.out.size))
      clear HC ho2 hb2 HO4 HB5
      have HC := hmk _ HB6.out
      refine ⟨HC, ?_⟩
      -- 19
      refine WZ.one (i := 19) rfl (by kernel_rfl) ?_
      conv => arg 4; arg 1; whnf
      go_wp2_with (go_at_call 21; refine (refOver_any A' c' NS S nx fl z low high _ ((HRR.out.below HB6.out).more HB6.out.size) HNS.out hn4).mono ?_; rintro e w33 ⟨A6, n6, c6, rfl, hn6, ho3, hb3⟩)
      have HO6 := Lib.hid ho3
      have HO56 := Lib.hid (OwnR.below HO5.out hb3)
      have HB7 := Lib.hid (HB6.out.trans (hb3.mono HB6.out.size))
      clear HC ho3 hb3 HO5 HB6
      have HC := hmk _ HB7.out
      refine ⟨HC, ?_⟩
      -- 20
      refine WZ.one (i := 20) rfl (by kernel_rfl) ?_
      conv => arg 4; arg 1; whnf
      go_wp2_with (go_at_call 13; refine (sameFiles_any A5 A6 c5 c6 n4 n6 _ _ _ _ (OwnR.rd HO56.out) (OwnR.rd HO6.out) (OwnR.len HO56.out) (OwnR.len HO6.out) (by omega) (by omega)).mono ?_; rw [decide_eq_true rfl]; rintro e w34 ⟨rfl, hb4⟩)
      have HB8 := Lib.hid (HB7.out.trans (hb4.mono HB7.out.size))
      clear HC hb4 HO56 HO6 HB7
      have HC := hmk _ HB8.out
      refine ⟨HC, ?_⟩
      apply WZ.take (i := 21) (some 126) rfl rfl (by kernel_rfl) (by kernel_rfl) (by kernel_rfl) (calm_panic _) (by kernel_rfl)
      case hy => (refine .inl ⟨by kernel_rfl, fun W hC => ?_⟩; (try dsimp only at hC); go_simp; rfl)
      case hC => exact HC
      case ha => (simp only [Act.put, List.setIfInBounds_toArray, List.set_cons_zero, List.set_cons_succ]; rfl)
      apply WZ.take (i := 22) (some 10) rfl rfl (by kernel_rfl) (by kernel_rfl) (by kernel_rfl) (calm_panic _) (by kernel_rfl)
      case hy => (refine .inl ⟨by kernel_rfl, fun W hC => ?_⟩; (try dsimp only at hC); go_simp; rfl)
      case hC => exact HC
      case ha => (simp only [Act.put, List.setIfInBounds_toArray, List.set_cons_zero, List.set_cons_succ]; rfl)
      refine WZ.done (by kernel_rfl) ?_ _
      simp only [Calm, Exit.then]
      clear HC hmk hcb HB
      go_wp2
      go_ret
      exact ⟨rfl, HBW.out.trans (HB8.out.mono HBW.out.size)⟩
end Go.Proofs.Ytaeemeoffnhgfaa
