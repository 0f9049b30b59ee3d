/-
  The walk of the document's own All.
-/
import Derived.Test.YteacjikkojglmaaRefRoll
import Derived.Test.YteacjikkojglmaaRefSplit
namespace Go.Proofs.Yteacjikkojglmaa
open Go.RowKit Go.Shelf
attribute [local go_sem ↓] Go.wp_at_zero Go.wp_at_succ

theorem refPieceInfo : (Try.prog.info? 44).map (fun i => (i.zero, i.size, i.bytes)) = some (some (.agg #[.int .i64 0, .slice none 0 0]), 2, 32) := by kernel_rfl
theorem Own.new0' {w : World} {base : Nat} (hb : base ≤ w.heap.size) (e size : Nat) : Own (w.alloc (.cells #[] e)) base e size (some ⟨w.heap.size, 0, none⟩) 0 0 [] := (Own.new0 w e size).lower hb
set_option maxHeartbeats 1000000 in
theorem refAll_bad (A S : Option Addr) (c d : Nat) (l : List Cl) (ss : List ByteArray) (most : Int) (w : World) (hl : Rd w w.heap.size A (vals l)) (hs : Rd w w.heap.size S (strs ss)) (hlen : l.length ≤ 1000) (hlen' : ss.length ≤ 1000) (hb : borders ss = false) :
    Calls Try.prog 21 #[.slice A l.length c, .slice S ss.length d, .int .i64 most] w fun e w' => e = .returned (.tuple #[.slice none 0 0, .int .i64 1]) ∧ Below w.heap.size w w' := by
  go_enter Try.func21, Try.ntmps21
  go_wp2_with (go_at_call 12; refine (refSplit_bad A S c d l ss _ hs hlen' hb).mono ?_; rintro e w' ⟨rfl, hb1⟩)
  go_ret2
  exact ⟨rfl, hb1⟩
set_option maxHeartbeats 1000000 in
theorem refAll_low (A S : Option Addr) (c d : Nat) (l : List Cl) (ss : List ByteArray) (most : Int) (w : World) (hl : Rd w w.heap.size A (vals l)) (hs : Rd w w.heap.size S (strs ss)) (hlen : l.length ≤ 1000) (hlen' : ss.length ≤ 1000) (hb : borders ss = true) (hr : rising l = false) :
    Calls Try.prog 21 #[.slice A l.length c, .slice S ss.length d, .int .i64 most] w fun e w' => e = .returned (.tuple #[.slice none 0 0, .int .i64 40]) ∧ Below w.heap.size w w' := by
  go_enter Try.func21, Try.ntmps21
  go_wp2_with (go_at_call 12; refine (refSplit_low A S c d l ss _ hl hs hlen hlen' hb hr).mono ?_; rintro e w' ⟨rfl, hb1⟩)
  go_ret2
  exact ⟨rfl, hb1⟩

set_option maxHeartbeats 1000000 in
theorem refAll_most (A S : Option Addr) (c d : Nat) (l : List Cl) (ss : List ByteArray) (most : Int) (w : World) (hl : Rd w w.heap.size A (vals l)) (hs : Rd w w.heap.size S (strs ss)) (hlen : l.length ≤ 1000) (hlen' : ss.length ≤ 1000) (hcap : l.length ≤ c) (hb : borders ss = true) (hr : rising l = true) (hm : most < 1) :
    Calls Try.prog 21 #[.slice A l.length c, .slice S ss.length d, .int .i64 most] w fun e w' => e = .returned (.tuple #[.slice none 0 0, .int .i64 1]) ∧ Below w.heap.size w w' := by
  go_enter Try.func21, Try.ntmps21
  go_wp2_with (go_at_call 12; refine (refSplit_ok A S c d l ss _ hl hs hlen hlen' hb hr).mono ?_; rintro e w1 ⟨A1, n1, c1, vs, rfl, ho1, hl1, hb1⟩)
  have hn1 : vs.length = n1 := ho1.vals_len
  have hn2 : vs.length = ss.length + 1 := by rw [hl1.1, splitAt_length]
  have hn3 : 0 < n1 := by omega
  have h0v : 0 < vs.length := by omega
  have h0p : 0 < (splitAt l ss).length := by rw [splitAt_length]; omega
  have hmem := splitAt_mem ss l hr (splitAt l ss)[0] (List.getElem_mem h0p)
  obtain ⟨A2, c2, hv, ho2⟩ := hl1.2 0 h0v h0p
  obtain ⟨g, rfl, hg1, hg2, hrow⟩ := ho1.at_ hn3
  have hc0 := (hrow 0 h0v).1
  rw [hv] at hc0
  obtain ⟨q, hq⟩ : ∃ q, (splitAt l ss)[0] = q := ⟨_, rfl⟩
  rw [hq] at hc0 ho2 hmem
  have hrd2 := Own.rd ho2 (by decide)
  obtain ⟨hq1, hq2⟩ := hmem
  clear hl hs hl1 ho1 ho2 hv hrow hr hb hq h0p
  go_loopw [11] (fun i wr => i = .int .i64 0 ∧ wr = w1.alloc (.cells #[] 44)) (fun _ _ => 0)
  case atStart => exact ⟨rfl, rfl⟩
  case round =>
    obtain ⟨rfl, rfl⟩ := hrel
    go_wp2_with (go_at_call 19; refine (refRoll_bad A2 c2 q most _ hm).mono ?_; rintro e w2 ⟨rfl, rfl⟩)
    go_ret2
    exact ⟨rfl, hb1.alloc hb1.size _⟩

set_option maxHeartbeats 4000000 in
theorem refAll_ok (A S : Option Addr) (c d : Nat) (l : List Cl) (ss : List ByteArray) (most : Nat) (w : World) (hl : Rd w w.heap.size A (vals l)) (hs : Rd w w.heap.size S (strs ss)) (hlen : l.length ≤ 1000) (hlen' : ss.length ≤ 1000) (hcap : l.length ≤ c) (hb : borders ss = true) (hr : rising l = true) (hm : 1 ≤ most) (hm2 : most ≤ 9223372036854775807) :
    Calls Try.prog 21 #[.slice A l.length c, .slice S ss.length d, .int .i64 most] w fun e w' => ∃ (A' : Option Addr) (n' c' : Nat) (us : List Value), e = .returned (.tuple #[.slice A' n' c', .int .i64 0]) ∧
      PcSt w' w.heap.size 44 A' n' c' (pieces most (splitAt l ss) (ss.length + 1)) us ∧ Below w.heap.size w w' := by
  obtain ⟨i0, hi0, hz0, hz1, hz2⟩ := info_parts refPieceInfo
  obtain ⟨ps, hps⟩ : ∃ ps, splitAt l ss = ps := ⟨_, rfl⟩
  rw [hps]
  have HPS := Lib.hid hps
  clear hps
  go_enter Try.func21, Try.ntmps21
  go_wp2_with (go_at_call 12; refine (refSplit_ok A S c d l ss _ hl hs hlen hlen' hb hr).mono ?_; rintro e w1 ⟨A1, n1, c1, vs, rfl, ho1, hl1, hb1⟩)
  have hmem := splitAt_mem ss l hr
  rw [HPS.out] at hmem hl1
  have hn1 : vs.length = n1 := ho1.vals_len
  have hn2 : n1 = ss.length + 1 := by rw [← hn1, hl1.1, ← HPS.out, splitAt_length]
  have HM := Lib.hid hmem
  have HN1 := Lib.hid hn1
  have HN2 := Lib.hid hn2
  have HPL := Lib.hid hl1.1
  have hnb : n1 ≤ 1001 := by omega
  have HI0 := Lib.hid (show AllInv w 44 ps most A1 n1 c1 vs 0 (some ⟨w1.heap.size, 0, none⟩) 0 0 [] (w1.alloc (.cells #[] 44)) from ⟨⟨Own.new0' hb1.size _ _, Lists.nil, rfl⟩, Own.alloc ho1 _, hl1.keep fun A c p h => Own.alloc h _, hb1.alloc hb1.size _⟩)
  have HPcs := Lib.hid (pieces_length most ps 1000 (fun p hp => Nat.le_trans (hmem p hp).2 hlen))
  clear hl hs ho1 hl1 hn1 hn2 hmem hr hb hb1
  go_loopw [10, 11] (fun out i wr => ∃ (k : Nat) (Ao : Option Addr) (no co : Nat) (us : List Value), k ≤ n1 ∧ i = .int .i64 k ∧ out = .slice Ao no co ∧ Hid (AllInv w 44 ps most A1 n1 c1 vs k Ao no co us wr)) (fun _ i _ => n1 - (intOf i).toNat)
  case atStart => exact ⟨0, _, 0, 0, [], Nat.zero_le _, rfl, rfl, HI0⟩
  case round =>
    obtain ⟨k, Ao, no, co, us, hk, rfl, rfl, HI⟩ := hrel
    by_cases hlt : k < n1
    · have hkv : k < vs.length := by rw [HN1.out]; exact hlt
      have hkp : k < ps.length := by rw [← HPL.out]; exact hkv
      obtain ⟨A2, c2, hv, ho2⟩ := HI.out.2.2.1.2 k hkv hkp
      obtain ⟨g, rfl, hg1, hg2, hrow⟩ := HI.out.2.1.at_ (by omega)
      have hck := (hrow k hkv).1
      rw [hv] at hck
      obtain ⟨q, hq⟩ : ∃ q, ps[k] = q := ⟨_, rfl⟩
      rw [hq] at hck ho2
      have HQ := Lib.hid hq
      obtain ⟨hq1, hq2⟩ := HM.out q (by rw [← hq]; exact List.getElem_mem hkp)
      have hrd2 := Own.rd ho2 (by decide)
      have hcap2 := Own.cap ho2
      have i1 : (0 : Int) ≤ (k : Int) := by omega
      have i2 : (k : Int) < (n1 : Int) := by omega
      clear hv ho2 hrow hq
      go_wp2_with (go_at_call 19; refine (refRoll_ok A2 c2 q most _ hrd2 (by omega) hcap2 hm hm2 hq1).mono ?_; rintro e w2 ⟨Ar, nr, cr, rs, rfl, hor, hlr, hb2⟩)
      have hnr : rs.length = nr := hor.vals_len
      have hnr2 : nr = (roll q most).length := by rw [← hnr, hlr.1]
      have hnr3 : nr ≤ 1000 := by have := roll_length q most; omega
      have HNR := Lib.hid hnr
      have HNR2 := Lib.hid hnr2
      have HI2 := Lib.hid (HI.out.start hor hlr hb2)
      obtain ⟨R, hR⟩ : ∃ R, roll q most = R := ⟨_, rfl⟩
      rw [hR] at HI2 HNR2
      have HR := Lib.hid hR
      have hno : no ≤ k * 1000 := by rw [← HI.out.1.2.2]; exact HPcs.out k
      have hno2 : no ≤ 1001000 := by omega
      clear hor hlr hb2 hnr hnr2 hR hrd2 hq1
      go_loopw [10, 14] (fun out i wr => ∃ (j : Nat) (Ao : Option Addr) (co : Nat) (us : List Value), j ≤ nr ∧ i = .int .i64 j ∧ out = .slice Ao (no + j) co ∧ Hid (AllInv2 w 44 ps most (some ⟨g, 0, none⟩) n1 c1 vs k Ar nr cr rs R j Ao (no + j) co us wr)) (fun _ i _ => nr - (intOf i).toNat)
      case atStart => exact ⟨0, Ao, co, us, Nat.zero_le _, rfl, rfl, HI2⟩
      case round =>
        obtain ⟨j, Ap, cp, us, hj, rfl, rfl, HJ⟩ := hrel
        by_cases hjlt : j < nr
        · have hjv : j < rs.length := by rw [HNR.out]; exact hjlt
          have hjp : j < R.length := by rw [← HNR2.out]; exact hjlt
          obtain ⟨A3, c3, hv3, ho3⟩ := HJ.out.2.2.2.2.1.2 j hjv hjp
          obtain ⟨g2, rfl, _, _, hrow⟩ := HJ.out.2.2.2.1.at_ (by omega)
          have hcj := (hrow j hjv).1
          rw [hv3] at hcj
          obtain ⟨m, hmm⟩ : ∃ m, R[j].length = m := ⟨_, rfl⟩
          rw [hmm] at hcj
          have HMM := Lib.hid hmm
          have HO3 := Lib.hid ho3
          have j1 : (0 : Int) ≤ (j : Int) := by omega
          have j2 : (j : Int) < (nr : Int) := by omega
          have hzz := HJ.out.2.2.2.2.2.size
          clear hv3 ho3 hrow hmm
          go_wp2_with (at_builtin; go_loud (refine wpList_app _ rfl _ _ _ rfl w.heap.size 44 i0 _ 2 32 Try.underlying39 hi0 hz0 hz1 hz2 rfl (by decide) Ap (no + j) cp _ rfl (Own.alloc HJ.out.1.1 _) _ _ 1 1 [.int .i64 k, .slice A3 m c3] rfl (Rd.new2 _ _ _ _) rfl (by simp [Value.oneCell']) (by unfold maxLen; omega) (by omega) (by rw [World.size_alloc]; omega) ?_); intro A4 c4 w4 ho4 hg4 hat4)
          have HF := Lib.hid (HJ.out.snoc (by decide) (by decide) hjp rfl HMM.out HO3.out ho4 hg4)
          clear ho4 hg4 hat4
          exact ⟨⟨j + 1, A4, c4, _, by omega, by go_num, rfl, HF⟩, by simp [intOf]; omega⟩
        · have HF := Lib.hid (HJ.out.done (by rw [← HNR2.out]; omega) hkp (by rw [← HR.out, ← HQ.out]))
          go_wp2
          exact ⟨⟨k + 1, Ap, no + j, cp, us, by omega, by go_num, rfl, HF⟩, by simp [intOf]; omega⟩
    · have hk' : ss.length + 1 = k := by rw [← HN2.out]; omega
      have HK := Lib.hid hk'
      clear hk'
      go_wp2
      go_ret2
      refine ⟨Ao, no, co, us, rfl, ?_, HI.out.2.2.2⟩
      rw [HK.out]
      exact HI.out.1
end Go.Proofs.Yteacjikkojglmaa
