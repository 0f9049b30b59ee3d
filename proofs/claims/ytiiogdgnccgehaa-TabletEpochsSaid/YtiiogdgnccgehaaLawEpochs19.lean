/-
  The walk of the law TabletEpochs. No conditions.
-/
import Derived.Test.YtiiogdgnccgehaaEpochsPlain19
import Derived.Test.YtiiogdgnccgehaaJK
import Derived.Laws.BitsAllLaws
namespace Go.Proofs.Ytiiogdgnccgehaa
open Go.RowKit
attribute [local go_sem ↓] Go.wp_at_zero Go.wp_at_succ
theorem StV.put {W W' : World} {g : Nat} {s : Sta} {xs : SA} (hsi : StaIn W W.heap.size s xs) (hi : InW W xs) (hg : W.grownBy W' (some g)) (hn : NotAt xs g) (hq : Blk 47 W' g (s.vs xs)) : StV W' g s xs := ⟨hq, hsi.own hg hn, hi.mono hg.size⟩
theorem EfV.own {W W' : World} {B g : Nat} {x : Eff} {A : Option Addr} {k : Nat} {D : Option Addr} {m : Nat} (h : EfV W B g x A k D m) {q : Nat} (hg : W.grownBy W' (some q)) (hq : q ≠ g) (hqB : q < B) (hD : blk D ≠ some q) : EfV W' B g x A k D m :=
  ⟨h.bk.grown hg (fun e => hq (by injection e)), h.oc.grown hg (.inr (fun e => by have := (Own.lt h.oc _ e).1; omega)), h.rf.grownOff hg (.inr hD)⟩
set_option maxRecDepth 100000 in
set_option maxHeartbeats 8000000 in
theorem epochs_wide (A B : Option Addr) (c d N M job sum ep : Nat) (w : World) (h : 20 < N ∨ 100 < M) : Calls Try.prog 7 #[.slice A N c, .int .u64 job, .int .u32 sum, .int .u8 ep, .slice B M d] w fun e w' => e = .returned (.bool true) ∧ Below w.heap.size w w' := by
  by_cases h1 : 20 < N
  · have e1 : decide ((20 : Int) < (N : Int)) = true := decide_eq_true (by omega)
    go_enter Try.func7, Try.ntmps7
    go_wp2_with (go_at_call 11; refine (shown_any _).mono ?_; rintro e w2 ⟨rfl, hb2⟩)
    go_ret
    exact ⟨rfl, hb2⟩
  · have e1 : decide ((20 : Int) < (N : Int)) = false := decide_eq_false (by omega)
    have e2 : decide ((100 : Int) < (M : Int)) = true := decide_eq_true (by omega)
    go_enter Try.func7, Try.ntmps7
    go_wp2_with (go_at_call 11; refine (shown_any _).mono ?_; rintro e w2 ⟨rfl, hb2⟩)
    go_ret
    exact ⟨rfl, hb2⟩
set_option maxRecDepth 100000 in
set_option maxHeartbeats 8000000 in
theorem epochs_any (A B : Option Addr) (c d : Nat) (rows : List ByteArray) (job sum ep : Nat) (files : List Nat) (w : World) (hl : Rd w w.heap.size A (txs rows)) (hf : Rd w w.heap.size B (u32s files)) (hd : files.length ≤ d) (hdm : d ≤ maxLen) (hlen : rows.length ≤ 20) (hep : ep ≤ 255) (hok : OkE job sum (ep % 8) files) :
    Calls Try.prog 7 #[.slice A rows.length c, .int .u64 job, .int .u32 sum, .int .u8 ep, .slice B files.length d] w fun e w' => e = .returned (.bool true) ∧ Below w.heap.size w w' := by
  have hfl := hok.len
  have e1 : decide ((20 : Int) < (rows.length : Int)) = false := decide_eq_false (by omega)
  have e2 : decide ((100 : Int) < (files.length : Int)) = false := decide_eq_false (by omega)
  have HL := Lib.hid hl
  have HF := Lib.hid hf
  have HOK := Lib.hid hok
  have HD := Lib.hid (And.intro hd hdm)
  clear hl hf hd hdm hok
  obtain ⟨N, hN⟩ : ∃ N, rows.length = N := ⟨_, rfl⟩
  have HN := Lib.hid hN
  rw [hN] at hlen e1 ⊢
  obtain ⟨M, hM⟩ : ∃ M, files.length = M := ⟨_, rfl⟩
  have HM := Lib.hid hM
  rw [hM] at hfl e2 ⊢
  clear hN hM
  go_enter Try.func7, Try.ntmps7
  go_wp2_with (first
    | (go_at_call 11; refine (shown_any _).mono ?_; rintro e w2 ⟨rfl, hb2⟩; have HB2 := Lib.hid hb2; clear hb2)
    | ((with_reducible show wpList _ _ _ ({ dst := none, op := Op.store _ (Operand.tmp 11) _, type := _, pos := _, after := _, guard := _ } :: _) _ _); go_loud (refine wpList_store_mid rfl 47 (.tmp 11) (.tmp 42) rfl w2.heap.size 0 #[.int .u64 0, .int .u64 0, .slice none 0 0, .slice none 0 0, .slice none 0 0] rfl rfl (there_madeB 47 w2 staz 5 (Nat.le_refl _)) (by kernel_rfl) (by simp [Value.oneCell']) ?_); refine Blk.madeW 47 w2 staz (emptyS.vs nowhere) rfl ?_; intro w3 HT3 HL3))
  have HS3 := Lib.hid (StV.new w2 w3 HT3 HL3)
  have HB3 := Lib.hid (HB2.out.trans (HL3.out.mono HB2.out.size))
  have hg := HB2.out.size
  obtain ⟨g, hgg⟩ : ∃ g, w2.heap.size = g := ⟨_, rfl⟩
  rw [hgg] at HS3 hg ⊢
  clear HT3 HL3 HB2 hgg
  go_loopw [12] (fun iv wr => ∃ (k : Nat) (s : Sta) (xs : SA), iv = .int .i64 k ∧ k ≤ N ∧ Hid (EInv s k ∧ StV wr g s xs ∧ NotAt xs g ∧ Below w.heap.size w wr)) (fun iv _ => N - (intOf iv).toNat)
  case atStart => exact ⟨0, emptyS, nowhere, rfl, Nat.zero_le _, Lib.hid ⟨EInv.zero, HS3.out, NotAt.none g, HB3.out⟩⟩
  case round =>
    obtain ⟨k, s, xs, rfl, hk, HI⟩ := hrel
    rename World => wr
    by_cases hlt : k < N
    · have hkl : k < rows.length := by rw [HN.out]; exact hlt
      have d1 : decide ((k : Int) < (N : Int)) = true := decide_eq_true (by omega)
      have k1 : (0 : Int) ≤ (k : Int) := by omega
      have k2 : (k : Int) < (N : Int) := by omega
      obtain ⟨b, o, rfl, hb, l0⟩ := txs_at (HL.out.below HI.out.2.2.2) hkl
      obtain ⟨r, hr⟩ : ∃ r, rows[k] = r := ⟨_, rfl⟩
      rw [hr] at l0
      clear hr
      have m1 : (0 : Int) ≤ min (r.size : Int) 40 := by omega
      have m2 : min (r.size : Int) 40 ≤ (r.size : Int) := by omega
      have m3 : r.extract 0 (min (r.size : Int) 40).toNat = cutR r := by
        unfold cutR
        congr 1
        omega
      have HAP := Lib.hid (fun (W : World) (h1 : StaIn W W.heap.size s xs) (h2 : InW W xs) => apply_any W s xs h1 h2 k (by omega) HI.out.1.ok (tR (cutR r)) (tR_size (cutR_size r)))
      obtain ⟨q, hq⟩ : ∃ q, applyS s (tR (cutR r)) = q := ⟨_, rfl⟩
      have hnx := HI.out.1.next (cutR_size r)
      rw [hq] at hnx HAP
      obtain ⟨s', x'⟩ := q
      have HNX := Lib.hid hnx
      clear hq hnx
      go_wp2
      have HC : wr.drew.cell? ⟨b, o + k, none⟩ = some (.string r) := l0
      refine region_wz (fun W => W.cell? ⟨b, o + k, none⟩ = some (.string r)) none (by kernel_rfl) ?_
      apply WZ.take (i := 0) (some 50) rfl rfl (by kernel_rfl) (by kernel_rfl) (by kernel_rfl) (calm_panic _) (by kernel_rfl)
      case hy => (refine .inl ⟨by kernel_rfl, fun W hC => ?_⟩; (try dsimp only at hC); go_simp; (try simp only [m1,m2,m3,and_self,if_true]); rfl)
      case hC => exact HC
      case ha => (simp only [Act.put, List.setIfInBounds_toArray, List.set_cons_zero, List.set_cons_succ]; rfl)
      apply WZ.take (i := 1) (some 51) rfl rfl (by kernel_rfl) (by kernel_rfl) (by kernel_rfl) (calm_panic _) (by kernel_rfl)
      case hy => (refine .inl ⟨by kernel_rfl, fun W hC => ?_⟩; (try dsimp only at hC); go_simp; (try simp only [m1,m2,m3,and_self,if_true]); rfl)
      case hC => exact HC
      case ha => (simp only [Act.put, List.setIfInBounds_toArray, List.set_cons_zero, List.set_cons_succ]; rfl)
      apply WZ.take (i := 2) (some 52) rfl rfl (by kernel_rfl) (by kernel_rfl) (by kernel_rfl) (calm_panic _) (by kernel_rfl)
      case hy => (refine .inl ⟨by kernel_rfl, fun W hC => ?_⟩; (try dsimp only at hC); go_simp; (try simp only [m1,m2,m3,and_self,if_true]); rfl)
      case hC => exact HC
      case ha => (simp only [Act.put, List.setIfInBounds_toArray, List.set_cons_zero, List.set_cons_succ]; rfl)
      apply WZ.take (i := 3) (some 53) rfl rfl (by kernel_rfl) (by kernel_rfl) (by kernel_rfl) (calm_panic _) (by kernel_rfl)
      case hy => (refine .inl ⟨by kernel_rfl, fun W hC => ?_⟩; (try dsimp only at hC); go_simp; (try simp only [m1,m2,m3,and_self,if_true]); rfl)
      case hC => exact HC
      case ha => (simp only [Act.put, List.setIfInBounds_toArray, List.set_cons_zero, List.set_cons_succ]; rfl)
      apply WZ.take (i := 4) (some 54) rfl rfl (by kernel_rfl) (by kernel_rfl) (by kernel_rfl) (calm_panic _) (by kernel_rfl)
      case hy => (refine .inl ⟨by kernel_rfl, fun W hC => ?_⟩; (try dsimp only at hC); go_simp; (try simp only [m1,m2,m3,and_self,if_true]); rfl)
      case hC => exact HC
      case ha => (simp only [Act.put, List.setIfInBounds_toArray, List.set_cons_zero, List.set_cons_succ]; rfl)
      apply WZ.take (i := 5) (some 55) rfl rfl (by kernel_rfl) (by kernel_rfl) (by kernel_rfl) (calm_panic _) (by kernel_rfl)
      case hy => (refine .inl ⟨by kernel_rfl, fun W hC => ?_⟩; (try dsimp only at hC); go_simp; (try simp only [m1,m2,m3,and_self,if_true]); rfl)
      case hC => exact HC
      case ha => (simp only [Act.put, List.setIfInBounds_toArray, List.set_cons_zero, List.set_cons_succ]; rfl)
      apply WZ.take (i := 6) (some 56) rfl rfl (by kernel_rfl) (by kernel_rfl) (by kernel_rfl) (calm_panic _) (by kernel_rfl)
      case hy => (refine .inl ⟨by kernel_rfl, fun W hC => ?_⟩; (try dsimp only at hC); go_simp; (try simp only [m1,m2,m3,and_self,if_true]); rfl)
      case hC => exact HC
      case ha => (simp only [Act.put, List.setIfInBounds_toArray, List.set_cons_zero, List.set_cons_succ]; rfl)
      apply WZ.take (i := 7) (some 57) rfl rfl (by kernel_rfl) (by kernel_rfl) (by kernel_rfl) (calm_panic _) (by kernel_rfl)
      case hy => (refine .inl ⟨by kernel_rfl, fun W hC => ?_⟩; (try dsimp only at hC); go_simp; (try simp only [m1,m2,m3,and_self,if_true]); rfl)
      case hC => exact HC
      case ha => (simp only [Act.put, List.setIfInBounds_toArray, List.set_cons_zero, List.set_cons_succ]; rfl)
      apply WZ.take (i := 8) (some 58) rfl rfl (by kernel_rfl) (by kernel_rfl) (by kernel_rfl) (calm_panic _) (by kernel_rfl)
      case hy => (refine .inl ⟨by kernel_rfl, fun W hC => ?_⟩; (try dsimp only at hC); go_simp; (try simp only [m1,m2,m3,and_self,if_true]); rfl)
      case hC => exact HC
      case ha => (simp only [Act.put, List.setIfInBounds_toArray, List.set_cons_zero, List.set_cons_succ]; rfl)
      apply WZ.take (i := 9) (some 59) rfl rfl (by kernel_rfl) (by kernel_rfl) (by kernel_rfl) (calm_panic _) (by kernel_rfl)
      case hy => (refine .inl ⟨by kernel_rfl, fun W hC => ?_⟩; (try dsimp only at hC); go_simp; (try simp only [m1,m2,m3,and_self,if_true]); rfl)
      case hC => exact HC
      case ha => (simp only [Act.put, List.setIfInBounds_toArray, List.set_cons_zero, List.set_cons_succ]; rfl)
      apply WZ.take (i := 10) (some 60) rfl rfl (by kernel_rfl) (by kernel_rfl) (by kernel_rfl) (calm_panic _) (by kernel_rfl)
      case hy => (refine .inl ⟨by kernel_rfl, fun W hC => ?_⟩; (try dsimp only at hC); go_simp; (try simp only [m1,m2,m3,and_self,if_true]); rfl)
      case hC => exact HC
      case ha => (simp only [Act.put, List.setIfInBounds_toArray, List.set_cons_zero, List.set_cons_succ]; rfl)
      apply WZ.take (i := 11) (some 61) rfl rfl (by kernel_rfl) (by kernel_rfl) (by kernel_rfl) (calm_panic _) (by kernel_rfl)
      case hy => (refine .inl ⟨by kernel_rfl, fun W hC => ?_⟩; (try dsimp only at hC); go_simp; (try simp only [m1,m2,m3,and_self,if_true]); rfl)
      case hC => exact HC
      case ha => (simp only [Act.put, List.setIfInBounds_toArray, List.set_cons_zero, List.set_cons_succ]; rfl)
      -- 12
      refine WZ.one (i := 12) rfl (by kernel_rfl) ?_
      conv => arg 4; arg 1; whnf
      go_wp2_with (go_at_call 12; go_loud (refine (encode_row (cutR r) (cutR_size r) _).mono ?_); rintro e w4 ⟨rfl, hb4⟩; have HB4 := Lib.hid ((Below.refl _ wr).drew.trans hb4); clear hb4)
      have HC0 := HC
      clear HC
      have HC : w4.cell? ⟨b, o + k, none⟩ = some (.string r) := (HB4.out.cell (p := ⟨b, o + k, none⟩) (Nat.lt_of_lt_of_le hb HI.out.2.2.2.size)).trans l0
      clear HC0
      refine ⟨HC, ?_⟩
      apply WZ.take (i := 13) (some 49) rfl rfl (by kernel_rfl) (by kernel_rfl) (by kernel_rfl) (calm_panic _) (by kernel_rfl)
      case hy => (refine .inl ⟨by kernel_rfl, fun W hC => ?_⟩; (try dsimp only at hC); go_simp; (try simp only [m1,m2,m3,and_self,if_true]); rfl)
      case hC => exact HC
      case ha => (simp only [Act.put, List.setIfInBounds_toArray, List.set_cons_zero, List.set_cons_succ]; rfl)
      apply WZ.take (i := 14) (some 63) rfl rfl (by kernel_rfl) (by kernel_rfl) (by kernel_rfl) (calm_panic _) (by kernel_rfl)
      case hy => (refine .inl ⟨by kernel_rfl, fun W hC => ?_⟩; (try dsimp only at hC); go_simp; (try simp only [m1,m2,m3,and_self,if_true]); rfl)
      case hC => exact HC
      case ha => (simp only [Act.put, List.setIfInBounds_toArray, List.set_cons_zero, List.set_cons_succ]; rfl)
      apply WZ.take (i := 15) (some 64) rfl rfl (by kernel_rfl) (by kernel_rfl) (by kernel_rfl) (calm_panic _) (by kernel_rfl)
      case hy => (refine .inl ⟨by kernel_rfl, fun W hC => ?_⟩; (try dsimp only at hC); go_simp; (try simp only [m1,m2,m3,and_self,if_true]); rfl)
      case hC => exact HC
      case ha => (simp only [Act.put, List.setIfInBounds_toArray, List.set_cons_zero, List.set_cons_succ]; rfl)
      apply WZ.take (i := 16) (some 13) rfl rfl (by kernel_rfl) (by kernel_rfl) (by kernel_rfl) (calm_panic _) (by kernel_rfl)
      case hy => (refine .inl ⟨by kernel_rfl, fun W hC => ?_⟩; (try dsimp only at hC); go_simp; (try simp only [m1,m2,m3,and_self,if_true]); rfl)
      case hC => exact HC
      case ha => (simp only [Act.put, List.setIfInBounds_toArray, List.set_cons_zero, List.set_cons_succ]; rfl)
      apply WZ.take (i := 17) (some 14) rfl rfl (by kernel_rfl) (by kernel_rfl) (by kernel_rfl) (calm_panic _) (by kernel_rfl)
      case hy => (refine .inl ⟨by kernel_rfl, fun W hC => ?_⟩; (try dsimp only at hC); go_simp; (try simp only [m1,m2,m3,and_self,if_true]); rfl)
      case hC => exact HC
      case ha => (simp only [Act.put, List.setIfInBounds_toArray, List.set_cons_zero, List.set_cons_succ]; rfl)
      refine WZ.done (by kernel_rfl) ?_ _
      simp only [Calm, Exit.then]
      have HS4 := Lib.hid (HI.out.2.1.below HB4.out)
      clear HC
      go_wp2_with (first
        | ((with_reducible show wpList _ _ _ ({ dst := some 66, op := Op.load _ _, type := _, pos := _, after := _, guard := _ } :: _) _ _); go_loud (refine wpList_load_mid rfl 47 (.tmp 11) rfl g 0 rfl (s.vs xs) _ HS4.out.bk.range Try.underlying47 rfl (by kernel_rfl) ?_))
        | (go_at_call 18; go_loud (refine (HAP.out _ HS4.out.sin HS4.out.inw).mono ?_); rintro e w5 ⟨ys, A', k', D', m', rfl, hsi, hfr, hef, hb, hsep, hD⟩; have H5 := Lib.hid (And.intro hsi (And.intro hfr hb)); have HS5 := Lib.hid (HS4.out.below hb); clear hsi hfr hef hb hsep hD)
        | ((with_reducible show wpList _ _ _ ({ dst := none, op := Op.store _ (Operand.tmp 11) _, type := _, pos := _, after := _, guard := _ } :: _) _ _); go_loud (refine wpList_store_mid rfl 47 (.tmp 11) (.tmp 69) rfl g 0 (s'.vs ys).toArray rfl rfl (HS5.out.bk.there 5 (Nat.le_refl _)) (by kernel_rfl) (by simp [Value.oneCell', Sta.vs]) ?_); refine HS5.out.bk.setW (s'.vs ys) rfl ?_; intro w6 HT6 HG6))
      have hna := H5.out.2.1.notAt HI.out.2.2.1 HS4.out.bk.lt
      have hsz := Nat.le_trans HI.out.2.2.2.size HB4.out.size
      have hst := StV.put H5.out.1 (H5.out.2.1.inw HS4.out.inw H5.out.2.2.size) HG6.out hna HT6.out
      have hbl := below_grown ((HI.out.2.2.2.trans (HB4.out.mono HI.out.2.2.2.size)).trans (H5.out.2.2.mono hsz)) (Nat.le_trans hsz H5.out.2.2.size) HG6.out hg
      exact ⟨⟨k + 1, s', ys, by first | rfl | go_num, by omega, Lib.hid ⟨HNX.out, hst, hna, hbl⟩⟩, by simp [intOf]; omega⟩
    · have hkN : k = N := by omega
      subst hkN
      rename World => w9
      have d1 : decide ((k : Int) < (k : Int)) = false := decide_eq_false (by omega)
      have HE0 := Lib.hid HI.out.1
      have HSV := Lib.hid (And.intro HI.out.2.1 HI.out.2.2.2)
      have HQ0 := Lib.hid HI.out.2.2.1
      obtain ⟨ix, ep0, bs, js, cls⟩ := s
      have hjs : js = [] := HI.out.1.jobs
      have hix : ix = k := HI.out.1.ix
      subst hjs hix
      clear HI
      obtain ⟨E, hE⟩ : ∃ E, ep % 8 = E := ⟨_, rfl⟩
      rw [hE] at HOK
      have hE8 : E < 8 := HOK.out.ep
      have hwe : IntKind.u64.wrap (ep : Int) = (ep : Int) := wrap_nat ep (by omega)
      have hr1 : Int.tmod (ep : Int) 8 = (E : Int) := by rw [← hE]; exact (Int.ofNat_tmod _ _).symm
      have hr2 : (ep : Int) % 8 = (E : Int) := by omega
      have hwix : IntKind.u64.wrap ((ix : Int) + 1) = ((ix + 1 : Nat) : Int) := wrap_nat (ix + 1) (by omega)
      have HEN := Lib.hid (fun (W : World) (hr : Rd W W.heap.size B (u32s files)) => by have := HOK.out.call hr HD.out.1 HD.out.2; rw [HM.out] at this; exact this)
      have HAP0 := Lib.hid (fun (W : World) (h1 : StaIn W W.heap.size ⟨ix, ep0, bs, [], cls⟩ xs) (h2 : InW W xs) => apply_any W _ xs h1 h2 ix (by omega) HE0.out.ok (tE job sum E files) HOK.out.size)
      have HFIN := Lib.hid (fun (q : List Nat) => trivial)
      clear hE
      by_cases hnil : files = []
      · have HAP := Lib.hid (fun W h1 h2 => by have := HAP0.out W h1 h2; rw [end_none HE0.out HOK.out hnil] at this; exact this)
        have HFD := Lib.hid (findS_nil job)
        have hM0 : ((M : Int) == 0) = true := by rw [← HM.out, hnil]; rfl
        clear hnil HAP0
        go_wp2_with (first
          | ((with_reducible show wpList _ _ _ ({ dst := none, op := Op.store _ (Operand.tmp 15) _, type := _, pos := _, after := _, guard := _ } :: _) _ _); go_loud (refine wpList_store_mid rfl 27 (.tmp 15) (.tmp 77) rfl w9.heap.size 0 #[.int .i64 3, .int .u64 0, .int .u64 0, .slice none 0 0, .string ⟨#[]⟩, .int .u64 job, .int .u32 sum, .int .u64 E, .slice B M d] rfl rfl (there_madeB 27 w9 zcv 9 (Nat.le_refl _)) (by kernel_rfl) (by simp [Value.oneCell']) ?_); refine Blk.madeW 27 w9 zcv [.int .i64 3, .int .u64 0, .int .u64 0, .slice none 0 0, .string ⟨#[]⟩, .int .u64 job, .int .u32 sum, .int .u64 E, .slice B M d] rfl ?_; intro wa HCa HLa; have HSa := Lib.hid (HSV.out.1.below HLa.out); have HBa := Lib.hid (HSV.out.2.trans (HLa.out.mono HSV.out.2.size)); have HZa := Lib.hid HCa.out.lt)
          | ((with_reducible show wpList _ _ _ ({ dst := some 79, op := Op.load _ _, type := _, pos := _, after := _, guard := _ } :: _) _ _); go_loud (refine wpList_load_mid rfl 27 (.tmp 15) rfl w9.heap.size 0 rfl [.int .i64 3, .int .u64 0, .int .u64 0, .slice none 0 0, .string ⟨#[]⟩, .int .u64 job, .int .u32 sum, .int .u64 E, .slice B M d] _ HCa.out.range Try.underlying27 rfl (by kernel_rfl) ?_))
          | (go_at_call 12; have M1 := HBa; go_loud (refine (HEN.out _ ((HF.out.below HBa.out).more HBa.out.size)).mono ?_); rintro e wb ⟨rfl, hb⟩; have HSb := Lib.hid (HSa.out.below hb); have HCb := Lib.hid (HCa.out.below hb HCa.out.lt); have HBb := Lib.hid (HBa.out.trans (hb.mono HBa.out.size)); clear hb HBa HSa HCa M1)
          | ((with_reducible show wpList _ _ _ ({ dst := some 84, op := Op.load _ _, type := _, pos := _, after := _, guard := _ } :: _) _ _); go_loud (refine wpList_load_mid rfl 47 (.tmp 11) rfl g 0 rfl ((Sta.mk ix ep0 bs [] cls).vs xs) _ HSb.out.bk.range Try.underlying47 rfl (by kernel_rfl) ?_))
          | (go_at_call 18; have M1 := HBb; go_loud (refine (HAP.out _ HSb.out.sin HSb.out.inw).mono ?_); rintro e wc ⟨ys, A', k', D', m', rfl, hsi, hfr, hef, hb, hsep, hD⟩; have HPc := Lib.hid (And.intro hsi (And.intro hfr (And.intro hef hb))); have HDc := Lib.hid hD; have HWb := HSb; have HZb := Lib.hid HCb.out.lt; have HZc := Lib.hid hb.size; clear hsi hfr hef hb hsep hD M1)
          | ((with_reducible show wpList _ _ _ ({ dst := none, op := Op.store _ (Operand.tmp 18) _, type := _, pos := _, after := _, guard := _ } :: _) _ _); go_loud (refine wpList_store_mid rfl 47 (.tmp 18) (.tmp 87) rfl wc.heap.size 0 ((Sta.mk (ix + 1) ep0 bs [] cls).vs ys).toArray rfl rfl ((two_blocks wc 47 53 staz effz).1.there 5 (Nat.le_refl _)) (by kernel_rfl) (by simp [Value.oneCell', Sta.vs]) ?_); refine (two_blocks wc 47 53 staz effz).1.setW ((Sta.mk (ix + 1) ep0 bs [] cls).vs ys) rfl ?_; intro wd HT3 HG3; have HE3 := Lib.hid ((two_blocks wc 47 53 staz effz).2.1.grown HG3.out (fun e => by injection e; omega)); have HL3 := Lib.hid (below_grown (two_blocks wc 47 53 staz effz).2.2 (by rw [World.size_alloc, World.size_alloc]; omega) HG3.out (Nat.le_refl _)); clear HG3)
          | ((with_reducible show wpList _ _ _ ({ dst := none, op := Op.store _ (Operand.tmp 19) _, type := _, pos := _, after := _, guard := _ } :: _) _ _); go_loud (refine wpList_store_mid rfl 53 (.tmp 19) (.tmp 88) rfl (wc.heap.size + 1) 0 ((Eff.mk 1 false [] []).vs A' k' D' m').toArray rfl rfl (HE3.out.there 4 (Nat.le_refl _)) (by kernel_rfl) (by simp [Value.oneCell', Eff.vs]) ?_); refine HE3.out.setW ((Eff.mk 1 false [] []).vs A' k' D' m') rfl ?_; intro we HE4 HG4; have HT4 := Lib.hid (HT3.out.grown HG4.out (fun e => by injection e; omega)); have HL4 := Lib.hid (below_grown HL3.out HL3.out.size HG4.out (by omega)); go_loud (have HVe := Lib.hid (apply_boxes HWb.out.inw HPc.out.1 HPc.out.2.1 HPc.out.2.2.1 HPc.out.2.2.2 HT4.out HE4.out HL4.out)); have HFe := Lib.hid HPc.out.2.1; clear HT3 HE3 HL3 HG4 HT4 HE4 HL4 HPc ; have HSe := Lib.hid (HSb.out.below HVe.out.2.2); have HCe := Lib.hid (HCb.out.below HVe.out.2.2 HCb.out.lt); have HBe := Lib.hid (HBb.out.trans (HVe.out.2.2.mono HBb.out.size)); clear HSb HCb HBb)
          | ((with_reducible show wpList _ _ _ ({ dst := some 90, op := Op.load _ _, type := _, pos := _, after := _, guard := _ } :: _) _ _); go_loud (refine wpList_load_mid rfl 47 (.tmp 18) rfl wc.heap.size 0 rfl ((Sta.mk (ix + 1) ep0 bs [] cls).vs ys) _ HVe.out.1.bk.range Try.underlying47 rfl (by kernel_rfl) ?_))
          | (go_at_call 24; go_loud (refine (find_any _ ys job _ HVe.out.1.sin (by simp)).mono ?_); rw [HFD.out]; rintro e wf ⟨rfl, hb⟩; have HVf := Lib.hid (And.intro (HVe.out.1.below hb) (HVe.out.2.1.below hb)); have HSf := Lib.hid (HSe.out.below hb); have HCf := Lib.hid (HCe.out.below hb HCe.out.lt); have HZf := Lib.hid HCf.out.lt; have HBf := Lib.hid (HBe.out.trans (hb.mono HBe.out.size)); clear hb HVe HSe HCe HBe)
          | ((with_reducible show wpList _ _ _ ({ dst := none, op := Op.store _ (Operand.tmp 20) _, type := _, pos := _, after := _, guard := _ } :: _) _ _); go_loud (refine wpList_store_mid rfl 64 (.tmp 20) (.tmp 93) rfl wf.heap.size 0 (Jb.mk 0 0 0).vs.toArray rfl rfl (there_madeB 64 wf [.int .u64 0, .int .u32 0, .int .u64 0] 3 (Nat.le_refl _)) (by kernel_rfl) (by simp [Value.oneCell', Jb.vs]) ?_); refine Blk.madeW 64 wf [.int .u64 0, .int .u32 0, .int .u64 0] (Jb.mk 0 0 0).vs rfl ?_; intro wg HJg HLg; have HVg := Lib.hid (And.intro (HVf.out.1.below HLg.out) (HVf.out.2.below HLg.out)); have HSg := Lib.hid (HSf.out.below HLg.out); have HCg := Lib.hid (HCf.out.below HLg.out HCf.out.lt); have HBg := Lib.hid (HBf.out.trans (HLg.out.mono HBf.out.size));
             have p0 := HSg.out.bk.cell (j := 0) rfl; have p1 := HSg.out.bk.cell (j := 1) rfl; have a0 := HVg.out.1.bk.cell (j := 0) rfl; have a1 := HVg.out.1.bk.cell (j := 1) rfl; have a3 := HVg.out.1.bk.cell (j := 3) rfl; have x0 := HVg.out.2.bk.cell (j := 0) rfl; have x3 := HVg.out.2.bk.cell (j := 3) rfl; have c6 := HCg.out.cell (j := 6) rfl; have f6 := HCg.out.free 6; clear HVf HSf HCf HBf HLg)
          )
        go_ret
        exact ⟨rfl, HBg.out⟩
      · have hM0 : ((M : Int) == 0) = false := by
          rw [beq_eq_false_iff_ne]
          intro h
          exact hnil (List.length_eq_zero_iff.1 (by have := HM.out; omega))
        have hM1 : (M == 0) = false := by
          rw [beq_eq_false_iff_ne]
          intro h
          exact hnil (List.length_eq_zero_iff.1 (by have := HM.out; omega))
        have hM2 : ¬ M = 0 := by simpa using hM1
        by_cases hepq : E = ep0
        · subst hepq
          have HAP := Lib.hid (fun W h1 h2 => by have := HAP0.out W h1 h2; rw [end_good HE0.out HOK.out hnil rfl] at this; exact this)
          have HFD := Lib.hid (find_this (job := job) (sum := sum) (ix + 1))
          have hz := xor_one sum HOK.out.sum
          have hx : bits .xor .u32 (sum : Int) 1 = ((sum ^^^ 1 : Nat) : Int) := u32_xor_nat sum 1 (by have := HOK.out.sum; omega) (by omega)
          obtain ⟨sm, hsm⟩ : ∃ z, sum ^^^ 1 = z := ⟨_, rfl⟩
          rw [hsm] at hz hx
          have HOK2 := Lib.hid (show OkE job sm E files from ⟨HOK.out.job, hz.1, HOK.out.ep, HOK.out.len, HOK.out.fl⟩)
          have HEN2 := Lib.hid (fun (W : World) (hr : Rd W W.heap.size B (u32s files)) => by have := HOK2.out.call hr HD.out.1 HD.out.2; rw [HM.out] at this; exact this)
          have HOA := Lib.hid (by have := sok_next HE0.out.ok (tE job sum E files); rw [end_good HE0.out HOK.out hnil rfl] at this; exact this)
          have HAP2 := Lib.hid (fun (W : World) (ys : SA) (h1 : StaIn W W.heap.size ⟨ix + 1, E, bs, [⟨job, sum, ix + 1⟩], cls⟩ ys) (h2 : InW W ys) => by have := apply_any W _ ys h1 h2 (ix + 1) (by omega) HOA.out (tE job sm E files) HOK2.out.size; rw [end_other rfl HOK2.out hz.2] at this; exact this)
          have HAP3 := Lib.hid (fun (W : World) (ys : SA) (h1 : StaIn W W.heap.size ⟨ix + 1, E, bs, [⟨job, sum, ix + 1⟩], cls⟩ ys) (h2 : InW W ys) => by have := apply_any W _ ys h1 h2 (ix + 1) (by omega) HOA.out (tE job sum E files) HOK.out.size; rw [end_again rfl HOK.out] at this; exact this)
          have HSS := Lib.hid (fun (W : World) (A1 : Option Addr) (a1 : Nat) (h1 : Rd W W.heap.size A1 (u32s files)) (h2 : Rd W W.heap.size B (u32s files)) => by have := sameSums_any A1 B a1 d files files W h1 h2 (by have := HM.out; unfold maxLen; omega) (by have := HM.out; unfold maxLen; omega); rw [decide_eq_true rfl, HM.out] at this; exact this)
          clear hnil HAP0 hz hsm
          go_wp2_with (first
            | ((with_reducible show wpList _ _ _ ({ dst := none, op := Op.store _ (Operand.tmp 15) _, type := _, pos := _, after := _, guard := _ } :: _) _ _); go_loud (refine wpList_store_mid rfl 27 (.tmp 15) (.tmp 77) rfl w9.heap.size 0 #[.int .i64 3, .int .u64 0, .int .u64 0, .slice none 0 0, .string ⟨#[]⟩, .int .u64 job, .int .u32 sum, .int .u64 E, .slice B M d] rfl rfl (there_madeB 27 w9 zcv 9 (Nat.le_refl _)) (by kernel_rfl) (by simp [Value.oneCell']) ?_); refine Blk.madeW 27 w9 zcv [.int .i64 3, .int .u64 0, .int .u64 0, .slice none 0 0, .string ⟨#[]⟩, .int .u64 job, .int .u32 sum, .int .u64 E, .slice B M d] rfl ?_; intro wa HCa HLa; have HSa := Lib.hid (HSV.out.1.below HLa.out); have HBa := Lib.hid (HSV.out.2.trans (HLa.out.mono HSV.out.2.size)); have HZa := Lib.hid HCa.out.lt)
            | ((with_reducible show wpList _ _ _ ({ dst := some 79, op := Op.load _ _, type := _, pos := _, after := _, guard := _ } :: _) _ _); go_loud (refine wpList_load_mid rfl 27 (.tmp 15) rfl w9.heap.size 0 rfl [.int .i64 3, .int .u64 0, .int .u64 0, .slice none 0 0, .string ⟨#[]⟩, .int .u64 job, .int .u32 sum, .int .u64 E, .slice B M d] _ HCa.out.range Try.underlying27 rfl (by kernel_rfl) ?_))
            | (go_at_call 12; have M1 := HBa; go_loud (refine (HEN.out _ ((HF.out.below HBa.out).more HBa.out.size)).mono ?_); rintro e wb ⟨rfl, hb⟩; have HSb := Lib.hid (HSa.out.below hb); have HCb := Lib.hid (HCa.out.below hb HCa.out.lt); have HBb := Lib.hid (HBa.out.trans (hb.mono HBa.out.size)); clear hb HBa HSa HCa M1)
            | ((with_reducible show wpList _ _ _ ({ dst := some 84, op := Op.load _ _, type := _, pos := _, after := _, guard := _ } :: _) _ _); go_loud (refine wpList_load_mid rfl 47 (.tmp 11) rfl g 0 rfl ((Sta.mk ix E bs [] cls).vs xs) _ HSb.out.bk.range Try.underlying47 rfl (by kernel_rfl) ?_))
            | (go_at_call 18; have M1 := HBb; go_loud (refine (HAP.out _ HSb.out.sin HSb.out.inw).mono ?_); rintro e wc ⟨ys, A', k', D', m', rfl, hsi, hfr, hef, hb, hsep, hD⟩; have HPc := Lib.hid (And.intro hsi (And.intro hfr (And.intro hef hb))); have HDc := Lib.hid hD; have HWb := HSb; have HZb := Lib.hid HCb.out.lt; have HZc := Lib.hid hb.size; clear hsi hfr hef hb hsep hD M1)
            | ((with_reducible show wpList _ _ _ ({ dst := none, op := Op.store _ (Operand.tmp 18) _, type := _, pos := _, after := _, guard := _ } :: _) _ _); go_loud (refine wpList_store_mid rfl 47 (.tmp 18) (.tmp 87) rfl wc.heap.size 0 ((Sta.mk (ix + 1) E bs [⟨job, sum, ix + 1⟩] cls).vs ys).toArray rfl rfl ((two_blocks wc 47 53 staz effz).1.there 5 (Nat.le_refl _)) (by kernel_rfl) (by simp [Value.oneCell', Sta.vs]) ?_); refine (two_blocks wc 47 53 staz effz).1.setW ((Sta.mk (ix + 1) E bs [⟨job, sum, ix + 1⟩] cls).vs ys) rfl ?_; intro wd HT3 HG3; have HE3 := Lib.hid ((two_blocks wc 47 53 staz effz).2.1.grown HG3.out (fun e => by injection e; omega)); have HL3 := Lib.hid (below_grown (two_blocks wc 47 53 staz effz).2.2 (by rw [World.size_alloc, World.size_alloc]; omega) HG3.out (Nat.le_refl _)); clear HG3)
            | ((with_reducible show wpList _ _ _ ({ dst := none, op := Op.store _ (Operand.tmp 19) _, type := _, pos := _, after := _, guard := _ } :: _) _ _); go_loud (refine wpList_store_mid rfl 53 (.tmp 19) (.tmp 88) rfl (wc.heap.size + 1) 0 ((Eff.mk 0 false [] files).vs A' k' D' m').toArray rfl rfl (HE3.out.there 4 (Nat.le_refl _)) (by kernel_rfl) (by simp [Value.oneCell', Eff.vs]) ?_); refine HE3.out.setW ((Eff.mk 0 false [] files).vs A' k' D' m') rfl ?_; intro we HE4 HG4; have HT4 := Lib.hid (HT3.out.grown HG4.out (fun e => by injection e; omega)); have HL4 := Lib.hid (below_grown HL3.out HL3.out.size HG4.out (by omega)); go_loud (have HVe := Lib.hid (apply_boxes HWb.out.inw HPc.out.1 HPc.out.2.1 HPc.out.2.2.1 HPc.out.2.2.2 HT4.out HE4.out HL4.out)); have HFe := Lib.hid HPc.out.2.1; clear HT3 HE3 HL3 HG4 HT4 HE4 HL4 HPc ; have HSe := Lib.hid (HSb.out.below HVe.out.2.2); have HCe := Lib.hid (HCb.out.below HVe.out.2.2 HCb.out.lt); have HBe := Lib.hid (HBb.out.trans (HVe.out.2.2.mono HBb.out.size)); clear HSb HCb HBb)
            | ((with_reducible show wpList _ _ _ ({ dst := some 90, op := Op.load _ _, type := _, pos := _, after := _, guard := _ } :: _) _ _); go_loud (refine wpList_load_mid rfl 47 (.tmp 18) rfl wc.heap.size 0 rfl ((Sta.mk (ix + 1) E bs [⟨job, sum, ix + 1⟩] cls).vs ys) _ HVe.out.1.bk.range Try.underlying47 rfl (by kernel_rfl) ?_))
            | (go_at_call 24; go_loud (refine (find_any _ ys job _ HVe.out.1.sin (by simp)).mono ?_); rw [HFD.out]; rintro e wf ⟨rfl, hb⟩; have HVf := Lib.hid (And.intro (HVe.out.1.below hb) (HVe.out.2.1.below hb)); have HSf := Lib.hid (HSe.out.below hb); have HCf := Lib.hid (HCe.out.below hb HCe.out.lt); have HZf := Lib.hid HCf.out.lt; have HBf := Lib.hid (HBe.out.trans (hb.mono HBe.out.size)); clear hb HVe HSe HCe HBe)
            | ((with_reducible show wpList _ _ _ ({ dst := none, op := Op.store _ (Operand.tmp 20) _, type := _, pos := _, after := _, guard := _ } :: _) _ _); go_loud (refine wpList_store_mid rfl 64 (.tmp 20) (.tmp 93) rfl wf.heap.size 0 (Jb.mk job sum (ix + 1)).vs.toArray rfl rfl (there_madeB 64 wf [.int .u64 0, .int .u32 0, .int .u64 0] 3 (Nat.le_refl _)) (by kernel_rfl) (by simp [Value.oneCell', Jb.vs]) ?_); refine Blk.madeW 64 wf [.int .u64 0, .int .u32 0, .int .u64 0] (Jb.mk job sum (ix + 1)).vs rfl ?_; intro wg HJg HLg; have HVg := Lib.hid (And.intro (HVf.out.1.below HLg.out) (HVf.out.2.below HLg.out)); have HSg := Lib.hid (HSf.out.below HLg.out); have HCg := Lib.hid (HCf.out.below HLg.out HCf.out.lt); have HBg := Lib.hid (HBf.out.trans (HLg.out.mono HBf.out.size));
               have p0 := HSg.out.bk.cell (j := 0) rfl; have p1 := HSg.out.bk.cell (j := 1) rfl; have a0 := HVg.out.1.bk.cell (j := 0) rfl; have a1 := HVg.out.1.bk.cell (j := 1) rfl; have a3 := HVg.out.1.bk.cell (j := 3) rfl; have x0 := HVg.out.2.bk.cell (j := 0) rfl; have x3 := HVg.out.2.bk.cell (j := 3) rfl; have c6 := HCg.out.cell (j := 6) rfl; have f6 := HCg.out.free 6; clear HVf HSf HCf HBf HLg)
            | ((with_reducible show wpList _ _ _ ({ dst := some 150, op := Op.load _ _, type := _, pos := _, after := _, guard := _ } :: _) _ _); obtain ⟨wh, hwh⟩ : ∃ wh, wg.setCell ⟨w9.heap.size, 6, none⟩ (.int .u32 (sm : Int)) = wh := ⟨_, rfl⟩; have hgr := grown_set wg w9.heap.size 6 (.int .u32 (sm : Int)); have hch := HCg.out.set 6 (.int .u32 (sm : Int)); rw [hwh] at hgr hch ⊢; have HCh := Lib.hid hch;
               have hz1 := HZb.out; have hz2 := HZc.out; have hz3 := HZf.out; have HNA := Lib.hid (HFe.out.notAt (HSV.out.1.inw.notAt (Nat.le_refl _)) HZb.out); go_loud (have HVh := Lib.hid (And.intro (HVg.out.1.own hgr (by omega) HNA.out) (HVg.out.2.own hgr (by omega) hz1 (fun e => by have := HDc.out _ e; omega)))); have HJh := Lib.hid (HJg.out.grown hgr (fun e => by injection e; omega)); have HBh := Lib.hid (below_grown HBg.out HBg.out.size hgr HSV.out.2.size);
               clear hgr hch hwh hz1 hz2 hz3 p0 p1 a0 a1 a3 x0 x3 c6 f6 HVg HSg HCg HBg HJg; go_loud (refine wpList_load_mid rfl 27 (.tmp 15) rfl w9.heap.size 0 rfl [.int .i64 3, .int .u64 0, .int .u64 0, .slice none 0 0, .string ⟨#[]⟩, .int .u64 job, .int .u32 sm, .int .u64 E, .slice B M d] _ HCh.out.range Try.underlying27 rfl (by kernel_rfl) ?_))
            | (go_at_call 12; have M1 := HBh; go_loud (refine (HEN2.out _ ((HF.out.below HBh.out).more HBh.out.size)).mono ?_); rintro e wi ⟨rfl, hb⟩; have HVi := Lib.hid (And.intro (HVh.out.1.below hb) (HVh.out.2.below hb)); have HJi := Lib.hid (HJh.out.below hb HJh.out.lt); have HBi := Lib.hid (HBh.out.trans (hb.mono HBh.out.size)); clear hb HBh HVh HJh HCh M1)
            | ((with_reducible show wpList _ _ _ ({ dst := some 155, op := Op.load _ _, type := _, pos := _, after := _, guard := _ } :: _) _ _); go_loud (refine wpList_load_mid rfl 47 (.tmp 18) rfl wc.heap.size 0 rfl ((Sta.mk (ix + 1) E bs [⟨job, sum, ix + 1⟩] cls).vs ys) _ HVi.out.1.bk.range Try.underlying47 rfl (by kernel_rfl) ?_))
            | (go_at_call 18; have M1 := HBi; go_loud (refine (HAP2.out _ ys HVi.out.1.sin HVi.out.1.inw).mono ?_); rintro e wj ⟨zs, A2, k2, D2, m2, rfl, hsi, hfr, hef, hb, hsep, hD⟩; have HPj := Lib.hid (And.intro hsi (And.intro hfr (And.intro hef hb))); have HIi := Lib.hid HVi.out.1.inw; clear hsi hfr hef hb hsep hD M1)
            | ((with_reducible show wpList _ _ _ ({ dst := none, op := Op.store _ (Operand.tmp 25) _, type := _, pos := _, after := _, guard := _ } :: _) _ _); go_loud (refine wpList_store_mid rfl 47 (.tmp 25) (.tmp 158) rfl wj.heap.size 0 ((Sta.mk (ix + 1 + 1) E bs [⟨job, sum, ix + 1⟩] cls).vs zs).toArray rfl rfl ((two_blocks wj 47 53 staz effz).1.there 5 (Nat.le_refl _)) (by kernel_rfl) (by simp [Value.oneCell', Sta.vs]) ?_); refine (two_blocks wj 47 53 staz effz).1.setW ((Sta.mk (ix + 1 + 1) E bs [⟨job, sum, ix + 1⟩] cls).vs zs) rfl ?_; intro wk HT5 HG5; have HE5 := Lib.hid ((two_blocks wj 47 53 staz effz).2.1.grown HG5.out (fun e => by injection e; omega)); have HL5 := Lib.hid (below_grown (two_blocks wj 47 53 staz effz).2.2 (by rw [World.size_alloc, World.size_alloc]; omega) HG5.out (Nat.le_refl _)); clear HG5)
            | ((with_reducible show wpList _ _ _ ({ dst := none, op := Op.store _ (Operand.tmp 26) _, type := _, pos := _, after := _, guard := _ } :: _) _ _); go_loud (refine wpList_store_mid rfl 53 (.tmp 26) (.tmp 159) rfl (wj.heap.size + 1) 0 ((Eff.mk 191 true [] []).vs A2 k2 D2 m2).toArray rfl rfl (HE5.out.there 4 (Nat.le_refl _)) (by kernel_rfl) (by simp [Value.oneCell', Eff.vs]) ?_); refine HE5.out.setW ((Eff.mk 191 true [] []).vs A2 k2 D2 m2) rfl ?_; intro wl HE6 HG6; have HT6 := Lib.hid (HT5.out.grown HG6.out (fun e => by injection e; omega)); have HL6 := Lib.hid (below_grown HL5.out HL5.out.size HG6.out (by omega)); go_loud (have HVl := Lib.hid (apply_boxes HIi.out HPj.out.1 HPj.out.2.1 HPj.out.2.2.1 HPj.out.2.2.2 HT6.out HE6.out HL6.out)); have HFl := Lib.hid HPj.out.2.1; clear HT5 HE5 HL5 HG6 HT6 HE6 HL6 HPj ; have HAl := Lib.hid (And.intro (HVi.out.1.below HVl.out.2.2) (HVi.out.2.below HVl.out.2.2)); have HJl := Lib.hid (HJi.out.below HVl.out.2.2 HJi.out.lt); have HBl := Lib.hid (HBi.out.trans (HVl.out.2.2.mono HBi.out.size)); clear HVi HJi HBi HIi)
            | ((with_reducible show wpList _ _ _ ({ dst := some 161, op := Op.load _ _, type := _, pos := _, after := _, guard := _ } :: _) _ _); go_loud (refine wpList_load_mid rfl 47 (.tmp 18) rfl wc.heap.size 0 rfl ((Sta.mk (ix + 1) E bs [⟨job, sum, ix + 1⟩] cls).vs ys) _ HAl.out.1.bk.range Try.underlying47 rfl (by kernel_rfl) ?_))
            | (go_at_call 18; have M1 := HBl; go_loud (refine (HAP3.out _ ys HAl.out.1.sin HAl.out.1.inw).mono ?_); rintro e wm ⟨qs, A3, k3, D3, m3, rfl, hsi, hfr, hef, hb, hsep, hD⟩; have HPm := Lib.hid (And.intro hsi (And.intro hfr (And.intro hef hb))); have HIl := Lib.hid HAl.out.1.inw; clear hsi hfr hef hb hsep hD M1)
            | ((with_reducible show wpList _ _ _ ({ dst := none, op := Op.store _ (Operand.tmp 27) _, type := _, pos := _, after := _, guard := _ } :: _) _ _); go_loud (refine wpList_store_mid rfl 47 (.tmp 27) (.tmp 164) rfl wm.heap.size 0 ((Sta.mk (ix + 1 + 1) E bs [⟨job, sum, ix + 1⟩] cls).vs qs).toArray rfl rfl ((two_blocks wm 47 53 staz effz).1.there 5 (Nat.le_refl _)) (by kernel_rfl) (by simp [Value.oneCell', Sta.vs]) ?_); refine (two_blocks wm 47 53 staz effz).1.setW ((Sta.mk (ix + 1 + 1) E bs [⟨job, sum, ix + 1⟩] cls).vs qs) rfl ?_; intro wn HT7 HG7; have HE7 := Lib.hid ((two_blocks wm 47 53 staz effz).2.1.grown HG7.out (fun e => by injection e; omega)); have HL7 := Lib.hid (below_grown (two_blocks wm 47 53 staz effz).2.2 (by rw [World.size_alloc, World.size_alloc]; omega) HG7.out (Nat.le_refl _)); clear HG7)
            | ((with_reducible show wpList _ _ _ ({ dst := none, op := Op.store _ (Operand.tmp 28) _, type := _, pos := _, after := _, guard := _ } :: _) _ _); go_loud (refine wpList_store_mid rfl 53 (.tmp 28) (.tmp 165) rfl (wm.heap.size + 1) 0 ((Eff.mk 0 true [] []).vs A3 k3 D3 m3).toArray rfl rfl (HE7.out.there 4 (Nat.le_refl _)) (by kernel_rfl) (by simp [Value.oneCell', Eff.vs]) ?_); refine HE7.out.setW ((Eff.mk 0 true [] []).vs A3 k3 D3 m3) rfl ?_; intro wo HE8 HG8; have HT8 := Lib.hid (HT7.out.grown HG8.out (fun e => by injection e; omega)); have HL8 := Lib.hid (below_grown HL7.out HL7.out.size HG8.out (by omega)); go_loud (have HVo := Lib.hid (apply_boxes HIl.out HPm.out.1 HPm.out.2.1 HPm.out.2.2.1 HPm.out.2.2.2 HT8.out HE8.out HL8.out)); have HFo := Lib.hid HPm.out.2.1; clear HT7 HE7 HL7 HG8 HT8 HE8 HL8 HPm ; have HAo := Lib.hid (And.intro (HAl.out.1.below HVo.out.2.2) (HAl.out.2.below HVo.out.2.2)); have HYo := Lib.hid (HVl.out.2.1.below HVo.out.2.2); have HJo := Lib.hid (HJl.out.below HVo.out.2.2 HJl.out.lt); have HBo := Lib.hid (HBl.out.trans (HVo.out.2.2.mono HBl.out.size)); clear HAl HJl HBl HIl; have b0 := HAo.out.1.bk.cell (j := 0) rfl; have b3 := (HAo.out.2.bk.cell (j := 3) rfl).trans (congrArg (fun (n : Nat) => some (Value.slice D' n m')) HM.out); have y0 := HYo.out.bk.cell (j := 0) rfl; have y1 := HYo.out.bk.cell (j := 1) rfl; have z0 := HVo.out.2.1.bk.cell (j := 0) rfl; have z1 := HVo.out.2.1.bk.cell (j := 1) rfl; have z3 := HVo.out.2.1.bk.cell (j := 3) rfl)
            | ((with_reducible show wpList _ _ _ ({ dst := some 166, op := Op.load _ _, type := _, pos := _, after := _, guard := _ } :: _) _ _); go_loud (refine wpList_load_mid rfl 64 (.tmp 20) rfl wf.heap.size 0 rfl [.int .u64 job, .int .u32 sum, .int .u64 ((ix + 1 : Nat) : Int)] _ HJo.out.range Try.underlying64 rfl (by kernel_rfl) ?_))
            | (go_at_call 26; go_loud (refine (HSS.out _ D' m' HAo.out.2.rf ((HF.out.below HBo.out).more HBo.out.size)).mono ?_); rintro e wp ⟨rfl, hb⟩; have HBp := Lib.hid (HBo.out.trans (hb.mono HBo.out.size)); have y0 := (HYo.out.below hb).bk.cell (j := 0) rfl; have y1 := (HYo.out.below hb).bk.cell (j := 1) rfl; have z0 := (HVo.out.2.1.below hb).bk.cell (j := 0) rfl; have z1 := (HVo.out.2.1.below hb).bk.cell (j := 1) rfl; have z3 := (HVo.out.2.1.below hb).bk.cell (j := 3) rfl; clear hb)
            )
          go_ret
          exact ⟨rfl, HBp.out⟩
        · have HAP := Lib.hid (fun W h1 h2 => by have := HAP0.out W h1 h2; rw [end_epoch HE0.out HOK.out hnil hepq] at this; exact this)
          have HFD := Lib.hid (findS_nil job)
          have hb1 : ((ep0 : Int) != (E : Int)) = true := by rw [bne_iff_ne]; omega
          have hb2 : ((ep0 : Int) == (E : Int)) = false := by rw [beq_eq_false_iff_ne]; omega
          have hb3 : (ep0 == E) = false := by rw [beq_eq_false_iff_ne]; omega
          clear hnil HAP0 hepq
          go_wp2_with (first
            | ((with_reducible show wpList _ _ _ ({ dst := none, op := Op.store _ (Operand.tmp 15) _, type := _, pos := _, after := _, guard := _ } :: _) _ _); go_loud (refine wpList_store_mid rfl 27 (.tmp 15) (.tmp 77) rfl w9.heap.size 0 #[.int .i64 3, .int .u64 0, .int .u64 0, .slice none 0 0, .string ⟨#[]⟩, .int .u64 job, .int .u32 sum, .int .u64 E, .slice B M d] rfl rfl (there_madeB 27 w9 zcv 9 (Nat.le_refl _)) (by kernel_rfl) (by simp [Value.oneCell']) ?_); refine Blk.madeW 27 w9 zcv [.int .i64 3, .int .u64 0, .int .u64 0, .slice none 0 0, .string ⟨#[]⟩, .int .u64 job, .int .u32 sum, .int .u64 E, .slice B M d] rfl ?_; intro wa HCa HLa; have HSa := Lib.hid (HSV.out.1.below HLa.out); have HBa := Lib.hid (HSV.out.2.trans (HLa.out.mono HSV.out.2.size)); have HZa := Lib.hid HCa.out.lt)
            | ((with_reducible show wpList _ _ _ ({ dst := some 79, op := Op.load _ _, type := _, pos := _, after := _, guard := _ } :: _) _ _); go_loud (refine wpList_load_mid rfl 27 (.tmp 15) rfl w9.heap.size 0 rfl [.int .i64 3, .int .u64 0, .int .u64 0, .slice none 0 0, .string ⟨#[]⟩, .int .u64 job, .int .u32 sum, .int .u64 E, .slice B M d] _ HCa.out.range Try.underlying27 rfl (by kernel_rfl) ?_))
            | (go_at_call 12; have M1 := HBa; go_loud (refine (HEN.out _ ((HF.out.below HBa.out).more HBa.out.size)).mono ?_); rintro e wb ⟨rfl, hb⟩; have HSb := Lib.hid (HSa.out.below hb); have HCb := Lib.hid (HCa.out.below hb HCa.out.lt); have HBb := Lib.hid (HBa.out.trans (hb.mono HBa.out.size)); clear hb HBa HSa HCa M1)
            | ((with_reducible show wpList _ _ _ ({ dst := some 84, op := Op.load _ _, type := _, pos := _, after := _, guard := _ } :: _) _ _); go_loud (refine wpList_load_mid rfl 47 (.tmp 11) rfl g 0 rfl ((Sta.mk ix ep0 bs [] cls).vs xs) _ HSb.out.bk.range Try.underlying47 rfl (by kernel_rfl) ?_))
            | (go_at_call 18; have M1 := HBb; go_loud (refine (HAP.out _ HSb.out.sin HSb.out.inw).mono ?_); rintro e wc ⟨ys, A', k', D', m', rfl, hsi, hfr, hef, hb, hsep, hD⟩; have HPc := Lib.hid (And.intro hsi (And.intro hfr (And.intro hef hb))); have HDc := Lib.hid hD; have HWb := HSb; have HZb := Lib.hid HCb.out.lt; have HZc := Lib.hid hb.size; clear hsi hfr hef hb hsep hD M1)
            | ((with_reducible show wpList _ _ _ ({ dst := none, op := Op.store _ (Operand.tmp 18) _, type := _, pos := _, after := _, guard := _ } :: _) _ _); go_loud (refine wpList_store_mid rfl 47 (.tmp 18) (.tmp 87) rfl wc.heap.size 0 ((Sta.mk (ix + 1) ep0 bs [] cls).vs ys).toArray rfl rfl ((two_blocks wc 47 53 staz effz).1.there 5 (Nat.le_refl _)) (by kernel_rfl) (by simp [Value.oneCell', Sta.vs]) ?_); refine (two_blocks wc 47 53 staz effz).1.setW ((Sta.mk (ix + 1) ep0 bs [] cls).vs ys) rfl ?_; intro wd HT3 HG3; have HE3 := Lib.hid ((two_blocks wc 47 53 staz effz).2.1.grown HG3.out (fun e => by injection e; omega)); have HL3 := Lib.hid (below_grown (two_blocks wc 47 53 staz effz).2.2 (by rw [World.size_alloc, World.size_alloc]; omega) HG3.out (Nat.le_refl _)); clear HG3)
            | ((with_reducible show wpList _ _ _ ({ dst := none, op := Op.store _ (Operand.tmp 19) _, type := _, pos := _, after := _, guard := _ } :: _) _ _); go_loud (refine wpList_store_mid rfl 53 (.tmp 19) (.tmp 88) rfl (wc.heap.size + 1) 0 ((Eff.mk 190 false [] []).vs A' k' D' m').toArray rfl rfl (HE3.out.there 4 (Nat.le_refl _)) (by kernel_rfl) (by simp [Value.oneCell', Eff.vs]) ?_); refine HE3.out.setW ((Eff.mk 190 false [] []).vs A' k' D' m') rfl ?_; intro we HE4 HG4; have HT4 := Lib.hid (HT3.out.grown HG4.out (fun e => by injection e; omega)); have HL4 := Lib.hid (below_grown HL3.out HL3.out.size HG4.out (by omega)); go_loud (have HVe := Lib.hid (apply_boxes HWb.out.inw HPc.out.1 HPc.out.2.1 HPc.out.2.2.1 HPc.out.2.2.2 HT4.out HE4.out HL4.out)); have HFe := Lib.hid HPc.out.2.1; clear HT3 HE3 HL3 HG4 HT4 HE4 HL4 HPc ; have HSe := Lib.hid (HSb.out.below HVe.out.2.2); have HCe := Lib.hid (HCb.out.below HVe.out.2.2 HCb.out.lt); have HBe := Lib.hid (HBb.out.trans (HVe.out.2.2.mono HBb.out.size)); clear HSb HCb HBb)
            | ((with_reducible show wpList _ _ _ ({ dst := some 90, op := Op.load _ _, type := _, pos := _, after := _, guard := _ } :: _) _ _); go_loud (refine wpList_load_mid rfl 47 (.tmp 18) rfl wc.heap.size 0 rfl ((Sta.mk (ix + 1) ep0 bs [] cls).vs ys) _ HVe.out.1.bk.range Try.underlying47 rfl (by kernel_rfl) ?_))
            | (go_at_call 24; go_loud (refine (find_any _ ys job _ HVe.out.1.sin (by simp)).mono ?_); rw [HFD.out]; rintro e wf ⟨rfl, hb⟩; have HVf := Lib.hid (And.intro (HVe.out.1.below hb) (HVe.out.2.1.below hb)); have HSf := Lib.hid (HSe.out.below hb); have HCf := Lib.hid (HCe.out.below hb HCe.out.lt); have HZf := Lib.hid HCf.out.lt; have HBf := Lib.hid (HBe.out.trans (hb.mono HBe.out.size)); clear hb HVe HSe HCe HBe)
            | ((with_reducible show wpList _ _ _ ({ dst := none, op := Op.store _ (Operand.tmp 20) _, type := _, pos := _, after := _, guard := _ } :: _) _ _); go_loud (refine wpList_store_mid rfl 64 (.tmp 20) (.tmp 93) rfl wf.heap.size 0 (Jb.mk 0 0 0).vs.toArray rfl rfl (there_madeB 64 wf [.int .u64 0, .int .u32 0, .int .u64 0] 3 (Nat.le_refl _)) (by kernel_rfl) (by simp [Value.oneCell', Jb.vs]) ?_); refine Blk.madeW 64 wf [.int .u64 0, .int .u32 0, .int .u64 0] (Jb.mk 0 0 0).vs rfl ?_; intro wg HJg HLg; have HVg := Lib.hid (And.intro (HVf.out.1.below HLg.out) (HVf.out.2.below HLg.out)); have HSg := Lib.hid (HSf.out.below HLg.out); have HCg := Lib.hid (HCf.out.below HLg.out HCf.out.lt); have HBg := Lib.hid (HBf.out.trans (HLg.out.mono HBf.out.size));
               have p0 := HSg.out.bk.cell (j := 0) rfl; have p1 := HSg.out.bk.cell (j := 1) rfl; have a0 := HVg.out.1.bk.cell (j := 0) rfl; have a1 := HVg.out.1.bk.cell (j := 1) rfl; have a3 := HVg.out.1.bk.cell (j := 3) rfl; have x0 := HVg.out.2.bk.cell (j := 0) rfl; have x3 := HVg.out.2.bk.cell (j := 3) rfl; have c6 := HCg.out.cell (j := 6) rfl; have f6 := HCg.out.free 6; clear HVf HSf HCf HBf HLg)
            )
          go_ret
          exact ⟨rfl, HBg.out⟩
end Go.Proofs.Ytiiogdgnccgehaa
