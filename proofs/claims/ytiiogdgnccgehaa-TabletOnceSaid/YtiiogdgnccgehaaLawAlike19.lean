/-
  The walk of the law TabletAlike. No conditions.
-/
import Derived.Test.YtiiogdgnccgehaaAlikeKit19
import Derived.Test.YtiiogdgnccgehaaRowKit19
import Derived.Test.YtiiogdgnccgehaaJK
namespace Go.Proofs.Ytiiogdgnccgehaa
open Go.RowKit
attribute [local go_sem ↓] Go.wp_at_zero Go.wp_at_succ
theorem ca_at {w : World} {B : Nat} {A : Option Addr} {l : List CA} (h : Rd w B A (cas l)) {k : Nat} (hk : k < l.length) : ∃ b o, A = some ⟨b, o, none⟩ ∧ b < B ∧ w.rangeAt b (o + k * 9) l[k].vs := by
  have hne : cas l ≠ [] := fun e => by
    have := encs_length CA.vs_len l
    unfold cas at e
    rw [e] at this
    simp at this
    omega
  obtain ⟨b, o, e, hb, hc⟩ := h.at_ hne
  exact ⟨b, o, e, hb, Rd.enc_range CA.vs_len hc k hk⟩
theorem size_setCells (g : Nat) : ∀ (vs : List Value) (o : Nat) (w : World), (w.setCells g o vs).heap.size = w.heap.size
  | [], o, w => rfl
  | v :: vs, o, w => by
    show ((w.setCell ⟨g, o, none⟩ v).setCells g (o + 1) vs).heap.size = _
    rw [size_setCells g vs]
    simp [World.setCell]
theorem Blk.madeZ (T : TypeId) (w : World) (zs vs : List Value) (hl : vs.length = zs.length) {M : World → Prop} (hM : ∀ w', Hid (Blk T w' w.heap.size vs) → Hid (Below w.heap.size w w') → Hid (w'.heap.size = w.heap.size + 1) → M w') : M ((w.alloc (.cells zs.toArray T)).setCells w.heap.size 0 vs) := by
  have hs : ((w.alloc (.cells zs.toArray T)).setCells w.heap.size 0 vs).heap.size = w.heap.size + 1 := by rw [size_setCells, World.size_alloc]
  obtain ⟨W, hW⟩ : ∃ W, (w.alloc (.cells zs.toArray T)).setCells w.heap.size 0 vs = W := ⟨_, rfl⟩
  have hk : Blk T W w.heap.size vs ∧ Below w.heap.size w W := by
    rw [← hW]
    refine Blk.setW (M := fun W => Blk T W w.heap.size vs ∧ Below w.heap.size w W) (Blk.new T w zs) vs hl ?_
    intro w' h1 h2
    exact ⟨h1.out, below_grown (below_al w _) (by rw [World.size_alloc]; omega) h2.out (Nat.le_refl _)⟩
  rw [hW] at hs ⊢
  exact hM W (Lib.hid hk.1) (Lib.hid hk.2) (Lib.hid hs)
theorem ca_in {w W : World} {x : CA} (h : x.ok w) (hb : Below w.heap.size w W) : CmdIn W W.heap.size x.c x.A x.k x.D x.m :=
  ⟨(h.1.rc.below hb).more hb.size, (h.1.rf.below hb).more hb.size, h.1.lc, h.1.lf, h.1.lk, h.1.lm⟩
set_option maxRecDepth 100000 in
set_option maxHeartbeats 8000000 in
theorem alike_wide (A : Option Addr) (c N z : Nat) (w : World) (h : 20 < N) : Calls Try.prog 8 #[.slice A N c, .int .u8 z] w fun e w' => e = .returned (.bool true) ∧ Below w.heap.size w w' := by
  have e1 : decide ((20 : Int) < (N : Int)) = true := decide_eq_true (by omega)
  go_enter Try.func8, Try.ntmps8
  go_wp2_with (go_at_call 11; refine (shown_any _).mono ?_; rintro e w2 ⟨rfl, hb2⟩)
  go_ret
  exact ⟨rfl, hb2⟩
theorem slice_eq {A B : Option Addr} {n m c : Nat} (h1 : A = B) (h2 : n = m) : some (Value.slice A n c) = some (Value.slice B m c) := by rw [h1, h2]
set_option maxRecDepth 100000 in
set_option maxHeartbeats 8000000 in
theorem alike_any (A : Option Addr) (c : Nat) (l : List CA) (z : Nat) (w : World) (hl : Rd w w.heap.size A (cas l)) (hok : ∀ x ∈ l, x.ok w) (hlen : l.length ≤ 20) (hz : z ≤ 255) : Calls Try.prog 8 #[.slice A l.length c, .int .u8 z] w fun e w' => e = .returned (.bool true) ∧ Below w.heap.size w w' := by
  have e1 : decide ((20 : Int) < (l.length : Int)) = false := decide_eq_false (by omega)
  have HL := Lib.hid hl
  have HOK := Lib.hid hok
  clear hl hok
  obtain ⟨N, hN⟩ : ∃ N, l.length = N := ⟨_, rfl⟩
  have HN := Lib.hid hN
  rw [hN] at hlen e1 ⊢
  clear hN
  go_enter Try.func8, Try.ntmps8
  go_wp2_with (first
    | (go_at_call 11; refine (shown_any _).mono ?_; rintro e w2 ⟨rfl, hb2⟩; have HB2 := Lib.hid hb2; clear hb2)
    | ((with_reducible show wpList _ _ _ ({ dst := none, op := Op.store _ (Operand.tmp 5) _, type := _, pos := _, after := _, guard := _ } :: _) _ _); go_loud (refine wpList_store_mid rfl 47 (.tmp 5) (.tmp 23) rfl w2.heap.size 0 #[.int .u64 0, .int .u64 0, .slice none 0 0, .slice none 0 0, .slice none 0 0] rfl rfl (there_madeB 47 w2 staz 5 (Nat.le_refl _)) (by kernel_rfl) (by simp [Value.oneCell']) ?_); refine Blk.madeZ 47 w2 staz (emptyS.vs nowhere) rfl ?_; intro w3 HT3 HL3 HZ3)
    | ((with_reducible show wpList _ _ _ ({ dst := none, op := Op.store _ (Operand.tmp 6) _, type := _, pos := _, after := _, guard := _ } :: _) _ _); go_loud (refine wpList_store_mid rfl 47 (.tmp 6) (.tmp 24) rfl w3.heap.size 0 #[.int .u64 0, .int .u64 0, .slice none 0 0, .slice none 0 0, .slice none 0 0] rfl rfl (there_madeB 47 w3 staz 5 (Nat.le_refl _)) (by kernel_rfl) (by simp [Value.oneCell']) ?_); refine Blk.madeW 47 w3 staz (emptyS.vs nowhere) rfl ?_; intro w4 HT4 HL4))
  have HS4 := Lib.hid (AL.start HB2.out HT3.out HL3.out HZ3.out HT4.out HL4.out).toR
  obtain ⟨g, hgg⟩ : ∃ g, w2.heap.size = g := ⟨_, rfl⟩
  have hz3 := HZ3.out
  rw [hgg] at HS4 hz3 ⊢
  rw [hz3]
  clear HT3 HL3 HZ3 HT4 HL4 HB2 hgg hz3
  go_loopw [7] (fun iv wr => ∃ (k : Nat) (s r : Sta) (xs ys : SA), iv = .int .i64 k ∧ k ≤ N ∧ Hid (AR w wr g s r xs ys k (3 * k))) (fun iv _ => N - (intOf iv).toNat)
  case atStart => exact ⟨0, emptyS, emptyS, nowhere, nowhere, rfl, Nat.zero_le _, HS4⟩
  case round =>
    obtain ⟨k, s, r, xs, ys, rfl, hk, HI⟩ := hrel
    rename World => wr
    by_cases hlt : k < N
    · have hkl : k < l.length := by rw [HN.out]; exact hlt
      have d1 : decide ((k : Int) < (N : Int)) = true := decide_eq_true (by omega)
      have k1 : (0 : Int) ≤ (k : Int) := by omega
      have k2 : (k : Int) < (N : Int) := by omega
      obtain ⟨b, o, rfl, hb0, hra⟩ := ca_at HL.out hkl
      have hxk := HOK.out _ (List.getElem_mem hkl)
      obtain ⟨x, hx⟩ : ∃ x, l[k] = x := ⟨_, rfl⟩
      rw [hx] at hra hxk
      have HR := Lib.hid (fun (W : World) (hb : Below w.heap.size w W) => show W.rangeAt b (o + k * 9) (x.c.vs x.A x.k x.D x.m) from rangeAt_below hra hb hb0)
      have HX := Lib.hid hxk
      clear hx hra hxk
      cases hbd : bndC x.c with
      | false =>
        go_wp2_with (first
          | ((with_reducible show wpList _ _ _ ({ dst := some 34, op := Op.load _ _, type := _, pos := _, after := _, guard := _ } :: _) _ _); go_loud (refine wpList_load_mid rfl 27 (.tmp 33) rfl b (o + k * 9) rfl (x.c.vs x.A x.k x.D x.m) _ (HR.out _ HI.out.bl) Try.underlying27 rfl (by kernel_rfl) ?_))
          | (go_at_call 10; go_loud (refine (bounded_any x.c x.A x.k x.D x.m _ (ca_in HX.out HI.out.bl)).mono ?_); rw [hbd]; rintro e w4 ⟨rfl, hb4⟩; have HI4 := Lib.hid (HI.out.below hb4); clear hb4)
          | (go_at_call 11; refine (shown_any _).mono ?_; rintro e w5 ⟨rfl, hb5⟩))
        go_ret
        exact ⟨rfl, HI4.out.bl.trans (hb5.mono HI4.out.bl.size)⟩
      | true =>
        have HEC := Lib.hid (encT_size x.c)
        obtain ⟨t, ht⟩ : ∃ t, (encC x.c).1 = t := ⟨_, rfl⟩
        rw [ht] at HEC
        have HT := Lib.hid ht
        clear ht
        have hwz : IntKind.i64.wrap (z : Int) = (z : Int) := by rw [IntWalk.i64_in _ (by omega)]
        obtain ⟨v, hv⟩ : ∃ v, z % 4 = v := ⟨_, rfl⟩
        have hv4 : v < 4 := by rw [← hv]; exact Nat.mod_lt _ (by omega)
        have hr1 : Int.tmod (z : Int) 4 = (v : Int) := by rw [← hv]; exact (Int.ofNat_tmod _ _).symm
        have hr2 : (z : Int) % 4 = (v : Int) := by omega
        have hw1 : IntKind.i64.wrap (1 + (v : Int)) = ((1 + v : Nat) : Int) := by rw [IntWalk.i64_in _ (by omega)]; omega
        obtain ⟨u, hu⟩ : ∃ u, k % (1 + v) = u := ⟨_, rfl⟩
        have hr3 : Int.tmod (k : Int) ((1 + v : Nat) : Int) = (u : Int) := by rw [← hu]; exact (Int.ofNat_tmod _ _).symm
        have hr4 : (k : Int) % ((1 + v : Nat) : Int) = (u : Int) := by rw [← hu]; exact (Int.natCast_emod _ _).symm
        have hr5 : (k : Int) % (1 + (v : Int)) = (u : Int) := by rw [← hr4, Int.natCast_add]; rfl
        have hr6 : Int.tmod (k : Int) (1 + (v : Int)) = (u : Int) := by rw [← hr3, Int.natCast_add]; rfl
        have hne0 : ¬ ((1 + v : Nat) : Int) = 0 := by omega
        have hne1 : ¬ (1 + (v : Int)) = 0 := by omega
        clear hv hu
        by_cases hu0 : u = 0
        · have hq1 : ((u : Int) == 0) = true := by rw [hu0]; rfl
          have hq2 : (u == 0) = true := by rw [hu0]; rfl
          have HQ1 := Lib.hid (fun (W : World) (h1 : StaIn W W.heap.size r ys) (h2 : InW W ys) => show Calls Try.prog 18 #[.agg (r.vs ys).toArray, .string ⟨#[]⟩] W (AOut W ys (applyS r ⟨#[]⟩)) from apply_any W r ys h1 h2 (3 * k) (by omega) HI.out.okr ⟨#[]⟩ (by decide))
          obtain ⟨q1, hq1'⟩ : ∃ q, applyS r ⟨#[]⟩ = q := ⟨_, rfl⟩
          have HP1 := Lib.hid hq1'
          rw [hq1'] at HQ1
          obtain ⟨r1, e1'⟩ := q1
          have ho1 := sok_next HI.out.okr ⟨#[]⟩
          rw [hq1'] at ho1
          have HQ2 := Lib.hid (fun (W : World) (zs : SA) (h1 : StaIn W W.heap.size r1 zs) (h2 : InW W zs) => show Calls Try.prog 18 #[.agg (r1.vs zs).toArray, .string ⟨#[255, 32, 110, 111, 110, 101]⟩] W (AOut W zs (applyS r1 noneT)) from apply_any W r1 zs h1 h2 (3 * k + 1) (by omega) ho1 noneT (by decide))
          obtain ⟨q2, hq2'⟩ : ∃ q, applyS r1 noneT = q := ⟨_, rfl⟩
          have HP2 := Lib.hid hq2'
          rw [hq2'] at HQ2
          obtain ⟨r2, e2'⟩ := q2
          have ho2 := sok_next ho1 noneT
          rw [hq2'] at ho2
          have HOR := Lib.hid (show SOk r2 (3 * k + 2) from ho2)
          have hrl1 := rel_bad HI.out.rel (t := ⟨#[]⟩) (.inl rfl)
          rw [hq1'] at hrl1
          have hrl2 := rel_bad hrl1 (t := noneT) (.inr dec_noneT)
          rw [hq2'] at hrl2
          have HREL := Lib.hid (show Rel s r2 from hrl2)
          clear hq1' hq2' ho1 hu0 ho2 hrl1 hrl2
          obtain ⟨qs, hqs⟩ : ∃ q, applyS s t = q := ⟨_, rfl⟩
          obtain ⟨qr, hqr⟩ : ∃ q, applyS r2 t = q := ⟨_, rfl⟩
          have hrl := apply_rel HREL.out t
          have hes := apply_eff s t
          have her := apply_eff r2 t
          have hos := sok_next HI.out.oks t
          have hor := sok_next HOR.out t
          have has := (fun (W : World) (h1 : StaIn W W.heap.size s xs) (h2 : InW W xs) => apply_any W s xs h1 h2 k (by omega) HI.out.oks t HEC.out)
          have har := (fun (W : World) (zs : SA) (h1 : StaIn W W.heap.size r2 zs) (h2 : InW W zs) => apply_any W r2 zs h1 h2 (3 * k + 2) (by omega) HOR.out t HEC.out)
          rw [hqs, hqr] at hrl
          rw [hqs] at hes hos has
          rw [hqr] at her hor har
          obtain ⟨s', X⟩ := qs
          obtain ⟨r', Y⟩ := qr
          have HAS := Lib.hid has
          have HAR := Lib.hid har
          have HRL := Lib.hid (And.intro hrl (And.intro hes (And.intro her (And.intro hos hor))))
          clear hqs hqr hrl hes her hos hor has har
          go_wp2_with (first
            | ((with_reducible show wpList _ _ _ ({ dst := some 34, op := Op.load _ _, type := _, pos := _, after := _, guard := _ } :: _) _ _); go_loud (refine wpList_load_mid rfl 27 (.tmp 33) rfl b (o + k * 9) rfl (x.c.vs x.A x.k x.D x.m) _ (HR.out _ HI.out.bl) Try.underlying27 rfl (by kernel_rfl) ?_))
            | (go_at_call 10; go_loud (refine (bounded_any x.c x.A x.k x.D x.m _ (ca_in HX.out HI.out.bl)).mono ?_); rw [hbd]; rintro e w4 ⟨rfl, hb4⟩; have HI4 := Lib.hid (HI.out.below hb4); clear hb4)
            | ((with_reducible show wpList _ _ _ ({ dst := some 42, op := Op.load _ _, type := _, pos := _, after := _, guard := _ } :: _) _ _); go_loud (refine wpList_load_mid rfl 27 (.tmp 41) rfl b (o + k * 9) rfl (x.c.vs x.A x.k x.D x.m) _ (HR.out _ HI4.out.bl) Try.underlying27 rfl (by kernel_rfl) ?_))
            | (go_at_call 12; go_loud (refine (encode_any x.c x.A x.k x.D x.m _ (ca_in HX.out HI4.out.bl)).mono ?_); rw [HT.out]; rintro e w5 ⟨rfl, hb5⟩; have HI5 := Lib.hid (HI4.out.below hb5); have M5 := HI5; clear hb5)
            | ((with_reducible show wpList _ _ _ ({ dst := some 54, op := Op.load _ _, type := _, pos := _, after := _, guard := _ } :: _) _ _); go_loud (refine wpList_load_mid rfl 47 (.tmp 6) rfl (g + 1) 0 rfl (r.vs ys) _ HI5.out.rv.bk.range Try.underlying47 rfl (by kernel_rfl) ?_))
            | (go_at_call 18; have M := M5; go_loud (refine (HQ1.out _ HI5.out.rv.sin HI5.out.rv.inw).mono ?_); rintro e w6 ⟨y1, A1, a1, D1, m1, rfl, hsi, hfr, hef, hb, hsep, hD⟩; have H6 := Lib.hid (And.intro hsi (And.intro hfr hb)); have B6 := Lib.hid (HI5.out.rv.bk.below hb HI5.out.rv.bk.lt); have M6 := H6; clear hsi hfr hef hb hsep hD M5 M)
            | ((with_reducible show wpList _ _ _ ({ dst := none, op := Op.store _ (Operand.tmp 6) _, type := _, pos := _, after := _, guard := _ } :: _) _ _); have M := M6; go_loud (refine wpList_store_mid rfl 47 (.tmp 6) (.tmp 56) rfl (g + 1) 0 (r1.vs y1).toArray rfl rfl (B6.out.there 5 (Nat.le_refl _)) (by kernel_rfl) (by simp [Value.oneCell', Sta.vs]) ?_); refine B6.out.setW (r1.vs y1) rfl ?_; intro w7 HT7 HG7; go_loud (have hr7 := AR.bad (t := ⟨#[]⟩) (W' := w7) (W1 := w6) (ys' := y1) HI5.out (.inl rfl) (by rw [HP1.out]; exact H6.out.1) H6.out.2.1 H6.out.2.2 HG7.out (by rw [HP1.out]; exact HT7.out)); rw [HP1.out] at hr7; have HR7 := Lib.hid hr7; have M7 := HR7; clear hr7 HT7 HG7 M6 M)
            | ((with_reducible show wpList _ _ _ ({ dst := some 59, op := Op.load _ _, type := _, pos := _, after := _, guard := _ } :: _) _ _); go_loud (refine wpList_load_mid rfl 47 (.tmp 6) rfl (g + 1) 0 rfl (r1.vs y1) _ HR7.out.rv.bk.range Try.underlying47 rfl (by kernel_rfl) ?_))
            | (go_at_call 18; have M := M7; go_loud (refine (HQ2.out _ y1 HR7.out.rv.sin HR7.out.rv.inw).mono ?_); rintro e w8 ⟨y2, A2, a2, D2, m2, rfl, hsi, hfr, hef, hb, hsep, hD⟩; have H8 := Lib.hid (And.intro hsi (And.intro hfr hb)); have B8 := Lib.hid (HR7.out.rv.bk.below hb HR7.out.rv.bk.lt); have M8 := H8; clear hsi hfr hef hb hsep hD M7 M)
            | ((with_reducible show wpList _ _ _ ({ dst := none, op := Op.store _ (Operand.tmp 6) _, type := _, pos := _, after := _, guard := _ } :: _) _ _); have M := M8; go_loud (refine wpList_store_mid rfl 47 (.tmp 6) (.tmp 61) rfl (g + 1) 0 (r2.vs y2).toArray rfl rfl (B8.out.there 5 (Nat.le_refl _)) (by kernel_rfl) (by simp [Value.oneCell', Sta.vs]) ?_); refine B8.out.setW (r2.vs y2) rfl ?_; intro w9 HT9 HG9; go_loud (have hr9 := AR.bad (t := noneT) (W' := w9) (W1 := w8) (ys' := y2) HR7.out (.inr dec_noneT) (by rw [HP2.out]; exact H8.out.1) H8.out.2.1 H8.out.2.2 HG9.out (by rw [HP2.out]; exact HT9.out)); rw [HP2.out] at hr9; have HR9 := Lib.hid (hr9.more (show 3 * k + 1 + 1 ≤ 3 * k + 2 by omega)); have M9 := HR9; clear hr9 HT9 HG9 M8 M)
            | ((with_reducible show wpList _ _ _ ({ dst := some 64, op := Op.load _ _, type := _, pos := _, after := _, guard := _ } :: _) _ _); go_loud (refine wpList_load_mid rfl 47 (.tmp 5) rfl g 0 rfl (s.vs xs) _ HR9.out.sv.bk.range Try.underlying47 rfl (by kernel_rfl) ?_))
            | (go_at_call 18; have M := M9; go_loud (refine (HAS.out _ HR9.out.sv.sin HR9.out.sv.inw).mono ?_); rintro e wa ⟨xs', A, a, D, d, rfl, hsi, hfr, hef, hb, hsep, hD⟩; have HPa := Lib.hid (And.intro hsi (And.intro hfr (And.intro hef hb))); have HLa := Lib.hid (fun (q : Nat) (e : blk A = some q) => Own.lt hef.oc q e); have HSa := Lib.hid hsep; have HBa := Lib.hid hb.size; have HNa := Lib.hid (And.intro (hfr.notAt HR9.out.s1 (Nat.lt_of_succ_lt HR9.out.rv.bk.lt)) (hfr.notAt HR9.out.s2 HR9.out.rv.bk.lt)); clear hsi hfr hef hb hsep hD M9 M)
            | ((with_reducible show wpList _ _ _ ({ dst := none, op := Op.store _ (Operand.tmp 10) _, type := _, pos := _, after := _, guard := _ } :: _) _ _); go_loud (refine wpList_store_mid rfl 47 (.tmp 10) (.tmp 67) rfl wa.heap.size 0 (s'.vs xs').toArray rfl rfl ((two_blocks wa 47 53 staz effz).1.there 5 (Nat.le_refl _)) (by kernel_rfl) (by simp [Value.oneCell', Sta.vs]) ?_); refine (two_blocks wa 47 53 staz effz).1.setW (s'.vs xs') rfl ?_; intro wb HTb HGb; have HEb := Lib.hid ((two_blocks wa 47 53 staz effz).2.1.grown HGb.out (fun e => by injection e; omega)); have HLb := Lib.hid (below_grown (two_blocks wa 47 53 staz effz).2.2 (by rw [World.size_alloc, World.size_alloc]; omega) HGb.out (Nat.le_refl _)); clear HGb)
            | ((with_reducible show wpList _ _ _ ({ dst := none, op := Op.store _ (Operand.tmp 11) _, type := _, pos := _, after := _, guard := _ } :: _) _ _); go_loud (refine wpList_store_mid rfl 53 (.tmp 11) (.tmp 68) rfl (wa.heap.size + 1) 0 (X.vs A a D d).toArray rfl rfl (HEb.out.there 4 (Nat.le_refl _)) (by kernel_rfl) (by simp [Value.oneCell', Eff.vs]) ?_); refine HEb.out.setW (X.vs A a D d) rfl ?_; intro wc HEc HGc; have HTc := Lib.hid (HTb.out.grown HGc.out (fun e => by injection e; omega)); have HLc := Lib.hid (below_grown HLb.out HLb.out.size HGc.out (by omega)); go_loud (have HVc := Lib.hid (apply_boxes HR9.out.sv.inw HPa.out.1 HPa.out.2.1 HPa.out.2.2.1 HPa.out.2.2.2 HTc.out HEc.out HLc.out)); have HFc := Lib.hid HPa.out.2.1; clear HTb HEb HLb HGc HTc HEc HLc HPa ; have HRc := Lib.hid (HR9.out.below HVc.out.2.2); have MC := HRc)
            | ((with_reducible show wpList _ _ _ ({ dst := some 70, op := Op.load _ _, type := _, pos := _, after := _, guard := _ } :: _) _ _); go_loud (refine wpList_load_mid rfl 47 (.tmp 6) rfl (g + 1) 0 rfl (r2.vs y2) _ HRc.out.rv.bk.range Try.underlying47 rfl (by kernel_rfl) ?_))
            | (go_at_call 18; have M := MC; go_loud (refine (HAR.out _ y2 HRc.out.rv.sin HRc.out.rv.inw).mono ?_); rintro e wd ⟨ys', A', a', D', d', rfl, hsi, hfr, hef, hb, hsep, hD⟩; have HPd := Lib.hid (And.intro hsi (And.intro hfr (And.intro hef hb))); have HLd := Lib.hid (fun (q : Nat) (e : blk A' = some q) => Own.lt hef.oc q e); have HSd := Lib.hid hsep; have HBd := Lib.hid hb.size; have HNd := Lib.hid (And.intro (hfr.notAt HRc.out.r1 (Nat.lt_of_succ_lt HRc.out.rv.bk.lt)) (hfr.notAt HRc.out.r2 HRc.out.rv.bk.lt)); clear hsi hfr hef hb hsep hD MC M)
            | ((with_reducible show wpList _ _ _ ({ dst := none, op := Op.store _ (Operand.tmp 12) _, type := _, pos := _, after := _, guard := _ } :: _) _ _); go_loud (refine wpList_store_mid rfl 47 (.tmp 12) (.tmp 73) rfl wd.heap.size 0 (r'.vs ys').toArray rfl rfl ((two_blocks wd 47 53 staz effz).1.there 5 (Nat.le_refl _)) (by kernel_rfl) (by simp [Value.oneCell', Sta.vs]) ?_); refine (two_blocks wd 47 53 staz effz).1.setW (r'.vs ys') rfl ?_; intro we HTe HGe; have HEe := Lib.hid ((two_blocks wd 47 53 staz effz).2.1.grown HGe.out (fun e => by injection e; omega)); have HLe := Lib.hid (below_grown (two_blocks wd 47 53 staz effz).2.2 (by rw [World.size_alloc, World.size_alloc]; omega) HGe.out (Nat.le_refl _)); clear HGe)
            | ((with_reducible show wpList _ _ _ ({ dst := none, op := Op.store _ (Operand.tmp 13) _, type := _, pos := _, after := _, guard := _ } :: _) _ _); go_loud (refine wpList_store_mid rfl 53 (.tmp 13) (.tmp 74) rfl (wd.heap.size + 1) 0 (Y.vs A' a' D' d').toArray rfl rfl (HEe.out.there 4 (Nat.le_refl _)) (by kernel_rfl) (by simp [Value.oneCell', Eff.vs]) ?_); refine HEe.out.setW (Y.vs A' a' D' d') rfl ?_; intro wf HEf HGf; have HTf := Lib.hid (HTe.out.grown HGf.out (fun e => by injection e; omega)); have HLf := Lib.hid (below_grown HLe.out HLe.out.size HGf.out (by omega)); go_loud (have HVf := Lib.hid (apply_boxes HRc.out.rv.inw HPd.out.1 HPd.out.2.1 HPd.out.2.2.1 HPd.out.2.2.2 HTf.out HEf.out HLf.out)); have HFf := Lib.hid HPd.out.2.1; clear HTe HEe HLe HGf HTf HEf HLf HPd )
            )
          have hz1 := HR9.out.rv.bk.lt
          have hz2 := HVc.out.2.1.bk.lt
          have hz3 := HBd.out
          have hz4 := HR9.out.bl.size
          have hz5 := HVc.out.1.bk.lt
          have hz6 := HR9.out.hg
          have hz7 := HBa.out
          have HIL : Hid (IL w wf g wa.heap.size wd.heap.size w9.heap.size wc.heap.size s r2 s' r' xs y2 xs' ys' k (3 * k + 2) X Y A a D d A' a' D' d' 0 0) := Lib.hid ⟨HRc.out.below HVf.out.2.2, HVc.out.1.below HVf.out.2.2, HVf.out.1, (HVc.out.2.1.below HVf.out.2.2).bk, HVf.out.2.1.bk, by rw [seqTo_zero]; exact (HVc.out.2.1.below HVf.out.2.2).oc, by rw [seqTo_zero]; exact HVf.out.2.1.oc, (HVc.out.2.1.below HVf.out.2.2).rf, HVf.out.2.1.rf⟩
          have HFA : Hid (∀ q, blk A = some q → Free q w g wa.heap.size wd.heap.size xs y2 xs' ys' ∧ blk A' ≠ some q) := Lib.hid (fun q hq => by
            have h1 := HLa.out q hq
            have h2 := HSa.out q hq
            exact ⟨⟨by omega, by omega, by omega, by omega, by omega, by omega, by omega, HR9.out.sv.inw.notAt h1.1, HR9.out.rv.inw.notAt h1.1, ⟨h2.1, h2.2.1, h2.2.2⟩, HFf.out.notAt (HR9.out.rv.inw.notAt h1.1) (by omega)⟩, fun e => by have := HLd.out q e; omega⟩)
          have HFB : Hid (∀ q, blk A' = some q → Free q w g wa.heap.size wd.heap.size xs y2 xs' ys' ∧ blk A ≠ some q) := Lib.hid (fun q hq => by
            have h1 := HLd.out q hq
            have h2 := HSd.out q hq
            exact ⟨⟨by omega, by omega, by omega, by omega, by omega, by omega, by omega, HRc.out.sv.inw.notAt h1.1, HRc.out.rv.inw.notAt h1.1, HVc.out.1.inw.notAt h1.1, ⟨h2.1, h2.2.1, h2.2.2⟩⟩, fun e => by have := HLa.out q e; omega⟩)
          obtain ⟨n, hn⟩ : ∃ n, X.cells.length = n := ⟨_, rfl⟩
          have hm : Y.cells.length = n := by
            have := congrArg List.length HRL.out.1.2.c
            rw [seqTo_len, seqTo_len] at this
            omega
          have hn100 : n ≤ 100 := by have := HRL.out.2.1.lc; omega
          have HNN := Lib.hid (And.intro hn hm)
          have HNE := Lib.hid (show wd.heap.size ≠ g by omega)
          clear hn hm hz1 hz2 hz3 hz4 hz5 hz6 hz7 HBa HLa HLd HSa HSd HVf HVc HBd HRc HFc HFf
          go_loopw [14] (fun vj wr => ∃ (j : Nat), vj = .int .i64 j ∧ j ≤ n ∧ Hid (IL w wr g wa.heap.size wd.heap.size w9.heap.size wc.heap.size s r2 s' r' xs y2 xs' ys' k (3 * k + 2) X Y A a D d A' a' D' d' j j)) (fun vj _ => n - (intOf vj).toNat)
          case atStart => exact ⟨0, rfl, Nat.zero_le _, HIL⟩
          case round =>
            obtain ⟨j, rfl, hj, HJ⟩ := hrel
            rename World => wv
            by_cases hjn : j < n
            · have j1 : decide ((j : Int) < (n : Int)) = true := decide_eq_true (by omega)
              have j2 : (0 : Int) ≤ (j : Int) := by omega
              have j3 : (j : Int) < (n : Int) := by omega
              have hX : X.files = [] := HRL.out.2.1.one.resolve_left (fun e => by have := HNN.out.1; rw [e] at this; simp at this; omega)
              have hY : Y.files = [] := HRL.out.2.2.1.one.resolve_left (fun e => by have := HNN.out.2; rw [e] at this; simp at this; omega)
              obtain ⟨q1, hA1, hq1a, hq1b, ⟨v1, c1⟩, f1, ho1, hg1⟩ := own_strike HJ.out.ox (by rw [HNN.out.1]; exact hjn) rfl
              have hF1 := HFA.out q1 (by rw [hA1]; rfl)
              have HJ1 := Lib.hid (HJ.out.strikeX hF1.1 hF1.2 hX hY hg1 ho1)
              obtain ⟨q2, hA2, hq2a, hq2b, ⟨v2, c2⟩, f2, ho2, hg2⟩ := own_strike HJ1.out.oy (by rw [HNN.out.2]; exact hjn) rfl
              have hF2 := HFB.out q2 (by rw [hA2]; rfl)
              have HJ2 := Lib.hid (HJ1.out.strikeY hF2.1 hF2.2 hX hY hg2 ho2)
              have x2 := (HJ.out.bx.cell (j := 2) rfl).trans (slice_eq hA1 HNN.out.1)
              have y2 := (HJ.out.by_.cell (j := 2) rfl).trans (slice_eq hA2 HNN.out.2)
              have y3 := (HJ1.out.by_.cell (j := 2) rfl).trans (slice_eq hA2 HNN.out.2)
              clear hX hY hA1 hA2 hq1a hq1b ho1 hg1 hF1 hq2a hq2b ho2 hg2 hF2
              go_wp2
              exact ⟨⟨j + 1, by first | rfl | go_num, by omega, HJ2⟩, by simp [intOf]; omega⟩
            · have hjn' : j = n := by omega
              subst hjn'
              have j1 : decide ((j : Int) < (j : Int)) = false := decide_eq_false (by omega)
              have hcell : ∀ W, Hid (IL w W g wa.heap.size wd.heap.size w9.heap.size wc.heap.size s r2 s' r' xs y2 xs' ys' k (3 * k + 2) X Y A a D d A' a' D' d' j j) → W.rangeAt (wa.heap.size + 1) 0 (X.vs A a D d) ∧ W.rangeAt (wd.heap.size + 1) 0 (Y.vs A' a' D' d') ∧ W.cell? ⟨wa.heap.size + 1, 2, none⟩ = some (.slice A j a) ∧ W.cell? ⟨wd.heap.size + 1, 2, none⟩ = some (.slice A' j a') ∧ W.cell? ⟨wa.heap.size, 1, none⟩ = some (.int .u64 s'.epoch) ∧ W.cell? ⟨wd.heap.size, 1, none⟩ = some (.int .u64 s'.epoch) ∧ W.cell? ⟨wa.heap.size, 3, none⟩ = some (.slice xs'.D s'.jobs.length xs'.d) ∧ W.cell? ⟨wd.heap.size, 3, none⟩ = some (.slice ys'.D s'.jobs.length ys'.d) := fun W h =>
                ⟨h.out.bx.range, h.out.by_.range, (h.out.bx.cell (j := 2) rfl).trans (slice_eq rfl HNN.out.1), (h.out.by_.cell (j := 2) rfl).trans (slice_eq rfl HNN.out.2), h.out.sv.bk.cell (j := 1) rfl, by rw [HRL.out.1.1.ep]; exact h.out.rv.bk.cell (j := 1) rfl, h.out.sv.bk.cell (j := 3) rfl, by rw [HRL.out.1.1.jobs_len]; exact h.out.rv.bk.cell (j := 3) rfl⟩
              have x2 := (hcell _ HJ).2.2.1
              have y2 := (hcell _ HJ).2.2.2.1
              go_wp2
              have HJ0 := HJ
              clear HJ x2 y2
              have HJ := Lib.hid (HJ0.out.below ((Below.refl _ wv).drew))
              clear HJ0
              have HC := hcell _ HJ
              refine region_wz (fun W => W.rangeAt (wa.heap.size + 1) 0 (X.vs A a D d) ∧ W.rangeAt (wd.heap.size + 1) 0 (Y.vs A' a' D' d') ∧ W.cell? ⟨wa.heap.size + 1, 2, none⟩ = some (.slice A j a) ∧ W.cell? ⟨wd.heap.size + 1, 2, none⟩ = some (.slice A' j a') ∧ W.cell? ⟨wa.heap.size, 1, none⟩ = some (.int .u64 s'.epoch) ∧ W.cell? ⟨wd.heap.size, 1, none⟩ = some (.int .u64 s'.epoch) ∧ W.cell? ⟨wa.heap.size, 3, none⟩ = some (.slice xs'.D s'.jobs.length xs'.d) ∧ W.cell? ⟨wd.heap.size, 3, none⟩ = some (.slice ys'.D s'.jobs.length ys'.d)) none (by kernel_rfl) ?_
              apply WZ.take (i := 0) (some 99) rfl rfl (by kernel_rfl) (by kernel_rfl) (by kernel_rfl) (calm_panic _) (by kernel_rfl)
              case hy => first | (apply yieldsIf_load_mid (by kernel_rfl) _ _ rfl _ _ rfl; (case hS => (intro W hC; exact hC.1)); (case hu => exact Try.underlying53); (case hd => rfl); (case hi => kernel_rfl)) | (apply yieldsIf_load_mid (by kernel_rfl) _ _ rfl _ _ rfl; (case hS => (intro W hC; exact hC.2.1)); (case hu => exact Try.underlying53); (case hd => rfl); (case hi => kernel_rfl)) | (apply yieldsIf_load_mid (by kernel_rfl) _ _ rfl _ _ rfl; (case hS => (intro W hC; exact hC.2.2.1)); (case hu => exact Try.underlying53); (case hd => rfl); (case hi => kernel_rfl)) | (apply yieldsIf_load_mid (by kernel_rfl) _ _ rfl _ _ rfl; (case hS => (intro W hC; exact hC.2.2.2.1)); (case hu => exact Try.underlying53); (case hd => rfl); (case hi => kernel_rfl)) | (apply yieldsIf_load_mid (by kernel_rfl) _ _ rfl _ _ rfl; (case hS => (intro W hC; exact hC.2.2.2)); (case hu => exact Try.underlying53); (case hd => rfl); (case hi => kernel_rfl)) | (apply yieldsIf_load_mid (by kernel_rfl) _ _ rfl _ _ rfl; (case hS => (intro W hC; exact hC.2.2)); (case hu => exact Try.underlying53); (case hd => rfl); (case hi => kernel_rfl)) | (apply yieldsIf_load_mid (by kernel_rfl) _ _ rfl _ _ rfl; (case hS => (intro W hC; exact hC.2)); (case hu => exact Try.underlying53); (case hd => rfl); (case hi => kernel_rfl)) | (apply yieldsIf_load_mid (by kernel_rfl) _ _ rfl _ _ rfl; (case hS => (intro W hC; exact hC)); (case hu => exact Try.underlying53); (case hd => rfl); (case hi => kernel_rfl))
              case hC => exact HC
              case ha => (simp only [Act.put, List.setIfInBounds_toArray, List.set_cons_zero, List.set_cons_succ]; rfl)
              apply WZ.take (i := 2) (some 101) rfl rfl (by kernel_rfl) (by kernel_rfl) (by kernel_rfl) (calm_panic _) (by kernel_rfl)
              case hy => first | (apply yieldsIf_load_mid (by kernel_rfl) _ _ rfl _ _ rfl; (case hS => (intro W hC; exact hC.1)); (case hu => exact Try.underlying53); (case hd => rfl); (case hi => kernel_rfl)) | (apply yieldsIf_load_mid (by kernel_rfl) _ _ rfl _ _ rfl; (case hS => (intro W hC; exact hC.2.1)); (case hu => exact Try.underlying53); (case hd => rfl); (case hi => kernel_rfl)) | (apply yieldsIf_load_mid (by kernel_rfl) _ _ rfl _ _ rfl; (case hS => (intro W hC; exact hC.2.2.1)); (case hu => exact Try.underlying53); (case hd => rfl); (case hi => kernel_rfl)) | (apply yieldsIf_load_mid (by kernel_rfl) _ _ rfl _ _ rfl; (case hS => (intro W hC; exact hC.2.2.2.1)); (case hu => exact Try.underlying53); (case hd => rfl); (case hi => kernel_rfl)) | (apply yieldsIf_load_mid (by kernel_rfl) _ _ rfl _ _ rfl; (case hS => (intro W hC; exact hC.2.2.2)); (case hu => exact Try.underlying53); (case hd => rfl); (case hi => kernel_rfl)) | (apply yieldsIf_load_mid (by kernel_rfl) _ _ rfl _ _ rfl; (case hS => (intro W hC; exact hC.2.2)); (case hu => exact Try.underlying53); (case hd => rfl); (case hi => kernel_rfl)) | (apply yieldsIf_load_mid (by kernel_rfl) _ _ rfl _ _ rfl; (case hS => (intro W hC; exact hC.2)); (case hu => exact Try.underlying53); (case hd => rfl); (case hi => kernel_rfl)) | (apply yieldsIf_load_mid (by kernel_rfl) _ _ rfl _ _ rfl; (case hS => (intro W hC; exact hC)); (case hu => exact Try.underlying53); (case hd => rfl); (case hi => kernel_rfl))
              case hC => exact HC
              case ha => (simp only [Act.put, List.setIfInBounds_toArray, List.set_cons_zero, List.set_cons_succ]; rfl)
              -- 1
              refine WZ.one (i := 1) rfl (by kernel_rfl) ?_
              conv => arg 4; arg 1; whnf
              go_wp2_with (go_at_call 23; go_loud (refine (effect_any X A a D d _).mono ?_); rintro e wg ⟨rfl, hb⟩; have HJ0 := HJ; clear HJ; have HJ := Lib.hid (HJ0.out.below hb); clear HJ0 hb)
              clear HC
              have HC := hcell _ HJ
              refine ⟨HC, ?_⟩
              -- 3
              refine WZ.one (i := 3) rfl (by kernel_rfl) ?_
              conv => arg 4; arg 1; whnf
              go_wp2_with (go_at_call 23; go_loud (refine (effect_any Y A' a' D' d' _).mono ?_); rintro e wh ⟨rfl, hb⟩; have HJ0 := HJ; clear HJ; have HJ := Lib.hid (HJ0.out.below hb); clear HJ0 hb)
              clear HC
              have HC := hcell _ HJ
              refine ⟨HC, ?_⟩
              -- 4
              refine WZ.one (i := 4) rfl (by kernel_rfl) ?_
              conv => arg 4; arg 1; whnf
              go_wp2_with (go_at_call 22; go_loud (refine (HJ.out.sameE HRL.out.1.2 HNN.out.1 HNN.out.2 HRL.out.2.1).mono ?_); rintro e wi ⟨rfl, hb⟩; have HJ0 := HJ; clear HJ; have HJ := Lib.hid (HJ0.out.below hb); clear HJ0 hb)
              clear HC
              have HC := hcell _ HJ
              refine ⟨HC, ?_⟩
              apply WZ.take (i := 5) (some 104) rfl rfl (by kernel_rfl) (by kernel_rfl) (by kernel_rfl) (calm_panic _) (by kernel_rfl)
              case hy => (refine .inl ⟨by kernel_rfl, fun W hC => ?_⟩; (try dsimp only at hC); go_simp; rfl)
              case hC => exact HC
              case ha => (simp only [Act.put, List.setIfInBounds_toArray, List.set_cons_zero, List.set_cons_succ]; rfl)
              apply WZ.take (i := 6) (some 105) rfl rfl (by kernel_rfl) (by kernel_rfl) (by kernel_rfl) (calm_panic _) (by kernel_rfl)
              case hy => (refine .inl ⟨by kernel_rfl, fun W hC => ?_⟩; (try dsimp only at hC); go_simp; rfl)
              case hC => exact HC
              case ha => (simp only [Act.put, List.setIfInBounds_toArray, List.set_cons_zero, List.set_cons_succ]; rfl)
              apply WZ.take (i := 7) (some 106) rfl rfl (by kernel_rfl) (by kernel_rfl) (by kernel_rfl) (calm_panic _) (by kernel_rfl)
              case hy => (refine .inl ⟨by kernel_rfl, fun W hC => ?_⟩; (try dsimp only at hC); go_simp; rfl)
              case hC => exact HC
              case ha => (simp only [Act.put, List.setIfInBounds_toArray, List.set_cons_zero, List.set_cons_succ]; rfl)
              apply WZ.take (i := 8) (some 107) rfl rfl (by kernel_rfl) (by kernel_rfl) (by kernel_rfl) (calm_panic _) (by kernel_rfl)
              case hy => (refine .inl ⟨by kernel_rfl, fun W hC => ?_⟩; (try dsimp only at hC); go_simp; rfl)
              case hC => exact HC
              case ha => (simp only [Act.put, List.setIfInBounds_toArray, List.set_cons_zero, List.set_cons_succ]; rfl)
              apply WZ.take (i := 9) (some 108) rfl rfl (by kernel_rfl) (by kernel_rfl) (by kernel_rfl) (calm_panic _) (by kernel_rfl)
              case hy => (refine .inl ⟨by kernel_rfl, fun W hC => ?_⟩; (try dsimp only at hC); go_simp; rfl)
              case hC => exact HC
              case ha => (simp only [Act.put, List.setIfInBounds_toArray, List.set_cons_zero, List.set_cons_succ]; rfl)
              apply WZ.take (i := 10) (some 109) rfl rfl (by kernel_rfl) (by kernel_rfl) (by kernel_rfl) (calm_panic _) (by kernel_rfl)
              case hy => (refine .inl ⟨by kernel_rfl, fun W hC => ?_⟩; (try dsimp only at hC); go_simp; rfl)
              case hC => exact HC
              case ha => (simp only [Act.put, List.setIfInBounds_toArray, List.set_cons_zero, List.set_cons_succ]; rfl)
              -- 11
              refine WZ.one (i := 11) rfl (by kernel_rfl) ?_
              conv => arg 4; arg 1; whnf
              go_wp2_with (go_at_call 27; go_loud (refine (HJ.out.sameC HRL.out.1.2 HNN.out.1 HNN.out.2 HRL.out.2.1).mono ?_); rintro e wj ⟨rfl, hb⟩; have HJ0 := HJ; clear HJ; have HJ := Lib.hid (HJ0.out.below hb); clear HJ0 hb)
              clear HC
              have HC := hcell _ HJ
              refine ⟨HC, ?_⟩
              apply WZ.take (i := 12) (some 111) rfl rfl (by kernel_rfl) (by kernel_rfl) (by kernel_rfl) (calm_panic _) (by kernel_rfl)
              case hy => (refine .inl ⟨by kernel_rfl, fun W hC => ?_⟩; (try dsimp only at hC); go_simp; rfl)
              case hC => exact HC
              case ha => (simp only [Act.put, List.setIfInBounds_toArray, List.set_cons_zero, List.set_cons_succ]; rfl)
              apply WZ.take (i := 13) (some 112) rfl rfl (by kernel_rfl) (by kernel_rfl) (by kernel_rfl) (calm_panic _) (by kernel_rfl)
              case hy => (refine .inl ⟨by kernel_rfl, fun W hC => ?_⟩; (try dsimp only at hC); go_simp; rfl)
              case hC => exact HC
              case ha => (simp only [Act.put, List.setIfInBounds_toArray, List.set_cons_zero, List.set_cons_succ]; rfl)
              apply WZ.take (i := 14) (some 113) rfl rfl (by kernel_rfl) (by kernel_rfl) (by kernel_rfl) (calm_panic _) (by kernel_rfl)
              case hy => (refine .inl ⟨by kernel_rfl, fun W hC => ?_⟩; (try dsimp only at hC); go_simp; rfl)
              case hC => exact HC
              case ha => (simp only [Act.put, List.setIfInBounds_toArray, List.set_cons_zero, List.set_cons_succ]; rfl)
              apply WZ.take (i := 15) (some 114) rfl rfl (by kernel_rfl) (by kernel_rfl) (by kernel_rfl) (calm_panic _) (by kernel_rfl)
              case hy => (refine .inl ⟨by kernel_rfl, fun W hC => ?_⟩; (try dsimp only at hC); go_simp; rfl)
              case hC => exact HC
              case ha => (simp only [Act.put, List.setIfInBounds_toArray, List.set_cons_zero, List.set_cons_succ]; rfl)
              apply WZ.take (i := 16) (some 115) rfl rfl (by kernel_rfl) (by kernel_rfl) (by kernel_rfl) (calm_panic _) (by kernel_rfl)
              case hy => (refine .inl ⟨by kernel_rfl, fun W hC => ?_⟩; (try dsimp only at hC); go_simp; rfl)
              case hC => exact HC
              case ha => (simp only [Act.put, List.setIfInBounds_toArray, List.set_cons_zero, List.set_cons_succ]; rfl)
              apply WZ.take (i := 17) (some 116) rfl rfl (by kernel_rfl) (by kernel_rfl) (by kernel_rfl) (calm_panic _) (by kernel_rfl)
              case hy => (refine .inl ⟨by kernel_rfl, fun W hC => ?_⟩; (try dsimp only at hC); go_simp; rfl)
              case hC => exact HC
              case ha => (simp only [Act.put, List.setIfInBounds_toArray, List.set_cons_zero, List.set_cons_succ]; rfl)
              apply WZ.take (i := 18) (some 117) rfl rfl (by kernel_rfl) (by kernel_rfl) (by kernel_rfl) (calm_panic _) (by kernel_rfl)
              case hy => (refine .inl ⟨by kernel_rfl, fun W hC => ?_⟩; (try dsimp only at hC); go_simp; rfl)
              case hC => exact HC
              case ha => (simp only [Act.put, List.setIfInBounds_toArray, List.set_cons_zero, List.set_cons_succ]; rfl)
              apply WZ.take (i := 19) (some 118) rfl rfl (by kernel_rfl) (by kernel_rfl) (by kernel_rfl) (calm_panic _) (by kernel_rfl)
              case hy => (refine .inl ⟨by kernel_rfl, fun W hC => ?_⟩; (try dsimp only at hC); go_simp; rfl)
              case hC => exact HC
              case ha => (simp only [Act.put, List.setIfInBounds_toArray, List.set_cons_zero, List.set_cons_succ]; rfl)
              apply WZ.take (i := 20) (some 119) rfl rfl (by kernel_rfl) (by kernel_rfl) (by kernel_rfl) (calm_panic _) (by kernel_rfl)
              case hy => (refine .inl ⟨by kernel_rfl, fun W hC => ?_⟩; (try dsimp only at hC); go_simp; rfl)
              case hC => exact HC
              case ha => (simp only [Act.put, List.setIfInBounds_toArray, List.set_cons_zero, List.set_cons_succ]; rfl)
              apply WZ.take (i := 21) (some 120) rfl rfl (by kernel_rfl) (by kernel_rfl) (by kernel_rfl) (calm_panic _) (by kernel_rfl)
              case hy => (refine .inl ⟨by kernel_rfl, fun W hC => ?_⟩; (try dsimp only at hC); go_simp; rfl)
              case hC => exact HC
              case ha => (simp only [Act.put, List.setIfInBounds_toArray, List.set_cons_zero, List.set_cons_succ]; rfl)
              apply WZ.take (i := 22) (some 121) rfl rfl (by kernel_rfl) (by kernel_rfl) (by kernel_rfl) (calm_panic _) (by kernel_rfl)
              case hy => (refine .inl ⟨by kernel_rfl, fun W hC => ?_⟩; (try dsimp only at hC); go_simp; rfl)
              case hC => exact HC
              case ha => (simp only [Act.put, List.setIfInBounds_toArray, List.set_cons_zero, List.set_cons_succ]; rfl)
              apply WZ.take (i := 23) (some 122) rfl rfl (by kernel_rfl) (by kernel_rfl) (by kernel_rfl) (calm_panic _) (by kernel_rfl)
              case hy => (refine .inl ⟨by kernel_rfl, fun W hC => ?_⟩; (try dsimp only at hC); go_simp; rfl)
              case hC => exact HC
              case ha => (simp only [Act.put, List.setIfInBounds_toArray, List.set_cons_zero, List.set_cons_succ]; rfl)
              apply WZ.take (i := 24) (some 123) rfl rfl (by kernel_rfl) (by kernel_rfl) (by kernel_rfl) (calm_panic _) (by kernel_rfl)
              case hy => (refine .inl ⟨by kernel_rfl, fun W hC => ?_⟩; (try dsimp only at hC); go_simp; rfl)
              case hC => exact HC
              case ha => (simp only [Act.put, List.setIfInBounds_toArray, List.set_cons_zero, List.set_cons_succ]; rfl)
              apply WZ.take (i := 25) (some 124) rfl rfl (by kernel_rfl) (by kernel_rfl) (by kernel_rfl) (calm_panic _) (by kernel_rfl)
              case hy => (refine .inl ⟨by kernel_rfl, fun W hC => ?_⟩; (try dsimp only at hC); go_simp; rfl)
              case hC => exact HC
              case ha => (simp only [Act.put, List.setIfInBounds_toArray, List.set_cons_zero, List.set_cons_succ]; rfl)
              apply WZ.take (i := 26) (some 125) rfl rfl (by kernel_rfl) (by kernel_rfl) (by kernel_rfl) (calm_panic _) (by kernel_rfl)
              case hy => (refine .inl ⟨by kernel_rfl, fun W hC => ?_⟩; (try dsimp only at hC); go_simp; rfl)
              case hC => exact HC
              case ha => (simp only [Act.put, List.setIfInBounds_toArray, List.set_cons_zero, List.set_cons_succ]; rfl)
              apply WZ.take (i := 27) (some 126) rfl rfl (by kernel_rfl) (by kernel_rfl) (by kernel_rfl) (calm_panic _) (by kernel_rfl)
              case hy => (refine .inl ⟨by kernel_rfl, fun W hC => ?_⟩; (try dsimp only at hC); go_simp; rfl)
              case hC => exact HC
              case ha => (simp only [Act.put, List.setIfInBounds_toArray, List.set_cons_zero, List.set_cons_succ]; rfl)
              apply WZ.take (i := 28) (some 127) rfl rfl (by kernel_rfl) (by kernel_rfl) (by kernel_rfl) (calm_panic _) (by kernel_rfl)
              case hy => (refine .inl ⟨by kernel_rfl, fun W hC => ?_⟩; (try dsimp only at hC); go_simp; rfl)
              case hC => exact HC
              case ha => (simp only [Act.put, List.setIfInBounds_toArray, List.set_cons_zero, List.set_cons_succ]; rfl)
              apply WZ.take (i := 29) (some 128) rfl rfl (by kernel_rfl) (by kernel_rfl) (by kernel_rfl) (calm_panic _) (by kernel_rfl)
              case hy => (refine .inl ⟨by kernel_rfl, fun W hC => ?_⟩; (try dsimp only at hC); go_simp; rfl)
              case hC => exact HC
              case ha => (simp only [Act.put, List.setIfInBounds_toArray, List.set_cons_zero, List.set_cons_succ]; rfl)
              refine WZ.done (by kernel_rfl) ?_ _
              simp only [Calm, Exit.then]
              go_wp2_with (first
                | ((with_reducible show wpList _ _ _ ({ dst := some 129, op := Op.load _ _, type := _, pos := _, after := _, guard := _ } :: _) _ _); go_loud (refine wpList_load_mid rfl 47 (.tmp 10) rfl wa.heap.size 0 rfl (s'.vs xs') _ HJ.out.sv.bk.range Try.underlying47 rfl (by kernel_rfl) ?_))
                | ((with_reducible show wpList _ _ _ ({ dst := none, op := Op.store _ (Operand.tmp 5) _, type := _, pos := _, after := _, guard := _ } :: _) _ _); go_loud (refine wpList_store_mid rfl 47 (.tmp 5) (.tmp 129) rfl g 0 (s'.vs xs').toArray rfl rfl (HJ.out.al.sv.bk.there 5 (Nat.le_refl _)) (by kernel_rfl) (by simp [Value.oneCell', Sta.vs]) ?_); refine HJ.out.al.sv.bk.setW (s'.vs xs') rfl ?_; intro wk HTk HGk; have hgz := HJ.out.al.rv.bk.lt; have HBk := Lib.hid (HJ.out.rv.own HGk.out HNE.out HNd.out.1); have HCk := Lib.hid (HJ.out.al.rv.bk.grown HGk.out (fun e => by injection e; omega)))
                | ((with_reducible show wpList _ _ _ ({ dst := some 130, op := Op.load _ _, type := _, pos := _, after := _, guard := _ } :: _) _ _); go_loud (refine wpList_load_mid rfl 47 (.tmp 12) rfl wd.heap.size 0 rfl (r'.vs ys') _ HBk.out.bk.range Try.underlying47 rfl (by kernel_rfl) ?_))
                | ((with_reducible show wpList _ _ _ ({ dst := none, op := Op.store _ (Operand.tmp 6) _, type := _, pos := _, after := _, guard := _ } :: _) _ _); go_loud (refine wpList_store_mid rfl 47 (.tmp 6) (.tmp 130) rfl (g + 1) 0 (r'.vs ys').toArray rfl rfl (HCk.out.there 5 (Nat.le_refl _)) (by kernel_rfl) (by simp [Value.oneCell', Sta.vs]) ?_); refine HCk.out.setW (r'.vs ys') rfl ?_; intro wl HTl HGl))
              have hfin := HJ.out.al.next HRL.out.1.1 HRL.out.2.2.2.1 HRL.out.2.2.2.2 HJ.out.sv HJ.out.rv HNa.out.1 HNa.out.2 HNd.out.1 HNd.out.2 HGk.out HTk.out HGl.out HTl.out
              rw [show 3 * k + 2 + 1 = 3 * (k + 1) by omega] at hfin
              exact ⟨⟨k + 1, s', r', xs', ys', by first | rfl | go_num, by omega, Lib.hid hfin⟩, by simp [intOf]; omega⟩
        · have hq1 : ((u : Int) == 0) = false := by rw [beq_eq_false_iff_ne]; omega
          have hq2 : (u == 0) = false := by rw [beq_eq_false_iff_ne]; omega
          have HOR := Lib.hid (HI.out.okr.more (show 3 * k ≤ 3 * k + 2 by omega))
          have HREL := Lib.hid HI.out.rel
          clear hu0
          obtain ⟨qs, hqs⟩ : ∃ q, applyS s t = q := ⟨_, rfl⟩
          obtain ⟨qr, hqr⟩ : ∃ q, applyS r t = q := ⟨_, rfl⟩
          have hrl := apply_rel HREL.out t
          have hes := apply_eff s t
          have her := apply_eff r t
          have hos := sok_next HI.out.oks t
          have hor := sok_next HOR.out t
          have has := (fun (W : World) (h1 : StaIn W W.heap.size s xs) (h2 : InW W xs) => apply_any W s xs h1 h2 k (by omega) HI.out.oks t HEC.out)
          have har := (fun (W : World) (zs : SA) (h1 : StaIn W W.heap.size r zs) (h2 : InW W zs) => apply_any W r zs h1 h2 (3 * k + 2) (by omega) HOR.out t HEC.out)
          rw [hqs, hqr] at hrl
          rw [hqs] at hes hos has
          rw [hqr] at her hor har
          obtain ⟨s', X⟩ := qs
          obtain ⟨r', Y⟩ := qr
          have HAS := Lib.hid has
          have HAR := Lib.hid har
          have HRL := Lib.hid (And.intro hrl (And.intro hes (And.intro her (And.intro hos hor))))
          clear hqs hqr hrl hes her hos hor has har
          go_wp2_with (first
            | ((with_reducible show wpList _ _ _ ({ dst := some 34, op := Op.load _ _, type := _, pos := _, after := _, guard := _ } :: _) _ _); go_loud (refine wpList_load_mid rfl 27 (.tmp 33) rfl b (o + k * 9) rfl (x.c.vs x.A x.k x.D x.m) _ (HR.out _ HI.out.bl) Try.underlying27 rfl (by kernel_rfl) ?_))
            | (go_at_call 10; go_loud (refine (bounded_any x.c x.A x.k x.D x.m _ (ca_in HX.out HI.out.bl)).mono ?_); rw [hbd]; rintro e w4 ⟨rfl, hb4⟩; have HI4 := Lib.hid (HI.out.below hb4); clear hb4)
            | ((with_reducible show wpList _ _ _ ({ dst := some 42, op := Op.load _ _, type := _, pos := _, after := _, guard := _ } :: _) _ _); go_loud (refine wpList_load_mid rfl 27 (.tmp 41) rfl b (o + k * 9) rfl (x.c.vs x.A x.k x.D x.m) _ (HR.out _ HI4.out.bl) Try.underlying27 rfl (by kernel_rfl) ?_))
            | (go_at_call 12; go_loud (refine (encode_any x.c x.A x.k x.D x.m _ (ca_in HX.out HI4.out.bl)).mono ?_); rw [HT.out]; rintro e w5 ⟨rfl, hb5⟩; have HI5 := Lib.hid ((HI4.out.below hb5).more (show 3 * k ≤ 3 * k + 2 by omega)); have M5 := HI5; clear hb5)
            | ((with_reducible show wpList _ _ _ ({ dst := some 64, op := Op.load _ _, type := _, pos := _, after := _, guard := _ } :: _) _ _); go_loud (refine wpList_load_mid rfl 47 (.tmp 5) rfl g 0 rfl (s.vs xs) _ HI5.out.sv.bk.range Try.underlying47 rfl (by kernel_rfl) ?_))
            | (go_at_call 18; have M := M5; go_loud (refine (HAS.out _ HI5.out.sv.sin HI5.out.sv.inw).mono ?_); rintro e wa ⟨xs', A, a, D, d, rfl, hsi, hfr, hef, hb, hsep, hD⟩; have HPa := Lib.hid (And.intro hsi (And.intro hfr (And.intro hef hb))); have HLa := Lib.hid (fun (q : Nat) (e : blk A = some q) => Own.lt hef.oc q e); have HSa := Lib.hid hsep; have HBa := Lib.hid hb.size; have HNa := Lib.hid (And.intro (hfr.notAt HI5.out.s1 (Nat.lt_of_succ_lt HI5.out.rv.bk.lt)) (hfr.notAt HI5.out.s2 HI5.out.rv.bk.lt)); clear hsi hfr hef hb hsep hD M5 M)
            | ((with_reducible show wpList _ _ _ ({ dst := none, op := Op.store _ (Operand.tmp 10) _, type := _, pos := _, after := _, guard := _ } :: _) _ _); go_loud (refine wpList_store_mid rfl 47 (.tmp 10) (.tmp 67) rfl wa.heap.size 0 (s'.vs xs').toArray rfl rfl ((two_blocks wa 47 53 staz effz).1.there 5 (Nat.le_refl _)) (by kernel_rfl) (by simp [Value.oneCell', Sta.vs]) ?_); refine (two_blocks wa 47 53 staz effz).1.setW (s'.vs xs') rfl ?_; intro wb HTb HGb; have HEb := Lib.hid ((two_blocks wa 47 53 staz effz).2.1.grown HGb.out (fun e => by injection e; omega)); have HLb := Lib.hid (below_grown (two_blocks wa 47 53 staz effz).2.2 (by rw [World.size_alloc, World.size_alloc]; omega) HGb.out (Nat.le_refl _)); clear HGb)
            | ((with_reducible show wpList _ _ _ ({ dst := none, op := Op.store _ (Operand.tmp 11) _, type := _, pos := _, after := _, guard := _ } :: _) _ _); go_loud (refine wpList_store_mid rfl 53 (.tmp 11) (.tmp 68) rfl (wa.heap.size + 1) 0 (X.vs A a D d).toArray rfl rfl (HEb.out.there 4 (Nat.le_refl _)) (by kernel_rfl) (by simp [Value.oneCell', Eff.vs]) ?_); refine HEb.out.setW (X.vs A a D d) rfl ?_; intro wc HEc HGc; have HTc := Lib.hid (HTb.out.grown HGc.out (fun e => by injection e; omega)); have HLc := Lib.hid (below_grown HLb.out HLb.out.size HGc.out (by omega)); go_loud (have HVc := Lib.hid (apply_boxes HI5.out.sv.inw HPa.out.1 HPa.out.2.1 HPa.out.2.2.1 HPa.out.2.2.2 HTc.out HEc.out HLc.out)); have HFc := Lib.hid HPa.out.2.1; clear HTb HEb HLb HGc HTc HEc HLc HPa ; have HRc := Lib.hid (HI5.out.below HVc.out.2.2); have MC := HRc)
            | ((with_reducible show wpList _ _ _ ({ dst := some 70, op := Op.load _ _, type := _, pos := _, after := _, guard := _ } :: _) _ _); go_loud (refine wpList_load_mid rfl 47 (.tmp 6) rfl (g + 1) 0 rfl (r.vs ys) _ HRc.out.rv.bk.range Try.underlying47 rfl (by kernel_rfl) ?_))
            | (go_at_call 18; have M := MC; go_loud (refine (HAR.out _ ys HRc.out.rv.sin HRc.out.rv.inw).mono ?_); rintro e wd ⟨ys', A', a', D', d', rfl, hsi, hfr, hef, hb, hsep, hD⟩; have HPd := Lib.hid (And.intro hsi (And.intro hfr (And.intro hef hb))); have HLd := Lib.hid (fun (q : Nat) (e : blk A' = some q) => Own.lt hef.oc q e); have HSd := Lib.hid hsep; have HBd := Lib.hid hb.size; have HNd := Lib.hid (And.intro (hfr.notAt HRc.out.r1 (Nat.lt_of_succ_lt HRc.out.rv.bk.lt)) (hfr.notAt HRc.out.r2 HRc.out.rv.bk.lt)); clear hsi hfr hef hb hsep hD MC M)
            | ((with_reducible show wpList _ _ _ ({ dst := none, op := Op.store _ (Operand.tmp 12) _, type := _, pos := _, after := _, guard := _ } :: _) _ _); go_loud (refine wpList_store_mid rfl 47 (.tmp 12) (.tmp 73) rfl wd.heap.size 0 (r'.vs ys').toArray rfl rfl ((two_blocks wd 47 53 staz effz).1.there 5 (Nat.le_refl _)) (by kernel_rfl) (by simp [Value.oneCell', Sta.vs]) ?_); refine (two_blocks wd 47 53 staz effz).1.setW (r'.vs ys') rfl ?_; intro we HTe HGe; have HEe := Lib.hid ((two_blocks wd 47 53 staz effz).2.1.grown HGe.out (fun e => by injection e; omega)); have HLe := Lib.hid (below_grown (two_blocks wd 47 53 staz effz).2.2 (by rw [World.size_alloc, World.size_alloc]; omega) HGe.out (Nat.le_refl _)); clear HGe)
            | ((with_reducible show wpList _ _ _ ({ dst := none, op := Op.store _ (Operand.tmp 13) _, type := _, pos := _, after := _, guard := _ } :: _) _ _); go_loud (refine wpList_store_mid rfl 53 (.tmp 13) (.tmp 74) rfl (wd.heap.size + 1) 0 (Y.vs A' a' D' d').toArray rfl rfl (HEe.out.there 4 (Nat.le_refl _)) (by kernel_rfl) (by simp [Value.oneCell', Eff.vs]) ?_); refine HEe.out.setW (Y.vs A' a' D' d') rfl ?_; intro wf HEf HGf; have HTf := Lib.hid (HTe.out.grown HGf.out (fun e => by injection e; omega)); have HLf := Lib.hid (below_grown HLe.out HLe.out.size HGf.out (by omega)); go_loud (have HVf := Lib.hid (apply_boxes HRc.out.rv.inw HPd.out.1 HPd.out.2.1 HPd.out.2.2.1 HPd.out.2.2.2 HTf.out HEf.out HLf.out)); have HFf := Lib.hid HPd.out.2.1; clear HTe HEe HLe HGf HTf HEf HLf HPd )
            )
          have hz1 := HI5.out.rv.bk.lt
          have hz2 := HVc.out.2.1.bk.lt
          have hz3 := HBd.out
          have hz4 := HI5.out.bl.size
          have hz5 := HVc.out.1.bk.lt
          have hz6 := HI5.out.hg
          have hz7 := HBa.out
          have HIL : Hid (IL w wf g wa.heap.size wd.heap.size w5.heap.size wc.heap.size s r s' r' xs ys xs' ys' k (3 * k + 2) X Y A a D d A' a' D' d' 0 0) := Lib.hid ⟨HRc.out.below HVf.out.2.2, HVc.out.1.below HVf.out.2.2, HVf.out.1, (HVc.out.2.1.below HVf.out.2.2).bk, HVf.out.2.1.bk, by rw [seqTo_zero]; exact (HVc.out.2.1.below HVf.out.2.2).oc, by rw [seqTo_zero]; exact HVf.out.2.1.oc, (HVc.out.2.1.below HVf.out.2.2).rf, HVf.out.2.1.rf⟩
          have HFA : Hid (∀ q, blk A = some q → Free q w g wa.heap.size wd.heap.size xs ys xs' ys' ∧ blk A' ≠ some q) := Lib.hid (fun q hq => by
            have h1 := HLa.out q hq
            have h2 := HSa.out q hq
            exact ⟨⟨by omega, by omega, by omega, by omega, by omega, by omega, by omega, HI5.out.sv.inw.notAt h1.1, HI5.out.rv.inw.notAt h1.1, ⟨h2.1, h2.2.1, h2.2.2⟩, HFf.out.notAt (HI5.out.rv.inw.notAt h1.1) (by omega)⟩, fun e => by have := HLd.out q e; omega⟩)
          have HFB : Hid (∀ q, blk A' = some q → Free q w g wa.heap.size wd.heap.size xs ys xs' ys' ∧ blk A ≠ some q) := Lib.hid (fun q hq => by
            have h1 := HLd.out q hq
            have h2 := HSd.out q hq
            exact ⟨⟨by omega, by omega, by omega, by omega, by omega, by omega, by omega, HRc.out.sv.inw.notAt h1.1, HRc.out.rv.inw.notAt h1.1, HVc.out.1.inw.notAt h1.1, ⟨h2.1, h2.2.1, h2.2.2⟩⟩, fun e => by have := HLa.out q e; omega⟩)
          obtain ⟨n, hn⟩ : ∃ n, X.cells.length = n := ⟨_, rfl⟩
          have hm : Y.cells.length = n := by
            have := congrArg List.length HRL.out.1.2.c
            rw [seqTo_len, seqTo_len] at this
            omega
          have hn100 : n ≤ 100 := by have := HRL.out.2.1.lc; omega
          have HNN := Lib.hid (And.intro hn hm)
          have HNE := Lib.hid (show wd.heap.size ≠ g by omega)
          clear hn hm hz1 hz2 hz3 hz4 hz5 hz6 hz7 HBa HLa HLd HSa HSd HVf HVc HBd HRc HFc HFf
          go_loopw [14] (fun vj wr => ∃ (j : Nat), vj = .int .i64 j ∧ j ≤ n ∧ Hid (IL w wr g wa.heap.size wd.heap.size w5.heap.size wc.heap.size s r s' r' xs ys xs' ys' k (3 * k + 2) X Y A a D d A' a' D' d' j j)) (fun vj _ => n - (intOf vj).toNat)
          case atStart => exact ⟨0, rfl, Nat.zero_le _, HIL⟩
          case round =>
            obtain ⟨j, rfl, hj, HJ⟩ := hrel
            rename World => wv
            by_cases hjn : j < n
            · have j1 : decide ((j : Int) < (n : Int)) = true := decide_eq_true (by omega)
              have j2 : (0 : Int) ≤ (j : Int) := by omega
              have j3 : (j : Int) < (n : Int) := by omega
              have hX : X.files = [] := HRL.out.2.1.one.resolve_left (fun e => by have := HNN.out.1; rw [e] at this; simp at this; omega)
              have hY : Y.files = [] := HRL.out.2.2.1.one.resolve_left (fun e => by have := HNN.out.2; rw [e] at this; simp at this; omega)
              obtain ⟨q1, hA1, hq1a, hq1b, ⟨v1, c1⟩, f1, ho1, hg1⟩ := own_strike HJ.out.ox (by rw [HNN.out.1]; exact hjn) rfl
              have hF1 := HFA.out q1 (by rw [hA1]; rfl)
              have HJ1 := Lib.hid (HJ.out.strikeX hF1.1 hF1.2 hX hY hg1 ho1)
              obtain ⟨q2, hA2, hq2a, hq2b, ⟨v2, c2⟩, f2, ho2, hg2⟩ := own_strike HJ1.out.oy (by rw [HNN.out.2]; exact hjn) rfl
              have hF2 := HFB.out q2 (by rw [hA2]; rfl)
              have HJ2 := Lib.hid (HJ1.out.strikeY hF2.1 hF2.2 hX hY hg2 ho2)
              have x2 := (HJ.out.bx.cell (j := 2) rfl).trans (slice_eq hA1 HNN.out.1)
              have y2 := (HJ.out.by_.cell (j := 2) rfl).trans (slice_eq hA2 HNN.out.2)
              have y3 := (HJ1.out.by_.cell (j := 2) rfl).trans (slice_eq hA2 HNN.out.2)
              clear hX hY hA1 hA2 hq1a hq1b ho1 hg1 hF1 hq2a hq2b ho2 hg2 hF2
              go_wp2
              exact ⟨⟨j + 1, by first | rfl | go_num, by omega, HJ2⟩, by simp [intOf]; omega⟩
            · have hjn' : j = n := by omega
              subst hjn'
              have j1 : decide ((j : Int) < (j : Int)) = false := decide_eq_false (by omega)
              have hcell : ∀ W, Hid (IL w W g wa.heap.size wd.heap.size w5.heap.size wc.heap.size s r s' r' xs ys xs' ys' k (3 * k + 2) X Y A a D d A' a' D' d' j j) → W.rangeAt (wa.heap.size + 1) 0 (X.vs A a D d) ∧ W.rangeAt (wd.heap.size + 1) 0 (Y.vs A' a' D' d') ∧ W.cell? ⟨wa.heap.size + 1, 2, none⟩ = some (.slice A j a) ∧ W.cell? ⟨wd.heap.size + 1, 2, none⟩ = some (.slice A' j a') ∧ W.cell? ⟨wa.heap.size, 1, none⟩ = some (.int .u64 s'.epoch) ∧ W.cell? ⟨wd.heap.size, 1, none⟩ = some (.int .u64 s'.epoch) ∧ W.cell? ⟨wa.heap.size, 3, none⟩ = some (.slice xs'.D s'.jobs.length xs'.d) ∧ W.cell? ⟨wd.heap.size, 3, none⟩ = some (.slice ys'.D s'.jobs.length ys'.d) := fun W h =>
                ⟨h.out.bx.range, h.out.by_.range, (h.out.bx.cell (j := 2) rfl).trans (slice_eq rfl HNN.out.1), (h.out.by_.cell (j := 2) rfl).trans (slice_eq rfl HNN.out.2), h.out.sv.bk.cell (j := 1) rfl, by rw [HRL.out.1.1.ep]; exact h.out.rv.bk.cell (j := 1) rfl, h.out.sv.bk.cell (j := 3) rfl, by rw [HRL.out.1.1.jobs_len]; exact h.out.rv.bk.cell (j := 3) rfl⟩
              have x2 := (hcell _ HJ).2.2.1
              have y2 := (hcell _ HJ).2.2.2.1
              go_wp2
              have HJ0 := HJ
              clear HJ x2 y2
              have HJ := Lib.hid (HJ0.out.below ((Below.refl _ wv).drew))
              clear HJ0
              have HC := hcell _ HJ
              refine region_wz (fun W => W.rangeAt (wa.heap.size + 1) 0 (X.vs A a D d) ∧ W.rangeAt (wd.heap.size + 1) 0 (Y.vs A' a' D' d') ∧ W.cell? ⟨wa.heap.size + 1, 2, none⟩ = some (.slice A j a) ∧ W.cell? ⟨wd.heap.size + 1, 2, none⟩ = some (.slice A' j a') ∧ W.cell? ⟨wa.heap.size, 1, none⟩ = some (.int .u64 s'.epoch) ∧ W.cell? ⟨wd.heap.size, 1, none⟩ = some (.int .u64 s'.epoch) ∧ W.cell? ⟨wa.heap.size, 3, none⟩ = some (.slice xs'.D s'.jobs.length xs'.d) ∧ W.cell? ⟨wd.heap.size, 3, none⟩ = some (.slice ys'.D s'.jobs.length ys'.d)) none (by kernel_rfl) ?_
              apply WZ.take (i := 0) (some 99) rfl rfl (by kernel_rfl) (by kernel_rfl) (by kernel_rfl) (calm_panic _) (by kernel_rfl)
              case hy => first | (apply yieldsIf_load_mid (by kernel_rfl) _ _ rfl _ _ rfl; (case hS => (intro W hC; exact hC.1)); (case hu => exact Try.underlying53); (case hd => rfl); (case hi => kernel_rfl)) | (apply yieldsIf_load_mid (by kernel_rfl) _ _ rfl _ _ rfl; (case hS => (intro W hC; exact hC.2.1)); (case hu => exact Try.underlying53); (case hd => rfl); (case hi => kernel_rfl)) | (apply yieldsIf_load_mid (by kernel_rfl) _ _ rfl _ _ rfl; (case hS => (intro W hC; exact hC.2.2.1)); (case hu => exact Try.underlying53); (case hd => rfl); (case hi => kernel_rfl)) | (apply yieldsIf_load_mid (by kernel_rfl) _ _ rfl _ _ rfl; (case hS => (intro W hC; exact hC.2.2.2.1)); (case hu => exact Try.underlying53); (case hd => rfl); (case hi => kernel_rfl)) | (apply yieldsIf_load_mid (by kernel_rfl) _ _ rfl _ _ rfl; (case hS => (intro W hC; exact hC.2.2.2)); (case hu => exact Try.underlying53); (case hd => rfl); (case hi => kernel_rfl)) | (apply yieldsIf_load_mid (by kernel_rfl) _ _ rfl _ _ rfl; (case hS => (intro W hC; exact hC.2.2)); (case hu => exact Try.underlying53); (case hd => rfl); (case hi => kernel_rfl)) | (apply yieldsIf_load_mid (by kernel_rfl) _ _ rfl _ _ rfl; (case hS => (intro W hC; exact hC.2)); (case hu => exact Try.underlying53); (case hd => rfl); (case hi => kernel_rfl)) | (apply yieldsIf_load_mid (by kernel_rfl) _ _ rfl _ _ rfl; (case hS => (intro W hC; exact hC)); (case hu => exact Try.underlying53); (case hd => rfl); (case hi => kernel_rfl))
              case hC => exact HC
              case ha => (simp only [Act.put, List.setIfInBounds_toArray, List.set_cons_zero, List.set_cons_succ]; rfl)
              apply WZ.take (i := 2) (some 101) rfl rfl (by kernel_rfl) (by kernel_rfl) (by kernel_rfl) (calm_panic _) (by kernel_rfl)
              case hy => first | (apply yieldsIf_load_mid (by kernel_rfl) _ _ rfl _ _ rfl; (case hS => (intro W hC; exact hC.1)); (case hu => exact Try.underlying53); (case hd => rfl); (case hi => kernel_rfl)) | (apply yieldsIf_load_mid (by kernel_rfl) _ _ rfl _ _ rfl; (case hS => (intro W hC; exact hC.2.1)); (case hu => exact Try.underlying53); (case hd => rfl); (case hi => kernel_rfl)) | (apply yieldsIf_load_mid (by kernel_rfl) _ _ rfl _ _ rfl; (case hS => (intro W hC; exact hC.2.2.1)); (case hu => exact Try.underlying53); (case hd => rfl); (case hi => kernel_rfl)) | (apply yieldsIf_load_mid (by kernel_rfl) _ _ rfl _ _ rfl; (case hS => (intro W hC; exact hC.2.2.2.1)); (case hu => exact Try.underlying53); (case hd => rfl); (case hi => kernel_rfl)) | (apply yieldsIf_load_mid (by kernel_rfl) _ _ rfl _ _ rfl; (case hS => (intro W hC; exact hC.2.2.2)); (case hu => exact Try.underlying53); (case hd => rfl); (case hi => kernel_rfl)) | (apply yieldsIf_load_mid (by kernel_rfl) _ _ rfl _ _ rfl; (case hS => (intro W hC; exact hC.2.2)); (case hu => exact Try.underlying53); (case hd => rfl); (case hi => kernel_rfl)) | (apply yieldsIf_load_mid (by kernel_rfl) _ _ rfl _ _ rfl; (case hS => (intro W hC; exact hC.2)); (case hu => exact Try.underlying53); (case hd => rfl); (case hi => kernel_rfl)) | (apply yieldsIf_load_mid (by kernel_rfl) _ _ rfl _ _ rfl; (case hS => (intro W hC; exact hC)); (case hu => exact Try.underlying53); (case hd => rfl); (case hi => kernel_rfl))
              case hC => exact HC
              case ha => (simp only [Act.put, List.setIfInBounds_toArray, List.set_cons_zero, List.set_cons_succ]; rfl)
              -- 1
              refine WZ.one (i := 1) rfl (by kernel_rfl) ?_
              conv => arg 4; arg 1; whnf
              go_wp2_with (go_at_call 23; go_loud (refine (effect_any X A a D d _).mono ?_); rintro e wg ⟨rfl, hb⟩; have HJ0 := HJ; clear HJ; have HJ := Lib.hid (HJ0.out.below hb); clear HJ0 hb)
              clear HC
              have HC := hcell _ HJ
              refine ⟨HC, ?_⟩
              -- 3
              refine WZ.one (i := 3) rfl (by kernel_rfl) ?_
              conv => arg 4; arg 1; whnf
              go_wp2_with (go_at_call 23; go_loud (refine (effect_any Y A' a' D' d' _).mono ?_); rintro e wh ⟨rfl, hb⟩; have HJ0 := HJ; clear HJ; have HJ := Lib.hid (HJ0.out.below hb); clear HJ0 hb)
              clear HC
              have HC := hcell _ HJ
              refine ⟨HC, ?_⟩
              -- 4
              refine WZ.one (i := 4) rfl (by kernel_rfl) ?_
              conv => arg 4; arg 1; whnf
              go_wp2_with (go_at_call 22; go_loud (refine (HJ.out.sameE HRL.out.1.2 HNN.out.1 HNN.out.2 HRL.out.2.1).mono ?_); rintro e wi ⟨rfl, hb⟩; have HJ0 := HJ; clear HJ; have HJ := Lib.hid (HJ0.out.below hb); clear HJ0 hb)
              clear HC
              have HC := hcell _ HJ
              refine ⟨HC, ?_⟩
              apply WZ.take (i := 5) (some 104) rfl rfl (by kernel_rfl) (by kernel_rfl) (by kernel_rfl) (calm_panic _) (by kernel_rfl)
              case hy => (refine .inl ⟨by kernel_rfl, fun W hC => ?_⟩; (try dsimp only at hC); go_simp; rfl)
              case hC => exact HC
              case ha => (simp only [Act.put, List.setIfInBounds_toArray, List.set_cons_zero, List.set_cons_succ]; rfl)
              apply WZ.take (i := 6) (some 105) rfl rfl (by kernel_rfl) (by kernel_rfl) (by kernel_rfl) (calm_panic _) (by kernel_rfl)
              case hy => (refine .inl ⟨by kernel_rfl, fun W hC => ?_⟩; (try dsimp only at hC); go_simp; rfl)
              case hC => exact HC
              case ha => (simp only [Act.put, List.setIfInBounds_toArray, List.set_cons_zero, List.set_cons_succ]; rfl)
              apply WZ.take (i := 7) (some 106) rfl rfl (by kernel_rfl) (by kernel_rfl) (by kernel_rfl) (calm_panic _) (by kernel_rfl)
              case hy => (refine .inl ⟨by kernel_rfl, fun W hC => ?_⟩; (try dsimp only at hC); go_simp; rfl)
              case hC => exact HC
              case ha => (simp only [Act.put, List.setIfInBounds_toArray, List.set_cons_zero, List.set_cons_succ]; rfl)
              apply WZ.take (i := 8) (some 107) rfl rfl (by kernel_rfl) (by kernel_rfl) (by kernel_rfl) (calm_panic _) (by kernel_rfl)
              case hy => (refine .inl ⟨by kernel_rfl, fun W hC => ?_⟩; (try dsimp only at hC); go_simp; rfl)
              case hC => exact HC
              case ha => (simp only [Act.put, List.setIfInBounds_toArray, List.set_cons_zero, List.set_cons_succ]; rfl)
              apply WZ.take (i := 9) (some 108) rfl rfl (by kernel_rfl) (by kernel_rfl) (by kernel_rfl) (calm_panic _) (by kernel_rfl)
              case hy => (refine .inl ⟨by kernel_rfl, fun W hC => ?_⟩; (try dsimp only at hC); go_simp; rfl)
              case hC => exact HC
              case ha => (simp only [Act.put, List.setIfInBounds_toArray, List.set_cons_zero, List.set_cons_succ]; rfl)
              apply WZ.take (i := 10) (some 109) rfl rfl (by kernel_rfl) (by kernel_rfl) (by kernel_rfl) (calm_panic _) (by kernel_rfl)
              case hy => (refine .inl ⟨by kernel_rfl, fun W hC => ?_⟩; (try dsimp only at hC); go_simp; rfl)
              case hC => exact HC
              case ha => (simp only [Act.put, List.setIfInBounds_toArray, List.set_cons_zero, List.set_cons_succ]; rfl)
              -- 11
              refine WZ.one (i := 11) rfl (by kernel_rfl) ?_
              conv => arg 4; arg 1; whnf
              go_wp2_with (go_at_call 27; go_loud (refine (HJ.out.sameC HRL.out.1.2 HNN.out.1 HNN.out.2 HRL.out.2.1).mono ?_); rintro e wj ⟨rfl, hb⟩; have HJ0 := HJ; clear HJ; have HJ := Lib.hid (HJ0.out.below hb); clear HJ0 hb)
              clear HC
              have HC := hcell _ HJ
              refine ⟨HC, ?_⟩
              apply WZ.take (i := 12) (some 111) rfl rfl (by kernel_rfl) (by kernel_rfl) (by kernel_rfl) (calm_panic _) (by kernel_rfl)
              case hy => (refine .inl ⟨by kernel_rfl, fun W hC => ?_⟩; (try dsimp only at hC); go_simp; rfl)
              case hC => exact HC
              case ha => (simp only [Act.put, List.setIfInBounds_toArray, List.set_cons_zero, List.set_cons_succ]; rfl)
              apply WZ.take (i := 13) (some 112) rfl rfl (by kernel_rfl) (by kernel_rfl) (by kernel_rfl) (calm_panic _) (by kernel_rfl)
              case hy => (refine .inl ⟨by kernel_rfl, fun W hC => ?_⟩; (try dsimp only at hC); go_simp; rfl)
              case hC => exact HC
              case ha => (simp only [Act.put, List.setIfInBounds_toArray, List.set_cons_zero, List.set_cons_succ]; rfl)
              apply WZ.take (i := 14) (some 113) rfl rfl (by kernel_rfl) (by kernel_rfl) (by kernel_rfl) (calm_panic _) (by kernel_rfl)
              case hy => (refine .inl ⟨by kernel_rfl, fun W hC => ?_⟩; (try dsimp only at hC); go_simp; rfl)
              case hC => exact HC
              case ha => (simp only [Act.put, List.setIfInBounds_toArray, List.set_cons_zero, List.set_cons_succ]; rfl)
              apply WZ.take (i := 15) (some 114) rfl rfl (by kernel_rfl) (by kernel_rfl) (by kernel_rfl) (calm_panic _) (by kernel_rfl)
              case hy => (refine .inl ⟨by kernel_rfl, fun W hC => ?_⟩; (try dsimp only at hC); go_simp; rfl)
              case hC => exact HC
              case ha => (simp only [Act.put, List.setIfInBounds_toArray, List.set_cons_zero, List.set_cons_succ]; rfl)
              apply WZ.take (i := 16) (some 115) rfl rfl (by kernel_rfl) (by kernel_rfl) (by kernel_rfl) (calm_panic _) (by kernel_rfl)
              case hy => (refine .inl ⟨by kernel_rfl, fun W hC => ?_⟩; (try dsimp only at hC); go_simp; rfl)
              case hC => exact HC
              case ha => (simp only [Act.put, List.setIfInBounds_toArray, List.set_cons_zero, List.set_cons_succ]; rfl)
              apply WZ.take (i := 17) (some 116) rfl rfl (by kernel_rfl) (by kernel_rfl) (by kernel_rfl) (calm_panic _) (by kernel_rfl)
              case hy => (refine .inl ⟨by kernel_rfl, fun W hC => ?_⟩; (try dsimp only at hC); go_simp; rfl)
              case hC => exact HC
              case ha => (simp only [Act.put, List.setIfInBounds_toArray, List.set_cons_zero, List.set_cons_succ]; rfl)
              apply WZ.take (i := 18) (some 117) rfl rfl (by kernel_rfl) (by kernel_rfl) (by kernel_rfl) (calm_panic _) (by kernel_rfl)
              case hy => (refine .inl ⟨by kernel_rfl, fun W hC => ?_⟩; (try dsimp only at hC); go_simp; rfl)
              case hC => exact HC
              case ha => (simp only [Act.put, List.setIfInBounds_toArray, List.set_cons_zero, List.set_cons_succ]; rfl)
              apply WZ.take (i := 19) (some 118) rfl rfl (by kernel_rfl) (by kernel_rfl) (by kernel_rfl) (calm_panic _) (by kernel_rfl)
              case hy => (refine .inl ⟨by kernel_rfl, fun W hC => ?_⟩; (try dsimp only at hC); go_simp; rfl)
              case hC => exact HC
              case ha => (simp only [Act.put, List.setIfInBounds_toArray, List.set_cons_zero, List.set_cons_succ]; rfl)
              apply WZ.take (i := 20) (some 119) rfl rfl (by kernel_rfl) (by kernel_rfl) (by kernel_rfl) (calm_panic _) (by kernel_rfl)
              case hy => (refine .inl ⟨by kernel_rfl, fun W hC => ?_⟩; (try dsimp only at hC); go_simp; rfl)
              case hC => exact HC
              case ha => (simp only [Act.put, List.setIfInBounds_toArray, List.set_cons_zero, List.set_cons_succ]; rfl)
              apply WZ.take (i := 21) (some 120) rfl rfl (by kernel_rfl) (by kernel_rfl) (by kernel_rfl) (calm_panic _) (by kernel_rfl)
              case hy => (refine .inl ⟨by kernel_rfl, fun W hC => ?_⟩; (try dsimp only at hC); go_simp; rfl)
              case hC => exact HC
              case ha => (simp only [Act.put, List.setIfInBounds_toArray, List.set_cons_zero, List.set_cons_succ]; rfl)
              apply WZ.take (i := 22) (some 121) rfl rfl (by kernel_rfl) (by kernel_rfl) (by kernel_rfl) (calm_panic _) (by kernel_rfl)
              case hy => (refine .inl ⟨by kernel_rfl, fun W hC => ?_⟩; (try dsimp only at hC); go_simp; rfl)
              case hC => exact HC
              case ha => (simp only [Act.put, List.setIfInBounds_toArray, List.set_cons_zero, List.set_cons_succ]; rfl)
              apply WZ.take (i := 23) (some 122) rfl rfl (by kernel_rfl) (by kernel_rfl) (by kernel_rfl) (calm_panic _) (by kernel_rfl)
              case hy => (refine .inl ⟨by kernel_rfl, fun W hC => ?_⟩; (try dsimp only at hC); go_simp; rfl)
              case hC => exact HC
              case ha => (simp only [Act.put, List.setIfInBounds_toArray, List.set_cons_zero, List.set_cons_succ]; rfl)
              apply WZ.take (i := 24) (some 123) rfl rfl (by kernel_rfl) (by kernel_rfl) (by kernel_rfl) (calm_panic _) (by kernel_rfl)
              case hy => (refine .inl ⟨by kernel_rfl, fun W hC => ?_⟩; (try dsimp only at hC); go_simp; rfl)
              case hC => exact HC
              case ha => (simp only [Act.put, List.setIfInBounds_toArray, List.set_cons_zero, List.set_cons_succ]; rfl)
              apply WZ.take (i := 25) (some 124) rfl rfl (by kernel_rfl) (by kernel_rfl) (by kernel_rfl) (calm_panic _) (by kernel_rfl)
              case hy => (refine .inl ⟨by kernel_rfl, fun W hC => ?_⟩; (try dsimp only at hC); go_simp; rfl)
              case hC => exact HC
              case ha => (simp only [Act.put, List.setIfInBounds_toArray, List.set_cons_zero, List.set_cons_succ]; rfl)
              apply WZ.take (i := 26) (some 125) rfl rfl (by kernel_rfl) (by kernel_rfl) (by kernel_rfl) (calm_panic _) (by kernel_rfl)
              case hy => (refine .inl ⟨by kernel_rfl, fun W hC => ?_⟩; (try dsimp only at hC); go_simp; rfl)
              case hC => exact HC
              case ha => (simp only [Act.put, List.setIfInBounds_toArray, List.set_cons_zero, List.set_cons_succ]; rfl)
              apply WZ.take (i := 27) (some 126) rfl rfl (by kernel_rfl) (by kernel_rfl) (by kernel_rfl) (calm_panic _) (by kernel_rfl)
              case hy => (refine .inl ⟨by kernel_rfl, fun W hC => ?_⟩; (try dsimp only at hC); go_simp; rfl)
              case hC => exact HC
              case ha => (simp only [Act.put, List.setIfInBounds_toArray, List.set_cons_zero, List.set_cons_succ]; rfl)
              apply WZ.take (i := 28) (some 127) rfl rfl (by kernel_rfl) (by kernel_rfl) (by kernel_rfl) (calm_panic _) (by kernel_rfl)
              case hy => (refine .inl ⟨by kernel_rfl, fun W hC => ?_⟩; (try dsimp only at hC); go_simp; rfl)
              case hC => exact HC
              case ha => (simp only [Act.put, List.setIfInBounds_toArray, List.set_cons_zero, List.set_cons_succ]; rfl)
              apply WZ.take (i := 29) (some 128) rfl rfl (by kernel_rfl) (by kernel_rfl) (by kernel_rfl) (calm_panic _) (by kernel_rfl)
              case hy => (refine .inl ⟨by kernel_rfl, fun W hC => ?_⟩; (try dsimp only at hC); go_simp; rfl)
              case hC => exact HC
              case ha => (simp only [Act.put, List.setIfInBounds_toArray, List.set_cons_zero, List.set_cons_succ]; rfl)
              refine WZ.done (by kernel_rfl) ?_ _
              simp only [Calm, Exit.then]
              go_wp2_with (first
                | ((with_reducible show wpList _ _ _ ({ dst := some 129, op := Op.load _ _, type := _, pos := _, after := _, guard := _ } :: _) _ _); go_loud (refine wpList_load_mid rfl 47 (.tmp 10) rfl wa.heap.size 0 rfl (s'.vs xs') _ HJ.out.sv.bk.range Try.underlying47 rfl (by kernel_rfl) ?_))
                | ((with_reducible show wpList _ _ _ ({ dst := none, op := Op.store _ (Operand.tmp 5) _, type := _, pos := _, after := _, guard := _ } :: _) _ _); go_loud (refine wpList_store_mid rfl 47 (.tmp 5) (.tmp 129) rfl g 0 (s'.vs xs').toArray rfl rfl (HJ.out.al.sv.bk.there 5 (Nat.le_refl _)) (by kernel_rfl) (by simp [Value.oneCell', Sta.vs]) ?_); refine HJ.out.al.sv.bk.setW (s'.vs xs') rfl ?_; intro wk HTk HGk; have hgz := HJ.out.al.rv.bk.lt; have HBk := Lib.hid (HJ.out.rv.own HGk.out HNE.out HNd.out.1); have HCk := Lib.hid (HJ.out.al.rv.bk.grown HGk.out (fun e => by injection e; omega)))
                | ((with_reducible show wpList _ _ _ ({ dst := some 130, op := Op.load _ _, type := _, pos := _, after := _, guard := _ } :: _) _ _); go_loud (refine wpList_load_mid rfl 47 (.tmp 12) rfl wd.heap.size 0 rfl (r'.vs ys') _ HBk.out.bk.range Try.underlying47 rfl (by kernel_rfl) ?_))
                | ((with_reducible show wpList _ _ _ ({ dst := none, op := Op.store _ (Operand.tmp 6) _, type := _, pos := _, after := _, guard := _ } :: _) _ _); go_loud (refine wpList_store_mid rfl 47 (.tmp 6) (.tmp 130) rfl (g + 1) 0 (r'.vs ys').toArray rfl rfl (HCk.out.there 5 (Nat.le_refl _)) (by kernel_rfl) (by simp [Value.oneCell', Sta.vs]) ?_); refine HCk.out.setW (r'.vs ys') rfl ?_; intro wl HTl HGl))
              have hfin := HJ.out.al.next HRL.out.1.1 HRL.out.2.2.2.1 HRL.out.2.2.2.2 HJ.out.sv HJ.out.rv HNa.out.1 HNa.out.2 HNd.out.1 HNd.out.2 HGk.out HTk.out HGl.out HTl.out
              rw [show 3 * k + 2 + 1 = 3 * (k + 1) by omega] at hfin
              exact ⟨⟨k + 1, s', r', xs', ys', by first | rfl | go_num, by omega, Lib.hid hfin⟩, by simp [intOf]; omega⟩
    · have d1 : decide ((k : Int) < (N : Int)) = false := decide_eq_false (by omega)
      go_wp2
      go_ret
      exact ⟨rfl, HI.out.bl⟩
end Go.Proofs.Ytiiogdgnccgehaa
