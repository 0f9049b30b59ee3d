/-
  The walk of the law MergePasses. No conditions.
-/
import Derived.Test.YtflppcgonbjnmaaIts9
namespace Go.Proofs.Ytflppcgonbjnmaa
open Go.RowKit
attribute [local go_sem ↓] Go.wp_at_zero Go.wp_at_succ

theorem flatten_len {ps : List (List It)} {m : Nat} (h : ∀ p ∈ ps, p.length ≤ m) : ps.flatten.length ≤ ps.length * m := by
  induction ps with
  | nil => simp
  | cons p ps ih =>
    have h1 := h p (by simp)
    have h2 := ih fun q hq => h q (by simp [hq])
    rw [List.flatten_cons, List.length_append, List.length_cons, Nat.add_mul]
    omega
theorem OLists.lower {e : TypeId} {w : World} {base base' : Nat} {vs : List Value} {ps : List (List It)} (h : OLists e w base vs ps) (hb : base' ≤ base) : OLists e w base' vs ps := ⟨h.1, fun i hi hi' => by
  obtain ⟨A, c, e, ho⟩ := h.2 i hi hi'
  exact ⟨A, c, e, ho.lower hb⟩⟩
theorem groupP_len (L : List (List It)) : (groupP L).length ≤ L.flatten.length := by
  unfold groupP
  split
  · exact resolve_len _
  · exact Nat.zero_le _
def smallR (r : List It) : Prop := bnd (r.map (·.c)) = true ∧ r.length ≤ 20
set_option maxRecDepth 20000 in
set_option maxHeartbeats 8000000 in
theorem mergePasses_any (A : Option Addr) (c : Nat) (L : List (List It)) (m : Int) (w : World) (hl : LRd w w.heap.size A L) (hcap : L.length ≤ c) (hlen : L.length ≤ maxLen) (hsz : ∀ r ∈ L, r.length ≤ 1759218604441) (hm2 : m ≤ 9223372036854775807) :
    Calls Try.prog 4 #[.slice A L.length c, .int .i64 m] w fun e w' => e = .returned (.bool true) ∧ Below w.heap.size w w' := by
  unfold maxLen at hlen
  have HL := Lib.hid hl
  obtain ⟨N, hN⟩ : ∃ N, L.length = N := ⟨_, rfl⟩
  have HN := Lib.hid hN
  have HSZ := Lib.hid hsz
  rw [hN] at hlen hcap ⊢
  clear hl hN hsz
  by_cases h20 : 20 < N
  · have e1 : decide ((20 : Int) < (N : Int)) = true := decide_eq_true (by omega)
    have e2 : decide (20 < N) = true := decide_eq_true h20
    go_enter Try.func4, Try.ntmps4
    go_wp2_with (go_at_call 9; refine (shown_any _).mono ?_; rintro e w2 ⟨rfl, hb2⟩)
    go_ret
    exact ⟨rfl, hb2⟩
  · have e1 : decide ((20 : Int) < (N : Int)) = false := decide_eq_false (by omega)
    have e2 : decide (20 < N) = false := decide_eq_false h20
    go_enter Try.func4, Try.ntmps4
    go_wp2_with (go_at_call 9; refine (shown_any _).mono ?_; rintro e w1 ⟨rfl, hb1⟩; have HB1 := Lib.hid hb1; clear hb1)
    go_loopw [5] (fun vi wr => ∃ k : Nat, k ≤ N ∧ vi = .int .i64 (k : Int) ∧ Hid (okTo smallR L k) ∧ Hid (Below w.heap.size w wr)) (fun vi _ => N - (intOf vi).toNat)
    case atStart => exact ⟨0, Nat.zero_le _, rfl, Lib.hid (okTo_zero _ _), HB1⟩
    case round =>
      clear HB1
      obtain ⟨k, hk, rfl, HU, HB⟩ := hrel
      by_cases hlt : k < N
      · have hkl : k < L.length := by rw [HN.out]; exact hlt
        have e3 : decide ((k : Int) < (N : Int)) = true := decide_eq_true (by omega)
        have k1 : (0 : Int) ≤ (k : Int) := by omega
        have k2 : (k : Int) < (N : Int) := by omega
        have hw3 : IntKind.i64.wrap ((k : Int) + 1) = ((k + 1 : Nat) : Int) := by rw [IntWalk.i64_in _ (by omega)]; omega
        obtain ⟨b, o, A', c', rfl, hb, hc, hc', hr⟩ := (HL.out.below HB.out).get hkl
        have hbw := Nat.lt_of_lt_of_le hb HB.out.size
        have HR := Lib.hid (hr.more HB.out.size)
        have HSR := Lib.hid (HSZ.out _ (List.getElem_mem hkl))
        have HS2 := Lib.hid (fun h => okTo_succ (p := smallR) HU.out hkl h)
        obtain ⟨p, hp⟩ : ∃ p, L[k] = p := ⟨_, rfl⟩
        rw [hp] at HS2 hc HR HSR
        have hmc := mergeCells_any A' c' p wr HR.out HSR.out
        obtain ⟨n, hn⟩ : ∃ n, p.length = n := ⟨_, rfl⟩
        have hbd := fun (W : World) (A : Option Addr) (c : Nat) (h : Rd W W.heap.size A (vals (p.map (·.c)))) => bounded_any A c (p.map (·.c)) W W.heap.size h (by rw [List.length_map]; have := HSR.out; unfold maxLen; omega)
        rw [List.length_map] at hbd
        rw [hn] at hc hmc hbd
        have HMC := Lib.hid hmc
        have HBD := Lib.hid hbd
        have HNP := Lib.hid hn
        clear hp hn hc' hr hmc hbd
        cases hbb : bnd (p.map (·.c)) with
        | false =>
          rw [hbb] at HBD
          go_wp2_with (first
            | (go_at_call 8; refine (HBD.out w2 A2 c2 HO2.out).mono ?_; rintro e w2' ⟨rfl, rfl⟩)
            | (go_at_call 13; refine HMC.out.mono ?_; rintro e w2 ⟨A2, c2, rfl, ho2, hb2⟩; have HO2 := Lib.hid (ho2.rd (by omega)); have HB2 := Lib.hid (HB.out.trans (hb2.mono HB.out.size)); clear ho2 hb2)
            | (go_at_call 9; refine (shown_any _).mono ?_; rintro e w3 ⟨rfl, hb3⟩))
          go_ret
          exact ⟨rfl, HB2.out.trans (hb3.mono HB2.out.size)⟩
        | true =>
          rw [hbb] at HBD
          by_cases hn20 : 20 < n
          · have e4 : decide ((20 : Int) < (n : Int)) = true := decide_eq_true (by omega)
            have e5 : decide (20 < n) = true := decide_eq_true hn20
            go_wp2_with (first
              | (go_at_call 8; refine (HBD.out w2 A2 c2 HO2.out).mono ?_; rintro e w2' ⟨rfl, rfl⟩)
              | (go_at_call 13; refine HMC.out.mono ?_; rintro e w2 ⟨A2, c2, rfl, ho2, hb2⟩; have HO2 := Lib.hid (ho2.rd (by omega)); have HB2 := Lib.hid (HB.out.trans (hb2.mono HB.out.size)); have hc2 := (hb2.cell (p := ⟨b, o + k, none⟩) hbw).trans hc; clear ho2 hb2)
              | (go_at_call 9; refine (shown_any _).mono ?_; rintro e w3 ⟨rfl, hb3⟩))
            go_ret
            exact ⟨rfl, HB2.out.trans (hb3.mono HB2.out.size)⟩
          · have e4 : decide ((20 : Int) < (n : Int)) = false := decide_eq_false (by omega)
            have e5 : decide (20 < n) = false := decide_eq_false hn20
            have HF := Lib.hid (HS2.out ⟨hbb, by have := HNP.out; omega⟩)
            go_wp2_with (first
              | (go_at_call 8; refine (HBD.out w2 A2 c2 HO2.out).mono ?_; rintro e w2' ⟨rfl, rfl⟩)
              | (go_at_call 13; refine HMC.out.mono ?_; rintro e w2 ⟨A2, c2, rfl, ho2, hb2⟩; have HO2 := Lib.hid (ho2.rd (by omega)); have HB2 := Lib.hid (HB.out.trans (hb2.mono HB.out.size)); have hc2 := (hb2.cell (p := ⟨b, o + k, none⟩) hbw).trans hc; clear ho2 hb2))
            exact ⟨⟨k + 1, by omega, by first | rfl | go_num, HF, HB2⟩, by simp [intOf]; omega⟩
      · have e3 : decide ((k : Int) < (N : Int)) = false := decide_eq_false (by omega)
        have hall := okTo_end HU.out (by rw [HN.out]; omega)
        have hF := flatten_len (ps := L) (m := 20) fun r hr => (hall r hr).2
        rw [HN.out] at hF
        have HS20 := Lib.hid (fun r hr => (hall r hr).2)
        have hF4 : L.flatten.length ≤ 400 := by omega
        clear hall hF HU HSZ
        have hit := fun (W : World) h => its9_any A c L W h (by rw [HN.out]; omega) (fun r hr => by have := HS20.out r hr; omega)
        have hpa := fun (W : World) h => pass_gen A c L m W h (by rw [HN.out]; omega) (by omega) (by rw [HN.out]; exact hcap) hm2
        have hpr := fun (W : World) (A : Option Addr) (c : Nat) h (hc : N ≤ c) => refPass_gen A c L m W h (by rw [HN.out]; omega) (by omega) (by rw [HN.out]; exact hc) hm2
        have haa := fun (W : World) h => all_gen A c L m W h (by rw [HN.out]; omega) (by omega) (by rw [HN.out]; exact hcap) hm2
        have har := fun (W : World) (A : Option Addr) (c : Nat) h (hc : N ≤ c) => refAll_gen A c L m W h (by rw [HN.out]; omega) (by omega) (by rw [HN.out]; exact hc) hm2
        have hga := fun (W : World) h => group_any A c L W h (by rw [HN.out]; omega) (by omega)
        have hgr := fun (W : World) (A : Option Addr) (c : Nat) h => refGroup9_any A c L W h (by rw [HN.out]; omega) (by omega)
        have q1 := pmX_count m L
        have q2 := Nat.le_trans (pmX_flat m L) hF4
        have q3 := Nat.le_trans (amX_len m L) hF4
        have q4 := amN_le m L
        have q5 := Nat.le_trans (groupP_len L) hF4
        rw [HN.out] at hit hpa hpr haa har hga hgr q1 q4
        obtain ⟨Q, hQ⟩ : ∃ Q, pmX m L = Q := ⟨_, rfl⟩
        obtain ⟨X, hX⟩ : ∃ X, amX m L = X := ⟨_, rfl⟩
        obtain ⟨an, han⟩ : ∃ an, amN m L = an := ⟨_, rfl⟩
        obtain ⟨er, her⟩ : ∃ er, pmE m L = er := ⟨_, rfl⟩
        obtain ⟨G, hG⟩ : ∃ G, groupP L = G := ⟨_, rfl⟩
        rw [hQ, her] at hpa hpr
        rw [hX, han, her] at haa har
        rw [hG] at hga hgr
        rw [hQ] at q1 q2
        rw [hX] at q3
        rw [han] at q4
        rw [hG] at q5
        obtain ⟨P, hP⟩ : ∃ P, Q.length = P := ⟨_, rfl⟩
        obtain ⟨xn, hxn⟩ : ∃ xn, X.length = xn := ⟨_, rfl⟩
        obtain ⟨gn, hgn⟩ : ∃ gn, G.length = gn := ⟨_, rfl⟩
        have hix := fun (W : World) (A : Option Addr) (c : Nat) (h : Rd W W.heap.size A (its X)) => its_any A c X W h (by omega)
        have hig := fun (W : World) (A : Option Addr) (c : Nat) (h : Rd W W.heap.size A (its G)) => its_any A c G W h (by omega)
        have hsx := fun (W : World) (A B : Option Addr) (c d : Nat) (h : Rd W W.heap.size A (its X)) (k : Rd W W.heap.size B (its X)) => sameItems_any A B c d X X W _ h k (by omega) (by omega)
        have hsg := fun (W : World) (A B : Option Addr) (c d : Nat) (h : Rd W W.heap.size A (its G)) (k : Rd W W.heap.size B (its G)) => sameItems_any A B c d G G W _ h k (by omega) (by omega)
        rw [decide_eq_true (show X = X from rfl), hxn] at hsx
        rw [decide_eq_true (show G = G from rfl), hgn] at hsg
        rw [hP] at hpa hpr q1
        rw [hxn] at haa har hix q3
        rw [hgn] at hga hgr hig q5
        have HP := Lib.hid hP
        have HPL := Lib.hid (mem_flat_len q2)
        have HIT := Lib.hid hit
        have HPA := Lib.hid hpa
        have HPR := Lib.hid hpr
        have HAA := Lib.hid haa
        have HAR := Lib.hid har
        have HGA := Lib.hid hga
        have HGR := Lib.hid hgr
        have HIX := Lib.hid hix
        have HIG := Lib.hid hig
        have HSX := Lib.hid hsx
        have HSG := Lib.hid hsg
        have hPP : ((P : Int) != (P : Int)) = false := bne_self_eq_false _
        have hee : (er != er) = false := bne_self_eq_false _
        have hqq : ((an : Int) == (an : Int)) = true := beq_self_eq_true _
        have hrr : (er == er) = true := beq_self_eq_true _
        clear hit hpa hpr haa har hga hgr hix hig hsx hsg hP hQ hX han her hG hxn hgn q2 HS20 hF4 hlen
        go_wp2_with (first
          | (go_at_call 16; refine (HPR.out w2 A1 c1 HR2.out HC1.out).mono ?_; rintro e w3 ⟨Ab, cb, vb, rfl, hob, hpb, hb3⟩; have HBP := Lib.hid (And.intro (hob.lower HB2.out.size) (hpb.lower HB2.out.size)); have HAP := Lib.hid (And.intro (hoa.below hb3) (hpa.below hb3)); have HR3 := Lib.hid ((HR2.out.below hb3).more hb3.size); have HB3 := Lib.hid (HB2.out.trans (hb3.mono HB2.out.size)); clear hob hpb hoa hpa hb3)
          | (go_at_call 15; go_loud (refine (HPA.out w1 ((HL.out.below HB1.out).more HB1.out.size)).mono ?_; rintro e w2 ⟨Aa, ca, va, rfl, hoa, hpa, hb2⟩; have hoa := hoa.lower HB1.out.size; have hpa := hpa.lower HB1.out.size; have HR2 := Lib.hid ((HR1.out.below hb2).more hb2.size); have HB2 := Lib.hid (HB1.out.trans (hb2.mono HB1.out.size)); clear hb2))
          | (go_at_call 14; refine (HIT.out wr ((HL.out.below HB.out).more HB.out.size)).mono ?_; rintro e w1 ⟨A1, c1, v1, rfl, ho1, hi1, hb1⟩; have HC1 := Lib.hid ho1.cap; have HR1 := Lib.hid (hi1.lrd ho1).1; have HB1 := Lib.hid (HB.out.trans (hb1.mono HB.out.size)); clear ho1 hi1 hb1))
        go_loopw [11] (fun vi wr => ∃ i : Nat, i ≤ P ∧ vi = .int .i64 (i : Int) ∧ Hid (Below w3.heap.size w3 wr)) (fun vi _ => P - (intOf vi).toNat)
        case atStart => exact ⟨0, Nat.zero_le _, rfl, Lib.hid (Below.refl _ _)⟩
        case round =>
          obtain ⟨i, hi, rfl, HW⟩ := hrel
          rename World => wr
          by_cases hlt : i < P
          · obtain ⟨g, rfl, _, hg, hca⟩ := HAP.out.1.at_ (by omega)
            obtain ⟨g', rfl, _, hg', hcb⟩ := HBP.out.1.at_ (by omega)
            have la := HAP.out.2.1
            have lb := HBP.out.2.1
            have hPi : i < Q.length := by rw [HP.out]; exact hlt
            obtain ⟨A3, c3, e3, ho3⟩ := HAP.out.2.2 i (by omega) hPi
            obtain ⟨A4, c4, e4, ho4⟩ := HBP.out.2.2 i (by omega) hPi
            have h3 := (hca i (by omega)).1
            have h4 := (hcb i (by omega)).1
            rw [e3] at h3
            rw [e4] at h4
            have hpn := HPL.out Q[i] (List.getElem_mem _)
            obtain ⟨p, hp⟩ : ∃ p, Q[i] = p := ⟨_, rfl⟩
            rw [hp] at h3 h4 ho3 ho4 hpn
            have hits := fun (W : World) (A : Option Addr) (c : Nat) (h : Rd W W.heap.size A (its p)) => its_any A c p W h (by omega)
            have hsm := fun (W : World) (A B : Option Addr) (c d : Nat) (h : Rd W W.heap.size A (its p)) (k : Rd W W.heap.size B (its p)) => sameItems_any A B c d p p W _ h k (by omega) (by omega)
            rw [decide_eq_true (show p = p from rfl)] at hsm
            obtain ⟨n3, hn3⟩ : ∃ n3, p.length = n3 := ⟨_, rfl⟩
            rw [hn3] at h3 h4 ho3 ho4 hits hsm
            have e1 : decide ((i : Int) < (P : Int)) = true := decide_eq_true (by omega)
            have k1 : (0 : Int) ≤ (i : Int) := by omega
            have k2 : (i : Int) < (P : Int) := by omega
            have hw3 : IntKind.i64.wrap ((i : Int) + 1) = ((i + 1 : Nat) : Int) := by rw [IntWalk.i64_in _ (by omega)]; omega
            have hCC : ∀ W W', Below W.heap.size W W' → (fun W' => W'.cell? ⟨g, i, none⟩ = some (.slice A3 n3 c3) ∧ W'.cell? ⟨g', i, none⟩ = some (.slice A4 n3 c4) ∧ Own W' w.heap.size 59 7 A3 n3 c3 (its p) ∧ Own W' w.heap.size 56 7 A4 n3 c4 (its p) ∧ Below w3.heap.size w3 W') W → (fun W' => W'.cell? ⟨g, i, none⟩ = some (.slice A3 n3 c3) ∧ W'.cell? ⟨g', i, none⟩ = some (.slice A4 n3 c4) ∧ Own W' w.heap.size 59 7 A3 n3 c3 (its p) ∧ Own W' w.heap.size 56 7 A4 n3 c4 (its p) ∧ Below w3.heap.size w3 W') W' := by
              rintro W W' hb ⟨h1, h2, h3, h4, h5⟩
              exact ⟨(hb.cell (p := ⟨g, i, none⟩) (Nat.lt_of_lt_of_le hg h5.size)).trans h1, (hb.cell (p := ⟨g', i, none⟩) (Nat.lt_of_lt_of_le hg' h5.size)).trans h2, h3.below hb, h4.below hb, h5.trans (hb.mono h5.size)⟩
            have HC := hCC _ _ ((Below.refl wr.heap.size wr).drew) ⟨(HW.out.cell (p := ⟨g, i, none⟩) hg).trans h3, (HW.out.cell (p := ⟨g', i, none⟩) hg').trans h4, ho3.below HW.out, ho4.below HW.out, HW.out⟩
            clear h3 h4 ho3 ho4 hca hcb la lb e3 e4 hp hn3
            go_wp2
            refine region_wz (fun W' => W'.cell? ⟨g, i, none⟩ = some (.slice A3 n3 c3) ∧ W'.cell? ⟨g', i, none⟩ = some (.slice A4 n3 c4) ∧ Own W' w.heap.size 59 7 A3 n3 c3 (its p) ∧ Own W' w.heap.size 56 7 A4 n3 c4 (its p) ∧ Below w3.heap.size w3 W') none (by kernel_rfl) ?_
            apply WZ.take (i := 0) (some 78) rfl rfl (by kernel_rfl) (by kernel_rfl) (by kernel_rfl) (calm_panic _) (by kernel_rfl)
            case hy => (refine .inl ⟨by kernel_rfl, fun W hC => ?_⟩; (try dsimp only at hC); go_simp; rfl)
            case hC => exact HC
            case ha => (simp only [Act.put, List.setIfInBounds_toArray, List.set_cons_zero, List.set_cons_succ]; rfl)
            apply WZ.take (i := 1) (some 79) rfl rfl (by kernel_rfl) (by kernel_rfl) (by kernel_rfl) (calm_panic _) (by kernel_rfl)
            case hy => (refine .inl ⟨by kernel_rfl, fun W hC => ?_⟩; (try dsimp only at hC); go_simp; rfl)
            case hC => exact HC
            case ha => (simp only [Act.put, List.setIfInBounds_toArray, List.set_cons_zero, List.set_cons_succ]; rfl)
            apply WZ.take (i := 2) (some 80) rfl rfl (by kernel_rfl) (by kernel_rfl) (by kernel_rfl) (calm_panic _) (by kernel_rfl)
            case hy => (refine .inl ⟨by kernel_rfl, fun W hC => ?_⟩; (try dsimp only at hC); go_simp; rfl)
            case hC => exact HC
            case ha => (simp only [Act.put, List.setIfInBounds_toArray, List.set_cons_zero, List.set_cons_succ]; rfl)
            apply WZ.take (i := 3) (some 81) rfl rfl (by kernel_rfl) (by kernel_rfl) (by kernel_rfl) (calm_panic _) (by kernel_rfl)
            case hy => (refine .inl ⟨by kernel_rfl, fun W hC => ?_⟩; (try dsimp only at hC); go_simp; rfl)
            case hC => exact HC
            case ha => (simp only [Act.put, List.setIfInBounds_toArray, List.set_cons_zero, List.set_cons_succ]; rfl)
            apply WZ.take (i := 5) (some 83) rfl rfl (by kernel_rfl) (by kernel_rfl) (by kernel_rfl) (calm_panic _) (by kernel_rfl)
            case hy => (refine .inl ⟨by kernel_rfl, fun W hC => ?_⟩; (try dsimp only at hC); go_simp; rfl)
            case hC => exact HC
            case ha => (simp only [Act.put, List.setIfInBounds_toArray, List.set_cons_zero, List.set_cons_succ]; rfl)
            apply WZ.take (i := 6) (some 84) rfl rfl (by kernel_rfl) (by kernel_rfl) (by kernel_rfl) (calm_panic _) (by kernel_rfl)
            case hy => (refine .inl ⟨by kernel_rfl, fun W hC => ?_⟩; (try dsimp only at hC); go_simp; rfl)
            case hC => exact HC
            case ha => (simp only [Act.put, List.setIfInBounds_toArray, List.set_cons_zero, List.set_cons_succ]; rfl)
            apply WZ.take (i := 7) (some 85) rfl rfl (by kernel_rfl) (by kernel_rfl) (by kernel_rfl) (calm_panic _) (by kernel_rfl)
            case hy => (refine .inl ⟨by kernel_rfl, fun W hC => ?_⟩; (try dsimp only at hC); go_simp; rfl)
            case hC => exact HC
            case ha => (simp only [Act.put, List.setIfInBounds_toArray, List.set_cons_zero, List.set_cons_succ]; rfl)
            apply WZ.take (i := 8) (some 86) rfl rfl (by kernel_rfl) (by kernel_rfl) (by kernel_rfl) (calm_panic _) (by kernel_rfl)
            case hy => (refine .inl ⟨by kernel_rfl, fun W hC => ?_⟩; (try dsimp only at hC); go_simp; rfl)
            case hC => exact HC
            case ha => (simp only [Act.put, List.setIfInBounds_toArray, List.set_cons_zero, List.set_cons_succ]; rfl)
            -- 4
            refine WZ.one (i := 4) rfl (by kernel_rfl) ?_
            conv => arg 4; arg 1; whnf
            go_wp2_with (go_at_call 18; refine (hits _ A3 c3 (HC.2.2.1.rd (by omega))).mono ?_; rintro e w8 ⟨A8, c8, rfl, ho8, hb8⟩; have HC' := hCC _ _ hb8 HC)
            clear HC
            have HC := HC'
            clear HC' hb8
            refine ⟨HC, ?_⟩
            -- 9
            refine WZ.one (i := 9) rfl (by kernel_rfl) ?_
            conv => arg 4; arg 1; whnf
            go_wp2_with (go_at_call 17; refine (hsm _ A8 A4 c8 c4 (ho8.rd (by omega)) (HC.2.2.2.1.rd (by omega))).mono ?_; rintro e w9 ⟨rfl, hb9⟩; have HC' := hCC _ _ hb9 HC)
            clear HC ho8
            have HC := HC'
            clear HC' hb9
            refine ⟨HC, ?_⟩
            apply WZ.take (i := 10) (some 88) rfl rfl (by kernel_rfl) (by kernel_rfl) (by kernel_rfl) (calm_panic _) (by kernel_rfl)
            case hy => (refine .inl ⟨by kernel_rfl, fun W hC => ?_⟩; (try dsimp only at hC); go_simp; rfl)
            case hC => exact HC
            case ha => (simp only [Act.put, List.setIfInBounds_toArray, List.set_cons_zero, List.set_cons_succ]; rfl)
            refine WZ.done (by kernel_rfl) ?_ _
            simp only [Calm, Exit.then]
            go_wp2
            exact ⟨⟨i + 1, by omega, by first | rfl | go_num, Lib.hid HC.2.2.2.2⟩, by simp [intOf]; omega⟩
          · have e1 : decide ((i : Int) < (P : Int)) = false := decide_eq_false (by omega)
            have HWW := Lib.hid (HB3.out.trans (HW.out.mono HB3.out.size))
            have HRW := Lib.hid ((HR3.out.below HW.out).more HW.out.size)
            clear HAP HBP HB HB1 HB2 HR1 HR2 HIT HPA HPR
            go_wp2_with fail
            go_at_call 19
            refine (HAA.out wr ((HL.out.below HWW.out).more HWW.out.size)).mono ?_
            rintro e w5 ⟨A5, c5, rfl, hr5, hb5⟩
            have HB5 := Lib.hid (HWW.out.trans (hb5.mono HWW.out.size))
            have HR5 := Lib.hid ((HRW.out.below hb5).more hb5.size)
            clear hb5 HAA
            go_wp2_with fail
            go_at_call 20
            refine (HAR.out w5 A1 c1 HR5.out HC1.out).mono ?_
            rintro e w6 ⟨A6, c6, rfl, hr6, hb6⟩
            have HX5 := Lib.hid ((hr5.below hb6).more hb6.size)
            have HX6 := Lib.hid hr6
            have HB6 := Lib.hid (HB5.out.trans (hb6.mono HB5.out.size))
            have HR6 := Lib.hid ((HR5.out.below hb6).more hb6.size)
            clear hb6 HAR hr5 hr6
            go_wp2_with fail
            go_at_call 18
            refine (HIX.out w6 A5 c5 HX5.out).mono ?_
            rintro e w7 ⟨A7, c7, rfl, ho7, hb7⟩
            have HX7 := Lib.hid (ho7.rd (by omega))
            have HX6' := Lib.hid ((HX6.out.below hb7).more hb7.size)
            have HB7 := Lib.hid (HB6.out.trans (hb7.mono HB6.out.size))
            have HR7 := Lib.hid ((HR6.out.below hb7).more hb7.size)
            clear hb7 HIX ho7 HX6
            go_wp2_with fail
            go_at_call 17
            refine (HSX.out w7 A7 A6 c7 c6 HX7.out HX6'.out).mono ?_
            rintro e w8 ⟨rfl, hb8⟩
            have HB8 := Lib.hid (HB7.out.trans (hb8.mono HB7.out.size))
            have HR8 := Lib.hid ((HR7.out.below hb8).more hb8.size)
            clear hb8 HSX
            go_wp2_with fail
            go_at_call 21
            refine (HGA.out w8 ((HL.out.below HB8.out).more HB8.out.size)).mono ?_
            rintro e w9 ⟨A9, c9, rfl, ho9, hb9⟩
            have HB9 := Lib.hid (HB8.out.trans (hb9.mono HB8.out.size))
            have HR9 := Lib.hid ((HR8.out.below hb9).more hb9.size)
            have HG9 := Lib.hid (ho9.rd (by omega))
            clear hb9 ho9 HGA
            go_wp2_with fail
            go_at_call 18
            refine (HIG.out w9 A9 c9 HG9.out).mono ?_
            rintro e wa ⟨Aa2, ca2, rfl, hoa, hba⟩
            have HBa := Lib.hid (HB9.out.trans (hba.mono HB9.out.size))
            have HRa := Lib.hid ((HR9.out.below hba).more hba.size)
            have HGa := Lib.hid (hoa.rd (by omega))
            clear hba hoa HIG
            go_wp2_with fail
            go_at_call 22
            refine (HGR.out wa A1 c1 HRa.out).mono ?_
            rintro e wb ⟨Ab2, cb2, rfl, hob, hbb⟩
            have HBb := Lib.hid (HBa.out.trans (hbb.mono HBa.out.size))
            have HGb := Lib.hid (hob.rd (by omega))
            have HGa' := Lib.hid ((HGa.out.below hbb).more hbb.size)
            clear hbb hob HGR
            go_wp2_with fail
            go_at_call 17
            refine (HSG.out wb Aa2 Ab2 ca2 cb2 HGa'.out HGb.out).mono ?_
            rintro e wc ⟨rfl, hbc⟩
            go_wp2_with fail
            go_ret
            exact ⟨rfl, HBb.out.trans (hbc.mono HBb.out.size)⟩
end Go.Proofs.Ytflppcgonbjnmaa
